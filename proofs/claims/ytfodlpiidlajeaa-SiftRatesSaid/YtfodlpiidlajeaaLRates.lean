/- The statement SiftRates: for any three numbers and any two fractions the law returns true and its arguments read as they did. No condition. -/
import Derived.Test.YtfodlpiidlajeaaOpen
import Derived.Test.YtfodlpiidlajeaaKnown
import Derived.Test.YtfodlpiidlajeaaRefM
import Derived.Laws.StructEq
namespace Go.Proofs.Ytfodlpiidlajeaa.siftRates
open Go.ChangeShapes Go.WideShapes Go.ChangeAt Go.RowKit Go.Deep Go.Joins
set_option linter.unusedVariables false
set_option linter.unusedSimpArgs false

theorem dec_u32 {H : Type} {en : TypeId × Value → H} {w : World} {base : Nat} {spare : Nat → Bool} {held : Bool} {n : Nat} {cs : List Value} {y : DataW H × List MemPlace} (h : DataW.trod en Try.prog w base spare held n 131 cs = some y) : ∃ x : Nat, cs = enc32 x ∧ x < 4294967296 := by
  obtain ⟨x, rfl, _, hw⟩ := DataW.trod_int Try.underlying131 h
  have hb := bounds_u32 hw
  exact ⟨x.toNat, by unfold enc32; rw [show ((x.toNat : Nat) : Int) = x from by omega], by omega⟩

@[go_sem] theorem eqEst (a b c d e : Int) (w : World) : (Op.equalIn 10000 69 (.agg #[.int .i64 a, .int .i64 b, .int .i64 c, .int .i64 d, .int .i64 e]) (.agg #[.int .i64 a, .int .i64 b, .int .i64 c, .int .i64 d, .int .i64 e])).run Try.prog w = .ok true w := by
  have u3 := Try.underlying3
  have hS : Try.prog.underlying 69 = some (.struct (Try.prog.fieldsOf 69)) := by kernel_rfl
  rw [show (10000 : Nat) = 9999 + 1 from rfl, run_equalIn_agg w 9999 69 _ _ hS (by kernel_rfl)]
  simp only [Program.fieldsOf, Try.underlying69]
  go_simp
theorem rateV_form (t s n : Int) (f : Frc) : ∃ a b c d e : Int, rateV t s n f = .agg #[.int .i64 a, .int .i64 b, .int .i64 c, .int .i64 d, .int .i64 e] := by
  unfold rateV zero5
  split
  · exact ⟨_, _, _, _, _, rfl⟩
  · exact ⟨_, _, _, _, _, rfl⟩
set_option maxHeartbeats 400000 in
theorem few_any (t : Int) (w : World) : Calls Try.prog 44 #[.int .i64 t] w fun e w' => e = .returned (.bool (decide (t ≤ 60 ∨ 512 < t))) ∧ w = w' := by
  go_enter Try.func44, Try.ntmps44
  go_wp2
  all_goals (go_ret; exact ⟨ret_bool (by first | (rw [Bool.eq_iff_iff]; simp; omega) | (rw [Bool.eq_iff_iff]; simp; done) | (simp; omega) | (simp; done) | rfl), rfl⟩)

set_option maxRecDepth 100000 in
set_option maxHeartbeats 4000000 in
theorem main (t s n : Int) (f g : Frc) (w : World) (hf : f.In w) (hg : g.In w) :
    Calls Try.prog 11 #[.agg #[.int .i64 t, .int .i64 s, .int .i64 n], .agg #[.slice f.A f.l.length f.c, .slice f.C f.m.length f.d], .agg #[.slice g.A g.l.length g.c, .slice g.C g.m.length g.d]] w fun e w' => e = .returned (.bool true) ∧ Below w.heap.size w w' := by
  have hb0 := below_alloc (below_alloc (below_alloc (Below.refl w.heap.size w) (.cells #[.int .i64 t, .int .i64 s, .int .i64 n] 81)) (.cells #[.slice f.A f.l.length f.c, .slice f.C f.m.length f.d] 77)) (.cells #[.slice g.A g.l.length g.c, .slice g.C g.m.length g.d] 77)
  obtain ⟨b, hb⟩ : ∃ b, decide (t ≤ 60 ∨ 512 < t) = b := ⟨_, rfl⟩
  obtain ⟨ea, eb, ec, ed, ee, hE⟩ := rateV_form t s n f
  cases b
  · go_enter Try.func11, Try.ntmps11
    go_wp2_with (first | (go_at_call 44; refine (few_any _ _).mono ?_; rintro e w' ⟨rfl, rfl⟩; rw [hb]) | (go_at_call 15; refine (known_any _).mono ?_; rintro e w2 ⟨rfl, hb2⟩))
    go_ret
    exact ⟨rfl, below_trans hb0 hb2⟩
  · go_enter Try.func11, Try.ntmps11
    go_wp2_with (first | (go_at_call 44; refine (few_any _ _).mono ?_; rintro e w' ⟨rfl, rfl⟩; rw [hb]) | (go_at_call 15; refine (known_any _).mono ?_; rintro e w2 ⟨rfl, hb2⟩))
    · go_ret
      exact ⟨rfl, below_trans hb0 hb2⟩
    · have cR := Rate_any t s n f _ (hf.on hb0)
      unfold Frc.val at cR
      rw [hE] at cR
      refine cR.mono ?_
      rintro e w3 ⟨rfl, hb3⟩
      have q3 := below_alloc (below_trans hb0 hb3) (.cells #[.int .i64 ea, .int .i64 eb, .int .i64 ec, .int .i64 ed, .int .i64 ee] 69)
      have k0 : w3.cell? ⟨w.heap.size, 0, none⟩ = some (.int .i64 t) := bel_cell hb3 (by go_simp)
      have k1 : w3.cell? ⟨w.heap.size, 1, none⟩ = some (.int .i64 s) := bel_cell hb3 (by go_simp)
      have k2 : w3.cell? ⟨w.heap.size, 2, none⟩ = some (.int .i64 n) := bel_cell hb3 (by go_simp)
      have k3 : w3.cell? ⟨w.heap.size + 1, 0, none⟩ = some (.slice f.A f.l.length f.c) := bel_cell hb3 (by go_simp)
      have k4 : w3.cell? ⟨w.heap.size + 1, 1, none⟩ = some (.slice f.C f.m.length f.d) := bel_cell hb3 (by go_simp)
      have k5 : w3.cell? ⟨w.heap.size + 1 + 1, 0, none⟩ = some (.slice g.A g.l.length g.c) := bel_cell hb3 (by go_simp)
      have k6 : w3.cell? ⟨w.heap.size + 1 + 1, 1, none⟩ = some (.slice g.C g.m.length g.d) := bel_cell hb3 (by go_simp)
      have sz3 : w.heap.size + 1 + 1 < w3.heap.size := by have := hb3.size; simp at this; omega
      have sz0 : w.heap.size < w3.heap.size := by omega
      have sz1 : w.heap.size + 1 < w3.heap.size := by omega
      clear cR
      go_wp2_with fail
      have cR2 := rRate_any t s n f _ (hf.on q3)
      unfold Frc.val at cR2
      rw [hE] at cR2
      refine cR2.mono ?_
      rintro e w4 ⟨rfl, hb4⟩
      have q4 := below_trans q3 hb4
      have al := fun {a : Addr} {v : Value} (h : w3.cell? a = some v) => bel_cell hb4 (cell_al h (.cells #[.int .i64 ea, .int .i64 eb, .int .i64 ec, .int .i64 ed, .int .i64 ee] 69))
      have m1 := later_alloc (al k1) (.cells #[.int .i64 ea, .int .i64 eb, .int .i64 ec, .int .i64 ed, .int .i64 ee] 69)
      have m2 := later_alloc (al k2) (.cells #[.int .i64 ea, .int .i64 eb, .int .i64 ec, .int .i64 ed, .int .i64 ee] 69)
      have m5 := later_alloc (al k5) (.cells #[.int .i64 ea, .int .i64 eb, .int .i64 ec, .int .i64 ed, .int .i64 ee] 69)
      have m6 := later_alloc (al k6) (.cells #[.int .i64 ea, .int .i64 eb, .int .i64 ec, .int .i64 ed, .int .i64 ee] 69)
      have a0 := later_alloc (blk_new hb4 rfl (j := 0) rfl).1 (.cells #[.int .i64 ea, .int .i64 eb, .int .i64 ec, .int .i64 ed, .int .i64 ee] 69)
      have a1 := later_alloc (blk_new hb4 rfl (j := 1) rfl).1 (.cells #[.int .i64 ea, .int .i64 eb, .int .i64 ec, .int .i64 ed, .int .i64 ee] 69)
      have a2 := later_alloc (blk_new hb4 rfl (j := 2) rfl).1 (.cells #[.int .i64 ea, .int .i64 eb, .int .i64 ec, .int .i64 ed, .int .i64 ee] 69)
      have a3 := later_alloc (blk_new hb4 rfl (j := 3) rfl).1 (.cells #[.int .i64 ea, .int .i64 eb, .int .i64 ec, .int .i64 ed, .int .i64 ee] 69)
      have a4 := later_alloc (blk_new hb4 rfl (j := 4) rfl).1 (.cells #[.int .i64 ea, .int .i64 eb, .int .i64 ec, .int .i64 ed, .int .i64 ee] 69)
      have e0 := later_new (w := w4) (T := 69) (cs := #[.int .i64 ea, .int .i64 eb, .int .i64 ec, .int .i64 ed, .int .i64 ee]) (j := 0) rfl
      have e1 := later_new (w := w4) (T := 69) (cs := #[.int .i64 ea, .int .i64 eb, .int .i64 ec, .int .i64 ed, .int .i64 ee]) (j := 1) rfl
      have e2 := later_new (w := w4) (T := 69) (cs := #[.int .i64 ea, .int .i64 eb, .int .i64 ec, .int .i64 ed, .int .i64 ee]) (j := 2) rfl
      have e3 := later_new (w := w4) (T := 69) (cs := #[.int .i64 ea, .int .i64 eb, .int .i64 ec, .int .i64 ed, .int .i64 ee]) (j := 3) rfl
      have e4 := later_new (w := w4) (T := 69) (cs := #[.int .i64 ea, .int .i64 eb, .int .i64 ec, .int .i64 ed, .int .i64 ee]) (j := 4) rfl
      have q5 := below_alloc q4 (.cells #[.int .i64 ea, .int .i64 eb, .int .i64 ec, .int .i64 ed, .int .i64 ee] 69)
      have cJ := fun (x : Later (w4.alloc (.cells #[.int .i64 ea, .int .i64 eb, .int .i64 ec, .int .i64 ed, .int .i64 ee] 69))) => calls_later (Judge_any s n g x.w (hg.on (below_trans q5 x.2)))
      have cK := fun (x : Later (w4.alloc (.cells #[.int .i64 ea, .int .i64 eb, .int .i64 ec, .int .i64 ed, .int .i64 ee] 69))) => calls_later (rJudge_any s n g x.w (hg.on (below_trans q5 x.2)))
      unfold Frc.val at cJ cK
      clear cR2 al k0 k1 k2 k3 k4 k5 k6
      go_wp2_with fail
      refine wp_region_later (by kernel_rfl) (by kernel_rfl) ?_
      repeat (go_big_quiet_step ((first | (go_at_call 46; exact cJ _) | (go_at_call 47; exact cK _) | (go_at_call 15; exact calls_later (known_any _)))))
      refine wpQuiet_nil ?_
      rintro w9 ⟨⟨_, hb9⟩, rfl⟩
      go_wp2_with fail
      go_ret
      exact ⟨rfl, below_trans q5 hb9⟩

theorem walk (t s n : Int) (A1 : Option Addr) (c1 : Nat) (l1 : List Nat) (A2 : Option Addr) (c2 : Nat) (l2 : List Nat) (A3 : Option Addr) (c3 : Nat) (l3 : List Nat) (A4 : Option Addr) (c4 : Nat) (l4 : List Nat) (w : World)
    (_ : (Lit.int .i64 t).wf = true) (_ : (Lit.int .i64 s).wf = true) (_ : (Lit.int .i64 n).wf = true)
    (h1 : Arr 1 enc32 w w.heap.size A1 l1) (hl1 : l1.length ≤ c1) (hm1 : c1 ≤ maxLen) (hz1 : A1 = none → c1 = 0) (ho1 : ∀ x ∈ l1, x < 4294967296)
    (h2 : Arr 1 enc32 w w.heap.size A2 l2) (hl2 : l2.length ≤ c2) (hm2 : c2 ≤ maxLen) (hz2 : A2 = none → c2 = 0) (ho2 : ∀ x ∈ l2, x < 4294967296)
    (h3 : Arr 1 enc32 w w.heap.size A3 l3) (hl3 : l3.length ≤ c3) (hm3 : c3 ≤ maxLen) (hz3 : A3 = none → c3 = 0) (ho3 : ∀ x ∈ l3, x < 4294967296)
    (h4 : Arr 1 enc32 w w.heap.size A4 l4) (hl4 : l4.length ≤ c4) (hm4 : c4 ≤ maxLen) (hz4 : A4 = none → c4 = 0) (ho4 : ∀ x ∈ l4, x < 4294967296) :
    Calls Try.prog 11 #[.agg #[.int .i64 t, .int .i64 s, .int .i64 n], .agg #[.slice A1 l1.length c1, .slice A2 l2.length c2], .agg #[.slice A3 l3.length c3, .slice A4 l4.length c4]] w fun e w' => e = .returned (.bool true) ∧ Below w.heap.size w w' :=
  main t s n ⟨A1, c1, l1, A2, c2, l2⟩ ⟨A3, c3, l3, A4, c4, l4⟩ w ⟨⟨h1, hl1, hm1, ho1, hz1⟩, ⟨h2, hl2, hm2, ho2, hz2⟩⟩ ⟨⟨h3, hl3, hm3, ho3, hz3⟩, ⟨h4, hl4, hm4, ho4, hz4⟩⟩

theorem own : ownKnob Try.prog.godebug = none := by kernel_rfl
theorem laidOut : laidOutB Try.prog = true := by kernel_rfl

set_option maxRecDepth 100000 in
theorem lifted (os : Os) (started : os.Started) (H : Type) (enc : TypeId × Value → H) :
    ReturnsInHanded {} Try.checked os 11 .any (Rows.siftRatesSpec.pre6 enc Try.prog Try.f11 Rows.siftRatesRow.domain false) (Rows.siftRatesSpec.post enc Try.prog Try.f11 false true false false) := by
  refine returnsInHanded_of_change (C := Try.checked) own started (by kernel_rfl) Try.func11
    (ChangeSpec.witness6 (enc := enc) (C := Try.checked) false ⟨#[], #[.agg #[.int .i64 0, .int .i64 0, .int .i64 0], .agg #[.slice none 0 0, .slice none 0 0], .agg #[.slice none 0 0, .slice none 0 0]], []⟩ 8 (by kernel_rfl) (by kernel_rfl) (by kernel_rfl) (by kernel_rfl)) ?_
  intro W base args ds gs before hval0 hW hcnd _
  have hval : ∀ (j : Nat) t v, Try.f11.params[j]? = some t → args[j]? = some v → Value.okWide Try.prog W .any base t v := hval0
  have hW' := hW
  obtain ⟨p, q, hA0, hV, rfl, hfz, hnd⟩ := hW
  have hA : DataW.TrodAll enc Try.prog W 0 (fun _ => true) true Try.f11.params.toList args.toList ds p := hA0
  rw [Try.params11] at hA hval
  obtain ⟨v0, vs0, d0, ds0, p0, q0, hargs, rfl, rfl, h0, r0⟩ := trodAll_cons hA
  obtain ⟨v1, vs1, d1, ds1, p1, q1, rfl, rfl, rfl, h1, r1⟩ := trodAll_cons r0
  obtain ⟨v2, vs2, d2, ds2, p2, q2, rfl, rfl, rfl, h2, r2⟩ := trodAll_cons r1
  obtain ⟨rfl, rfl, rfl⟩ := trodAll_nil r2
  obtain rfl : args = #[v0, v1, v2] := by cases args; simp_all
  obtain ⟨rfl, rfl⟩ := trodVars_none hV
  have lt0 : ∀ x ∈ p0, x.block < W.heap.size := by obtain ⟨m, hm⟩ := h0; exact DataW.trod_lt m _ _ _ hm
  have k0 := h0
  obtain ⟨cs0, rfl, hsz0⟩ := okWide_struct Try.underlying81 (hval 0 81 v0 rfl rfl)
  obtain ⟨c0_0, c0_1, c0_2, rfl⟩ := arr3 (hsz0.trans (show Try.prog.cellsOf 81 = 3 from by kernel_rfl))
  obtain ⟨fuel0, hf0⟩ := h0
  obtain ⟨_, n0', hd0⟩ := trod_fields Try.underlying81 (by kernel_rfl) (by kernel_rfl) hf0
  obtain ⟨_, hy0_0⟩ := hd0 0 _ c0_0 rfl rfl
  obtain ⟨x0_0, e0_0, _, w0_0⟩ := DataW.trod_int Try.underlying3 hy0_0
  obtain rfl : c0_0 = .int .i64 x0_0 := by simpa using e0_0
  obtain ⟨_, hy0_1⟩ := hd0 1 _ c0_1 rfl rfl
  obtain ⟨x0_1, e0_1, _, w0_1⟩ := DataW.trod_int Try.underlying3 hy0_1
  obtain rfl : c0_1 = .int .i64 x0_1 := by simpa using e0_1
  obtain ⟨_, hy0_2⟩ := hd0 2 _ c0_2 rfl rfl
  obtain ⟨x0_2, e0_2, _, w0_2⟩ := DataW.trod_int Try.underlying3 hy0_2
  obtain rfl : c0_2 = .int .i64 x0_2 := by simpa using e0_2
  have lt1 : ∀ x ∈ p1, x.block < W.heap.size := by obtain ⟨m, hm⟩ := h1; exact DataW.trod_lt m _ _ _ hm
  have k1 := h1
  obtain ⟨cs1, rfl, hsz1⟩ := okWide_struct Try.underlying77 (hval 1 77 v1 rfl rfl)
  obtain ⟨c1_0, c1_1, rfl⟩ := arr2 (hsz1.trans (show Try.prog.cellsOf 77 = 2 from by kernel_rfl))
  obtain ⟨fuel1, hf1⟩ := h1
  obtain ⟨_, n1', hd1⟩ := trod_fields Try.underlying77 (by kernel_rfl) (by kernel_rfl) hf1
  obtain ⟨_, hy1_0⟩ := hd1 0 _ c1_0 rfl rfl
  obtain ⟨A1_0, n1_0, l1_0, hcs1_0, hl1_0, hm1_0, hz1_0, ha1_0, ho1_0⟩ := open_arr (enc := enc32) _ enc32_len (by decide) Try.underlying73 (by kernel_rfl) (fun n cs y h => dec_u32 h) hy1_0
  obtain rfl : c1_0 = .slice A1_0 l1_0.length n1_0 := by simpa using hcs1_0
  obtain ⟨_, hy1_1⟩ := hd1 1 _ c1_1 rfl rfl
  obtain ⟨A1_1, n1_1, l1_1, hcs1_1, hl1_1, hm1_1, hz1_1, ha1_1, ho1_1⟩ := open_arr (enc := enc32) _ enc32_len (by decide) Try.underlying73 (by kernel_rfl) (fun n cs y h => dec_u32 h) hy1_1
  obtain rfl : c1_1 = .slice A1_1 l1_1.length n1_1 := by simpa using hcs1_1
  have lt2 : ∀ x ∈ p2, x.block < W.heap.size := by obtain ⟨m, hm⟩ := h2; exact DataW.trod_lt m _ _ _ hm
  have k2 := h2
  obtain ⟨cs2, rfl, hsz2⟩ := okWide_struct Try.underlying77 (hval 2 77 v2 rfl rfl)
  obtain ⟨c2_0, c2_1, rfl⟩ := arr2 (hsz2.trans (show Try.prog.cellsOf 77 = 2 from by kernel_rfl))
  obtain ⟨fuel2, hf2⟩ := h2
  obtain ⟨_, n2', hd2⟩ := trod_fields Try.underlying77 (by kernel_rfl) (by kernel_rfl) hf2
  obtain ⟨_, hy2_0⟩ := hd2 0 _ c2_0 rfl rfl
  obtain ⟨A2_0, n2_0, l2_0, hcs2_0, hl2_0, hm2_0, hz2_0, ha2_0, ho2_0⟩ := open_arr (enc := enc32) _ enc32_len (by decide) Try.underlying73 (by kernel_rfl) (fun n cs y h => dec_u32 h) hy2_0
  obtain rfl : c2_0 = .slice A2_0 l2_0.length n2_0 := by simpa using hcs2_0
  obtain ⟨_, hy2_1⟩ := hd2 1 _ c2_1 rfl rfl
  obtain ⟨A2_1, n2_1, l2_1, hcs2_1, hl2_1, hm2_1, hz2_1, ha2_1, ho2_1⟩ := open_arr (enc := enc32) _ enc32_len (by decide) Try.underlying73 (by kernel_rfl) (fun n cs y h => dec_u32 h) hy2_1
  obtain rfl : c2_1 = .slice A2_1 l2_1.length n2_1 := by simpa using hcs2_1
  clear hA0 hval0
  refine (walk x0_0 x0_1 x0_2 A1_0 n1_0 l1_0 A1_1 n1_1 l1_1 A2_0 n2_0 l2_0 A2_1 n2_1 l2_1 W w0_0 w0_1 w0_2 ha1_0 hl1_0 hm1_0 hz1_0 ho1_0 ha1_1 hl1_1 hm1_1 hz1_1 ho1_1 ha2_0 hl2_0 hm2_0 hz2_0 ho2_0 ha2_1 hl2_1 hm2_1 hz2_1 ho2_1).mono fun e W' ⟨he, bel⟩ => ?_
  subst he
  exact ⟨_, rfl, _, _, _, [], _, [], hW', trodAll_mk1 (shut_bool Try.underlying4 _), (trodAll_cons_mk (Below.trod laidOut (by kernel_rfl) (of_decide_eq_true (by kernel_rfl)) k0 bel lt0) (trodAll_cons_mk (Below.trod laidOut (by kernel_rfl) (of_decide_eq_true (by kernel_rfl)) k1 bel lt1) (trodAll_cons_mk (Below.trod laidOut (by kernel_rfl) (of_decide_eq_true (by kernel_rfl)) k2 bel lt2) trodAll_mk0))), rfl, bel.frame _, fun h => by cases h⟩

theorem over : Rows.siftRatesRow.holds Try.pinned (OpenSpec.ofChange Rows.siftRatesSpec) :=
  OpenClaim.holds_of_wide 11 Try.f11 rfl rfl rfl rfl rfl rfl rfl ⟨rfl, rfl, rfl, rfl, rfl⟩ rfl rfl rfl rfl rfl (by kernel_rfl) Try.func11 (by kernel_rfl)
    (of_decide_eq_true (by kernel_rfl)) (by unfold Func.isWrapper; first | (rw [if_pos (by decide +kernel)]; kernel_rfl) | (rw [if_neg (by decide +kernel)]; exact ⟨rfl, rfl⟩))
    (fun os started H enc _ => lifted os started H enc)

theorem proved : Rows.SiftRatesSaid := over
#print axioms proved
end Go.Proofs.Ytfodlpiidlajeaa.siftRates
