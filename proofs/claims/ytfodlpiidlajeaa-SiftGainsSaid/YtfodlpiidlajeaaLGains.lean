/- The statement SiftGains: for any pulses, slots, bits and first slot the law returns true and its argument reads as it did. No condition. -/
import Derived.Test.YtfodlpiidlajeaaOpen
import Derived.Test.YtfodlpiidlajeaaKnown
import Derived.Test.YtfodlpiidlajeaaGain3
import Derived.Laws.StructEq
namespace Go.Proofs.Ytfodlpiidlajeaa.siftGains
open Go.ChangeShapes Go.WideShapes Go.ChangeAt Go.RowKit Go.Deep Go.Joins
set_option linter.unusedVariables false
set_option linter.unusedSimpArgs false

theorem box4 {w w' : World} {v0 v1 v2 v3 : Value} {T : TypeId} (hb : Below (w.alloc (.cells #[v0, v1, v2, v3] T)).heap.size (w.alloc (.cells #[v0, v1, v2, v3] T)) w') :
    w'.cell? ⟨w.heap.size, 0, none⟩ = some v0 ∧ w'.cell? ⟨w.heap.size, 1, none⟩ = some v1 ∧ w'.cell? ⟨w.heap.size, 2, none⟩ = some v2 ∧ w'.cell? ⟨w.heap.size, 3, none⟩ = some v3 :=
  ⟨bel_cell hb (new_cell rfl), bel_cell hb (new_cell rfl), bel_cell hb (new_cell rfl), bel_cell hb (new_cell rfl)⟩
theorem gnG_len (p : List Pls) (s : List Int) (b : List Bool) (f : Int) : (gnG p s b f).length = 9 := by
  unfold gnG; split
  · rw [ghTo_len]; exact gsTo_len _ _ _
  · rfl

theorem eqGain (a b c : Int) (w : World) : (Op.equalIn 9999 50 (.agg #[.int .i64 a, .int .i64 b, .int .i64 c]) (.agg #[.int .i64 a, .int .i64 b, .int .i64 c])).run Try.prog w = .ok true w := by
  have u3 := Try.underlying3
  have hS : Try.prog.underlying 50 = some (.struct (Try.prog.fieldsOf 50)) := by kernel_rfl
  rw [show (9999 : Nat) = 9998 + 1 from rfl, run_equalIn_agg w 9998 50 _ _ hS (by kernel_rfl)]
  simp only [Program.fieldsOf, Try.underlying50]
  go_simp
@[go_sem] theorem eqGains (g0 g1 g2 g3 g4 g5 g6 g7 g8 : Int) (w : World) : (Op.equalIn 10000 51 (.agg #[.int .i64 g0, .int .i64 g1, .int .i64 g2, .int .i64 g3, .int .i64 g4, .int .i64 g5, .int .i64 g6, .int .i64 g7, .int .i64 g8])
    (.agg #[.int .i64 g0, .int .i64 g1, .int .i64 g2, .int .i64 g3, .int .i64 g4, .int .i64 g5, .int .i64 g6, .int .i64 g7, .int .i64 g8])).run Try.prog w = .ok true w := by
  have e1 := eqGain
  rw [show (10000 : Nat) = 9999 + 1 from rfl, Op.equalIn]
  simp only [Sem.run_bind, run_underlying Try.underlying51, Result.andThen_ok]
  simp only [Std.Legacy.Range.forIn_eq_forIn_range', Std.Legacy.Range.size, Nat.sub_zero, Nat.add_sub_cancel, Nat.div_one, List.range'_succ, List.range'_zero, List.forIn_cons, List.forIn_nil]
  go_simp

set_option maxRecDepth 100000 in
set_option maxHeartbeats 4000000 in
theorem walk (A : Option Addr) (n : Nat) (p : List Pls) (C : Option Addr) (m : Nat) (s : List Int) (D : Option Addr) (o : Nat) (b : List Bool) (f : Int) (w : World)
    (hA : Arr 5 Pls.enc w w.heap.size A p) (hl : p.length ≤ n) (hn : n ≤ maxLen) (hz : A = none → n = 0) (ho : ∀ x ∈ p, i64ok x.basis ∧ i64ok x.cls ∧ i64ok x.ph)
    (hC : Arr 1 encI w w.heap.size C s) (hlc : s.length ≤ m) (hm : m ≤ maxLen) (hzc : C = none → m = 0) (hoc : ∀ x ∈ s, i64ok x)
    (hD : Arr 1 encB w w.heap.size D b) (hld : b.length ≤ o) (hmd : o ≤ maxLen) (hzd : D = none → o = 0) (hod : ∀ x ∈ b, True) (wf : (Lit.int .i64 f).wf = true) :
    Calls Try.prog 7 #[.agg #[.slice A p.length n, .slice C s.length m, .slice D b.length o, .int .i64 f]] w fun e w' => e = .returned (.bool true) ∧ Below w.heap.size w w' := by
  unfold maxLen at hn hm hmd
  clear ho hoc hod wf
  have hb0 := below_alloc (Below.refl w.heap.size w) (.cells #[.slice A p.length n, .slice C s.length m, .slice D b.length o, .int .i64 f] 48)
  by_cases h4 : 400 < p.length
  · have h4' : decide (400 < (p.length : Int)) = true := by simp; omega
    go_enter Try.func7, Try.ntmps7
    go_wp2_with (go_at_call 15; refine (known_any _).mono ?_; rintro e w2 ⟨rfl, hb2⟩)
    go_ret
    exact ⟨rfl, below_trans hb0 hb2⟩
  have h4' : decide (400 < (p.length : Int)) = false := by simp; omega
  by_cases h5 : 400 < s.length
  · have h5' : decide (400 < (s.length : Int)) = true := by simp; omega
    go_enter Try.func7, Try.ntmps7
    go_wp2_with (go_at_call 15; refine (known_any _).mono ?_; rintro e w2 ⟨rfl, hb2⟩)
    go_ret
    exact ⟨rfl, below_trans hb0 hb2⟩
  have h5' : decide (400 < (s.length : Int)) = false := by simp; omega
  by_cases h6 : 400 < b.length
  · have h6' : decide (400 < (b.length : Int)) = true := by simp; omega
    go_enter Try.func7, Try.ntmps7
    go_wp2_with (go_at_call 15; refine (known_any _).mono ?_; rintro e w2 ⟨rfl, hb2⟩)
    go_ret
    exact ⟨rfl, below_trans hb0 hb2⟩
  have h6' : decide (400 < (b.length : Int)) = false := by simp; omega
  obtain ⟨g0, g1, g2, g3, g4, g5, g6, g7, g8, hG⟩ := list9 (gnG_len p s b f)
  have HG : Hid (agg9 (gnG p s b f) = .agg #[.int .i64 g0, .int .i64 g1, .int .i64 g2, .int .i64 g3, .int .i64 g4, .int .i64 g5, .int .i64 g6, .int .i64 g7, .int .i64 g8]) := Lib.hid (by rw [hG]; rfl)
  clear hG
  go_enter Try.func7, Try.ntmps7
  go_wp2_with fail
  refine (Gains_any A n p C m s D o b f _ (hA.on hb0) (hC.on hb0) (hD.on hb0) (by omega) (by omega) (by omega)).mono ?_
  rintro e w1 ⟨rfl, hb1⟩
  rw [HG.out]
  obtain ⟨d0, d1, d2, d3⟩ := box4 hb1
  have q1 := below_alloc (below_trans hb0 hb1) (.cells #[.int .i64 g0, .int .i64 g1, .int .i64 g2, .int .i64 g3, .int .i64 g4, .int .i64 g5, .int .i64 g6, .int .i64 g7, .int .i64 g8] 51)
  have hw1 : w.heap.size < w1.heap.size := by have := hb1.size; simp at this; omega
  go_wp2_with fail
  clear d0 d1 d2 d3
  refine (refGains_any A n p C m s D o b f _ (hA.on q1) (hC.on q1) (hD.on q1) (by omega) (by omega) (by omega)).mono ?_
  rintro e w2 ⟨rfl, hb2⟩
  rw [HG.out]
  have c0 := bel_cell hb2 (new_cell (w := w1) (T := 51) (cs := #[.int .i64 g0, .int .i64 g1, .int .i64 g2, .int .i64 g3, .int .i64 g4, .int .i64 g5, .int .i64 g6, .int .i64 g7, .int .i64 g8]) (j := 0) rfl)
  have c1 := bel_cell hb2 (new_cell (w := w1) (T := 51) (cs := #[.int .i64 g0, .int .i64 g1, .int .i64 g2, .int .i64 g3, .int .i64 g4, .int .i64 g5, .int .i64 g6, .int .i64 g7, .int .i64 g8]) (j := 1) rfl)
  have c2 := bel_cell hb2 (new_cell (w := w1) (T := 51) (cs := #[.int .i64 g0, .int .i64 g1, .int .i64 g2, .int .i64 g3, .int .i64 g4, .int .i64 g5, .int .i64 g6, .int .i64 g7, .int .i64 g8]) (j := 2) rfl)
  have c3 := bel_cell hb2 (new_cell (w := w1) (T := 51) (cs := #[.int .i64 g0, .int .i64 g1, .int .i64 g2, .int .i64 g3, .int .i64 g4, .int .i64 g5, .int .i64 g6, .int .i64 g7, .int .i64 g8]) (j := 3) rfl)
  have c4 := bel_cell hb2 (new_cell (w := w1) (T := 51) (cs := #[.int .i64 g0, .int .i64 g1, .int .i64 g2, .int .i64 g3, .int .i64 g4, .int .i64 g5, .int .i64 g6, .int .i64 g7, .int .i64 g8]) (j := 4) rfl)
  have c5 := bel_cell hb2 (new_cell (w := w1) (T := 51) (cs := #[.int .i64 g0, .int .i64 g1, .int .i64 g2, .int .i64 g3, .int .i64 g4, .int .i64 g5, .int .i64 g6, .int .i64 g7, .int .i64 g8]) (j := 5) rfl)
  have c6 := bel_cell hb2 (new_cell (w := w1) (T := 51) (cs := #[.int .i64 g0, .int .i64 g1, .int .i64 g2, .int .i64 g3, .int .i64 g4, .int .i64 g5, .int .i64 g6, .int .i64 g7, .int .i64 g8]) (j := 6) rfl)
  have c7 := bel_cell hb2 (new_cell (w := w1) (T := 51) (cs := #[.int .i64 g0, .int .i64 g1, .int .i64 g2, .int .i64 g3, .int .i64 g4, .int .i64 g5, .int .i64 g6, .int .i64 g7, .int .i64 g8]) (j := 7) rfl)
  have c8 := bel_cell hb2 (new_cell (w := w1) (T := 51) (cs := #[.int .i64 g0, .int .i64 g1, .int .i64 g2, .int .i64 g3, .int .i64 g4, .int .i64 g5, .int .i64 g6, .int .i64 g7, .int .i64 g8]) (j := 8) rfl)
  have hw2 : w1.heap.size < w2.heap.size := by have := hb2.size; simp at this; omega
  have q2 := below_alloc (below_trans q1 hb2) (.cells #[.int .i64 g0, .int .i64 g1, .int .i64 g2, .int .i64 g3, .int .i64 g4, .int .i64 g5, .int .i64 g6, .int .i64 g7, .int .i64 g8] 51)
  go_wp2_with (go_at_call 15; refine (known_any _).mono ?_; rintro e w10 ⟨rfl, hb10⟩)
  go_ret
  exact ⟨rfl, below_trans q2 hb10⟩

theorem own : ownKnob Try.prog.godebug = none := by kernel_rfl
theorem laidOut : laidOutB Try.prog = true := by kernel_rfl

set_option maxRecDepth 100000 in
theorem lifted (os : Os) (started : os.Started) (H : Type) (enc : TypeId × Value → H) :
    ReturnsInHanded {} Try.checked os 7 .any (Rows.siftGainsSpec.pre6 enc Try.prog Try.f7 Rows.siftGainsRow.domain false) (Rows.siftGainsSpec.post enc Try.prog Try.f7 false true false false) := by
  refine returnsInHanded_of_change (C := Try.checked) own started (by kernel_rfl) Try.func7
    (ChangeSpec.witness6 (enc := enc) (C := Try.checked) false ⟨#[], #[.agg #[.slice none 0 0, .slice none 0 0, .slice none 0 0, .int .i64 0]], []⟩ 8 (by kernel_rfl) (by kernel_rfl) (by kernel_rfl) (by kernel_rfl)) ?_
  intro W base args ds gs before hval0 hW hcnd _
  have hval : ∀ (j : Nat) t v, Try.f7.params[j]? = some t → args[j]? = some v → Value.okWide Try.prog W .any base t v := hval0
  have hW' := hW
  obtain ⟨p, q, hA0, hV, rfl, hfz, hnd⟩ := hW
  have hA : DataW.TrodAll enc Try.prog W 0 (fun _ => true) true Try.f7.params.toList args.toList ds p := hA0
  rw [Try.params7] at hA hval
  obtain ⟨v0, vs0, d0, ds0, p0, q0, hargs, rfl, rfl, h0, r0⟩ := trodAll_cons hA
  obtain ⟨rfl, rfl, rfl⟩ := trodAll_nil r0
  obtain rfl : args = #[v0] := by cases args; simp_all
  obtain ⟨rfl, rfl⟩ := trodVars_none hV
  have lt0 : ∀ x ∈ p0, x.block < W.heap.size := by obtain ⟨m, hm⟩ := h0; exact DataW.trod_lt m _ _ _ hm
  have k0 := h0
  obtain ⟨cs0, rfl, hsz0⟩ := okWide_struct Try.underlying48 (hval 0 48 v0 rfl rfl)
  obtain ⟨c0_0, c0_1, c0_2, c0_3, rfl⟩ := arr4 (hsz0.trans (show Try.prog.cellsOf 48 = 4 from by kernel_rfl))
  obtain ⟨fuel0, hf0⟩ := h0
  obtain ⟨_, n0', hd0⟩ := trod_fields Try.underlying48 (by kernel_rfl) (by kernel_rfl) hf0
  obtain ⟨_, hy0_0⟩ := hd0 0 _ c0_0 rfl rfl
  obtain ⟨A0_0, n0_0, l0_0, hcs0_0, hl0_0, hm0_0, hz0_0, ha0_0, ho0_0⟩ := open_arr (enc := Pls.enc) _ Pls.enc_len (by decide) Try.underlying32 (by kernel_rfl) (fun n cs y h => dec_pulse h) hy0_0
  obtain rfl : c0_0 = .slice A0_0 l0_0.length n0_0 := by simpa using hcs0_0
  obtain ⟨_, hy0_1⟩ := hd0 1 _ c0_1 rfl rfl
  obtain ⟨A0_1, n0_1, l0_1, hcs0_1, hl0_1, hm0_1, hz0_1, ha0_1, ho0_1⟩ := open_arr (enc := encI) _ encI_len (by decide) Try.underlying41 (by kernel_rfl) (fun n cs y h => dec_int h) hy0_1
  obtain rfl : c0_1 = .slice A0_1 l0_1.length n0_1 := by simpa using hcs0_1
  obtain ⟨_, hy0_2⟩ := hd0 2 _ c0_2 rfl rfl
  obtain ⟨A0_2, n0_2, l0_2, hcs0_2, hl0_2, hm0_2, hz0_2, ha0_2, ho0_2⟩ := open_arr (enc := encB) _ encB_len (by decide) Try.underlying46 (by kernel_rfl) (fun n cs y h => dec_bool h) hy0_2
  obtain rfl : c0_2 = .slice A0_2 l0_2.length n0_2 := by simpa using hcs0_2
  obtain ⟨_, hy0_3⟩ := hd0 3 _ c0_3 rfl rfl
  obtain ⟨x0_3, e0_3, _, w0_3⟩ := DataW.trod_int Try.underlying3 hy0_3
  obtain rfl : c0_3 = .int .i64 x0_3 := by simpa using e0_3
  clear hA0 hval0
  refine (walk A0_0 n0_0 l0_0 A0_1 n0_1 l0_1 A0_2 n0_2 l0_2 x0_3 W ha0_0 hl0_0 hm0_0 hz0_0 ho0_0 ha0_1 hl0_1 hm0_1 hz0_1 ho0_1 ha0_2 hl0_2 hm0_2 hz0_2 ho0_2 w0_3).mono fun e W' ⟨he, bel⟩ => ?_
  subst he
  exact ⟨_, rfl, _, _, _, [], _, [], hW', trodAll_mk1 (shut_bool Try.underlying4 _), (trodAll_cons_mk (Below.trod laidOut (by kernel_rfl) (of_decide_eq_true (by kernel_rfl)) k0 bel lt0) trodAll_mk0), rfl, bel.frame _, fun h => by cases h⟩

theorem over : Rows.siftGainsRow.holds Try.pinned (OpenSpec.ofChange Rows.siftGainsSpec) :=
  OpenClaim.holds_of_wide 7 Try.f7 rfl rfl rfl rfl rfl rfl rfl ⟨rfl, rfl, rfl, rfl, rfl⟩ rfl rfl rfl rfl rfl (by kernel_rfl) Try.func7 (by kernel_rfl)
    (of_decide_eq_true (by kernel_rfl)) (by unfold Func.isWrapper; first | (rw [if_pos (by decide +kernel)]; kernel_rfl) | (rw [if_neg (by decide +kernel)]; exact ⟨rfl, rfl⟩))
    (fun os started H enc _ => lifted os started H enc)

theorem proved : Rows.SiftGainsSaid := over
#print axioms proved
end Go.Proofs.Ytfodlpiidlajeaa.siftGains
