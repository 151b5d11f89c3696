/- The statement SiftSlots: for any pulses, clicks, slots, class and shift the law returns true and its argument reads as it did. No condition. -/
import Derived.Test.YtfodlpiidlajeaaOpen
import Derived.Test.YtfodlpiidlajeaaKnown
import Derived.Test.YtfodlpiidlajeaaRecv
import Derived.Test.YtfodlpiidlajeaaBits2
namespace Go.Proofs.Ytfodlpiidlajeaa.siftSlots
open Go.ChangeShapes Go.WideShapes Go.ChangeAt Go.RowKit Go.Deep Go.Joins
set_option linter.unusedVariables false
set_option linter.unusedSimpArgs false

theorem box5 {w w' : World} {v0 v1 v2 v3 v4 : Value} {T : TypeId} (hb : Below (w.alloc (.cells #[v0, v1, v2, v3, v4] T)).heap.size (w.alloc (.cells #[v0, v1, v2, v3, v4] T)) w') :
    w'.cell? ⟨w.heap.size, 0, none⟩ = some v0 ∧ w'.cell? ⟨w.heap.size, 1, none⟩ = some v1 ∧ w'.cell? ⟨w.heap.size, 2, none⟩ = some v2 ∧ w'.cell? ⟨w.heap.size, 3, none⟩ = some v3 ∧ w'.cell? ⟨w.heap.size, 4, none⟩ = some v4 :=
  ⟨bel_cell hb (new_cell rfl), bel_cell hb (new_cell rfl), bel_cell hb (new_cell rfl), bel_cell hb (new_cell rfl), bel_cell hb (new_cell rfl)⟩

set_option maxRecDepth 100000 in
set_option maxHeartbeats 4000000 in
theorem walk (A : Option Addr) (n : Nat) (p : List Pls) (C : Option Addr) (m : Nat) (c : List Clk) (D : Option Addr) (o : Nat) (l : List Int) (cls s : Int) (w : World)
    (hA : Arr 5 Pls.enc w w.heap.size A p) (hl : p.length ≤ n) (hn : n ≤ maxLen) (hz : A = none → n = 0) (ho : ∀ x ∈ p, i64ok x.basis ∧ i64ok x.cls ∧ i64ok x.ph)
    (hC : Arr 2 Clk.enc w w.heap.size C c) (hlc : c.length ≤ m) (hm : m ≤ maxLen) (hzc : C = none → m = 0) (hoc : ∀ x ∈ c, i64ok x.basis ∧ i64ok x.kind)
    (hD : Arr 1 encI w w.heap.size D l) (hld : l.length ≤ o) (hmd : o ≤ maxLen) (hzd : D = none → o = 0) (hod : ∀ x ∈ l, i64ok x) (wc : (Lit.int .i64 cls).wf = true) (ws : (Lit.int .i64 s).wf = true) :
    Calls Try.prog 8 #[.agg #[.slice A p.length n, .slice C c.length m, .slice D l.length o, .int .i64 cls, .int .i64 s]] w fun e w' => e = .returned (.bool true) ∧ Below w.heap.size w w' := by
  unfold maxLen at hn hm hmd
  clear ho hoc hod wc ws
  have hb0 := below_alloc (Below.refl w.heap.size w) (.cells #[.slice A p.length n, .slice C c.length m, .slice D l.length o, .int .i64 cls, .int .i64 s] 56)
  by_cases h4 : 400 < p.length
  · have h4' : decide (400 < (p.length : Int)) = true := by simp; omega
    go_enter Try.func8, Try.ntmps8
    go_wp2_with (go_at_call 15; refine (known_any _).mono ?_; rintro e w2 ⟨rfl, hb2⟩)
    go_ret
    exact ⟨rfl, below_trans hb0 hb2⟩
  have h4' : decide (400 < (p.length : Int)) = false := by simp; omega
  by_cases h5 : 400 < c.length
  · have h5' : decide (400 < (c.length : Int)) = true := by simp; omega
    go_enter Try.func8, Try.ntmps8
    go_wp2_with (go_at_call 15; refine (known_any _).mono ?_; rintro e w2 ⟨rfl, hb2⟩)
    go_ret
    exact ⟨rfl, below_trans hb0 hb2⟩
  have h5' : decide (400 < (c.length : Int)) = false := by simp; omega
  by_cases h6 : 400 < l.length
  · have h6' : decide (400 < (l.length : Int)) = true := by simp; omega
    go_enter Try.func8, Try.ntmps8
    go_wp2_with (go_at_call 15; refine (known_any _).mono ?_; rintro e w2 ⟨rfl, hb2⟩)
    go_ret
    exact ⟨rfl, below_trans hb0 hb2⟩
  have h6' : decide (400 < (l.length : Int)) = false := by simp; omega
  have k1 := clsL_le p l cls
  have k2 := sntL_le p l
  have k3 := rcvL_le c s l
  go_enter Try.func8, Try.ntmps8
  go_wp2_with fail
  refine (Class_any A n p D o l cls _ (hA.on hb0) (hD.on hb0) (by omega) (by omega)).mono ?_
  rintro e w1 ⟨v1, rfl, hown1, hb1⟩
  obtain ⟨d0, d1, d2, d3, d4⟩ := box5 hb1
  have q1 := below_trans hb0 hb1
  go_wp2_with fail
  clear d0 d1 d2 d3 d4
  refine (refClass_any A n p D o l cls _ (hA.on q1) (hD.on q1) (by omega) (by omega)).mono ?_
  rintro e w2 ⟨v2, rfl, hown2, hb2⟩
  have r2 := below_trans hb1 hb2
  obtain ⟨d0, d1, d2, d3, d4⟩ := box5 r2
  have q2 := below_trans hb0 r2
  go_wp2_with fail
  clear d0 d1 d2 d3 d4
  refine (Sent_any A n p D o l _ (hA.on q2) (hD.on q2) (by omega) (by omega)).mono ?_
  rintro e w3 ⟨v3, rfl, hown3, hb3⟩
  have r3 := below_trans r2 hb3
  obtain ⟨d0, d1, d2, d3, d4⟩ := box5 r3
  have q3 := below_trans hb0 r3
  go_wp2_with fail
  clear d0 d1 d2 d3 d4
  refine (refSent_any A n p D o l _ (hA.on q3) (hD.on q3) (by omega) (by omega)).mono ?_
  rintro e w4 ⟨v4, rfl, hown4, hb4⟩
  have r4 := below_trans r3 hb4
  obtain ⟨d0, d1, d2, d3, d4⟩ := box5 r4
  have q4 := below_trans hb0 r4
  go_wp2_with fail
  clear d0 d1 d2 d3 d4
  refine (Received_any C m c s D o l _ (hC.on q4) (hD.on q4) (by omega) (by omega)).mono ?_
  rintro e w5 ⟨v5, rfl, hown5, hb5⟩
  have r5 := below_trans r4 hb5
  obtain ⟨d0, d1, d2, d3, d4⟩ := box5 r5
  have q5 := below_trans hb0 r5
  go_wp2_with fail
  clear d0 d1 d2 d3 d4
  refine (refReceived_any C m c s D o l _ (hC.on q5) (hD.on q5) (by omega) (by omega)).mono ?_
  rintro e w6 ⟨v6, rfl, hown6, hb6⟩
  have q6 := below_trans q5 hb6
  have t3 := below_trans hb4 (below_trans hb5 hb6)
  have t2 := below_trans hb3 t3
  obtain ⟨A1, c1, rfl, _, _, _, hr1⟩ := Own.form (hown1.below (below_trans hb2 t2)) encI_len
  obtain ⟨A2, c2, rfl, _, _, _, hr2⟩ := Own.form (hown2.below t2) encI_len
  obtain ⟨A3, c3, rfl, _, _, _, hr3⟩ := Own.form (hown3.below t3) encB_len
  obtain ⟨A4, c4, rfl, _, _, _, hr4⟩ := Own.form (hown4.below (below_trans hb5 hb6)) encB_len
  obtain ⟨A5, c5, rfl, _, _, _, hr5⟩ := Own.form (hown5.below hb6) encB_len
  obtain ⟨A6, c6, rfl, _, _, _, hr6⟩ := Own.form hown6 encB_len
  clear hown1 hown2 hown3 hown4 hown5 hown6 t2 t3 r2 r3 r4 r5
  go_wp2_with fail
  refine (Ints_same A1 A2 c1 c2 (clsL p l cls) _ hr1 hr2 (by omega)).mono ?_
  rintro e w7 ⟨rfl, hb7⟩
  go_wp2_with fail
  refine (Bools_same A3 A4 c3 c4 (sntL p l) _ (hr3.on hb7) (hr4.on hb7) (by omega)).mono ?_
  rintro e w8 ⟨rfl, hb8⟩
  have u8 := below_trans hb7 hb8
  go_wp2_with fail
  refine (Bools_same A5 A6 c5 c6 (rcvL c s l) _ (hr5.on u8) (hr6.on u8) (by omega)).mono ?_
  rintro e w9 ⟨rfl, hb9⟩
  go_wp2_with (go_at_call 15; refine (known_any _).mono ?_; rintro e w10 ⟨rfl, hb10⟩)
  go_ret
  exact ⟨rfl, below_trans (below_trans (below_trans q6 u8) hb9) hb10⟩

theorem own : ownKnob Try.prog.godebug = none := by kernel_rfl
theorem laidOut : laidOutB Try.prog = true := by kernel_rfl

set_option maxRecDepth 100000 in
theorem lifted (os : Os) (started : os.Started) (H : Type) (enc : TypeId × Value → H) :
    ReturnsInHanded {} Try.checked os 8 .any (Rows.siftSlotsSpec.pre6 enc Try.prog Try.f8 Rows.siftSlotsRow.domain false) (Rows.siftSlotsSpec.post enc Try.prog Try.f8 false true false false) := by
  refine returnsInHanded_of_change (C := Try.checked) own started (by kernel_rfl) Try.func8
    (ChangeSpec.witness6 (enc := enc) (C := Try.checked) false ⟨#[], #[.agg #[.slice none 0 0, .slice none 0 0, .slice none 0 0, .int .i64 0, .int .i64 0]], []⟩ 8 (by kernel_rfl) (by kernel_rfl) (by kernel_rfl) (by kernel_rfl)) ?_
  intro W base args ds gs before hval0 hW hcnd _
  have hval : ∀ (j : Nat) t v, Try.f8.params[j]? = some t → args[j]? = some v → Value.okWide Try.prog W .any base t v := hval0
  have hW' := hW
  obtain ⟨p, q, hA0, hV, rfl, hfz, hnd⟩ := hW
  have hA : DataW.TrodAll enc Try.prog W 0 (fun _ => true) true Try.f8.params.toList args.toList ds p := hA0
  rw [Try.params8] at hA hval
  obtain ⟨v0, vs0, d0, ds0, p0, q0, hargs, rfl, rfl, h0, r0⟩ := trodAll_cons hA
  obtain ⟨rfl, rfl, rfl⟩ := trodAll_nil r0
  obtain rfl : args = #[v0] := by cases args; simp_all
  obtain ⟨rfl, rfl⟩ := trodVars_none hV
  have lt0 : ∀ x ∈ p0, x.block < W.heap.size := by obtain ⟨m, hm⟩ := h0; exact DataW.trod_lt m _ _ _ hm
  have k0 := h0
  obtain ⟨cs0, rfl, hsz0⟩ := okWide_struct Try.underlying56 (hval 0 56 v0 rfl rfl)
  obtain ⟨c0_0, c0_1, c0_2, c0_3, c0_4, rfl⟩ := arr5 (hsz0.trans (show Try.prog.cellsOf 56 = 5 from by kernel_rfl))
  obtain ⟨fuel0, hf0⟩ := h0
  obtain ⟨_, n0', hd0⟩ := trod_fields Try.underlying56 (by kernel_rfl) (by kernel_rfl) hf0
  obtain ⟨_, hy0_0⟩ := hd0 0 _ c0_0 rfl rfl
  obtain ⟨A0_0, n0_0, l0_0, hcs0_0, hl0_0, hm0_0, hz0_0, ha0_0, ho0_0⟩ := open_arr (enc := Pls.enc) _ Pls.enc_len (by decide) Try.underlying32 (by kernel_rfl) (fun n cs y h => dec_pulse h) hy0_0
  obtain rfl : c0_0 = .slice A0_0 l0_0.length n0_0 := by simpa using hcs0_0
  obtain ⟨_, hy0_1⟩ := hd0 1 _ c0_1 rfl rfl
  obtain ⟨A0_1, n0_1, l0_1, hcs0_1, hl0_1, hm0_1, hz0_1, ha0_1, ho0_1⟩ := open_arr (enc := Clk.enc) _ Clk.enc_len (by decide) Try.underlying22 (by kernel_rfl) (fun n cs y h => dec_click h) hy0_1
  obtain rfl : c0_1 = .slice A0_1 l0_1.length n0_1 := by simpa using hcs0_1
  obtain ⟨_, hy0_2⟩ := hd0 2 _ c0_2 rfl rfl
  obtain ⟨A0_2, n0_2, l0_2, hcs0_2, hl0_2, hm0_2, hz0_2, ha0_2, ho0_2⟩ := open_arr (enc := encI) _ encI_len (by decide) Try.underlying41 (by kernel_rfl) (fun n cs y h => dec_int h) hy0_2
  obtain rfl : c0_2 = .slice A0_2 l0_2.length n0_2 := by simpa using hcs0_2
  obtain ⟨_, hy0_3⟩ := hd0 3 _ c0_3 rfl rfl
  obtain ⟨x0_3, e0_3, _, w0_3⟩ := DataW.trod_int Try.underlying3 hy0_3
  obtain rfl : c0_3 = .int .i64 x0_3 := by simpa using e0_3
  obtain ⟨_, hy0_4⟩ := hd0 4 _ c0_4 rfl rfl
  obtain ⟨x0_4, e0_4, _, w0_4⟩ := DataW.trod_int Try.underlying3 hy0_4
  obtain rfl : c0_4 = .int .i64 x0_4 := by simpa using e0_4
  clear hA0 hval0
  refine (walk A0_0 n0_0 l0_0 A0_1 n0_1 l0_1 A0_2 n0_2 l0_2 x0_3 x0_4 W ha0_0 hl0_0 hm0_0 hz0_0 ho0_0 ha0_1 hl0_1 hm0_1 hz0_1 ho0_1 ha0_2 hl0_2 hm0_2 hz0_2 ho0_2 w0_3 w0_4).mono fun e W' ⟨he, bel⟩ => ?_
  subst he
  exact ⟨_, rfl, _, _, _, [], _, [], hW', trodAll_mk1 (shut_bool Try.underlying4 _), (trodAll_cons_mk (Below.trod laidOut (by kernel_rfl) (of_decide_eq_true (by kernel_rfl)) k0 bel lt0) trodAll_mk0), rfl, bel.frame _, fun h => by cases h⟩

theorem over : Rows.siftSlotsRow.holds Try.pinned (OpenSpec.ofChange Rows.siftSlotsSpec) :=
  OpenClaim.holds_of_wide 8 Try.f8 rfl rfl rfl rfl rfl rfl rfl ⟨rfl, rfl, rfl, rfl, rfl⟩ rfl rfl rfl rfl rfl (by kernel_rfl) Try.func8 (by kernel_rfl)
    (of_decide_eq_true (by kernel_rfl)) (by unfold Func.isWrapper; first | (rw [if_pos (by decide +kernel)]; kernel_rfl) | (rw [if_neg (by decide +kernel)]; exact ⟨rfl, rfl⟩))
    (fun os started H enc _ => lifted os started H enc)

theorem proved : Rows.SiftSlotsSaid := over
#print axioms proved
end Go.Proofs.Ytfodlpiidlajeaa.siftSlots
