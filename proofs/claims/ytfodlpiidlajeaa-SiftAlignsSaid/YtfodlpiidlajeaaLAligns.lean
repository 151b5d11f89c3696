/- The statement SiftAligns: for any head and clicks, a shift and a need, the law returns true and its arguments read as they did. No condition. -/
import Derived.Test.YtfodlpiidlajeaaOpen
import Derived.Test.YtfodlpiidlajeaaKnown
import Derived.Test.YtfodlpiidlajeaaAgr
import Derived.Test.YtfodlpiidlajeaaSame
namespace Go.Proofs.Ytfodlpiidlajeaa.siftAligns
open Go.ChangeShapes Go.WideShapes Go.ChangeAt Go.RowKit Go.Deep Go.Joins
set_option linter.unusedVariables false
set_option linter.unusedSimpArgs false

theorem pulse_info : (Try.prog.info? 112).map (fun i => (i.zero, i.size, i.bytes)) = some (some (.agg #[.int .i64 0, .bool false, .int .i64 0, .int .i64 0, .bool false]), 5, 40) := by kernel_rfl
theorem click_info : (Try.prog.info? 110).map (fun i => (i.zero, i.size, i.bytes)) = some (some (.agg #[.int .i64 0, .int .i64 0]), 2, 16) := by kernel_rfl

set_option maxRecDepth 100000 in
set_option maxHeartbeats 2000000 in
theorem walk (A : Option Addr) (n : Nat) (h : List Pls) (C : Option Addr) (m : Nat) (c : List Clk) (s need : Int) (w : World)
    (hA : Arr 5 Pls.enc w w.heap.size A h) (hl : h.length ≤ n) (hn : n ≤ maxLen) (hz : A = none → n = 0) (ho : ∀ x ∈ h, i64ok x.basis ∧ i64ok x.cls ∧ i64ok x.ph)
    (hC : Arr 2 Clk.enc w w.heap.size C c) (hlc : c.length ≤ m) (hm : m ≤ maxLen) (hzc : C = none → m = 0) (hoc : ∀ x ∈ c, i64ok x.basis ∧ i64ok x.kind) (ws : (Lit.int .i64 s).wf = true) (wn : (Lit.int .i64 need).wf = true) :
    Calls Try.prog 4 #[.slice A h.length n, .slice C c.length m, .int .i64 s, .int .i64 need] w fun e w' => e = .returned (.bool true) ∧ Below w.heap.size w w' := by
  unfold maxLen at hn hm
  clear ho hoc ws wn
  by_cases h4 : 400 < h.length
  · have h4' : decide (400 < (h.length : Int)) = true := by simp; omega
    go_enter Try.func4, Try.ntmps4
    go_wp2_with (go_at_call 15; refine (known_any _).mono ?_; rintro e w2 ⟨rfl, hb2⟩)
    go_ret
    exact ⟨rfl, hb2⟩
  · by_cases h5 : 400 < c.length
    · have h4' : decide (400 < (h.length : Int)) = false := by simp; omega
      have h5' : decide (400 < (c.length : Int)) = true := by simp; omega
      go_enter Try.func4, Try.ntmps4
      go_wp2_with (go_at_call 15; refine (known_any _).mono ?_; rintro e w2 ⟨rfl, hb2⟩)
      go_ret
      exact ⟨rfl, hb2⟩
    · have h4' : decide (400 < (h.length : Int)) = false := by simp; omega
      have h5' : decide (400 < (c.length : Int)) = false := by simp; omega
      obtain ⟨i0, hi, hz0, hz1, hz2⟩ := info_parts pulse_info
      obtain ⟨j0, hj, hy0, hy1, hy2⟩ := info_parts click_info
      go_enter Try.func4, Try.ntmps4
      go_wp2_with (first
        | (at_builtin; refine wpList_app rfl _ _ 32 rfl w.heap.size 112 i0 _ 5 40 Try.underlying32 hi hz0 hz1 hz2 rfl (by decide) Pls.enc_len Pls.one _ [] h A n _ rfl (own_empty w _ _ (Nat.le_refl _)) rfl (hA.on (below_alloc (Below.refl _ _) _)) hz (by simp; omega) (by decide) (by simp) ?_; intro v1 w1 hown1 hb1; have hbw1 : Below w.heap.size w w1 := (below_alloc (Below.refl _ _) _).trans hb1)
        | (at_builtin; refine wpList_app rfl _ _ 22 rfl w1.heap.size 110 j0 _ 2 16 Try.underlying22 hj hy0 hy1 hy2 rfl (by decide) Clk.enc_len Clk.one _ [] c C m _ rfl (own_empty w1 _ _ (Nat.le_refl _)) rfl (hC.on (below_alloc hbw1 _)) hzc (by simp; omega) (by decide) (by simp) ?_; intro v2 w2 hown2 hb2; have hbw2 : Below w1.heap.size w1 w2 := (below_alloc (Below.refl _ _) _).trans hb2; have hown1' := hown1.below hbw2))
      rw [List.nil_append] at hown1' hown2
      obtain ⟨A1, c1, rfl, _, _, _, hr1⟩ := Own.form hown1' Pls.enc_len
      obtain ⟨A2, c2, rfl, _, _, _, hr2⟩ := Own.form hown2 Clk.enc_len
      have hq2 := below_trans hbw1 hbw2
      clear hown1 hown2 hown1' hb1 hb2
      refine (Agreement_any A1 c1 h A2 c2 c s w2 hr1 hr2 (by omega) (by omega)).mono ?_
      rintro e w3 ⟨rfl, hb3⟩
      have hq3 := below_trans hq2 hb3
      go_wp2_with fail
      refine (refAgreement_any A n h C m c s w3 (hA.on hq3) (hC.on hq3) (by omega) (by omega)).mono ?_
      rintro e w4 ⟨rfl, hb4⟩
      have hq4 := below_trans hb3 hb4
      go_wp2_with fail
      refine (Align_any A1 c1 h A2 c2 c need w4 (hr1.on hq4) (hr2.on hq4) (by omega) (by omega)).mono ?_
      rintro e w5 ⟨rfl, hb5⟩
      have hq5 := below_trans (below_trans hq3 hb4) hb5
      go_wp2_with fail
      refine (refAlign_any A n h C m c need w5 (hA.on hq5) (hC.on hq5) (by omega) (by omega)).mono ?_
      rintro e w6 ⟨rfl, hb6⟩
      have hq6 := below_trans hq5 hb6
      have hp6 := below_trans (below_trans hq4 hb5) hb6
      go_wp2_with (first
        | (go_at_call 23; refine (SamePulses_same A1 A c1 n h _ (hr1.on hp6) (hA.on hq6) (by omega)).mono ?_; rintro e w7 ⟨rfl, hb7⟩)
        | (go_at_call 24; refine (SameClicks_same A2 C c2 m c _ (hr2.on (below_trans hp6 hb7)) (hC.on (below_trans hq6 hb7)) (by omega)).mono ?_; rintro e w8 ⟨rfl, hb8⟩)
        | (go_at_call 15; refine (known_any _).mono ?_; rintro e w9 ⟨rfl, hb9⟩))
      go_ret
      exact ⟨rfl, below_trans (below_trans (below_trans hq6 hb7) hb8) hb9⟩

theorem own : ownKnob Try.prog.godebug = none := by kernel_rfl
theorem laidOut : laidOutB Try.prog = true := by kernel_rfl

set_option maxRecDepth 100000 in
theorem lifted (os : Os) (started : os.Started) (H : Type) (enc : TypeId × Value → H) :
    ReturnsInHanded {} Try.checked os 4 .any (Rows.siftAlignsSpec.pre6 enc Try.prog Try.f4 Rows.siftAlignsRow.domain false) (Rows.siftAlignsSpec.post enc Try.prog Try.f4 false true false false) := by
  refine returnsInHanded_of_change (C := Try.checked) own started (by kernel_rfl) Try.func4
    (ChangeSpec.witness6 (enc := enc) (C := Try.checked) false ⟨#[], #[.slice none 0 0, .slice none 0 0, .int .i64 0, .int .i64 0], []⟩ 8 (by kernel_rfl) (by kernel_rfl) (by kernel_rfl) (by kernel_rfl)) ?_
  intro W base args ds gs before hval0 hW hcnd _
  have hval : ∀ (j : Nat) t v, Try.f4.params[j]? = some t → args[j]? = some v → Value.okWide Try.prog W .any base t v := hval0
  have hW' := hW
  obtain ⟨p, q, hA0, hV, rfl, hfz, hnd⟩ := hW
  have hA : DataW.TrodAll enc Try.prog W 0 (fun _ => true) true Try.f4.params.toList args.toList ds p := hA0
  rw [Try.params4] at hA hval
  obtain ⟨v0, vs0, d0, ds0, p0, q0, hargs, rfl, rfl, h0, r0⟩ := trodAll_cons hA
  obtain ⟨v1, vs1, d1, ds1, p1, q1, rfl, rfl, rfl, h1, r1⟩ := trodAll_cons r0
  obtain ⟨v2, vs2, d2, ds2, p2, q2, rfl, rfl, rfl, h2, r2⟩ := trodAll_cons r1
  obtain ⟨v3, vs3, d3, ds3, p3, q3, rfl, rfl, rfl, h3, r3⟩ := trodAll_cons r2
  obtain ⟨rfl, rfl, rfl⟩ := trodAll_nil r3
  obtain rfl : args = #[v0, v1, v2, v3] := by cases args; simp_all
  obtain ⟨rfl, rfl⟩ := trodVars_none hV
  have lt0 : ∀ x ∈ p0, x.block < W.heap.size := by obtain ⟨m, hm⟩ := h0; exact DataW.trod_lt m _ _ _ hm
  have k0 := h0
  obtain ⟨A0, len0, n0, rfl⟩ := okWide_slice Try.underlying32 (hval 0 32 v0 rfl rfl)
  obtain ⟨fuel0, hf0⟩ := h0
  obtain ⟨A0', n0', l0, hcs0, hl0, hm0, hz0, ha0, ho0⟩ := open_arr (enc := Pls.enc) _ Pls.enc_len (by decide) Try.underlying32 (by kernel_rfl) (fun n cs y h => dec_pulse h) hf0
  simp [Value.cells] at hcs0
  obtain ⟨rfl, rfl, rfl⟩ := hcs0
  have lt1 : ∀ x ∈ p1, x.block < W.heap.size := by obtain ⟨m, hm⟩ := h1; exact DataW.trod_lt m _ _ _ hm
  have k1 := h1
  obtain ⟨A1, len1, n1, rfl⟩ := okWide_slice Try.underlying22 (hval 1 22 v1 rfl rfl)
  obtain ⟨fuel1, hf1⟩ := h1
  obtain ⟨A1', n1', l1, hcs1, hl1, hm1, hz1, ha1, ho1⟩ := open_arr (enc := Clk.enc) _ Clk.enc_len (by decide) Try.underlying22 (by kernel_rfl) (fun n cs y h => dec_click h) hf1
  simp [Value.cells] at hcs1
  obtain ⟨rfl, rfl, rfl⟩ := hcs1
  have lt2 : ∀ x ∈ p2, x.block < W.heap.size := by obtain ⟨m, hm⟩ := h2; exact DataW.trod_lt m _ _ _ hm
  have k2 := h2
  obtain ⟨x2, rfl, rfl, rfl, w2⟩ := open_int Try.underlying3 (hval 2 3 v2 rfl rfl) h2
  have lt3 : ∀ x ∈ p3, x.block < W.heap.size := by obtain ⟨m, hm⟩ := h3; exact DataW.trod_lt m _ _ _ hm
  have k3 := h3
  obtain ⟨x3, rfl, rfl, rfl, w3⟩ := open_int Try.underlying3 (hval 3 3 v3 rfl rfl) h3
  clear hA0 hval0
  refine (walk A0 n0 l0 A1 n1 l1 x2 x3 W ha0 hl0 hm0 hz0 ho0 ha1 hl1 hm1 hz1 ho1 w2 w3).mono fun e W' ⟨he, bel⟩ => ?_
  subst he
  exact ⟨_, rfl, _, _, _, [], _, [], hW', trodAll_mk1 (shut_bool Try.underlying4 _), (trodAll_cons_mk (Below.trod laidOut (by kernel_rfl) (of_decide_eq_true (by kernel_rfl)) k0 bel lt0) (trodAll_cons_mk (Below.trod laidOut (by kernel_rfl) (of_decide_eq_true (by kernel_rfl)) k1 bel lt1) (trodAll_cons_mk (Below.trod laidOut (by kernel_rfl) (of_decide_eq_true (by kernel_rfl)) k2 bel lt2) (trodAll_cons_mk (Below.trod laidOut (by kernel_rfl) (of_decide_eq_true (by kernel_rfl)) k3 bel lt3) trodAll_mk0)))), rfl, bel.frame _, fun h => by cases h⟩

theorem over : Rows.siftAlignsRow.holds Try.pinned (OpenSpec.ofChange Rows.siftAlignsSpec) :=
  OpenClaim.holds_of_wide 4 Try.f4 rfl rfl rfl rfl rfl rfl rfl ⟨rfl, rfl, rfl, rfl, rfl⟩ rfl rfl rfl rfl rfl (by kernel_rfl) Try.func4 (by kernel_rfl)
    (of_decide_eq_true (by kernel_rfl)) (by unfold Func.isWrapper; first | (rw [if_pos (by decide +kernel)]; kernel_rfl) | (rw [if_neg (by decide +kernel)]; exact ⟨rfl, rfl⟩))
    (fun os started H enc _ => lifted os started H enc)

theorem proved : Rows.SiftAlignsSaid := over
#print axioms proved
end Go.Proofs.Ytfodlpiidlajeaa.siftAligns
