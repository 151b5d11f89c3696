/- The statement SiftMatches: for any pulses, announcements and first slot the law returns true and its arguments read as they did. No condition. -/
import Derived.Test.YtfodlpiidlajeaaOpen
import Derived.Test.YtfodlpiidlajeaaKnown
import Derived.Test.YtfodlpiidlajeaaMatch
namespace Go.Proofs.Ytfodlpiidlajeaa.siftMatches
open Go.ChangeShapes Go.WideShapes Go.ChangeAt Go.RowKit Go.Deep Go.Joins
set_option linter.unusedVariables false
set_option linter.unusedSimpArgs false

set_option maxRecDepth 100000 in
set_option maxHeartbeats 2000000 in
theorem walk (A : Option Addr) (n : Nat) (p : List Pls) (C : Option Addr) (m : Nat) (l : List Hrd) (f : Int) (w : World)
    (hA : Arr 5 Pls.enc w w.heap.size A p) (hl : p.length ≤ n) (hn : n ≤ maxLen) (hz : A = none → n = 0) (ho : ∀ x ∈ p, i64ok x.basis ∧ i64ok x.cls ∧ i64ok x.ph)
    (hC : Arr 2 Hrd.enc w w.heap.size C l) (hlc : l.length ≤ m) (hm : m ≤ maxLen) (hzc : C = none → m = 0) (hoc : ∀ x ∈ l, i64ok x.slot ∧ i64ok x.basis) (wf : (Lit.int .i64 f).wf = true) :
    Calls Try.prog 6 #[.slice A p.length n, .slice C l.length m, .int .i64 f] w fun e w' => e = .returned (.bool true) ∧ Below w.heap.size w w' := by
  unfold maxLen at hn hm
  clear ho hoc wf
  by_cases h4 : 400 < p.length
  · have h4' : decide (400 < (p.length : Int)) = true := by simp; omega
    go_enter Try.func6, Try.ntmps6
    go_wp2_with (go_at_call 15; refine (known_any _).mono ?_; rintro e w2 ⟨rfl, hb2⟩)
    go_ret
    exact ⟨rfl, hb2⟩
  by_cases h5 : 400 < l.length
  · have h4' : decide (400 < (p.length : Int)) = false := by simp; omega
    have h5' : decide (400 < (l.length : Int)) = true := by simp; omega
    go_enter Try.func6, Try.ntmps6
    go_wp2_with (go_at_call 15; refine (known_any _).mono ?_; rintro e w2 ⟨rfl, hb2⟩)
    go_ret
    exact ⟨rfl, hb2⟩
  have h4' : decide (400 < (p.length : Int)) = false := by simp; omega
  have h5' : decide (400 < (l.length : Int)) = false := by simp; omega
  have hll := matL_le p l f
  go_enter Try.func6, Try.ntmps6
  go_wp2_with fail
  refine (Match_any A n p C m l f _ hA hC (by omega) (by omega)).mono ?_
  rintro e w1 ⟨v1, rfl, hown1, hb1⟩
  go_wp2_with fail
  refine (refMatch_any A n p C m l f _ (hA.on hb1) (hC.on hb1) (by omega) (by omega)).mono ?_
  rintro e w2 ⟨v2, rfl, hown2, hb2⟩
  obtain ⟨A1, c1, rfl, _, _, _, hr1⟩ := Own.form (hown1.below hb2) encI_len
  obtain ⟨A2, c2, rfl, _, _, _, hr2⟩ := Own.form hown2 encI_len
  go_wp2_with (first
    | (go_at_call 29; refine (Ints_same A1 A2 c1 c2 (matL p l f) _ hr1 hr2 (by omega)).mono ?_; rintro e w3 ⟨rfl, hb3⟩)
    | (go_at_call 15; refine (known_any _).mono ?_; rintro e w4 ⟨rfl, hb4⟩))
  go_ret
  exact ⟨rfl, below_trans (below_trans (below_trans hb1 hb2) hb3) hb4⟩

theorem own : ownKnob Try.prog.godebug = none := by kernel_rfl
theorem laidOut : laidOutB Try.prog = true := by kernel_rfl

set_option maxRecDepth 100000 in
theorem lifted (os : Os) (started : os.Started) (H : Type) (enc : TypeId × Value → H) :
    ReturnsInHanded {} Try.checked os 6 .any (Rows.siftMatchesSpec.pre6 enc Try.prog Try.f6 Rows.siftMatchesRow.domain false) (Rows.siftMatchesSpec.post enc Try.prog Try.f6 false true false false) := by
  refine returnsInHanded_of_change (C := Try.checked) own started (by kernel_rfl) Try.func6
    (ChangeSpec.witness6 (enc := enc) (C := Try.checked) false ⟨#[], #[.slice none 0 0, .slice none 0 0, .int .i64 0], []⟩ 8 (by kernel_rfl) (by kernel_rfl) (by kernel_rfl) (by kernel_rfl)) ?_
  intro W base args ds gs before hval0 hW hcnd _
  have hval : ∀ (j : Nat) t v, Try.f6.params[j]? = some t → args[j]? = some v → Value.okWide Try.prog W .any base t v := hval0
  have hW' := hW
  obtain ⟨p, q, hA0, hV, rfl, hfz, hnd⟩ := hW
  have hA : DataW.TrodAll enc Try.prog W 0 (fun _ => true) true Try.f6.params.toList args.toList ds p := hA0
  rw [Try.params6] at hA hval
  obtain ⟨v0, vs0, d0, ds0, p0, q0, hargs, rfl, rfl, h0, r0⟩ := trodAll_cons hA
  obtain ⟨v1, vs1, d1, ds1, p1, q1, rfl, rfl, rfl, h1, r1⟩ := trodAll_cons r0
  obtain ⟨v2, vs2, d2, ds2, p2, q2, rfl, rfl, rfl, h2, r2⟩ := trodAll_cons r1
  obtain ⟨rfl, rfl, rfl⟩ := trodAll_nil r2
  obtain rfl : args = #[v0, v1, v2] := by cases args; simp_all
  obtain ⟨rfl, rfl⟩ := trodVars_none hV
  have lt0 : ∀ x ∈ p0, x.block < W.heap.size := by obtain ⟨m, hm⟩ := h0; exact DataW.trod_lt m _ _ _ hm
  have k0 := h0
  obtain ⟨A0, len0, n0, rfl⟩ := okWide_slice Try.underlying32 (hval 0 32 v0 rfl rfl)
  obtain ⟨fuel0, hf0⟩ := h0
  obtain ⟨A0', n0', l0, hcs0, hl0, hm0, hz0, ha0, ho0⟩ := open_arr (enc := Pls.enc) _ Pls.enc_len (by decide) Try.underlying32 (by kernel_rfl) (fun n cs y h => dec_pulse h) hf0
  simp [Value.cells] at hcs0
  obtain ⟨rfl, rfl, rfl⟩ := hcs0
  have lt1 : ∀ x ∈ p1, x.block < W.heap.size := by obtain ⟨m, hm⟩ := h1; exact DataW.trod_lt m _ _ _ hm
  have k1 := h1
  obtain ⟨A1, len1, n1, rfl⟩ := okWide_slice Try.underlying26 (hval 1 26 v1 rfl rfl)
  obtain ⟨fuel1, hf1⟩ := h1
  obtain ⟨A1', n1', l1, hcs1, hl1, hm1, hz1, ha1, ho1⟩ := open_arr (enc := Hrd.enc) _ Hrd.enc_len (by decide) Try.underlying26 (by kernel_rfl) (fun n cs y h => dec_heard h) hf1
  simp [Value.cells] at hcs1
  obtain ⟨rfl, rfl, rfl⟩ := hcs1
  have lt2 : ∀ x ∈ p2, x.block < W.heap.size := by obtain ⟨m, hm⟩ := h2; exact DataW.trod_lt m _ _ _ hm
  have k2 := h2
  obtain ⟨x2, rfl, rfl, rfl, w2⟩ := open_int Try.underlying3 (hval 2 3 v2 rfl rfl) h2
  clear hA0 hval0
  refine (walk A0 n0 l0 A1 n1 l1 x2 W ha0 hl0 hm0 hz0 ho0 ha1 hl1 hm1 hz1 ho1 w2).mono fun e W' ⟨he, bel⟩ => ?_
  subst he
  exact ⟨_, rfl, _, _, _, [], _, [], hW', trodAll_mk1 (shut_bool Try.underlying4 _), (trodAll_cons_mk (Below.trod laidOut (by kernel_rfl) (of_decide_eq_true (by kernel_rfl)) k0 bel lt0) (trodAll_cons_mk (Below.trod laidOut (by kernel_rfl) (of_decide_eq_true (by kernel_rfl)) k1 bel lt1) (trodAll_cons_mk (Below.trod laidOut (by kernel_rfl) (of_decide_eq_true (by kernel_rfl)) k2 bel lt2) trodAll_mk0))), rfl, bel.frame _, fun h => by cases h⟩

theorem over : Rows.siftMatchesRow.holds Try.pinned (OpenSpec.ofChange Rows.siftMatchesSpec) :=
  OpenClaim.holds_of_wide 6 Try.f6 rfl rfl rfl rfl rfl rfl rfl ⟨rfl, rfl, rfl, rfl, rfl⟩ rfl rfl rfl rfl rfl (by kernel_rfl) Try.func6 (by kernel_rfl)
    (of_decide_eq_true (by kernel_rfl)) (by unfold Func.isWrapper; first | (rw [if_pos (by decide +kernel)]; kernel_rfl) | (rw [if_neg (by decide +kernel)]; exact ⟨rfl, rfl⟩))
    (fun os started H enc _ => lifted os started H enc)

theorem proved : Rows.SiftMatchesSaid := over
#print axioms proved
end Go.Proofs.Ytfodlpiidlajeaa.siftMatches
