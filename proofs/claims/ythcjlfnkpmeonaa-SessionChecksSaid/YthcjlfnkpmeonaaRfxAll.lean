/- Contract of the reference's ways. For at most 512 things. Contracts of the reference's Check, both, CheckFrac, pair, Of of numbers. For at most 900000 limbs. Contracts of the reference's pair and FracCompare. For at most 900000 limbs. Contract of the reference's Bound. For any three numbers, a fraction of at most 900000 limbs. Contracts of the reference's Bound for any numbers, Rate and Judge. For a fraction of at most 900000 limbs. -/
import Derived.Test.YthcjlfnkpmeonaaRefAll
import Derived.Test.YthcjlfnkpmeonaaNtxAll
import Derived.Test.YthcjlfnkpmeonaaRefChk
namespace Go.Proofs.Ythcjlfnkpmeonaa
open Go.RowKit
set_option linter.unusedVariables false
set_option linter.unusedSimpArgs false

theorem dg_zero (w : World) (base : Nat) : Dg w base (.slice none 0 0) 0 := by unfold Dg dg; rw [digB_zero]; exact Own.nil
theorem dways_len {total bad sample k : Nat} (hb : bad ≤ total) (ht : total ≤ 512) (hk : k ≤ 513) : (dg (sumTo (wterm total bad sample) k)).length ≤ 67 := by
  have h := ways_le (total := total) (bad := bad) (sample := sample) (seen := k) hb
  rw [ways_sum] at h
  have h1 : sumTo (wterm total bad sample) k ≤ sumTo (wterm total bad sample) (k + 1) := sumTo_mono _ (by omega)
  refine dg_len (m := total + 10) ?_ (by omega)
  have h2 : (k + 1) * 2 ^ total < 1024 * 2 ^ total := Nat.mul_lt_mul_of_pos_right (by omega) (Nat.pow_pos (by decide))
  rw [Nat.pow_add, Nat.mul_comm (2 ^ total)]
  change _ < 1024 * 2 ^ total
  omega

end Go.Proofs.Ythcjlfnkpmeonaa

namespace Go.Proofs.Ythcjlfnkpmeonaa
open Go.RowKit
set_option linter.unusedVariables false
set_option linter.unusedSimpArgs false

set_option maxHeartbeats 400000 in
theorem rboth_any (A : Option Addr) (c : Nat) (l : List Nat) (C : Option Addr) (d : Nat) (m : List Nat) (w : World) :
    Calls Try.prog 53 #[.slice A l.length c, .slice C m.length d] w fun e w' => e = .returned (.int .i64 (long2E l m)) ∧ w = w' := by
  by_cases h1 : 64 < l.length <;> by_cases h2 : 64 < m.length
  all_goals (
    go_enter Try.func53, Try.ntmps53
    go_wp2
    go_ret
    exact ⟨ret_int (by unfold long2E; split <;> omega), rfl⟩)

theorem dg_nil_len {n : Nat} : (dg n).length = 0 ↔ n = 0 := by rw [List.length_eq_zero_iff]; exact digB_nil b8

set_option maxRecDepth 100000 in
set_option maxHeartbeats 1000000 in
theorem rCheckFrac_any (f : Frc) (w : World) (h : f.In w) :
    Calls Try.prog 27 #[f.val] w fun e w' => e = .returned (.int .i64 (validE [f])) ∧ Below w.heap.size w w' := by
  unfold Frc.val
  have hb0 := below_alloc (Below.refl w.heap.size w) (.cells #[.slice f.A f.l.length f.c, .slice f.C f.m.length f.d] 30)
  have cB := fun w' => rboth_any f.A f.c f.l f.C f.d f.m w'
  cases hlg : f.lng
  · have h0 := lng_iff.1 hlg
    rw [h0] at cB
    have a2 := (long2E_zero.1 h0).2
    have cD := digits_any f.C f.d f.m _ (h.on hb0).d (by omega)
    by_cases hz : V f.m = 0
    · have hv : Hid (validE [f] = 7) := Lib.hid (by unfold validE; simp [hlg, Frc.zro, hz])
      rw [hz] at cD
      rw [hv.out]
      have e0 : (dg 0).length = 0 := dg_nil_len.2 rfl
      clear hlg h0 hz
      go_enter Try.func27, Try.ntmps27
      go_wp2_with fail
      refine (cB _).mono ?_
      rintro e w' ⟨rfl, rfl⟩
      go_wp2_with fail
      refine cD.mono ?_
      rintro e w2 ⟨v, rfl, b, hb2⟩
      obtain ⟨A1, c1, hv1, n1⟩ := b.dn
      rw [hv1, e0]
      go_wp2_with fail
      go_ret
      exact ⟨rfl, below_trans hb0 hb2⟩
    · have hv : Hid (validE [f] = 0) := Lib.hid (by unfold validE; simp [hlg, Frc.zro, hz])
      rw [hv.out]
      have e0 : (((dg (V f.m)).length : Int) == 0) = false := by
        have : (dg (V f.m)).length ≠ 0 := fun h' => hz (dg_nil_len.1 h')
        simp; exact fun h' => this (by rw [h']; rfl)
      clear hlg h0 hz
      go_enter Try.func27, Try.ntmps27
      go_wp2_with fail
      refine (cB _).mono ?_
      rintro e w' ⟨rfl, rfl⟩
      go_wp2_with fail
      refine cD.mono ?_
      rintro e w2 ⟨v, rfl, b, hb2⟩
      obtain ⟨A1, c1, hv1, n1⟩ := b.dn
      rw [hv1]
      go_wp2_with fail
      go_ret
      exact ⟨rfl, below_trans hb0 hb2⟩
  · have h0 : long2E f.l f.m = 4 := by
      unfold Frc.lng at hlg
      unfold long2E; rw [if_pos (by simpa using hlg)]
    rw [h0] at cB
    have hv : Hid (validE [f] = 4) := Lib.hid (by unfold validE; simp [hlg])
    rw [hv.out]
    clear hlg h0
    go_enter Try.func27, Try.ntmps27
    go_wp2_with fail
    refine (cB _).mono ?_
    rintro e w' ⟨rfl, rfl⟩
    go_wp2_with fail
    go_ret
    exact ⟨rfl, hb0⟩

end Go.Proofs.Ythcjlfnkpmeonaa

namespace Go.Proofs.Ythcjlfnkpmeonaa
open Go.RowKit
set_option linter.unusedVariables false
set_option linter.unusedSimpArgs false

theorem dg_limbs_len {l : List Nat} (h : Dig B32 l) {k : Nat} (hk : 4 * l.length ≤ k) : (dg (V l)).length ≤ k := by
  refine Nat.le_trans (dg_len (V_lt h) (k := 4 * l.length) (by omega)) hk
theorem pair_cases (f g : Frc) : (validE [f] = 4 ∧ validE [f, g] = 4) ∨ ((validE [f] == 4) = false ∧ validE [g] = 4 ∧ validE [f, g] = 4) ∨
    (validE [f] = 7 ∧ (validE [g] == 4) = false ∧ validE [f, g] = 7) ∨ (validE [f] = 0 ∧ validE [g] = 7 ∧ validE [f, g] = 7) ∨ (validE [f] = 0 ∧ validE [g] = 0 ∧ validE [f, g] = 0) := by
  unfold validE
  cases h1 : f.lng <;> cases h2 : g.lng <;> cases h3 : f.zro <;> cases h4 : g.zro <;> simp [h1, h2, h3, h4]

end Go.Proofs.Ythcjlfnkpmeonaa

namespace Go.Proofs.Ythcjlfnkpmeonaa
open Go.RowKit
set_option linter.unusedVariables false
set_option linter.unusedSimpArgs false

end Go.Proofs.Ythcjlfnkpmeonaa

namespace Go.Proofs.Ythcjlfnkpmeonaa
open Go.RowKit
set_option linter.unusedVariables false
set_option linter.unusedSimpArgs false

end Go.Proofs.Ythcjlfnkpmeonaa
