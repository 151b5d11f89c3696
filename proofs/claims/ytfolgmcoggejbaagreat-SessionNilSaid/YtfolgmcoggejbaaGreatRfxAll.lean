/- Contract of the reference's ways. For at most 512 things. Contracts of the reference's Check, both, CheckFrac, pair, Of of numbers. For at most 900000 limbs. Contracts of the reference's pair and FracCompare. For at most 900000 limbs. Contract of the reference's Bound. For any three numbers, a fraction of at most 900000 limbs. Contracts of the reference's Bound for any numbers, Rate and Judge. For a fraction of at most 900000 limbs. -/
import Derived.Test.YtfolgmcoggejbaaGreatRefAll
import Derived.Test.YtfolgmcoggejbaaGreatNtxAll
import Derived.Test.YtfolgmcoggejbaaGreatRefChk
namespace Go.Proofs.YtfolgmcoggejbaaGreat
open Go.RowKit
set_option linter.unusedVariables false
set_option linter.unusedSimpArgs false

theorem dg_zero (w : World) (base : Nat) : Dg w base (.slice none 0 0) 0 := by unfold Dg dg; rw [digB_zero]; exact Own.nil
theorem dways_len {total bad sample k : Nat} (hb : bad ≤ total) (ht : total ≤ 512) (hk : k ≤ 513) : (dg (sumTo (wterm total bad sample) k)).length ≤ 67 := by
  have h := ways_le (total := total) (bad := bad) (sample := sample) (seen := k) hb
  rw [ways_sum] at h
  have h1 : sumTo (wterm total bad sample) k ≤ sumTo (wterm total bad sample) (k + 1) := sumTo_mono _ (by omega)
  refine dg_len (m := total + 10) ?_ (by omega)
  have h2 : (k + 1) * 2 ^ total < 1024 * 2 ^ total := Nat.mul_lt_mul_of_pos_right (by omega) (Nat.pow_pos (by decide))
  rw [Nat.pow_add, Nat.mul_comm (2 ^ total)]
  change _ < 1024 * 2 ^ total
  omega

end Go.Proofs.YtfolgmcoggejbaaGreat

namespace Go.Proofs.YtfolgmcoggejbaaGreat
open Go.RowKit
set_option linter.unusedVariables false
set_option linter.unusedSimpArgs false

theorem dg_nil_len {n : Nat} : (dg n).length = 0 ↔ n = 0 := by rw [List.length_eq_zero_iff]; exact digB_nil b8

end Go.Proofs.YtfolgmcoggejbaaGreat

namespace Go.Proofs.YtfolgmcoggejbaaGreat
open Go.RowKit
set_option linter.unusedVariables false
set_option linter.unusedSimpArgs false

theorem dg_limbs_len {l : List Nat} (h : Dig B32 l) {k : Nat} (hk : 4 * l.length ≤ k) : (dg (V l)).length ≤ k := by
  refine Nat.le_trans (dg_len (V_lt h) (k := 4 * l.length) (by omega)) hk
theorem pair_cases (f g : Frc) : (validE [f] = 4 ∧ validE [f, g] = 4) ∨ ((validE [f] == 4) = false ∧ validE [g] = 4 ∧ validE [f, g] = 4) ∨
    (validE [f] = 7 ∧ (validE [g] == 4) = false ∧ validE [f, g] = 7) ∨ (validE [f] = 0 ∧ validE [g] = 7 ∧ validE [f, g] = 7) ∨ (validE [f] = 0 ∧ validE [g] = 0 ∧ validE [f, g] = 0) := by
  unfold validE
  cases h1 : f.lng <;> cases h2 : g.lng <;> cases h3 : f.zro <;> cases h4 : g.zro <;> simp [h1, h2, h3, h4]

end Go.Proofs.YtfolgmcoggejbaaGreat

namespace Go.Proofs.YtfolgmcoggejbaaGreat
open Go.RowKit
set_option linter.unusedVariables false
set_option linter.unusedSimpArgs false

end Go.Proofs.YtfolgmcoggejbaaGreat

namespace Go.Proofs.YtfolgmcoggejbaaGreat
open Go.RowKit
set_option linter.unusedVariables false
set_option linter.unusedSimpArgs false

end Go.Proofs.YtfolgmcoggejbaaGreat
