/- Contracts of the reference's pair and FracCompare. For at most 900000 limbs. -/
import Derived.Test.YtbobbcfjjdmdgaaRefJ
namespace Go.Proofs.Ytbobbcfjjdmdgaa
open Go.RowKit
set_option linter.unusedVariables false
set_option linter.unusedSimpArgs false

theorem dg_limbs_len {l : List Nat} (h : Dig B32 l) {k : Nat} (hk : 4 * l.length ≤ k) : (dg (V l)).length ≤ k := by
  refine Nat.le_trans (dg_len (V_lt h) (k := 4 * l.length) (by omega)) hk
theorem pair_cases (f g : Frc) : (validE [f] = 4 ∧ validE [f, g] = 4) ∨ ((validE [f] == 4) = false ∧ validE [g] = 4 ∧ validE [f, g] = 4) ∨
    (validE [f] = 7 ∧ (validE [g] == 4) = false ∧ validE [f, g] = 7) ∨ (validE [f] = 0 ∧ validE [g] = 7 ∧ validE [f, g] = 7) ∨ (validE [f] = 0 ∧ validE [g] = 0 ∧ validE [f, g] = 0) := by
  unfold validE
  cases h1 : f.lng <;> cases h2 : g.lng <;> cases h3 : f.zro <;> cases h4 : g.zro <;> simp [h1, h2, h3, h4]

end Go.Proofs.Ytbobbcfjjdmdgaa
