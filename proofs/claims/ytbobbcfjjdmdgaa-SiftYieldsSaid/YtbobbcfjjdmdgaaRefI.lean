/- Contract of the reference's ways. For at most 512 things. -/
import Derived.Test.YtbobbcfjjdmdgaaRefAll
import Derived.Test.YtbobbcfjjdmdgaaNatI
namespace Go.Proofs.Ytbobbcfjjdmdgaa
open Go.RowKit
set_option linter.unusedVariables false
set_option linter.unusedSimpArgs false

theorem dg_zero (w : World) (base : Nat) : Dg w base (.slice none 0 0) 0 := by unfold Dg dg; rw [digB_zero]; exact Own.nil
theorem dways_len {total bad sample k : Nat} (hb : bad ≤ total) (ht : total ≤ 512) (hk : k ≤ 513) : (dg (sumTo (wterm total bad sample) k)).length ≤ 67 := by
  have h := ways_le (total := total) (bad := bad) (sample := sample) (seen := k) hb
  rw [ways_sum] at h
  have h1 : sumTo (wterm total bad sample) k ≤ sumTo (wterm total bad sample) (k + 1) := sumTo_mono _ (by omega)
  refine dg_len (m := total + 10) ?_ (by omega)
  have h2 : (k + 1) * 2 ^ total < 1024 * 2 ^ total := Nat.mul_lt_mul_of_pos_right (by omega) (Nat.pow_pos (by decide))
  rw [Nat.pow_add, Nat.mul_comm (2 ^ total)]
  change _ < 1024 * 2 ^ total
  omega

end Go.Proofs.Ytbobbcfjjdmdgaa
