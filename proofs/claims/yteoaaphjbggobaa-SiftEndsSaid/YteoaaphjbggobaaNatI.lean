/- Contract of exact's ways. For at most 512 things. -/
import Derived.Test.YteoaaphjbggobaaNatHc
namespace Go.Proofs.Yteoaaphjbggobaa
open Go.RowKit
set_option linter.unusedVariables false
set_option linter.unusedSimpArgs false

/-- The number of sets that hold i bad things. -/
def wterm (total bad sample i : Nat) : Nat := ch bad i * ch (total - bad) (sample - i)
theorem ways_sum (total bad sample seen : Nat) : waysN total bad sample seen = sumTo (wterm total bad sample) (seen + 1) := rfl
theorem wterm_low {total bad sample i : Nat} (h : total - bad < sample - i) : wterm total bad sample i = 0 := by unfold wterm; rw [ch_gt h]; rfl
theorem wterm_high {total bad sample i : Nat} (h : bad < i) : wterm total bad sample i = 0 := by unfold wterm; rw [ch_gt h, Nat.zero_mul]
theorem sum_low {total bad sample F : Nat} (h : F = sample - (total - bad)) : sumTo (wterm total bad sample) F = 0 := sumTo_zero fun i hi => wterm_low (by omega)
theorem sum_all {total bad sample seen M : Nat} (h : seen ≤ bad ∧ M = seen ∨ bad < seen ∧ M = bad) : sumTo (wterm total bad sample) (M + 1) = waysN total bad sample seen := by
  rw [ways_sum]
  rcases h with ⟨_, rfl⟩ | ⟨h, rfl⟩
  · rfl
  · exact (sumTo_stop _ (by omega) fun i hi => wterm_high (by omega)).symm
theorem sum_none {total bad sample seen F M : Nat} (hF : F = sample - (total - bad)) (h : seen ≤ bad ∧ M = seen ∨ bad < seen ∧ M = bad) (hlt : M < F) : waysN total bad sample seen = 0 := by
  rw [← sum_all h]
  refine sumTo_zero fun i hi => wterm_low (by omega)
theorem limbs_mul (a b : Nat) : (limbs (a * b)).length ≤ (limbs a).length + (limbs b).length := by
  refine digB_len_le b32 ?_
  rw [Nat.pow_add]
  exact Nat.mul_lt_mul'' (digB_lt b32 a) (digB_lt b32 b)
theorem big_zero (w : World) (base : Nat) : Big w base (.slice none 0 0) 0 := by unfold Big limbs; rw [digB_zero]; exact Own.nil
theorem ways_len {total bad sample seen k : Nat} (hb : bad ≤ total) (ht : total ≤ 512) (hk : k ≤ 513) : (limbs (sumTo (wterm total bad sample) k)).length ≤ 17 := by
  have h := ways_le (total := total) (bad := bad) (sample := sample) (seen := k) hb
  rw [ways_sum] at h
  have h1 : sumTo (wterm total bad sample) k ≤ sumTo (wterm total bad sample) (k + 1) := sumTo_mono _ (by omega)
  refine limbs_len (m := total + 10) ?_ (by omega)
  have h2 : (k + 1) * 2 ^ total < 1024 * 2 ^ total := Nat.mul_lt_mul_of_pos_right (by omega) (Nat.pow_pos (by decide))
  rw [Nat.pow_add, Nat.mul_comm (2 ^ total)]
  change _ < 1024 * 2 ^ total
  omega

end Go.Proofs.Yteoaaphjbggobaa
