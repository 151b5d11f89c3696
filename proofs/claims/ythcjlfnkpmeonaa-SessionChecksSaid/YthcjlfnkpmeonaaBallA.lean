/- Plain: how many strings have at most so many errors; contracts of exact's Ball and Bits. For at most 512 things. -/
import Derived.Test.YthcjlfnkpmeonaaNumAll
namespace Go.Proofs.Ythcjlfnkpmeonaa
open Go.RowKit
set_option linter.unusedVariables false
set_option linter.unusedSimpArgs false

/-- How many of the first sets are counted. -/
def ballM (n : Nat) (t : Int) : Nat := if t < (n : Int) then (t + 1).toNat else n + 1
def ballN (n : Nat) (t : Int) : Nat := sumTo (ch n) (ballM n t)
theorem ballM_le (n : Nat) (t : Int) : ballM n t ≤ n + 1 := by unfold ballM; split <;> omega
theorem ballS_le {n k : Nat} (hk : k ≤ n + 1) : sumTo (ch n) k ≤ 2 ^ n := by
  have := sumTo_mono (ch n) hk
  rwa [sum_ch n (n + 1) (by omega)] at this
theorem ballN_le (n : Nat) (t : Int) : ballN n t ≤ 2 ^ n := ballS_le (ballM_le n t)
theorem ball_len {n k : Nat} (hk : k ≤ n + 1) (hn : n ≤ 512) : (limbs (sumTo (ch n) k)).length ≤ 17 :=
  limbs_len (k := 17) (m := n + 1) (Nat.lt_of_le_of_lt (ballS_le hk) (Nat.pow_lt_pow_right (by decide) (by omega))) (by omega)
theorem big_nil (w : World) (base : Nat) : Big w base (.slice none 0 0) 0 := by unfold Big limbs; rw [digB_zero]; exact Own.nil

end Go.Proofs.Ythcjlfnkpmeonaa
