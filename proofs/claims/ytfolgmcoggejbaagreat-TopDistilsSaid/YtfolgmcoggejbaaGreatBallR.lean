/- Contracts of the reference's Ball, bits and Bits. For at most 512 things. -/
import Derived.Test.YtfolgmcoggejbaaGreatRefAll
import Derived.Test.YtfolgmcoggejbaaGreatBallA
namespace Go.Proofs.YtfolgmcoggejbaaGreat
open Go.RowKit
set_option linter.unusedVariables false
set_option linter.unusedSimpArgs false

theorem dg_nil (w : World) (base : Nat) : Dg w base (.slice none 0 0) 0 := by unfold Dg dg; rw [digB_zero]; exact Own.nil
theorem dball_len {n k : Nat} (hk : k ≤ n + 1) (hn : n ≤ 512) : (dg (sumTo (ch n) k)).length ≤ 65 :=
  dg_len (m := n + 1) (Nat.lt_of_le_of_lt (ballS_le hk) (Nat.pow_lt_pow_right (by decide) (by omega))) (by omega)

theorem b8_pow2 (k : Nat) : 256 ^ k = 2 ^ (8 * k) := by rw [Nat.pow_mul]
theorem bitLen_dg {n k x : Nat} (hl : (dg n).length = k + 1) (hx : (dg n)[k]? = some x) : 0 < x ∧ x < 256 ∧ bitLen n = 8 * k + bitLen x := by
  have hv := dg_val n
  have hd : Dig 256 (dg n) := digB_dig b8 n
  have hx2 := hd.get hx
  have hsp := valB_snoc (b := 256) hx
  rw [List.take_of_length_le (by omega)] at hsp
  have hlo := valB_lt (hd.take k)
  rw [List.length_take, Nat.min_eq_left (by omega)] at hlo
  rw [b8_pow2] at hsp hlo
  have h0 : 0 < x := by
    rcases Nat.eq_zero_or_pos x with rfl | h
    · exfalso
      rw [Nat.mul_zero, Nat.add_zero] at hsp
      have : n < 256 ^ k := by rw [b8_pow2]; omega
      have := digB_len_le b8 this
      unfold dg at hl; omega
    · exact h
  refine ⟨h0, hx2, ?_⟩
  rw [← bitLen_high hlo h0, ← hsp, hv]

end Go.Proofs.YtfolgmcoggejbaaGreat
