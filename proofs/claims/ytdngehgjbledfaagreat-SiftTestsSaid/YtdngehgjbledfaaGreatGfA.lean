/- Contracts of algebra's modulus and times. For the widths 8, 16 and 32, and elements of the field. -/
import Derived.Test.YtdngehgjbledfaaGreatProg
import Derived.Test.YtdngehgjbledfaaGreatGfQ
import Derived.Test.YtdngehgjbledfaaGreatMade
import Derived.Laws.BitsAllLaws
namespace Go.Proofs.YtdngehgjbledfaaGreat
open Go.RowKit
set_option linter.unusedVariables false
set_option linter.unusedSimpArgs false

theorem hi_bit {w c : Nat} (hw : 1 ≤ w) (hc : c < 2 ^ w) : ((c : Int) * 2 / 2 ^ w != 0) = c.testBit (w - 1) := by
  obtain ⟨k, rfl⟩ : ∃ k, w = k + 1 := ⟨w - 1, by omega⟩
  have e : (c : Int) * 2 / 2 ^ (k + 1) = ((c / 2 ^ k : Nat) : Int) := by
    have : (c : Int) * 2 / 2 ^ (k + 1) = ((c * 2 / 2 ^ (k + 1) : Nat) : Int) := by simp
    rw [this, Nat.pow_succ, Nat.mul_div_mul_right _ _ (by decide)]
  rw [e, Nat.add_sub_cancel, Nat.testBit_eq_decide_div_mod_eq]
  rw [Nat.pow_succ] at hc
  have hlt : c / 2 ^ k < 2 := by rw [Nat.div_lt_iff_lt_mul (Nat.pow_pos (by decide))]; omega
  generalize c / 2 ^ k = q at *
  rcases (show q = 0 ∨ q = 1 by omega) with rfl | rfl <;> rfl
theorem lo_bit {d : Nat} (hd : d < 4294967296) : (bits BinOp.and IntKind.u64 (d : Int) 1 == 1) = decide (d % 2 = 1) := by
  rw [show (1 : Int) = ((1 : Nat) : Int) from rfl, u64_and_nat d 1 (by omega) (by omega), Nat.and_one_is_mod]
  rw [Bool.eq_iff_iff]; simp; omega
theorem shl_two (c : Nat) : c <<< 1 = c * 2 := by rw [Nat.shiftLeft_eq]
theorem gp_lt (w : Nat) : gp w < 4294967437 + 1 := by unfold gp; split <;> (try split) <;> decide
theorem xor_u64 {a b : Nat} (ha : a < 9000000000) (hb : b < 9000000000) : bits .xor .u64 (a : Int) (b : Int) = ((a ^^^ b : Nat) : Int) := u64_xor_nat a b (by omega) (by omega)

end Go.Proofs.YtdngehgjbledfaaGreat
