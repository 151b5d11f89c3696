/- Contracts of algebra's number and of the reference's Word, modulus, Mul. For strings of at most 40 bits; for elements of the field. -/
import Derived.Test.YtdngehgjbledfaaGreatGfA
import Derived.Test.YtdngehgjbledfaaGreatGfW
namespace Go.Proofs.YtdngehgjbledfaaGreat
open Go.RowKit
set_option linter.unusedVariables false
set_option linter.unusedSimpArgs false

theorem or_one {n : Nat} (h : n < 4611686018427387904) : bits .or .u64 ((n : Int) * 2) 1 = ((2 * n + 1 : Nat) : Int) := by
  have e := u64_or_nat (n * 2) 1 (by omega) (by omega)
  have e2 : (n * 2) ||| 1 = 2 * n + 1 := by
    have := Nat.two_pow_add_eq_or_of_lt (i := 1) (b := 1) (by decide) n
    rw [Nat.mul_comm n 2]
    simpa using this.symm
  rw [e2] at e
  rw [← e]; simp

theorem bit_eq (b k : Nat) : (((b : Int) / 2 ^ k).tmod 2 == 1) = b.testBit k := by
  have e : ((b : Int) / 2 ^ k).tmod 2 = ((b / 2 ^ k % 2 : Nat) : Int) := by
    have : (b : Int) / 2 ^ k = ((b / 2 ^ k : Nat) : Int) := by simp
    rw [this]; rfl
  rw [e, Nat.testBit_eq_decide_div_mod_eq]
  have : b / 2 ^ k % 2 < 2 := Nat.mod_lt _ (by decide)
  generalize b / 2 ^ k % 2 = q at *
  rcases (show q = 0 ∨ q = 1 by omega) with rfl | rfl <;> rfl
theorem shl_fit {a k : Nat} (ha : a < 8589934592) (hk : k ≤ 31) : IntKind.u64.wrap ((a : Int) * 2 ^ k) = ((a <<< k : Nat) : Int) ∧ a <<< k < 2 ^ 64 := by
  have h1 : a <<< k < 2 ^ 64 := by
    rw [Nat.shiftLeft_eq]
    calc a * 2 ^ k < 2 ^ 33 * 2 ^ k := Nat.mul_lt_mul_of_pos_right (by omega) (Nat.pow_pos (by decide))
      _ ≤ 2 ^ 33 * 2 ^ 31 := Nat.mul_le_mul_left _ (Nat.pow_le_pow_right (by decide) hk)
      _ = 2 ^ 64 := by decide
  refine ⟨?_, h1⟩
  have e : (a : Int) * 2 ^ k = ((a <<< k : Nat) : Int) := by rw [Nat.shiftLeft_eq]; simp
  rw [e]
  generalize a <<< k = x at *
  have h2 : x < 18446744073709551616 := h1
  simp [IntKind.wrap, IntKind.bits, IntKind.signed]
  omega
theorem xor_64 {a b : Nat} (ha : a < 2 ^ 64) (hb : b < 2 ^ 64) : bits .xor .u64 (a : Int) (b : Int) = ((a ^^^ b : Nat) : Int) := u64_xor_nat a b ha hb
theorem clN_lt {a b : Nat} (ha : a < 4294967296) : ∀ k, k ≤ 32 → clN a b k < 2 ^ 64
  | 0, _ => Nat.pow_pos (by decide)
  | k + 1, hk => by
    rw [clN]
    refine Nat.xor_lt_two_pow (clN_lt ha k (by omega)) ?_
    split
    · exact (shl_fit (by omega) (by omega)).2
    · exact Nat.pow_pos (by decide)

end Go.Proofs.YtdngehgjbledfaaGreat
