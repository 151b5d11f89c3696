/- Contracts of Collisions and Forgeries, the program's and the reference's. For any width, messages of any length, numbers of 64 bits. -/
import Derived.Test.YtiphhkfmemkldaaDoorFrgA
namespace Go.Proofs.YtiphhkfmemkldaaDoor
open Go.RowKit
set_option linter.unusedVariables false
set_option linter.unusedSimpArgs false

def w2B (w : Int) : Bool := decide (w = 8 ∨ w = 16)
theorem w2_cases (w : Int) : (∃ n : Nat, w = (n : Int) ∧ W2 n ∧ w2B w = true) ∨ (w2B w = false ∧ (w != 8) = true ∧ (w != 16) = true) := by
  by_cases h : w = 8 ∨ w = 16
  · left
    rcases h with rfl | rfl
    · exact ⟨8, rfl, .inl rfl, by decide⟩
    · exact ⟨16, rfl, .inr rfl, by decide⟩
  · right
    refine ⟨by simpa [w2B] using h, ?_, ?_⟩ <;> (simp; omega)
theorem w2_tests {n : Nat} (h : W2 n) : (((n : Int) != 8) = true ∧ ((n : Int) != 16) = false) ∨ ((n : Int) != 8) = false := by
  rcases h with rfl | rfl
  · exact .inr (by decide)
  · exact .inl ⟨by decide, by decide⟩
/-- The error, and the number, of Collisions. -/
def colE (w : Int) (a b : List Bool) : Int := if w2B w = true then kyE a b else 2
def colN (w : Int) (a b : List Bool) : Nat := if w2B w = true then kyN w.toNat a b 0 else 0
theorem cl_no {w : Int} (h : w2B w = false) (a b : List Bool) : colE w a b = 2 ∧ colN w a b = 0 := by
  unfold colE colN; rw [if_neg (by simp [h]), if_neg (by simp [h])]; exact ⟨rfl, rfl⟩
theorem cl_yes {n : Nat} (h : w2B (n : Int) = true) (a b : List Bool) : colE n a b = kyE a b ∧ colN n a b = kyN n a b 0 := by
  unfold colE colN; rw [if_pos h, if_pos h]; exact ⟨rfl, by simp⟩

end Go.Proofs.YtiphhkfmemkldaaDoor
