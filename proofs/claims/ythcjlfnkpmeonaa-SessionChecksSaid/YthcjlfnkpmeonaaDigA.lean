/- Contracts of Digest and Confirm, the program's and the reference's. For any width, key and digest; strings of at most 100000 bits. -/
import Derived.Test.YthcjlfnkpmeonaaGfK
namespace Go.Proofs.Ythcjlfnkpmeonaa
open Go.RowKit
set_option linter.unusedVariables false
set_option linter.unusedSimpArgs false

def digE (w : Int) (key : Nat) (m : List Bool) : Int := if 512 < m.length then 4 else hshE w key m
def digN (w : Int) (key : Nat) (m : List Bool) : Nat := if 512 < m.length then 0 else hshN w key m
def cfE (w : Int) (key : Nat) (m : List Bool) (d : Nat) : Int := if digE w key m = 0 ∧ digN w key m ≠ d then 19 else digE w key m

/-- The three ways through Confirm. -/
theorem cf_cases (w : Int) (key : Nat) (m : List Bool) (d : Nat) :
    (cfE w key m d = digE w key m ∧ (digE w key m == 0) = false) ∨ (cfE w key m d = 0 ∧ digE w key m = 0 ∧ digN w key m = d) ∨ (cfE w key m d = 19 ∧ digE w key m = 0 ∧ ((digN w key m : Int) != (d : Int)) = true) := by
  by_cases h : digE w key m = 0
  · by_cases h2 : digN w key m = d
    · right; left; exact ⟨by unfold cfE; rw [if_neg (by simp [h2]), h], h, h2⟩
    · right; right; exact ⟨by unfold cfE; rw [if_pos ⟨h, h2⟩], h, by simp; omega⟩
  · left; exact ⟨by unfold cfE; rw [if_neg (by simp [h])], by simpa using h⟩

end Go.Proofs.Ythcjlfnkpmeonaa
