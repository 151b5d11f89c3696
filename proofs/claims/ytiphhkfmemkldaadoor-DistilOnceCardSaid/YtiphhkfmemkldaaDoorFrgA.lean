/- Contracts of keys, Collisions, Forgeries and Tag, the program's and the reference's. For any width, messages of any length, numbers of 64 bits. -/
import Derived.Test.YtiphhkfmemkldaaDoorDigA
import Derived.Test.YtiphhkfmemkldaaDoorGfR
namespace Go.Proofs.YtiphhkfmemkldaaDoor
open Go.RowKit
set_option linter.unusedVariables false
set_option linter.unusedSimpArgs false

theorem horner_lt {w key : Nat} (hw : Wd w) (cs : List Nat) (h : ∀ c ∈ cs, c < 2 ^ w) : horner w key cs < 2 ^ w := by
  have go : ∀ (cs : List Nat) (g : Nat), g < 2 ^ w → (∀ c ∈ cs, c < 2 ^ w) → cs.foldl (fun h c => gm w (h ^^^ c) key) g < 2 ^ w := by
    intro cs
    induction cs with
    | nil => intro g hg _; exact hg
    | cons c cs ih => intro g hg hc; exact ih _ (gm_lt hw _ _ (Nat.xor_lt_two_pow hg (hc c (by simp)))) (fun y hy => hc y (by simp [hy]))
  exact go cs 0 (Nat.pow_pos (by decide)) h
theorem hashN_lt {w key : Nat} (hw : Wd w) (m : List Bool) : hashN w key m < 2 ^ w :=
  horner_lt hw _ (wordsL_lt (by rcases hw with h | h | h <;> omega) m)
theorem hashN_64 {w key : Nat} (hw : Wd w) (m : List Bool) : hashN w key m < 2 ^ 64 :=
  Nat.lt_of_lt_of_le (hashN_lt hw m) (Nat.pow_le_pow_right (by decide) (by rcases hw with h | h | h <;> omega))

def kyE (a b : List Bool) : Int := if 512 < a.length ∨ 512 < b.length then 4 else 0
def kyN (w : Nat) (a b : List Bool) (by_ : Nat) : Nat := if 512 < a.length ∨ 512 < b.length then 0 else keyN w a b by_

theorem xor_test {x y b : Nat} : (((x ^^^ y : Nat) : Int) == (b : Int)) = decide (x ^^^ y = b) := by
  rw [Bool.eq_iff_iff]; simp; omega
theorem eq_test {x y : Nat} : ((x : Int) == (y : Int)) = decide (x ^^^ y = 0) := by
  rw [Bool.eq_iff_iff]; simp
  constructor
  · intro h; have : x = y := by omega
    rw [this, Nat.xor_self]
  · intro h
    have := congrArg (fun z => z ^^^ y) h
    simp [Nat.xor_assoc] at this
    omega
theorem frg_test {x y t f : Nat} : (((y ^^^ (x ^^^ t) : Nat) : Int) == (f : Int)) = decide (x ^^^ y = t ^^^ f) := by
  rw [Bool.eq_iff_iff]; simp
  have key : y ^^^ (x ^^^ t) = f ↔ x ^^^ y = t ^^^ f := by
    constructor
    · intro h
      rw [← h, ← Nat.xor_assoc y, Nat.xor_comm t, Nat.xor_assoc, Nat.xor_self, Nat.xor_zero, Nat.xor_comm]
    · intro h
      rw [← Nat.xor_assoc, Nat.xor_comm y, h, Nat.xor_comm t, Nat.xor_assoc, Nat.xor_self, Nat.xor_zero]
  omega

end Go.Proofs.YtiphhkfmemkldaaDoor
