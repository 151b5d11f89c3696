/- Contracts of the reference's Fits and hash. For any width from 0 to 64 in Fits; for any width in hash. -/
import Derived.Test.YtfolgmcoggejbaaGreatGfE
namespace Go.Proofs.YtfolgmcoggejbaaGreat
open Go.RowKit
set_option linter.unusedVariables false
set_option linter.unusedSimpArgs false

theorem pow_u64 {n : Nat} (h : n ≤ 32) : IntKind.u64.wrap ((2 : Int) ^ n) = ((2 ^ n : Nat) : Int) := by
  have h1 : 2 ^ n ≤ 4294967296 := Nat.pow_le_pow_right (by decide : 0 < 2) h
  have e : (2 : Int) ^ n = ((2 ^ n : Nat) : Int) := by simp
  rw [e]
  generalize 2 ^ n = x at *
  simp [IntKind.wrap, IntKind.bits, IntKind.signed]
  omega
/-- The error, and the number, of a hash. -/
def hshE (w : Int) (key : Nat) (m : List Bool) : Int := if elE w key = 0 then (if 65536 < m.length then 4 else 0) else elE w key
def hshN (w : Int) (key : Nat) (m : List Bool) : Nat := if hshE w key m = 0 then hashN w.toNat key m else 0
theorem hsh_wd {w : Int} {key : Nat} {m : List Bool} (h : wdB w = false) : hshE w key m = 2 ∧ hshN w key m = 0 := by
  have e : elE w key = 2 := by unfold elE; rw [if_neg (by simp [h])]
  have e2 : hshE w key m = 2 := by unfold hshE; rw [e]; rfl
  exact ⟨e2, by unfold hshN; rw [e2]; rfl⟩
theorem hsh_key {n key : Nat} {m : List Bool} (h : wdB (n : Int) = true) (hk : ¬ key < 2 ^ n) : hshE n key m = 3 ∧ hshN n key m = 0 := by
  have e : elE n key = 3 := by unfold elE; rw [if_pos h]; simp [hk]
  have e2 : hshE n key m = 3 := by unfold hshE; rw [e]; rfl
  exact ⟨e2, by unfold hshN; rw [e2]; rfl⟩
theorem hsh_long {n key : Nat} {m : List Bool} (h : wdB (n : Int) = true) (hk : key < 2 ^ n) (hl : 65536 < m.length) : hshE n key m = 4 ∧ hshN n key m = 0 := by
  have e : elE n key = 0 := by unfold elE; rw [if_pos h]; simp [hk]
  have e2 : hshE n key m = 4 := by unfold hshE; rw [if_pos e, if_pos hl]
  exact ⟨e2, by unfold hshN; rw [e2]; rfl⟩
theorem hsh_ok {n key : Nat} {m : List Bool} (h : wdB (n : Int) = true) (hk : key < 2 ^ n) (hl : ¬ 65536 < m.length) : hshE n key m = 0 ∧ hshN n key m = hashN n key m := by
  have e : elE n key = 0 := by unfold elE; rw [if_pos h]; simp [hk]
  have e2 : hshE n key m = 0 := by unfold hshE; rw [if_pos e, if_neg hl]
  exact ⟨e2, by unfold hshN; rw [if_pos e2]; simp⟩

end Go.Proofs.YtfolgmcoggejbaaGreat
