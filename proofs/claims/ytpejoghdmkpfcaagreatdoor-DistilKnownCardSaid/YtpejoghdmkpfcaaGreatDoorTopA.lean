/- Contracts of algebra's zip (with differ) and Toeplitz, and of the reference's Toeplitz. For at most 512 bits, a result of at most 512 bits, a seed that fits. -/
import Derived.Test.YtpejoghdmkpfcaaGreatDoorDrwA
import Derived.Test.YtpejoghdmkpfcaaGreatDoorBits2
import Derived.Test.YtpejoghdmkpfcaaGreatDoorGfC
namespace Go.Proofs.YtpejoghdmkpfcaaGreatDoor
open Go.RowKit
set_option linter.unusedVariables false
set_option linter.unusedSimpArgs false

/-- The bit i of a Toeplitz hash, of the first columns. -/
def toC (seed a : List Bool) (i : Nat) : Nat → Bool
  | 0 => false
  | k + 1 => toC seed a i k != ((a[k]?).getD false && (seed[i + (a.length - 1 - k)]?).getD false)
def toepK (seed a : List Bool) (out k : Nat) : List Bool := (List.range out).map (fun i => toC seed a i k)
def toepL (seed a : List Bool) (out : Nat) : List Bool := toepK seed a out a.length
theorem toepK_len (seed a : List Bool) (out k : Nat) : (toepK seed a out k).length = out := by simp [toepK]
theorem toepK_zero (seed a : List Bool) (out : Nat) : toepK seed a out 0 = List.replicate out false := by
  refine List.ext_getElem? fun i => ?_
  simp only [toepK, List.getElem?_map, List.getElem?_replicate]
  by_cases h : i < out
  · rw [List.getElem?_range h, if_pos h]; rfl
  · rw [List.getElem?_eq_none (by simpa using h), if_neg h]; rfl
theorem toepK_no {seed a : List Bool} {out k : Nat} (h : a[k]? = some false) : toepK seed a out (k + 1) = toepK seed a out k := by
  unfold toepK
  congr 1
  funext i
  rw [toC, h]; simp
theorem toepK_yes {seed a : List Bool} {out k : Nat} (h : a[k]? = some true) (hs : a.length - 1 - k + out ≤ seed.length) : toepK seed a out (k + 1) = xorL (toepK seed a out k) ((seed.drop (a.length - 1 - k)).take out) := by
  refine List.ext_getElem? fun i => ?_
  simp only [toepK, xorL, List.getElem?_map, List.getElem?_zipWith, List.getElem?_take, List.getElem?_drop]
  by_cases hi : i < out
  · rw [List.getElem?_range hi, if_pos hi]
    have hlt : a.length - 1 - k + i < seed.length := by omega
    rw [List.getElem?_eq_getElem hlt]
    simp only [Option.map_some]
    rw [toC, h, Nat.add_comm i, List.getElem?_eq_getElem hlt]
    simp
  · rw [List.getElem?_eq_none (by simpa using hi)]; simp

end Go.Proofs.YtpejoghdmkpfcaaGreatDoor
