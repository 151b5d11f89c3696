/- Contracts of the reference's Words and Hash. For the widths 8, 16 and 32; for strings of at most 100000 bits. -/
import Derived.Test.YtbobbcfjjdmdgaaGfB
namespace Go.Proofs.Ytbobbcfjjdmdgaa
open Go.RowKit
set_option linter.unusedVariables false
set_option linter.unusedSimpArgs false

def enc64 (n : Nat) : List Value := [.int .u64 (n : Int)]
theorem enc64_len (c : Nat) : (enc64 c).length = 1 := rfl
theorem enc64_one (c : Nat) : ∀ u ∈ enc64 c, u.oneCell' = true := by simp [enc64, Value.oneCell']
theorem Arr.u64 {w w' : World} {B : Nat} {A : Option Addr} {k : Nat} {l : List Nat} (h : Arr 1 enc64 w B A l) (hk : k < l.length) (hb : Below B w w') :
    ∃ b off x, A = some ⟨b, off, none⟩ ∧ b < B ∧ Hid (l[k]? = some x) ∧ w'.cell? ⟨b, off + k, none⟩ = some (.int .u64 (x : Int)) := by
  obtain ⟨b, off, rfl, hbb, hc⟩ := h.get hk hb
  exact ⟨b, off, _, rfl, hbb, List.getElem?_eq_getElem hk, by have := hc 0 _ rfl; simpa using this⟩
theorem u64_info : (Try.prog.info? 45).map (fun i => (i.zero, i.size, i.bytes)) = some (some (.int .u64 0), 1, 8) := by kernel_rfl
theorem bool_info : (Try.prog.info? 4).map (fun i => (i.zero, i.size, i.bytes)) = some (some (.bool false), 1, 1) := by kernel_rfl
theorem Arr.drop {α : Type} {sz : Nat} {enc : α → List Value} {w : World} {B b off : Nat} {l : List α} (h : Arr sz enc w B (some ⟨b, off, none⟩) l) (n : Nat) : Arr sz enc w B (some ⟨b, off + n * sz, none⟩) (l.drop n) := fun hl => by
  obtain ⟨b', off', e, hbb, hc⟩ := h (by rintro rfl; simp at hl)
  simp only [Option.some.injEq, Addr.mk.injEq, and_true] at e
  obtain ⟨rfl, rfl⟩ := e
  refine ⟨b, off + n * sz, rfl, hbb, fun i x hx j u hu => ?_⟩
  rw [List.getElem?_drop] at hx
  have := hc (n + i) x hx j u hu
  rw [Nat.add_mul] at this
  rwa [← Nat.add_assoc] at this

theorem arr_take {α : Type} {sz : Nat} {enc : α → List Value} {w : World} {B : Nat} {A : Option Addr} {l : List α} (h : Arr sz enc w B A l) (n : Nat) : Arr sz enc w B A (l.take n) := fun hl => by
  obtain ⟨b, off, rfl, hbb, hc⟩ := h (by rintro rfl; simp at hl)
  refine ⟨b, off, rfl, hbb, fun i x hx j u hu => hc i x ?_ j u hu⟩
  rw [List.getElem?_take] at hx
  split at hx
  · exact hx
  · cases hx
/-- The length of a slice. -/
def lenOf : Value → Nat
  | .slice _ n _ => n
  | _ => 0
/-- So many bits are added. -/
def padN (w n : Nat) : Nat := if (n + 1) % w = 0 then 0 else w - (n + 1) % w
theorem padN_lt {w n : Nat} (hw : 0 < w) : padN w n < w := by
  unfold padN
  split
  · exact hw
  · omega
theorem padN_end {w n : Nat} (hw : 0 < w) : (n + 1 + padN w n) % w = 0 := by
  unfold padN
  split
  · rename_i h; simpa using h
  · have h1 := Nat.div_add_mod (n + 1) w
    have h2 := Nat.mod_lt (n + 1) hw
    have : n + 1 + (w - (n + 1) % w) = w * ((n + 1) / w + 1) := by rw [Nat.mul_add]; omega
    rw [this]; exact Nat.mul_mod_right _ _
theorem padN_mid {w n z : Nat} (hw : 0 < w) (hz : z < padN w n) : (n + 1 + z) % w ≠ 0 := by
  unfold padN at hz
  split at hz
  · omega
  · rename_i h
    have h1 := Nat.div_add_mod (n + 1) w
    have h2 := Nat.mod_lt (n + 1) hw
    have : n + 1 + z = ((n + 1) % w + z) + w * ((n + 1) / w) := by omega
    rw [this, Nat.add_mul_mod_self_left, Nat.mod_eq_of_lt (by omega)]
    omega
theorem chunk_next {w j : Nat} {l : List Bool} (hw : 0 < w) (h : j * w + w ≤ l.length) : chunks w (l.drop (j * w)) = bval ((l.drop (j * w)).take w) :: chunks w (l.drop ((j + 1) * w)) := by
  rw [chunks_more hw (by rw [List.length_drop]; omega), List.drop_drop, Nat.add_mul, Nat.one_mul]

end Go.Proofs.Ytbobbcfjjdmdgaa
