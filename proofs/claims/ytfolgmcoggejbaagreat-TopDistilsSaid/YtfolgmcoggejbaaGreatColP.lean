/- Words for the statements on collisions and tags: equal bit strings, a struct that was boxed, what the counts say. For the widths 8 and 16. -/
import Derived.Test.YtfolgmcoggejbaaGreatFrgAll
import Derived.Test.YtfolgmcoggejbaaGreatBits2
namespace Go.Proofs.YtfolgmcoggejbaaGreat
open Go.RowKit
set_option linter.unusedVariables false
set_option linter.unusedSimpArgs false

theorem xor_zero_eq : ∀ (a b : List Bool), a.length = b.length → cntL (xorL a b) = 0 → a = b
  | [], [], _, _ => rfl
  | x :: a, y :: b, hl, h => by
    have hx : xorL (x :: a) (y :: b) = (x != y) :: xorL a b := rfl
    rw [hx] at h
    unfold cntL at h
    by_cases e : x = y
    · subst e
      have : cntL (xorL a b) = 0 := by simpa [cntL] using h
      rw [xor_zero_eq a b (by simpa using hl) this]
    · have : (x != y) = true := by simpa using e
      rw [this] at h
      simp at h
  | [], _ :: _, hl, _ => by simp at hl
  | _ :: _, [], hl, _ => by simp at hl

/-- A struct of five cells lies at block v.heap.size; all that lay in v still lies. -/
def Bx5 (v wx : World) (c0 c1 c2 c3 c4 : Value) : Prop := Below v.heap.size v wx ∧ wx.cell? ⟨v.heap.size, 0, none⟩ = some c0 ∧ wx.cell? ⟨v.heap.size, 1, none⟩ = some c1 ∧ wx.cell? ⟨v.heap.size, 2, none⟩ = some c2 ∧ wx.cell? ⟨v.heap.size, 3, none⟩ = some c3 ∧ wx.cell? ⟨v.heap.size, 4, none⟩ = some c4
theorem Bx5.on {v wx wy : World} {c0 c1 c2 c3 c4 : Value} (h : Bx5 v wx c0 c1 c2 c3 c4) (hb : Below wx.heap.size wx wy) : Bx5 v wy c0 c1 c2 c3 c4 :=
  ⟨below_trans h.1 hb, bel_cell hb h.2.1, bel_cell hb h.2.2.1, bel_cell hb h.2.2.2.1, bel_cell hb h.2.2.2.2.1, bel_cell hb h.2.2.2.2.2⟩
theorem Bx5.new (v : World) (c0 c1 c2 c3 c4 : Value) (T : TypeId) : Bx5 v (v.alloc (.cells #[c0, c1, c2, c3, c4] T)) c0 c1 c2 c3 c4 :=
  ⟨below_alloc (Below.refl _ _) _, new_cell rfl, new_cell rfl, new_cell rfl, new_cell rfl, new_cell rfl⟩

theorem dig_ok {n k : Nat} (hn : W2 n) (hk : k < 2 ^ n) {m : List Bool} (hl : m.length ≤ 512) : digE n k m = 0 ∧ digN n k m = hashN n k m := by
  have hB : wdB (n : Int) = true := by rcases hn with rfl | rfl <;> decide
  obtain ⟨h1, h2⟩ := hsh_ok (m := m) hB hk (by omega)
  exact ⟨by unfold digE; rw [if_neg (by omega), h1], by unfold digN; rw [if_neg (by omega), h2]⟩
theorem cntTo_pos {p : Nat → Bool} {k : Nat} (hp : p k = true) : ∀ n, k < n → 0 < cntTo p n
  | 0, h => by omega
  | n + 1, h => by
    rw [cntTo]
    by_cases e : k = n
    · subst e; rw [if_pos hp]; omega
    · have := cntTo_pos hp n (by omega); omega
/-- A block that is confirmed by another one's digest is counted. -/
theorem cf_col {n k : Nat} (hn : W2 n) (hk : k < 2 ^ n) {a b : List Bool} (hb : b.length ≤ 512) (h : cfE n k b (hashN n k a) = 0) : 0 < keyN n a b 0 := by
  obtain ⟨e1, e2⟩ := dig_ok hn hk hb
  unfold cfE at h
  rw [e1, e2] at h
  have e : hashN n k b = hashN n k a := by
    by_cases e : hashN n k b = hashN n k a
    · exact e
    · rw [if_pos ⟨rfl, e⟩] at h; cases h
  refine cntTo_pos (k := k) ?_ _ hk
  unfold keyP
  rw [decide_eq_true_eq]
  show hashN n k a ^^^ hashN n k b = 0
  rw [e, Nat.xor_self]
theorem ky_ok (n : Nat) {a b : List Bool} (ha : a.length ≤ 512) (hb : b.length ≤ 512) (by_ : Nat) : kyE a b = 0 ∧ kyN n a b by_ = keyN n a b by_ :=
  ⟨by unfold kyE; rw [if_neg (by omega)], by unfold kyN; rw [if_neg (by omega)]⟩
theorem ky_long (n : Nat) {a b : List Bool} (h : 512 < a.length ∨ 512 < b.length) (by_ : Nat) : kyE a b = 4 ∧ kyN n a b by_ = 0 :=
  ⟨by unfold kyE; rw [if_pos h], by unfold kyN; rw [if_pos h]⟩
theorem col_long (w : Int) {a b : List Bool} (h : 512 < a.length ∨ 512 < b.length) : (colE w a b != 0) = true := by
  unfold colE; split
  · rw [(ky_long 0 h 0).1]; rfl
  · rfl

end Go.Proofs.YtfolgmcoggejbaaGreat
