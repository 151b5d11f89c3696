/- Plain: numbers as lists of digits to a base, the lowest one first. No condition. -/
import Derived.Test.YtmlppnapodamaaaBase
namespace Go.Proofs.Ytmlppnapodamaaa
open Go.RowKit
set_option linter.unusedVariables false
set_option linter.unusedSimpArgs false

/-- The number with these digits. -/
def valB (b : Nat) : List Nat → Nat
  | [] => 0
  | x :: l => x + b * valB b l
/-- The digits of a number, without zeros at the end. -/
def digB (b n : Nat) : List Nat := if h : 2 ≤ b ∧ 0 < n then n % b :: digB b (n / b) else []
termination_by n
decreasing_by exact Nat.div_lt_self h.2 h.1
/-- Without zeros at the end. -/
def trimL : List Nat → List Nat
  | [] => []
  | x :: l => if trimL l = [] ∧ x = 0 then [] else x :: trimL l
def Dig (b : Nat) (l : List Nat) : Prop := ∀ x ∈ l, x < b

section
variable {b : Nat}
theorem Dig.nil : Dig b [] := fun x h => by cases h
theorem Dig.cons {x : Nat} {l : List Nat} (hx : x < b) (h : Dig b l) : Dig b (x :: l) := fun y hy => by
  rcases List.mem_cons.1 hy with rfl | hy
  · exact hx
  · exact h y hy
theorem Dig.head {x : Nat} {l : List Nat} (h : Dig b (x :: l)) : x < b := h x (by simp)
theorem Dig.tail {x : Nat} {l : List Nat} (h : Dig b (x :: l)) : Dig b l := fun y hy => h y (by simp [hy])
theorem Dig.get {l : List Nat} (h : Dig b l) {k x : Nat} (hx : l[k]? = some x) : x < b := h x (List.mem_of_getElem? hx)
theorem Dig.take {l : List Nat} (h : Dig b l) (k : Nat) : Dig b (l.take k) := fun x hx => h x (List.mem_of_mem_take hx)
theorem Dig.app {l m : List Nat} (h : Dig b l) (h' : Dig b m) : Dig b (l ++ m) := fun x hx => by
  rcases List.mem_append.1 hx with hx | hx
  · exact h x hx
  · exact h' x hx
theorem Dig.set {l : List Nat} (h : Dig b l) {x : Nat} (hx : x < b) (k : Nat) : Dig b (l.set k x) := fun y hy => by
  rcases List.mem_or_eq_of_mem_set hy with hy | rfl
  · exact h y hy
  · exact hx
theorem Dig.rep (h : 0 < b) (n : Nat) : Dig b (List.replicate n 0) := fun x hx => by
  rw [(List.mem_replicate.1 hx).2]; exact h

theorem valB_app (l m : List Nat) : valB b (l ++ m) = valB b l + b ^ l.length * valB b m := by
  induction l with
  | nil => simp [valB]
  | cons x l ih => simp only [List.cons_append, valB, ih, List.length_cons, Nat.pow_succ, Nat.mul_add]; rw [Nat.mul_comm (b ^ l.length) b, Nat.mul_assoc, Nat.add_assoc]
theorem valB_one (x : Nat) : valB b [x] = x := by simp [valB]
theorem valB_rep (n : Nat) : valB b (List.replicate n 0) = 0 := by
  induction n with
  | zero => rfl
  | succ n ih => simp [List.replicate_succ, valB, ih]
theorem valB_snoc {l : List Nat} {k x : Nat} (h : l[k]? = some x) : valB b (l.take (k + 1)) = valB b (l.take k) + b ^ k * x := by
  obtain ⟨hk, rfl⟩ := List.getElem?_eq_some_iff.1 h
  rw [List.take_succ_eq_append_getElem hk, valB_app, valB_one, List.length_take, Nat.min_eq_left (by omega)]
theorem valB_split (l : List Nat) (k : Nat) (h : k ≤ l.length) : valB b l = valB b (l.take k) + b ^ k * valB b (l.drop k) := by
  have := valB_app (b := b) (l.take k) (l.drop k)
  rw [List.take_append_drop, List.length_take, Nat.min_eq_left h] at this
  exact this
theorem valB_lt {l : List Nat} (h : Dig b l) : valB b l < b ^ l.length := by
  induction l with
  | nil => simp [valB]
  | cons x l ih =>
    have h1 := h.head
    have h2 := ih h.tail
    simp only [valB, List.length_cons, Nat.pow_succ]
    rw [Nat.mul_comm (b ^ l.length) b]
    have : b * (valB b l + 1) ≤ b * b ^ l.length := Nat.mul_le_mul_left _ h2
    rw [Nat.mul_add] at this
    omega
theorem valB_set {l : List Nat} {k x y : Nat} (h : l[k]? = some x) : valB b (l.set k y) + b ^ k * x = valB b l + b ^ k * y := by
  induction l generalizing k with
  | nil => simp at h
  | cons z l ih =>
    cases k with
    | zero => obtain rfl : z = x := by simpa using h
              simp [valB]; omega
    | succ k =>
      have := ih (k := k) (by simpa using h)
      simp only [List.set_cons_succ, valB, Nat.pow_succ]
      rw [Nat.mul_comm (b ^ k) b, Nat.mul_assoc, Nat.mul_assoc, Nat.add_assoc, Nat.add_assoc, ← Nat.mul_add, ← Nat.mul_add, this]

theorem digB_zero : digB b 0 = [] := by rw [digB]; simp
theorem digB_pos {n : Nat} (hb : 2 ≤ b) (h : 0 < n) : digB b n = n % b :: digB b (n / b) := by rw [digB, dif_pos ⟨hb, h⟩]
theorem digB_val (hb : 2 ≤ b) (n : Nat) : valB b (digB b n) = n := by
  induction n using Nat.strongRecOn with
  | ind n ih =>
    by_cases h : 0 < n
    · rw [digB_pos hb h, valB, ih _ (Nat.div_lt_self h hb)]
      exact Nat.mod_add_div n b
    · obtain rfl : n = 0 := by omega
      rw [digB_zero]; rfl
theorem digB_dig (hb : 2 ≤ b) (n : Nat) : Dig b (digB b n) := by
  induction n using Nat.strongRecOn with
  | ind n ih =>
    by_cases h : 0 < n
    · rw [digB_pos hb h]; exact Dig.cons (Nat.mod_lt _ (by omega)) (ih _ (Nat.div_lt_self h hb))
    · obtain rfl : n = 0 := by omega
      rw [digB_zero]; exact Dig.nil
theorem digB_nil (hb : 2 ≤ b) {n : Nat} : digB b n = [] ↔ n = 0 := by
  constructor
  · intro h
    have := digB_val hb n
    rw [h] at this
    exact this.symm
  · rintro rfl; exact digB_zero
theorem digB_trim (hb : 2 ≤ b) (n : Nat) : trimL (digB b n) = digB b n := by
  induction n using Nat.strongRecOn with
  | ind n ih =>
    by_cases h : 0 < n
    · rw [digB_pos hb h, trimL, ih _ (Nat.div_lt_self h hb), if_neg]
      rintro ⟨h1, h2⟩
      rw [digB_nil hb] at h1
      have := Nat.mod_add_div n b
      rw [h1, h2] at this
      omega
    · obtain rfl : n = 0 := by omega
      rw [digB_zero]; rfl
theorem trimL_val (l : List Nat) : valB b (trimL l) = valB b l := by
  induction l with
  | nil => rfl
  | cons x l ih =>
    rw [trimL]
    split
    · rename_i h
      simp only [valB]
      rw [← ih, h.1, h.2]; simp [valB]
    · rw [valB, valB, ih]
theorem trimL_eq (hb : 2 ≤ b) {l : List Nat} (h : Dig b l) : trimL l = digB b (valB b l) := by
  induction l with
  | nil => rw [valB, digB_zero]; rfl
  | cons x l ih =>
    have ih := ih h.tail
    have hx := h.head
    rw [trimL]
    split
    · rename_i h1
      have : valB b (x :: l) = 0 := by rw [valB, ← trimL_val (b := b) l, h1.1, h1.2]; simp [valB]
      rw [this, digB_zero]
    · rename_i h1
      have hp : 0 < valB b (x :: l) := by
        rw [valB]
        rcases Nat.eq_zero_or_pos x with rfl | hx0
        · have : valB b l ≠ 0 := fun h0 => h1 ⟨by rw [ih, h0, digB_zero], rfl⟩
          have : 0 < b * valB b l := Nat.mul_pos (by omega) (by omega)
          omega
        · omega
      rw [digB_pos hb hp, ih, valB, Nat.add_mul_mod_self_left, Nat.mod_eq_of_lt hx, Nat.add_mul_div_left _ _ (by omega), Nat.div_eq_of_lt hx, Nat.zero_add]
theorem trimL_take (l : List Nat) : trimL l = l.take (trimL l).length := by
  induction l with
  | nil => rfl
  | cons x l ih =>
    rw [trimL]
    split
    · rfl
    · rw [List.length_cons, List.take_succ_cons, ← ih]
theorem trimL_le (l : List Nat) : (trimL l).length ≤ l.length := by
  have := congrArg List.length (trimL_take l)
  rw [List.length_take] at this
  omega
theorem trimL_zero (l : List Nat) : trimL (l ++ [0]) = trimL l := by
  induction l with
  | nil => simp [trimL]
  | cons x l ih => rw [List.cons_append, trimL, trimL, ih]
theorem trimL_last (l : List Nat) {x : Nat} (h : x ≠ 0) : trimL (l ++ [x]) = l ++ [x] := by
  induction l with
  | nil => simp [trimL, h]
  | cons y l ih => rw [List.cons_append, trimL, ih, if_neg (by simp)]
theorem digB_len_le (hb : 2 ≤ b) {n k : Nat} (h : n < b ^ k) : (digB b n).length ≤ k := by
  induction k generalizing n with
  | zero => obtain rfl : n = 0 := by simpa using h
            rw [digB_zero]; simp
  | succ k ih =>
    by_cases h0 : 0 < n
    · rw [digB_pos hb h0, List.length_cons]
      have := ih (n := n / b) (by rw [Nat.div_lt_iff_lt_mul (by omega)]; rwa [Nat.pow_succ] at h)
      omega
    · obtain rfl : n = 0 := by omega
      rw [digB_zero]; simp
theorem digB_lt (hb : 2 ≤ b) (n : Nat) : n < b ^ (digB b n).length := by
  have := valB_lt (digB_dig hb n)
  rwa [digB_val hb] at this
theorem digB_len_lt (hb : 2 ≤ b) {n m : Nat} (h : (digB b n).length < (digB b m).length) : n < m := by
  have h1 := digB_lt hb n
  have h2 : ¬ m < b ^ (digB b n).length := fun h' => by have := digB_len_le hb h'; omega
  omega
theorem digB_mono (hb : 2 ≤ b) {n m : Nat} (h : n ≤ m) : (digB b n).length ≤ (digB b m).length :=
  Nat.le_of_not_lt fun h' => by have := digB_len_lt hb h'; omega
theorem digB_inj (hb : 2 ≤ b) {n m : Nat} (h : digB b n = digB b m) : n = m := by rw [← digB_val hb n, h, digB_val hb]
/-- Lists of the same length whose upper digits are the same compare by the digit below these. -/
theorem valB_cmp {l m : List Nat} (hl : Dig b l) (hm : Dig b m) (he : l.length = m.length) {k x y : Nat} (hx : l[k]? = some x) (hy : m[k]? = some y) (ht : l.drop (k + 1) = m.drop (k + 1)) (h : x < y) : valB b l < valB b m := by
  have hk := (List.getElem?_eq_some_iff.1 hx).1
  have h1 := valB_split (b := b) l (k + 1) (by omega)
  have h2 := valB_split (b := b) m (k + 1) (by omega)
  rw [h1, h2, ht, valB_snoc hx, valB_snoc hy]
  have h3 := valB_lt (hl.take k)
  rw [List.length_take, Nat.min_eq_left (by omega)] at h3
  have : b ^ k * (x + 1) ≤ b ^ k * y := Nat.mul_le_mul_left _ h
  rw [Nat.mul_add] at this
  omega
theorem drop_same {l m : List Nat} {k x : Nat} (hx : l[k]? = some x) (hy : m[k]? = some x) (ht : l.drop (k + 1) = m.drop (k + 1)) : l.drop k = m.drop k := by
  obtain ⟨h1, e1⟩ := List.getElem?_eq_some_iff.1 hx
  obtain ⟨h2, e2⟩ := List.getElem?_eq_some_iff.1 hy
  rw [List.drop_eq_getElem_cons h1, List.drop_eq_getElem_cons h2, e1, e2, ht]
end

/-- -1, 0 or 1. -/
def cmpI (n m : Nat) : Int := if n < m then -1 else if n = m then 0 else 1
theorem cmpI_lt {n m : Nat} (h : n < m) : cmpI n m = -1 := by simp [cmpI, h]
theorem cmpI_gt {n m : Nat} (h : m < n) : cmpI n m = 1 := by simp [cmpI]; omega
theorem cmpI_eq {n m : Nat} (h : n = m) : cmpI n m = 0 := by simp [cmpI, h]

end Go.Proofs.Ytmlppnapodamaaa
