/- Plain: numbers as lists of digits to a base, the lowest one first. No condition. Plain: binomial coefficients, their sums, and how each one comes from the one before it. No condition. Contracts of exact's trim, Check, check, order. For slices whose length is an int's. Contracts of exact's clone, plus. For numbers of at most a million limbs. Contract of exact's minus. For numbers of at most a million limbs. Contract of exact's times. For numbers of at most a million limbs. Contracts of exact's size, bit, double. For numbers of at most a million limbs. Contract of exact's split. For numbers of at most a million limbs. Contract of exact's split. For numbers of at most a million limbs. Contracts of exact's Of, next, choose. For binomials of at most 512 things. -/
import Derived.Test.YtfolgmcoggejbaaGreatBase
import Derived.Test.YtfolgmcoggejbaaGreatProg
import Derived.Test.YtfolgmcoggejbaaGreatData
import Derived.Test.YtfolgmcoggejbaaGreatMade
import Derived.Laws.CopyOwn
import Derived.Laws.BitsAllLaws
import Derived.Test.YtfolgmcoggejbaaGreatTail
namespace Go.Proofs.YtfolgmcoggejbaaGreat
open Go.RowKit
set_option linter.unusedVariables false
set_option linter.unusedSimpArgs false

/-- The number with these digits. -/
def valB (b : Nat) : List Nat → Nat
  | [] => 0
  | x :: l => x + b * valB b l
/-- The digits of a number, without zeros at the end. -/
def digB (b n : Nat) : List Nat := if h : 2 ≤ b ∧ 0 < n then n % b :: digB b (n / b) else []
termination_by n
decreasing_by exact Nat.div_lt_self h.2 h.1
/-- Without zeros at the end. -/
def trimL : List Nat → List Nat
  | [] => []
  | x :: l => if trimL l = [] ∧ x = 0 then [] else x :: trimL l
def Dig (b : Nat) (l : List Nat) : Prop := ∀ x ∈ l, x < b

section
variable {b : Nat}
theorem Dig.nil : Dig b [] := fun x h => by cases h
theorem Dig.cons {x : Nat} {l : List Nat} (hx : x < b) (h : Dig b l) : Dig b (x :: l) := fun y hy => by
  rcases List.mem_cons.1 hy with rfl | hy
  · exact hx
  · exact h y hy
theorem Dig.head {x : Nat} {l : List Nat} (h : Dig b (x :: l)) : x < b := h x (by simp)
theorem Dig.tail {x : Nat} {l : List Nat} (h : Dig b (x :: l)) : Dig b l := fun y hy => h y (by simp [hy])
theorem Dig.get {l : List Nat} (h : Dig b l) {k x : Nat} (hx : l[k]? = some x) : x < b := h x (List.mem_of_getElem? hx)
theorem Dig.take {l : List Nat} (h : Dig b l) (k : Nat) : Dig b (l.take k) := fun x hx => h x (List.mem_of_mem_take hx)
theorem Dig.app {l m : List Nat} (h : Dig b l) (h' : Dig b m) : Dig b (l ++ m) := fun x hx => by
  rcases List.mem_append.1 hx with hx | hx
  · exact h x hx
  · exact h' x hx
theorem Dig.set {l : List Nat} (h : Dig b l) {x : Nat} (hx : x < b) (k : Nat) : Dig b (l.set k x) := fun y hy => by
  rcases List.mem_or_eq_of_mem_set hy with hy | rfl
  · exact h y hy
  · exact hx
theorem Dig.rep (h : 0 < b) (n : Nat) : Dig b (List.replicate n 0) := fun x hx => by
  rw [(List.mem_replicate.1 hx).2]; exact h

theorem valB_app (l m : List Nat) : valB b (l ++ m) = valB b l + b ^ l.length * valB b m := by
  induction l with
  | nil => simp [valB]
  | cons x l ih => simp only [List.cons_append, valB, ih, List.length_cons, Nat.pow_succ, Nat.mul_add]; rw [Nat.mul_comm (b ^ l.length) b, Nat.mul_assoc, Nat.add_assoc]
theorem valB_one (x : Nat) : valB b [x] = x := by simp [valB]
theorem valB_rep (n : Nat) : valB b (List.replicate n 0) = 0 := by
  induction n with
  | zero => rfl
  | succ n ih => simp [List.replicate_succ, valB, ih]
theorem valB_snoc {l : List Nat} {k x : Nat} (h : l[k]? = some x) : valB b (l.take (k + 1)) = valB b (l.take k) + b ^ k * x := by
  obtain ⟨hk, rfl⟩ := List.getElem?_eq_some_iff.1 h
  rw [List.take_succ_eq_append_getElem hk, valB_app, valB_one, List.length_take, Nat.min_eq_left (by omega)]
theorem valB_split (l : List Nat) (k : Nat) (h : k ≤ l.length) : valB b l = valB b (l.take k) + b ^ k * valB b (l.drop k) := by
  have := valB_app (b := b) (l.take k) (l.drop k)
  rw [List.take_append_drop, List.length_take, Nat.min_eq_left h] at this
  exact this
theorem valB_lt {l : List Nat} (h : Dig b l) : valB b l < b ^ l.length := by
  induction l with
  | nil => simp [valB]
  | cons x l ih =>
    have h1 := h.head
    have h2 := ih h.tail
    simp only [valB, List.length_cons, Nat.pow_succ]
    rw [Nat.mul_comm (b ^ l.length) b]
    have : b * (valB b l + 1) ≤ b * b ^ l.length := Nat.mul_le_mul_left _ h2
    rw [Nat.mul_add] at this
    omega
theorem valB_set {l : List Nat} {k x y : Nat} (h : l[k]? = some x) : valB b (l.set k y) + b ^ k * x = valB b l + b ^ k * y := by
  induction l generalizing k with
  | nil => simp at h
  | cons z l ih =>
    cases k with
    | zero => obtain rfl : z = x := by simpa using h
              simp [valB]; omega
    | succ k =>
      have := ih (k := k) (by simpa using h)
      simp only [List.set_cons_succ, valB, Nat.pow_succ]
      rw [Nat.mul_comm (b ^ k) b, Nat.mul_assoc, Nat.mul_assoc, Nat.add_assoc, Nat.add_assoc, ← Nat.mul_add, ← Nat.mul_add, this]

theorem digB_zero : digB b 0 = [] := by rw [digB]; simp
theorem digB_pos {n : Nat} (hb : 2 ≤ b) (h : 0 < n) : digB b n = n % b :: digB b (n / b) := by rw [digB, dif_pos ⟨hb, h⟩]
theorem digB_val (hb : 2 ≤ b) (n : Nat) : valB b (digB b n) = n := by
  induction n using Nat.strongRecOn with
  | ind n ih =>
    by_cases h : 0 < n
    · rw [digB_pos hb h, valB, ih _ (Nat.div_lt_self h hb)]
      exact Nat.mod_add_div n b
    · obtain rfl : n = 0 := by omega
      rw [digB_zero]; rfl
theorem digB_dig (hb : 2 ≤ b) (n : Nat) : Dig b (digB b n) := by
  induction n using Nat.strongRecOn with
  | ind n ih =>
    by_cases h : 0 < n
    · rw [digB_pos hb h]; exact Dig.cons (Nat.mod_lt _ (by omega)) (ih _ (Nat.div_lt_self h hb))
    · obtain rfl : n = 0 := by omega
      rw [digB_zero]; exact Dig.nil
theorem digB_nil (hb : 2 ≤ b) {n : Nat} : digB b n = [] ↔ n = 0 := by
  constructor
  · intro h
    have := digB_val hb n
    rw [h] at this
    exact this.symm
  · rintro rfl; exact digB_zero
theorem digB_trim (hb : 2 ≤ b) (n : Nat) : trimL (digB b n) = digB b n := by
  induction n using Nat.strongRecOn with
  | ind n ih =>
    by_cases h : 0 < n
    · rw [digB_pos hb h, trimL, ih _ (Nat.div_lt_self h hb), if_neg]
      rintro ⟨h1, h2⟩
      rw [digB_nil hb] at h1
      have := Nat.mod_add_div n b
      rw [h1, h2] at this
      omega
    · obtain rfl : n = 0 := by omega
      rw [digB_zero]; rfl
theorem trimL_val (l : List Nat) : valB b (trimL l) = valB b l := by
  induction l with
  | nil => rfl
  | cons x l ih =>
    rw [trimL]
    split
    · rename_i h
      simp only [valB]
      rw [← ih, h.1, h.2]; simp [valB]
    · rw [valB, valB, ih]
theorem trimL_eq (hb : 2 ≤ b) {l : List Nat} (h : Dig b l) : trimL l = digB b (valB b l) := by
  induction l with
  | nil => rw [valB, digB_zero]; rfl
  | cons x l ih =>
    have ih := ih h.tail
    have hx := h.head
    rw [trimL]
    split
    · rename_i h1
      have : valB b (x :: l) = 0 := by rw [valB, ← trimL_val (b := b) l, h1.1, h1.2]; simp [valB]
      rw [this, digB_zero]
    · rename_i h1
      have hp : 0 < valB b (x :: l) := by
        rw [valB]
        rcases Nat.eq_zero_or_pos x with rfl | hx0
        · have : valB b l ≠ 0 := fun h0 => h1 ⟨by rw [ih, h0, digB_zero], rfl⟩
          have : 0 < b * valB b l := Nat.mul_pos (by omega) (by omega)
          omega
        · omega
      rw [digB_pos hb hp, ih, valB, Nat.add_mul_mod_self_left, Nat.mod_eq_of_lt hx, Nat.add_mul_div_left _ _ (by omega), Nat.div_eq_of_lt hx, Nat.zero_add]
theorem trimL_take (l : List Nat) : trimL l = l.take (trimL l).length := by
  induction l with
  | nil => rfl
  | cons x l ih =>
    rw [trimL]
    split
    · rfl
    · rw [List.length_cons, List.take_succ_cons, ← ih]
theorem trimL_le (l : List Nat) : (trimL l).length ≤ l.length := by
  have := congrArg List.length (trimL_take l)
  rw [List.length_take] at this
  omega
theorem trimL_zero (l : List Nat) : trimL (l ++ [0]) = trimL l := by
  induction l with
  | nil => simp [trimL]
  | cons x l ih => rw [List.cons_append, trimL, trimL, ih]
theorem trimL_last (l : List Nat) {x : Nat} (h : x ≠ 0) : trimL (l ++ [x]) = l ++ [x] := by
  induction l with
  | nil => simp [trimL, h]
  | cons y l ih => rw [List.cons_append, trimL, ih, if_neg (by simp)]
theorem digB_len_le (hb : 2 ≤ b) {n k : Nat} (h : n < b ^ k) : (digB b n).length ≤ k := by
  induction k generalizing n with
  | zero => obtain rfl : n = 0 := by simpa using h
            rw [digB_zero]; simp
  | succ k ih =>
    by_cases h0 : 0 < n
    · rw [digB_pos hb h0, List.length_cons]
      have := ih (n := n / b) (by rw [Nat.div_lt_iff_lt_mul (by omega)]; rwa [Nat.pow_succ] at h)
      omega
    · obtain rfl : n = 0 := by omega
      rw [digB_zero]; simp
theorem digB_lt (hb : 2 ≤ b) (n : Nat) : n < b ^ (digB b n).length := by
  have := valB_lt (digB_dig hb n)
  rwa [digB_val hb] at this
theorem digB_len_lt (hb : 2 ≤ b) {n m : Nat} (h : (digB b n).length < (digB b m).length) : n < m := by
  have h1 := digB_lt hb n
  have h2 : ¬ m < b ^ (digB b n).length := fun h' => by have := digB_len_le hb h'; omega
  omega
theorem digB_mono (hb : 2 ≤ b) {n m : Nat} (h : n ≤ m) : (digB b n).length ≤ (digB b m).length :=
  Nat.le_of_not_lt fun h' => by have := digB_len_lt hb h'; omega
theorem digB_inj (hb : 2 ≤ b) {n m : Nat} (h : digB b n = digB b m) : n = m := by rw [← digB_val hb n, h, digB_val hb]
/-- Lists of the same length whose upper digits are the same compare by the digit below these. -/
theorem valB_cmp {l m : List Nat} (hl : Dig b l) (hm : Dig b m) (he : l.length = m.length) {k x y : Nat} (hx : l[k]? = some x) (hy : m[k]? = some y) (ht : l.drop (k + 1) = m.drop (k + 1)) (h : x < y) : valB b l < valB b m := by
  have hk := (List.getElem?_eq_some_iff.1 hx).1
  have h1 := valB_split (b := b) l (k + 1) (by omega)
  have h2 := valB_split (b := b) m (k + 1) (by omega)
  rw [h1, h2, ht, valB_snoc hx, valB_snoc hy]
  have h3 := valB_lt (hl.take k)
  rw [List.length_take, Nat.min_eq_left (by omega)] at h3
  have : b ^ k * (x + 1) ≤ b ^ k * y := Nat.mul_le_mul_left _ h
  rw [Nat.mul_add] at this
  omega
theorem drop_same {l m : List Nat} {k x : Nat} (hx : l[k]? = some x) (hy : m[k]? = some x) (ht : l.drop (k + 1) = m.drop (k + 1)) : l.drop k = m.drop k := by
  obtain ⟨h1, e1⟩ := List.getElem?_eq_some_iff.1 hx
  obtain ⟨h2, e2⟩ := List.getElem?_eq_some_iff.1 hy
  rw [List.drop_eq_getElem_cons h1, List.drop_eq_getElem_cons h2, e1, e2, ht]
end

/-- -1, 0 or 1. -/
def cmpI (n m : Nat) : Int := if n < m then -1 else if n = m then 0 else 1
theorem cmpI_lt {n m : Nat} (h : n < m) : cmpI n m = -1 := by simp [cmpI, h]
theorem cmpI_gt {n m : Nat} (h : m < n) : cmpI n m = 1 := by simp [cmpI]; omega
theorem cmpI_eq {n m : Nat} (h : n = m) : cmpI n m = 0 := by simp [cmpI, h]

end Go.Proofs.YtfolgmcoggejbaaGreat

namespace Go.Proofs.YtfolgmcoggejbaaGreat
set_option linter.unusedVariables false
set_option linter.unusedSimpArgs false

/-- How many sets of k there are among n things. -/
def ch : Nat → Nat → Nat
  | _, 0 => 1
  | 0, _ + 1 => 0
  | n + 1, k + 1 => ch n k + ch n (k + 1)
theorem ch_zero (n : Nat) : ch n 0 = 1 := by cases n <;> rfl
theorem ch_succ (n k : Nat) : ch (n + 1) (k + 1) = ch n k + ch n (k + 1) := rfl
theorem ch_gt {n k : Nat} (h : n < k) : ch n k = 0 := by
  induction n generalizing k with
  | zero => cases k with
    | zero => omega
    | succ k => rfl
  | succ n ih => cases k with
    | zero => omega
    | succ k => rw [ch_succ, ih (by omega), ih (by omega)]
theorem ch_self (n : Nat) : ch n n = 1 := by
  induction n with
  | zero => rfl
  | succ n ih => rw [ch_succ, ih, ch_gt (by omega)]
theorem ch_pos {n k : Nat} (h : k ≤ n) : 0 < ch n k := by
  induction n generalizing k with
  | zero => obtain rfl : k = 0 := by omega
            exact Nat.one_pos
  | succ n ih => cases k with
    | zero => exact Nat.one_pos
    | succ k => rw [ch_succ]; have := ih (k := k) (by omega); omega
theorem ch_next (n k : Nat) : (k + 1) * ch n (k + 1) = (n - k) * ch n k := by
  induction n generalizing k with
  | zero => simp [ch]
  | succ n ih =>
    cases k with
    | zero =>
      have h := ih 0
      rw [ch_zero] at h ⊢
      rw [ch_succ, ch_zero]
      simp at h ⊢; omega
    | succ k =>
      by_cases hk : k + 1 ≤ n
      · have h1 := ih (k + 1)
        have h2 := ih k
        obtain ⟨d, rfl⟩ : ∃ d, n = k + 1 + d := ⟨n - (k + 1), by omega⟩
        rw [ch_succ (k + 1 + d) (k + 1), ch_succ (k + 1 + d) k]
        rw [show k + 1 + d - (k + 1) = d from by omega] at h1
        rw [show k + 1 + d - k = d + 1 from by omega] at h2
        rw [show k + 1 + d + 1 - (k + 1) = d + 1 from by omega, Nat.mul_add, Nat.mul_add, h1, ← h2, ← Nat.add_mul, ← Nat.add_mul]
        congr 1; omega
      · rw [ch_gt (n := n + 1) (k := k + 1 + 1) (by omega), show n + 1 - (k + 1) = 0 from by omega]; simp
theorem ch_symm {n a b : Nat} (h : a + b = n) : ch n a = ch n b := by
  induction n generalizing a b with
  | zero => obtain rfl : a = 0 := by omega
            obtain rfl : b = 0 := by omega
            rfl
  | succ n ih =>
    cases a with
    | zero => obtain rfl : b = n + 1 := by omega
              rw [ch_zero, ch_self]
    | succ a => cases b with
      | zero => obtain rfl : a = n := by omega
                rw [ch_zero, ch_self]
      | succ b => rw [ch_succ, ch_succ, ih (a := a) (b := b + 1) (by omega), ih (a := a + 1) (b := b) (by omega), Nat.add_comm]
theorem ch_le (n k : Nat) : ch n k ≤ 2 ^ n := by
  induction n generalizing k with
  | zero => cases k <;> simp [ch]
  | succ n ih => cases k with
    | zero => rw [ch_zero]; exact Nat.one_le_two_pow
    | succ k => rw [ch_succ, Nat.pow_succ]; have := ih k; have := ih (k + 1); omega
/-- The quotient by which C(n, k + 1) comes from C(n, k). -/
theorem ch_div (n k : Nat) : ch n k * (n - k) / (k + 1) = ch n (k + 1) := by
  rw [Nat.mul_comm (ch n k), ← ch_next, Nat.mul_div_cancel_left _ (by omega)]
/-- The quotient by which C(n, k) comes from C(n, k + 1), for k below n. -/
theorem ch_back {n k : Nat} (h : k < n) : ch n (k + 1) * (k + 1) / (n - k) = ch n k := by
  rw [Nat.mul_comm, ch_next, Nat.mul_div_cancel_left _ (by omega)]

/-- f 0 + .. + f (n - 1). -/
def sumTo (f : Nat → Nat) : Nat → Nat
  | 0 => 0
  | n + 1 => sumTo f n + f n
theorem sumTo_congr {f g : Nat → Nat} {n : Nat} (h : ∀ i, i < n → f i = g i) : sumTo f n = sumTo g n := by
  induction n with
  | zero => rfl
  | succ n ih => rw [sumTo, sumTo, ih fun i hi => h i (by omega), h n (by omega)]
theorem sumTo_zero {f : Nat → Nat} {n : Nat} (h : ∀ i, i < n → f i = 0) : sumTo f n = 0 := by
  induction n with
  | zero => rfl
  | succ n ih => rw [sumTo, ih fun i hi => h i (by omega), h n (by omega)]
theorem sumTo_le {f g : Nat → Nat} {n : Nat} (h : ∀ i, i < n → f i ≤ g i) : sumTo f n ≤ sumTo g n := by
  induction n with
  | zero => exact Nat.le_refl _
  | succ n ih => rw [sumTo, sumTo]; have := ih fun i hi => h i (by omega); have := h n (by omega); omega
theorem sumTo_add (f g : Nat → Nat) (n : Nat) : sumTo (fun i => f i + g i) n = sumTo f n + sumTo g n := by
  induction n with
  | zero => rfl
  | succ n ih => rw [sumTo, sumTo, sumTo, ih]; omega
theorem sumTo_shift (f : Nat → Nat) (n : Nat) : sumTo f (n + 1) = f 0 + sumTo (fun i => f (i + 1)) n := by
  induction n with
  | zero => simp [sumTo]
  | succ n ih => rw [sumTo, ih, sumTo]; omega
theorem sumTo_mono (f : Nat → Nat) {n m : Nat} (h : n ≤ m) : sumTo f n ≤ sumTo f m := by
  induction m with
  | zero => obtain rfl : n = 0 := by omega
            exact Nat.le_refl _
  | succ m ih =>
    by_cases e : n = m + 1
    · rw [e]; exact Nat.le_refl _
    · rw [sumTo]; have := ih (by omega); omega
theorem sumTo_stop (f : Nat → Nat) {n m : Nat} (h : n ≤ m) (h0 : ∀ i, n ≤ i → f i = 0) : sumTo f m = sumTo f n := by
  induction m with
  | zero => obtain rfl : n = 0 := by omega
            rfl
  | succ m ih =>
    by_cases e : n = m + 1
    · rw [e]
    · rw [sumTo, ih (by omega), h0 m (by omega)]; rfl
theorem sum_ch (n : Nat) : ∀ m, n < m → sumTo (ch n) m = 2 ^ n := by
  induction n with
  | zero => intro m h
            rw [sumTo_stop (ch 0) (n := 1) (by omega) (fun i hi => ch_gt (by omega))]; rfl
  | succ n ih =>
    intro m h
    obtain ⟨k, rfl⟩ : ∃ k, m = k + 1 := ⟨m - 1, by omega⟩
    rw [sumTo_shift, ch_zero]
    have e : sumTo (fun i => ch (n + 1) (i + 1)) k = sumTo (ch n) k + sumTo (fun i => ch n (i + 1)) k := sumTo_add (ch n) (fun i => ch n (i + 1)) k
    have h1 := sumTo_shift (ch n) k
    rw [ch_zero] at h1
    rw [e, Nat.pow_succ]
    have h2 := ih k (by omega)
    have h3 := ih (k + 1) (by omega)
    omega
/-- How many strings of n bits have at most t true ones. -/
def ball (n t : Nat) : Nat := sumTo (ch n) (t + 1)
theorem ball_le (n t : Nat) : ball n t ≤ 2 ^ n := by
  unfold ball
  rcases Nat.lt_or_ge n (t + 1) with h | h
  · rw [sum_ch n _ h]; exact Nat.le_refl _
  · rw [← sum_ch n (n + 1) (by omega)]; exact sumTo_mono _ (by omega)
/-- How many sets of 'sample' of 'total' things have at most 'seen' of the 'bad' ones. -/
def waysN (total bad sample seen : Nat) : Nat := sumTo (fun i => ch bad i * ch (total - bad) (sample - i)) (seen + 1)
theorem ways_le {total bad sample seen : Nat} (hb : bad ≤ total) : waysN total bad sample seen ≤ (seen + 1) * 2 ^ total := by
  have h : ∀ n, sumTo (fun i => ch bad i * ch (total - bad) (sample - i)) n ≤ n * 2 ^ total := by
    intro n
    induction n with
    | zero => simp [sumTo]
    | succ n ih =>
      rw [sumTo, Nat.add_mul, Nat.one_mul]
      have h1 : ch bad n * ch (total - bad) (sample - n) ≤ 2 ^ bad * 2 ^ (total - bad) := Nat.mul_le_mul (ch_le _ _) (ch_le _ _)
      rw [← Nat.pow_add, show bad + (total - bad) = total from by omega] at h1
      omega
  exact h _

end Go.Proofs.YtfolgmcoggejbaaGreat

namespace Go.Proofs.YtfolgmcoggejbaaGreat
open Go.RowKit
set_option linter.unusedVariables false
set_option linter.unusedSimpArgs false

def enc32 (n : Nat) : List Value := [.int .u32 n]
def encD (n : Nat) : List Value := [.int .i64 n]
theorem enc32_len (c : Nat) : (enc32 c).length = 1 := rfl
theorem encD_len (c : Nat) : (encD c).length = 1 := rfl
theorem enc32_one (c : Nat) : ∀ u ∈ enc32 c, u.oneCell' = true := by simp [enc32, Value.oneCell']
theorem encD_one (c : Nat) : ∀ u ∈ encD c, u.oneCell' = true := by simp [encD, Value.oneCell']
section
variable {w w' : World} {B : Nat} {A : Option Addr} {k : Nat}
theorem Arr.u32 {l : List Nat} (h : Arr 1 enc32 w B A l) (hk : k < l.length) (hb : Below B w w') :
    ∃ b off x, A = some ⟨b, off, none⟩ ∧ b < B ∧ Hid (l[k]? = some x) ∧ w'.cell? ⟨b, off + k, none⟩ = some (.int .u32 (x : Int)) := by
  obtain ⟨b, off, rfl, hbb, hc⟩ := h.get hk hb
  exact ⟨b, off, _, rfl, hbb, List.getElem?_eq_getElem hk, by have := hc 0 _ rfl; simpa using this⟩
theorem Arr.dig {l : List Nat} (h : Arr 1 encD w B A l) (hk : k < l.length) (hb : Below B w w') :
    ∃ b off x, A = some ⟨b, off, none⟩ ∧ b < B ∧ Hid (l[k]? = some x) ∧ w'.cell? ⟨b, off + k, none⟩ = some (.int .i64 (x : Int)) := by
  obtain ⟨b, off, rfl, hbb, hc⟩ := h.get hk hb
  exact ⟨b, off, _, rfl, hbb, List.getElem?_eq_getElem hk, by have := hc 0 _ rfl; simpa using this⟩
theorem Arr.take {α : Type} {sz : Nat} {enc : α → List Value} {l : List α} (h : Arr sz enc w B A l) (n : Nat) : Arr sz enc w B A (l.take n) := fun hl => by
  obtain ⟨b, off, rfl, hbb, hc⟩ := h (by rintro rfl; simp at hl)
  refine ⟨b, off, rfl, hbb, fun i x hx => hc i x ?_⟩
  rw [List.getElem?_take] at hx
  split at hx
  · exact hx
  · cases hx
end
theorem trim_next {l : List Nat} {k : Nat} (h : l[k]? = some 0) : trimL (l.take (k + 1)) = trimL (l.take k) := by rw [take_snoc h, trimL_zero]
theorem trim_stop {l : List Nat} {k x : Nat} (h : l[k]? = some x) (hx : x ≠ 0) : (trimL (l.take (k + 1))).length = k + 1 := by
  have hk := (List.getElem?_eq_some_iff.1 h).1
  rw [take_snoc h, trimL_last _ hx, List.length_append, List.length_take, Nat.min_eq_left (by omega)]; rfl

set_option maxHeartbeats 1000000 in
theorem trim_any (A : Option Addr) (c : Nat) (l : List Nat) (w : World) (h : Arr 1 enc32 w w.heap.size A l) (hl : l.length ≤ c) (hc : c ≤ maxLen) :
    Calls Tryz.prog 94 #[.slice A l.length c] w fun e w' => e = .returned (.slice A (trimL l).length c) ∧ w = w' := by
  unfold maxLen at hc
  go_enter Tryz.func94, Tryz.ntmps94
  go_wp2
  go_loop [3] (fun i => ∃ k : Nat, k ≤ l.length ∧ i = .int .i64 k ∧ trimL (l.take k) = trimL l) (fun i => (intOf i).toNat)
  case atStart => exact ⟨_, Nat.le_refl _, rfl, by rw [List.take_length]⟩
  case round =>
    obtain ⟨k, hk, rfl, ht⟩ := hrel
    have Ht := Lib.hid ht
    clear ht
    cases k with
    | zero =>
      go_wp2
      go_ret
      exact ⟨by rw [← Ht.out]; rfl, rfl⟩
    | succ j =>
      obtain ⟨b, off, x, rfl, hbb, hq, c0⟩ := h.u32 (k := j) (by omega) (Below.refl _ _)
      rcases Nat.eq_zero_or_pos x with rfl | hx
      · go_wp2
        go_round
        case rel => exact ⟨j, by omega, by go_num, by rw [← trim_next hq.out]; exact Ht.out⟩
        case measure => (simp [intOf] <;> omega)
      · have hx' : ((x : Int) == 0) = false := by simp; omega
        go_wp2
        go_ret
        exact ⟨by rw [← Ht.out, trim_stop hq.out (by omega)]; rfl, rfl⟩

/-- The base of limbs. -/
abbrev B32 : Nat := 4294967296
theorem b32 : 2 ≤ B32 := by decide
def V (l : List Nat) : Nat := valB B32 l
def limbs (n : Nat) : List Nat := digB B32 n
theorem trim_limbs {l : List Nat} (h : Dig B32 l) : trimL l = limbs (V l) := trimL_eq b32 h

def longE (l : List Nat) : Int := if 64 < l.length then 4 else 0
set_option maxHeartbeats 400000 in
theorem Check_any (A : Option Addr) (c : Nat) (l : List Nat) (w : World) :
    Calls Tryz.prog 58 #[.slice A l.length c] w fun e w' => e = .returned (.int .i64 (longE l)) ∧ w = w' := by
  go_enter Tryz.func58, Tryz.ntmps58
  go_wp2
  all_goals (go_ret; exact ⟨ret_int (by unfold longE; split <;> omega), rfl⟩)
def long2E (l m : List Nat) : Int := if 64 < l.length ∨ 64 < m.length then 4 else 0
theorem long2E_zero {l m : List Nat} : long2E l m = 0 ↔ l.length ≤ 64 ∧ m.length ≤ 64 := by unfold long2E; split <;> omega
set_option maxHeartbeats 400000 in
theorem check_any (A : Option Addr) (c : Nat) (l : List Nat) (C : Option Addr) (d : Nat) (m : List Nat) (w : World) :
    Calls Tryz.prog 205 #[.slice A l.length c, .slice C m.length d] w fun e w' => e = .returned (.int .i64 (long2E l m)) ∧ w = w' := by
  by_cases h1 : 64 < l.length <;> by_cases h2 : 64 < m.length
  all_goals (
    have e1 : Hid (longE l = longE l) := Lib.hid rfl
    go_enter Tryz.func205, Tryz.ntmps205
    go_wp2
    go_ret
    exact ⟨ret_int (by unfold long2E; split <;> omega), rfl⟩)

theorem hid_of {p : Prop} (h : p) : Hid p := Lib.hid h

set_option maxRecDepth 100000 in
set_option maxHeartbeats 2000000 in
theorem order_any (A : Option Addr) (c : Nat) (l : List Nat) (C : Option Addr) (d : Nat) (m : List Nat) (w : World) (hA : Arr 1 enc32 w w.heap.size A l) (hC : Arr 1 enc32 w w.heap.size C m) (hl : l.length ≤ c) (hc : c ≤ maxLen) (hm : m.length ≤ d) (hd : d ≤ maxLen) (dl : Dig B32 l) (dm : Dig B32 m) :
    Calls Tryz.prog 153 #[.slice A l.length c, .slice C m.length d] w fun e w' => e = .returned (.int .i64 (cmpI (V l) (V m))) ∧ Below w.heap.size w w' := by
  have e1 := trim_limbs dl
  have e2 := trim_limbs dm
  have t1 := trimL_take l
  have t2 := trimL_take m
  have a1 := hA.take (trimL l).length
  have a2 := hC.take (trimL m).length
  rw [← t1] at a1
  rw [← t2] at a2
  have k1 := trimL_le l
  have k2 := trimL_le m
  have cA := fun w => trim_any A c l w
  have cC := fun w => trim_any C d m w
  have D1 : Dig B32 (limbs (V l)) := digB_dig b32 _
  have D2 : Dig B32 (limbs (V m)) := digB_dig b32 _
  have v1 : V (limbs (V l)) = V l := digB_val b32 _
  have v2 : V (limbs (V m)) = V m := digB_val b32 _
  have lt1 := fun h => digB_len_lt (n := V l) (m := V m) b32 h
  have lt2 := fun h => digB_len_lt (n := V m) (m := V l) b32 h
  rw [e1] at a1 k1 cA
  rw [e2] at a2 k2 cC
  change (limbs (V l)).length < (limbs (V m)).length → V l < V m at lt1
  change (limbs (V m)).length < (limbs (V l)).length → V m < V l at lt2
  clear e1 e2 t1 t2
  generalize limbs (V l) = L at *
  generalize limbs (V m) = M at *
  have G1 := Lib.hid lt1; have G2 := Lib.hid lt2; have V1 := Lib.hid v1; have V2 := Lib.hid v2
  clear lt1 lt2 v1 v2
  unfold maxLen at hc hd
  go_enter Tryz.func153, Tryz.ntmps153
  go_wp2_with fail
  refine (cA _ hA hl (by unfold maxLen; omega)).mono ?_
  rintro e w' ⟨rfl, rfl⟩
  go_wp2_with fail
  refine (cC _ hC hm (by unfold maxLen; omega)).mono ?_
  rintro e w' ⟨rfl, rfl⟩
  clear cA cC
  rcases Nat.lt_trichotomy L.length M.length with hlt | heq | hgt
  · have := G1.out hlt
    go_wp2_with fail
    go_ret
    exact ⟨ret_int (cmpI_lt this).symm, Below.refl _ _⟩
  · have He := Lib.hid heq
    have g1 : decide (L.length < M.length) = false := by simp; omega
    have g2 : decide (M.length < L.length) = false := by simp; omega
    clear heq
    go_wp2_with fail
    go_loopw [5] (fun i wr => ∃ k : Nat, k ≤ L.length ∧ i = .int .i64 ((k : Int) - 1) ∧ L.drop k = M.drop k ∧ Below w.heap.size w wr) (fun i _ => (intOf i + 1).toNat)
    case atStart => exact ⟨_, Nat.le_refl _, rfl, by rw [List.drop_length, He.out, List.drop_length], Below.refl _ _⟩
    case round =>
      obtain ⟨k, hk, rfl, ht, hb⟩ := hrel
      have Ht := Lib.hid ht
      clear ht
      cases k with
      | zero =>
        go_wp2_with fail
        go_ret
        have hLM : L = M := by simpa using Ht.out
        exact ⟨ret_int (cmpI_eq (by rw [← V1.out, ← V2.out, hLM])).symm, hb⟩
      | succ j =>
        have := He.out
        obtain ⟨b1, o1, x, rfl, hb1, hx, c1⟩ := a1.u32 (k := j) (by omega) hb
        obtain ⟨b2, o2, y, rfl, hb2, hy, c2⟩ := a2.u32 (k := j) (by omega) hb
        have j1 : (j : Int) < (L.length : Int) := by omega
        have j2 : (j : Int) < (M.length : Int) := by omega
        have l1 := later_cell c1
        have l2 := later_cell c2
        clear this
        rcases Nat.lt_trichotomy x y with hlt | rfl | hgt
        · have r1 : ((x : Int) != (y : Int)) = true := by simp; omega
          have r2 : decide (x < y) = true := by simp; omega
          have fin : Hid (V l < V m) := Lib.hid (by
            rw [← V1.out, ← V2.out]; exact valB_cmp D1 D2 He.out hx.out hy.out Ht.out hlt)
          clear hlt
          go_wp2_with fail
          (refine wp_region_later (by kernel_rfl) (by kernel_rfl) ?_; (repeat (go_big_quiet_step (fail))); refine wpQuiet_nil ?_; rintro w3 ⟨⟨_, hb3⟩, rfl⟩)
          have m1 := later_cell (bel_cell hb3 c1)
          have m2 := later_cell (bel_cell hb3 c2)
          go_wp2_with fail
          (refine wp_region_later (by kernel_rfl) (by kernel_rfl) ?_; (repeat (go_big_quiet_step (fail))); refine wpQuiet_nil ?_; rintro w4 ⟨⟨_, hb4⟩, rfl⟩)
          go_wp2_with fail
          go_ret
          exact ⟨ret_int (cmpI_lt fin.out).symm, below_trans hb (below_trans hb3 hb4)⟩
        · go_wp2_with fail
          (refine wp_region_later (by kernel_rfl) (by kernel_rfl) ?_; (repeat (go_big_quiet_step (fail))); refine wpQuiet_nil ?_; rintro w3 ⟨⟨_, hb3⟩, rfl⟩)
          go_wp2_with fail
          go_roundw
          case rel => exact ⟨j, by omega, by go_num, drop_same hx.out hy.out Ht.out, below_trans hb hb3⟩
          case measure => (simp [intOf] <;> omega)
        · have r1 : ((x : Int) != (y : Int)) = true := by simp; omega
          have r2 : decide (x < y) = false := by simp; omega
          have fin : Hid (V m < V l) := Lib.hid (by
            rw [← V1.out, ← V2.out]; exact valB_cmp D2 D1 He.out.symm hy.out hx.out Ht.out.symm hgt)
          clear hgt
          go_wp2_with fail
          (refine wp_region_later (by kernel_rfl) (by kernel_rfl) ?_; (repeat (go_big_quiet_step (fail))); refine wpQuiet_nil ?_; rintro w3 ⟨⟨_, hb3⟩, rfl⟩)
          have m1 := later_cell (bel_cell hb3 c1)
          have m2 := later_cell (bel_cell hb3 c2)
          go_wp2_with fail
          (refine wp_region_later (by kernel_rfl) (by kernel_rfl) ?_; (repeat (go_big_quiet_step (fail))); refine wpQuiet_nil ?_; rintro w4 ⟨⟨_, hb4⟩, rfl⟩)
          go_wp2_with fail
          go_ret
          exact ⟨ret_int (cmpI_gt fin.out).symm, below_trans hb (below_trans hb3 hb4)⟩
  · have := G2.out hgt
    go_wp2_with fail
    go_ret
    exact ⟨ret_int (cmpI_gt this).symm, Below.refl _ _⟩

end Go.Proofs.YtfolgmcoggejbaaGreat

namespace Go.Proofs.YtfolgmcoggejbaaGreat
open Go.RowKit
set_option linter.unusedVariables false
set_option linter.unusedSimpArgs false

/-- The slice at A with capacity c reads as limbs. -/
structure Nt (w : World) (A : Option Addr) (c : Nat) (l : List Nat) : Prop where
  arr : Arr 1 enc32 w w.heap.size A l
  len : l.length ≤ c
  cap : c ≤ maxLen
  dig : Dig B32 l
  nil : A = none → c = 0
theorem Nt.on {w w' : World} {A : Option Addr} {c : Nat} {l : List Nat} (h : Nt w A c l) (hb : Below w.heap.size w w') : Nt w' A c l := ⟨h.arr.on hb, h.len, h.cap, h.dig, h.nil⟩
theorem Nt.lt {w : World} {A : Option Addr} {c : Nat} {l : List Nat} (h : Nt w A c l) {k x : Nat} (hx : l[k]? = some x) : x < 4294967296 := h.dig.get hx
/-- The call's own, normal. -/
def Big (w : World) (base : Nat) (v : Value) (n : Nat) : Prop := Own w base 117 1 enc32 v (limbs n)
theorem V_limbs (n : Nat) : V (limbs n) = n := digB_val b32 n
theorem limbs_dig (n : Nat) : Dig B32 (limbs n) := digB_dig b32 n
theorem own_nt {w : World} {base : Nat} {v : Value} {l : List Nat} (h : Own w base 117 1 enc32 v l) (hd : Dig B32 l) : ∃ A c, v = .slice A l.length c ∧ Nt w A c l := by
  obtain ⟨A, c, hv, h1, h2, h3, h4⟩ := Own.form h enc32_len
  exact ⟨A, c, hv, h4, h1, h2, hd, h3⟩
theorem Big.nt {w : World} {base : Nat} {v : Value} {n : Nat} (h : Big w base v n) : ∃ A c, v = .slice A (limbs n).length c ∧ Nt w A c (limbs n) := own_nt h (limbs_dig n)
theorem Big.below {w w' : World} {base : Nat} {v : Value} {n : Nat} (h : Big w base v n) (hb : Below w.heap.size w w') : Big w' base v n := Own.below h hb
theorem Big.down {w : World} {base base' : Nat} {v : Value} {n : Nat} (h : Big w base v n) (hb : base' ≤ base) : Big w base' v n := Own.down h hb
theorem Own.take {α : Type} {w : World} {base e sz : Nat} {enc : α → List Value} {A : Option Addr} {n c : Nat} {l : List α} (h : Own w base e sz enc (.slice A n c) l) (hs : ∀ x, (enc x).length = sz) {k : Nat} (hk : k ≤ l.length) : Own w base e sz enc (.slice A k c) (l.take k) := by
  refine ⟨by rw [flat_len hs], ?_⟩
  have hkl : (l.take k).length = k := by rw [List.length_take, Nat.min_eq_left hk]
  rcases h.2 with ⟨hv, h0⟩ | ⟨g, cap, cur, hv, hg, hh, hn, hm, hc, ht⟩
  · simp only [Value.slice.injEq] at hv
    obtain ⟨rfl, rfl, rfl⟩ := hv
    left
    have : k = 0 := by omega
    subst this
    exact ⟨rfl, hkl⟩
  · right
    simp only [Value.slice.injEq] at hv
    obtain ⟨rfl, rfl, rfl⟩ := hv
    refine ⟨g, _, cur, by rw [hkl], hg, hh, by rw [hkl]; omega, hm, hc, ?_⟩
    rw [hkl]
    have e : l.flatMap enc = (l.take k).flatMap enc ++ (l.drop k).flatMap enc := by rw [← List.flatMap_append, List.take_append_drop]
    rw [e] at ht
    have := congrArg (List.take (k * sz)) ht
    rw [List.take_take, Nat.min_eq_left (Nat.mul_le_mul_right _ hk), List.take_append_of_le_length (by rw [flat_len hs, hkl]; omega)] at this
    rw [this, List.take_of_length_le (by rw [flat_len hs, hkl]; omega)]
/-- What trim makes of one's own. -/
theorem Own.trim {w : World} {base : Nat} {A : Option Addr} {n c : Nat} {l : List Nat} (h : Own w base 117 1 enc32 (.slice A n c) l) (hd : Dig B32 l) : Big w base (.slice A (trimL l).length c) (V l) := by
  have := Own.take h enc32_len (trimL_le l)
  rw [← trimL_take] at this
  unfold Big
  rw [← trim_limbs hd]
  exact this

theorem u32_info : (Tryz.prog.info? 117).map (fun i => (i.zero, i.size, i.bytes)) = some (some (.int .u32 0), 1, 4) := by kernel_rfl
theorem u32_size : (Tryz.prog.info? 117).map (·.size) = some 1 := by kernel_rfl

/-- 'copy(out, xs)': out is the call's own, known whole; xs reads as a list not longer than it. -/
theorem wpList_cp {P : Program} {w : World} {ops : Array Oper} {rest : List Oper} {o : Oper} {a : Act} {Q : Exit → Act → World → Prop} (hgd : o.guard = none) (d s : Operand) (dT sT : TypeId)
    (ho : o.op = .call { callee := .builtin .copy, args := #[d, s], argTypes := #[dT, sT] }) (e : TypeId) (hu : P.underlying dT = some (.slice e)) (hsz : (P.info? e).map (·.size) = some 1)
    {α : Type} {f : α → Value} (h1 : ∀ x, (f x).oneCell' = true) {base : Nat} {w0 : World} {g n : Nat} {l m : List α} {A : Option Addr} {B c : Nat} (hd : a.eval d = .slice (some ⟨g, 0, none⟩) n n) (hs : a.eval s = .slice A m.length c)
    (hown : Own w base e 1 (fun x => [f x]) (.slice (some ⟨g, 0, none⟩) n n) l) (hl : l.length = n) (hA : Arr 1 (fun x => [f x]) w B A m) (hm : m.length ≤ n) (hb : Below base w0 w)
    (h : ∀ w', Own w' base e 1 (fun x => [f x]) (.slice (some ⟨g, 0, none⟩) n n) (m ++ l.drop m.length) → Below base w0 w' → wpList P ops Q rest (a.put o.dst (goInt m.length)) w') : wpList P ops Q (o :: rest) a w := by
  subst hl
  rcases hown.2 with ⟨hv, _⟩ | ⟨g', cap, cur, hv, hg, hh, hn, hmx, hc, ht⟩
  · simp at hv
  simp only [Value.slice.injEq, Option.some.injEq, Addr.mk.injEq] at hv
  obtain ⟨⟨rfl, _⟩, _, rfl⟩ := hv
  rw [flat1, Nat.mul_one] at ht
  rw [Nat.mul_one] at hc
  have hcur : cur.toList = l.map f := by rw [← ht, List.take_of_length_le (by simp [hc])]
  have hh' : w.heap[g]? = some (.cells (l.map f).toArray e (0, 0)) := by rw [hh, ← hcur]
  refine wpList_copy_splice hgd d s dT sT ho e hu hsz _ _ _ _ _ _ hd hs g 0 (l.map f) e hh' (m.map f) ?_ ?_ (by simp; omega) ?_ base w0 hb hg (fun w' hg' hb' => ?_)
  · simp [Nat.min_def]; omega
  · intro hp
    obtain ⟨b, off, rfl, hbb, hc'⟩ := hA (by rintro rfl; simp at hp)
    refine ⟨rfl, _, rfl, ?_⟩
    have := flat_cell (sz := 1) (enc := fun x => [f x]) (fun _ => rfl) (by decide) hc'
    rw [flat1] at this
    exact this
  · intro v hv
    obtain ⟨x, _, rfl⟩ := List.mem_map.1 hv
    exact h1 x
  · have h2 := h w' ?_ hb'
    · simpa using h2
    · refine ⟨by rw [flat1]; simp, .inr ⟨g, _, (splice (l.map f) 0 (m.map f)).toArray, ?_, hg, hg'.out, ?_, hmx, ?_, ?_⟩⟩
      · simp; omega
      · simp; omega
      · rw [List.size_toArray, length_splice _ _ _ (by simp; omega)]; simp
      · rw [flat1]
        have e1 : splice (l.map f) 0 (m.map f) = (m ++ l.drop m.length).map f := by simp [splice, List.map_drop]
        rw [e1, List.take_of_length_le (by simp)]

set_option maxRecDepth 100000 in
set_option maxHeartbeats 1000000 in
theorem clone_any (A : Option Addr) (c : Nat) (l : List Nat) (w : World) (h : Nt w A c l) (hl : l.length ≤ 3000000) :
    Calls Tryz.prog 38 #[.slice A l.length c] w fun e w' => ∃ v, e = .returned v ∧ Big w' w.heap.size v (V l) ∧ Below w.heap.size w w' := by
  obtain ⟨i0, hi, hz0, hz1, hz2⟩ := info_parts u32_info
  have k1 := trimL_le l
  have ha := h.arr.take (trimL l).length
  rw [← trimL_take] at ha
  have hlen := h.len; have hcap := h.cap
  go_enter Tryz.func38, Tryz.ntmps38
  go_wp2_with (first
    | (go_at_call 94; refine (trim_any A c l _ h.arr h.len h.cap).mono ?_; rintro e w' ⟨rfl, rfl⟩)
    | (at_make; refine wpList_mk rfl _ _ 30 rfl 117 i0 _ 4 Tryz.underlying30 hi hz0 hz1 hz2 rfl (fun n : Nat => Value.int .u32 n) 0 rfl _ _ _ _ (trimL l).length rfl rfl rfl rfl (by omega) (by unfold maxLen; omega) ?_; intro w3 hown3 hb3)
    | (refine wpList_cp rfl _ _ 30 30 rfl 117 Tryz.underlying30 u32_size (f := fun n : Nat => Value.int .u32 n) (fun _ => rfl) (m := trimL l) rfl rfl hown3 (by simp) (ha.on hb3) (Nat.le_refl _) hb3 ?_; intro w4 hown4 hb4))
  go_ret
  refine ⟨_, rfl, ?_, hb4⟩
  rw [List.drop_of_length_le (by simp), List.append_nil] at hown4
  unfold Big
  rw [← trim_limbs h.dig]
  exact hown4

theorem getD_take {b : Nat} (l : List Nat) (k : Nat) : valB b (l.take (k + 1)) = valB b (l.take k) + b ^ k * l[k]?.getD 0 := by
  by_cases h : k < l.length
  · rw [valB_snoc (List.getElem?_eq_getElem h), List.getElem?_eq_getElem h]; rfl
  · rw [List.take_of_length_le (by omega), List.take_of_length_le (by omega), List.getElem?_eq_none (by omega)]; simp
theorem set_take {l : List Nat} {k x : Nat} (h : k < l.length) : (l.set k x).take (k + 1) = l.take k ++ [x] := by
  rw [List.take_set, take_snoc (List.getElem?_eq_getElem h), List.set_append, if_neg (by simp; omega), List.length_take, Nat.min_eq_left (by omega), Nat.sub_self]; rfl
theorem set_val {b : Nat} {l : List Nat} {k x : Nat} (h : k < l.length) : valB b ((l.set k x).take (k + 1)) = valB b (l.take k) + b ^ k * x := by
  rw [set_take h, valB_app, valB_one, List.length_take, Nat.min_eq_left (by omega)]

theorem wrapU {n : Int} {k : Nat} (h : n = k) (hk : k < 18446744073709551616) : IntKind.u64.wrap n = k := by
  rw [IntKind.wrap_u64]; omega
/-- A sum and its two limbs, for the walk. -/
theorem limbs2 (t : Nat) : ∃ q r : Nat, (t : Int) / 4294967296 = (q : Int) ∧ (t : Int) % 4294967296 = (r : Int) ∧ Hid (q = t / B32 ∧ r = t % B32) :=
  ⟨t / 4294967296, t % 4294967296, by omega, by omega, Lib.hid ⟨rfl, rfl⟩⟩

/-- One step of an addition. -/
theorem plus_step {l m o : List Nat} {k cy s : Nat} (hk : k < o.length) (h : valB B32 (o.take k) + B32 ^ k * cy = valB B32 (l.take k) + valB B32 (m.take k)) (hs : s = cy + l[k]?.getD 0 + m[k]?.getD 0) :
    valB B32 ((o.set k (s % B32)).take (k + 1)) + B32 ^ (k + 1) * (s / B32) = valB B32 (l.take (k + 1)) + valB B32 (m.take (k + 1)) := by
  rw [set_val hk, getD_take, getD_take, Nat.pow_succ, Nat.mul_assoc, Nat.add_assoc, ← Nat.mul_add, Nat.mod_add_div, hs, Nat.mul_add, Nat.mul_add]
  omega
theorem plus_end {l m o : List Nat} {cy : Nat} (h : valB B32 o + B32 ^ o.length * cy = V l + V m) (dl : Dig B32 l) (dm : Dig B32 m) (h1 : l.length < o.length) (h2 : m.length < o.length) : V o = V l + V m := by
  have a1 := valB_lt dl
  have a2 := valB_lt dm
  have b1 : B32 ^ l.length ≤ B32 ^ (o.length - 1) := Nat.pow_le_pow_right (by decide) (by omega)
  have b2 : B32 ^ m.length ≤ B32 ^ (o.length - 1) := Nat.pow_le_pow_right (by decide) (by omega)
  have e : B32 ^ o.length = B32 ^ (o.length - 1) * 4294967296 := by rw [← Nat.pow_succ]; congr 1; omega
  rcases Nat.eq_zero_or_pos cy with rfl | hc
  · unfold V at *; simpa using h
  · have : B32 ^ o.length * 1 ≤ B32 ^ o.length * cy := Nat.mul_le_mul_left _ hc
    unfold V at *
    omega

set_option maxRecDepth 100000 in
set_option maxHeartbeats 2000000 in
theorem plus_any (A : Option Addr) (c : Nat) (l : List Nat) (C : Option Addr) (d : Nat) (m : List Nat) (w : World) (hA : Nt w A c l) (hC : Nt w C d m) (hl : l.length ≤ 1000000) (hm : m.length ≤ 1000000) :
    Calls Tryz.prog 56 #[.slice A l.length c, .slice C m.length d] w fun e w' => ∃ v, e = .returned v ∧ Big w' w.heap.size v (V l + V m) ∧ Below w.heap.size w w' := by
  obtain ⟨i0, hi, hz0, hz1, hz2⟩ := info_parts u32_info
  obtain ⟨N, hN⟩ : ∃ N : Nat, N = max l.length m.length + 1 := ⟨_, rfl⟩
  have hN1 : Hid (((max l.length m.length : Nat) : Int) + 1 = (N : Int)) := Lib.hid (by omega)
  have n1 : l.length < N := by omega
  have n2 : m.length < N := by omega
  have n3 : N ≤ 1000001 := by omega
  have e1 : max (l.length : Int) (m.length : Int) = (N : Int) - 1 := by omega
  clear hN
  rcases Nat.lt_or_ge l.length m.length with hlm | hlm
  all_goals (
    go_enter Tryz.func56, Tryz.ntmps56
    go_wp2_with (at_make; refine wpList_mk rfl _ _ 30 rfl 117 i0 _ 4 Tryz.underlying30 hi hz0 hz1 hz2 rfl (fun n : Nat => Value.int .u32 n) 0 rfl _ _ _ _ N rfl rfl (by omega) (by omega) (by omega) (by unfold maxLen; omega) ?_; intro w3 hown3 hb3)
    clear hlm e1 hN1
    go_loopw [6, 17] (fun cy i wr => ∃ (k s : Nat) (o : List Nat), k ≤ N ∧ i = .int .i64 k ∧ cy = .int .u64 s ∧ s ≤ 1 ∧ o.length = N ∧ Dig B32 o ∧ valB B32 (o.take k) + B32 ^ k * s = valB B32 (l.take k) + valB B32 (m.take k) ∧
      Own wr w.heap.size 117 1 enc32 (.slice (some ⟨w.heap.size, 0, none⟩) N N) o ∧ Below w.heap.size w wr) (fun _ i _ => N - (intOf i).toNat)
    case atStart => exact ⟨0, 0, _, Nat.zero_le _, rfl, rfl, by decide, by simp, Dig.rep (by decide) _, by simp [valB], hown3, hb3⟩
    case round =>
      obtain ⟨k, s, o, hk, rfl, rfl, hs, hol, hd, hv, hown, hb⟩ := hrel
      have Hv := Lib.hid hv; have Hd := Lib.hid hd; have Hol := Lib.hid hol
      clear hv hd hol
      by_cases hlt : k < N
      · have d0 := Own.at1 (f := fun n : Nat => Value.int .u32 n) hown Hol.out (List.getElem?_eq_getElem (by rw [Hol.out]; exact hlt))
        have d1 := Own.fr1 (f := fun n : Nat => Value.int .u32 n) hown Hol.out k
        by_cases h1 : k < l.length <;> by_cases h2 : k < m.length
        · obtain ⟨b1, o1, x, rfl, hb1, hx, c1⟩ := hA.arr.u32 h1 hb
          have x1 := hA.lt hx.out
          have w1 : IntKind.u64.wrap (x : Int) = (x : Int) := wrapU rfl (by omega)
          obtain ⟨b2, o2, y, rfl, hb2, hy, c2⟩ := hC.arr.u32 h2 hb
          have y1 := hC.lt hy.out
          have w2 : IntKind.u64.wrap (y : Int) = (y : Int) := wrapU rfl (by omega)
          obtain ⟨t, ht⟩ : ∃ t : Nat, t = s + x + y := ⟨_, rfl⟩
          obtain ⟨q, r, hq, hr, hqr⟩ := limbs2 t
          have w3 : IntKind.u64.wrap ((s : Int) + (x : Int)) = (s : Int) + (x : Int) := (wrapU (k := s + x) (by omega) (by omega)).trans (by omega)
          have w4 : IntKind.u64.wrap ((s : Int) + (x : Int) + (y : Int)) = (t : Int) := wrapU (by omega) (by omega)
          have Hst := Lib.hid (plus_step (l := l) (m := m) (o := o) (s := t) (by rw [Hol.out]; exact hlt) Hv.out (by rw [hx.out, hy.out]; exact ht))
          have Hset : Hid (Own (wr.setCell ⟨w.heap.size, k, none⟩ (.int .u32 (r : Int))) w.heap.size 117 1 enc32 (.slice (some ⟨w.heap.size, 0, none⟩) N N) (o.set k r)) := Lib.hid (Own.set1 (f := fun n : Nat => Value.int .u32 n) hown Hol.out k r)
          have hq1 : q ≤ 1 := by have := hqr.out.1; change q = t / 4294967296 at this; omega
          have hr1 : Hid (r < B32) := Lib.hid (by rw [hqr.out.2]; exact Nat.mod_lt _ (by decide))
          rw [← hqr.out.1, ← hqr.out.2] at Hst
          clear ht x1 y1
          go_wp2
          go_roundw
          case rel => exact ⟨k + 1, q, o.set k r, by omega, by go_num, rfl, hq1, by rw [List.length_set]; exact Hol.out, Hd.out.set hr1.out k, Hst.out, Hset.out, hb.setCell (Nat.le_refl _) _⟩
          case measure => (simp [intOf] <;> omega)
        · obtain ⟨b1, o1, x, rfl, hb1, hx, c1⟩ := hA.arr.u32 h1 hb
          have x1 := hA.lt hx.out
          have w1 : IntKind.u64.wrap (x : Int) = (x : Int) := wrapU rfl (by omega)
          have hy : Hid (m[k]? = none) := Lib.hid (List.getElem?_eq_none (by omega))
          have y1 := True.intro
          obtain ⟨t, ht⟩ : ∃ t : Nat, t = s + x := ⟨_, rfl⟩
          obtain ⟨q, r, hq, hr, hqr⟩ := limbs2 t
          have w4 : IntKind.u64.wrap ((s : Int) + (x : Int)) = (t : Int) := wrapU (by omega) (by omega)
          have Hst := Lib.hid (plus_step (l := l) (m := m) (o := o) (s := t) (by rw [Hol.out]; exact hlt) Hv.out (by rw [hx.out, hy.out]; simp; omega))
          have Hset : Hid (Own (wr.setCell ⟨w.heap.size, k, none⟩ (.int .u32 (r : Int))) w.heap.size 117 1 enc32 (.slice (some ⟨w.heap.size, 0, none⟩) N N) (o.set k r)) := Lib.hid (Own.set1 (f := fun n : Nat => Value.int .u32 n) hown Hol.out k r)
          have hq1 : q ≤ 1 := by have := hqr.out.1; change q = t / 4294967296 at this; omega
          have hr1 : Hid (r < B32) := Lib.hid (by rw [hqr.out.2]; exact Nat.mod_lt _ (by decide))
          rw [← hqr.out.1, ← hqr.out.2] at Hst
          clear ht x1 y1
          go_wp2
          go_roundw
          case rel => exact ⟨k + 1, q, o.set k r, by omega, by go_num, rfl, hq1, by rw [List.length_set]; exact Hol.out, Hd.out.set hr1.out k, Hst.out, Hset.out, hb.setCell (Nat.le_refl _) _⟩
          case measure => (simp [intOf] <;> omega)
        · have hx : Hid (l[k]? = none) := Lib.hid (List.getElem?_eq_none (by omega))
          have x1 := True.intro
          obtain ⟨b2, o2, y, rfl, hb2, hy, c2⟩ := hC.arr.u32 h2 hb
          have y1 := hC.lt hy.out
          have w2 : IntKind.u64.wrap (y : Int) = (y : Int) := wrapU rfl (by omega)
          obtain ⟨t, ht⟩ : ∃ t : Nat, t = s + y := ⟨_, rfl⟩
          obtain ⟨q, r, hq, hr, hqr⟩ := limbs2 t
          have w4 : IntKind.u64.wrap ((s : Int) + (y : Int)) = (t : Int) := wrapU (by omega) (by omega)
          have Hst := Lib.hid (plus_step (l := l) (m := m) (o := o) (s := t) (by rw [Hol.out]; exact hlt) Hv.out (by rw [hx.out, hy.out]; simp; omega))
          have Hset : Hid (Own (wr.setCell ⟨w.heap.size, k, none⟩ (.int .u32 (r : Int))) w.heap.size 117 1 enc32 (.slice (some ⟨w.heap.size, 0, none⟩) N N) (o.set k r)) := Lib.hid (Own.set1 (f := fun n : Nat => Value.int .u32 n) hown Hol.out k r)
          have hq1 : q ≤ 1 := by have := hqr.out.1; change q = t / 4294967296 at this; omega
          have hr1 : Hid (r < B32) := Lib.hid (by rw [hqr.out.2]; exact Nat.mod_lt _ (by decide))
          rw [← hqr.out.1, ← hqr.out.2] at Hst
          clear ht x1 y1
          go_wp2
          go_roundw
          case rel => exact ⟨k + 1, q, o.set k r, by omega, by go_num, rfl, hq1, by rw [List.length_set]; exact Hol.out, Hd.out.set hr1.out k, Hst.out, Hset.out, hb.setCell (Nat.le_refl _) _⟩
          case measure => (simp [intOf] <;> omega)
        · have hx : Hid (l[k]? = none) := Lib.hid (List.getElem?_eq_none (by omega))
          have hy : Hid (m[k]? = none) := Lib.hid (List.getElem?_eq_none (by omega))
          have Hst := Lib.hid (plus_step (l := l) (m := m) (o := o) (s := s) (by rw [Hol.out]; exact hlt) Hv.out (by rw [hx.out, hy.out]; simp))
          rw [Nat.mod_eq_of_lt (by simp only [B32]; omega), Nat.div_eq_of_lt (by simp only [B32]; omega)] at Hst
          have Hset : Hid (Own (wr.setCell ⟨w.heap.size, k, none⟩ (.int .u32 (s : Int))) w.heap.size 117 1 enc32 (.slice (some ⟨w.heap.size, 0, none⟩) N N) (o.set k s)) := Lib.hid (Own.set1 (f := fun n : Nat => Value.int .u32 n) hown Hol.out k s)
          have hs0 : (s : Int) / 4294967296 = 0 := by omega
          go_wp2
          go_roundw
          case rel => exact ⟨k + 1, 0, o.set k s, by omega, by go_num, rfl, by omega, by rw [List.length_set]; exact Hol.out, Hd.out.set (by simp only [B32]; omega) k, Hst.out, Hset.out, hb.setCell (Nat.le_refl _) _⟩
          case measure => (simp [intOf] <;> omega)
      · obtain rfl : k = N := by omega
        have hw3 : Nt wr (some ⟨w.heap.size, 0, none⟩) k o := by
          obtain ⟨A1, c1, hv1, hn1⟩ := own_nt hown Hd.out
          simp only [Value.slice.injEq] at hv1
          obtain ⟨rfl, _, rfl⟩ := hv1
          exact hn1
        rw [← Hol.out] at hown hw3 ⊢
        go_wp2_with (go_at_call 94; refine (trim_any _ _ o _ hw3.arr hw3.len hw3.cap).mono ?_; rintro e w' ⟨rfl, rfl⟩)
        go_ret
        refine ⟨_, rfl, ?_, hb⟩
        have hfin : V o = V l + V m := plus_end (cy := s) (by have := Hv.out; rw [List.take_of_length_le (by rw [Hol.out]; exact Nat.le_refl _), List.take_of_length_le (by omega), List.take_of_length_le (by omega)] at this; rw [Hol.out]; exact this) hA.dig hC.dig (by rw [Hol.out]; exact n1) (by rw [Hol.out]; exact n2)
        rw [← hfin]
        exact Own.trim hown Hd.out)

end Go.Proofs.YtfolgmcoggejbaaGreat

namespace Go.Proofs.YtfolgmcoggejbaaGreat
open Go.RowKit
set_option linter.unusedVariables false
set_option linter.unusedSimpArgs false

/-- One step of a subtraction. -/
theorem minus_step {l m o : List Nat} {k s q r : Nat} (hk : k < o.length) (h : valB B32 (o.take k) + valB B32 (m.take k) = valB B32 (l.take k) + B32 ^ k * s) (hs : r + m[k]?.getD 0 + s = l[k]?.getD 0 + B32 * q) :
    valB B32 ((o.set k r).take (k + 1)) + valB B32 (m.take (k + 1)) = valB B32 (l.take (k + 1)) + B32 ^ (k + 1) * q := by
  rw [set_val hk, getD_take, getD_take, Nat.pow_succ, Nat.mul_assoc]
  have := congrArg (B32 ^ k * ·) hs
  simp only [Nat.mul_add] at this
  omega
theorem minus_end {l m o : List Nat} {s : Nat} (h : valB B32 o + valB B32 (m.take o.length) = valB B32 l + B32 ^ o.length * s) (dl : Dig B32 l) (do_ : Dig B32 o) (ho : o.length = l.length) (hle : V m ≤ V l) : V o = V l - V m := by
  have a1 := valB_lt dl
  have a2 := valB_lt do_
  rw [← ho] at a1
  have e : valB B32 (m.take o.length) = V m := by
    by_cases hm : o.length ≤ m.length
    · have := valB_split (b := B32) m o.length hm
      unfold V at *
      rcases Nat.eq_zero_or_pos (valB B32 (m.drop o.length)) with h0 | h0
      · rw [this, h0]; simp
      · have : B32 ^ o.length * 1 ≤ B32 ^ o.length * valB B32 (m.drop o.length) := Nat.mul_le_mul_left _ h0
        omega
    · rw [List.take_of_length_le (by omega)]; rfl
  rw [e] at h
  unfold V at *
  rcases Nat.eq_zero_or_pos s with rfl | hs
  · omega
  · have : B32 ^ o.length * 1 ≤ B32 ^ o.length * s := Nat.mul_le_mul_left _ hs
    omega

theorem sub_limb {x s y : Nat} (hx : x < 4294967296) (hs : s ≤ 1) (hy : y < 4294967296) : ∃ t1 t q r : Nat, IntKind.u64.wrap ((x : Int) - (s : Int)) = (t1 : Int) ∧ IntKind.u64.wrap ((t1 : Int) - (y : Int)) = (t : Int) ∧ (t : Int) % 4294967296 = (r : Int) ∧
    Hid ((t : Int) / 9223372036854775808 = (q : Int)) ∧ Hid (q ≤ 1 ∧ r < B32 ∧ r + y + s = x + B32 * q) := by
  simp only [IntKind.wrap_u64]
  rcases Nat.lt_or_ge x (s + y) with h | h
  · refine ⟨(((x : Int) - s) % 18446744073709551616).toNat, 18446744073709551616 + x - s - y, 1, 4294967296 + x - s - y, by omega, by omega, by omega, Lib.hid (by omega), Lib.hid ⟨by omega, by simp only [B32]; omega, by simp only [B32]; omega⟩⟩
  · refine ⟨x - s, x - s - y, 0, x - s - y, by omega, by omega, by omega, Lib.hid (by omega), Lib.hid ⟨by omega, by simp only [B32]; omega, by simp only [B32]; omega⟩⟩

set_option maxRecDepth 100000 in
set_option maxHeartbeats 2000000 in
theorem minus_any (A : Option Addr) (c : Nat) (l : List Nat) (C : Option Addr) (d : Nat) (m : List Nat) (w : World) (hA : Nt w A c l) (hC : Nt w C d m) (hl : l.length ≤ 2000000) (hm : m.length ≤ 1000000) (hle : V m ≤ V l) :
    Calls Tryz.prog 169 #[.slice A l.length c, .slice C m.length d] w fun e w' => ∃ v, e = .returned v ∧ Big w' w.heap.size v (V l - V m) ∧ Below w.heap.size w w' := by
  obtain ⟨i0, hi, hz0, hz1, hz2⟩ := info_parts u32_info
  have Hle := Lib.hid hle
  clear hle
  go_enter Tryz.func169, Tryz.ntmps169
  go_wp2_with (at_make; refine wpList_mk rfl _ _ 30 rfl 117 i0 _ 4 Tryz.underlying30 hi hz0 hz1 hz2 rfl (fun n : Nat => Value.int .u32 n) 0 rfl _ _ _ _ l.length rfl rfl (by omega) (by omega) (by omega) (by unfold maxLen; omega) ?_; intro w3 hown3 hb3)
  go_loopw [6, 14] (fun cy i wr => ∃ (k s : Nat) (o : List Nat), k ≤ l.length ∧ i = .int .i64 k ∧ cy = .int .u64 s ∧ s ≤ 1 ∧ o.length = l.length ∧ Dig B32 o ∧ valB B32 (o.take k) + valB B32 (m.take k) = valB B32 (l.take k) + B32 ^ k * s ∧
    Own wr w.heap.size 117 1 enc32 (.slice (some ⟨w.heap.size, 0, none⟩) l.length l.length) o ∧ Below w.heap.size w wr) (fun _ i _ => l.length - (intOf i).toNat)
  case atStart => exact ⟨0, 0, _, Nat.zero_le _, rfl, rfl, by decide, by simp, Dig.rep (by decide) _, by simp [valB], hown3, hb3⟩
  case round =>
    obtain ⟨k, s, o, hk, rfl, rfl, hs, hol, hd, hv, hown, hb⟩ := hrel
    have Hv := Lib.hid hv; have Hd := Lib.hid hd; have Hol := Lib.hid hol
    clear hv hd hol
    by_cases hlt : k < l.length
    · have d0 := Own.at1 (f := fun n : Nat => Value.int .u32 n) hown Hol.out (List.getElem?_eq_getElem (by rw [Hol.out]; exact hlt))
      have d1 := Own.fr1 (f := fun n : Nat => Value.int .u32 n) hown Hol.out k
      obtain ⟨b1, o1, x, rfl, hb1, hx, c1⟩ := hA.arr.u32 hlt hb
      have x1 := hA.lt hx.out
      have w1 : IntKind.u64.wrap (x : Int) = (x : Int) := wrapU rfl (by omega)
      by_cases h2 : k < m.length
      · obtain ⟨b2, o2, y, rfl, hb2, hy, c2⟩ := hC.arr.u32 h2 hb
        have y1 := hC.lt hy.out
        have w2 : IntKind.u64.wrap (y : Int) = (y : Int) := wrapU rfl (by omega)
        obtain ⟨t1, t, q, r, w3, w4, w5, hq, hs2⟩ := sub_limb x1 hs y1
        have Hst := Lib.hid (minus_step (l := l) (m := m) (o := o) (by rw [Hol.out]; exact hlt) Hv.out (by rw [hx.out, hy.out]; exact hs2.out.2.2))
        have Hset : Hid (Own (wr.setCell ⟨w.heap.size, k, none⟩ (.int .u32 (r : Int))) w.heap.size 117 1 enc32 (.slice (some ⟨w.heap.size, 0, none⟩) l.length l.length) (o.set k r)) := Lib.hid (Own.set1 (f := fun n : Nat => Value.int .u32 n) hown Hol.out k r)
        go_wp2
        go_roundw
        case rel => exact ⟨k + 1, q, o.set k r, by omega, by go_num, by rw [hq.out], hs2.out.1, by rw [List.length_set]; exact Hol.out, Hd.out.set hs2.out.2.1 k, Hst.out, Hset.out, hb.setCell (Nat.le_refl _) _⟩
        case measure => (simp [intOf] <;> omega)
      · have hy : Hid (m[k]? = none) := Lib.hid (List.getElem?_eq_none (by omega))
        obtain ⟨t1, t, q, r, w3, w4, w5, hq, hs2⟩ := sub_limb (y := 0) x1 hs (by decide)
        have e0 : t = t1 := by rw [IntKind.wrap_u64] at w3 w4; omega
        subst e0
        clear w4
        have Hst := Lib.hid (minus_step (l := l) (m := m) (o := o) (by rw [Hol.out]; exact hlt) Hv.out (by rw [hx.out, hy.out]; simpa using hs2.out.2.2))
        have Hset : Hid (Own (wr.setCell ⟨w.heap.size, k, none⟩ (.int .u32 (r : Int))) w.heap.size 117 1 enc32 (.slice (some ⟨w.heap.size, 0, none⟩) l.length l.length) (o.set k r)) := Lib.hid (Own.set1 (f := fun n : Nat => Value.int .u32 n) hown Hol.out k r)
        go_wp2
        go_roundw
        case rel => exact ⟨k + 1, q, o.set k r, by omega, by go_num, by rw [hq.out], hs2.out.1, by rw [List.length_set]; exact Hol.out, Hd.out.set hs2.out.2.1 k, Hst.out, Hset.out, hb.setCell (Nat.le_refl _) _⟩
        case measure => (simp [intOf] <;> omega)
    · obtain rfl : k = l.length := by omega
      have hw3 : Nt wr (some ⟨w.heap.size, 0, none⟩) l.length o := by
        obtain ⟨A1, c1, hv1, hn1⟩ := own_nt hown Hd.out
        simp only [Value.slice.injEq] at hv1
        obtain ⟨rfl, _, rfl⟩ := hv1
        exact hn1
      have E1 : Hid (l.length = o.length) := Lib.hid Hol.out.symm
      have hfin : V o = V l - V m := minus_end (s := s) (by have := Hv.out; rw [List.take_of_length_le (by rw [Hol.out]; exact Nat.le_refl _), List.take_length] at this; rw [Hol.out]; exact this) hA.dig Hd.out Hol.out Hle.out
      have cT := trim_any _ _ o _ hw3.arr hw3.len hw3.cap
      rw [Hol.out] at cT
      go_wp2_with (go_at_call 94; refine (cT).mono ?_; rintro e w' ⟨rfl, rfl⟩)
      go_ret
      refine ⟨_, rfl, ?_, hb⟩
      rw [← hfin]
      exact Own.trim hown Hd.out

end Go.Proofs.YtfolgmcoggejbaaGreat

namespace Go.Proofs.YtfolgmcoggejbaaGreat
open Go.RowKit
set_option linter.unusedVariables false
set_option linter.unusedSimpArgs false

theorem valB_ge {b : Nat} {l : List Nat} {k x : Nat} (h : l[k]? = some x) : b ^ k * x ≤ valB b l := by
  have hk := (List.getElem?_eq_some_iff.1 h).1
  have h1 := valB_split (b := b) l (k + 1) (by omega)
  rw [valB_snoc h] at h1
  omega
theorem valB_zero {b : Nat} {l : List Nat} {k x : Nat} (h : l[k]? = some x) (hv : valB b l < b ^ k) : x = 0 := by
  rcases Nat.eq_zero_or_pos x with h0 | h0
  · exact h0
  · have h1 := valB_ge (b := b) h
    have : b ^ k * 1 ≤ b ^ k * x := Nat.mul_le_mul_left _ h0
    omega
/-- One step of the inner loop of a product. -/
theorem times_step {m o : List Nat} {I k s x y z q r P : Nat} (hz : o[I + k]? = some z) (hy : m[k]? = some y) (h : valB B32 o + B32 ^ (I + k) * s = P + B32 ^ I * (x * valB B32 (m.take k))) (ht : r + B32 * q = s + (x * y + z)) :
    valB B32 (o.set (I + k) r) + B32 ^ (I + (k + 1)) * q = P + B32 ^ I * (x * valB B32 (m.take (k + 1))) := by
  have h1 := valB_set (b := B32) (y := r) hz
  rw [valB_snoc hy]
  have e1 : B32 ^ (I + (k + 1)) * q = B32 ^ (I + k) * (B32 * q) := by rw [show I + (k + 1) = I + k + 1 from by omega, Nat.pow_succ, Nat.mul_assoc]
  have e2 : B32 ^ I * (x * (valB B32 (m.take k) + B32 ^ k * y)) = B32 ^ I * (x * valB B32 (m.take k)) + B32 ^ (I + k) * (x * y) := by
    rw [Nat.mul_add, Nat.mul_add, Nat.pow_add]
    congr 1
    rw [Nat.mul_assoc, Nat.mul_left_comm x]
  rw [e1, e2]
  have := congrArg (B32 ^ (I + k) * ·) ht
  simp only [Nat.mul_add] at this
  omega
theorem times_end {l m o : List Nat} {I s x : Nat} (hx : l[I]? = some x) (hz : o[I + m.length]? = some 0) (h : valB B32 o + B32 ^ (I + m.length) * s = valB B32 (l.take I) * V m + B32 ^ I * (x * valB B32 m)) :
    valB B32 (o.set (I + m.length) s) = valB B32 (l.take (I + 1)) * V m := by
  have h1 := valB_set (b := B32) (y := s) hz
  rw [valB_snoc hx, Nat.add_mul, Nat.mul_assoc]
  unfold V at *
  omega
theorem times_zero {l m o : List Nat} {I z : Nat} (hz : o[I + m.length]? = some z) (h : valB B32 o = valB B32 (l.take I) * V m) (hI : I ≤ l.length) (dl : Dig B32 l) (dm : Dig B32 m) : z = 0 := by
  refine valB_zero (b := B32) hz ?_
  rw [h, Nat.pow_add]
  have h1 := valB_lt (dl.take I)
  rw [List.length_take, Nat.min_eq_left hI] at h1
  have h2 := valB_lt dm
  exact Nat.mul_lt_mul'' h1 h2
theorem mul_limb {x y z s : Nat} (hx : x < 4294967296) (hy : y < 4294967296) (hz : z < 4294967296) (hs : s < 4294967296) :
    ∃ p pz t q r : Nat, IntKind.u64.wrap ((x : Int) * (y : Int)) = (p : Int) ∧ IntKind.u64.wrap ((p : Int) + (z : Int)) = (pz : Int) ∧ IntKind.u64.wrap ((s : Int) + (pz : Int)) = (t : Int) ∧ (t : Int) / 4294967296 = (q : Int) ∧ (t : Int) % 4294967296 = (r : Int) ∧
      Hid (q < 4294967296 ∧ r < B32 ∧ r + B32 * q = s + (x * y + z)) := by
  have h1 : x * y ≤ 4294967295 * 4294967295 := Nat.mul_le_mul (by omega) (by omega)
  have hc : ((x : Int) * (y : Int)) = ((x * y : Nat) : Int) := by simp
  refine ⟨x * y, x * y + z, s + (x * y + z), (s + (x * y + z)) / 4294967296, (s + (x * y + z)) % 4294967296, wrapU hc (by omega), wrapU (by omega) (by omega), wrapU (by omega) (by omega), by omega, by omega, Lib.hid ⟨by omega, by simp only [B32]; omega, by simp only [B32]; omega⟩⟩

set_option maxRecDepth 100000 in
set_option maxHeartbeats 4000000 in
theorem times_any (A : Option Addr) (c : Nat) (l : List Nat) (C : Option Addr) (d : Nat) (m : List Nat) (w : World) (hA : Nt w A c l) (hC : Nt w C d m) (hl : l.length ≤ 1000000) (hm : m.length ≤ 1000000) :
    Calls Tryz.prog 121 #[.slice A l.length c, .slice C m.length d] w fun e w' => ∃ v, e = .returned v ∧ Big w' w.heap.size v (V l * V m) ∧ Below w.heap.size w w' := by
  obtain ⟨i0, hi, hz0, hz1, hz2⟩ := info_parts u32_info
  obtain ⟨N, hN⟩ : ∃ N : Nat, (l.length : Int) + (m.length : Int) = (N : Int) := ⟨l.length + m.length, by omega⟩
  have n3 : N ≤ 2000000 := by omega
  have n4 : Hid (l.length + m.length = N) := Lib.hid (by omega)
  go_enter Tryz.func121, Tryz.ntmps121
  go_wp2_with (at_make; refine wpList_mk rfl _ _ 30 rfl 117 i0 _ 4 Tryz.underlying30 hi hz0 hz1 hz2 rfl (fun n : Nat => Value.int .u32 n) 0 rfl _ _ _ _ N rfl rfl (by omega) (by omega) (by omega) (by unfold maxLen; omega) ?_; intro w3 hown3 hb3)
  clear hN
  go_loopw [17] (fun i wr => ∃ (k : Nat) (o : List Nat), k ≤ l.length ∧ i = .int .i64 k ∧ o.length = N ∧ Dig B32 o ∧ valB B32 o = valB B32 (l.take k) * V m ∧
    Own wr w.heap.size 117 1 enc32 (.slice (some ⟨w.heap.size, 0, none⟩) N N) o ∧ Below w.heap.size w wr) (fun i _ => l.length - (intOf i).toNat)
  case atStart => exact ⟨0, _, Nat.zero_le _, rfl, by simp, Dig.rep (by decide) _, by simp [valB, valB_rep], hown3, hb3⟩
  case round =>
    obtain ⟨I, o, hI, rfl, hol, hd, hv, hown, hb⟩ := hrel
    by_cases hlt : I < l.length
    · obtain ⟨b1, o1, x, rfl, hb1, hx, c1⟩ := hA.arr.u32 hlt hb
      have x1 := hA.lt hx.out
      have nI : I + m.length < N := by have := n4.out; omega
      have hz := List.getElem?_eq_getElem (l := o) (i := I + m.length) (by omega)
      have hz0 : Hid (o[I + m.length]? = some 0) := Lib.hid (by rw [hz, times_zero hz hv hI hA.dig hC.dig])
      have Hv := Lib.hid hv; have Hd := Lib.hid hd; have Hol := Lib.hid hol; have Hown := Lib.hid hown
      clear hz hv hd hol hown c1
      go_wp2
      go_loopw [7, 22] (fun cy i wr' => ∃ (k s : Nat) (o' : List Nat), k ≤ m.length ∧ i = .int .i64 k ∧ cy = .int .u64 s ∧ s < 4294967296 ∧ o'.length = N ∧ Dig B32 o' ∧ o'[I + m.length]? = some 0 ∧
        valB B32 o' + B32 ^ (I + k) * s = valB B32 (l.take I) * V m + B32 ^ I * (x * valB B32 (m.take k)) ∧
        Own wr' w.heap.size 117 1 enc32 (.slice (some ⟨w.heap.size, 0, none⟩) N N) o' ∧ Below w.heap.size w wr') (fun _ i _ => m.length - (intOf i).toNat)
      case atStart => exact ⟨0, 0, o, Nat.zero_le _, rfl, rfl, by decide, Hol.out, Hd.out, hz0.out, by rw [Hv.out]; simp [valB], Hown.out, hb⟩
      case round =>
        obtain ⟨k, s, o', hk, rfl, rfl, hs, hol', hd', hz', hv', hown', hb'⟩ := hrel
        have Hv' := Lib.hid hv'; have Hd' := Lib.hid hd'; have Hol' := Lib.hid hol'; have Hz' := Lib.hid hz'
        clear hv' hd' hol' hz'
        by_cases hkl : k < m.length
        · obtain ⟨b1', o1', x', e1, hb1', hx', c1⟩ := hA.arr.u32 hlt hb'
          obtain rfl : x = x' := by have := hx.out.symm.trans hx'.out; simpa using this
          obtain ⟨rfl, rfl⟩ : b1 = b1' ∧ o1 = o1' := by simpa using e1
          obtain ⟨b2, o2, y, rfl, hb2, hy, c2⟩ := hC.arr.u32 hkl hb'
          have y1 := hC.lt hy.out
          have hzz := List.getElem?_eq_getElem (l := o') (i := I + k) (by rw [Hol'.out]; omega)
          obtain ⟨z, hz1⟩ : ∃ z, o'[I + k]? = some z := ⟨_, hzz⟩
          clear hzz e1 hx'
          have z1 : z < 4294967296 := Hd'.out.get hz1
          have d0 := Own.at1 (f := fun n : Nat => Value.int .u32 n) hown' Hol'.out hz1
          have d1 := Own.fr1 (f := fun n : Nat => Value.int .u32 n) hown' Hol'.out (I + k)
          obtain ⟨p, pz, t, q, r, w1, w2, w3', w4, w5, hs2⟩ := mul_limb x1 y1 z1 hs
          have u1 : IntKind.u64.wrap (x : Int) = (x : Int) := wrapU rfl (by omega)
          have u2 : IntKind.u64.wrap (y : Int) = (y : Int) := wrapU rfl (by omega)
          have u3 : IntKind.u64.wrap (z : Int) = (z : Int) := wrapU rfl (by omega)
          have Hst := Lib.hid (times_step hz1 hy.out Hv'.out hs2.out.2.2)
          have hIk : Hid (I + k ≠ I + m.length) := Lib.hid (by omega)
          have jN : I + k < N := by omega
          obtain ⟨J, hJ⟩ : ∃ J, I + k = J := ⟨_, rfl⟩
          have nIk : (I : Int) + (k : Int) = (J : Int) := by omega
          rw [hJ] at d0 d1 Hst hIk jN
          rw [hJ] at hz1
          have Hz1 := Lib.hid hz1
          clear hJ hz1
          have f1 := later_cell c1
          have f2 := later_cell c2
          have f3 := later_cell d0
          go_wp2
          (refine wp_region_later (by kernel_rfl) (by kernel_rfl) ?_; (repeat (go_big_quiet_step (fail))); refine wpQuiet_nil ?_; rintro w5 ⟨⟨_, hb5⟩, rfl⟩)
          have hown5 := hown'.below hb5
          have d0' := Own.at1 (f := fun n : Nat => Value.int .u32 n) hown5 Hol'.out Hz1.out
          have d1' := Own.fr1 (f := fun n : Nat => Value.int .u32 n) hown5 Hol'.out J
          have Hset : Hid (Own (w5.setCell ⟨w.heap.size, J, none⟩ (.int .u32 (r : Int))) w.heap.size 117 1 enc32 (.slice (some ⟨w.heap.size, 0, none⟩) N N) (o'.set J r)) := Lib.hid (Own.set1 (f := fun n : Nat => Value.int .u32 n) hown5 Hol'.out J r)
          clear f1 f2 f3 d0 d1
          go_wp2
          go_roundw
          case rel => exact ⟨k + 1, q, o'.set J r, by omega, by go_num, rfl, hs2.out.1, by rw [List.length_set]; exact Hol'.out, Hd'.out.set hs2.out.2.1 J, by rw [List.getElem?_set_ne hIk.out]; exact Hz'.out, Hst.out, Hset.out, (hb'.trans (hb5.mono hb'.size)).setCell (Nat.le_refl _) _⟩
          case measure => (simp [intOf] <;> omega)
        · obtain rfl : k = m.length := by omega
          have hIk : Hid (I + m.length < N) := Lib.hid nI
          obtain ⟨J, hJ⟩ : ∃ J, I + m.length = J := ⟨_, rfl⟩
          have nIk : (I : Int) + (m.length : Int) = (J : Int) := by omega
          have HJ := Lib.hid hJ
          rw [hJ] at nI
          have Hz2 : Hid (o'[J]? = some 0) := Lib.hid (by rw [← hJ]; exact Hz'.out)
          have d0 := Own.at1 (f := fun n : Nat => Value.int .u32 n) hown' Hol'.out Hz2.out
          have d1 := Own.fr1 (f := fun n : Nat => Value.int .u32 n) hown' Hol'.out J
          have Hend : Hid (valB B32 (o'.set J s) = valB B32 (l.take (I + 1)) * V m) := Lib.hid (by
            rw [← HJ.out]
            exact times_end hx.out Hz'.out (by have := Hv'.out; rwa [List.take_length] at this))
          have Hset : Hid (Own (wr.setCell ⟨w.heap.size, J, none⟩ (.int .u32 (s : Int))) w.heap.size 117 1 enc32 (.slice (some ⟨w.heap.size, 0, none⟩) N N) (o'.set J s)) := Lib.hid (Own.set1 (f := fun n : Nat => Value.int .u32 n) hown' Hol'.out J s)
          have sm : (s : Int) % 4294967296 = (s : Int) := by omega
          clear hJ
          go_wp2
          go_roundw
          case rel => exact ⟨I + 1, o'.set J s, by omega, by go_num, by rw [List.length_set]; exact Hol'.out, Hd'.out.set (by simp only [B32]; omega) J, Hend.out, Hset.out, hb'.setCell (Nat.le_refl _) _⟩
          case measure => (simp [intOf] <;> omega)
    · obtain rfl : I = l.length := by omega
      have hw3 : Nt wr (some ⟨w.heap.size, 0, none⟩) N o := by
        obtain ⟨A1, c1, hv1, hn1⟩ := own_nt hown hd
        simp only [Value.slice.injEq] at hv1
        obtain ⟨rfl, _, rfl⟩ := hv1
        exact hn1
      have hfin : Hid (V o = V l * V m) := Lib.hid (by unfold V at *; rwa [List.take_length] at hv)
      have cT := trim_any _ _ o _ hw3.arr hw3.len hw3.cap
      rw [hol] at cT
      have Hv := Lib.hid hv; have Hd := Lib.hid hd; have Hol := Lib.hid hol
      clear hv hd hol
      go_wp2_with (go_at_call 94; refine (cT).mono ?_; rintro e w' ⟨rfl, rfl⟩)
      go_ret
      refine ⟨_, rfl, ?_, hb⟩
      rw [← hfin.out]
      exact Own.trim hown Hd.out

end Go.Proofs.YtfolgmcoggejbaaGreat

namespace Go.Proofs.YtfolgmcoggejbaaGreat
open Go.RowKit
set_option linter.unusedVariables false
set_option linter.unusedSimpArgs false

/-- How many binary digits a number has. -/
def bitLen (n : Nat) : Nat := (digB 2 n).length
theorem bitLen_zero : bitLen 0 = 0 := by unfold bitLen; rw [digB_zero]; rfl
theorem bitLen_pos {n : Nat} (h : 0 < n) : bitLen n = bitLen (n / 2) + 1 := by unfold bitLen; rw [digB_pos (by decide) h]; rfl
theorem bitLen_lt (n : Nat) : n < 2 ^ bitLen n := digB_lt (by decide) n
theorem bitLen_le {n k : Nat} (h : n < 2 ^ k) : bitLen n ≤ k := digB_len_le (by decide) h
theorem bitLen_eq {n k : Nat} (h1 : n < 2 ^ k) (h2 : ∀ j, j < k → 2 ^ j ≤ n) : bitLen n = k := by
  have := bitLen_le h1
  rcases Nat.lt_or_ge (bitLen n) k with h | h
  · have h3 := h2 _ h
    have h4 := bitLen_lt n
    omega
  · omega
theorem bitLen_ge {n : Nat} (h : 0 < n) : 2 ^ (bitLen n - 1) ≤ n := by
  rcases Nat.lt_or_ge n (2 ^ (bitLen n - 1)) with h1 | h1
  · have := bitLen_le h1
    have := bitLen_pos h
    omega
  · exact h1
theorem bitLen_high {lo k x : Nat} (h : lo < 2 ^ k) (hx : 0 < x) : bitLen (lo + 2 ^ k * x) = k + bitLen x := by
  have h1 := bitLen_lt x
  have h2 := bitLen_ge hx
  have h3 := bitLen_pos hx
  refine bitLen_eq ?_ fun j hj => ?_
  · have : 2 ^ k * (x + 1) ≤ 2 ^ k * 2 ^ bitLen x := Nat.mul_le_mul_left _ h1
    rw [Nat.pow_add]
    rw [Nat.mul_add] at this
    omega
  · have a1 : 2 ^ j ≤ 2 ^ (k + (bitLen x - 1)) := Nat.pow_le_pow_right (by decide) (by omega)
    have a2 : 2 ^ k * 2 ^ (bitLen x - 1) ≤ 2 ^ k * x := Nat.mul_le_mul_left _ h2
    rw [Nat.pow_add] at a1
    omega
theorem b32_pow (k : Nat) : B32 ^ k = 2 ^ (32 * k) := by rw [Nat.pow_mul]
theorem bitLen_limbs {n k x : Nat} (hl : (limbs n).length = k + 1) (hx : (limbs n)[k]? = some x) : 0 < x ∧ x < B32 ∧ bitLen n = 32 * k + bitLen x := by
  have h1 := valB_snoc (b := B32) hx
  rw [List.take_of_length_le (by omega)] at h1
  have h2 : valB B32 (limbs n) = n := V_limbs n
  have h3 := valB_lt ((limbs_dig n).take k)
  rw [List.length_take, Nat.min_eq_left (by omega), b32_pow] at h3
  have hp : 0 < x := by
    rcases Nat.eq_zero_or_pos x with rfl | h
    · have h4 : n < B32 ^ k := by
        rw [b32_pow]; rw [h2] at h1; omega
      have := digB_len_le b32 h4
      unfold limbs at hl
      omega
    · exact h
  refine ⟨hp, (limbs_dig n).get hx, ?_⟩
  rw [← h2, h1, b32_pow, bitLen_high h3 hp]

set_option maxRecDepth 100000 in
set_option maxHeartbeats 1000000 in
theorem size_any (A : Option Addr) (c : Nat) (l : List Nat) (w : World) (hA : Nt w A c l) (hl : l.length ≤ 1000000) :
    Calls Tryz.prog 59 #[.slice A l.length c] w fun e w' => e = .returned (.int .i64 (bitLen (V l))) ∧ w = w' := by
  have cT := trim_any _ _ l _ hA.arr hA.len hA.cap
  have k1 := trimL_le l
  have ha := hA.arr.take (trimL l).length
  rw [← trimL_take] at ha
  rw [trim_limbs hA.dig] at cT k1 ha
  have hbl := fun k x h1 h2 => bitLen_limbs (n := V l) (k := k) (x := x) h1 h2
  have h0 : limbs (V l) = [] → bitLen (V l) = 0 := fun h => by
    have := V_limbs (V l)
    rw [h] at this
    rw [← this]; exact bitLen_zero
  generalize limbs (V l) = L at *
  have Hbl := Lib.hid hbl; have H0 := Lib.hid h0
  clear hbl h0
  cases hk : L.length with
  | zero =>
    have e0 := List.eq_nil_of_length_eq_zero hk
    rw [hk] at cT
    go_enter Tryz.func59, Tryz.ntmps59
    go_wp2_with (go_at_call 94; refine (cT).mono ?_; rintro e w' ⟨rfl, rfl⟩)
    go_ret
    exact ⟨ret_int (by rw [H0.out e0]; rfl), rfl⟩
  | succ k =>
    obtain ⟨b1, o1, x, rfl, hb1, hx, c1⟩ := ha.u32 (k := k) (by omega) (Below.refl _ _)
    rw [hk] at cT
    obtain ⟨x0, x1, x2⟩ := Hbl.out _ _ hk hx.out
    have X2 := Lib.hid x2
    have k2 : k < 1000000 := by omega
    clear x2 hk
    simp only [B32] at x1
    go_enter Tryz.func59, Tryz.ntmps59
    go_wp2_with (go_at_call 94; refine (cT).mono ?_; rintro e w' ⟨rfl, rfl⟩)
    clear cT
    have x3 : bitLen x ≤ 32 := bitLen_le (by omega)
    have jb : Hid (bitLen (V l) ≤ 32000032) := Lib.hid (by rw [X2.out]; omega)
    clear x3
    go_loop [3, 4] (fun n y => ∃ (j z : Nat), n = .int .i64 j ∧ y = .int .u32 z ∧ z ≤ x ∧ j ≤ 32000032 ∧ j + bitLen z = bitLen (V l)) (fun _ y => (intOf y).toNat)
    case atStart => exact ⟨32 * k, x, by go_num, rfl, Nat.le_refl _, by have := jb.out; have := X2.out; omega, X2.out.symm⟩
    case round =>
      obtain ⟨j, z, rfl, rfl, hz, hjb, hj⟩ := hrel
      have Hj := Lib.hid hj
      clear hj
      rcases Nat.eq_zero_or_pos z with rfl | hz0
      · go_wp2
        go_ret
        exact ⟨ret_int (by rw [← Hj.out, bitLen_zero]; rfl), rfl⟩
      · have hp := Lib.hid (bitLen_pos hz0)
        go_wp2
        go_round
        case rel => exact ⟨j + 1, z / 2, by go_num, rfl, by omega, by have := jb.out; have := Hj.out; have := hp.out; omega, by have := Hj.out; have := hp.out; omega⟩
        case measure => (simp [intOf] <;> omega)

theorem bit_val {l : List Nat} {i x : Nat} (hx : l[i / 32]? = some x) (dl : Dig B32 l) : V l / 2 ^ i % 2 = x / 2 ^ (i % 32) % 2 := by
  have hk := (List.getElem?_eq_some_iff.1 hx).1
  have h1 := valB_split (b := B32) l (i / 32 + 1) (by omega)
  rw [valB_snoc hx] at h1
  have h2 := valB_lt (dl.take (i / 32))
  rw [List.length_take, Nat.min_eq_left (by omega)] at h2
  have e1 : (2 : Nat) ^ i = B32 ^ (i / 32) * 2 ^ (i % 32) := by
    rw [b32_pow, ← Nat.pow_add]; congr 1; omega
  have e2 : V l = valB B32 (l.take (i / 32)) + B32 ^ (i / 32) * (x + B32 * valB B32 (l.drop (i / 32 + 1))) := by
    unfold V; rw [h1, Nat.pow_succ, Nat.mul_add, Nat.mul_assoc]; omega
  have e3 : B32 = 2 ^ (i % 32) * (2 * 2 ^ (31 - i % 32)) := by
    rw [← Nat.pow_succ', ← Nat.pow_add, show i % 32 + (31 - i % 32).succ = 32 from by omega]
  rw [e1, ← Nat.div_div_eq_div_mul, e2, Nat.add_mul_div_left _ _ (Nat.pow_pos (by decide)), Nat.div_eq_of_lt h2, Nat.zero_add]
  generalize valB B32 (l.drop (i / 32 + 1)) = hi
  rw [show B32 * hi = 2 ^ (i % 32) * (2 * (2 ^ (31 - i % 32) * hi)) from by rw [e3, Nat.mul_assoc, Nat.mul_assoc], Nat.add_mul_div_left _ _ (Nat.pow_pos (by decide)), Nat.add_mul_mod_self_left]

theorem bit_and {x s : Nat} (hx : x < 4294967296) : bits .and .u32 ((x : Int) / 2 ^ s) 1 = ((x / 2 ^ s % 2 : Nat) : Int) := by
  have h : x / 2 ^ s < 4294967296 := Nat.lt_of_le_of_lt (Nat.div_le_self _ _) hx
  have := u32_and_nat (x / 2 ^ s) 1 h (by decide)
  rw [nat_mask1] at this
  rw [← this]
  simp

set_option maxRecDepth 100000 in
set_option maxHeartbeats 1000000 in
theorem bit_any (A : Option Addr) (c : Nat) (l : List Nat) (i : Nat) (w : World) (hA : Nt w A c l) (hl : l.length ≤ 1000000) (hi : i / 32 < l.length) :
    Calls Tryz.prog 168 #[.slice A l.length c, .int .i64 i] w fun e w' => e = .returned (.int .u32 ((V l / 2 ^ i % 2 : Nat) : Int)) ∧ w = w' := by
  obtain ⟨b1, o1, x, rfl, hb1, hx, c1⟩ := hA.arr.u32 (k := i / 32) (by omega) (Below.refl _ _)
  have E := Lib.hid (bit_val hx.out hA.dig)
  have x1 := hA.lt hx.out
  go_enter Tryz.func168, Tryz.ntmps168
  go_wp2
  go_ret
  exact ⟨ret_int (by rw [E.out]; exact bit_and x1), rfl⟩

theorem double_step {l o : List Nat} {k h z lo q r : Nat} (hk : k < o.length) (hz : l[k]? = some z) (hv : valB B32 (o.take k) + B32 ^ k * h = 2 * valB B32 (l.take k) + lo) (hr : r + B32 * q = 2 * z + h) :
    valB B32 ((o.set k r).take (k + 1)) + B32 ^ (k + 1) * q = 2 * valB B32 (l.take (k + 1)) + lo := by
  rw [set_val hk, valB_snoc hz, Nat.pow_succ, Nat.mul_assoc]
  have := congrArg (B32 ^ k * ·) hr
  simp only [Nat.mul_add] at this
  have e : B32 ^ k * (2 * z) = 2 * (B32 ^ k * z) := Nat.mul_left_comm _ _ _
  omega
theorem drop_get {l o : List Nat} {k : Nat} (h : o.drop k = l.drop k) : o[k]? = l[k]? := by
  have := congrArg (fun x => x[0]?) h
  simpa [List.getElem?_drop] using this
theorem drop_set {l o : List Nat} {k r : Nat} (h : o.drop k = l.drop k) : (o.set k r).drop (k + 1) = l.drop (k + 1) := by
  rw [List.drop_set_of_lt (by omega)]
  have := congrArg (List.drop 1) h
  rw [List.drop_drop, List.drop_drop] at this
  exact this
theorem grown_trans {a b c : World} {g : Option Nat} (h : a.grownBy b g) (k : b.grownBy c g) : a.grownBy c g :=
  ⟨k.os.trans h.os, k.tape.trans h.tape, k.output.trans h.output, Nat.le_trans h.size k.size, fun j hj hn => (k.block j (Nat.lt_of_lt_of_le hj h.size) hn).trans (h.block j hj hn)⟩
theorem grown_refl (a : World) (g : Option Nat) : a.grownBy a g := ⟨rfl, rfl, rfl, Nat.le_refl _, fun _ _ _ => rfl⟩
theorem grown_set (w : World) (g k : Nat) (u : Value) : w.grownBy (w.setCell ⟨g, k, none⟩ u) (some g) :=
  ⟨(Below.refl 0 w |>.setCell (Nat.zero_le _) u).os, (Below.refl 0 w |>.setCell (Nat.zero_le _) u).tape, (Below.refl 0 w |>.setCell (Nat.zero_le _) u).output, (Below.refl 0 w |>.setCell (Nat.zero_le _) u).size, fun j _ hn => Below.heap_setCell w _ u j (by rintro rfl; exact hn rfl)⟩

theorem dbl_limb {z h : Nat} (hz : z < 4294967296) (hh : h ≤ 1) : ∃ q r : Nat, (z : Int) / 2147483648 = (q : Int) ∧ bits .or .u32 ((z : Int) * 2 % 4294967296) (h : Int) = (r : Int) ∧ Hid (q ≤ 1 ∧ r < B32 ∧ r + B32 * q = 2 * z + h) := by
  refine ⟨z / 2147483648, z * 2 % 4294967296 + h, by omega, ?_, Lib.hid ⟨by omega, by simp only [B32]; omega, by simp only [B32]; omega⟩⟩
  have h1 := u32_or_nat (z * 2 % 4294967296) h (by omega) (by omega)
  rw [nat_join 1 _ _ (by omega) (by omega)] at h1
  rw [← h1]
  congr 1

set_option maxRecDepth 100000 in
set_option maxHeartbeats 2000000 in
theorem double_any (g : Nat) (l : List Nat) (lo base n : Nat) (w : World) (hA : Own w base 117 1 enc32 (.slice (some ⟨g, 0, none⟩) n n) l) (hn : l.length = n) (hd : Dig B32 l) (hl : n ≤ 2000000) (hlo : lo ≤ 1) :
    Calls Tryz.prog 167 #[.slice (some ⟨g, 0, none⟩) n n, .int .u32 lo] w fun e w' => e = .returned (.tuple #[]) ∧ ∃ l' h, l'.length = n ∧ Dig B32 l' ∧ V l' + B32 ^ n * h = 2 * V l + lo ∧ Own w' base 117 1 enc32 (.slice (some ⟨g, 0, none⟩) n n) l' ∧ w.grownBy w' (some g) := by
  have Hn := Lib.hid hn; have Hd := Lib.hid hd
  clear hn hd
  go_enter Tryz.func167, Tryz.ntmps167
  go_wp2
  go_loopw [1, 8] (fun lw i wr => ∃ (k h : Nat) (o : List Nat), k ≤ n ∧ i = .int .i64 k ∧ lw = .int .u32 h ∧ h ≤ 1 ∧ o.length = n ∧ Dig B32 o ∧ o.drop k = l.drop k ∧ valB B32 (o.take k) + B32 ^ k * h = 2 * valB B32 (l.take k) + lo ∧
    Own wr base 117 1 enc32 (.slice (some ⟨g, 0, none⟩) n n) o ∧ w.grownBy wr (some g)) (fun _ i _ => n - (intOf i).toNat)
  case atStart => exact ⟨0, lo, l, Nat.zero_le _, rfl, rfl, hlo, Hn.out, Hd.out, rfl, by simp [valB], hA, grown_refl _ _⟩
  case round =>
    obtain ⟨k, h, o, hk, rfl, rfl, hh, hol, hdo, hdr, hv, hown, hgr⟩ := hrel
    have Hol := Lib.hid hol; have Hdo := Lib.hid hdo; have Hdr := Lib.hid hdr; have Hv := Lib.hid hv
    clear hol hdo hdr hv
    by_cases hlt : k < n
    · obtain ⟨z, hz⟩ : ∃ z, o[k]? = some z := ⟨_, List.getElem?_eq_getElem (by rw [Hol.out]; exact hlt)⟩
      have z1 : z < 4294967296 := Hdo.out.get hz
      have d0 := Own.at1 (f := fun n : Nat => Value.int .u32 n) hown Hol.out hz
      have d1 := Own.fr1 (f := fun n : Nat => Value.int .u32 n) hown Hol.out k
      have Hz := Lib.hid hz
      clear hz
      obtain ⟨q, r, w1, w2, hqr⟩ := dbl_limb z1 hh
      have Hst := Lib.hid (double_step (l := l) (o := o) (by rw [Hol.out]; exact hlt) (by rw [← drop_get Hdr.out]; exact Hz.out) Hv.out hqr.out.2.2)
      have Hset : Hid (Own (wr.setCell ⟨g, k, none⟩ (.int .u32 (r : Int))) base 117 1 enc32 (.slice (some ⟨g, 0, none⟩) n n) (o.set k r)) := Lib.hid (Own.set1 (f := fun n : Nat => Value.int .u32 n) hown Hol.out k r)
      go_wp2
      go_roundw
      case rel => exact ⟨k + 1, q, o.set k r, by omega, by go_num, rfl, hqr.out.1, by rw [List.length_set]; exact Hol.out, Hdo.out.set hqr.out.2.1 k, drop_set Hdr.out, Hst.out, Hset.out, grown_trans hgr (grown_set _ _ _ _)⟩
      case measure => (simp [intOf] <;> omega)
    · obtain rfl : k = n := by omega
      go_wp2
      go_end0
      have := Hv.out
      rw [List.take_of_length_le (by rw [Hol.out]; exact Nat.le_refl _), List.take_of_length_le (by rw [Hn.out]; exact Nat.le_refl _)] at this
      exact ⟨rfl, o, h, Hol.out, Hdo.out, this, hown, hgr⟩

end Go.Proofs.YtfolgmcoggejbaaGreat

namespace Go.Proofs.YtfolgmcoggejbaaGreat
open Go.RowKit
set_option linter.unusedVariables false
set_option linter.unusedSimpArgs false

theorem own_ntf {w : World} {base g n : Nat} {l : List Nat} (h : Own w base 117 1 enc32 (.slice (some ⟨g, 0, none⟩) n n) l) (hd : Dig B32 l) : Nt w (some ⟨g, 0, none⟩) n l := by
  obtain ⟨A1, c1, hv1, hn1⟩ := own_nt h hd
  simp only [Value.slice.injEq] at hv1
  obtain ⟨rfl, _, rfl⟩ := hv1
  exact hn1
theorem grown_setRow (w : World) (g : Nat) (cs : Array Value) : w.grownBy (w.setRow g cs) (some g) :=
  ⟨rfl, rfl, rfl, by simp [World.setRow], fun k _ hn => setRow_other w g k cs (by rintro rfl; exact hn rfl)⟩
/-- The cells of an own slice that is as long as its block. -/
theorem own_full {α : Type} {w : World} {base e g n : Nat} {f : α → Value} {l : List α} (hown : Own w base e 1 (fun x => [f x]) (.slice (some ⟨g, 0, none⟩) n n) l) (hl : l.length = n) : w.heap[g]? = some (.cells (l.map f).toArray e (0, 0)) ∧ base ≤ g ∧ n ≤ maxLen := by
  subst hl
  rcases hown.2 with ⟨hv, _⟩ | ⟨g', cap, cur, hv, hg, hh, hn, hmx, hc, ht⟩
  · simp at hv
  simp only [Value.slice.injEq, Option.some.injEq, Addr.mk.injEq] at hv
  obtain ⟨⟨rfl, _⟩, _, rfl⟩ := hv
  rw [flat1, Nat.mul_one] at ht
  rw [Nat.mul_one] at hc
  have hcur : cur.toList = l.map f := by rw [← ht, List.take_of_length_le (by simp [hc])]
  exact ⟨by rw [hh, ← hcur], hg, hmx⟩
theorem own_of_full {α : Type} {w : World} {base e g n : Nat} {f : α → Value} {l : List α} (hh : w.heap[g]? = some (.cells (l.map f).toArray e (0, 0))) (hg : base ≤ g) (hn : n ≤ maxLen) (hl : l.length = n) : Own w base e 1 (fun x => [f x]) (.slice (some ⟨g, 0, none⟩) n n) l := by
  subst hl
  refine ⟨by rw [flat1]; simp, .inr ⟨g, _, _, rfl, hg, hh, Nat.le_refl _, hn, by simp, ?_⟩⟩
  rw [flat1, Nat.mul_one, List.take_of_length_le (by simp)]

/-- 'copy(out, xs)': out is the call's own, known whole; xs reads as a list not longer than it. -/
theorem wpList_cp2 {P : Program} {w : World} {ops : Array Oper} {rest : List Oper} {o : Oper} {a : Act} {Q : Exit → Act → World → Prop} (hgd : o.guard = none) (d s : Operand) (dT sT : TypeId)
    (ho : o.op = .call { callee := .builtin .copy, args := #[d, s], argTypes := #[dT, sT] }) (e : TypeId) (hu : P.underlying dT = some (.slice e)) (hsz : (P.info? e).map (·.size) = some 1)
    {α : Type} {f : α → Value} (h1 : ∀ x, (f x).oneCell' = true) {base : Nat} {g n : Nat} {l m : List α} {A : Option Addr} {B c : Nat} (hd : a.eval d = .slice (some ⟨g, 0, none⟩) n n) (hs : a.eval s = .slice A m.length c)
    (hown : Own w base e 1 (fun x => [f x]) (.slice (some ⟨g, 0, none⟩) n n) l) (hl : l.length = n) (hA : Arr 1 (fun x => [f x]) w B A m) (hm : m.length ≤ n)
    (h : ∀ w', Own w' base e 1 (fun x => [f x]) (.slice (some ⟨g, 0, none⟩) n n) (m ++ l.drop m.length) → w.grownBy w' (some g) → wpList P ops Q rest (a.put o.dst (goInt m.length)) w') : wpList P ops Q (o :: rest) a w := by
  obtain ⟨hh, hg, hmx⟩ := own_full hown hl
  by_cases h0 : m = []
  · subst h0
    refine wpList_copy_nothing hgd d s dT sT ho e hu hsz _ _ _ _ _ _ hd hs (by simp) ?_
    exact h w (by simpa using hown) (grown_refl _ _)
  · obtain ⟨b, off, rfl, hbb, hc'⟩ := hA h0
    have hfc := flat_cell (sz := 1) (enc := fun x => [f x]) (fun _ => rfl) (by decide) hc'
    rw [flat1] at hfc
    refine wpList_copy_own hgd d s dT sT ho e hu hsz g 0 n n _ _ _ hd hs (l.map f).toArray e hh (m.map f) ?_ hfc (by simp; omega) ?_ ?_
    · simp [Nat.min_def]; omega
    · intro v hv
      obtain ⟨x, _, rfl⟩ := List.mem_map.1 hv
      exact h1 x
    · have e1 : (((l.map f).toArray.toList.take 0 ++ (m.map f ++ (l.map f).toArray.toList.drop (0 + (m.map f).length))).toArray) = ((m ++ l.drop m.length).map f).toArray := by simp [List.map_drop]
      rw [e1]
      have h2 := h (w.setRow g ((m ++ l.drop m.length).map f).toArray) (own_of_full (setRow_heap w g _ _ e _ hh) hg hmx (by simp; omega)) (grown_setRow _ _ _)
      simpa using h2

/-- 'clear(out)': out is the call's own, known whole. -/
theorem wpList_clr {P : Program} {w : World} {ops : Array Oper} {rest : List Oper} {o : Oper} {a : Act} {Q : Exit → Act → World → Prop} (hgd : o.guard = none) (s : Operand) (t : TypeId)
    (ho : o.op = .call { callee := .builtin .clear, args := #[s], argTypes := #[t] }) (e : TypeId) (ht : P.underlying t = some (.slice e)) (z : Value) (hz : ∀ w, (zeroValue e).run P w = .ok z w) (hzc : z.cells = #[z]) (hz1 : z.oneCell' = true)
    {α : Type} {f : α → Value} (dflt : α) (hfd : f dflt = z) {base g n : Nat} {l : List α} (hs : a.eval s = .slice (some ⟨g, 0, none⟩) n n) (hown : Own w base e 1 (fun x => [f x]) (.slice (some ⟨g, 0, none⟩) n n) l) (hl : l.length = n) (hn : 0 < n)
    (h : ∀ w', Own w' base e 1 (fun x => [f x]) (.slice (some ⟨g, 0, none⟩) n n) (List.replicate n dflt) → w.grownBy w' (some g) → wpList P ops Q rest (a.put o.dst (.tuple #[])) w') : wpList P ops Q (o :: rest) a w := by
  obtain ⟨hh, hg, hmx⟩ := own_full hown hl
  refine wpList_plain hgd fun K hK => ?_
  have hzc' : (Builtin.zeroCells z.cells n).toList = List.replicate n z := by
    rw [hzc]
    simp [Builtin.zeroCells]
    apply List.ext_getElem
    · simp
    · intro i h1 h2
      simp [Nat.mod_one]
  have hst := run_storeCells_at P g 0 e (List.replicate n z) 0 (l.map f).toArray w hh (by simp; omega) (by intro v hv'; rw [List.eq_of_mem_replicate hv']; exact hz1)
  have e1 : (((l.map f).toArray.toList.take (0 + 0) ++ List.replicate n z ++ (l.map f).toArray.toList.drop (0 + 0 + (List.replicate n z).length)).toArray) = ((List.replicate n dflt).map f).toArray := by rw [List.drop_of_length_le (by simp [hl])]; simp [hfd]
  rw [e1] at hst
  have h2 := h (w.setRow g ((List.replicate n dflt).map f).toArray) (own_of_full (setRow_heap w g _ _ e _ hh) hg hmx (by simp)) (grown_setRow _ _ _)
  obtain ⟨m, rfl⟩ : ∃ m, n = m + 1 := ⟨n - 1, by omega⟩
  unfold Oper.wp
  simp [execOp, ho, resolve, invoke, builtin, hs, Builtin.clear_, run_underlying ht, hz, hzc', hst, Result.andThen]
  exact hK _ _ (by simpa using h2)

theorem u32_zero (w : World) : (zeroValue 117).run Tryz.prog w = .ok (.int .u32 0) w := by kernel_rfl

/-! One step of a division, bit by bit. -/
theorem div_more {a d e : Nat} (hd : 0 < d) (h : d ≤ 2 * (a % d) + e) (he : e ≤ 1) : (2 * a + e) / d = 2 * (a / d) + 1 ∧ (2 * a + e) % d = 2 * (a % d) + e - d := by
  have h1 := Nat.mod_add_div a d
  have h2 := Nat.mod_lt a hd
  have e1 : 2 * a + e = (2 * (a % d) + e - d) + d * (2 * (a / d) + 1) := by rw [Nat.mul_add, Nat.mul_left_comm d 2]; omega
  constructor
  · rw [e1, Nat.add_mul_div_left _ _ hd, Nat.div_eq_of_lt (by omega)]; omega
  · rw [e1, Nat.add_mul_mod_self_left, Nat.mod_eq_of_lt (by omega)]
theorem div_less {a d e : Nat} (hd : 0 < d) (h : 2 * (a % d) + e < d) : (2 * a + e) / d = 2 * (a / d) ∧ (2 * a + e) % d = 2 * (a % d) + e := by
  have h1 := Nat.mod_add_div a d
  have e1 : 2 * a + e = (2 * (a % d) + e) + d * (2 * (a / d)) := by rw [Nat.mul_left_comm d 2]; omega
  constructor
  · rw [e1, Nat.add_mul_div_left _ _ hd, Nat.div_eq_of_lt h]; omega
  · rw [e1, Nat.add_mul_mod_self_left, Nat.mod_eq_of_lt h]
theorem half_bit (n j : Nat) : n / 2 ^ j = 2 * (n / 2 ^ (j + 1)) + n / 2 ^ j % 2 := by
  rw [Nat.pow_succ, ← Nat.div_div_eq_div_mul]; omega
theorem or_pow {z s : Nat} (h : z / 2 ^ s % 2 = 0) : z ||| 2 ^ s = z + 2 ^ s := by
  have hp : 0 < 2 ^ s := Nat.pow_pos (by decide)
  have h1 := Nat.mod_add_div z (2 ^ (s + 1))
  have h2 : z % 2 ^ (s + 1) < 2 ^ s := by
    have h3 := Nat.mod_add_div z (2 ^ s)
    have h4 := Nat.mod_lt z hp
    have h5 : z / 2 ^ s = 2 * (z / 2 ^ s / 2) := by omega
    have h6 : z = z % 2 ^ s + 2 ^ (s + 1) * (z / 2 ^ s / 2) := by
      rw [Nat.pow_succ, Nat.mul_assoc, ← h5]; exact h3.symm
    rw [h6, Nat.add_mul_mod_self_left]
    exact Nat.lt_of_le_of_lt (Nat.mod_le _ _) h4
  have hx : (2 ^ (s + 1) * (z / 2 ^ (s + 1))) % 2 ^ (s + 1) = 0 := Nat.mul_mod_right _ _
  have e1 := nat_join (s + 1) (2 ^ (s + 1) * (z / 2 ^ (s + 1))) (z % 2 ^ (s + 1)) hx (Nat.mod_lt _ (Nat.pow_pos (by decide)))
  have e2 := nat_join s (2 ^ s) (z % 2 ^ (s + 1)) (Nat.mod_self _) h2
  have e3 := nat_join (s + 1) (2 ^ (s + 1) * (z / 2 ^ (s + 1))) (2 ^ s + z % 2 ^ (s + 1)) hx (by have hp2 : 2 ^ (s + 1) = 2 ^ s * 2 := Nat.pow_succ ..; omega)
  have ez : z = 2 ^ (s + 1) * (z / 2 ^ (s + 1)) ||| z % 2 ^ (s + 1) := by rw [e1]; omega
  generalize hX : 2 ^ (s + 1) * (z / 2 ^ (s + 1)) = X at *
  generalize hY : z % 2 ^ (s + 1) = Y at *
  rw [ez, Nat.or_assoc, Nat.or_comm Y, e2, e3]
  rw [← ez]; omega
/-- The bit j of a number that is a multiple of 2^(j+1). -/
theorem bit_free {n j t : Nat} (h : n = t * 2 ^ (j + 1)) : n / 2 ^ j % 2 = 0 := by
  rw [h, Nat.pow_succ, Nat.mul_comm (2 ^ j), ← Nat.mul_assoc, Nat.mul_div_cancel _ (Nat.pow_pos (by decide))]; omega
theorem set_bit {l : List Nat} {j z : Nat} (hz : l[j / 32]? = some z) : V (l.set (j / 32) (z + 2 ^ (j % 32))) = V l + 2 ^ j := by
  have h := valB_set (b := B32) (y := z + 2 ^ (j % 32)) hz
  have e1 : (2 : Nat) ^ j = B32 ^ (j / 32) * 2 ^ (j % 32) := by
    rw [b32_pow, ← Nat.pow_add]; congr 1; omega
  rw [Nat.mul_add] at h
  unfold V
  omega
theorem bit_lt {z s : Nat} (hz : z < 4294967296) (hs : s < 32) (h : z / 2 ^ s % 2 = 0) : z + 2 ^ s < 4294967296 := by
  rw [← or_pow h]
  exact Nat.or_lt_two_pow (n := 32) hz (Nat.pow_lt_pow_right (by decide) hs)

end Go.Proofs.YtfolgmcoggejbaaGreat

namespace Go.Proofs.YtfolgmcoggejbaaGreat
open Go.RowKit
set_option linter.unusedVariables false
set_option linter.unusedSimpArgs false

theorem Nt.trim {w : World} {A : Option Addr} {c : Nat} {l : List Nat} (h : Nt w A c l) : Nt w A c (limbs (V l)) := by
  have h1 := h.arr.take (trimL l).length
  rw [← trimL_take, trim_limbs h.dig] at h1
  have h2 := trimL_le l
  rw [trim_limbs h.dig] at h2
  exact ⟨h1, Nat.le_trans h2 h.len, h.cap, limbs_dig _, h.nil⟩
theorem limbs_le {l : List Nat} (h : Dig B32 l) : (limbs (V l)).length ≤ l.length := by
  rw [← trim_limbs h]; exact trimL_le l
theorem trim_nt {A : Option Addr} {c : Nat} {l : List Nat} {w : World} (h : Nt w A c l) :
    Calls Tryz.prog 94 #[.slice A l.length c] w fun e w' => e = .returned (.slice A (limbs (V l)).length c) ∧ w = w' := by
  rw [← trim_limbs h.dig]; exact trim_any A c l w h.arr h.len h.cap
theorem V_lt {l : List Nat} (h : Dig B32 l) : V l < 2 ^ (32 * l.length) := by rw [← b32_pow]; exact valB_lt h
theorem V_le_len {l : List Nat} (h : Dig B32 l) : bitLen (V l) ≤ 32 * l.length := bitLen_le (V_lt h)
theorem V_app (l m : List Nat) : V (l ++ m) = V l + B32 ^ l.length * V m := valB_app l m
theorem V_rep (n : Nat) : V (List.replicate n 0) = 0 := valB_rep n
theorem Own.keep_lt {α : Type} {w w' : World} {base e sz g : Nat} {enc : α → List Value} {v : Value} {l : List α} (h : Own w base e sz enc v l) (hg : w.grownBy w' (some g)) (hlt : g < base) : Own w' base e sz enc v l := by
  refine h.keep hg ?_
  cases hv : v.ownBlock with
  | none => exact .inl rfl
  | some k => exact .inr fun h' => by have := (World.ownsRow.lt h k hv).1; cases h'; omega
theorem own_nt2 {w : World} {base : Nat} {A : Option Addr} {n c : Nat} {l : List Nat} (h : Own w base 117 1 enc32 (.slice A n c) l) (hd : Dig B32 l) : Nt w A c l := by
  obtain ⟨A1, c1, hv1, hn1⟩ := own_nt h hd
  simp only [Value.slice.injEq] at hv1
  obtain ⟨rfl, _, rfl⟩ := hv1
  exact hn1
theorem or_limb {z s : Nat} (hz : z < 4294967296) (hs : s < 32) (h : z / 2 ^ s % 2 = 0) : ∃ y : Nat, bits .or .u32 (z : Int) ((2 : Int) ^ s % 4294967296) = (y : Int) ∧ Hid (y = z + 2 ^ s ∧ y < B32) := by
  refine ⟨z + 2 ^ s, ?_, Lib.hid ⟨rfl, bit_lt hz hs h⟩⟩
  have hp : 2 ^ s < 4294967296 := by
    have h : 2 ^ s < 2 ^ 32 := Nat.pow_lt_pow_right (by decide) hs
    exact h
  have h1 := u32_or_nat z (2 ^ s) hz hp
  rw [or_pow h] at h1
  rw [← h1]
  congr 1
  have e : ((2 ^ s : Nat) : Int) = (2 : Int) ^ s := by simp
  rw [← e]
  generalize 2 ^ s = X at *
  omega
theorem double_fits {b x y X Y h e d : Nat} (hX : X = Y * b) (hb : 2 ≤ b) (hv : x + X * h = 2 * y + e) (hR : y < d) (hd : d ≤ Y) (he : e ≤ 1) : x = 2 * y + e := by
  rcases Nat.eq_zero_or_pos h with rfl | hp
  · simpa using hv
  · have h1 : X * 1 ≤ X * h := Nat.mul_le_mul_left _ hp
    have h2 : Y * 2 ≤ Y * b := Nat.mul_le_mul_left _ hb
    omega

set_option maxRecDepth 100000 in
set_option maxHeartbeats 4000000 in
theorem split_any (A : Option Addr) (c : Nat) (l : List Nat) (C : Option Addr) (dc : Nat) (m : List Nat) (w : World) (hA : Nt w A c l) (hC : Nt w C dc m) (hl : l.length ≤ 1000000) (hm : m.length ≤ 1000000) (hd : 0 < V m) :
    Calls Tryz.prog 120 #[.slice A l.length c, .slice C m.length dc] w fun e w' => ∃ v1 v2, e = .returned (.tuple #[v1, v2]) ∧ Big w' w.heap.size v1 (V l / V m) ∧ Big w' w.heap.size v2 (V l % V m) ∧ Below w.heap.size w w' := by
  obtain ⟨i0, hi, hz0, hz1, hz2⟩ := info_parts u32_info
  have cT := trim_nt hC
  have k1 := limbs_le hC.dig
  have ntL := hC.trim
  have vL := V_limbs (V m)
  have bnd := V_le_len hA.dig
  generalize limbs (V m) = L at *
  obtain ⟨D, hD⟩ : ∃ D, V m = D := ⟨_, rfl⟩
  rw [hD] at hd vL ⊢
  have hDle : Hid (D ≤ B32 ^ L.length) := Lib.hid (by rw [← vL]; exact Nat.le_of_lt (valB_lt ntL.dig))
  have VL := Lib.hid vL
  have Bnd := Lib.hid bnd
  clear vL bnd hD
  obtain ⟨N, hN⟩ : ∃ N : Nat, (L.length : Int) + 1 = (N : Int) := ⟨L.length + 1, by omega⟩
  have HN : Hid (N = L.length + 1) := Lib.hid (by omega)
  have n3 : N ≤ 1000001 := by omega
  have n0 : 0 < N := by omega
  go_enter Tryz.func120, Tryz.ntmps120
  go_wp2_with (first
    | (go_at_call 94; refine (cT).mono ?_; rintro e w' ⟨rfl, rfl⟩)
    | (go_at_call 59; refine (size_any A c l _ (hA.on hb4) hl).mono ?_; rintro e w' ⟨rfl, rfl⟩)
    | (at_make; refine wpList_mk rfl _ _ 30 rfl 117 i0 _ 4 Tryz.underlying30 hi hz0 hz1 hz2 rfl (fun n : Nat => Value.int .u32 n) 0 rfl _ _ _ _ l.length rfl rfl rfl rfl (by omega) (by unfold maxLen; omega) ?_; intro w3 hown3 hb3)
    | (at_make; refine wpList_mk rfl _ _ 30 rfl 117 i0 _ 4 Tryz.underlying30 hi hz0 hz1 hz2 rfl (fun n : Nat => Value.int .u32 n) 0 rfl _ _ _ _ N rfl rfl rfl rfl (by omega) (by unfold maxLen; omega) ?_; intro w4 hown4 hb4'; have hb4 := below_trans hb3 hb4'))
  have hsz3 := hb3.size
  have gq := hown3.g_lt
  have Gq : Hid (w.heap.size ≠ w3.heap.size) := Lib.hid (by omega)
  have HownQ := hown3.below hb4'
  clear cT hown3 hN
  go_loopw [8] (fun i wr => ∃ (k : Nat) (Q R : List Nat), k ≤ bitLen (V l) ∧ i = .int .i64 ((k : Int) - 1) ∧ Q.length = l.length ∧ R.length = N ∧ Dig B32 Q ∧ Dig B32 R ∧ V R = V l / 2 ^ k % D ∧ V Q = V l / 2 ^ k / D * 2 ^ k ∧
    Own wr w.heap.size 117 1 enc32 (.slice (some ⟨w.heap.size, 0, none⟩) l.length l.length) Q ∧ Own wr w.heap.size 117 1 enc32 (.slice (some ⟨w3.heap.size, 0, none⟩) N N) R ∧ Below w.heap.size w wr) (fun i _ => (intOf i + 1).toNat)
  case atStart =>
    have bl := Bnd.out
    have bw : wrap64 ((bitLen (V l) : Int) - 1) = (bitLen (V l) : Int) - 1 := IntWalk.wrap64_in _ (by omega)
    have e0 : V l / 2 ^ bitLen (V l) = 0 := Nat.div_eq_of_lt (bitLen_lt _)
    exact ⟨_, _, _, Nat.le_refl _, by rw [bw], by simp, by simp, Dig.rep (by decide) _, Dig.rep (by decide) _, by rw [e0, V_rep]; simp, by rw [e0, V_rep]; simp, HownQ, hown4.down hsz3, hb4⟩
  case round =>
    obtain ⟨k, Q, R, hk, rfl, hQl, hRl, dQ, dR, vR, vQ, ownQ, ownR, hb⟩ := hrel
    have HQl := Lib.hid hQl; have HRl := Lib.hid hRl; have DQ := Lib.hid dQ; have DR := Lib.hid dR; have VR := Lib.hid vR; have VQ := Lib.hid vQ
    have OwnQ := Lib.hid ownQ; have OwnR := Lib.hid ownR
    clear hQl hRl dQ dR vR vQ ownQ ownR
    cases k with
    | zero =>
      have ntQ := own_ntf OwnQ.out DQ.out
      have ntR := own_ntf OwnR.out DR.out
      have cQ := trim_nt ntQ
      have cR := clone_any _ _ R wr ntR (by rw [HRl.out]; omega)
      rw [HQl.out] at cQ
      rw [HRl.out] at cR
      have vq : V Q = V l / D := by rw [VQ.out]; simp
      have vr : V R = V l % D := by rw [VR.out]; simp
      have bq : Big wr w.heap.size (.slice (some ⟨w.heap.size, 0, none⟩) (limbs (V Q)).length l.length) (V Q) := by
        rw [← trim_limbs DQ.out]; exact Own.trim OwnQ.out DQ.out
      rw [vq] at cQ bq
      rw [vr] at cR
      have Bq := Lib.hid bq
      clear vq vr bq
      go_wp2_with (first | (go_at_call 94; refine (cQ).mono ?_; rintro e w' ⟨rfl, rfl⟩) | (go_at_call 38; refine cR.mono ?_; rintro e w5 ⟨v, rfl, bR, hb5⟩))
      go_ret2
      exact ⟨_, _, rfl, Bq.out.below hb5, bR.down hb.size, hb.trans (hb5.mono hb.size)⟩
    | succ j =>
      have b32l := Bnd.out
      have cB := bit_any A c l j wr (hA.on hb) hl (by omega)
      obtain ⟨e, he⟩ : ∃ e, V l / 2 ^ j % 2 = e := ⟨_, rfl⟩
      have he1 : e ≤ 1 := by omega
      rw [he] at cB
      have hj : j < 32000000 := by omega
      have cD := double_any w3.heap.size R e w.heap.size N wr OwnR.out HRl.out DR.out (by omega) he1
      have He := Lib.hid he
      have Hk := Lib.hid hk
      clear he b32l hk
      go_wp2_with (first | (go_at_call 168; refine (cB).mono ?_; rintro e w' ⟨rfl, rfl⟩) | (go_at_call 167; refine cD.mono ?_; rintro e' w5 ⟨rfl, R', hh, hRl', dR', vR', ownR', gr5⟩))
      have hb5 : Below w.heap.size w w5 := hb.grown gr5 hb.size (fun q hq => by cases hq; omega)
      have nR' := own_ntf ownR' dR'
      have cO := order_any _ _ R' C dc L w5 nR'.arr (ntL.on hb5).arr nR'.len nR'.cap ntL.len ntL.cap dR' ntL.dig
      rw [hRl', VL.out] at cO
      have vR2 : V R' = 2 * V R + e := by
        rw [HN.out] at vR'
        exact double_fits (Nat.pow_succ ..) b32 vR' (by rw [VR.out]; exact Nat.mod_lt _ hd) hDle.out he1
      have ownQ5 : Own w5 w.heap.size 117 1 enc32 (.slice (some ⟨w.heap.size, 0, none⟩) l.length l.length) Q := OwnQ.out.keep gr5 (.inr (by simp [Value.ownBlock]; exact Gq.out))
      have eN := half_bit (V l) j
      rw [He.out] at eN
      rw [VR.out] at vR2
      have HR2 := Lib.hid vR2; have HeN := Lib.hid eN; have HRl' := Lib.hid hRl'; have DR' := Lib.hid dR'; have OwnR' := Lib.hid ownR'; have NR' := Lib.hid nR'; have OwnQ5 := Lib.hid ownQ5
      clear vR2 eN hRl' dR' vR' ownR' nR' ownQ5 cB cD
      rcases Nat.lt_or_ge (V R') D with hlt | hge
      · have dl := div_less hd (by rw [← HR2.out]; exact hlt)
        rw [← HeN.out] at dl
        rw [cmpI_lt hlt] at cO
        have DL := Lib.hid dl
        clear dl hlt
        go_wp2_with (go_at_call 153; refine (cO).mono ?_; rintro e w6 ⟨rfl, hb6⟩)
        have hb6' : Below w.heap.size w w6 := hb5.trans (hb6.mono hb5.size)
        have vq : V Q = V l / 2 ^ j / D * 2 ^ j := by
          rw [VQ.out, DL.out.1, Nat.pow_succ]; simp only [Nat.mul_comm, Nat.mul_left_comm, Nat.mul_assoc]
        go_roundw
        case rel => exact ⟨j, Q, R', by have := Hk.out; omega, by go_num, HQl.out, HRl'.out, DQ.out, DR'.out, by rw [DL.out.2]; exact HR2.out, vq, OwnQ5.out.below hb6, OwnR'.out.below hb6, hb6'⟩
        case measure => (simp [intOf] <;> omega)
      · have dl := div_more hd (by rw [← HR2.out]; exact hge) he1
        rw [← HeN.out] at dl
        obtain ⟨cv, hcv, hcv0⟩ : ∃ cv, cmpI (V R') D = cv ∧ 0 ≤ cv := ⟨_, rfl, by unfold cmpI; split <;> (try split) <;> omega⟩
        rw [hcv] at cO
        have DL := Lib.hid dl; have Hge := Lib.hid hge
        clear dl hcv hge
        go_wp2_with (go_at_call 153; refine (cO).mono ?_; rintro e w6 ⟨rfl, hb6⟩)
        have hb6' : Below w.heap.size w w6 := hb5.trans (hb6.mono hb5.size)
        have cM := minus_any _ _ R' C dc L w6 (NR'.out.on hb6) (ntL.on hb6') (by rw [HRl'.out]; omega) (by omega) (by rw [VL.out]; exact Hge.out)
        rw [HRl'.out, VL.out] at cM
        refine cM.mono ?_
        rintro e' w7 ⟨v, rfl, big7, hb7⟩
        obtain ⟨A1, c1, hv, nt7⟩ := big7.nt
        rw [hv]
        unfold Big at big7
        rw [hv] at big7
        have vl7 := V_limbs (V R' - D)
        have dl7 := limbs_dig (V R' - D)
        have len7 : (limbs (V R' - D)).length ≤ N := by
          have h1 : V R' - D < B32 ^ N := by
            have := valB_lt DR'.out
            rw [HRl'.out] at this
            unfold V; omega
          exact digB_len_le b32 h1
        generalize limbs (V R' - D) = T at *
        have Vl7 := Lib.hid vl7; have Dl7 := Lib.hid dl7
        have lt6 : w3.heap.size < w6.heap.size := (OwnR'.out.below hb6).g_lt
        have ownR7 := (OwnR'.out.below hb6).below hb7
        have OwnQ7 := Lib.hid ((OwnQ5.out.below hb6).below hb7)
        have hb7' : Below w.heap.size w w7 := hb6'.trans (hb7.mono hb6'.size)
        have Big7 := Lib.hid big7
        clear big7 hv vl7 nt7 cM cO dl7
        go_wp2_with (first
          | (refine wpList_clr rfl _ 30 rfl 117 Tryz.underlying30 (.int .u32 0) u32_zero rfl rfl (f := fun n : Nat => Value.int .u32 n) 0 rfl rfl ownR7 HRl'.out n0 ?_; intro w8 ownR8 gr8; have ar8 := (own_nt2 (Big7.out.keep_lt gr8 lt6) Dl7.out).arr)
          | (refine wpList_cp2 rfl _ _ 30 30 rfl 117 Tryz.underlying30 u32_size (f := fun n : Nat => Value.int .u32 n) (fun _ => rfl) (m := T) rfl rfl ownR8 (by simp) ar8 len7 ?_; intro w9 ownR9 gr9))
        have gr79 := grown_trans gr8 gr9
        have ownQ9 := OwnQ7.out.keep gr79 (.inr (by simp [Value.ownBlock]; exact Gq.out))
        have hb9 : Below w.heap.size w w9 := hb7'.grown gr79 hb7'.size (fun q hq => by cases hq; omega)
        have len9 : (T ++ List.drop T.length (List.replicate N 0)).length = N := by simp; omega
        have v9 : V (T ++ List.drop T.length (List.replicate N 0)) = V l / 2 ^ j % D := by
          rw [List.drop_replicate, V_app, V_rep, Nat.mul_zero, Nat.add_zero, Vl7.out, DL.out.2, HR2.out]
        have d9 : Dig B32 (T ++ List.drop T.length (List.replicate N 0)) := by
          rw [List.drop_replicate]; exact Dl7.out.app (Dig.rep (by decide) _)
        generalize T ++ List.drop T.length (List.replicate N 0) = R9 at *
        have hjl : j / 32 < l.length := by have := Bnd.out; have := Hk.out; omega
        obtain ⟨z, hz⟩ : ∃ z, Q[j / 32]? = some z := ⟨_, List.getElem?_eq_getElem (by rw [HQl.out]; exact hjl)⟩
        have z1 : z < 4294967296 := DQ.out.get hz
        have zf : z / 2 ^ (j % 32) % 2 = 0 := by rw [← bit_val hz DQ.out]; exact bit_free VQ.out
        have c9 := later_cell (Own.at1 (f := fun n : Nat => Value.int .u32 n) ownQ9 HQl.out hz)
        have Hz := Lib.hid hz; have Zf := Lib.hid zf
        clear hz zf
        go_simp
        refine wp_region_tail 10 (by kernel_rfl) (by kernel_rfl) ?_
        simp only [List.take_succ_cons, List.take_zero, List.drop_succ_cons, List.drop_zero]
        repeat (go_big_quiet_step (fail))
        refine wpQuiet_nil ?_
        rintro w10 ⟨⟨_, hb10⟩, rfl⟩
        have ownQ10 := ownQ9.below hb10
        have d0 := Own.at1 (f := fun n : Nat => Value.int .u32 n) ownQ10 HQl.out Hz.out
        have d1 := Own.fr1 (f := fun n : Nat => Value.int .u32 n) ownQ10 HQl.out (j / 32)
        obtain ⟨y, ey, hy⟩ := or_limb z1 (s := j % 32) (by omega) Zf.out
        have vQ9 : V (Q.set (j / 32) y) = V l / 2 ^ j / D * 2 ^ j := by
          rw [hy.out.1, set_bit Hz.out, VQ.out, DL.out.1, Nat.pow_succ, Nat.add_mul, Nat.one_mul]
          simp only [Nat.mul_comm, Nat.mul_left_comm, Nat.mul_assoc]
        have Hset : Hid (Own (w10.setCell ⟨w.heap.size, j / 32, none⟩ (.int .u32 (y : Int))) w.heap.size 117 1 enc32 (.slice (some ⟨w.heap.size, 0, none⟩) l.length l.length) (Q.set (j / 32) y)) := Lib.hid (Own.set1 (f := fun n : Nat => Value.int .u32 n) ownQ10 HQl.out (j / 32) y)
        have HR10 : Hid (Own (w10.setCell ⟨w.heap.size, j / 32, none⟩ (.int .u32 (y : Int))) w.heap.size 117 1 enc32 (.slice (some ⟨w3.heap.size, 0, none⟩) N N) R9) := Lib.hid ((ownR9.below hb10).keep (grown_set w10 w.heap.size (j / 32) (.int .u32 (y : Int))) (.inr (by simp [Value.ownBlock]; exact Gq.out.symm)))
        have VQ9 := Lib.hid vQ9; have V9 := Lib.hid v9; have D9 := Lib.hid d9; have L9 := Lib.hid len9
        clear vQ9 v9 d9 len9 c9 ownR9 ownR8 ar8
        go_wp2
        go_roundw
        case rel => exact ⟨j, Q.set (j / 32) y, R9, by have := Hk.out; omega, by go_num, by rw [List.length_set]; exact HQl.out, L9.out, DQ.out.set hy.out.2 _, D9.out, V9.out, VQ9.out, Hset.out, HR10.out, (hb9.trans (hb10.mono hb9.size)).setCell (Nat.le_refl _) _⟩
        case measure => (simp [intOf] <;> omega)

end Go.Proofs.YtfolgmcoggejbaaGreat

namespace Go.Proofs.YtfolgmcoggejbaaGreat
open Go.RowKit
set_option linter.unusedVariables false
set_option linter.unusedSimpArgs false

theorem limbs_len {n k m : Nat} (h : n < 2 ^ m) (hm : m ≤ 32 * k) : (limbs n).length ≤ k := digB_len_le b32 (by rw [b32_pow]; exact Nat.lt_of_lt_of_le h (Nat.pow_le_pow_right (by decide) hm))
theorem nt_lit (w : World) (l : List Nat) (cs : Array Value) (T : TypeId) (hcs : cs.toList = l.flatMap enc32) (hd : Dig B32 l) (hl : l.length ≤ maxLen) : Nt (w.alloc (.cells cs T)) (some ⟨w.heap.size, 0, none⟩) l.length l :=
  ⟨arr_lit w l cs T hcs enc32_len, Nat.le_refl _, hl, hd, fun h => by cases h⟩
theorem nt_one (w : World) (e : Nat) (T : TypeId) (he : e < 4294967296) : Nt (w.alloc (.cells #[.int .u32 (e : Int)] T)) (some ⟨w.heap.size, 0, none⟩) 1 [e] :=
  nt_lit w [e] #[.int .u32 (e : Int)] T rfl (Dig.cons he Dig.nil) (by unfold maxLen; simp)
theorem V_one (e : Nat) : V [e] = e := valB_one e
theorem V_two (a b : Nat) : V [a, b] = a + 4294967296 * b := by simp [V, valB]

set_option maxRecDepth 100000 in
set_option maxHeartbeats 1000000 in
theorem Of_any (n : Nat) (w : World) (hn : n < 18446744073709551616) :
    Calls Tryz.prog 6 #[.int .u64 (n : Int)] w fun e w' => ∃ v, e = .returned v ∧ Big w' w.heap.size v n ∧ Below w.heap.size w w' := by
  obtain ⟨q, r, hq, hr, hqr⟩ := limbs2 n
  have q1 : q < 4294967296 := by have := hqr.out.1; change q = n / 4294967296 at this; omega
  have r1 : r < 4294967296 := by have := hqr.out.2; change r = n % 4294967296 at this; omega
  have q2 : (q : Int) % 4294967296 = (q : Int) := by omega
  have ev : V [r, q] = n := by rw [V_two]; have := hqr.out; simp only [B32] at this; omega
  have nt := nt_lit w [r, q] #[.int .u32 (r : Int), .int .u32 (q : Int)] 117 rfl (Dig.cons r1 (Dig.cons q1 Dig.nil)) (by unfold maxLen; simp)
  have cC := clone_any _ _ _ _ nt (by simp)
  rw [ev] at cC
  clear nt ev
  go_enter Tryz.func6, Tryz.ntmps6
  go_wp2_with (go_at_call 38; refine cC.mono ?_; rintro e w5 ⟨v, rfl, bR, hb5⟩)
  go_ret
  exact ⟨_, rfl, bR.down (by simp), below_trans (below_alloc (Below.refl _ _) _) hb5⟩

set_option maxRecDepth 100000 in
set_option maxHeartbeats 1000000 in
theorem next_any (A : Option Addr) (c : Nat) (l : List Nat) (n k : Nat) (w : World) (h : Nt w A c l) (hl : l.length ≤ 900000) (hn : n ≤ 1000000) (hk : k ≤ n) :
    Calls Tryz.prog 57 #[.slice A l.length c, .int .i64 n, .int .i64 k] w fun e w' => ∃ v, e = .returned v ∧ Big w' w.heap.size v (V l * (n - k) / (k + 1)) ∧ Below w.heap.size w w' := by
  obtain ⟨e, he⟩ : ∃ e, n - k = e := ⟨_, rfl⟩
  obtain ⟨d, hd⟩ : ∃ d, k + 1 = d := ⟨_, rfl⟩
  have e1 : (n : Int) - (k : Int) = (e : Int) := by omega
  have d1 : (k : Int) + 1 = (d : Int) := by omega
  have e2 : (e : Int) % 4294967296 = (e : Int) := by omega
  have d2 : (d : Int) % 4294967296 = (d : Int) := by omega
  have hd0 : 0 < d := by omega
  have e3 : e < 4294967296 := by omega
  have d3 : d < 4294967296 := by omega
  have hb0 := below_alloc (Below.refl w.heap.size w) (.cells #[.int .u32 (e : Int)] 117)
  have cM := times_any A c l _ 1 [e] _ (h.on hb0) (nt_one w e 117 e3) (by omega) (by simp)
  rw [V_one, List.length_singleton] at cM
  rw [he, hd]
  clear he hd
  go_enter Tryz.func57, Tryz.ntmps57
  go_wp2_with (go_at_call 121; refine cM.mono ?_; rintro e' w5 ⟨v, rfl, big5, hb5⟩)
  obtain ⟨A1, c1, hv, nt5⟩ := big5.nt
  rw [hv]
  have lb : (limbs (V l * e)).length ≤ 1000000 := by
    have h1 := valB_lt h.dig
    have h2 : V l * e < B32 ^ (l.length + 1) := by
      rw [Nat.pow_succ]; exact Nat.mul_lt_mul'' h1 e3
    have h3 := digB_len_le b32 h2
    unfold limbs; omega
  have q5 := below_alloc (below_trans hb0 hb5) (.cells #[.int .u32 (d : Int)] 117)
  have cS := split_any A1 c1 _ _ 1 [d] _ (nt5.on (below_alloc (Below.refl _ _) (.cells #[.int .u32 (d : Int)] 117))) (nt_one w5 d 117 d3) lb (by simp) (by rw [V_one]; exact hd0)
  rw [V_one, List.length_singleton, V_limbs] at cS
  refine cS.mono ?_
  rintro e' w6 ⟨v1, v2, rfl, b1, b2, hb6⟩
  go_wp2
  go_ret
  have := hb0.size
  have := hb5.size
  exact ⟨_, rfl, b1.down (by simp at *; omega), below_trans q5 hb6⟩

theorem ch_len {n k : Nat} (h : n ≤ 512) : (limbs (ch n k)).length ≤ 17 := by
  exact limbs_len (k := 17) (m := n + 1) (Nat.lt_of_le_of_lt (ch_le n k) (Nat.pow_lt_pow_right (by decide) (by omega))) (by omega)
theorem big_lit (w : World) (base e : Nat) (he : 0 < e) (hlt : e < 4294967296) (hb : base ≤ w.heap.size) : Big (w.alloc (.cells #[.int .u32 (e : Int)] 117)) base (.slice (some ⟨w.heap.size, 0, none⟩) 1 1) e := by
  have h1 : limbs e = [e] := by
    unfold limbs
    rw [digB_pos b32 he, Nat.mod_eq_of_lt hlt, Nat.div_eq_of_lt hlt, digB_zero]
  unfold Big
  rw [h1]
  exact World.ownsRow_lit (size := 1) w #[.int .u32 (e : Int)] 1 hb (by unfold maxLen; omega) rfl

end Go.Proofs.YtfolgmcoggejbaaGreat
