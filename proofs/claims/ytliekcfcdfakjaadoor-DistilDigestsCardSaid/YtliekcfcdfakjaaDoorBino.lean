/- Plain: binomial coefficients, their sums, and how each one comes from the one before it. No condition. -/
import Derived.Test.YtliekcfcdfakjaaDoorNum
namespace Go.Proofs.YtliekcfcdfakjaaDoor
set_option linter.unusedVariables false
set_option linter.unusedSimpArgs false

/-- How many sets of k there are among n things. -/
def ch : Nat → Nat → Nat
  | _, 0 => 1
  | 0, _ + 1 => 0
  | n + 1, k + 1 => ch n k + ch n (k + 1)
theorem ch_zero (n : Nat) : ch n 0 = 1 := by cases n <;> rfl
theorem ch_succ (n k : Nat) : ch (n + 1) (k + 1) = ch n k + ch n (k + 1) := rfl
theorem ch_gt {n k : Nat} (h : n < k) : ch n k = 0 := by
  induction n generalizing k with
  | zero => cases k with
    | zero => omega
    | succ k => rfl
  | succ n ih => cases k with
    | zero => omega
    | succ k => rw [ch_succ, ih (by omega), ih (by omega)]
theorem ch_self (n : Nat) : ch n n = 1 := by
  induction n with
  | zero => rfl
  | succ n ih => rw [ch_succ, ih, ch_gt (by omega)]
theorem ch_pos {n k : Nat} (h : k ≤ n) : 0 < ch n k := by
  induction n generalizing k with
  | zero => obtain rfl : k = 0 := by omega
            exact Nat.one_pos
  | succ n ih => cases k with
    | zero => exact Nat.one_pos
    | succ k => rw [ch_succ]; have := ih (k := k) (by omega); omega
theorem ch_next (n k : Nat) : (k + 1) * ch n (k + 1) = (n - k) * ch n k := by
  induction n generalizing k with
  | zero => simp [ch]
  | succ n ih =>
    cases k with
    | zero =>
      have h := ih 0
      rw [ch_zero] at h ⊢
      rw [ch_succ, ch_zero]
      simp at h ⊢; omega
    | succ k =>
      by_cases hk : k + 1 ≤ n
      · have h1 := ih (k + 1)
        have h2 := ih k
        obtain ⟨d, rfl⟩ : ∃ d, n = k + 1 + d := ⟨n - (k + 1), by omega⟩
        rw [ch_succ (k + 1 + d) (k + 1), ch_succ (k + 1 + d) k]
        rw [show k + 1 + d - (k + 1) = d from by omega] at h1
        rw [show k + 1 + d - k = d + 1 from by omega] at h2
        rw [show k + 1 + d + 1 - (k + 1) = d + 1 from by omega, Nat.mul_add, Nat.mul_add, h1, ← h2, ← Nat.add_mul, ← Nat.add_mul]
        congr 1; omega
      · rw [ch_gt (n := n + 1) (k := k + 1 + 1) (by omega), show n + 1 - (k + 1) = 0 from by omega]; simp
theorem ch_symm {n a b : Nat} (h : a + b = n) : ch n a = ch n b := by
  induction n generalizing a b with
  | zero => obtain rfl : a = 0 := by omega
            obtain rfl : b = 0 := by omega
            rfl
  | succ n ih =>
    cases a with
    | zero => obtain rfl : b = n + 1 := by omega
              rw [ch_zero, ch_self]
    | succ a => cases b with
      | zero => obtain rfl : a = n := by omega
                rw [ch_zero, ch_self]
      | succ b => rw [ch_succ, ch_succ, ih (a := a) (b := b + 1) (by omega), ih (a := a + 1) (b := b) (by omega), Nat.add_comm]
theorem ch_le (n k : Nat) : ch n k ≤ 2 ^ n := by
  induction n generalizing k with
  | zero => cases k <;> simp [ch]
  | succ n ih => cases k with
    | zero => rw [ch_zero]; exact Nat.one_le_two_pow
    | succ k => rw [ch_succ, Nat.pow_succ]; have := ih k; have := ih (k + 1); omega
/-- The quotient by which C(n, k + 1) comes from C(n, k). -/
theorem ch_div (n k : Nat) : ch n k * (n - k) / (k + 1) = ch n (k + 1) := by
  rw [Nat.mul_comm (ch n k), ← ch_next, Nat.mul_div_cancel_left _ (by omega)]
/-- The quotient by which C(n, k) comes from C(n, k + 1), for k below n. -/
theorem ch_back {n k : Nat} (h : k < n) : ch n (k + 1) * (k + 1) / (n - k) = ch n k := by
  rw [Nat.mul_comm, ch_next, Nat.mul_div_cancel_left _ (by omega)]

/-- f 0 + .. + f (n - 1). -/
def sumTo (f : Nat → Nat) : Nat → Nat
  | 0 => 0
  | n + 1 => sumTo f n + f n
theorem sumTo_congr {f g : Nat → Nat} {n : Nat} (h : ∀ i, i < n → f i = g i) : sumTo f n = sumTo g n := by
  induction n with
  | zero => rfl
  | succ n ih => rw [sumTo, sumTo, ih fun i hi => h i (by omega), h n (by omega)]
theorem sumTo_zero {f : Nat → Nat} {n : Nat} (h : ∀ i, i < n → f i = 0) : sumTo f n = 0 := by
  induction n with
  | zero => rfl
  | succ n ih => rw [sumTo, ih fun i hi => h i (by omega), h n (by omega)]
theorem sumTo_le {f g : Nat → Nat} {n : Nat} (h : ∀ i, i < n → f i ≤ g i) : sumTo f n ≤ sumTo g n := by
  induction n with
  | zero => exact Nat.le_refl _
  | succ n ih => rw [sumTo, sumTo]; have := ih fun i hi => h i (by omega); have := h n (by omega); omega
theorem sumTo_add (f g : Nat → Nat) (n : Nat) : sumTo (fun i => f i + g i) n = sumTo f n + sumTo g n := by
  induction n with
  | zero => rfl
  | succ n ih => rw [sumTo, sumTo, sumTo, ih]; omega
theorem sumTo_shift (f : Nat → Nat) (n : Nat) : sumTo f (n + 1) = f 0 + sumTo (fun i => f (i + 1)) n := by
  induction n with
  | zero => simp [sumTo]
  | succ n ih => rw [sumTo, ih, sumTo]; omega
theorem sumTo_mono (f : Nat → Nat) {n m : Nat} (h : n ≤ m) : sumTo f n ≤ sumTo f m := by
  induction m with
  | zero => obtain rfl : n = 0 := by omega
            exact Nat.le_refl _
  | succ m ih =>
    by_cases e : n = m + 1
    · rw [e]; exact Nat.le_refl _
    · rw [sumTo]; have := ih (by omega); omega
theorem sumTo_stop (f : Nat → Nat) {n m : Nat} (h : n ≤ m) (h0 : ∀ i, n ≤ i → f i = 0) : sumTo f m = sumTo f n := by
  induction m with
  | zero => obtain rfl : n = 0 := by omega
            rfl
  | succ m ih =>
    by_cases e : n = m + 1
    · rw [e]
    · rw [sumTo, ih (by omega), h0 m (by omega)]; rfl
theorem sum_ch (n : Nat) : ∀ m, n < m → sumTo (ch n) m = 2 ^ n := by
  induction n with
  | zero => intro m h
            rw [sumTo_stop (ch 0) (n := 1) (by omega) (fun i hi => ch_gt (by omega))]; rfl
  | succ n ih =>
    intro m h
    obtain ⟨k, rfl⟩ : ∃ k, m = k + 1 := ⟨m - 1, by omega⟩
    rw [sumTo_shift, ch_zero]
    have e : sumTo (fun i => ch (n + 1) (i + 1)) k = sumTo (ch n) k + sumTo (fun i => ch n (i + 1)) k := sumTo_add (ch n) (fun i => ch n (i + 1)) k
    have h1 := sumTo_shift (ch n) k
    rw [ch_zero] at h1
    rw [e, Nat.pow_succ]
    have h2 := ih k (by omega)
    have h3 := ih (k + 1) (by omega)
    omega
/-- How many strings of n bits have at most t true ones. -/
def ball (n t : Nat) : Nat := sumTo (ch n) (t + 1)
theorem ball_le (n t : Nat) : ball n t ≤ 2 ^ n := by
  unfold ball
  rcases Nat.lt_or_ge n (t + 1) with h | h
  · rw [sum_ch n _ h]; exact Nat.le_refl _
  · rw [← sum_ch n (n + 1) (by omega)]; exact sumTo_mono _ (by omega)
/-- How many sets of 'sample' of 'total' things have at most 'seen' of the 'bad' ones. -/
def waysN (total bad sample seen : Nat) : Nat := sumTo (fun i => ch bad i * ch (total - bad) (sample - i)) (seen + 1)
theorem ways_le {total bad sample seen : Nat} (hb : bad ≤ total) : waysN total bad sample seen ≤ (seen + 1) * 2 ^ total := by
  have h : ∀ n, sumTo (fun i => ch bad i * ch (total - bad) (sample - i)) n ≤ n * 2 ^ total := by
    intro n
    induction n with
    | zero => simp [sumTo]
    | succ n ih =>
      rw [sumTo, Nat.add_mul, Nat.one_mul]
      have h1 : ch bad n * ch (total - bad) (sample - n) ≤ 2 ^ bad * 2 ^ (total - bad) := Nat.mul_le_mul (ch_le _ _) (ch_le _ _)
      rw [← Nat.pow_add, show bad + (total - bad) = total from by omega] at h1
      omega
  exact h _

end Go.Proofs.YtliekcfcdfakjaaDoor
