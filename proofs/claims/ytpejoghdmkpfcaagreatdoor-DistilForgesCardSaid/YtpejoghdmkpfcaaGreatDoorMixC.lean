/- Plain: the counts of DistilMixes over all seeds and pairs of blocks. No condition. -/
import Derived.Test.YtpejoghdmkpfcaaGreatDoorMixP
import Derived.Test.YtpejoghdmkpfcaaGreatDoorNumAll
namespace Go.Proofs.YtpejoghdmkpfcaaGreatDoor
open Go.RowKit
set_option linter.unusedVariables false
set_option linter.unusedSimpArgs false

theorem sum_swap (f : Nat → Nat → Nat) (m : Nat) : ∀ n, sumTo (fun i => sumTo (fun j => f i j) m) n = sumTo (fun j => sumTo (fun i => f i j) n) m
  | 0 => by
    rw [sumTo]
    exact (sumTo_zero fun i _ => rfl).symm
  | n + 1 => by
    rw [sumTo, sum_swap f m n, ← sumTo_add]
    rfl
theorem cnt_sum (p : Nat → Bool) : ∀ n, cntTo p n = sumTo (fun i => if p i = true then 1 else 0) n
  | 0 => rfl
  | n + 1 => by rw [cntTo, sumTo, cnt_sum p n]
theorem sum_but (c a : Nat) : ∀ k, sumTo (fun b => if a ≠ b then c else 0) k = if a < k then (k - 1) * c else k * c
  | 0 => by simp [sumTo]
  | k + 1 => by
    rw [sumTo, sum_but c a k]
    rcases Nat.lt_trichotomy a k with h | h | h
    · rw [if_pos h, if_pos (show a ≠ k by omega), if_pos (by omega)]
      obtain ⟨j, rfl⟩ : ∃ j, k = j + 1 := ⟨k - 1, by omega⟩
      simp only [Nat.add_sub_cancel, Nat.add_mul, Nat.one_mul]
    · subst h
      rw [if_neg (by omega), if_neg (by omega), if_pos (by omega)]; simp
    · rw [if_neg (by omega), if_pos (show a ≠ k by omega), if_neg (by omega), Nat.add_mul, Nat.one_mul]
theorem sum_const (c : Nat) : ∀ k, sumTo (fun _ => c) k = k * c
  | 0 => by simp [sumTo]
  | k + 1 => by rw [sumTo, sum_const c k, Nat.add_mul, Nat.one_mul]

/-- Two blocks of different places have the same hash. -/
def difB (s : List Bool) (f : Nat → List Bool) (out a b : Nat) : Bool := mixB s (f a) (f b) out && decide (a ≠ b)
def difT (s : Nat → List Bool) (f : Nat → List Bool) (out m N : Nat) : Nat := sumTo (fun i => sumTo (fun a => cntTo (difB (s i) f out a) m) m) N
theorem mix_total {n out m : Nat} (hn : n < 5) (ho : out < 4) (f : Nat → List Bool) (hf : ∀ k, k < m → (f k).length = n + 1) (hd : ∀ a b, a < m → b < m → a ≠ b → f a ≠ f b) :
    difT (fun i => numL i (n + out)) f out m (2 ^ (n + out)) = m * (m - 1) * 2 ^ n := by
  unfold difT
  rw [sum_swap]
  have h1 : ∀ a, a < m → sumTo (fun i => cntTo (difB (numL i (n + out)) f out a) m) (2 ^ (n + out)) = (m - 1) * 2 ^ n := by
    intro a ha
    have e : (fun i => cntTo (difB (numL i (n + out)) f out a) m) = fun i => sumTo (fun b => if difB (numL i (n + out)) f out a b = true then 1 else 0) m := by
      funext i; exact cnt_sum _ _
    rw [e, sum_swap]
    have h2 : ∀ b, b < m → sumTo (fun i => if difB (numL i (n + out)) f out a b = true then 1 else 0) (2 ^ (n + out)) = if a ≠ b then 2 ^ n else 0 := by
      intro b hb
      rw [← cnt_sum (fun i => difB (numL i (n + out)) f out a b)]
      by_cases hab : a = b
      · subst hab
        rw [if_neg (by simp), cnt_sum]
        exact sumTo_zero fun i _ => by simp [difB]
      · rw [if_pos hab, ← mix_cnt hn ho (hf a ha) (hf b hb) (hd a b ha hb hab)]
        congr 1
        funext i
        simp [difB, hab]
    rw [sumTo_congr h2, sum_but, if_pos ha]
  rw [sumTo_congr h1, sum_const, Nat.mul_assoc]

end Go.Proofs.YtpejoghdmkpfcaaGreatDoor
