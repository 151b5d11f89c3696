/- Contracts of Forgeries and Tag, the program's and the reference's. For any width, messages of any length, numbers of 64 bits. -/
import Derived.Test.YtiphhkfmemkldaaDoorFrgB
namespace Go.Proofs.YtiphhkfmemkldaaDoor
open Go.RowKit
set_option linter.unusedVariables false
set_option linter.unusedSimpArgs false

/-- The error, and the number, of Forgeries. -/
def frE (w : Int) (tag forged : Nat) (a b : List Bool) : Int := if w2B w = true then (if tag < 2 ^ w.toNat ∧ forged < 2 ^ w.toNat then kyE a b else 3) else 2
def frN (w : Int) (tag forged : Nat) (a b : List Bool) : Nat := if w2B w = true then (if tag < 2 ^ w.toNat ∧ forged < 2 ^ w.toNat then kyN w.toNat a b (tag ^^^ forged) else 0) else 0
theorem fr_no {w : Int} (h : w2B w = false) (t f : Nat) (a b : List Bool) : frE w t f a b = 2 ∧ frN w t f a b = 0 := by
  unfold frE frN; rw [if_neg (by simp [h]), if_neg (by simp [h])]; exact ⟨rfl, rfl⟩
theorem fr_big {n : Nat} (h : w2B (n : Int) = true) {t f : Nat} (hb : ¬ (t < 2 ^ n ∧ f < 2 ^ n)) (a b : List Bool) : frE n t f a b = 3 ∧ frN n t f a b = 0 := by
  unfold frE frN; rw [if_pos h, if_pos h]; simp only [Int.toNat_natCast]; rw [if_neg hb, if_neg hb]; exact ⟨rfl, rfl⟩
theorem fr_yes {n : Nat} (h : w2B (n : Int) = true) {t f : Nat} (hb : t < 2 ^ n ∧ f < 2 ^ n) (a b : List Bool) : frE n t f a b = kyE a b ∧ frN n t f a b = kyN n a b (t ^^^ f) := by
  unfold frE frN; rw [if_pos h, if_pos h]; simp only [Int.toNat_natCast]; rw [if_pos hb, if_pos hb]; exact ⟨rfl, rfl⟩

/-- The error, and the number, of a tag. -/
def tgE (w : Int) (key pad : Nat) (m : List Bool) : Int := if wdB w = true ∧ ¬ pad < 2 ^ w.toNat then 3 else hshE w key m
def tgN (w : Int) (key pad : Nat) (m : List Bool) : Nat := if tgE w key pad m = 0 then hashN w.toNat key m ^^^ pad else 0
theorem tg_wd {w : Int} (h : wdB w = false) (key pad : Nat) (m : List Bool) : tgE w key pad m = 2 ∧ tgN w key pad m = 0 := by
  have e : tgE w key pad m = 2 := by unfold tgE; rw [if_neg (by simp [h]), (hsh_wd h).1]
  exact ⟨e, by unfold tgN; rw [e]; rfl⟩
theorem tg_pad {n : Nat} (h : wdB (n : Int) = true) (key : Nat) {pad : Nat} (hp : ¬ pad < 2 ^ n) (m : List Bool) : tgE n key pad m = 3 ∧ tgN n key pad m = 0 := by
  have e : tgE n key pad m = 3 := by unfold tgE; rw [if_pos ⟨h, by simpa using hp⟩]
  exact ⟨e, by unfold tgN; rw [e]; rfl⟩
theorem tg_err {n : Nat} (key : Nat) {pad : Nat} (hp : pad < 2 ^ n) {m : List Bool} (he : hshE n key m ≠ 0) : tgE n key pad m = hshE n key m ∧ tgN n key pad m = 0 := by
  have e : tgE n key pad m = hshE n key m := by unfold tgE; rw [if_neg (by simp [hp])]
  exact ⟨e, by unfold tgN; rw [e, if_neg he]⟩
theorem tg_ok {n : Nat} (key : Nat) {pad : Nat} (hp : pad < 2 ^ n) {m : List Bool} (he : hshE n key m = 0) : tgE n key pad m = 0 ∧ tgN n key pad m = hashN n key m ^^^ pad := by
  have e : tgE n key pad m = 0 := by unfold tgE; rw [if_neg (by simp [hp]), he]
  exact ⟨e, by unfold tgN; rw [if_pos e]; simp⟩
theorem wd_tests {n : Nat} (h : Wd n) : ((n : Int) != 8) = false ∨ (((n : Int) != 8) = true ∧ ((n : Int) != 16) = false) ∨ (((n : Int) != 8) = true ∧ ((n : Int) != 16) = true ∧ ((n : Int) != 32) = false) := by
  rcases h with rfl | rfl | rfl
  · exact .inl (by decide)
  · exact .inr (.inl ⟨by decide, by decide⟩)
  · exact .inr (.inr ⟨by decide, by decide, by decide⟩)

set_option maxHeartbeats 2000000 in
theorem Tag_any (w : Int) (key pad : Nat) (A : Option Addr) (c : Nat) (m : List Bool) (v : World) (h : Arr 1 encB v v.heap.size A m) (hc : m.length ≤ c) (hmc : c ≤ maxLen) :
    Calls Tryd.prog 61 #[.int .i64 w, .int .u64 key, .int .u64 pad, .slice A m.length c] v fun e v' => e = .returned (.tuple #[.int .u64 (tgN w key pad m), .int .i64 (tgE w key pad m)]) ∧ Below v.heap.size v v' := by
  rcases wd_cases w with ⟨n, rfl, hn, hB⟩ | ⟨hB, h8, h16, h32⟩
  · have s1 := shr_zero (key := pad) (w := n)
    have n32 : n ≤ 32 := by rcases hn with h | h | h <;> omega
    by_cases h1 : pad < 2 ^ n
    · rw [decide_eq_false (by simpa using h1)] at s1
      have cH := Hash_any n key A c m v h hc hmc
      by_cases he : hshE n key m = 0
      · obtain ⟨e1, e2⟩ := tg_ok key h1 he
        have hN : hshN n key m = hashN n key m := by unfold hshN; rw [if_pos he]; simp
        rw [he, hN] at cH
        have hx := xor_64 (hashN_64 (key := key) hn m) (Nat.lt_of_lt_of_le h1 (Nat.pow_le_pow_right (by decide) (show n ≤ 64 by omega)))
        rw [e1, e2]
        generalize hashN n key m = H at *
        clear e1 e2 he hN h1 hB
        rcases wd_tests hn with h8 | ⟨h8, h16⟩ | ⟨h8, h16, h32⟩
        all_goals (
          clear hn
          go_enter Tryd.func61, Tryd.ntmps61
          go_wp2_with (go_at_call 77; refine cH.mono ?_; rintro e w1 ⟨rfl, hb1⟩)
          go_ret2
          exact ⟨rfl, hb1⟩)
      · obtain ⟨e1, e2⟩ := tg_err key h1 he
        have he' : (hshE n key m != 0) = true := by simpa using he
        rw [e1, e2]
        generalize hshE n key m = E at *
        generalize hshN n key m = N at *
        clear e1 e2 he h1 hB
        rcases wd_tests hn with h8 | ⟨h8, h16⟩ | ⟨h8, h16, h32⟩
        all_goals (
          clear hn
          go_enter Tryd.func61, Tryd.ntmps61
          go_wp2_with (go_at_call 77; refine cH.mono ?_; rintro e w1 ⟨rfl, hb1⟩)
          go_ret2
          exact ⟨rfl, hb1⟩)
    · rw [decide_eq_true (by simpa using h1)] at s1
      obtain ⟨e1, e2⟩ := tg_pad hB key h1 m
      rw [e1, e2]
      clear e1 e2 hB h1
      rcases wd_tests hn with h8 | ⟨h8, h16⟩ | ⟨h8, h16, h32⟩
      all_goals (
        clear hn
        go_enter Tryd.func61, Tryd.ntmps61
        go_wp2
        go_ret2
        exact ⟨rfl, Below.refl _ _⟩)
  · obtain ⟨e1, e2⟩ := tg_wd hB key pad m
    have g8 : (w != 8) = true := by simpa using h8
    have g16 : (w != 16) = true := by simpa using h16
    have g32 : (w != 32) = true := by simpa using h32
    rw [e1, e2]
    clear e1 e2 hB
    go_enter Tryd.func61, Tryd.ntmps61
    go_wp2
    go_ret2
    exact ⟨rfl, Below.refl _ _⟩

end Go.Proofs.YtiphhkfmemkldaaDoor
