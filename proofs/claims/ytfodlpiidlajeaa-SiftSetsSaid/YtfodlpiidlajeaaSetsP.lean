/- Plain: sets of bits, counted; the bound by halves is the greatest number that is possible. No condition. -/
import Derived.Test.YtfodlpiidlajeaaNatK
namespace Go.Proofs.Ytfodlpiidlajeaa
open Go.RowKit
set_option linter.unusedVariables false
set_option linter.unusedSimpArgs false

/-- The number of true binary digits. -/
def onesN (n : Nat) : Nat := if h : n = 0 then 0 else n % 2 + onesN (n / 2)
termination_by n
decreasing_by omega
theorem ones_zero : onesN 0 = 0 := by rw [onesN]; simp
theorem ones_step (n : Nat) : onesN n = n % 2 + onesN (n / 2) := by
  by_cases h : n = 0
  · subst h; rw [ones_zero]
  · rw [onesN, dif_neg h]
theorem ones_two (y b : Nat) (hb : b < 2) : onesN (2 * y + b) = b + onesN y := by
  rw [ones_step]
  congr 1
  · omega
  · congr 1; omega
theorem and_two (y b B : Nat) (hb : b < 2) : (2 * y + b) &&& B = 2 * (y &&& B / 2) + (b &&& B % 2) := by
  have h1 : ((2 * y + b) &&& B) / 2 = y &&& B / 2 := by
    rw [Nat.and_div_two]; congr 1; omega
  have h2 : ((2 * y + b) &&& B) % 2 = b &&& B % 2 := by
    have := Nat.and_mod_two_pow (a := 2 * y + b) (b := B) (n := 1)
    rw [Nat.pow_one] at this
    rw [this]; congr 1; omega
  have := Nat.mod_add_div ((2 * y + b) &&& B) 2
  omega

/-- Halves: a sum over twice as many. -/
theorem sumTo_double (f : Nat → Nat) (m : Nat) : sumTo f (2 * m) = sumTo (fun y => f (2 * y)) m + sumTo (fun y => f (2 * y + 1)) m := by
  induction m with
  | zero => rfl
  | succ m ih => rw [show 2 * (m + 1) = 2 * m + 1 + 1 from by omega, sumTo, sumTo, ih, sumTo, sumTo]; omega

/-- How many sets of s of the first t bits have just i bits of B. -/
def cntE (t B s i : Nat) : Nat := sumTo (fun x => if onesN x = s ∧ onesN (x &&& B) = i then 1 else 0) (2 ^ t)

theorem ones_lt {t B : Nat} (h : B < 2 ^ t) : onesN B ≤ t := by
  induction t generalizing B with
  | zero => obtain rfl : B = 0 := by simpa using h
            rw [ones_zero]; exact Nat.le_refl _
  | succ t ih =>
    rw [ones_step]
    have := ih (B := B / 2) (by rw [Nat.pow_succ] at h; omega)
    omega
theorem cnt_even (t B s i : Nat) : sumTo (fun y => if onesN (2 * y) = s ∧ onesN (2 * y &&& B) = i then 1 else 0) (2 ^ t) = cntE t (B / 2) s i := by
  refine sumTo_congr fun y _ => ?_
  have h1 := ones_two y 0 (by decide)
  have h2 := and_two y 0 B (by decide)
  rw [Nat.zero_and] at h2
  have h3 := ones_two (y &&& B / 2) 0 (by decide)
  simp only [Nat.add_zero, Nat.zero_add] at h1 h2 h3
  rw [h1, h2, h3]
theorem cnt_odd (t B s i : Nat) : sumTo (fun y => if onesN (2 * y + 1) = s ∧ onesN (2 * y + 1 &&& B) = i then 1 else 0) (2 ^ t) = if 1 ≤ s ∧ B % 2 ≤ i then cntE t (B / 2) (s - 1) (i - B % 2) else 0 := by
  have hone : 1 &&& B % 2 = B % 2 := by
    have : B % 2 = 0 ∨ B % 2 = 1 := by omega
    rcases this with h | h <;> rw [h] <;> rfl
  have key : ∀ y, onesN (2 * y + 1) = 1 + onesN y ∧ onesN (2 * y + 1 &&& B) = B % 2 + onesN (y &&& B / 2) := fun y => by
    refine ⟨ones_two y 1 (by decide), ?_⟩
    rw [and_two y 1 B (by decide), hone, ones_two _ _ (by omega)]
  split
  · refine sumTo_congr fun y _ => ?_
    rw [(key y).1, (key y).2]
    congr 1
    apply propext
    omega
  · refine sumTo_zero fun y _ => ?_
    rw [(key y).1, (key y).2, if_neg]
    omega
theorem cnt_step (t B s i : Nat) : cntE (t + 1) B s i = cntE t (B / 2) s i + if 1 ≤ s ∧ B % 2 ≤ i then cntE t (B / 2) (s - 1) (i - B % 2) else 0 := by
  rw [← cnt_odd, ← cnt_even]
  unfold cntE
  rw [Nat.pow_succ, Nat.mul_comm, sumTo_double]
theorem cnt_val (t : Nat) : ∀ B s i, B < 2 ^ t → cntE t B s i = if i ≤ s then ch (onesN B) i * ch (t - onesN B) (s - i) else 0 := by
  induction t with
  | zero =>
    intro B s i hB
    obtain rfl : B = 0 := by simpa using hB
    unfold cntE
    rw [ones_zero, Nat.pow_zero, sumTo, sumTo, Nat.zero_and, ones_zero]
    cases s with
    | zero => cases i with
      | zero => simp [ch]
      | succ i => simp
    | succ s => cases i with
      | zero => simp [ch]
      | succ i => simp [ch]
  | succ t ih =>
    intro B s i hB
    have hB2 : B / 2 < 2 ^ t := by rw [Nat.pow_succ] at hB; omega
    have hc := ones_lt hB2
    rw [cnt_step, ih _ _ _ hB2, ih _ _ _ hB2, ones_step B]
    generalize onesN (B / 2) = c at *
    have hb : B % 2 = 0 ∨ B % 2 = 1 := by omega
    rcases hb with hb | hb
    · rw [hb]
      simp only [Nat.zero_add, Nat.sub_zero]
      by_cases h1 : i ≤ s
      · rw [if_pos h1, if_pos h1]
        by_cases h2 : i < s
        · rw [if_pos (by omega), if_pos (by omega)]
          obtain ⟨d, hd⟩ : ∃ d, s - i = d + 1 := ⟨s - i - 1, by omega⟩
          rw [hd, show s - 1 - i = d from by omega, show t + 1 - c = (t - c) + 1 from by omega, ch_succ, Nat.mul_add, Nat.add_comm]
        · obtain rfl : i = s := by omega
          rw [Nat.sub_self, ch_zero, ch_zero]
          split
          · rw [if_neg (by omega)]; rfl
          · rfl
      · rw [if_neg h1, if_neg h1]
        split
        · rw [if_neg (by omega)]
        · rfl
    · rw [hb]
      rw [show t + 1 - (1 + c) = t - c from by omega, show 1 + c = c + 1 from by omega]
      by_cases h1 : i ≤ s
      · rw [if_pos h1, if_pos h1]
        cases i with
        | zero => rw [if_neg (by omega), ch_zero, ch_zero]; rfl
        | succ i =>
          rw [if_pos (by omega), if_pos (by omega), ch_succ, Nat.add_mul, Nat.add_sub_cancel, show s - 1 - i = s - (i + 1) from by omega, Nat.add_comm]
      · rw [if_neg h1, if_neg h1]
        split
        · rw [if_neg (by omega)]
        · rfl

theorem sum_swap (g : Nat → Nat → Nat) (n m : Nat) : sumTo (fun x => sumTo (fun i => g x i) n) m = sumTo (fun i => sumTo (fun x => g x i) m) n := by
  induction m with
  | zero => simp only [sumTo]; exact (sumTo_zero fun _ _ => rfl).symm
  | succ m ih =>
    simp only [sumTo]
    rw [ih, ← sumTo_add]
theorem ind_sum (a m : Nat) : sumTo (fun i => if a = i then 1 else 0) m = if a < m then 1 else 0 := by
  induction m with
  | zero => simp [sumTo]
  | succ m ih =>
    rw [sumTo, ih]
    by_cases h : a = m
    · subst h; simp
    · simp [h]; split <;> split <;> omega
/-- Sets of s of the first t bits, with at most m bits of B. -/
def fewN (B s m n : Nat) : Nat := sumTo (fun x => if onesN x = s ∧ onesN (x &&& B) ≤ m then 1 else 0) n
def allN (s n : Nat) : Nat := sumTo (fun x => if onesN x = s then 1 else 0) n
theorem few_val {t B s m : Nat} (hB : B < 2 ^ t) (hm : m ≤ s) : fewN B s m (2 ^ t) = waysN t (onesN B) s m := by
  unfold fewN waysN
  have h1 : ∀ x, (if onesN x = s ∧ onesN (x &&& B) ≤ m then 1 else 0) = sumTo (fun i => if onesN x = s ∧ onesN (x &&& B) = i then 1 else 0) (m + 1) := fun x => by
    by_cases hx : onesN x = s
    · simp only [hx, true_and]
      rw [ind_sum]
      simp only [Nat.lt_succ_iff]
    · simp only [hx, false_and, if_false]
      exact (sumTo_zero fun _ _ => rfl).symm
  rw [sumTo_congr fun x _ => h1 x, sum_swap]
  refine sumTo_congr fun i hi => ?_
  have := cnt_val t B s i hB
  rw [if_pos (by omega)] at this
  exact this
theorem all_val (t s : Nat) : allN s (2 ^ t) = ch t s := by
  have h := cnt_val t 0 s 0 (Nat.pow_pos (by decide))
  rw [if_pos (Nat.zero_le _), ones_zero, ch_zero, Nat.sub_zero, Nat.one_mul] at h
  unfold cntE at h
  simp only [Nat.and_zero, ones_zero, and_true] at h
  exact h

/-! The tail does not grow with the bad ones. -/
def tele (b N s i : Nat) : Nat := if i < s then ch b i * ch N (s - i - 1) else 0
theorem ways_tele (b N s : Nat) : ∀ k, k ≤ s → sumTo (fun i => ch b i * ch (N + 1) (s - i)) (k + 1) = sumTo (fun i => ch (b + 1) i * ch N (s - i)) (k + 1) + tele b N s k := by
  intro k
  induction k with
  | zero =>
    intro _
    simp only [sumTo, ch_zero, Nat.zero_add, Nat.one_mul, Nat.sub_zero, tele]
    cases s with
    | zero => simp [ch_zero]
    | succ s => rw [ch_succ]; simp; omega
  | succ k ih =>
    intro hk
    rw [sumTo, ih (by omega), show sumTo (fun i => ch (b + 1) i * ch N (s - i)) (k + 1 + 1) = sumTo (fun i => ch (b + 1) i * ch N (s - i)) (k + 1) + ch (b + 1) (k + 1) * ch N (s - (k + 1)) from rfl]
    have e1 : ch (b + 1) (k + 1) = ch b k + ch b (k + 1) := ch_succ _ _
    have e2 : tele b N s k = ch b k * ch N (s - (k + 1)) := by unfold tele; rw [if_pos (by omega), show s - k - 1 = s - (k + 1) from by omega]
    rw [e1, e2, Nat.add_mul]
    unfold tele
    by_cases h : k + 1 < s
    · rw [if_pos h]
      obtain ⟨d, hd⟩ : ∃ d, s - (k + 1) = d + 1 := ⟨s - (k + 1) - 1, by omega⟩
      rw [hd, ch_succ, Nat.mul_add, Nat.add_sub_cancel]
      omega
    · rw [if_neg h, show s - (k + 1) = 0 from by omega, ch_zero, ch_zero]
      omega
theorem ways_mono {t b s m : Nat} (hb : b < t) (hm : m ≤ s) : waysN t (b + 1) s m ≤ waysN t b s m := by
  have h := ways_tele b (t - (b + 1)) s m hm
  unfold waysN
  rw [show t - b = t - (b + 1) + 1 from by omega, h]
  exact Nat.le_add_right _ _
theorem ways_full {t s : Nat} : ∀ b, b ≤ t → waysN t b s s = ch t s := by
  intro b
  induction b with
  | zero =>
    intro _
    unfold waysN
    rw [sumTo_stop (n := 1) _ (by omega) (fun i hi => by rw [ch_gt (n := 0) (by omega), Nat.zero_mul])]
    simp [sumTo, ch_zero]
  | succ b ih =>
    intro hb
    rw [← ih (by omega)]
    have h := ways_tele b (t - (b + 1)) s s (Nat.le_refl _)
    unfold waysN
    rw [show t - b = t - (b + 1) + 1 from by omega, h]
    simp [tele]
theorem ways_own {t m s : Nat} (hm : m ≤ s) (ht : m ≤ t) : waysN t m s m = ch t s := by
  rw [← ways_full m ht]
  unfold waysN
  exact (sumTo_stop _ (by omega) fun i hi => by rw [ch_gt (n := m) (by omega), Nat.zero_mul]).symm

/-! The search by halves. -/
theorem anti_down {p : Nat → Bool} {lo hi : Nat} (anti : ∀ b, lo ≤ b → b < hi → p (b + 1) = true → p b = true) : ∀ b c, lo ≤ c → c ≤ b → b ≤ hi → p b = true → p c = true := by
  intro b
  induction b with
  | zero => intro c _ hc _ h; obtain rfl : c = 0 := by omega
            exact h
  | succ b ih =>
    intro c hlo hc hb h
    by_cases e : c = b + 1
    · rw [e]; exact h
    · exact ih c hlo (by omega) (by omega) (anti b (by omega) (by omega) h)
theorem bs_spec {p : Nat → Bool} {lo hi : Nat} (hle : lo ≤ hi) (anti : ∀ b, lo ≤ b → b < hi → p (b + 1) = true → p b = true) (h0 : p lo = true) : p (bs p lo hi) = true ∧ ∀ b, bs p lo hi < b → b ≤ hi → p b = false := by
  obtain ⟨n, hn⟩ : ∃ n, hi - lo = n := ⟨_, rfl⟩
  induction n using Nat.strongRecOn generalizing lo hi with
  | ind n ih =>
    rcases Nat.lt_or_ge lo hi with hlt | hge
    · cases hp : p ((lo + hi + 1) / 2)
      · rw [bs_no hlt hp]
        obtain ⟨h1, h2⟩ := ih (((lo + hi + 1) / 2 - 1) - lo) (by omega) (lo := lo) (hi := (lo + hi + 1) / 2 - 1) (by omega) (fun b h1 h2 h3 => anti b h1 (by omega) h3) h0 rfl
        refine ⟨h1, fun b hb1 hb2 => ?_⟩
        rcases Nat.lt_or_ge b ((lo + hi + 1) / 2) with hb | hb
        · exact h2 b hb1 (by omega)
        · cases hpb : p b
          · rfl
          · rw [anti_down anti b ((lo + hi + 1) / 2) (by omega) hb hb2 hpb] at hp; cases hp
      · rw [bs_yes hlt hp]
        exact ih (hi - (lo + hi + 1) / 2) (by omega) (lo := (lo + hi + 1) / 2) (hi := hi) (by omega) (fun b h1 h2 h3 => anti b (by omega) h2 h3) hp rfl
    · rw [bs_end hge]
      exact ⟨h0, fun b hb1 hb2 => by omega⟩

end Go.Proofs.Ytfodlpiidlajeaa
