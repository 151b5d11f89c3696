/- Plain: how many strings have at most so many errors; contracts of exact's Ball and Bits. For at most 512 things. -/
import Derived.Test.YtfolgmcoggejbaaGreatNumAll
namespace Go.Proofs.YtfolgmcoggejbaaGreat
open Go.RowKit
set_option linter.unusedVariables false
set_option linter.unusedSimpArgs false

/-- How many of the first sets are counted. -/
def ballM (n : Nat) (t : Int) : Nat := if t < (n : Int) then (t + 1).toNat else n + 1
def ballN (n : Nat) (t : Int) : Nat := sumTo (ch n) (ballM n t)
theorem ballM_le (n : Nat) (t : Int) : ballM n t ≤ n + 1 := by unfold ballM; split <;> omega
theorem ballS_le {n k : Nat} (hk : k ≤ n + 1) : sumTo (ch n) k ≤ 2 ^ n := by
  have := sumTo_mono (ch n) hk
  rwa [sum_ch n (n + 1) (by omega)] at this
theorem ballN_le (n : Nat) (t : Int) : ballN n t ≤ 2 ^ n := ballS_le (ballM_le n t)
theorem ball_len {n k : Nat} (hk : k ≤ n + 1) (hn : n ≤ 512) : (limbs (sumTo (ch n) k)).length ≤ 17 :=
  limbs_len (k := 17) (m := n + 1) (Nat.lt_of_le_of_lt (ballS_le hk) (Nat.pow_lt_pow_right (by decide) (by omega))) (by omega)
theorem big_nil (w : World) (base : Nat) : Big w base (.slice none 0 0) 0 := by unfold Big limbs; rw [digB_zero]; exact Own.nil

set_option maxRecDepth 100000 in
set_option maxHeartbeats 2000000 in
theorem Ball_any (n : Nat) (t : Int) (w : World) (hn : n ≤ 512) (ht1 : -9223372036854775808 ≤ t) (ht2 : t ≤ 9223372036854775807) :
    Calls Tryz.prog 17 #[.int .i64 n, .int .i64 t] w fun e w' => ∃ v, e = .returned (.tuple #[v, .int .i64 0]) ∧ Big w' w.heap.size v (ballN n t) ∧ Below w.heap.size w w' := by
  obtain ⟨M, hM⟩ : ∃ M, ballM n t = M := ⟨_, rfl⟩
  have hMn := ballM_le n t
  have hB : Hid (ballN n t = sumTo (ch n) M) := Lib.hid (by unfold ballN; rw [hM])
  rw [hM] at hMn
  have g1 : decide (512 < (n : Int)) = false := by simp; omega
  have g2 : decide ((n : Int) < 0) = false := by simp
  have hc : (∀ j : Nat, j < M → (j : Int) ≤ t) ∧ ((M : Int) ≤ t → M = n + 1) := by
    unfold ballM at hM
    split at hM
    · constructor
      · intro j hj; omega
      · intro h; omega
    · constructor
      · intro j hj; omega
      · intro h; omega
  have Hc := Lib.hid hc
  clear hM hc
  go_enter Tryz.func17, Tryz.ntmps17
  go_wp2_with fail
  go_loopw [6, 7, 8] (fun s c i wr => ∃ j : Nat, j ≤ M ∧ i = .int .i64 j ∧ Big wr w.heap.size s (sumTo (ch n) j) ∧ Big wr w.heap.size c (ch n j) ∧ Below w.heap.size w wr) (fun _ _ i _ => M - (intOf i).toNat)
  case atStart => exact ⟨0, Nat.zero_le _, rfl, big_nil _ _, by rw [ch_zero]; exact big_lit w w.heap.size 1 (by decide) (by decide) (Nat.le_refl _), below_alloc (Below.refl _ _) _⟩
  case round =>
    obtain ⟨j, hj, rfl, bs, bc, hb⟩ := hrel
    have hbs := hb.size
    rcases Nat.lt_or_ge j M with hlt | hge
    · have h1 : (j : Int) ≤ t := Hc.out.1 j hlt
      obtain ⟨A1, c1, rfl, nt1⟩ := bs.nt
      obtain ⟨A2, c2, rfl, nt2⟩ := bc.nt
      have l1 := ball_len (n := n) (k := j) (by omega) hn
      have l2 := ch_len (n := n) (k := j) hn
      have cP := plus_any A1 c1 _ A2 c2 _ wr nt1 nt2 (by omega) (by omega)
      rw [V_limbs, V_limbs] at cP
      have cN := fun w' (hb' : Below wr.heap.size wr w') => next_any A2 c2 _ n j w' (nt2.on hb') (by omega) (by omega) (by omega)
      simp only [V_limbs, ch_div] at cN
      have hst : Hid (sumTo (ch n) j + ch n j = sumTo (ch n) (j + 1)) := Lib.hid rfl
      rcases Int.lt_or_le (n : Int) t with htn | htn
      all_goals
        go_wp2_with (first | (go_at_call 56; refine cP.mono ?_; rintro e' w5 ⟨v5, rfl, b5, hb5⟩) | (go_at_call 57; refine (cN _ hb5).mono ?_; rintro e' w6 ⟨v6, rfl, b6, hb6⟩))
        have s5 := hb5.size
        go_roundw
        case rel => first | exact ⟨j + 1, by omega, by go_num, by rw [← hst.out]; exact (b5.below hb6).down (by omega), b6.down (by omega), hb.trans ((hb5.trans (hb6.mono s5)).mono hbs)⟩ | ((repeat apply Exists.intro); exact ⟨⟨j + 1, by omega, by go_num, by rw [← hst.out]; exact (b5.below hb6).down (by omega), b6.down (by omega), hb.trans ((hb5.trans (hb6.mono s5)).mono hbs)⟩, rfl⟩)
        case measure => (simp [intOf] <;> omega)
    · obtain rfl : j = M := by omega
      obtain ⟨A1, c1, rfl, nt1⟩ := bs.nt
      have l1 := ball_len (n := n) (k := j) (by omega) hn
      have cC := clone_any A1 c1 _ wr nt1 (by omega)
      rw [V_limbs] at cC
      rcases Int.lt_or_le (n : Int) t with htn | htn
      · have h2 : (n : Int) < (j : Int) := by
          rcases Int.lt_or_le t (j : Int) with h | h
          · omega
          · have := Hc.out.2 h; omega
        have h3 : decide (j ≤ n) = false := by simp; omega
        go_wp2_with (go_at_call 38; refine cC.mono ?_; rintro e' w5 ⟨v5, rfl, b5, hb5⟩)
        go_ret2
        exact ⟨_, rfl, by rw [hB.out]; exact b5.down hbs, hb.trans (hb5.mono hbs)⟩
      · have h2 : t < (j : Int) := by
          rcases Int.lt_or_le t (j : Int) with h | h
          · exact h
          · have := Hc.out.2 h; omega
        go_wp2_with (go_at_call 38; refine cC.mono ?_; rintro e' w5 ⟨v5, rfl, b5, hb5⟩)
        go_ret2
        exact ⟨_, rfl, by rw [hB.out]; exact b5.down hbs, hb.trans (hb5.mono hbs)⟩

set_option maxHeartbeats 400000 in
theorem Ball_no (n t : Int) (w : World) (hn : n < 0 ∨ 512 < n) :
    Calls Tryz.prog 17 #[.int .i64 n, .int .i64 t] w fun e w' => e = .returned (.tuple #[.slice none 0 0, .int .i64 3]) ∧ w = w' := by
  rcases hn with h | h
  · go_enter Tryz.func17, Tryz.ntmps17
    go_wp2
    go_ret2
    exact ⟨rfl, rfl⟩
  · have h' : ¬ n < 0 := by omega
    go_enter Tryz.func17, Tryz.ntmps17
    go_wp2
    go_ret2
    exact ⟨rfl, rfl⟩

set_option maxHeartbeats 400000 in
theorem Bits_any (A : Option Addr) (c : Nat) (l : List Nat) (w : World) (hA : Nt w A c l) (hl : l.length ≤ 64) :
    Calls Tryz.prog 18 #[.slice A l.length c] w fun e w' => e = .returned (.tuple #[.int .i64 (bitLen (V l)), .int .i64 0]) ∧ w = w' := by
  have hz : longE l = 0 := by unfold longE; rw [if_neg (by omega)]
  have cC := Check_any A c l w
  rw [hz] at cC
  go_enter Tryz.func18, Tryz.ntmps18
  go_wp2_with (first | (go_at_call 58; refine (cC).mono ?_; rintro e w' ⟨rfl, rfl⟩) | (go_at_call 59; refine (size_any A c l _ hA (by omega)).mono ?_; rintro e w' ⟨rfl, rfl⟩))
  go_ret2
  exact ⟨rfl, rfl⟩

end Go.Proofs.YtfolgmcoggejbaaGreat
