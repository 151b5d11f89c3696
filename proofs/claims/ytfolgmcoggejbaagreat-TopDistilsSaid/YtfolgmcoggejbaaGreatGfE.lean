/- Contracts of algebra's elements (one element), of the reference's Width and Fits. For any width, any number. -/
import Derived.Test.YtfolgmcoggejbaaGreatGfD
namespace Go.Proofs.YtfolgmcoggejbaaGreat
open Go.RowKit
set_option linter.unusedVariables false
set_option linter.unusedSimpArgs false

def wdB (w : Int) : Bool := decide (w = 8 ∨ w = 16 ∨ w = 32)
/-- The error of a width and an element. -/
def elE (w : Int) (key : Nat) : Int := if wdB w = true then (if key < 2 ^ w.toNat then 0 else 3) else 2
theorem wd_cases (w : Int) : (∃ n : Nat, w = (n : Int) ∧ Wd n ∧ wdB w = true) ∨ (wdB w = false ∧ (w == 8) = false ∧ (w == 16) = false ∧ (w == 32) = false) := by
  by_cases h : w = 8 ∨ w = 16 ∨ w = 32
  · left
    rcases h with rfl | rfl | rfl
    · exact ⟨8, rfl, .inl rfl, by decide⟩
    · exact ⟨16, rfl, .inr (.inl rfl), by decide⟩
    · exact ⟨32, rfl, .inr (.inr rfl), by decide⟩
  · right
    refine ⟨by simpa [wdB] using h, ?_, ?_, ?_⟩ <;> (simp; omega)
theorem shr_zero {key w : Nat} : ((key : Int) / 2 ^ w != 0) = decide (¬ key < 2 ^ w) := by
  have e : (key : Int) / 2 ^ w = ((key / 2 ^ w : Nat) : Int) := by simp
  rw [e, Bool.eq_iff_iff]
  have : key / 2 ^ w = 0 ↔ key < 2 ^ w := by rw [Nat.div_eq_zero_iff]; have : 2 ^ w ≠ 0 := Nat.pos_iff_ne_zero.1 (Nat.pow_pos (by decide)); omega
  simp; omega

set_option maxHeartbeats 400000 in
theorem modulus_no (w : Int) (v : World) (h8 : (w == 8) = false) (h16 : (w == 16) = false) (h32 : (w == 32) = false) : Calls Tryz.prog 160 #[.int .i64 w] v fun e w' => e = .returned (.int .u64 0) ∧ v = w' := by
  go_enter Tryz.func160, Tryz.ntmps160
  go_wp2
  go_ret
  exact ⟨rfl, rfl⟩
set_option maxHeartbeats 1000000 in
theorem elements_any (w : Int) (key c : Nat) (A : Option Addr) (v : World) (h : Arr 1 enc64 v v.heap.size A [key]) : Calls Tryz.prog 110 #[.int .i64 w, .slice A 1 c] v fun e w' => e = .returned (.int .i64 (elE w key)) ∧ v = w' := by
  rcases wd_cases w with ⟨n, rfl, hn, hB⟩ | ⟨hB, h8, h16, h32⟩
  · have gne : ((gp n : Int) == 0) = false := by rcases hn with rfl | rfl | rfl <;> decide
    obtain ⟨b, off, y, rfl, hbb, hy, c0⟩ := h.u64 (k := 0) (by simp) (Below.refl _ _)
    obtain rfl : y = key := by simpa using hy.out.symm
    rw [Nat.add_zero] at c0
    have hs := shr_zero (key := y) (w := n)
    have hE : Hid (elE (n : Int) y = if y < 2 ^ n then 0 else 3) := Lib.hid (by unfold elE; rw [if_pos hB]; simp)
    have n32 : n ≤ 32 := by rcases hn with h | h | h <;> omega
    have Hn := Lib.hid hn
    clear hn hB hy
    have n0 : (0 : Int) ≤ (n : Int) := by omega
    by_cases hk : y < 2 ^ n
    · rw [decide_eq_false (by simpa using hk)] at hs
      have fin : Hid (elE (n : Int) y = 0) := Lib.hid (by rw [hE.out, if_pos hk])
      clear hk hE
      go_enter Tryz.func110, Tryz.ntmps110
      go_wp2_with (go_at_call 160; refine (modulus_any _ _ Hn.out).mono ?_; rintro e w' ⟨rfl, rfl⟩)
      go_loop [12] (fun i => ∃ k : Nat, k ≤ 1 ∧ i = .int .i64 k) (fun i => 1 - (intOf i).toNat)
      case atStart => exact ⟨0, by omega, rfl⟩
      case round =>
        obtain ⟨k, hk, rfl⟩ := hrel
        rcases (show k = 0 ∨ k = 1 by omega) with rfl | rfl
        · go_wp2_with fail
          exact ⟨⟨1, by omega, rfl⟩, by simp [intOf]⟩
        · go_wp2_with fail
          go_ret
          exact ⟨ret_int fin.out.symm, rfl⟩
    · rw [decide_eq_true (by simpa using hk)] at hs
      have fin : Hid (elE (n : Int) y = 3) := Lib.hid (by rw [hE.out, if_neg hk])
      clear hk hE
      go_enter Tryz.func110, Tryz.ntmps110
      go_wp2_with (go_at_call 160; refine (modulus_any _ _ Hn.out).mono ?_; rintro e w' ⟨rfl, rfl⟩)
      go_loop [12] (fun i => i = .int .i64 0) (fun i => 1 - (intOf i).toNat)
      case atStart => exact rfl
      case round =>
        subst hrel
        go_wp2_with fail
        go_ret
        exact ⟨ret_int fin.out.symm, rfl⟩
  · have fin : Hid (elE w key = 2) := Lib.hid (by unfold elE; rw [if_neg (by simp [hB])])
    clear hB
    go_enter Tryz.func110, Tryz.ntmps110
    go_wp2_with (go_at_call 160; refine (modulus_no _ _ h8 h16 h32).mono ?_; rintro e w' ⟨rfl, rfl⟩)
    go_ret
    exact ⟨ret_int fin.out.symm, rfl⟩

end Go.Proofs.YtfolgmcoggejbaaGreat
