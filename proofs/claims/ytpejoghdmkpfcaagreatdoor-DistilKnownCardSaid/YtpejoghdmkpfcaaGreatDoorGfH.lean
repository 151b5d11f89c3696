/- Contracts of the reference's Fits and hash. For any width from 0 to 64 in Fits; for any width in hash. -/
import Derived.Test.YtpejoghdmkpfcaaGreatDoorGfE
namespace Go.Proofs.YtpejoghdmkpfcaaGreatDoor
open Go.RowKit
set_option linter.unusedVariables false
set_option linter.unusedSimpArgs false

theorem pow_u64 {n : Nat} (h : n ≤ 32) : IntKind.u64.wrap ((2 : Int) ^ n) = ((2 ^ n : Nat) : Int) := by
  have h1 : 2 ^ n ≤ 4294967296 := Nat.pow_le_pow_right (by decide : 0 < 2) h
  have e : (2 : Int) ^ n = ((2 ^ n : Nat) : Int) := by simp
  rw [e]
  generalize 2 ^ n = x at *
  simp [IntKind.wrap, IntKind.bits, IntKind.signed]
  omega
set_option maxHeartbeats 400000 in
theorem Fits_any (key n : Nat) (v : World) (hn : n ≤ 32) : Calls Tryz.prog 110 #[.int .u64 key, .int .i64 n] v fun e w' => e = .returned (.bool (decide (key < 2 ^ n))) ∧ v = w' := by
  have hp := pow_u64 hn
  have d1 : decide (64 ≤ (n : Int)) = false := by simp; omega
  obtain ⟨x, hx⟩ : ∃ x, 2 ^ n = x := ⟨_, rfl⟩
  rw [hx] at hp ⊢
  clear hx
  go_enter Tryz.func110, Tryz.ntmps110
  go_wp2
  go_ret
  exact ⟨rfl, rfl⟩

/-- The error, and the number, of a hash. -/
def hshE (w : Int) (key : Nat) (m : List Bool) : Int := if elE w key = 0 then (if 65536 < m.length then 4 else 0) else elE w key
def hshN (w : Int) (key : Nat) (m : List Bool) : Nat := if hshE w key m = 0 then hashN w.toNat key m else 0
theorem hsh_wd {w : Int} {key : Nat} {m : List Bool} (h : wdB w = false) : hshE w key m = 2 ∧ hshN w key m = 0 := by
  have e : elE w key = 2 := by unfold elE; rw [if_neg (by simp [h])]
  have e2 : hshE w key m = 2 := by unfold hshE; rw [e]; rfl
  exact ⟨e2, by unfold hshN; rw [e2]; rfl⟩
theorem hsh_key {n key : Nat} {m : List Bool} (h : wdB (n : Int) = true) (hk : ¬ key < 2 ^ n) : hshE n key m = 3 ∧ hshN n key m = 0 := by
  have e : elE n key = 3 := by unfold elE; rw [if_pos h]; simp [hk]
  have e2 : hshE n key m = 3 := by unfold hshE; rw [e]; rfl
  exact ⟨e2, by unfold hshN; rw [e2]; rfl⟩
theorem hsh_long {n key : Nat} {m : List Bool} (h : wdB (n : Int) = true) (hk : key < 2 ^ n) (hl : 65536 < m.length) : hshE n key m = 4 ∧ hshN n key m = 0 := by
  have e : elE n key = 0 := by unfold elE; rw [if_pos h]; simp [hk]
  have e2 : hshE n key m = 4 := by unfold hshE; rw [if_pos e, if_pos hl]
  exact ⟨e2, by unfold hshN; rw [e2]; rfl⟩
theorem hsh_ok {n key : Nat} {m : List Bool} (h : wdB (n : Int) = true) (hk : key < 2 ^ n) (hl : ¬ 65536 < m.length) : hshE n key m = 0 ∧ hshN n key m = hashN n key m := by
  have e : elE n key = 0 := by unfold elE; rw [if_pos h]; simp [hk]
  have e2 : hshE n key m = 0 := by unfold hshE; rw [if_pos e, if_neg hl]
  exact ⟨e2, by unfold hshN; rw [if_pos e2]; simp⟩

set_option maxHeartbeats 1000000 in
theorem rhash_any (w : Int) (key : Nat) (A : Option Addr) (c : Nat) (m : List Bool) (v : World) (h : Arr 1 encB v v.heap.size A m) (hl : m.length ≤ 100000) (hnil : A = none → c = 0) :
    Calls Tryz.prog 111 #[.int .i64 w, .int .u64 key, .slice A m.length c] v fun e v' => e = .returned (.tuple #[.int .u64 (hshN w key m), .int .i64 (hshE w key m)]) ∧ Below v.heap.size v v' := by
  rcases wd_cases w with ⟨n, rfl, hn, hB⟩ | ⟨hB, _, _, _⟩
  · have n32 : n ≤ 32 := by rcases hn with h | h | h <;> omega
    have HB := Lib.hid hB
    have cF := Fits_any key n v n32
    by_cases hk : key < 2 ^ n
    · rw [decide_eq_true hk] at cF
      by_cases h6 : 65536 < m.length
      · obtain ⟨f1, f2⟩ := hsh_long (m := m) hB hk h6
        have F1 := Lib.hid f1; have F2 := Lib.hid f2
        have d1 : decide (65536 < (m.length : Int)) = true := by simp; omega
        clear f1 f2 hB hk
        go_enter Tryz.func111, Tryz.ntmps111
        go_wp2_with (first | (go_at_call 46; refine (Width_any _ _).mono ?_; rintro e w' ⟨rfl, rfl⟩; rw [HB.out]) | (go_at_call 110; refine (cF).mono ?_; rintro e w' ⟨rfl, rfl⟩))
        go_ret2
        exact ⟨by rw [F1.out, F2.out]; rfl, Below.refl _ _⟩
      · obtain ⟨f1, f2⟩ := hsh_ok (m := m) hB hk h6
        have F1 := Lib.hid f1; have F2 := Lib.hid f2
        have d1 : decide (65536 < (m.length : Int)) = false := by simp; omega
        have cH := rHash_any n key A c m v hn hk h hl hnil
        clear f1 f2 hB hk
        go_enter Tryz.func111, Tryz.ntmps111
        go_wp2_with (first | (go_at_call 46; refine (Width_any _ _).mono ?_; rintro e w' ⟨rfl, rfl⟩; rw [HB.out]) | (go_at_call 110; refine (cF).mono ?_; rintro e w' ⟨rfl, rfl⟩) | (go_at_call 8; refine cH.mono ?_; rintro e w1 ⟨rfl, hb1⟩))
        go_ret2
        exact ⟨by rw [F1.out, F2.out]; rfl, hb1⟩
    · rw [decide_eq_false hk] at cF
      obtain ⟨f1, f2⟩ := hsh_key (m := m) hB hk
      have F1 := Lib.hid f1; have F2 := Lib.hid f2
      clear f1 f2 hB hk
      go_enter Tryz.func111, Tryz.ntmps111
      go_wp2_with (first | (go_at_call 46; refine (Width_any _ _).mono ?_; rintro e w' ⟨rfl, rfl⟩; rw [HB.out]) | (go_at_call 110; refine (cF).mono ?_; rintro e w' ⟨rfl, rfl⟩))
      go_ret2
      exact ⟨by rw [F1.out, F2.out]; rfl, Below.refl _ _⟩
  · obtain ⟨f1, f2⟩ := hsh_wd (key := key) (m := m) hB
    have F1 := Lib.hid f1; have F2 := Lib.hid f2
    have HB := Lib.hid hB
    clear f1 f2 hB
    go_enter Tryz.func111, Tryz.ntmps111
    go_wp2_with (go_at_call 46; refine (Width_any _ _).mono ?_; rintro e w' ⟨rfl, rfl⟩; rw [HB.out])
    go_ret2
    exact ⟨by rw [F1.out, F2.out]; rfl, Below.refl _ _⟩

end Go.Proofs.YtpejoghdmkpfcaaGreatDoor
