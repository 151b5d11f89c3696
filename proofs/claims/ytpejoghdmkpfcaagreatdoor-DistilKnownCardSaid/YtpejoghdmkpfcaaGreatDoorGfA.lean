/- Contracts of algebra's modulus and times. For the widths 8, 16 and 32, and elements of the field. -/
import Derived.Test.YtpejoghdmkpfcaaGreatDoorProg
import Derived.Test.YtpejoghdmkpfcaaGreatDoorGfqAll
import Derived.Test.YtpejoghdmkpfcaaGreatDoorMade
import Derived.Laws.BitsAllLaws
namespace Go.Proofs.YtpejoghdmkpfcaaGreatDoor
open Go.RowKit
set_option linter.unusedVariables false
set_option linter.unusedSimpArgs false

set_option maxHeartbeats 400000 in
theorem modulus_any (w : Nat) (v : World) (hw : Wd w) : Calls Tryz.prog 105 #[.int .i64 w] v fun e w' => e = .returned (.int .u64 (gp w)) ∧ v = w' := by
  rcases hw with rfl | rfl | rfl
  all_goals (
    go_enter Tryz.func105, Tryz.ntmps105
    go_wp2
    go_ret
    exact ⟨rfl, rfl⟩)

theorem hi_bit {w c : Nat} (hw : 1 ≤ w) (hc : c < 2 ^ w) : ((c : Int) * 2 / 2 ^ w != 0) = c.testBit (w - 1) := by
  obtain ⟨k, rfl⟩ : ∃ k, w = k + 1 := ⟨w - 1, by omega⟩
  have e : (c : Int) * 2 / 2 ^ (k + 1) = ((c / 2 ^ k : Nat) : Int) := by
    have : (c : Int) * 2 / 2 ^ (k + 1) = ((c * 2 / 2 ^ (k + 1) : Nat) : Int) := by simp
    rw [this, Nat.pow_succ, Nat.mul_div_mul_right _ _ (by decide)]
  rw [e, Nat.add_sub_cancel, Nat.testBit_eq_decide_div_mod_eq]
  rw [Nat.pow_succ] at hc
  have hlt : c / 2 ^ k < 2 := by rw [Nat.div_lt_iff_lt_mul (Nat.pow_pos (by decide))]; omega
  generalize c / 2 ^ k = q at *
  rcases (show q = 0 ∨ q = 1 by omega) with rfl | rfl <;> rfl
theorem lo_bit {d : Nat} (hd : d < 4294967296) : (bits BinOp.and IntKind.u64 (d : Int) 1 == 1) = decide (d % 2 = 1) := by
  rw [show (1 : Int) = ((1 : Nat) : Int) from rfl, u64_and_nat d 1 (by omega) (by omega), Nat.and_one_is_mod]
  rw [Bool.eq_iff_iff]; simp; omega
theorem shl_two (c : Nat) : c <<< 1 = c * 2 := by rw [Nat.shiftLeft_eq]
theorem gp_lt (w : Nat) : gp w < 4294967437 + 1 := by unfold gp; split <;> (try split) <;> decide
theorem xor_u64 {a b : Nat} (ha : a < 9000000000) (hb : b < 9000000000) : bits .xor .u64 (a : Int) (b : Int) = ((a ^^^ b : Nat) : Int) := u64_xor_nat a b (by omega) (by omega)

set_option maxHeartbeats 1000000 in
theorem times_gf (w a b : Nat) (v : World) (hw : Wd w) (ha : a < 2 ^ w) (hb : b < 2 ^ w) : Calls Tryz.prog 87 #[.int .i64 w, .int .u64 a, .int .u64 b] v fun e w' => e = .returned (.int .u64 (gm w a b)) ∧ v = w' := by
  have hw32 : w ≤ 32 := by rcases hw with h | h | h <;> omega
  have p32 : 2 ^ w ≤ 4294967296 := Nat.pow_le_pow_right (n := 2) (by decide) hw32
  have Hw := Lib.hid hw
  clear hw
  go_enter Tryz.func87, Tryz.ntmps87
  go_wp2
  go_loop [1, 2, 6] (fun x y n => ∃ c d m : Nat, x = .int .u64 c ∧ y = .int .u64 d ∧ n = .int .u64 m ∧ c < 2 ^ w ∧ d ≤ b ∧ m < 2 ^ w ∧ Hid (m ^^^ gm w c d = gm w a b)) (fun _ y _ => (intOf y).toNat)
  case atStart => exact ⟨a, b, 0, rfl, rfl, rfl, ha, Nat.le_refl _, Nat.pow_pos (by decide), Lib.hid (by simp)⟩
  case round =>
    obtain ⟨c, d, m, rfl, rfl, rfl, hc, hd, hm, hinv⟩ := hrel
    rcases Nat.eq_zero_or_pos d with rfl | hd0
    · go_wp2
      go_ret
      exact ⟨ret_int (by have := hinv.out; rw [gm_zero, Nat.xor_zero] at this; rw [this]), rfl⟩
    · have c32 : c < 4294967296 := by omega
      have d32 : d < 4294967296 := by omega
      have m32 : m < 4294967296 := by omega
      have hb1 := hi_bit (w := w) (by rcases Hw.out with h | h | h <;> omega) hc
      have hb2 := lo_bit d32
      have st := Lib.hid (gm_step w c d)
      have hx := xt_lt Hw.out hc
      have Hx := Lib.hid hx
      have Hc := Lib.hid hc
      have Hm := Lib.hid hm
      have hxe : Hid (xt w c = (c * 2) ^^^ (if c.testBit (w - 1) = true then gp w else 0)) := Lib.hid (by unfold xt; rw [shl_two])
      have gl := gp_lt w
      have X1 : bits .xor .u64 ((c : Int) * 2) (gp w : Int) = ((c * 2 ^^^ gp w : Nat) : Int) := by
        have := xor_u64 (a := c * 2) (b := gp w) (by omega) (by omega)
        rw [← this]; simp
      have X2 := xor_u64 (a := m) (b := c) (by omega) (by omega)
      have hdv : d / 2 < d := by omega
      have hdb : d / 2 ≤ b := by omega
      have ed : (d : Int) / 2 = ((d / 2 : Nat) : Int) := by omega
      have HX1 := Lib.hid X1
      have HX2 := Lib.hid X2
      have Hed := Lib.hid ed
      clear hc hm p32 ha hb hx X1 X2 ed hd
      cases h1 : c.testBit (w - 1) <;> by_cases h2 : d % 2 = 1
      all_goals
        rw [h1] at hb1
        have Hh1 := Lib.hid h1
        have Hh2 := Lib.hid h2
        first
          | (rw [decide_eq_true h2] at hb2)
          | (rw [decide_eq_false h2] at hb2)
        clear h1 h2
        go_wp2_with (go_at_call 105; refine (modulus_any _ _ Hw.out).mono ?_; rintro e w' ⟨rfl, rfl⟩)
        refine ⟨⟨xt w c, d / 2, if d % 2 = 1 then m ^^^ c else m, ?_, by rw [Hed.out], ?_, Hx.out, hdb, ?_, Lib.hid ?_⟩, by rw [Hed.out]; simp [intOf]; omega⟩
        · rw [hxe.out, Hh1.out]
          first
            | (rw [HX1.out]; rfl)
            | simp
        · first
            | (rw [HX2.out, if_pos Hh2.out])
            | (rw [if_neg Hh2.out])
        · split
          · exact Nat.xor_lt_two_pow Hm.out Hc.out
          · exact Hm.out
        · rw [← hinv.out, st.out]
          split
          · rw [Nat.xor_assoc]
          · simp

end Go.Proofs.YtpejoghdmkpfcaaGreatDoor
