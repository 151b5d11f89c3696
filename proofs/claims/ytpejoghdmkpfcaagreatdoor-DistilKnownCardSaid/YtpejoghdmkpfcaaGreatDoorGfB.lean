/- Contracts of algebra's number and of the reference's Word, modulus, Mul. For strings of at most 40 bits; for elements of the field. -/
import Derived.Test.YtpejoghdmkpfcaaGreatDoorGfA
import Derived.Test.YtpejoghdmkpfcaaGreatDoorGfqAll
namespace Go.Proofs.YtpejoghdmkpfcaaGreatDoor
open Go.RowKit
set_option linter.unusedVariables false
set_option linter.unusedSimpArgs false

theorem or_one {n : Nat} (h : n < 4611686018427387904) : bits .or .u64 ((n : Int) * 2) 1 = ((2 * n + 1 : Nat) : Int) := by
  have e := u64_or_nat (n * 2) 1 (by omega) (by omega)
  have e2 : (n * 2) ||| 1 = 2 * n + 1 := by
    have := Nat.two_pow_add_eq_or_of_lt (i := 1) (b := 1) (by decide) n
    rw [Nat.mul_comm n 2]
    simpa using this.symm
  rw [e2] at e
  rw [← e]; simp

set_option maxHeartbeats 1000000 in
theorem number_any (A : Option Addr) (c : Nat) (l : List Bool) (w : World) (h : Arr 1 encB w w.heap.size A l) (hl : l.length ≤ 40) :
    Calls Tryz.prog 89 #[.slice A l.length c] w fun e w' => e = .returned (.int .u64 (bval l)) ∧ w = w' := by
  go_enter Tryz.func89, Tryz.ntmps89
  go_wp2
  go_loop [2, 7] (fun n i => ∃ k : Nat, k ≤ l.length ∧ i = .int .i64 k ∧ n = .int .u64 (bval (l.take k))) (fun _ i => l.length - (intOf i).toNat)
  case atStart => exact ⟨0, Nat.zero_le _, rfl, rfl⟩
  case round =>
    obtain ⟨k, hk, rfl, rfl⟩ := hrel
    by_cases hlt : k < l.length
    · obtain ⟨b, off, x, rfl, hbb, hx, c0⟩ := h.bool hlt (Below.refl _ _)
      have st := Lib.hid (bval_take hx.out)
      have bl := bval_lt (l.take k)
      have bl2 : bval (l.take k) < 1099511627776 := Nat.lt_of_lt_of_le bl (Nat.pow_le_pow_right (by decide : 0 < 2) (show (l.take k).length ≤ 40 by rw [List.length_take]; omega))
      obtain ⟨n, hn⟩ : ∃ n, bval (l.take k) = n := ⟨_, rfl⟩
      rw [hn] at bl2 st ⊢
      clear bl hn
      have o1 := or_one (n := n) (by omega)
      cases x
      · go_wp2
        go_round
        case rel => exact ⟨k + 1, by omega, by go_num, by rw [st.out]; go_num⟩
        case measure => simp [intOf]; omega
      · go_wp2
        go_round
        case rel => exact ⟨k + 1, by omega, by go_num, by rw [st.out]; rfl⟩
        case measure => simp [intOf]; omega
    · have e1 : Hid (l.take k = l) := Lib.hid (List.take_of_length_le (by omega))
      rw [e1.out]
      go_wp2
      go_ret
      exact ⟨rfl, rfl⟩

set_option maxHeartbeats 1000000 in
theorem rWord_any (A : Option Addr) (c : Nat) (l : List Bool) (w : World) (h : Arr 1 encB w w.heap.size A l) (hl : l.length ≤ 40) :
    Calls Tryz.prog 45 #[.slice A l.length c] w fun e w' => e = .returned (.int .u64 (bval l)) ∧ w = w' := by
  go_enter Tryz.func45, Tryz.ntmps45
  go_wp2
  go_loop [3, 4] (fun n i => ∃ k : Nat, k ≤ l.length ∧ i = .int .i64 k ∧ n = .int .u64 (bval (l.take k))) (fun _ i => l.length - (intOf i).toNat)
  case atStart => exact ⟨0, Nat.zero_le _, rfl, rfl⟩
  case round =>
    obtain ⟨k, hk, rfl, rfl⟩ := hrel
    by_cases hlt : k < l.length
    · obtain ⟨b, off, x, rfl, hbb, hx, c0⟩ := h.bool hlt (Below.refl _ _)
      have st := Lib.hid (bval_take hx.out)
      have bl := bval_lt (l.take k)
      have bl2 : bval (l.take k) < 1099511627776 := Nat.lt_of_lt_of_le bl (Nat.pow_le_pow_right (by decide : 0 < 2) (show (l.take k).length ≤ 40 by rw [List.length_take]; omega))
      obtain ⟨n, hn⟩ : ∃ n, bval (l.take k) = n := ⟨_, rfl⟩
      rw [hn] at bl2 st ⊢
      clear bl hn
      cases x
      · go_wp2
        go_round
        case rel => exact ⟨k + 1, by omega, by go_num, by rw [st.out]; go_num⟩
        case measure => simp [intOf]; omega
      · go_wp2
        go_round
        case rel => exact ⟨k + 1, by omega, by go_num, by rw [st.out]; go_num⟩
        case measure => simp [intOf]; omega
    · have e1 : Hid (l.take k = l) := Lib.hid (List.take_of_length_le (by omega))
      rw [e1.out]
      go_wp2
      go_ret
      exact ⟨rfl, rfl⟩

set_option maxHeartbeats 400000 in
theorem rmodulus_any (w : Nat) (v : World) (hw : Wd w) : Calls Tryz.prog 69 #[.int .i64 w] v fun e w' => e = .returned (.int .u64 (gp w)) ∧ v = w' := by
  rcases hw with rfl | rfl | rfl
  all_goals (
    go_enter Tryz.func69, Tryz.ntmps69
    go_wp2
    go_ret
    exact ⟨rfl, rfl⟩)

theorem bit_eq (b k : Nat) : (((b : Int) / 2 ^ k).tmod 2 == 1) = b.testBit k := by
  have e : ((b : Int) / 2 ^ k).tmod 2 = ((b / 2 ^ k % 2 : Nat) : Int) := by
    have : (b : Int) / 2 ^ k = ((b / 2 ^ k : Nat) : Int) := by simp
    rw [this]; rfl
  rw [e, Nat.testBit_eq_decide_div_mod_eq]
  have : b / 2 ^ k % 2 < 2 := Nat.mod_lt _ (by decide)
  generalize b / 2 ^ k % 2 = q at *
  rcases (show q = 0 ∨ q = 1 by omega) with rfl | rfl <;> rfl
theorem shl_fit {a k : Nat} (ha : a < 8589934592) (hk : k ≤ 31) : IntKind.u64.wrap ((a : Int) * 2 ^ k) = ((a <<< k : Nat) : Int) ∧ a <<< k < 2 ^ 64 := by
  have h1 : a <<< k < 2 ^ 64 := by
    rw [Nat.shiftLeft_eq]
    calc a * 2 ^ k < 2 ^ 33 * 2 ^ k := Nat.mul_lt_mul_of_pos_right (by omega) (Nat.pow_pos (by decide))
      _ ≤ 2 ^ 33 * 2 ^ 31 := Nat.mul_le_mul_left _ (Nat.pow_le_pow_right (by decide) hk)
      _ = 2 ^ 64 := by decide
  refine ⟨?_, h1⟩
  have e : (a : Int) * 2 ^ k = ((a <<< k : Nat) : Int) := by rw [Nat.shiftLeft_eq]; simp
  rw [e]
  generalize a <<< k = x at *
  have h2 : x < 18446744073709551616 := h1
  simp [IntKind.wrap, IntKind.bits, IntKind.signed]
  omega
theorem xor_64 {a b : Nat} (ha : a < 2 ^ 64) (hb : b < 2 ^ 64) : bits .xor .u64 (a : Int) (b : Int) = ((a ^^^ b : Nat) : Int) := u64_xor_nat a b ha hb
theorem clN_lt {a b : Nat} (ha : a < 4294967296) : ∀ k, k ≤ 32 → clN a b k < 2 ^ 64
  | 0, _ => Nat.pow_pos (by decide)
  | k + 1, hk => by
    rw [clN]
    refine Nat.xor_lt_two_pow (clN_lt ha k (by omega)) ?_
    split
    · exact (shl_fit (by omega) (by omega)).2
    · exact Nat.pow_pos (by decide)

set_option maxHeartbeats 1000000 in
theorem rMul_gf (w a b : Nat) (v : World) (hw : Wd w) (ha : a < 2 ^ w) : Calls Tryz.prog 35 #[.int .i64 w, .int .u64 a, .int .u64 b] v fun e w' => e = .returned (.int .u64 (rm w a b)) ∧ v = w' := by
  have hw32 : w ≤ 32 := by rcases hw with h | h | h <;> omega
  have hw8 : 8 ≤ w := by rcases hw with h | h | h <;> omega
  have a32 : a < 4294967296 := Nat.lt_of_lt_of_le ha (Nat.pow_le_pow_right (by decide : 0 < 2) hw32)
  have Hw := Lib.hid hw
  clear hw ha
  have gl := gp_lt w
  go_enter Tryz.func35, Tryz.ntmps35
  go_wp2
  go_loop [7, 8] (fun n i => ∃ k : Nat, k ≤ w ∧ i = .int .i64 k ∧ n = .int .u64 (clN a b k)) (fun _ i => w - (intOf i).toNat)
  case atStart => exact ⟨0, Nat.zero_le _, rfl, rfl⟩
  case round =>
    obtain ⟨k, hk, rfl, rfl⟩ := hrel
    rcases Nat.lt_or_ge k w with hlt | hge
    · have hb1 := bit_eq b k
      obtain ⟨hs1, hs2⟩ := shl_fit (a := a) (k := k) (by omega) (by omega)
      have hc := clN_lt (b := b) a32 k (by omega)
      have hx := xor_64 hc hs2
      have st : Hid (clN a b (k + 1) = clN a b k ^^^ (if b.testBit k = true then a <<< k else 0)) := Lib.hid rfl
      generalize a <<< k = y at *
      generalize clN a b k = z at *
      clear hc hs2
      cases h1 : b.testBit k
      · rw [h1] at hb1 st
        clear h1
        go_wp2
        go_round
        case rel => exact ⟨k + 1, by omega, by go_num, by rw [st.out]; simp⟩
        case measure => simp [intOf]; omega
      · rw [h1] at hb1 st
        clear h1
        go_wp2
        go_round
        case rel => exact ⟨k + 1, by omega, by go_num, by rw [st.out]; rfl⟩
        case measure => simp [intOf]; omega
    · obtain rfl : k = w := by omega
      have hc := clN_lt (b := b) a32 k (by omega)
      have hrm : Hid (rm k a b = rdN k (k - 1) (clN a b k)) := Lib.hid rfl
      generalize clN a b k = z at *
      clear hge hk
      have Hc := Lib.hid hc
      clear hc
      have k0 : k - 1 + 1 = k := by omega
      go_wp2
      go_loop [7, 9] (fun n i => ∃ j m : Nat, j ≤ k - 1 ∧ i = .int .i64 ((k : Int) + j - 1) ∧ n = .int .u64 m ∧ Hid (m < 2 ^ 64 ∧ rdN k j m = rm k a b)) (fun _ i => (intOf i).toNat)
      case atStart => exact ⟨k - 1, z, Nat.le_refl _, by rw [show (2 : Int) * (k : Int) - 2 = (k : Int) + ((k - 1 : Nat) : Int) - 1 from by omega], rfl, Lib.hid ⟨Hc.out, hrm.out.symm⟩⟩
      case round =>
        obtain ⟨j, m, hj, rfl, rfl, hinv⟩ := hrel
        rcases j with _ | q
        · have d1 : decide ((k : Int) ≤ (k : Int) + ((0 : Nat) : Int) - 1) = false := decide_eq_false (by omega)
          go_wp2
          go_ret
          exact ⟨ret_int (by rw [← hinv.out.2]; rfl), rfl⟩
        · have e1 : (k : Int) + ((q + 1 : Nat) : Int) - 1 = (k : Int) + (q : Int) := by omega
          rw [e1]
          have d1 : decide ((k : Int) ≤ (k : Int) + (q : Int)) = true := decide_eq_true (by omega)
          have hb1 := bit_eq m (k + q)
          obtain ⟨hs1, hs2⟩ := shl_fit (a := gp k) (k := q) (by omega) (by omega)
          have hx := xor_64 hinv.out.1 hs2
          have hn2 : Hid (m ^^^ gp k <<< q < 2 ^ 64) := Lib.hid (Nat.xor_lt_two_pow hinv.out.1 hs2)
          have st : Hid (rdN k (q + 1) m = rdN k q (m ^^^ (if m.testBit (k + q) = true then gp k <<< q else 0))) := Lib.hid rfl
          have ex : ((k : Int) + (q : Int)).toNat = k + q := by omega
          have ey : (k : Int) + (q : Int) - (k : Int) = (q : Int) := by omega
          generalize gp k <<< q = y at *
          clear hs2 e1
          cases h1 : m.testBit (k + q)
          · rw [h1] at hb1 st
            clear h1
            go_wp2_with (go_at_call 69; refine (rmodulus_any _ _ Hw.out).mono ?_; rintro e w' ⟨rfl, rfl⟩)
            exact ⟨⟨q, m, by omega, rfl, rfl, Lib.hid ⟨hinv.out.1, by rw [← hinv.out.2, st.out]; simp⟩⟩, by simp [intOf]; omega⟩
          · rw [h1] at hb1 st
            clear h1
            go_wp2_with (go_at_call 69; refine (rmodulus_any _ _ Hw.out).mono ?_; rintro e w' ⟨rfl, rfl⟩)
            exact ⟨⟨q, m ^^^ y, by omega, rfl, rfl, Lib.hid ⟨hn2.out, by rw [← hinv.out.2, st.out]; rfl⟩⟩, by simp [intOf]; omega⟩

end Go.Proofs.YtpejoghdmkpfcaaGreatDoor
