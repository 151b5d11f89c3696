/- Contract of the reference's nat. For at most a million digits. -/
import Derived.Test.YtmlppnapodamaaaRefD
namespace Go.Proofs.Ytmlppnapodamaaa
open Go.RowKit
set_option linter.unusedVariables false
set_option linter.unusedSimpArgs false

theorem dg_at (n k : Nat) : (dg n)[k]?.getD 0 = n / 256 ^ k % 256 := by
  unfold dg
  rcases Nat.lt_or_ge n (256 ^ k) with h | h
  · rw [List.getElem?_eq_none (digB_len_le b8 h), Nat.div_eq_of_lt h]; rfl
  · rw [digB_at b8 h]; rfl
theorem limb_step (n i t : Nat) : n / 256 ^ (i + t) % 256 ^ (3 - t + 1) = n / 256 ^ (i + (t + 1)) % 256 ^ (3 - t) * 256 + n / 256 ^ (i + t) % 256 := by
  rw [Nat.pow_succ', Nat.mod_mul, ← Nat.add_assoc, Nat.pow_succ 256 (i + t), ← Nat.div_div_eq_div_mul]
  omega
theorem limbs_at {n j : Nat} (h : B32 ^ j ≤ n) : (limbs n)[j]? = some (n / B32 ^ j % B32) := digB_at b32 h
theorem len_limbs {n j : Nat} : 4 * j < (dg n).length ↔ j < (limbs n).length := by
  unfold dg limbs
  rw [digB_lt_len b8, digB_lt_len b32, b8_pow]

set_option maxRecDepth 100000 in
set_option maxHeartbeats 2000000 in
theorem nat_any (A : Option Addr) (c : Nat) (n : Nat) (w : World) (h : Dn w A c (dg n)) (hl : (dg n).length ≤ 4000000) :
    Calls Try.prog 130 #[.slice A (dg n).length c] w fun e w' => ∃ v, e = .returned v ∧ Big w' w.heap.size v n ∧ Below w.heap.size w w' := by
  obtain ⟨i0, hi, hz0, hz1, hz2⟩ := info_parts u32_info
  have hat := dg_at n
  have hll := fun j => len_limbs (n := n) (j := j)
  generalize dg n = l at *
  have Hat := Lib.hid hat; have Hll := Lib.hid hll
  clear hat hll
  go_enter Try.func130, Try.ntmps130
  go_wp2
  go_loopw [3, 4] (fun v i wr => ∃ j : Nat, j ≤ (limbs n).length ∧ i = .int .i64 (4 * j : Nat) ∧ Own wr w.heap.size 106 1 enc32 v ((limbs n).take j) ∧ Below w.heap.size w wr) (fun _ i _ => l.length - (intOf i).toNat)
  case atStart => exact ⟨0, Nat.zero_le _, rfl, Own.nil, Below.refl _ _⟩
  case round =>
    obtain ⟨j, hj, rfl, hown, hb⟩ := hrel
    by_cases hlt : 4 * j < l.length
    · have hj2 : j < (limbs n).length := (Hll.out j).1 hlt
      obtain ⟨i, hie⟩ : ∃ i, 4 * j = i := ⟨_, rfl⟩
      have Hie := Lib.hid hie
      rw [hie] at hlt ⊢
      have hjl : j ≤ 1000000 := by omega
      clear hie
      go_wp2
      go_loop [5, 6] (fun x k => ∃ (kk X : Nat), kk ≤ 4 ∧ k = .int .i64 ((kk : Int) - 1) ∧ x = .int .i64 X ∧ X < 4294967296 ∧ X = n / 256 ^ (i + kk) % 256 ^ (4 - kk)) (fun _ k => (intOf k + 1).toNat)
      case atStart => exact ⟨4, 0, Nat.le_refl _, rfl, rfl, by decide, by simp [Nat.mod_one]⟩
      case round =>
        obtain ⟨kk, X, hkk, rfl, rfl, hXb, hX⟩ := hrel
        have HX := Lib.hid hX
        clear hX
        cases kk with
        | zero =>
          have hxm : (X : Int) % 4294967296 = (X : Int) := by omega
          have hget : Hid ((limbs n)[j]? = some X) := Lib.hid (by
            have h1 : B32 ^ j ≤ n := (digB_lt_len b32).1 hj2
            rw [limbs_at h1, HX.out, Nat.add_zero, ← Hie.out, b8_pow])
          have hbnd : ((limbs n).take j).length ≤ 1000000 := by rw [List.length_take]; omega
          have i4 : Hid (i + 4 = 4 * (j + 1)) := Lib.hid (by have := Hie.out; omega)
          go_wp2_with (at_builtin; refine wpList_snoc rfl _ _ 37 rfl w.heap.size 106 i0 _ 1 4 Try.underlying37 hi hz0 hz1 hz2 rfl (by decide) _ ((limbs n).take j) X #[.int .u32 X] 106 rfl hown rfl rfl rfl (enc32_one _) (by omega) (by decide) hb.size rfl ?_; intro v' w5 hown5 hb5)
          go_roundw
          case rel => exact ⟨j + 1, by omega, by rw [← i4.out]; go_num, by rw [take_snoc hget.out]; exact hown5, hb.trans hb5⟩
          case measure => (simp [intOf] <;> omega)
        | succ t =>
          have ht3 : t ≤ 3 := by omega
          have hstep := limb_step n i t
          rw [show 4 - (t + 1) = 3 - t from by omega] at HX
          rw [← HX.out, show 3 - t + 1 = 4 - t from by omega] at hstep
          have hXl : X < 16777216 := by
            rw [HX.out]
            have h1 : 256 ^ (3 - t) ≤ 256 ^ 3 := Nat.pow_le_pow_right (by decide) (by omega)
            have h2 := Nat.mod_lt (n / 256 ^ (i + (t + 1))) (Nat.pow_pos (n := 3 - t) (show 0 < 256 by decide))
            have h3 : 256 ^ 3 = 16777216 := by decide
            omega
          have Hst := Lib.hid hstep
          have hd := Hat.out (i + t)
          rw [← hd] at Hst
          clear hstep hd
          by_cases hit : i + t < l.length
          · obtain ⟨b1, o1, x, rfl, hb1, hx, c1⟩ := h.arr.dig hit hb
            have x1 := h.lt hx.out
            rw [hx.out] at Hst
            obtain ⟨J, hJ⟩ : ∃ J, i + t = J := ⟨_, rfl⟩
            have nIk : (i : Int) + (t : Int) = (J : Int) := by omega
            rw [hJ] at c1 hit
            clear hJ
            go_wp2
            go_round
            case rel => exact ⟨t, X * 256 + x, by omega, by go_num, by go_num, by omega, by rw [Hst.out]; rfl⟩
            case measure => (simp [intOf] <;> omega)
          · have hx : l[i + t]? = none := List.getElem?_eq_none (by omega)
            rw [hx] at Hst
            clear hx
            have hit' : ¬ ((i : Int) + (t : Int) < (l.length : Int)) := by omega
            go_wp2
            go_round
            case rel => exact ⟨t, X * 256, by omega, by go_num, by go_num, by omega, by rw [Hst.out]; rfl⟩
            case measure => (simp [intOf] <;> omega)
    · have hj2 : (limbs n).length ≤ j := by have := Hll.out j; omega
      go_wp2
      go_ret
      exact ⟨_, rfl, by unfold Big; rw [List.take_of_length_le hj2] at hown; exact hown, hb⟩

end Go.Proofs.Ytmlppnapodamaaa
