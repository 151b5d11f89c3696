/- Contracts of the reference's Ball, bits and Bits. For at most 512 things. -/
import Derived.Test.YtliekcfcdfakjaaDoorRefAll
import Derived.Test.YtliekcfcdfakjaaDoorBallA
namespace Go.Proofs.YtliekcfcdfakjaaDoor
open Go.RowKit
set_option linter.unusedVariables false
set_option linter.unusedSimpArgs false

theorem dg_nil (w : World) (base : Nat) : Dg w base (.slice none 0 0) 0 := by unfold Dg dg; rw [digB_zero]; exact Own.nil
theorem dball_len {n k : Nat} (hk : k ≤ n + 1) (hn : n ≤ 512) : (dg (sumTo (ch n) k)).length ≤ 65 :=
  dg_len (m := n + 1) (Nat.lt_of_le_of_lt (ballS_le hk) (Nat.pow_lt_pow_right (by decide) (by omega))) (by omega)

set_option maxRecDepth 100000 in
set_option maxHeartbeats 2000000 in
theorem rBall_any (n : Nat) (t : Int) (w : World) (hn : n ≤ 512) (ht1 : -9223372036854775808 ≤ t) (ht2 : t ≤ 9223372036854775807) :
    Calls Tryd.prog 57 #[.int .i64 n, .int .i64 t] w fun e w' => ∃ v, e = .returned (.tuple #[v, .int .i64 0]) ∧ Big w' w.heap.size v (ballN n t) ∧ Below w.heap.size w w' := by
  obtain ⟨M, hM⟩ : ∃ M, ballM n t = M := ⟨_, rfl⟩
  have hMn := ballM_le n t
  have hB : Hid (ballN n t = sumTo (ch n) M) := Lib.hid (by unfold ballN; rw [hM])
  rw [hM] at hMn
  have g1 : decide (512 < (n : Int)) = false := by simp; omega
  have g2 : decide ((n : Int) < 0) = false := by simp
  have hc : (∀ j : Nat, j < M → (j : Int) ≤ t) ∧ ((M : Int) ≤ t → M = n + 1) := by
    unfold ballM at hM
    split at hM
    · exact ⟨fun j hj => by omega, fun h => by omega⟩
    · exact ⟨fun j hj => by omega, fun h => by omega⟩
  have Hc := Lib.hid hc
  clear hM hc
  go_enter Tryd.func57, Tryd.ntmps57
  go_wp2_with fail
  refine (row_any n _ hn).mono ?_
  rintro e w1 ⟨vr, rfl, ra, hb1⟩
  obtain ⟨ga, ca, rfl, ga1, ga2, geta⟩ := ra.form
  have Geta := Lib.hid geta
  clear geta ra
  go_wp2_with fail
  go_loopw [7, 8] (fun s i wr => ∃ j : Nat, j ≤ M ∧ i = .int .i64 j ∧ Dg wr w.heap.size s (sumTo (ch n) j) ∧ Below w1.heap.size w1 wr) (fun _ i _ => M - (intOf i).toNat)
  case atStart => exact ⟨0, Nat.zero_le _, rfl, dg_nil _ _, Below.refl _ _⟩
  case round =>
    obtain ⟨j, hj, rfl, bs, hb⟩ := hrel
    have hbs := hb.size
    have hb1s := hb1.size
    rcases Nat.lt_or_ge j M with hlt | hge
    · have h1 : (j : Int) ≤ t := Hc.out.1 j hlt
      have h2 : j ≤ n := by omega
      obtain ⟨As, cs, rfl, ns⟩ := bs.dn
      obtain ⟨A1, c1, k1, n1⟩ := Geta.out j (by omega)
      have l1 := dball_len (n := n) (k := j) (by omega) hn
      have l2 := dgch_len (n := n) (k := j) hn
      have k1' := bel_cell hb k1
      have cA := radd_any As cs _ A1 c1 _ wr ns (n1.on hb) (by omega) (by omega)
      simp only [dg_val] at cA
      have hst : Hid (sumTo (ch n) j + ch n j = sumTo (ch n) (j + 1)) := Lib.hid rfl
      have i1 : (j : Int) < (n : Int) + 1 := by omega
      go_wp2_with (go_at_call 100; refine cA.mono ?_; rintro e' w5 ⟨v5, rfl, b5, hb5⟩)
      have s5 := hb5.size
      go_roundw
      case rel => first | exact ⟨j + 1, by omega, by go_num, by rw [← hst.out]; exact b5.down (by omega), hb.trans (hb5.mono hbs)⟩ | ((repeat apply Exists.intro); exact ⟨⟨j + 1, by omega, by go_num, by rw [← hst.out]; exact b5.down (by omega), hb.trans (hb5.mono hbs)⟩, rfl⟩)
      case measure => (simp [intOf] <;> omega)
    · obtain rfl : j = M := by omega
      obtain ⟨As, cs, rfl, ns⟩ := bs.dn
      have l1 := dball_len (n := n) (k := j) (by omega) hn
      have cC := nat_any As cs _ wr ns (by omega)
      rcases Nat.lt_or_ge n j with htn | htn
      · go_wp2_with (go_at_call 101; refine cC.mono ?_; rintro e' w5 ⟨v5, rfl, b5, hb5⟩)
        go_ret2
        exact ⟨_, rfl, by rw [hB.out]; exact b5.down (by omega), hb1.trans ((hb.trans (hb5.mono hbs)).mono hb1s)⟩
      · have h2 : t < (j : Int) := by
          rcases Int.lt_or_le t (j : Int) with h | h
          · exact h
          · have := Hc.out.2 h; omega
        go_wp2_with (go_at_call 101; refine cC.mono ?_; rintro e' w5 ⟨v5, rfl, b5, hb5⟩)
        go_ret2
        exact ⟨_, rfl, by rw [hB.out]; exact b5.down (by omega), hb1.trans ((hb.trans (hb5.mono hbs)).mono hb1s)⟩

set_option maxHeartbeats 400000 in
theorem rBall_no (n t : Int) (w : World) (hn : n < 0 ∨ 512 < n) :
    Calls Tryd.prog 57 #[.int .i64 n, .int .i64 t] w fun e w' => e = .returned (.tuple #[.slice none 0 0, .int .i64 3]) ∧ w = w' := by
  rcases hn with h | h
  · go_enter Tryd.func57, Tryd.ntmps57
    go_wp2
    go_ret2
    exact ⟨rfl, rfl⟩
  · have h' : ¬ n < 0 := by omega
    go_enter Tryd.func57, Tryd.ntmps57
    go_wp2
    go_ret2
    exact ⟨rfl, rfl⟩

set_option maxHeartbeats 400000 in
theorem rCheck_any (A : Option Addr) (c : Nat) (l : List Nat) (w : World) :
    Calls Tryd.prog 102 #[.slice A l.length c] w fun e w' => e = .returned (.int .i64 (longE l)) ∧ w = w' := by
  go_enter Tryd.func102, Tryd.ntmps102
  go_wp2
  all_goals (go_ret; exact ⟨ret_int (by unfold longE; split <;> omega), rfl⟩)

theorem b8_pow2 (k : Nat) : 256 ^ k = 2 ^ (8 * k) := by rw [Nat.pow_mul]
theorem bitLen_dg {n k x : Nat} (hl : (dg n).length = k + 1) (hx : (dg n)[k]? = some x) : 0 < x ∧ x < 256 ∧ bitLen n = 8 * k + bitLen x := by
  have hv := dg_val n
  have hd : Dig 256 (dg n) := digB_dig b8 n
  have hx2 := hd.get hx
  have hsp := valB_snoc (b := 256) hx
  rw [List.take_of_length_le (by omega)] at hsp
  have hlo := valB_lt (hd.take k)
  rw [List.length_take, Nat.min_eq_left (by omega)] at hlo
  rw [b8_pow2] at hsp hlo
  have h0 : 0 < x := by
    rcases Nat.eq_zero_or_pos x with rfl | h
    · exfalso
      rw [Nat.mul_zero, Nat.add_zero] at hsp
      have : n < 256 ^ k := by rw [b8_pow2]; omega
      have := digB_len_le b8 this
      unfold dg at hl; omega
    · exact h
  refine ⟨h0, hx2, ?_⟩
  rw [← bitLen_high hlo h0, ← hsp, hv]

set_option maxRecDepth 100000 in
set_option maxHeartbeats 1000000 in
theorem rbits_any (A : Option Addr) (c : Nat) (n : Nat) (w : World) (hA : Dn w A c (dg n)) (hl : (dg n).length ≤ 1000000) :
    Calls Tryd.prog 103 #[.slice A (dg n).length c] w fun e w' => e = .returned (.int .i64 (bitLen n)) ∧ w = w' := by
  have h0 : dg n = [] → bitLen n = 0 := fun h => by
    have := dg_val n
    rw [h] at this
    rw [← this]; exact bitLen_zero
  have hbl := fun k x h1 h2 => bitLen_dg (n := n) (k := k) (x := x) h1 h2
  generalize dg n = L at *
  have Hbl := Lib.hid hbl; have H0 := Lib.hid h0
  clear hbl h0
  cases hk : L.length with
  | zero =>
    go_enter Tryd.func103, Tryd.ntmps103
    go_wp2
    go_ret
    exact ⟨ret_int (by rw [H0.out (List.eq_nil_of_length_eq_zero hk)]; rfl), rfl⟩
  | succ k =>
    obtain ⟨b, off, x, rfl, hb, hx, c0⟩ := hA.arr.dig (k := k) (by omega) (Below.refl _ _)
    obtain ⟨x0, x1, hE⟩ := Hbl.out k x hk hx.out
    have HE := Lib.hid hE
    have Hk := Lib.hid hk
    have e1 : (k : Int) + 1 - 1 = (k : Int) := by omega
    have hk1 : k ≤ 1000000 := by omega
    clear hE hk hx
    go_enter Tryd.func103, Tryd.ntmps103
    go_wp2
    go_loop [3, 4] (fun m y => ∃ a z : Nat, m = .int .i64 a ∧ y = .int .i64 z ∧ z ≤ x ∧ a + bitLen z = 8 * k + bitLen x ∧ a ≤ 8 * k + 256 ∧ a + z ≤ 8 * k + x) (fun _ y => (intOf y).toNat)
    case atStart => exact ⟨8 * k, x, by go_num, rfl, Nat.le_refl _, rfl, by omega, by omega⟩
    case round =>
      obtain ⟨a, z, rfl, rfl, hz, hs, ha, haz⟩ := hrel
      have Hs := Lib.hid hs
      clear hs
      rcases Nat.eq_zero_or_pos z with rfl | hz0
      · go_wp2
        go_ret
        exact ⟨ret_int (by rw [HE.out, ← Hs.out, bitLen_zero]; rfl), rfl⟩
      · obtain ⟨q, hq⟩ : ∃ q : Nat, (z : Int) / 2 = (q : Int) := ⟨z / 2, by omega⟩
        have hqe : Hid (q = z / 2) := Lib.hid (by omega)
        have hql : q < z := by omega
        have hbp := Lib.hid (bitLen_pos hz0)
        go_wp2
        go_round
        case rel => exact ⟨a + 1, q, by go_num, rfl, by omega, by have := Hs.out; rw [hbp.out, ← hqe.out] at this; omega, by omega, by omega⟩
        case measure => (simp [intOf] <;> omega)

set_option maxHeartbeats 1000000 in
theorem rBits_any (A : Option Addr) (c : Nat) (l : List Nat) (w : World) (hA : Nt w A c l) (hl : l.length ≤ 64) :
    Calls Tryd.prog 58 #[.slice A l.length c] w fun e w' => e = .returned (.tuple #[.int .i64 (bitLen (V l)), .int .i64 0]) ∧ Below w.heap.size w w' := by
  have hz : longE l = 0 := by unfold longE; rw [if_neg (by omega)]
  have cC := rCheck_any A c l w
  rw [hz] at cC
  have hv : V l < 2 ^ (32 * l.length) := V_lt hA.dig
  have lv : (dg (V l)).length ≤ 256 := dg_len (m := 32 * l.length) hv (by omega)
  go_enter Tryd.func58, Tryd.ntmps58
  go_wp2_with (first | (go_at_call 102; refine (cC).mono ?_; rintro e w' ⟨rfl, rfl⟩) | (go_at_call 104; refine (digits_any A c l _ hA (by omega)).mono ?_; rintro e w1 ⟨v1, rfl, d1, hb1⟩; obtain ⟨A1, c1, hv1, n1⟩ := d1.dn; rw [hv1]) | (go_at_call 103; refine (rbits_any A1 c1 _ _ n1 (by omega)).mono ?_; rintro e w' ⟨rfl, rfl⟩))
  go_ret2
  exact ⟨rfl, hb1⟩

end Go.Proofs.YtliekcfcdfakjaaDoor
