/- Contracts of Cost and Length, of distil and of the reference. For ints, and lists whose length is an int's. -/
import Derived.Test.YtfolgmcoggejbaaGreatLedAll
import Derived.Test.YtfolgmcoggejbaaGreatBallR
namespace Go.Proofs.YtfolgmcoggejbaaGreat
open Go.RowKit
set_option linter.unusedVariables false
set_option linter.unusedSimpArgs false

def costE (n : Int) : Int := if betwB n 0 512 = true then 0 else 3
def costI (n t : Int) : Int := if betwB n 0 512 = true then (bitLen (ballN n.toNat t) : Int) else 0
theorem cost_le {n : Nat} (t : Int) : bitLen (ballN n t) ≤ n + 1 := bitLen_le (Nat.lt_of_le_of_lt (ballN_le n t) (Nat.pow_lt_pow_right (by decide) (by omega)))
theorem betw_out {n a b : Int} (h : betwB n a b = false) : n < a ∨ b < n := by
  unfold betwB at h
  by_cases h1 : n < a
  · exact .inl h1
  · right; simp at h; omega
theorem betw_in {n a b : Int} (h : betwB n a b = true) : a ≤ n ∧ n ≤ b := by simpa [betwB] using h

set_option maxHeartbeats 1000000 in
theorem Cost_any (n t : Int) (w : World) (ht1 : -9223372036854775808 ≤ t) (ht2 : t ≤ 9223372036854775807) :
    Calls Tryz.prog 114 #[.int .i64 n, .int .i64 t] w fun e w' => e = .returned (.tuple #[.int .i64 (costI n t), .int .i64 (costE n)]) ∧ Below w.heap.size w w' := by
  cases hn : betwB n 0 512
  · have f1 : Hid (costI n t = 0 ∧ costE n = 3) := Lib.hid (by unfold costI costE; rw [hn]; simp)
    have cB := Ball_no n t w (betw_out hn)
    clear hn
    go_enter Tryz.func114, Tryz.ntmps114
    go_wp2_with (go_at_call 17; refine (cB).mono ?_; rintro e w' ⟨rfl, rfl⟩)
    go_ret2
    exact ⟨by rw [f1.out.1, f1.out.2]; rfl, Below.refl _ _⟩
  · obtain ⟨h0, h1⟩ := betw_in hn
    obtain ⟨n, rfl⟩ := Int.eq_ofNat_of_zero_le h0
    have f1 : Hid (costI n t = (bitLen (ballN n t) : Int) ∧ costE n = 0) := Lib.hid (by unfold costI costE; rw [hn]; simp)
    have l1 : (limbs (ballN n t)).length ≤ 17 := ball_len (ballM_le n t) (by omega)
    clear hn
    go_enter Tryz.func114, Tryz.ntmps114
    go_wp2_with (first
      | (go_at_call 17; refine (Ball_any n t _ (by omega) ht1 ht2).mono ?_; rintro e w1 ⟨v, rfl, b1, hb1⟩; obtain ⟨A1, c1, hv, n1⟩ := b1.nt; rw [hv])
      | (go_at_call 18; refine (Bits_any A1 c1 _ _ n1 (by omega)).mono ?_; rintro e w' ⟨rfl, rfl⟩))
    go_ret2
    exact ⟨by rw [f1.out.1, f1.out.2, V_limbs]; rfl, hb1⟩

def lenB (n t m : Int) : Bool := betwB n 0 512 && betwB t 0 512 && betwB m 0 512
def lenE (n t : Int) (l : List Itm) (m : Int) : Int := if lenB n t m = true then ledE l else 3
def lenV (n t : Int) (l : List Itm) (m : Int) : Int := if 0 ≤ n - costI n t - totE l - m then n - costI n t - totE l - m else 0
def lenI (n t : Int) (l : List Itm) (m : Int) : Int := if lenE n t l m = 0 then lenV n t l m else 0
theorem lenB_no {n t m : Int} (h : lenB n t m = false) : betwB n 0 512 = false ∨ (betwB n 0 512 = true ∧ betwB t 0 512 = false) ∨ (betwB n 0 512 = true ∧ betwB t 0 512 = true ∧ betwB m 0 512 = false) := by
  unfold lenB at h
  cases h1 : betwB n 0 512 <;> cases h2 : betwB t 0 512 <;> cases h3 : betwB m 0 512 <;> simp_all
theorem lenB_yes {n t m : Int} (h : lenB n t m = true) : betwB n 0 512 = true ∧ betwB t 0 512 = true ∧ betwB m 0 512 = true := by
  unfold lenB at h
  cases h1 : betwB n 0 512 <;> cases h2 : betwB t 0 512 <;> cases h3 : betwB m 0 512 <;> simp_all
theorem totE_bound {l : List Itm} (h : ledE l = 0) : 0 ≤ totE l ∧ totE l ≤ 65536000 := by
  obtain ⟨h1, h2⟩ := ledE_zero.1 h
  have := sumBy_bound (fun _ => true) h2
  unfold totE; rw [if_pos h]; omega

theorem len_no {n t : Int} {l : List Itm} {m : Int} (h : lenB n t m = false) : lenI n t l m = 0 ∧ lenE n t l m = 3 := by
  have : lenE n t l m = 3 := by unfold lenE; rw [if_neg (by simp [h])]
  exact ⟨by unfold lenI; rw [this]; rfl, this⟩
theorem len_yes {n t : Int} {l : List Itm} {m : Int} (h : lenB n t m = true) (h0 : ledE l = 0) : lenE n t l m = 0 ∧ lenI n t l m = lenV n t l m ∧ ledE l = 0 := by
  have : lenE n t l m = 0 := by unfold lenE; rw [if_pos h, h0]
  exact ⟨this, by unfold lenI; rw [if_pos this], h0⟩
theorem len_led {n t : Int} {l : List Itm} {m : Int} (h : lenB n t m = true) (h0 : ledE l ≠ 0) : lenE n t l m = ledE l ∧ lenI n t l m = 0 := by
  have : lenE n t l m = ledE l := by unfold lenE; rw [if_pos h]
  exact ⟨this, by unfold lenI; rw [this, if_neg h0]⟩
theorem costI_bound {n : Int} (t : Int) (h : betwB n 0 512 = true) : 0 ≤ costI n t ∧ costI n t ≤ 513 := by
  obtain ⟨h0, h1⟩ := betw_in h
  obtain ⟨n, rfl⟩ := Int.eq_ofNat_of_zero_le h0
  unfold costI
  rw [if_pos h]
  have := cost_le (n := n) t
  simp only [Int.ofNat_eq_natCast, Int.toNat_natCast] at *
  omega

def LenRel (n t m : Int) (k : Nat) : Prop := (1 ≤ k → betwB n 0 512 = true) ∧ (2 ≤ k → betwB t 0 512 = true) ∧ (3 ≤ k → betwB m 0 512 = true)
set_option maxRecDepth 100000 in
set_option maxHeartbeats 2000000 in
theorem Length_any (n t : Int) (A : Option Addr) (c : Nat) (l : List Itm) (m : Int) (w : World) (h : Arr 2 Itm.enc w w.heap.size A l) (hl : l.length ≤ 4611686018427387904) :
    Calls Tryz.prog 52 #[.int .i64 n, .int .i64 t, .slice A l.length c, .int .i64 m] w fun e w' => e = .returned (.tuple #[.int .i64 (lenI n t l m), .int .i64 (lenE n t l m)]) ∧ Below w.heap.size w w' := by
  have x0 : (Instr.index 63 (.agg #[.int .i64 n, .int .i64 t, .int .i64 m]) (.int .i64 0)).run Tryz.prog w = .ok (.int .i64 n) w := by kernel_rfl
  have x1 : (Instr.index 63 (.agg #[.int .i64 n, .int .i64 t, .int .i64 m]) (.int .i64 1)).run Tryz.prog w = .ok (.int .i64 t) w := by kernel_rfl
  have x2 : (Instr.index 63 (.agg #[.int .i64 n, .int .i64 t, .int .i64 m]) (.int .i64 2)).run Tryz.prog w = .ok (.int .i64 m) w := by kernel_rfl
  go_enter Tryz.func52, Tryz.ntmps52
  go_wp2
  go_loop [19] (fun i => ∃ k : Nat, k ≤ 3 ∧ i = .int .i64 k ∧ LenRel n t m k) (fun i => 3 - (intOf i).toNat)
  case atStart => exact ⟨0, by omega, rfl, fun h => by omega, fun h => by omega, fun h => by omega⟩
  case round =>
    obtain ⟨k, hk, rfl, h1, h2, h3⟩ := hrel
    have h1 : 1 ≤ k → Hid (betwB n 0 512 = true) := fun h => Lib.hid (h1 h)
    have h2 : 2 ≤ k → Hid (betwB t 0 512 = true) := fun h => Lib.hid (h2 h)
    have h3 : 3 ≤ k → Hid (betwB m 0 512 = true) := fun h => Lib.hid (h3 h)
    rcases (show k = 0 ∨ k = 1 ∨ k = 2 ∨ k = 3 by omega) with rfl | rfl | rfl | rfl
    · clear h1 h2 h3
      cases hx : betwB n 0 512
      · have X := Lib.hid hx
        have fin : Hid (lenI n t l m = 0 ∧ lenE n t l m = 3) := Lib.hid (len_no (by simp [lenB, hx]))
        clear hx
        go_wp2_with (go_at_call 50; refine (dbetween_any _ _ _ _).mono ?_; rintro e w' ⟨rfl, rfl⟩; rw [X.out])
        go_ret2
        exact ⟨by rw [fin.out.1, fin.out.2]; rfl, Below.refl _ _⟩
      · have X := Lib.hid hx
        clear hx
        go_wp2_with (go_at_call 50; refine (dbetween_any _ _ _ _).mono ?_; rintro e w' ⟨rfl, rfl⟩; rw [X.out])
        go_round
        case rel => exact ⟨1, by omega, rfl, fun _ => X.out, fun h => by omega, fun h => by omega⟩
        case measure => (simp [intOf] <;> omega)
    · have H1 := h1 (by omega)
      clear h1 h2 h3
      cases hx : betwB t 0 512
      · have X := Lib.hid hx
        have fin : Hid (lenI n t l m = 0 ∧ lenE n t l m = 3) := Lib.hid (len_no (by simp [lenB, hx]))
        clear hx
        go_wp2_with (go_at_call 50; refine (dbetween_any _ _ _ _).mono ?_; rintro e w' ⟨rfl, rfl⟩; rw [X.out])
        go_ret2
        exact ⟨by rw [fin.out.1, fin.out.2]; rfl, Below.refl _ _⟩
      · have X := Lib.hid hx
        clear hx
        go_wp2_with (go_at_call 50; refine (dbetween_any _ _ _ _).mono ?_; rintro e w' ⟨rfl, rfl⟩; rw [X.out])
        go_round
        case rel => exact ⟨2, by omega, rfl, fun _ => H1.out, fun _ => X.out, fun h => by omega⟩
        case measure => (simp [intOf] <;> omega)
    · have H1 := h1 (by omega)
      have H2 := h2 (by omega)
      clear h1 h2 h3
      cases hx : betwB m 0 512
      · have X := Lib.hid hx
        have fin : Hid (lenI n t l m = 0 ∧ lenE n t l m = 3) := Lib.hid (len_no (by simp [lenB, hx]))
        clear hx
        go_wp2_with (go_at_call 50; refine (dbetween_any _ _ _ _).mono ?_; rintro e w' ⟨rfl, rfl⟩; rw [X.out])
        go_ret2
        exact ⟨by rw [fin.out.1, fin.out.2]; rfl, Below.refl _ _⟩
      · have X := Lib.hid hx
        clear hx
        go_wp2_with (go_at_call 50; refine (dbetween_any _ _ _ _).mono ?_; rintro e w' ⟨rfl, rfl⟩; rw [X.out])
        go_round
        case rel => exact ⟨3, by omega, rfl, fun _ => H1.out, fun _ => H2.out, fun _ => X.out⟩
        case measure => (simp [intOf] <;> omega)
    · have H1 := h1 (by omega)
      have H2 := h2 (by omega)
      have H3 := h3 (by omega)
      clear h1 h2 h3
      obtain ⟨n0, n1⟩ := betw_in H1.out
      obtain ⟨t0, t1⟩ := betw_in H2.out
      obtain ⟨m0, m1⟩ := betw_in H3.out
      have HB : Hid (lenB n t m = true) := Lib.hid (by simp [lenB, H1.out, H2.out, H3.out])
      by_cases h0 : ledE l = 0
      · have f1 : Hid (lenE n t l m = 0 ∧ lenI n t l m = lenV n t l m ∧ ledE l = 0) := Lib.hid (len_yes HB.out h0)
        have cT := Total_any A c l w h hl
        rw [h0] at cT
        obtain ⟨tb0, tb1⟩ := totE_bound h0
        have cC := fun w' => Cost_any n t w' (by omega) (by omega)
        have f2 : Hid (costE n = 0) := Lib.hid (by unfold costE; rw [H1.out]; rfl)
        obtain ⟨k0, k1⟩ := costI_bound t H1.out
        simp only [f2.out] at cC
        obtain ⟨T, hT⟩ : ∃ T, totE l = T := ⟨_, rfl⟩
        obtain ⟨C, hC⟩ : ∃ C, costI n t = C := ⟨_, rfl⟩
        rw [hT] at cT tb0 tb1
        simp only [hC] at cC k0 k1
        have f3 : Hid (lenV n t l m = if 0 ≤ n - C - T - m then n - C - T - m else 0) := Lib.hid (by unfold lenV; rw [hT, hC])
        clear hT hC h0
        by_cases hm : 0 < n - C - T - m
        · have f4 : Hid (lenI n t l m = n - C - T - m) := Lib.hid (by rw [f1.out.2.1, f3.out, if_pos (by omega)])
          go_wp2_with (first
            | (go_at_call 113; refine cT.mono ?_; rintro e w1 ⟨rfl, hb1⟩)
            | (go_at_call 114; refine (cC _).mono ?_; rintro e w2 ⟨rfl, hb2⟩))
          go_ret2
          exact ⟨by rw [f1.out.1, f4.out]; rfl, below_trans hb1 hb2⟩
        · have f4 : Hid (lenI n t l m = 0) := Lib.hid (by rw [f1.out.2.1, f3.out]; split <;> omega)
          have hm' : n - C - T - m ≤ 0 := by omega
          go_wp2_with (first
            | (go_at_call 113; refine cT.mono ?_; rintro e w1 ⟨rfl, hb1⟩)
            | (go_at_call 114; refine (cC _).mono ?_; rintro e w2 ⟨rfl, hb2⟩))
          go_ret2
          exact ⟨by rw [f1.out.1, f4.out]; rfl, below_trans hb1 hb2⟩
      · have f1 : Hid (lenE n t l m = ledE l ∧ lenI n t l m = 0) := Lib.hid (len_led HB.out h0)
        have cT := Total_any A c l w h hl
        have h0' : (ledE l != 0) = true := by simpa using h0
        clear h0
        go_wp2_with (go_at_call 113; refine cT.mono ?_; rintro e w1 ⟨rfl, hb1⟩)
        go_ret2
        exact ⟨by rw [f1.out.1, f1.out.2]; rfl, hb1⟩

end Go.Proofs.YtfolgmcoggejbaaGreat
