/- Plain laws of the greatest common divisor: halves, differences, reduced fractions. No condition. -/
import Derived.Test.YtbobbcfjjdmdgaaNumAll
namespace Go.Proofs.Ytbobbcfjjdmdgaa
open Go.RowKit

theorem gcd_both {a b : Nat} (ha : a % 2 = 0) (hb : b % 2 = 0) : Nat.gcd a b = 2 * Nat.gcd (a / 2) (b / 2) := by
  rw [← Nat.gcd_mul_left]
  congr 1 <;> omega
theorem gcd_odd {a b : Nat} (h : ¬ (a % 2 = 0 ∧ b % 2 = 0)) : Nat.gcd a b % 2 = 1 := by
  refine Classical.byContradiction fun hc => h ?_
  have h2 : 2 ∣ Nat.gcd a b := Nat.dvd_of_mod_eq_zero (by omega)
  exact ⟨Nat.mod_eq_zero_of_dvd (Nat.dvd_trans h2 (Nat.gcd_dvd_left _ _)), Nat.mod_eq_zero_of_dvd (Nat.dvd_trans h2 (Nat.gcd_dvd_right _ _))⟩
theorem cop_two {b : Nat} (h : b % 2 = 1) : Nat.Coprime 2 b := by
  unfold Nat.Coprime
  rw [Nat.gcd_rec, h, Nat.gcd_one_left]
theorem gcd_halfl {a b : Nat} (ho : Nat.gcd a b % 2 = 1) (ha : a % 2 = 0) : Nat.gcd (a / 2) b = Nat.gcd a b := by
  have hb : b % 2 = 1 := by
    refine Classical.byContradiction fun hc => ?_
    rw [gcd_both ha (by omega)] at ho
    omega
  have e : a = 2 * (a / 2) := by omega
  have := (cop_two hb).gcd_mul_left_cancel (a / 2)
  rw [← e] at this
  exact this.symm
theorem gcd_halfr {a b : Nat} (ho : Nat.gcd a b % 2 = 1) (hb : b % 2 = 0) : Nat.gcd a (b / 2) = Nat.gcd a b := by
  rw [Nat.gcd_comm a b] at ho ⊢
  rw [Nat.gcd_comm a]
  exact gcd_halfl ho hb
theorem gcd_minus {a b : Nat} (h : b ≤ a) : Nat.gcd (a - b) b = Nat.gcd a b := Nat.gcd_sub_self_left h
theorem cop_cross {x y u v : Nat} (h1 : Nat.Coprime x y) (h2 : Nat.Coprime u v) (h : x * v = u * y) : x = u ∧ y = v := by
  refine ⟨Nat.dvd_antisymm ?_ ?_, Nat.dvd_antisymm ?_ ?_⟩
  · exact h1.dvd_of_dvd_mul_right (m := u) (by rw [← h]; exact Nat.dvd_mul_right _ _)
  · exact h2.dvd_of_dvd_mul_right (m := x) (by rw [h]; exact Nat.dvd_mul_right _ _)
  · exact h1.symm.dvd_of_dvd_mul_left (m := x) (by rw [h]; exact Nat.dvd_mul_left _ _)
  · exact h2.symm.dvd_of_dvd_mul_left (m := u) (by rw [← h]; exact Nat.dvd_mul_left _ _)
/-- Numerator and denominator of a reduced fraction. -/
def rdN (a b : Nat) : Nat := a / Nat.gcd a b
def rdD (a b : Nat) : Nat := b / Nat.gcd a b
theorem rd_spec {a b : Nat} (hb : 0 < b) : 0 < Nat.gcd a b ∧ a = Nat.gcd a b * rdN a b ∧ b = Nat.gcd a b * rdD a b ∧ Nat.Coprime (rdN a b) (rdD a b) ∧ 0 < rdD a b := by
  have g1 : 0 < Nat.gcd a b := Nat.gcd_pos_of_pos_right _ hb
  refine ⟨g1, (Nat.mul_div_cancel' (Nat.gcd_dvd_left a b)).symm, (Nat.mul_div_cancel' (Nat.gcd_dvd_right a b)).symm, Nat.coprime_div_gcd_div_gcd g1, Nat.div_pos (Nat.le_of_dvd hb (Nat.gcd_dvd_right a b)) g1⟩
theorem rd_le (a b : Nat) : rdN a b ≤ a ∧ rdD a b ≤ b := ⟨Nat.div_le_self _ _, Nat.div_le_self _ _⟩
theorem rd_cross {a b : Nat} (hb : 0 < b) : rdN a b * b = a * rdD a b := by
  obtain ⟨_, e1, e2, _⟩ := rd_spec (a := a) hb
  generalize Nat.gcd a b = g at *
  generalize rdN a b = x at *
  generalize rdD a b = y at *
  subst e1 e2
  rw [← Nat.mul_assoc, Nat.mul_comm x g]
theorem rd_eq {a b c d : Nat} (hb : 0 < b) (hd : 0 < d) (h : a * d = c * b) : rdN a b = rdN c d ∧ rdD a b = rdD c d := by
  obtain ⟨p1, e1, e2, k1, _⟩ := rd_spec (a := a) hb
  obtain ⟨p2, e3, e4, k2, _⟩ := rd_spec (a := c) hd
  generalize Nat.gcd a b = g at *
  generalize Nat.gcd c d = k at *
  generalize rdN a b = x at *
  generalize rdD a b = y at *
  generalize rdN c d = u at *
  generalize rdD c d = v at *
  refine cop_cross k1 k2 ?_
  rw [e1, e2, e3, e4] at h
  have h2 : g * k * (x * v) = g * k * (u * y) := by
    have l1 : g * x * (k * v) = g * k * (x * v) := Nat.mul_mul_mul_comm _ _ _ _
    have l2 : k * u * (g * y) = k * g * (u * y) := Nat.mul_mul_mul_comm _ _ _ _
    rw [← l1, h, l2, Nat.mul_comm k g]
  exact Nat.eq_of_mul_eq_mul_left (Nat.mul_pos p1 p2) h2
theorem rd_zero {d : Nat} (hd : 0 < d) : rdN 0 d = 0 ∧ rdD 0 d = 1 := by
  unfold rdN rdD
  rw [Nat.gcd_zero_left, Nat.zero_div, Nat.div_self hd]
  exact ⟨rfl, rfl⟩
theorem rd_one {d : Nat} (hd : 0 < d) : rdN d d = 1 ∧ rdD d d = 1 := by
  unfold rdN rdD
  rw [Nat.gcd_self, Nat.div_self hd]
  exact ⟨rfl, rfl⟩
/-- One step of the reference's way to the divisor. -/
theorem gcd_next {a b : Nat} : Nat.gcd b (a % b) = Nat.gcd a b := by
  rw [Nat.gcd_comm b, ← Nat.gcd_rec, Nat.gcd_comm]

end Go.Proofs.Ytbobbcfjjdmdgaa
