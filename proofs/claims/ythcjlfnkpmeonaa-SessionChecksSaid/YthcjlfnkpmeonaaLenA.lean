/- Contracts of Cost and Length, of distil and of the reference. For ints, and lists whose length is an int's. -/
import Derived.Test.YthcjlfnkpmeonaaLedAll
import Derived.Test.YthcjlfnkpmeonaaBallR
namespace Go.Proofs.Ythcjlfnkpmeonaa
open Go.RowKit
set_option linter.unusedVariables false
set_option linter.unusedSimpArgs false

def costE (n : Int) : Int := if betwB n 0 512 = true then 0 else 3
def costI (n t : Int) : Int := if betwB n 0 512 = true then (bitLen (ballN n.toNat t) : Int) else 0
theorem cost_le {n : Nat} (t : Int) : bitLen (ballN n t) ≤ n + 1 := bitLen_le (Nat.lt_of_le_of_lt (ballN_le n t) (Nat.pow_lt_pow_right (by decide) (by omega)))
theorem betw_out {n a b : Int} (h : betwB n a b = false) : n < a ∨ b < n := by
  unfold betwB at h
  by_cases h1 : n < a
  · exact .inl h1
  · right; simp at h; omega
theorem betw_in {n a b : Int} (h : betwB n a b = true) : a ≤ n ∧ n ≤ b := by simpa [betwB] using h

def lenB (n t m : Int) : Bool := betwB n 0 512 && betwB t 0 512 && betwB m 0 512
def lenE (n t : Int) (l : List Itm) (m : Int) : Int := if lenB n t m = true then ledE l else 3
def lenV (n t : Int) (l : List Itm) (m : Int) : Int := if 0 ≤ n - costI n t - totE l - m then n - costI n t - totE l - m else 0
def lenI (n t : Int) (l : List Itm) (m : Int) : Int := if lenE n t l m = 0 then lenV n t l m else 0
theorem lenB_no {n t m : Int} (h : lenB n t m = false) : betwB n 0 512 = false ∨ (betwB n 0 512 = true ∧ betwB t 0 512 = false) ∨ (betwB n 0 512 = true ∧ betwB t 0 512 = true ∧ betwB m 0 512 = false) := by
  unfold lenB at h
  cases h1 : betwB n 0 512 <;> cases h2 : betwB t 0 512 <;> cases h3 : betwB m 0 512 <;> simp_all
theorem lenB_yes {n t m : Int} (h : lenB n t m = true) : betwB n 0 512 = true ∧ betwB t 0 512 = true ∧ betwB m 0 512 = true := by
  unfold lenB at h
  cases h1 : betwB n 0 512 <;> cases h2 : betwB t 0 512 <;> cases h3 : betwB m 0 512 <;> simp_all
theorem totE_bound {l : List Itm} (h : ledE l = 0) : 0 ≤ totE l ∧ totE l ≤ 65536000 := by
  obtain ⟨h1, h2⟩ := ledE_zero.1 h
  have := sumBy_bound (fun _ => true) h2
  unfold totE; rw [if_pos h]; omega

theorem len_no {n t : Int} {l : List Itm} {m : Int} (h : lenB n t m = false) : lenI n t l m = 0 ∧ lenE n t l m = 3 := by
  have : lenE n t l m = 3 := by unfold lenE; rw [if_neg (by simp [h])]
  exact ⟨by unfold lenI; rw [this]; rfl, this⟩
theorem len_yes {n t : Int} {l : List Itm} {m : Int} (h : lenB n t m = true) (h0 : ledE l = 0) : lenE n t l m = 0 ∧ lenI n t l m = lenV n t l m ∧ ledE l = 0 := by
  have : lenE n t l m = 0 := by unfold lenE; rw [if_pos h, h0]
  exact ⟨this, by unfold lenI; rw [if_pos this], h0⟩
theorem len_led {n t : Int} {l : List Itm} {m : Int} (h : lenB n t m = true) (h0 : ledE l ≠ 0) : lenE n t l m = ledE l ∧ lenI n t l m = 0 := by
  have : lenE n t l m = ledE l := by unfold lenE; rw [if_pos h]
  exact ⟨this, by unfold lenI; rw [this, if_neg h0]⟩
theorem costI_bound {n : Int} (t : Int) (h : betwB n 0 512 = true) : 0 ≤ costI n t ∧ costI n t ≤ 513 := by
  obtain ⟨h0, h1⟩ := betw_in h
  obtain ⟨n, rfl⟩ := Int.eq_ofNat_of_zero_le h0
  unfold costI
  rw [if_pos h]
  have := cost_le (n := n) t
  simp only [Int.ofNat_eq_natCast, Int.toNat_natCast] at *
  omega

def LenRel (n t m : Int) (k : Nat) : Prop := (1 ≤ k → betwB n 0 512 = true) ∧ (2 ≤ k → betwB t 0 512 = true) ∧ (3 ≤ k → betwB m 0 512 = true)
end Go.Proofs.Ythcjlfnkpmeonaa
