/- Plain: no shift has a greater agreement than the best one, and of those with the same one none comes first. No condition. -/
import Derived.Test.YteoaaphjbggobaaGreatAgr
namespace Go.Proofs.YteoaaphjbggobaaGreat
set_option linter.unusedVariables false
set_option linter.unusedSimpArgs false

/-- The place of a shift in the order 0, -1, 1, -2, 2, .. -/
def idx (x : Int) : Int := if x < 0 then -2 * x - 1 else 2 * x
theorem idx_sh (j : Nat) : idx (shAt j) = j + 1 := by unfold idx shAt; split <;> split <;> omega
theorem idx_inj {x y : Int} (h : idx x = idx y) : x = y := by unfold idx at h; split at h <;> split at h <;> omega

theorem best_inv (h : List Pls) (c : List Clk) : ∀ j : Nat, j ≤ 32 → idx (bestF h c (rs j)) ≤ j ∧ (∀ x, 0 ≤ idx x → idx x ≤ j → scS h c x ≤ scS h c (bestF h c (rs j))) ∧ (∀ x, 0 ≤ idx x → idx x < idx (bestF h c (rs j)) → scS h c x < scS h c (bestF h c (rs j)))
  | 0, _ => by
    have h0 : bestF h c (rs 0) = 0 := rfl
    rw [h0]
    refine ⟨by simp [idx], fun x hx hy => ?_, fun x hx hy => ?_⟩
    · obtain rfl : x = 0 := idx_inj (by simp [idx] at *; omega)
      exact Int.le_refl _
    · simp [idx] at hx hy; omega
  | j + 1, hj => by
    obtain ⟨i1, i2, i3⟩ := best_inv h c j (by omega)
    have hb := shAt_bd (j := j) (by omega)
    rw [rs, bestF_snoc, mkS_val hb]
    have hi := idx_sh j
    by_cases hlt : scS h c (bestF h c (rs j)) < scS h c (shAt j)
    · rw [if_pos hlt]
      refine ⟨by rw [hi]; omega, fun x hx hy => ?_, fun x hx hy => ?_⟩
      · by_cases he : idx x ≤ j
        · have := i2 x hx he; omega
        · obtain rfl : x = shAt j := idx_inj (by rw [hi]; omega)
          exact Int.le_refl _
      · have := i2 x hx (by rw [hi] at hy; omega); omega
    · rw [if_neg hlt]
      refine ⟨by omega, fun x hx hy => ?_, fun x hx hy => i3 x hx hy⟩
      by_cases he : idx x ≤ j
      · exact i2 x hx he
      · obtain rfl : x = shAt j := idx_inj (by rw [hi]; omega)
        omega

theorem best_most (h : List Pls) (c : List Clk) {x : Int} (h1 : -16 ≤ x) (h2 : x ≤ 16) : scS h c x ≤ scS h c (bestF h c (shTo 16)) := by
  rw [bestF_rs]
  exact (best_inv h c 32 (by omega)).2.1 x (by unfold idx; split <;> omega) (by unfold idx; split <;> omega)
theorem best_first (h : List Pls) (c : List Clk) {x : Int} (h1 : -16 ≤ x) (h2 : x ≤ 16) (e : scS h c x = scS h c (bestF h c (shTo 16))) :
    ¬ x * x < bestF h c (shTo 16) * bestF h c (shTo 16) ∧ ¬ (x = -bestF h c (shTo 16) ∧ x < 0) := by
  have hbd := bestF_bd h c (shTo 16)
  have h3 : ¬ idx x < idx (bestF h c (shTo 16)) := fun hlt => by
    rw [bestF_rs] at *
    have := (best_inv h c 32 (by omega)).2.2 x (by unfold idx; split <;> omega) hlt
    omega
  generalize bestF h c (shTo 16) = b at *
  have h4 : idx b ≤ idx x := by omega
  constructor
  · intro hlt
    have : b.natAbs ≤ x.natAbs := by unfold idx at h4; split at h4 <;> split at h4 <;> omega
    have h5 := Nat.mul_le_mul this this
    have e1 : x * x = ((x.natAbs * x.natAbs : Nat) : Int) := by rw [Int.natAbs_mul_self]
    have e2 : b * b = ((b.natAbs * b.natAbs : Nat) : Int) := by rw [Int.natAbs_mul_self]
    rw [e1, e2] at hlt
    omega
  · rintro ⟨rfl, hx⟩
    unfold idx at h4; split at h4 <;> (try split at h4) <;> omega
theorem sq_bd {x : Int} (h1 : -16 ≤ x) (h2 : x ≤ 16) : 0 ≤ x * x ∧ x * x ≤ 256 := by
  have e1 : x * x = ((x.natAbs * x.natAbs : Nat) : Int) := by rw [Int.natAbs_mul_self]
  have : x.natAbs ≤ 16 := by omega
  have h5 := Nat.mul_le_mul this this
  rw [e1]; omega

end Go.Proofs.YteoaaphjbggobaaGreat
