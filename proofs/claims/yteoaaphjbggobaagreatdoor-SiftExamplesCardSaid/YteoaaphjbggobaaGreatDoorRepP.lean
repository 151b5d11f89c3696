/- Plain laws of fractions over one denominator. No condition. -/
import Derived.Test.YteoaaphjbggobaaGreatDoorGcdAll
namespace Go.Proofs.YteoaaphjbggobaaGreatDoor

/-- A/B is x/T. -/
def Rep (A B x T : Nat) : Prop := 0 < B ∧ A * T = x * B
theorem Rep.rd {A B x T : Nat} (h : Rep A B x T) (hT : 0 < T) : rdN A B = rdN x T ∧ rdD A B = rdD x T := rd_eq h.1 hT h.2
theorem rep_rd {x T : Nat} (hT : 0 < T) : Rep (rdN x T) (rdD x T) x T := ⟨(rd_spec hT).2.2.2.2, rd_cross hT⟩
theorem Rep.add {A B C D x y T : Nat} (h : Rep A B x T) (k : Rep C D y T) : Rep (A * D + C * B) (B * D) (x + y) T := by
  refine ⟨Nat.mul_pos h.1 k.1, ?_⟩
  have e1 : A * D * T = x * (B * D) := by rw [Nat.mul_right_comm, h.2, Nat.mul_assoc]
  have e2 : C * B * T = y * (B * D) := by rw [Nat.mul_right_comm, k.2, Nat.mul_assoc, Nat.mul_comm D]
  rw [Nat.add_mul, Nat.add_mul, e1, e2]
theorem Rep.cross {A B C D x y T : Nat} (h : Rep A B x T) (k : Rep C D y T) : A * D * T = x * (B * D) ∧ C * B * T = y * (B * D) :=
  ⟨by rw [Nat.mul_right_comm, h.2, Nat.mul_assoc], by rw [Nat.mul_right_comm, k.2, Nat.mul_assoc, Nat.mul_comm D]⟩
theorem Rep.sub {A B C D x y T : Nat} (h : Rep A B x T) (k : Rep C D y T) : Rep (A * D - C * B) (B * D) (x - y) T := by
  obtain ⟨e1, e2⟩ := h.cross k
  refine ⟨Nat.mul_pos h.1 k.1, ?_⟩
  rw [Nat.sub_mul, Nat.sub_mul, e1, e2]
theorem Rep.le {A B C D x y T : Nat} (h : Rep A B x T) (k : Rep C D y T) (hT : 0 < T) : C * B ≤ A * D ↔ y ≤ x := by
  obtain ⟨e1, e2⟩ := h.cross k
  have hp : 0 < B * D := Nat.mul_pos h.1 k.1
  constructor
  · intro hh
    have := Nat.mul_le_mul_right T hh
    rw [e1, e2] at this
    exact Nat.le_of_mul_le_mul_right this hp
  · intro hh
    have := Nat.mul_le_mul_right (B * D) hh
    rw [← e1, ← e2] at this
    exact Nat.le_of_mul_le_mul_right this hT
theorem Rep.div {A B x T d : Nat} (h : Rep A B x T) (hd : 0 < d) : Rep (A * 1) (B * d) x (T * d) := by
  refine ⟨Nat.mul_pos h.1 hd, ?_⟩
  rw [Nat.mul_one, ← Nat.mul_assoc, h.2, Nat.mul_assoc]
/-- by * n / d, over T = d * t. -/
theorem rep_term {by' n d t T : Nat} (hd : 0 < d) (hT : d * t = T) : Rep (by' * n) d (by' * n * t) T := by
  refine ⟨hd, ?_⟩
  rw [← hT, Nat.mul_comm d t, Nat.mul_assoc (by' * n) t d]
theorem rep_bound {A B x T : Nat} (h : Rep A B x T) (hT : 0 < T) : rdN A B ≤ x ∧ rdD A B ≤ T := by
  rw [(h.rd hT).1, (h.rd hT).2]
  exact rd_le x T
/-- The reduced fraction of a fraction brought into the range from 0 to 1. -/
theorem rep_top {A B x T : Nat} (h : Rep A B x T) (hT : 0 < T) : (B < A ↔ T < x) := by
  obtain ⟨hB, e⟩ := h
  constructor
  · intro hh
    refine Nat.lt_of_not_le fun hx => ?_
    have h1 : x * B ≤ T * B := Nat.mul_le_mul_right B hx
    have h2 : B * T < A * T := Nat.mul_lt_mul_of_pos_right hh hT
    rw [e, Nat.mul_comm B T] at h2
    omega
  · intro hh
    refine Nat.lt_of_not_le fun hx => ?_
    have h1 : A * T ≤ B * T := Nat.mul_le_mul_right T hx
    have h2 : T * B < x * B := Nat.mul_lt_mul_of_pos_right hh hB
    rw [e, Nat.mul_comm B T] at h1
    omega

end Go.Proofs.YteoaaphjbggobaaGreatDoor
