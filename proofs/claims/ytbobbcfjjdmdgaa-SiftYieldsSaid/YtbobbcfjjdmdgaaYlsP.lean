/- Plain laws of decoy states: the yield is not above, the faults are not below what the eavesdropper did. For suited arrangements. -/
import Derived.Test.YtbobbcfjjdmdgaaSngD
namespace Go.Proofs.Ytbobbcfjjdmdgaa
open Go.RowKit
set_option linter.unusedVariables false
set_option linter.unusedSimpArgs false

def row4S (p0 p1 p2 p3 y0 y1 y2 y3 : Int) : Int := p0 * y0 + p1 * y1 + p2 * y2 + p3 * y3
theorem row_mono {p0 p1 p2 p3 y0 y1 y2 y3 z0 z1 z2 z3 : Int} (h : wtB [p0, p1, p2, p3] = true) (h0 : y0 ≤ z0) (h1 : y1 ≤ z1) (h2 : y2 ≤ z2) (h3 : y3 ≤ z3) : row4S p0 p1 p2 p3 y0 y1 y2 y3 ≤ row4S p0 p1 p2 p3 z0 z1 z2 z3 := by
  obtain ⟨q0, q1, q2, q3, _⟩ := wt_parts h
  have a0 := Int.mul_le_mul_of_nonneg_left h0 q0.1
  have a1 := Int.mul_le_mul_of_nonneg_left h1 q1.1
  have a2 := Int.mul_le_mul_of_nonneg_left h2 q2.1
  have a3 := Int.mul_le_mul_of_nonneg_left h3 q3.1
  unfold row4S
  omega
theorem row_all {p0 p1 p2 p3 m : Int} (h : wtB [p0, p1, p2, p3] = true) : row4S p0 p1 p2 p3 m m m m = 256 * m := by
  obtain ⟨_, _, _, _, hs⟩ := wt_parts h
  have e : row4S p0 p1 p2 p3 m m m m = (p0 + p1 + p2 + p3) * m := by unfold row4S; grind
  rw [e, hs]
theorem row_zero {p0 p1 p2 p3 : Int} : row4S p0 p1 p2 p3 0 0 0 0 = 0 := by unfold row4S; simp
/-- Kept and wrong of so many. -/
structure Ev where
  m : Nat
  y0 : Nat
  y1 : Nat
  y2 : Nat
  y3 : Nat
  x0 : Nat
  x1 : Nat
  x2 : Nat
  x3 : Nat
structure Ev.Ok (e : Ev) : Prop where
  m0 : 0 < e.m
  m1 : e.m ≤ 16
  k0 : e.y0 ≤ e.m
  k1 : e.y1 ≤ e.m
  k2 : e.y2 ≤ e.m
  k3 : e.y3 ≤ e.m
  j0 : e.x0 ≤ e.y0
  j1 : e.x1 ≤ e.y1
  j2 : e.x2 ≤ e.y2
  j3 : e.x3 ≤ e.y3
def evG (o : Opt) (e : Ev) : Gn :=
  ⟨256 * e.m, row4S o.v0 o.v1 o.v2 o.v3 e.y0 e.y1 e.y2 e.y3, row4S o.v0 o.v1 o.v2 o.v3 e.x0 e.x1 e.x2 e.x3, 256 * e.m, row4S o.w0 o.w1 o.w2 o.w3 e.y0 e.y1 e.y2 e.y3, row4S o.w0 o.w1 o.w2 o.w3 e.x0 e.x1 e.x2 e.x3, 256 * e.m, row4S o.s0 o.s1 o.s2 o.s3 e.y0 e.y1 e.y2 e.y3, row4S o.s0 o.s1 o.s2 o.s3 e.x0 e.x1 e.x2 e.x3⟩
theorem suit_parts {o : Opt} (h2 : suitE o = 0) : optE o = 0 ∧ 0 < o.s2 * o.w1 - o.w2 * o.s1 ∧ o.s2 * o.w3 ≤ o.w2 * o.s3 := by
  unfold suitE at h2
  have h3 : optE o = 0 := by
    by_cases hs : optE o = 0
    · exact hs
    · rw [if_pos hs] at h2; exact absurd h2 hs
  rw [if_neg (by simp [h3])] at h2
  split at h2
  · exact absurd h2 (by decide)
  · split at h2
    · exact absurd h2 (by decide)
    · rename_i hn
      exact ⟨h3, by omega, by omega⟩
theorem dull_row {o : Opt} (h : optE o = 0) : o.v0 = 256 ∧ o.v1 = 0 ∧ o.v2 = 0 ∧ o.v3 = 0 := by
  unfold optE at h
  split at h
  · rename_i hb
    unfold optB dullB at hb
    simp at hb
    exact hb.2.1
  · exact absurd h (by decide)
theorem ev_row {p0 p1 p2 p3 : Int} {e : Ev} (he : e.Ok) (h : wtB [p0, p1, p2, p3] = true) : okG (256 * e.m) (row4S p0 p1 p2 p3 e.y0 e.y1 e.y2 e.y3) (row4S p0 p1 p2 p3 e.x0 e.x1 e.x2 e.x3) := by
  obtain ⟨m0, m1, k0, k1, k2, k3, j0, j1, j2, j3⟩ := he
  have a1 : 0 ≤ row4S p0 p1 p2 p3 e.x0 e.x1 e.x2 e.x3 := by rw [← row_zero (p0 := p0) (p1 := p1) (p2 := p2) (p3 := p3)]; exact row_mono h (by omega) (by omega) (by omega) (by omega)
  have a2 : row4S p0 p1 p2 p3 e.x0 e.x1 e.x2 e.x3 ≤ row4S p0 p1 p2 p3 e.y0 e.y1 e.y2 e.y3 := row_mono h (by omega) (by omega) (by omega) (by omega)
  have a3 : row4S p0 p1 p2 p3 e.y0 e.y1 e.y2 e.y3 ≤ 256 * (e.m : Int) := by rw [← row_all h]; exact row_mono h (by omega) (by omega) (by omega) (by omega)
  exact ⟨a1, a2, a3, by omega⟩
theorem ev_gains {o : Opt} {e : Ev} (he : e.Ok) (hs : suitE o = 0) : gainsE o (evG o e) = 0 := by
  obtain ⟨oE, _, _⟩ := suit_parts hs
  obtain ⟨r1, r2, r3⟩ := opt_rows oE
  have m0 := he.m0
  unfold gainsE
  rw [if_neg (by simp [hs]), if_neg, if_neg]
  · intro h
    refine h ⟨?_, ?_, ?_⟩ <;> (show (256 : Int) * (e.m : Int) ≠ 0; omega)
  · intro h
    exact h ⟨ev_row he r1, ev_row he r2, ev_row he r3⟩
/-- A fraction below another one, reduced. -/
theorem rd_below {b D y m : Nat} (hD : 0 < D) (h : b * m ≤ y * D) : rdN b D * m ≤ y * rdD b D := by
  have e := rd_cross (a := b) hD
  refine Nat.le_of_mul_le_mul_right (c := D) ?_ hD
  rw [Nat.mul_right_comm, e, Nat.mul_right_comm b, Nat.mul_right_comm y]
  exact Nat.mul_le_mul_right _ h
theorem rd_above {b D y m : Nat} (hD : 0 < D) (h : y * D ≤ b * m) : y * rdD b D ≤ rdN b D * m := by
  have e := rd_cross (a := b) hD
  refine Nat.le_of_mul_le_mul_right (c := D) ?_ hD
  rw [Nat.mul_right_comm (rdN b D), e, Nat.mul_right_comm b, Nat.mul_right_comm y]
  exact Nat.mul_le_mul_right _ h
theorem yield_below {o : Opt} {e : Ev} (he : e.Ok) (hs : suitE o = 0) : brN 0 (yNum o (evG o e)) (yDen o (evG o e)) * e.m ≤ e.y1 * brD 0 (yNum o (evG o e)) (yDen o (evG o e)) := by
  obtain ⟨oE, pos, neg⟩ := suit_parts hs
  obtain ⟨v0, v1, v2, v3⟩ := dull_row oE
  obtain ⟨hD, _⟩ := yden_small (ev_gains he hs)
  have dI : ((yDen o (evG o e)).toNat : Int) = yDen o (evG o e) := Int.toNat_of_nonneg (by omega)
  unfold brN brD
  rw [if_pos rfl, if_pos rfl]
  refine rd_below hD ?_
  have n1 : yNum o (evG o e) = 256 * ((256 * (e.m : Int)) * (256 * (e.m : Int))) * ((o.s2 * o.w1 - o.w2 * o.s1) * e.y1) - 256 * ((256 * (e.m : Int)) * (256 * (e.m : Int))) * ((o.w2 * o.s3 - o.s2 * o.w3) * e.y3) := by
    unfold yNum evG row4S
    rw [v0, v1, v2, v3]
    grind
  have n2 : 0 ≤ 256 * ((256 * (e.m : Int)) * (256 * (e.m : Int))) * ((o.w2 * o.s3 - o.s2 * o.w3) * e.y3) := Int.mul_nonneg (Int.mul_nonneg (by decide) (Int.mul_nonneg (by omega) (by omega))) (Int.mul_nonneg (by omega) (by omega))
  have n3 : 256 * ((256 * (e.m : Int)) * (256 * (e.m : Int))) * ((o.s2 * o.w1 - o.w2 * o.s1) * e.y1) * e.m = e.y1 * yDen o (evG o e) := by
    unfold yDen evG
    grind
  have n4 : yNum o (evG o e) * e.m ≤ e.y1 * yDen o (evG o e) := by
    rw [← n3]
    exact Int.mul_le_mul_of_nonneg_right (by omega) (by omega)
  obtain ⟨D, hDD⟩ : ∃ D, (yDen o (evG o e)).toNat = D := ⟨_, rfl⟩
  rw [hDD] at dI hD ⊢
  rw [← dI] at n4
  generalize yNum o (evG o e) = num at *
  rcases Int.lt_or_le num 0 with h | h
  · have : brtN num D = 0 := by unfold brtN; omega
    rw [this, Nat.zero_mul]; exact Nat.zero_le _
  · have h1 : (brtN num D : Int) ≤ num := by unfold brtN; omega
    have h2 : (brtN num D : Int) * e.m ≤ num * e.m := Int.mul_le_mul_of_nonneg_right h1 (by omega)
    have h3 : ((brtN num D * e.m : Nat) : Int) ≤ ((e.y1 * D : Nat) : Int) := by
      rw [Int.natCast_mul, Int.natCast_mul]
      exact Int.le_trans h2 n4
    omega
theorem fden_pos {o : Opt} {e : Ev} (he : e.Ok) (hs : suitE o = 0) : 0 < fDen o (evG o e) := by
  obtain ⟨oE, pos, neg⟩ := suit_parts hs
  obtain ⟨⟨p0, p1, p2⟩, p3, p4, p5⟩ := row_bounds oE
  have m0 := he.m0
  show (0 : Int) < o.w1 * (256 * (e.m : Int)) * (256 * (e.m : Int))
  exact Int.mul_pos (Int.mul_pos (w1_pos p1 p2 p4 p5 pos) (by omega)) (by omega)
theorem fault_above {o : Opt} {e : Ev} (he : e.Ok) (hs : suitE o = 0) : e.x1 * brD 0 (fNum o (evG o e)) (fDen o (evG o e)) ≤ brN 0 (fNum o (evG o e)) (fDen o (evG o e)) * e.m := by
  obtain ⟨oE, pos, neg⟩ := suit_parts hs
  obtain ⟨v0, v1, v2, v3⟩ := dull_row oE
  have fp := fden_pos he hs
  obtain ⟨r1, r2, r3⟩ := opt_rows oE
  obtain ⟨q0, q1, q2, q3, _⟩ := wt_parts r2
  have dI : ((fDen o (evG o e)).toNat : Int) = fDen o (evG o e) := Int.toNat_of_nonneg (by omega)
  unfold brN brD
  rw [if_pos rfl, if_pos rfl]
  refine rd_above (by omega) ?_
  have n1 : fNum o (evG o e) * e.m - e.x1 * fDen o (evG o e) = 256 * (256 * (e.m : Int)) * e.m * (o.w2 * e.x2 + o.w3 * e.x3) := by
    unfold fNum fDen evG row4S
    rw [v0, v1, v2, v3]
    grind
  have n2 : 0 ≤ 256 * (256 * (e.m : Int)) * e.m * (o.w2 * e.x2 + o.w3 * e.x3) := Int.mul_nonneg (Int.mul_nonneg (by omega) (by omega)) (Int.add_nonneg (Int.mul_nonneg q2.1 (by omega)) (Int.mul_nonneg q3.1 (by omega)))
  have n3 : (e.x1 : Int) * fDen o (evG o e) ≤ fDen o (evG o e) * e.m := by
    rw [Int.mul_comm (fDen o (evG o e))]
    exact Int.mul_le_mul_of_nonneg_right (by have := he.j1; have := he.k1; omega) (by omega)
  have n4 : (e.x1 : Int) * fDen o (evG o e) ≤ fNum o (evG o e) * e.m := by omega
  obtain ⟨D, hDD⟩ : ∃ D, (fDen o (evG o e)).toNat = D := ⟨_, rfl⟩
  rw [hDD] at dI ⊢
  rw [← dI] at n3 n4 fp
  generalize fNum o (evG o e) = num at *
  have hx : ((e.x1 * D : Nat) : Int) ≤ ((brtN num D * e.m : Nat) : Int) := by
    rw [Int.natCast_mul, Int.natCast_mul]
    rcases Int.lt_or_le num (D : Int) with h | h
    · have h1 : num ≤ (brtN num D : Int) := by unfold brtN; omega
      exact Int.le_trans n4 (Int.mul_le_mul_of_nonneg_right h1 (by omega))
    · have h1 : (D : Int) ≤ (brtN num D : Int) := by unfold brtN; omega
      exact Int.le_trans n3 (Int.mul_le_mul_of_nonneg_right h1 (by omega))
  omega

end Go.Proofs.Ytbobbcfjjdmdgaa
