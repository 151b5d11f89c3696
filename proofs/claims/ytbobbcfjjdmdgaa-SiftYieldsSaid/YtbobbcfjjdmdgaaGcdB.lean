/- Contract of exact's common. For numbers of at most 1000 limbs. -/
import Derived.Test.YtbobbcfjjdmdgaaGcdA
import Derived.Test.YtbobbcfjjdmdgaaGcdP
namespace Go.Proofs.Ytbobbcfjjdmdgaa
open Go.RowKit
set_option linter.unusedVariables false
set_option linter.unusedSimpArgs false

theorem big_shape {w : World} {B x : Nat} {v : Value} (h : Big w B v x) (hx : 0 < x) : ∃ g c, v = .slice (some ⟨g, 0, none⟩) (limbs x).length c ∧ B ≤ g ∧ 0 < (limbs x).length := by
  have hl : (limbs x) ≠ [] := fun e => by
    have := V_limbs x
    rw [e] at this
    simp [V, valB] at this
    omega
  have hl2 : 0 < (limbs x).length := List.length_pos_iff.2 hl
  rcases h.2 with ⟨_, h0⟩ | ⟨g, cap, cur, hv, hb, _⟩
  · omega
  · exact ⟨g, cap, hv, hb, hl2⟩
theorem limbs_none {x : Nat} (h : (limbs x).length = 0) : x = 0 := by
  have := V_limbs x
  rw [List.eq_nil_of_length_eq_zero h] at this
  simpa [V, valB] using this.symm
theorem limbs_zero : limbs 0 = [] := by unfold limbs; exact digB_zero ..
theorem limbs_le_of {x k : Nat} (h : x < B32 ^ k) : (limbs x).length ≤ k := digB_len_le b32 h
theorem limbs_mono {x y : Nat} (h : x ≤ y) : (limbs x).length ≤ (limbs y).length := by
  refine limbs_le_of ?_
  have := digB_lt b32 y
  exact Nat.lt_of_le_of_lt h this

/-- Two numbers of the call's own, side by side. -/
structure Two (w : World) (B : Nat) (va vb : Value) (x y : Nat) : Prop where
  a : Big w B va x
  b : Big w B vb y
  ap : Ap va vb
theorem Two.swap {w : World} {B : Nat} {va vb : Value} {x y : Nat} (h : Two w B va vb x y) : Two w B vb va y x := ⟨h.b, h.a, h.ap.symm⟩

/-- half, of the first of two. -/
theorem half_two (B : Nat) (va vb : Value) (x y : Nat) (w : World) (h : Two w B va vb x y) (hx : 0 < x) (hl : (limbs x).length ≤ 1000000) :
    Calls Try.prog 208 #[va] w fun e w' => ∃ v, e = .returned v ∧ Two w' B v vb (x / 2) y ∧ (∀ K, K ≤ B → Below K w w') := by
  obtain ⟨g, c, rfl, hg, hp⟩ := big_shape h.a hx
  have c1 := half_any g c _ B (limbs x) w h.a rfl (limbs_dig x) hl
  rw [V_limbs] at c1
  refine c1.mono ?_
  rintro e w' ⟨v, rfl, b1, hv, gr⟩
  refine ⟨v, rfl, ⟨b1, own_new h.b h.ap.symm gr, ?_⟩, fun K hK => ?_⟩
  · have := h.ap
    unfold Ap at *
    rw [hv]
    rcases this with h0 | h0
    · exact .inl (by simp [Value.ownBlock] at h0)
    · exact .inr h0
  · have := (World.ownsRow.lt h.a g rfl).2
    exact (Below.refl K w).grown gr (by omega) (fun q hq => by cases hq; omega)

/-- double, of an own number with room. -/
theorem dbl_room {n L : Nat} {l' : List Nat} {h : Nat} {l : List Nat} (hl : l'.length = n) (hv : V l' + B32 ^ n * h = 2 * V l + 0) (hr : 2 * V l < B32 ^ n) : V l' = 2 * V l := by
  rcases Nat.eq_zero_or_pos h with rfl | h0
  · omega
  · have : B32 ^ n * 1 ≤ B32 ^ n * h := Nat.mul_le_mul_left _ h0
    omega
/-- What is left of the doublings. -/
def Dbl (G t k v n : Nat) : Prop := v = G * 2 ^ k ∧ G * 2 ^ t < B32 ^ n
theorem Dbl.next {G t k v n : Nat} (h : Dbl G t k v n) (hk : k < t) : 2 * v < B32 ^ n ∧ Dbl G t (k + 1) (2 * v) n := by
  obtain ⟨h1, h2⟩ := h
  have e : 2 * v = G * 2 ^ (k + 1) := by rw [h1, Nat.pow_succ, Nat.mul_comm (2 ^ k) 2, Nat.mul_left_comm]
  refine ⟨?_, e, h2⟩
  rw [e]
  exact Nat.lt_of_le_of_lt (Nat.mul_le_mul_left _ (Nat.pow_le_pow_right (by decide) hk)) h2
theorem dbl_start {G t n q : Nat} (hn : n = (limbs G).length + q + 1) (hq : q = t / 32) : Dbl G t 0 G n := by
  refine ⟨by simp, ?_⟩
  have h1 : G < B32 ^ (limbs G).length := digB_lt b32 G
  have h2 : 2 ^ t ≤ B32 ^ (q + 1) := by
    rw [b32_pow]
    exact Nat.pow_le_pow_right (by decide) (by omega)
  have h3 : 0 < 2 ^ t := Nat.pow_pos (by decide)
  rw [hn, Nat.add_assoc, Nat.pow_add]
  exact Nat.lt_of_lt_of_le (Nat.mul_lt_mul_of_pos_right h1 h3) (Nat.mul_le_mul_left _ h2)
/-- The twos that two numbers have in common. -/
def Tw (X Y x y t : Nat) : Prop := Nat.gcd X Y = 2 ^ t * Nat.gcd x y ∧ X = 2 ^ t * x
theorem Tw.next {X Y x y t : Nat} (h : Tw X Y x y t) (hx : x % 2 = 0) (hy : y % 2 = 0) : Tw X Y (x / 2) (y / 2) (t + 1) := by
  obtain ⟨h1, h2⟩ := h
  refine ⟨?_, ?_⟩
  · rw [h1, gcd_both hx hy, Nat.pow_succ, Nat.mul_assoc]
  · rw [h2, Nat.pow_succ, Nat.mul_assoc]
    congr 1; omega
theorem Tw.lt {X Y x y t n : Nat} (h : Tw X Y x y t) (hx : 0 < x) (hX : X < B32 ^ n) : t < 32 * n := by
  refine Classical.byContradiction fun hc => ?_
  have h1 : 2 ^ (32 * n) ≤ 2 ^ t := Nat.pow_le_pow_right (by decide) (by omega)
  have h2 : 2 ^ t * 1 ≤ 2 ^ t * x := Nat.mul_le_mul_left _ hx
  rw [b32_pow] at hX
  have := h.2
  omega

end Go.Proofs.Ytbobbcfjjdmdgaa
