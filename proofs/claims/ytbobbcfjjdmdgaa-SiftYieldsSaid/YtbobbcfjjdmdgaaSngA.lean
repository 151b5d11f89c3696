/- Contracts of the reference's Mul and Compare on small numbers; the yields and faults of both sides in one word. For any arrangement and gains. -/
import Derived.Test.YtbobbcfjjdmdgaaYldAll
namespace Go.Proofs.Ytbobbcfjjdmdgaa
open Go.RowKit
set_option linter.unusedVariables false
set_option linter.unusedSimpArgs false

set_option maxRecDepth 100000 in
set_option maxHeartbeats 2000000 in
theorem rresult_any (A : Option Addr) (c n : Nat) (w : World) (h : Dn w A c (dg n)) (hl : (dg n).length ≤ 256) :
    Calls Try.prog 125 #[.slice A (dg n).length c] w fun e w' => ∃ v, e = .returned (.tuple #[v, .int .i64 0]) ∧ Big w' w.heap.size v n ∧ Below w.heap.size w w' := by
  have cF := rfits_any A c _ w hl
  have cN := nat_any A c n w h (by omega)
  clear h hl
  go_enter Try.func125, Try.ntmps125
  go_wp2_with (first | (go_at_call 177; refine (cF).mono ?_; rintro e w' ⟨rfl, rfl⟩))
  refine cN.mono ?_
  rintro e w1 ⟨v, rfl, b1, hb1⟩
  obtain ⟨A1, c1, rfl, _⟩ := b1.nt
  go_wp2_with fail
  refine bodyPost_ret (v := .tuple #[.slice A1 (limbs n).length c1, .int .i64 0]) ?_ rfl ⟨_, rfl, b1, hb1⟩
  unfold results
  go_simp

set_option maxRecDepth 100000 in
set_option maxHeartbeats 2000000 in
theorem rMul_any (A : Option Addr) (c x : Nat) (C : Option Addr) (d y : Nat) (w : World) (hA : Nt w A c (limbs x)) (hC : Nt w C d (limbs y)) (hx : x < B32 ^ 4) (hy : y < B32 ^ 4) :
    Calls Try.prog 65 #[.slice A (limbs x).length c, .slice C (limbs y).length d] w fun e w' => ∃ v, e = .returned (.tuple #[v, .int .i64 0]) ∧ Big w' w.heap.size v (x * y) ∧ Below w.heap.size w w' := by
  have l1 := limbs_4 hx
  have l2 := limbs_4 hy
  have cK := rboth_any A c (limbs x) C d (limbs y) w
  rw [long2E_zero.2 ⟨l1, l2⟩] at cK
  have c1 := digits_any A c (limbs x) w hA (by omega)
  have c2 := fun w' (hb : Below w.heap.size w w') => digits_any C d (limbs y) w' (hC.on hb) (by omega)
  simp only [V_limbs] at c1 c2
  have d1 : (dg x).length ≤ 16 := dg_len (m := 128) (Nat.lt_of_lt_of_le hx (by decide)) (by decide)
  have d2 : (dg y).length ≤ 16 := dg_len (m := 128) (Nat.lt_of_lt_of_le hy (by decide)) (by decide)
  have hxy : x * y < 2 ^ 256 := Nat.lt_of_lt_of_le (Nat.mul_lt_mul'' hx hy) (by decide)
  have d3 : (dg (x * y)).length ≤ 32 := dg_len (m := 256) hxy (by decide)
  have c3 := fun P p Q q w' (h1 : Dn w' P p (dg x)) (h2 : Dn w' Q q (dg y)) => rmul_any P p (dg x) Q q (dg y) w' h1 h2 (by omega) (by omega)
  simp only [dg_val] at c3
  obtain ⟨Z, hZ⟩ : ∃ Z, x * y = Z := ⟨_, rfl⟩
  simp only [hZ] at c3 d3 ⊢
  clear hx hy hZ hxy
  go_enter Try.func65, Try.ntmps65
  go_wp2_with (first | (go_at_call 124; refine (cK).mono ?_; rintro e w' ⟨rfl, rfl⟩))
  refine c1.mono ?_
  rintro e w1 ⟨v1, rfl, b1, hb1⟩
  obtain ⟨A1, a1, rfl, n1⟩ := b1.dn
  go_wp2_with fail
  refine (c2 w1 hb1).mono ?_
  rintro e w2 ⟨v2, rfl, b2, hb2⟩
  obtain ⟨A2, a2, rfl, n2⟩ := b2.dn
  go_wp2_with fail
  refine (c3 A1 a1 A2 a2 w2 (n1.on hb2) n2).mono ?_
  rintro e w3 ⟨v3, rfl, b3, hb3⟩
  obtain ⟨A3, a3, rfl, n3⟩ := b3.dn
  go_wp2_with fail
  refine (rresult_any A3 a3 Z w3 n3 (by omega)).mono ?_
  rintro e w4 ⟨v4, rfl, b4, hb4⟩
  obtain ⟨A4, a4, rfl, n4⟩ := b4.nt
  have sz : w.heap.size ≤ w3.heap.size := (below_trans hb1 (below_trans hb2 hb3)).size
  go_wp2_with fail
  refine bodyPost_ret (v := .tuple #[.slice A4 (limbs Z).length a4, .int .i64 0]) ?_ rfl ⟨_, rfl, b4.down sz, below_trans hb1 (below_trans hb2 (below_trans hb3 hb4))⟩
  unfold results
  go_simp

set_option maxRecDepth 100000 in
set_option maxHeartbeats 2000000 in
theorem rCompare_any (A : Option Addr) (c x : Nat) (C : Option Addr) (d y : Nat) (w : World) (hA : Nt w A c (limbs x)) (hC : Nt w C d (limbs y)) (hx : x < B32 ^ 8) (hy : y < B32 ^ 8) :
    Calls Try.prog 67 #[.slice A (limbs x).length c, .slice C (limbs y).length d] w fun e w' => e = .returned (.tuple #[.int .i64 (cmpI x y), .int .i64 0]) ∧ Below w.heap.size w w' := by
  have l1 : (limbs x).length ≤ 64 := Nat.le_trans (limbs_le_of hx) (by decide)
  have l2 : (limbs y).length ≤ 64 := Nat.le_trans (limbs_le_of hy) (by decide)
  have cK := rboth_any A c (limbs x) C d (limbs y) w
  rw [long2E_zero.2 ⟨l1, l2⟩] at cK
  have c1 := digits_any A c (limbs x) w hA (by omega)
  have c2 := fun w' (hb : Below w.heap.size w w') => digits_any C d (limbs y) w' (hC.on hb) (by omega)
  simp only [V_limbs] at c1 c2
  have d1 : (dg x).length ≤ 32 := dg_len (m := 256) (Nat.lt_of_lt_of_le hx (by decide)) (by decide)
  have d2 : (dg y).length ≤ 32 := dg_len (m := 256) (Nat.lt_of_lt_of_le hy (by decide)) (by decide)
  have c3 := fun P p Q q w' (h1 : Dn w' P p (dg x)) (h2 : Dn w' Q q (dg y)) => rcmp_any P p x Q q y w' h1 h2 (by omega) (by omega)
  obtain ⟨Z, hZ⟩ : ∃ Z, cmpI x y = Z := ⟨_, rfl⟩
  simp only [hZ] at c3 ⊢
  clear hx hy hZ
  go_enter Try.func67, Try.ntmps67
  go_wp2_with (first | (go_at_call 124; refine (cK).mono ?_; rintro e w' ⟨rfl, rfl⟩))
  refine c1.mono ?_
  rintro e w1 ⟨v1, rfl, b1, hb1⟩
  obtain ⟨A1, a1, rfl, n1⟩ := b1.dn
  go_wp2_with fail
  refine (c2 w1 hb1).mono ?_
  rintro e w2 ⟨v2, rfl, b2, hb2⟩
  obtain ⟨A2, a2, rfl, n2⟩ := b2.dn
  go_wp2_with fail
  refine (c3 A1 a1 A2 a2 w2 (n1.on hb2) n2).mono ?_
  rintro e w3 ⟨rfl, hb3⟩
  go_wp2_with fail
  refine bodyPost_ret (v := .tuple #[.int .i64 Z, .int .i64 0]) ?_ rfl ⟨rfl, below_trans hb1 (below_trans hb2 hb3)⟩
  unfold results
  go_simp

theorem frp_any {f : Nat} {args : Array Value} {w : World} {E num den : Int} (h1 : E = 0 → Calls Try.prog f args w fun e w' => FrP w w' (rdN (brtN num den.toNat) den.toNat) (rdD (brtN num den.toNat) den.toNat) 0 e) (h2 : E ≠ 0 → Calls Try.prog f args w fun e w' => FrP w w' 0 0 E e) : Calls Try.prog f args w fun e w' => FrP w w' (brN E num den) (brD E num den) E e := by
  unfold brN brD
  by_cases h : E = 0
  · rw [if_pos h, if_pos h, h]
    exact h1 h
  · rw [if_neg h, if_neg h]
    exact h2 h
theorem Yield_any (o : Opt) (g : Gn) (w : World) : Calls Try.prog 11 #[o.val, g.val] w fun e w' => FrP w w' (brN (gainsE o g) (yNum o g) (yDen o g)) (brD (gainsE o g) (yNum o g) (yDen o g)) (gainsE o g) e := frp_any (yld_ok o g w) (yld_no o g w)
theorem Faults_any (o : Opt) (g : Gn) (w : World) : Calls Try.prog 12 #[o.val, g.val] w fun e w' => FrP w w' (brN (gainsE o g) (fNum o g) (fDen o g)) (brD (gainsE o g) (fNum o g) (fDen o g)) (gainsE o g) e := frp_any (flt_ok o g w) (flt_no o g w)
theorem rYield_any (o : Opt) (g : Gn) (w : World) : Calls Try.prog 15 #[o.val, g.val] w fun e w' => FrP w w' (brN (gainsE o g) (yNum o g) (yDen o g)) (brD (gainsE o g) (yNum o g) (yDen o g)) (gainsE o g) e := frp_any (ryld_ok o g w) (ryld_no o g w)
theorem rFaults_any (o : Opt) (g : Gn) (w : World) : Calls Try.prog 16 #[o.val, g.val] w fun e w' => FrP w w' (brN (gainsE o g) (fNum o g) (fDen o g)) (brD (gainsE o g) (fNum o g) (fDen o g)) (gainsE o g) e := frp_any (rflt_ok o g w) (rflt_no o g w)

end Go.Proofs.Ytbobbcfjjdmdgaa
