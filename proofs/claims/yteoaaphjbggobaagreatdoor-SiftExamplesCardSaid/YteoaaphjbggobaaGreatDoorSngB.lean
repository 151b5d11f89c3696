/- Contract of sift.Singles. For any arrangement, gains and number. -/
import Derived.Test.YteoaaphjbggobaaGreatDoorSngA
import Derived.Test.YteoaaphjbggobaaGreatDoorGcdAll
import Derived.Test.YteoaaphjbggobaaGreatDoorChk
namespace Go.Proofs.YteoaaphjbggobaaGreatDoor
open Go.RowKit
set_option linter.unusedVariables false
set_option linter.unusedSimpArgs false

/-- Of n bits at most so many come of single photons, and the error. -/
def sngE (o : Opt) (g : Gn) (n : Int) : Int := if gainsE o g ≠ 0 then gainsE o g else if 0 ≤ n ∧ n ≤ 512 then 0 else 3
def sngK (o : Opt) (g : Gn) (n : Int) : Nat := if sngE o g n ≠ 0 then 0 else if g.h2 = 0 then 0 else min n.toNat (brN 0 (yNum o g) (yDen o g) * (n * o.s1 * g.a2).toNat / (brD 0 (yNum o g) (yDen o g) * (256 * g.h2).toNat))
theorem rd_div {a b : Nat} (hb : 0 < b) : rdN a b / rdD a b = a / b := by
  unfold rdN rdD
  have hg : 0 < Nat.gcd a b := Nat.gcd_pos_of_pos_right _ hb
  have e1 : Nat.gcd a b * (a / Nat.gcd a b) = a := Nat.mul_div_cancel' (Nat.gcd_dvd_left a b)
  have e2 : Nat.gcd a b * (b / Nat.gcd a b) = b := Nat.mul_div_cancel' (Nat.gcd_dvd_right a b)
  have := Nat.mul_div_mul_left (a / Nat.gcd a b) (b / Nat.gcd a b) hg
  rw [e1, e2] at this
  exact this.symm
theorem rd_mono {a b : Nat} (h : a ≤ b) : rdN a b ≤ rdD a b := by
  unfold rdN rdD
  exact Nat.div_le_div_right h
theorem yden_small {o : Opt} {g : Gn} (h : gainsE o g = 0) : 0 < (yDen o g).toNat ∧ (yDen o g).toNat < B32 ^ 4 := by
  obtain ⟨_, oE, pos, _⟩ := gains_opt h
  obtain ⟨a0, h0, x0, a1, h1, x1, a2, h2, x2, rfl, ⟨m1, m2, m3, m4⟩, ⟨m5, m6, m7, m8⟩, m9, m10, m11, m12⟩ := gains_nat h
  obtain ⟨⟨p0, p1, p2⟩, p3, p4, p5⟩ := row_bounds oE
  obtain ⟨P1, hP1, u1, u2, u3⟩ := imul p5 p1
  obtain ⟨P2, hP2, u4, u5, u6⟩ := imul p2 p4
  rw [hP1, hP2] at pos
  obtain ⟨d, hd⟩ : ∃ d : Nat, P1 - P2 = (d : Int) := ⟨(P1 - P2).toNat, by omega⟩
  rw [yDen_mk o a0 h0 x0 a1 h1 x1 a2 h2 x2 d (by rw [hP1, hP2]; exact hd)]
  have b1 := prod3_le m2 m6 m10
  have b2 : a0 * a1 * a2 * d ≤ 4096 * 4096 * 4096 * 65536 := Nat.mul_le_mul b1 (by omega)
  exact ⟨Nat.mul_pos (Nat.mul_pos (Nat.mul_pos m1 m5) m9) (by omega), Nat.lt_of_le_of_lt b2 (by decide)⟩
theorem brt_le (num : Int) (D : Nat) : brtN num D ≤ D := by unfold brtN; omega
/-- The yield is a fraction of small numbers, at most 1. -/
theorem yld_small {o : Opt} {g : Gn} (h : gainsE o g = 0) : brN 0 (yNum o g) (yDen o g) ≤ brD 0 (yNum o g) (yDen o g) ∧ 0 < brD 0 (yNum o g) (yDen o g) ∧ brD 0 (yNum o g) (yDen o g) < B32 ^ 4 := by
  obtain ⟨h1, h2⟩ := yden_small h
  unfold brN brD
  rw [if_pos rfl, if_pos rfl]
  exact ⟨rd_mono (brt_le _ _), (rd_spec h1).2.2.2.2, Nat.lt_of_le_of_lt (rd_le _ _).2 h2⟩
theorem small_mul {x y : Nat} (hx : x < B32 ^ 4) (hy : y < B32) : (limbs (x * y)).length ≤ 64 := by
  have h1 : x * y < B32 ^ 4 * B32 := Nat.mul_lt_mul'' hx hy
  rw [← Nat.pow_succ] at h1
  exact Nat.le_trans (limbs_le_of h1) (by decide)
theorem part_le {N D X H : Nat} (hN : N ≤ D) (hD : 0 < D) : N * X / (D * H) ≤ X := by
  rcases Nat.eq_zero_or_pos H with rfl | hH
  · rw [Nat.mul_zero, Nat.div_zero]; exact Nat.zero_le _
  · refine Nat.div_le_of_le_mul ?_
    have h1 : N * X ≤ D * X := Nat.mul_le_mul_right X hN
    have h2 : D * X ≤ D * H * X := Nat.mul_le_mul_right X (Nat.le_mul_of_pos_right D hH)
    exact Nat.le_trans h1 h2
theorem boxes2 (o : Opt) (g : Gn) (w : World) : OptAt ((w.alloc (.cells #[.int .i64 o.k, .int .i64 o.c0, .int .i64 o.c1, .int .i64 o.c2, .int .i64 o.v0, .int .i64 o.v1, .int .i64 o.v2, .int .i64 o.v3, .int .i64 o.w0, .int .i64 o.w1, .int .i64 o.w2, .int .i64 o.w3, .int .i64 o.s0, .int .i64 o.s1, .int .i64 o.s2, .int .i64 o.s3, .int .i64 o.eta, .int .i64 o.dark] 60)).alloc (.cells #[.int .i64 g.a0, .int .i64 g.h0, .int .i64 g.x0, .int .i64 g.a1, .int .i64 g.h1, .int .i64 g.x1, .int .i64 g.a2, .int .i64 g.h2, .int .i64 g.x2] 63)) w.heap.size o ∧ GnAt ((w.alloc (.cells #[.int .i64 o.k, .int .i64 o.c0, .int .i64 o.c1, .int .i64 o.c2, .int .i64 o.v0, .int .i64 o.v1, .int .i64 o.v2, .int .i64 o.v3, .int .i64 o.w0, .int .i64 o.w1, .int .i64 o.w2, .int .i64 o.w3, .int .i64 o.s0, .int .i64 o.s1, .int .i64 o.s2, .int .i64 o.s3, .int .i64 o.eta, .int .i64 o.dark] 60)).alloc (.cells #[.int .i64 g.a0, .int .i64 g.h0, .int .i64 g.x0, .int .i64 g.a1, .int .i64 g.h1, .int .i64 g.x1, .int .i64 g.a2, .int .i64 g.h2, .int .i64 g.x2] 63)) (w.heap.size + 1) g ∧ Below w.heap.size w ((w.alloc (.cells #[.int .i64 o.k, .int .i64 o.c0, .int .i64 o.c1, .int .i64 o.c2, .int .i64 o.v0, .int .i64 o.v1, .int .i64 o.v2, .int .i64 o.v3, .int .i64 o.w0, .int .i64 o.w1, .int .i64 o.w2, .int .i64 o.w3, .int .i64 o.s0, .int .i64 o.s1, .int .i64 o.s2, .int .i64 o.s3, .int .i64 o.eta, .int .i64 o.dark] 60)).alloc (.cells #[.int .i64 g.a0, .int .i64 g.h0, .int .i64 g.x0, .int .i64 g.a1, .int .i64 g.h1, .int .i64 g.x1, .int .i64 g.a2, .int .i64 g.h2, .int .i64 g.x2] 63)) :=
  ⟨heap_alloc2_old w _ _, heap_alloc2_new w _ _, below_alloc (below_alloc (Below.refl w.heap.size w) _) _⟩

set_option maxRecDepth 100000 in
set_option maxHeartbeats 4000000 in
theorem sng_no (o : Opt) (g : Gn) (n : Int) (w : World) (hE : gainsE o g ≠ 0) : Calls Tryz.prog 17 #[o.val, g.val, .int .i64 n] w fun e w' => e = .returned (.tuple #[.int .i64 0, .int .i64 (gainsE o g)]) ∧ Below w.heap.size w w' := by
  have cK := fun w' => Yield_any o g w'
  unfold Opt.val Opt.cs Gn.val FrP at cK
  obtain ⟨E, he⟩ : ∃ E, gainsE o g = E := ⟨_, rfl⟩
  rw [he] at hE ⊢
  simp only [he] at cK
  obtain ⟨N, hN⟩ : ∃ N, brN E (yNum o g) (yDen o g) = N := ⟨_, rfl⟩
  obtain ⟨D, hD⟩ : ∃ D, brD E (yNum o g) (yDen o g) = D := ⟨_, rfl⟩
  simp only [hN, hD] at cK
  have hne : (E != 0) = true := by rw [bne_iff_ne]; exact hE
  clear hE he hN hD
  obtain ⟨at0, gt0, hb0⟩ := boxes2 o g w
  unfold Opt.val Opt.cs Gn.val
  have At0 := Lib.hid at0; have Gt0 := Lib.hid gt0
  clear at0 gt0
  go_enter Tryz.func17, Tryz.ntmps17
  go_upto_region 1 with fail
  obtain ⟨W, hW⟩ : ∃ W, ((w.alloc (.cells #[.int .i64 o.k, .int .i64 o.c0, .int .i64 o.c1, .int .i64 o.c2, .int .i64 o.v0, .int .i64 o.v1, .int .i64 o.v2, .int .i64 o.v3, .int .i64 o.w0, .int .i64 o.w1, .int .i64 o.w2, .int .i64 o.w3, .int .i64 o.s0, .int .i64 o.s1, .int .i64 o.s2, .int .i64 o.s3, .int .i64 o.eta, .int .i64 o.dark] 60)).alloc (.cells #[.int .i64 g.a0, .int .i64 g.h0, .int .i64 g.x0, .int .i64 g.a1, .int .i64 g.h1, .int .i64 g.x1, .int .i64 g.a2, .int .i64 g.h2, .int .i64 g.x2] 63)) = W := ⟨_, rfl⟩
  rw [hW] at hb0 At0 Gt0 ⊢
  clear hW
  go_wp2_with (first | (refine wpList_load_row rfl 60 _ rfl w.heap.size rfl 60 _ (0, 0) _ At0.out Tryz.underlying60 rfl (by kernel_rfl) ?_) | (refine wpList_load_row rfl 63 _ rfl (w.heap.size + 1) rfl 63 _ (0, 0) _ Gt0.out Tryz.underlying63 rfl (by kernel_rfl) ?_))
  refine (cK _).mono ?_
  rintro e w2 ⟨v1, v2, rfl, b1, b2, hb2⟩
  obtain ⟨A1, a1', rfl, n1⟩ := b1.nt
  obtain ⟨A2, a2', rfl, n2⟩ := b2.nt
  have q2 := below_trans hb0 hb2
  have al := below_alloc q2 (.cells #[.slice A1 (limbs N).length a1', .slice A2 (limbs D).length a2'] 53)
  clear n1 n2 b1 b2 cK
  go_wp2_with fail
  refine bodyPost_ret (v := .tuple #[.int .i64 0, .int .i64 E]) ?_ rfl ⟨rfl, al⟩
  unfold results
  go_simp

set_option maxRecDepth 100000 in
set_option maxHeartbeats 4000000 in
theorem sng_out (o : Opt) (g : Gn) (n : Int) (w : World) (hE : gainsE o g = 0) (hn : ¬ (0 ≤ n ∧ n ≤ 512)) : Calls Tryz.prog 17 #[o.val, g.val, .int .i64 n] w fun e w' => e = .returned (.tuple #[.int .i64 0, .int .i64 3]) ∧ Below w.heap.size w w' := by
  have cK := fun w' => Yield_any o g w'
  unfold Opt.val Opt.cs Gn.val FrP at cK
  simp only [hE] at cK
  obtain ⟨N, hN⟩ : ∃ N, brN 0 (yNum o g) (yDen o g) = N := ⟨_, rfl⟩
  obtain ⟨D, hD⟩ : ∃ D, brD 0 (yNum o g) (yDen o g) = D := ⟨_, rfl⟩
  simp only [hN, hD] at cK
  have hb : betwB n 0 512 = false := by unfold betwB; simp; omega
  clear hE hN hD hn
  obtain ⟨at0, gt0, hb0⟩ := boxes2 o g w
  unfold Opt.val Opt.cs Gn.val
  have At0 := Lib.hid at0; have Gt0 := Lib.hid gt0
  clear at0 gt0
  go_enter Tryz.func17, Tryz.ntmps17
  go_upto_region 1 with fail
  obtain ⟨W, hW⟩ : ∃ W, ((w.alloc (.cells #[.int .i64 o.k, .int .i64 o.c0, .int .i64 o.c1, .int .i64 o.c2, .int .i64 o.v0, .int .i64 o.v1, .int .i64 o.v2, .int .i64 o.v3, .int .i64 o.w0, .int .i64 o.w1, .int .i64 o.w2, .int .i64 o.w3, .int .i64 o.s0, .int .i64 o.s1, .int .i64 o.s2, .int .i64 o.s3, .int .i64 o.eta, .int .i64 o.dark] 60)).alloc (.cells #[.int .i64 g.a0, .int .i64 g.h0, .int .i64 g.x0, .int .i64 g.a1, .int .i64 g.h1, .int .i64 g.x1, .int .i64 g.a2, .int .i64 g.h2, .int .i64 g.x2] 63)) = W := ⟨_, rfl⟩
  rw [hW] at hb0 At0 Gt0 ⊢
  clear hW
  go_wp2_with (first | (refine wpList_load_row rfl 60 _ rfl w.heap.size rfl 60 _ (0, 0) _ At0.out Tryz.underlying60 rfl (by kernel_rfl) ?_) | (refine wpList_load_row rfl 63 _ rfl (w.heap.size + 1) rfl 63 _ (0, 0) _ Gt0.out Tryz.underlying63 rfl (by kernel_rfl) ?_))
  refine (cK _).mono ?_
  rintro e w2 ⟨v1, v2, rfl, b1, b2, hb2⟩
  obtain ⟨A1, a1', rfl, n1⟩ := b1.nt
  obtain ⟨A2, a2', rfl, n2⟩ := b2.nt
  have q2 := below_trans hb0 hb2
  have al := below_alloc q2 (.cells #[.slice A1 (limbs N).length a1', .slice A2 (limbs D).length a2'] 53)
  clear n1 n2 b1 b2 cK
  go_wp2_with (first | (go_at_call 23; refine (between_any n 0 512 _).mono ?_; rintro e w' ⟨rfl, rfl⟩; rw [hb]))
  refine bodyPost_ret (v := .tuple #[.int .i64 0, .int .i64 3]) ?_ rfl ⟨rfl, al⟩
  unfold results
  go_simp

set_option maxRecDepth 100000 in
set_option maxHeartbeats 4000000 in
theorem sng_zero (o : Opt) (g : Gn) (n : Int) (w : World) (hE : gainsE o g = 0) (hn : 0 ≤ n ∧ n ≤ 512) (hz : g.h2 = 0) : Calls Tryz.prog 17 #[o.val, g.val, .int .i64 n] w fun e w' => e = .returned (.tuple #[.int .i64 0, .int .i64 0]) ∧ Below w.heap.size w w' := by
  have cK := fun w' => Yield_any o g w'
  unfold Opt.val Opt.cs Gn.val FrP at cK
  simp only [hE] at cK
  obtain ⟨N, hN⟩ : ∃ N, brN 0 (yNum o g) (yDen o g) = N := ⟨_, rfl⟩
  obtain ⟨D, hD⟩ : ∃ D, brD 0 (yNum o g) (yDen o g) = D := ⟨_, rfl⟩
  simp only [hN, hD] at cK
  have hb : betwB n 0 512 = true := by unfold betwB; simp; omega
  have HZ := Lib.hid hz
  clear hE hN hD hn hz
  obtain ⟨at0, gt0, hb0⟩ := boxes2 o g w
  unfold Opt.val Opt.cs Gn.val
  have At0 := Lib.hid at0; have Gt0 := Lib.hid gt0
  clear at0 gt0
  go_enter Tryz.func17, Tryz.ntmps17
  go_upto_region 1 with fail
  obtain ⟨W, hW⟩ : ∃ W, ((w.alloc (.cells #[.int .i64 o.k, .int .i64 o.c0, .int .i64 o.c1, .int .i64 o.c2, .int .i64 o.v0, .int .i64 o.v1, .int .i64 o.v2, .int .i64 o.v3, .int .i64 o.w0, .int .i64 o.w1, .int .i64 o.w2, .int .i64 o.w3, .int .i64 o.s0, .int .i64 o.s1, .int .i64 o.s2, .int .i64 o.s3, .int .i64 o.eta, .int .i64 o.dark] 60)).alloc (.cells #[.int .i64 g.a0, .int .i64 g.h0, .int .i64 g.x0, .int .i64 g.a1, .int .i64 g.h1, .int .i64 g.x1, .int .i64 g.a2, .int .i64 g.h2, .int .i64 g.x2] 63)) = W := ⟨_, rfl⟩
  rw [hW] at hb0 At0 Gt0 ⊢
  clear hW
  go_wp2_with (first | (refine wpList_load_row rfl 60 _ rfl w.heap.size rfl 60 _ (0, 0) _ At0.out Tryz.underlying60 rfl (by kernel_rfl) ?_) | (refine wpList_load_row rfl 63 _ rfl (w.heap.size + 1) rfl 63 _ (0, 0) _ Gt0.out Tryz.underlying63 rfl (by kernel_rfl) ?_))
  refine (cK _).mono ?_
  rintro e w2 ⟨v1, v2, rfl, b1, b2, hb2⟩
  obtain ⟨A1, a1', rfl, n1⟩ := b1.nt
  obtain ⟨A2, a2', rfl, n2⟩ := b2.nt
  have q2 := below_trans hb0 hb2
  have al := below_alloc q2 (.cells #[.slice A1 (limbs N).length a1', .slice A2 (limbs D).length a2'] 53)
  have al2 := below_alloc al (.cells #[.int .i64 g.a2, .int .i64 g.h2, .int .i64 g.x2] 62)
  have gt2 := Gt0.out.on (hb2.trans (below_alloc (Below.refl w2.heap.size w2) (.cells #[.slice A1 (limbs N).length a1', .slice A2 (limbs D).length a2'] 53) |>.mono hb2.size))
  have k6 := gt2.y6
  have k7 := gt2.y7
  have k8 := gt2.y8
  clear n1 n2 b1 b2 cK gt2 hb2 q2
  rw [HZ.out] at k7 al2
  go_wp2_with (first | (go_at_call 23; refine (between_any n 0 512 _).mono ?_; rintro e w' ⟨rfl, rfl⟩; rw [hb]))
  refine bodyPost_ret (v := .tuple #[.int .i64 0, .int .i64 0]) ?_ rfl ⟨rfl, al2⟩
  unfold results
  go_simp

end Go.Proofs.YteoaaphjbggobaaGreatDoor
