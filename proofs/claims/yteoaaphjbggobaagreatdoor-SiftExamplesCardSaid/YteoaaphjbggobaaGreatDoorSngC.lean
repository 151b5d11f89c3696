/- Contract of sift.Singles, the main case. For any arrangement, gains and number. -/
import Derived.Test.YteoaaphjbggobaaGreatDoorSngB
namespace Go.Proofs.YteoaaphjbggobaaGreatDoor
open Go.RowKit
set_option linter.unusedVariables false
set_option linter.unusedSimpArgs false

theorem wrap_of {a b : Int} (h : wrap64 a = b) : IntKind.i64.wrap a = b := by rw [IntKind.wrap_i64]; unfold wrap64 at h; omega
theorem Big.farU {w : World} {B n b : Nat} {A : Option Addr} {k c : Nat} (h : Big w B (.slice A k c) n) (hb : w.heap.size ≤ b) : Far A b := fun a ha => by
  subst ha
  have := (World.ownsRow.lt h a.block rfl).2
  omega
theorem part_box {y : World} {q X H a3 a4 : Nat} {A3 A4 : Option Addr} {u0 u1 : Value} (n3 : Nt y A3 a3 (limbs X)) (n4 : Nt y A4 a4 (limbs H)) (f3 : Far A3 q) (f4 : Far A4 q) (e0 : y.cell? ⟨q, 0, none⟩ = some u0) (e1 : y.cell? ⟨q, 1, none⟩ = some u1) :
    ((y.setCell ⟨q, 0, none⟩ (.slice A3 (limbs X).length a3)).setCell ⟨q, 1, none⟩ (.slice A4 (limbs H).length a4)).cell? ⟨q, 0, none⟩ = some (.slice A3 (limbs X).length a3) ∧ ((y.setCell ⟨q, 0, none⟩ (.slice A3 (limbs X).length a3)).setCell ⟨q, 1, none⟩ (.slice A4 (limbs H).length a4)).cell? ⟨q, 1, none⟩ = some (.slice A4 (limbs H).length a4) ∧ Nt ((y.setCell ⟨q, 0, none⟩ (.slice A3 (limbs X).length a3)).setCell ⟨q, 1, none⟩ (.slice A4 (limbs H).length a4)) A3 a3 (limbs X) ∧ Nt ((y.setCell ⟨q, 0, none⟩ (.slice A3 (limbs X).length a3)).setCell ⟨q, 1, none⟩ (.slice A4 (limbs H).length a4)) A4 a4 (limbs H) := by
  refine ⟨?_, ?_, (n3.far f3 _ _).far f3 _ _, (n4.far f4 _ _).far f4 _ _⟩ <;> go_simp
theorem wrapK {K X : Nat} (h : K ≤ X) (hX : X ≤ 536870912) : IntKind.i64.wrap (K : Int) = (K : Int) := by rw [IntKind.wrap_i64]; omega

set_option maxRecDepth 100000 in
set_option maxHeartbeats 8000000 in
theorem sng_main (o : Opt) (g : Gn) (n : Int) (w : World) (hE : gainsE o g = 0) (hn : 0 ≤ n ∧ n ≤ 512) (hz : g.h2 ≠ 0) : Calls Tryz.prog 17 #[o.val, g.val, .int .i64 n] w fun e w' => e = .returned (.tuple #[.int .i64 ((min n.toNat (brN 0 (yNum o g) (yDen o g) * (n * o.s1 * g.a2).toNat / (brD 0 (yNum o g) (yDen o g) * (256 * g.h2).toNat)) : Nat) : Int), .int .i64 0]) ∧ Below w.heap.size w w' := by
  have cK := fun w' => Yield_any o g w'
  obtain ⟨ys1, ys2, ys3⟩ := yld_small hE
  obtain ⟨sE, oE, pos, _⟩ := gains_opt hE
  obtain ⟨_, q3, q4, q5⟩ := row_bounds oE
  obtain ⟨a0, h0, x0, a1, h1, x1, a2, h2, x2, hg, ⟨m1, m2, m3, m4⟩, ⟨m5, m6, m7, m8⟩, m9, m10, m11, m12⟩ := gains_nat hE
  have e1 : g.a2 = (a2 : Int) := by rw [hg]
  have e2 : g.h2 = (h2 : Int) := by rw [hg]
  have h2p : 0 < h2 := by omega
  obtain ⟨m, rfl⟩ := Int.eq_ofNat_of_zero_le hn.1
  have hm : m ≤ 512 := by omega
  have ca2 : 0 ≤ (a2 : Int) ∧ (a2 : Int) ≤ 4096 := by omega
  have ch2 : 0 ≤ (h2 : Int) ∧ (h2 : Int) ≤ 4096 := by omega
  obtain ⟨P1, hP1, v1, i1⟩ := imulS (a := (m : Int)) (b := o.s1) (A := 512) (B := 256) (by omega) q4 (by decide) (by decide)
  obtain ⟨P2, hP2, v2, i2⟩ := imulS (a := P1) (b := (a2 : Int)) (A := 512 * 256) (B := 4096) v1 ca2 (by decide) (by decide)
  obtain ⟨P3, hP3, v3, i3⟩ := imulS (a := 256) (b := (h2 : Int)) (A := 256) (B := 4096) (by decide) ch2 (by decide) (by decide)
  have hX0 : 0 ≤ P2 := by rw [← hP2, ← hP1]; exact Int.mul_nonneg (Int.mul_nonneg (by omega) q4.1) ca2.1
  obtain ⟨X, hX⟩ := Int.eq_ofNat_of_zero_le hX0
  obtain ⟨H, hH⟩ : ∃ H : Nat, P3 = (H : Int) := ⟨P3.toNat, by omega⟩
  have bX : X ≤ 536870912 := by omega
  have bH : 0 < H ∧ H ≤ 1048576 := by omega
  have eX : ((m : Int) * o.s1 * g.a2).toNat = X := by rw [e1, hP1, hP2, hX]; rfl
  have eH : (256 * g.h2).toNat = H := by rw [e2, hP3, hH]; rfl
  rw [eX, eH, show ((m : Int)).toNat = m from rfl]
  rw [hX] at i2
  rw [hH] at i3
  have j1 : IntKind.i64.wrap ((m : Int) * o.s1) = P1 := wrap_of i1
  have j2 : IntKind.i64.wrap (P1 * (a2 : Int)) = (X : Int) := wrap_of i2
  have j3 : IntKind.i64.wrap (256 * (h2 : Int)) = (H : Int) := wrap_of i3
  unfold Opt.val Opt.cs Gn.val FrP at cK
  simp only [hE] at cK
  obtain ⟨N, hN⟩ : ∃ N, brN 0 (yNum o g) (yDen o g) = N := ⟨_, rfl⟩
  obtain ⟨D, hD⟩ : ∃ D, brD 0 (yNum o g) (yDen o g) = D := ⟨_, rfl⟩
  simp only [hN, hD] at cK
  rw [hN, hD] at ys1 ⊢
  rw [hD] at ys2 ys3
  have hN4 : N < B32 ^ 4 := Nat.lt_of_le_of_lt ys1 ys3
  have hXb : X < B32 := by unfold B32; omega
  have hHb : H < B32 := by unfold B32; omega
  have hb : betwB (m : Int) 0 512 = true := by unfold betwB; simp; omega
  have HG := Lib.hid hg
  have hz' : ((h2 : Int) == 0) = false := by simp; omega
  clear hP1 hP2 hP3 hX hH hX0 eX eH v1 v2 v3 hE hN hD sE oE pos hz hg e1 e2 m1 m2 m3 m4 m5 m6 m7 m8 m9 m10 m11 m12 ca2 ch2 q3 q4 q5 hn
  have cV1 := fun w' => whole_any X w' (by omega)
  have cV2 := fun w' => whole_any H w' (by omega)
  have cM := fun w' A a C c E e F f' (h1 : Nt w' A a (limbs N)) (h2 : Nt w' C c (limbs D)) (h3 : Nt w' E e (limbs X)) (h4 : Nt w' F f' (limbs H)) => FracMul_any ⟨A, a, limbs N, C, c, limbs D⟩ ⟨E, e, limbs X, F, f', limbs H⟩ w' ⟨h1, h2⟩ ⟨h3, h4⟩ (two_valid (limbs_4 hN4) (limbs_4 ys3) (Nat.le_trans (limbs_le_of (k := 1) (by rw [Nat.pow_one]; exact hXb)) (by decide)) (Nat.le_trans (limbs_le_of (k := 1) (by rw [Nat.pow_one]; exact hHb)) (by decide)) (by simp only [V_limbs]; exact ys2) (by simp only [V_limbs]; exact bH.1)) (by simp only [V_limbs]; exact small_mul hN4 hXb) (by simp only [V_limbs]; exact small_mul ys3 hHb) (by simp only [V_limbs]; exact Nat.mul_pos ys2 bH.1)
  unfold FrR Frc.val at cM
  simp only [V_limbs] at cM
  have DH : 0 < D * H := Nat.mul_pos ys2 bH.1
  obtain ⟨N1, hN1⟩ : ∃ N1, rdN (N * X) (D * H) = N1 := ⟨_, rfl⟩
  obtain ⟨D1, hD1⟩ : ∃ D1, rdD (N * X) (D * H) = D1 := ⟨_, rfl⟩
  have rl := rd_le (N * X) (D * H)
  have rp := (rd_spec (a := N * X) DH).2.2.2.2
  have rq := rd_div (a := N * X) DH
  simp only [hN1, hD1] at cM rl rq
  rw [hD1] at rp
  have lN1 : (limbs N1).length ≤ 64 := Nat.le_trans (limbs_mono rl.1) (small_mul hN4 hXb)
  have lD1 : (limbs D1).length ≤ 64 := Nat.le_trans (limbs_mono rl.2) (small_mul ys3 hHb)
  have cD := fun w' A a C c (h1 : Nt w' A a (limbs N1)) (h2 : Nt w' C c (limbs D1)) => Divide_any A a (limbs N1) C c (limbs D1) w' h1 h2 lN1 lD1 (by rw [V_limbs]; exact rp)
  simp only [V_limbs, rq] at cD
  have kle : N * X / (D * H) ≤ X := part_le ys1 ys2
  obtain ⟨K, hK⟩ : ∃ K, N * X / (D * H) = K := ⟨_, rfl⟩
  simp only [hK] at cD kle ⊢
  have cS := fun A a w' (h1 : Nt w' A a (limbs K)) => Small_any A a K w' h1 (Nat.lt_of_le_of_lt (Nat.le_trans kle bX) (by decide))
  have wm : IntKind.u64.wrap (m : Int) = (m : Int) := wrapU rfl (by omega)
  have wK := wrapK kle bX
  have XB := Lib.hid bX
  have KLE := Lib.hid kle
  clear hN1 hD1 rl rp rq lN1 lD1 hK kle hN4 hXb hHb bX bH DH ys1 ys2 ys3
  obtain ⟨at0, gt0, hb0⟩ := boxes2 o g w
  unfold Opt.val Opt.cs Gn.val
  have At0 := Lib.hid at0; have Gt0 := Lib.hid gt0
  clear at0 gt0
  go_enter Tryz.func17, Tryz.ntmps17
  go_upto_region 1 with fail
  obtain ⟨W, hW⟩ : ∃ W, ((w.alloc (.cells #[.int .i64 o.k, .int .i64 o.c0, .int .i64 o.c1, .int .i64 o.c2, .int .i64 o.v0, .int .i64 o.v1, .int .i64 o.v2, .int .i64 o.v3, .int .i64 o.w0, .int .i64 o.w1, .int .i64 o.w2, .int .i64 o.w3, .int .i64 o.s0, .int .i64 o.s1, .int .i64 o.s2, .int .i64 o.s3, .int .i64 o.eta, .int .i64 o.dark] 60)).alloc (.cells #[.int .i64 g.a0, .int .i64 g.h0, .int .i64 g.x0, .int .i64 g.a1, .int .i64 g.h1, .int .i64 g.x1, .int .i64 g.a2, .int .i64 g.h2, .int .i64 g.x2] 63)) = W := ⟨_, rfl⟩
  rw [hW] at hb0 At0 Gt0 ⊢
  clear hW
  go_wp2_with (first | (refine wpList_load_row rfl 60 _ rfl w.heap.size rfl 60 _ (0, 0) _ At0.out Tryz.underlying60 rfl (by kernel_rfl) ?_) | (refine wpList_load_row rfl 63 _ rfl (w.heap.size + 1) rfl 63 _ (0, 0) _ Gt0.out Tryz.underlying63 rfl (by kernel_rfl) ?_))
  refine (cK _).mono ?_
  rintro e w2 ⟨v1, v2, rfl, b1, b2, hb2⟩
  obtain ⟨A1, a1', rfl, n1⟩ := b1.nt
  obtain ⟨A2, a2', rfl, n2⟩ := b2.nt
  have q2 := below_trans hb0 hb2
  have at2 := At0.out.on hb2
  have gt2 := Gt0.out.on hb2
  have al := below_alloc (Below.refl w2.heap.size w2) (.cells #[.slice A1 (limbs N).length a1', .slice A2 (limbs D).length a2'] 53)
  have al2 := below_alloc al (.cells #[.int .i64 (a2 : Int), .int .i64 (h2 : Int), .int .i64 (x2 : Int)] 62)
  obtain ⟨k0, k1, k2, k3, k4, k5, k6, k7, k8⟩ := gn_cells (gt2.on al) HG.out
  clear b1 b2 cK
  go_upto_region 9 with (first | (go_at_call 23; refine (between_any (m : Int) 0 512 _).mono ?_; rintro e w' ⟨rfl, rfl⟩; rw [hb]))
  have gt5 := (gt2.on al).on (below_alloc (Below.refl _ _) (.cells #[.int .i64 (a2 : Int), .int .i64 (h2 : Int), .int .i64 (x2 : Int)] 62))
  have f0 : ((w2.alloc (.cells #[.slice A1 (limbs N).length a1', .slice A2 (limbs D).length a2'] 53)).alloc (.cells #[.int .i64 (a2 : Int), .int .i64 (h2 : Int), .int .i64 (x2 : Int)] 62)).cell? ⟨w2.heap.size, 0, none⟩ = some (.slice A1 (limbs N).length a1') := by go_simp
  have f1 : ((w2.alloc (.cells #[.slice A1 (limbs N).length a1', .slice A2 (limbs D).length a2'] 53)).alloc (.cells #[.int .i64 (a2 : Int), .int .i64 (h2 : Int), .int .i64 (x2 : Int)] 62)).cell? ⟨w2.heap.size, 1, none⟩ = some (.slice A2 (limbs D).length a2') := by go_simp
  have f2 : ((w2.alloc (.cells #[.slice A1 (limbs N).length a1', .slice A2 (limbs D).length a2'] 53)).alloc (.cells #[.int .i64 (a2 : Int), .int .i64 (h2 : Int), .int .i64 (x2 : Int)] 62)).cell? ⟨w2.heap.size + 1, 0, none⟩ = some (.int .i64 (a2 : Int)) := by go_simp
  have f3 : ((w2.alloc (.cells #[.slice A1 (limbs N).length a1', .slice A2 (limbs D).length a2'] 53)).alloc (.cells #[.int .i64 (a2 : Int), .int .i64 (h2 : Int), .int .i64 (x2 : Int)] 62)).cell? ⟨w2.heap.size + 1, 1, none⟩ = some (.int .i64 (h2 : Int)) := by go_simp
  have x13 : ((w2.alloc (.cells #[.slice A1 (limbs N).length a1', .slice A2 (limbs D).length a2'] 53)).alloc (.cells #[.int .i64 (a2 : Int), .int .i64 (h2 : Int), .int .i64 (x2 : Int)] 62)).cell? ⟨w.heap.size, 13, none⟩ = some (.int .i64 o.s1) := (at2.on al2).x13
  have nn1 := n1.on al2
  have nn2 := n2.on al2
  have q5 := below_trans q2 al2
  obtain ⟨w5, hw5⟩ : ∃ w5, (w2.alloc (.cells #[.slice A1 (limbs N).length a1', .slice A2 (limbs D).length a2'] 53)).alloc (.cells #[.int .i64 (a2 : Int), .int .i64 (h2 : Int), .int .i64 (x2 : Int)] 62) = w5 := ⟨_, rfl⟩
  rw [hw5] at f0 f1 f2 f3 x13 nn1 nn2 q5 ⊢
  clear hw5 al al2 gt5 gt2 at2 k0 k1 k2 k3 k4 k5 k6 k7 k8 n1 n2 q2 hb2 hb0 At0 Gt0
  have L2 := fun w' (hb : Below w5.heap.size w5 w') => bel_cell hb f2
  have L3 := fun w' (hb : Below w5.heap.size w5 w') => bel_cell hb f3
  have L4 := fun w' (hb : Below w5.heap.size w5 w') => bel_cell hb x13
  have F0 := Lib.hid f0; have F1 := Lib.hid f1
  clear f0 f1 f2 f3 x13
  go_cut [11] (fun va wx => ∃ q A3 a3 A4 a4, va = .pointer (some ⟨q, 0, none⟩) ∧ wx.cell? ⟨q, 0, none⟩ = some (.slice A3 (limbs X).length a3) ∧ wx.cell? ⟨q, 1, none⟩ = some (.slice A4 (limbs H).length a4) ∧ Nt wx A3 a3 (limbs X) ∧ Nt wx A4 a4 (limbs H) ∧ Below w5.heap.size w5 wx)
  case first =>
    refine wp_region_held_drew (S := fun w' => Below w5.heap.size w5 w') (by kernel_rfl) (Below.refl _ _).drew (fun hHeld => ?_)
    have B0 : Below w5.heap.size w5 w5.drew := (Below.refl _ _).drew
    (refine wpAnyH_take (i := 0) (v := ?_) rfl (by kernel_rfl) (by kernel_rfl) (by kernel_rfl) (fun _ _ _ h => h) (Or.inl ⟨by rfl, ?_⟩) (by assumption) ?_; rotate_left 1; (focus (intro wz hSz; (try dsimp only at hSz); go_simp; (try with_reducible rfl))); (try simp only [Act.put, List.setIfInBounds_toArray, List.set_cons_zero, List.set_cons_succ]))
    (refine wpAnyH_take (i := 1) (v := ?_) rfl (by kernel_rfl) (by kernel_rfl) (by kernel_rfl) (fun _ _ _ h => h) (Or.inl ⟨by rfl, ?_⟩) (by assumption) ?_; rotate_left 1; (focus (intro wz hSz; (try dsimp only at hSz); go_simp; (try with_reducible rfl))); (try simp only [Act.put, List.setIfInBounds_toArray, List.set_cons_zero, List.set_cons_succ]))
    (refine wpAnyH_take (i := 2) (v := ?_) rfl (by kernel_rfl) (by kernel_rfl) (by kernel_rfl) (fun _ _ _ h => h) (Or.inl ⟨by rfl, ?_⟩) (by assumption) ?_; rotate_left 1; (focus (intro wz hSz; (try dsimp only at hSz); go_simp; (try with_reducible rfl))); (try simp only [Act.put, List.setIfInBounds_toArray, List.set_cons_zero, List.set_cons_succ]))
    (refine wpAnyH_take (i := 3) (v := ?_) rfl (by kernel_rfl) (by kernel_rfl) (by kernel_rfl) (fun _ _ _ h => h) (Or.inl ⟨by rfl, ?_⟩) (by assumption) ?_; rotate_left 1; (focus (intro wz hSz; (try dsimp only at hSz); go_simp; (try with_reducible rfl))); (try simp only [Act.put, List.setIfInBounds_toArray, List.set_cons_zero, List.set_cons_succ]))
    (refine wpAnyH_take (i := 4) (v := ?_) rfl (by kernel_rfl) (by kernel_rfl) (by kernel_rfl) (fun _ _ _ h => h) (Or.inl ⟨by rfl, ?_⟩) (by assumption) ?_; rotate_left 1; (focus (intro wz hSz; (try dsimp only at hSz); go_simp; (try with_reducible rfl))); (try simp only [Act.put, List.setIfInBounds_toArray, List.set_cons_zero, List.set_cons_succ]))
    (refine wpAnyH_take (i := 5) (v := ?_) rfl (by kernel_rfl) (by kernel_rfl) (by kernel_rfl) (fun _ _ _ h => h) (Or.inl ⟨by rfl, ?_⟩) (by assumption) ?_; rotate_left 1; (focus (intro wz hSz; (try dsimp only at hSz); go_simp; (try with_reducible rfl))); (try simp only [Act.put, List.setIfInBounds_toArray, List.set_cons_zero, List.set_cons_succ]))
    (refine wpAnyH_take (i := 6) (v := ?_) rfl (by kernel_rfl) (by kernel_rfl) (by kernel_rfl) (fun _ _ _ h => h) (Or.inl ⟨by rfl, ?_⟩) (by assumption) ?_; rotate_left 1; (focus (intro wz hSz; (try dsimp only at hSz); go_simp; (try with_reducible rfl))); (try simp only [Act.put, List.setIfInBounds_toArray, List.set_cons_zero, List.set_cons_succ]))
    (refine wpAnyH_take (i := 7) (v := ?_) rfl (by kernel_rfl) (by kernel_rfl) (by kernel_rfl) (fun _ _ _ h => h) (Or.inl ⟨by rfl, ?_⟩) (by assumption) ?_; rotate_left 1; (focus (intro wz hSz; (try dsimp only at hSz); go_simp; (try with_reducible rfl))); (try simp only [Act.put, List.setIfInBounds_toArray, List.set_cons_zero, List.set_cons_succ]))
    (refine wpAnyH_take (i := 8) (v := ?_) rfl (by kernel_rfl) (by kernel_rfl) (by kernel_rfl) (fun _ _ _ h => h) (Or.inl ⟨by rfl, ?_⟩) (by assumption) ?_; rotate_left 1; (focus (intro wz hSz; (try dsimp only at hSz); go_simp; (try with_reducible rfl))); (try simp only [Act.put, List.setIfInBounds_toArray, List.set_cons_zero, List.set_cons_succ]))
    (refine wpAnyH_take (i := 10) (v := ?_) rfl (by kernel_rfl) (by kernel_rfl) (by kernel_rfl) (fun _ _ _ h => h) (Or.inl ⟨by rfl, ?_⟩) (by assumption) ?_; rotate_left 1; (focus (intro wz hSz; (try dsimp only at hSz); go_simp; (try with_reducible rfl))); (try simp only [Act.put, List.setIfInBounds_toArray, List.set_cons_zero, List.set_cons_succ]))
    (refine wpAnyH_take (i := 11) (v := ?_) rfl (by kernel_rfl) (by kernel_rfl) (by kernel_rfl) (fun _ _ _ h => h) (Or.inl ⟨by rfl, ?_⟩) (by assumption) ?_; rotate_left 1; (focus (intro wz hSz; (try dsimp only at hSz); go_simp; (try with_reducible rfl))); (try simp only [Act.put, List.setIfInBounds_toArray, List.set_cons_zero, List.set_cons_succ]))
    (refine wpAnyH_take (i := 12) (v := ?_) rfl (by kernel_rfl) (by kernel_rfl) (by kernel_rfl) (fun _ _ _ h => h) (Or.inl ⟨by rfl, ?_⟩) (by assumption) ?_; rotate_left 1; (focus (intro wz hSz; (try dsimp only at hSz); go_simp; (try with_reducible rfl))); (try simp only [Act.put, List.setIfInBounds_toArray, List.set_cons_zero, List.set_cons_succ]))
    refine wpAnyH_ready (rs := [9, 15]) (by kernel_rfl) (by simp) ?_
    refine AllReadyH.cons rfl (fun K1 hK1 => ?_) (AllReadyH.cons rfl (fun K1 hK1 => ?_) AllReadyH.nil)
    · go_simp
      refine (cV1 _).mono ?_
      rintro e y6 ⟨vv, rfl, bb, hx9⟩
      obtain ⟨A3, a3', rfl, n3⟩ := bb.nt
      have B6 := below_trans B0 hx9
      have bn3 := Lib.hid bb
      clear bb
      go_wp2_with fail
      refine hK1.out _ _ B6 (fun hHeldN => ?_)
      clear hK1 K1
      (try simp only [Act.put, List.getElem_toArray, List.getElem_cons_succ, List.getElem_cons_zero, List.setIfInBounds_toArray, List.set_cons_zero, List.set_cons_succ])
      refine wpAnyH_ready (rs := [13, 15]) (by kernel_rfl) (by simp) ?_
      refine AllReadyH.cons rfl (fun K1 hK1 => ?_) (AllReadyH.cons rfl (fun K1 hK1 => ?_) AllReadyH.nil)
      · go_simp
        refine (cV2 _).mono ?_
        rintro e y7 ⟨vv, rfl, bb, hx13⟩
        obtain ⟨A4, a4', rfl, n4⟩ := bb.nt
        have B7 := below_trans B6 hx13
        clear bb
        go_wp2_with fail
        refine hK1.out _ _ B7 (fun hHeldN => ?_)
        clear hK1 K1
        (try simp only [Act.put, List.getElem_toArray, List.getElem_cons_succ, List.getElem_cons_zero, List.setIfInBounds_toArray, List.set_cons_zero, List.set_cons_succ])
        (refine wpAnyH_take (i := 14) (v := ?_) rfl (by kernel_rfl) (by kernel_rfl) (by kernel_rfl) (fun _ _ _ h => h) (Or.inl ⟨by rfl, ?_⟩) (by assumption) ?_; rotate_left 1; (focus (intro wz hSz; (try dsimp only at hSz); go_simp; (try with_reducible rfl))); (try simp only [Act.put, List.setIfInBounds_toArray, List.set_cons_zero, List.set_cons_succ]))
        refine wpAnyH_ready (rs := [15]) (by kernel_rfl) (by simp) ?_
        refine AllReadyH.cons rfl (fun K1 hK1 => ?_) AllReadyH.nil
        go_simp
        have B8 := below_alloc B7 (.cells #[.slice none 0 0, .slice none 0 0] 53)
        refine hK1.out _ _ B8 (fun hHeldN => ?_)
        clear hK1 K1
        (try simp only [Act.put, List.getElem_toArray, List.getElem_cons_succ, List.getElem_cons_zero, List.setIfInBounds_toArray, List.set_cons_zero, List.set_cons_succ])
        refine wpAnyH_ready (rs := [16]) (by kernel_rfl) (by simp) ?_
        refine AllReadyH.cons rfl (fun K1 hK1 => ?_) AllReadyH.nil
        have e0 : (y7.alloc (.cells #[.slice none 0 0, .slice none 0 0] 53)).cell? ⟨y7.heap.size, 0, none⟩ = some (.slice none 0 0) := by go_simp
        have e1 : (y7.alloc (.cells #[.slice none 0 0, .slice none 0 0] 53)).cell? ⟨y7.heap.size, 1, none⟩ = some (.slice none 0 0) := by go_simp
        have e2 : (y7.alloc (.cells #[.slice none 0 0, .slice none 0 0] 53)).frozen? ⟨y7.heap.size, 0, none⟩ = false := by go_simp
        have e3 : (y7.alloc (.cells #[.slice none 0 0, .slice none 0 0] 53)).frozen? ⟨y7.heap.size, 1, none⟩ = false := by go_simp
        have B9 := below_alloc B7 (.cells #[.slice A3 (limbs X).length a3', .slice A4 (limbs H).length a4'] 53)
        have M3 := (n3.on hx13).on (below_alloc (Below.refl y7.heap.size y7) (.cells #[.slice A3 (limbs X).length a3', .slice A4 (limbs H).length a4'] 53))
        have M4 := n4.on (below_alloc (Below.refl y7.heap.size y7) (.cells #[.slice A3 (limbs X).length a3', .slice A4 (limbs H).length a4'] 53))
        go_simp
        refine hK1.out _ _ B9 (fun hHeldN => ?_)
        clear hK1 K1
        (try simp only [Act.put, List.getElem_toArray, List.getElem_cons_succ, List.getElem_cons_zero, List.setIfInBounds_toArray, List.set_cons_zero, List.set_cons_succ])
        (try simp only [Act.put, List.getElem_toArray, List.getElem_cons_succ, List.getElem_cons_zero, List.setIfInBounds_toArray, List.set_cons_zero, List.set_cons_succ])
        refine wpAnyH_done (by kernel_rfl) ?_ _
        go_wp2_with fail
        go_meet
        case rel => exact ⟨y7.heap.size, _, _, _, _, rfl, new_cell rfl, new_cell rfl, M3, M4, B9⟩
      · go_simp
        have B7 := below_alloc B6 (.cells #[.slice none 0 0, .slice none 0 0] 53)
        refine hK1.out _ _ B7 (fun hHeldN => ?_)
        clear hK1 K1
        (try simp only [Act.put, List.getElem_toArray, List.getElem_cons_succ, List.getElem_cons_zero, List.setIfInBounds_toArray, List.set_cons_zero, List.set_cons_succ])
        refine wpAnyH_ready (rs := [13]) (by kernel_rfl) (by simp) ?_
        refine AllReadyH.cons rfl (fun K1 hK1 => ?_) AllReadyH.nil
        go_simp
        refine (cV2 _).mono ?_
        rintro e y8 ⟨vv, rfl, bb, hx13⟩
        obtain ⟨A4, a4', rfl, n4⟩ := bb.nt
        have B8 := below_trans B7 hx13
        have bn4 := Lib.hid bb
        clear bb
        go_wp2_with fail
        refine hK1.out _ _ B8 (fun hHeldN => ?_)
        clear hK1 K1
        (try simp only [Act.put, List.getElem_toArray, List.getElem_cons_succ, List.getElem_cons_zero, List.setIfInBounds_toArray, List.set_cons_zero, List.set_cons_succ])
        (refine wpAnyH_take (i := 14) (v := ?_) rfl (by kernel_rfl) (by kernel_rfl) (by kernel_rfl) (fun _ _ _ h => h) (Or.inl ⟨by rfl, ?_⟩) (by assumption) ?_; rotate_left 1; (focus (intro wz hSz; (try dsimp only at hSz); go_simp; (try with_reducible rfl))); (try simp only [Act.put, List.setIfInBounds_toArray, List.set_cons_zero, List.set_cons_succ]))
        refine wpAnyH_ready (rs := [16]) (by kernel_rfl) (by simp) ?_
        refine AllReadyH.cons rfl (fun K1 hK1 => ?_) AllReadyH.nil
        have s6 : y6.heap.size < (y6.alloc (.cells #[.slice none 0 0, .slice none 0 0] 53)).heap.size := by simp
        have e0 : y8.cell? ⟨y6.heap.size, 0, none⟩ = some (.slice none 0 0) := bel_cell hx13 (by go_simp)
        have e1 : y8.cell? ⟨y6.heap.size, 1, none⟩ = some (.slice none 0 0) := bel_cell hx13 (by go_simp)
        have e2 : y8.frozen? ⟨y6.heap.size, 0, none⟩ = false := (hx13.frozen (p := ⟨y6.heap.size, 0, none⟩) s6).trans (by go_simp)
        have e3 : y8.frozen? ⟨y6.heap.size, 1, none⟩ = false := (hx13.frozen (p := ⟨y6.heap.size, 1, none⟩) s6).trans (by go_simp)
        have pb := part_box (q := y6.heap.size) ((n3.on (below_alloc (Below.refl y6.heap.size y6) (.cells #[.slice none 0 0, .slice none 0 0] 53))).on hx13) n4 (Big.farU bn3.out (Nat.le_refl _)) (Big.far bn4.out s6) e0 e1
        have B9 := (B8.setCell (p := ⟨y6.heap.size, 0, none⟩) B6.size (.slice A3 (limbs X).length a3')).setCell (p := ⟨y6.heap.size, 1, none⟩) B6.size (.slice A4 (limbs H).length a4')
        have PB := Lib.hid pb
        clear pb
        go_simp
        refine hK1.out _ _ B9 (fun hHeldN => ?_)
        clear hK1 K1
        (try simp only [Act.put, List.getElem_toArray, List.getElem_cons_succ, List.getElem_cons_zero, List.setIfInBounds_toArray, List.set_cons_zero, List.set_cons_succ])
        (try simp only [Act.put, List.getElem_toArray, List.getElem_cons_succ, List.getElem_cons_zero, List.setIfInBounds_toArray, List.set_cons_zero, List.set_cons_succ])
        refine wpAnyH_done (by kernel_rfl) ?_ _
        go_wp2_with fail
        go_meet
        case rel => exact ⟨y6.heap.size, _, _, _, _, rfl, PB.out.1, PB.out.2.1, PB.out.2.2.1, PB.out.2.2.2, B9⟩
    · go_simp
      have B1 : Below w5.heap.size w5 (w5.alloc (.cells #[.slice none 0 0, .slice none 0 0] 53)).drew := (below_alloc (Below.refl w5.heap.size w5) _).drew
      have s6 : w5.heap.size < (w5.alloc (.cells #[.slice none 0 0, .slice none 0 0] 53)).drew.heap.size := by simp
      have g0 : (w5.alloc (.cells #[.slice none 0 0, .slice none 0 0] 53)).drew.cell? ⟨w5.heap.size, 0, none⟩ = some (.slice none 0 0) := by go_simp
      have g1 : (w5.alloc (.cells #[.slice none 0 0, .slice none 0 0] 53)).drew.cell? ⟨w5.heap.size, 1, none⟩ = some (.slice none 0 0) := by go_simp
      have g2 : (w5.alloc (.cells #[.slice none 0 0, .slice none 0 0] 53)).drew.frozen? ⟨w5.heap.size, 0, none⟩ = false := by go_simp
      have g3 : (w5.alloc (.cells #[.slice none 0 0, .slice none 0 0] 53)).drew.frozen? ⟨w5.heap.size, 1, none⟩ = false := by go_simp
      refine hK1.out _ _ B1 (fun hHeldN => ?_)
      clear hK1 K1
      (try simp only [Act.put, List.getElem_toArray, List.getElem_cons_succ, List.getElem_cons_zero, List.setIfInBounds_toArray, List.set_cons_zero, List.set_cons_succ])
      refine wpAnyH_ready (rs := [9]) (by kernel_rfl) (by simp) ?_
      refine AllReadyH.cons rfl (fun K1 hK1 => ?_) AllReadyH.nil
      go_simp
      refine (cV1 _).mono ?_
      rintro e y6 ⟨vv, rfl, bb, hx9⟩
      obtain ⟨A3, a3', rfl, n3⟩ := bb.nt
      have B6 := below_trans B1 hx9
      have bn3 := Lib.hid bb
      clear bb
      go_wp2_with fail
      refine hK1.out _ _ B6 (fun hHeldN => ?_)
      clear hK1 K1
      (try simp only [Act.put, List.getElem_toArray, List.getElem_cons_succ, List.getElem_cons_zero, List.setIfInBounds_toArray, List.set_cons_zero, List.set_cons_succ])
      refine wpAnyH_ready (rs := [13]) (by kernel_rfl) (by simp) ?_
      refine AllReadyH.cons rfl (fun K1 hK1 => ?_) AllReadyH.nil
      go_simp
      refine (cV2 _).mono ?_
      rintro e y8 ⟨vv, rfl, bb, hx13⟩
      obtain ⟨A4, a4', rfl, n4⟩ := bb.nt
      have B8 := below_trans B6 hx13
      have bn4 := Lib.hid bb
      clear bb
      go_wp2_with fail
      refine hK1.out _ _ B8 (fun hHeldN => ?_)
      clear hK1 K1
      (try simp only [Act.put, List.getElem_toArray, List.getElem_cons_succ, List.getElem_cons_zero, List.setIfInBounds_toArray, List.set_cons_zero, List.set_cons_succ])
      (refine wpAnyH_take (i := 14) (v := ?_) rfl (by kernel_rfl) (by kernel_rfl) (by kernel_rfl) (fun _ _ _ h => h) (Or.inl ⟨by rfl, ?_⟩) (by assumption) ?_; rotate_left 1; (focus (intro wz hSz; (try dsimp only at hSz); go_simp; (try with_reducible rfl))); (try simp only [Act.put, List.setIfInBounds_toArray, List.set_cons_zero, List.set_cons_succ]))
      refine wpAnyH_ready (rs := [16]) (by kernel_rfl) (by simp) ?_
      refine AllReadyH.cons rfl (fun K1 hK1 => ?_) AllReadyH.nil
      have hx9' := below_trans hx9 hx13
      have e0 := bel_cell hx9' g0
      have e1 := bel_cell hx9' g1
      have e2 := (hx9'.frozen (p := ⟨w5.heap.size, 0, none⟩) s6).trans g2
      have e3 := (hx9'.frozen (p := ⟨w5.heap.size, 1, none⟩) s6).trans g3
      have pb := part_box (q := w5.heap.size) (n3.on hx13) n4 (Big.far bn3.out s6) (Big.far bn4.out (Nat.lt_of_lt_of_le s6 hx9.size)) e0 e1
      have B9 := (B8.setCell (p := ⟨w5.heap.size, 0, none⟩) (Nat.le_refl _) (.slice A3 (limbs X).length a3')).setCell (p := ⟨w5.heap.size, 1, none⟩) (Nat.le_refl _) (.slice A4 (limbs H).length a4')
      have PB := Lib.hid pb
      clear pb g0 g1 g2 g3
      go_simp
      refine hK1.out _ _ B9 (fun hHeldN => ?_)
      clear hK1 K1
      (try simp only [Act.put, List.getElem_toArray, List.getElem_cons_succ, List.getElem_cons_zero, List.setIfInBounds_toArray, List.set_cons_zero, List.set_cons_succ])
      (try simp only [Act.put, List.getElem_toArray, List.getElem_cons_succ, List.getElem_cons_zero, List.setIfInBounds_toArray, List.set_cons_zero, List.set_cons_succ])
      refine wpAnyH_done (by kernel_rfl) ?_ _
      go_wp2_with fail
      go_meet
      case rel => exact ⟨w5.heap.size, _, _, _, _, rfl, PB.out.1, PB.out.2.1, PB.out.2.2.1, PB.out.2.2.2, B9⟩
  obtain ⟨q, A3, a3, A4, a4, rfl, f2, f3, n3, n4, hbc⟩ := hcut
  have f0 := bel_cell hbc F0.out
  have f1 := bel_cell hbc F1.out
  have nx1 := nn1.on hbc
  have nx2 := nn2.on hbc
  have q6 := below_trans q5 hbc
  clear L2 L3 L4 F0 F1 hbc nn1 nn2 q5 j1 j2 j3 i1 i2 i3 cV1 cV2
  go_wp2_with fail
  refine (cM wc A1 a1' A2 a2' A3 a3 A4 a4 nx1 nx2 n3 n4).mono ?_
  rintro e w7 ⟨v1, v2, rfl, b1, b2, hx7⟩
  obtain ⟨A5, a5, rfl, n5⟩ := b1.nt
  obtain ⟨A6, a6, rfl, n6⟩ := b2.nt
  have q7 := below_trans q6 hx7
  have al7 := below_alloc (Below.refl w7.heap.size w7) (.cells #[.slice A5 (limbs N1).length a5, .slice A6 (limbs D1).length a6] 53)
  have m5 := n5.on al7
  have m6 := n6.on al7
  clear b1 b2 hx7 n5 n6 cM nx1 nx2 n3 n4 f0 f1 f2 f3
  go_wp2_with fail
  refine (cD _ A5 a5 A6 a6 m5 m6).mono ?_
  rintro e w8 ⟨v3, v4, rfl, b3, hx8⟩
  obtain ⟨A7, a7, rfl, n7⟩ := b3.nt
  have q8 := below_trans (below_trans q7 al7) hx8
  clear b3 hx8 m5 m6 cD
  have cS' := cS A7 a7 w8 n7
  clear cS
  have KL := KLE
  by_cases hlt : m < K
  · have hmin : min m K = m := Nat.min_eq_left (Nat.le_of_lt hlt)
    have HM := Lib.hid hmin
    clear hmin
    go_wp2_with (first | (go_at_call 45; refine (cS').mono ?_; rintro e w' ⟨rfl, rfl⟩))
    refine bodyPost_ret (v := .tuple #[.int .i64 (m : Int), .int .i64 0]) ?_ rfl ⟨by rw [HM.out], q8⟩
    unfold results
    go_simp
  · have hmin : min m K = K := Nat.min_eq_right (Nat.le_of_not_lt hlt)
    have HM := Lib.hid hmin
    clear hmin
    go_wp2_with (first | (go_at_call 45; refine (cS').mono ?_; rintro e w' ⟨rfl, rfl⟩))
    refine bodyPost_ret (v := .tuple #[.int .i64 (K : Int), .int .i64 0]) ?_ rfl ⟨by rw [HM.out], q8⟩
    unfold results
    go_simp

end Go.Proofs.YteoaaphjbggobaaGreatDoor
