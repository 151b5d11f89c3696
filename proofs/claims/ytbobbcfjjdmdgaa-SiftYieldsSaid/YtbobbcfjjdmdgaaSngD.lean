/- Contract of the reference's Singles, the main case, and of both. For any arrangement, gains and number. -/
import Derived.Test.YtbobbcfjjdmdgaaSngC
namespace Go.Proofs.Ytbobbcfjjdmdgaa
open Go.RowKit
set_option linter.unusedVariables false
set_option linter.unusedSimpArgs false

theorem key_mul {h H k : Nat} (e : (256 : Int) * (h : Int) = (H : Int)) : 256 * k * h = H * k := by
  have e2 : 256 * h = H := by omega
  rw [← e2, Nat.mul_right_comm]
theorem mul_lt8 {x y : Nat} (hx : x < B32 ^ 4) (hy : y < B32) : x * y < B32 ^ 8 := by
  have h1 : x * y < B32 ^ 4 * B32 := Nat.mul_lt_mul'' hx hy
  rw [← Nat.pow_succ] at h1
  exact Nat.lt_of_lt_of_le h1 (Nat.pow_le_pow_right (by decide) (by decide))
set_option maxRecDepth 100000 in
set_option maxHeartbeats 8000000 in
theorem rsng_main (o : Opt) (g : Gn) (n : Int) (w : World) (hE : gainsE o g = 0) (hn : 0 ≤ n ∧ n ≤ 512) (hz : g.h2 ≠ 0) : Calls Try.prog 18 #[o.val, g.val, .int .i64 n] w fun e w' => e = .returned (.tuple #[.int .i64 ((min n.toNat (brN 0 (yNum o g) (yDen o g) * (n * o.s1 * g.a2).toNat / (brD 0 (yNum o g) (yDen o g) * (256 * g.h2).toNat)) : Nat) : Int), .int .i64 0]) ∧ Below w.heap.size w w' := by
  have cK := fun w' => rYield_any o g w'
  obtain ⟨ys1, ys2, ys3⟩ := yld_small hE
  obtain ⟨sE, oE, pos, _⟩ := gains_opt hE
  obtain ⟨_, q3, q4, q5⟩ := row_bounds oE
  obtain ⟨a0, h0, x0, a1, h1, x1, a2, h2, x2, hg, ⟨m1, m2, m3, m4⟩, ⟨m5, m6, m7, m8⟩, m9, m10, m11, m12⟩ := gains_nat hE
  have e1 : g.a2 = (a2 : Int) := by rw [hg]
  have e2 : g.h2 = (h2 : Int) := by rw [hg]
  have h2p : 0 < h2 := by omega
  obtain ⟨m, rfl⟩ := Int.eq_ofNat_of_zero_le hn.1
  have hm : m ≤ 512 := by omega
  have ca2 : 0 ≤ (a2 : Int) ∧ (a2 : Int) ≤ 4096 := by omega
  have ch2 : 0 ≤ (h2 : Int) ∧ (h2 : Int) ≤ 4096 := by omega
  obtain ⟨P1, hP1, v1, i1⟩ := imulS (a := (m : Int)) (b := o.s1) (A := 512) (B := 256) (by omega) q4 (by decide) (by decide)
  obtain ⟨P2, hP2, v2, i2⟩ := imulS (a := P1) (b := (a2 : Int)) (A := 512 * 256) (B := 4096) v1 ca2 (by decide) (by decide)
  obtain ⟨P3, hP3, v3, i3⟩ := imulS (a := 256) (b := (h2 : Int)) (A := 256) (B := 4096) (by decide) ch2 (by decide) (by decide)
  have hX0 : 0 ≤ P2 := by rw [← hP2, ← hP1]; exact Int.mul_nonneg (Int.mul_nonneg (by omega) q4.1) ca2.1
  obtain ⟨X, hX⟩ := Int.eq_ofNat_of_zero_le hX0
  obtain ⟨H, hH⟩ : ∃ H : Nat, P3 = (H : Int) := ⟨P3.toNat, by omega⟩
  have bX : X ≤ 536870912 := by omega
  have bH : 0 < H ∧ H ≤ 1048576 := by omega
  have eX : ((m : Int) * o.s1 * g.a2).toNat = X := by rw [e1, hP1, hP2, hX]; rfl
  have eH : (256 * g.h2).toNat = H := by rw [e2, hP3, hH]; rfl
  rw [eX, eH, show ((m : Int)).toNat = m from rfl]
  rw [hX] at i2
  rw [hH] at i3
  have j1 : IntKind.i64.wrap ((m : Int) * o.s1) = P1 := wrap_of i1
  have j2 : IntKind.i64.wrap (P1 * (a2 : Int)) = (X : Int) := wrap_of i2
  have h2l : h2 ≤ 4096 := by omega
  have hH3 : (256 : Int) * (h2 : Int) = (H : Int) := by rw [hP3, hH]
  have j3 : IntKind.i64.wrap (256 * (h2 : Int)) = (H : Int) := wrap_of i3
  unfold Opt.val Opt.cs Gn.val FrP at cK
  simp only [hE] at cK
  obtain ⟨N, hN⟩ : ∃ N, brN 0 (yNum o g) (yDen o g) = N := ⟨_, rfl⟩
  obtain ⟨D, hD⟩ : ∃ D, brD 0 (yNum o g) (yDen o g) = D := ⟨_, rfl⟩
  simp only [hN, hD] at cK
  rw [hN, hD] at ys1 ⊢
  rw [hD] at ys2 ys3
  have hN4 : N < B32 ^ 4 := Nat.lt_of_le_of_lt ys1 ys3
  have hXb : X < B32 := by unfold B32; omega
  have hHb : H < B32 := by unfold B32; omega
  have hb : betwB (m : Int) 0 512 = true := by unfold betwB; simp; omega
  have HG := Lib.hid hg
  have hz' : ((h2 : Int) == 0) = false := by simp; omega
  clear hP1 hP2 hP3 hX hH hX0 eX eH v1 v2 v3 hE hN hD sE oE pos hz hg e1 e2 m1 m2 m3 m4 m5 m6 m7 m8 m9 m10 m11 m12 ca2 ch2 q3 q4 q5 hn
  have cV1 := fun w' => rOf_any X w' (by omega)
  have cM := fun w' A a C c (h1 : Nt w' A a (limbs N)) (h2 : Nt w' C c (limbs X)) => rMul_any A a N C c X w' h1 h2 hN4 (Nat.lt_of_lt_of_le hXb (by decide))
  have cVH := fun (h : Nat) w' (hh : h ≤ 536870912) => rOf_any h w' (Nat.lt_of_le_of_lt hh (by decide))
  have cMH := fun (h : Nat) w' A a C c (h1 : Nt w' A a (limbs D)) (h2 : Nt w' C c (limbs h)) (hh : h ≤ 536870912) => rMul_any A a D C c h w' h1 h2 ys3 (Nat.lt_of_le_of_lt hh (by decide))
  have cC := fun (h : Nat) w' A a C c (h1 : Nt w' A a (limbs (D * h))) (h2 : Nt w' C c (limbs (N * X))) (hh : h ≤ 536870912) => rCompare_any A a (D * h) C c (N * X) w' h1 h2 (mul_lt8 ys3 (Nat.lt_of_le_of_lt hh (by decide))) (mul_lt8 hN4 hXb)
  have DH : 0 < D * H := Nat.mul_pos ys2 bH.1
  have step : ∀ k, k ≤ N * X / (D * H) → (D * (H * (k + 1)) ≤ N * X ↔ k + 1 ≤ N * X / (D * H)) := fun k _ => by
    rw [Nat.le_div_iff_mul_le DH, ← Nat.mul_assoc, Nat.mul_comm (k + 1)]
  obtain ⟨K, hK⟩ : ∃ K, N * X / (D * H) = K := ⟨_, rfl⟩
  simp only [hK] at step ⊢
  obtain ⟨Z, hZ⟩ : ∃ Z, N * X = Z := ⟨_, rfl⟩
  simp only [hZ] at cM cC step
  have wX : IntKind.u64.wrap (X : Int) = (X : Int) := wrapU rfl (by omega)
  have ST := Lib.hid step
  have EH := Lib.hid (show (256 : Int) * (h2 : Int) = (H : Int) from hH3)
  have H2 := Lib.hid (show h2 ≤ 4096 from h2l)
  have BH := Lib.hid bH
  clear h2l hK hZ step hN4 hXb hHb bX bH DH ys1 ys2 ys3 hH3 i3 j3
  obtain ⟨at0, gt0, hb0⟩ := boxes2 o g w
  unfold Opt.val Opt.cs Gn.val
  have At0 := Lib.hid at0; have Gt0 := Lib.hid gt0
  clear at0 gt0
  go_enter Try.func18, Try.ntmps18
  go_upto_region 1 with fail
  obtain ⟨W, hW⟩ : ∃ W, ((w.alloc (.cells #[.int .i64 o.k, .int .i64 o.c0, .int .i64 o.c1, .int .i64 o.c2, .int .i64 o.v0, .int .i64 o.v1, .int .i64 o.v2, .int .i64 o.v3, .int .i64 o.w0, .int .i64 o.w1, .int .i64 o.w2, .int .i64 o.w3, .int .i64 o.s0, .int .i64 o.s1, .int .i64 o.s2, .int .i64 o.s3, .int .i64 o.eta, .int .i64 o.dark] 26)).alloc (.cells #[.int .i64 g.a0, .int .i64 g.h0, .int .i64 g.x0, .int .i64 g.a1, .int .i64 g.h1, .int .i64 g.x1, .int .i64 g.a2, .int .i64 g.h2, .int .i64 g.x2] 35)) = W := ⟨_, rfl⟩
  rw [hW] at hb0 At0 Gt0 ⊢
  clear hW
  go_wp2_with (first | (refine wpList_load_row rfl 26 _ rfl w.heap.size rfl 26 _ (0, 0) _ At0.out Try.underlying26 rfl (by kernel_rfl) ?_) | (refine wpList_load_row rfl 35 _ rfl (w.heap.size + 1) rfl 35 _ (0, 0) _ Gt0.out Try.underlying35 rfl (by kernel_rfl) ?_))
  refine (cK _).mono ?_
  rintro e w2 ⟨v1, v2, rfl, b1, b2, hb2⟩
  obtain ⟨A1, a1', rfl, n1⟩ := b1.nt
  obtain ⟨A2, a2', rfl, n2⟩ := b2.nt
  have q2 := below_trans hb0 hb2
  have at2 := At0.out.on hb2
  have gt2 := Gt0.out.on hb2
  have al := below_alloc (Below.refl w2.heap.size w2) (.cells #[.slice A1 (limbs N).length a1', .slice A2 (limbs D).length a2'] 39)
  have al2 := below_alloc al (.cells #[.int .i64 (a2 : Int), .int .i64 (h2 : Int), .int .i64 (x2 : Int)] 34)
  obtain ⟨k0, k1, k2, k3, k4, k5, k6, k7, k8⟩ := gn_cells (gt2.on al) HG.out
  clear b1 b2 cK
  go_upto_region 9 with (first | (go_at_call 64; refine (within_any (m : Int) 512 _).mono ?_; rintro e w' ⟨rfl, rfl⟩; rw [hb]))
  have gt5 := (gt2.on al).on (below_alloc (Below.refl _ _) (.cells #[.int .i64 (a2 : Int), .int .i64 (h2 : Int), .int .i64 (x2 : Int)] 34))
  have f0 : ((w2.alloc (.cells #[.slice A1 (limbs N).length a1', .slice A2 (limbs D).length a2'] 39)).alloc (.cells #[.int .i64 (a2 : Int), .int .i64 (h2 : Int), .int .i64 (x2 : Int)] 34)).cell? ⟨w2.heap.size, 0, none⟩ = some (.slice A1 (limbs N).length a1') := by go_simp
  have f1 : ((w2.alloc (.cells #[.slice A1 (limbs N).length a1', .slice A2 (limbs D).length a2'] 39)).alloc (.cells #[.int .i64 (a2 : Int), .int .i64 (h2 : Int), .int .i64 (x2 : Int)] 34)).cell? ⟨w2.heap.size, 1, none⟩ = some (.slice A2 (limbs D).length a2') := by go_simp
  have f2 : ((w2.alloc (.cells #[.slice A1 (limbs N).length a1', .slice A2 (limbs D).length a2'] 39)).alloc (.cells #[.int .i64 (a2 : Int), .int .i64 (h2 : Int), .int .i64 (x2 : Int)] 34)).cell? ⟨w2.heap.size + 1, 0, none⟩ = some (.int .i64 (a2 : Int)) := by go_simp
  have f3 : ((w2.alloc (.cells #[.slice A1 (limbs N).length a1', .slice A2 (limbs D).length a2'] 39)).alloc (.cells #[.int .i64 (a2 : Int), .int .i64 (h2 : Int), .int .i64 (x2 : Int)] 34)).cell? ⟨w2.heap.size + 1, 1, none⟩ = some (.int .i64 (h2 : Int)) := by go_simp
  have x13 : ((w2.alloc (.cells #[.slice A1 (limbs N).length a1', .slice A2 (limbs D).length a2'] 39)).alloc (.cells #[.int .i64 (a2 : Int), .int .i64 (h2 : Int), .int .i64 (x2 : Int)] 34)).cell? ⟨w.heap.size, 13, none⟩ = some (.int .i64 o.s1) := (at2.on al2).x13
  have nn1 := n1.on al2
  have nn2 := n2.on al2
  have q5 := below_trans q2 al2
  obtain ⟨w5, hw5⟩ : ∃ w5, (w2.alloc (.cells #[.slice A1 (limbs N).length a1', .slice A2 (limbs D).length a2'] 39)).alloc (.cells #[.int .i64 (a2 : Int), .int .i64 (h2 : Int), .int .i64 (x2 : Int)] 34) = w5 := ⟨_, rfl⟩
  rw [hw5] at f0 f1 f2 f3 x13 nn1 nn2 q5 ⊢
  clear hw5 al al2 gt5 gt2 at2 k0 k1 k2 k3 k4 k5 k6 k7 k8 n1 n2 q2 hb2 hb0 At0 Gt0
  have L2 := fun w' (hb : Below w5.heap.size w5 w') => bel_cell hb f2
  have L3 := fun w' (hb : Below w5.heap.size w5 w') => bel_cell hb f3
  have L4 := fun w' (hb : Below w5.heap.size w5 w') => bel_cell hb x13
  have F0 := Lib.hid f0; have F1 := Lib.hid f1
  clear f0 f1 f2 f3 x13
  have L0 := fun w' (hb : Below w5.heap.size w5 w') => bel_cell hb F0.out
  go_upto_region 9 with fail
  refine wp_region_held_drew (S := fun w' => Below w5.heap.size w5 w') (by kernel_rfl) (Below.refl _ _).drew (fun hHeld => ?_)
  have B0 : Below w5.heap.size w5 w5.drew := (Below.refl _ _).drew
  (refine wpAnyH_take (i := 0) (v := ?_) rfl (by kernel_rfl) (by kernel_rfl) (by kernel_rfl) (fun _ _ _ h => h) (Or.inl ⟨by rfl, ?_⟩) (by assumption) ?_; rotate_left 1; (focus (intro wz hSz; (try dsimp only at hSz); go_simp; (try with_reducible rfl))); (try simp only [Act.put, List.setIfInBounds_toArray, List.set_cons_zero, List.set_cons_succ]))
  (refine wpAnyH_take (i := 1) (v := ?_) rfl (by kernel_rfl) (by kernel_rfl) (by kernel_rfl) (fun _ _ _ h => h) (Or.inl ⟨by rfl, ?_⟩) (by assumption) ?_; rotate_left 1; (focus (intro wz hSz; (try dsimp only at hSz); go_simp; (try with_reducible rfl))); (try simp only [Act.put, List.setIfInBounds_toArray, List.set_cons_zero, List.set_cons_succ]))
  (refine wpAnyH_take (i := 2) (v := ?_) rfl (by kernel_rfl) (by kernel_rfl) (by kernel_rfl) (fun _ _ _ h => h) (Or.inl ⟨by rfl, ?_⟩) (by assumption) ?_; rotate_left 1; (focus (intro wz hSz; (try dsimp only at hSz); go_simp; (try with_reducible rfl))); (try simp only [Act.put, List.setIfInBounds_toArray, List.set_cons_zero, List.set_cons_succ]))
  (refine wpAnyH_take (i := 3) (v := ?_) rfl (by kernel_rfl) (by kernel_rfl) (by kernel_rfl) (fun _ _ _ h => h) (Or.inl ⟨by rfl, ?_⟩) (by assumption) ?_; rotate_left 1; (focus (intro wz hSz; (try dsimp only at hSz); go_simp; (try with_reducible rfl))); (try simp only [Act.put, List.setIfInBounds_toArray, List.set_cons_zero, List.set_cons_succ]))
  (refine wpAnyH_take (i := 4) (v := ?_) rfl (by kernel_rfl) (by kernel_rfl) (by kernel_rfl) (fun _ _ _ h => h) (Or.inl ⟨by rfl, ?_⟩) (by assumption) ?_; rotate_left 1; (focus (intro wz hSz; (try dsimp only at hSz); go_simp; (try with_reducible rfl))); (try simp only [Act.put, List.setIfInBounds_toArray, List.set_cons_zero, List.set_cons_succ]))
  (refine wpAnyH_take (i := 5) (v := ?_) rfl (by kernel_rfl) (by kernel_rfl) (by kernel_rfl) (fun _ _ _ h => h) (Or.inl ⟨by rfl, ?_⟩) (by assumption) ?_; rotate_left 1; (focus (intro wz hSz; (try dsimp only at hSz); go_simp; (try with_reducible rfl))); (try simp only [Act.put, List.setIfInBounds_toArray, List.set_cons_zero, List.set_cons_succ]))
  (refine wpAnyH_take (i := 6) (v := ?_) rfl (by kernel_rfl) (by kernel_rfl) (by kernel_rfl) (fun _ _ _ h => h) (Or.inl ⟨by rfl, ?_⟩) (by assumption) ?_; rotate_left 1; (focus (intro wz hSz; (try dsimp only at hSz); go_simp; (try with_reducible rfl))); (try simp only [Act.put, List.setIfInBounds_toArray, List.set_cons_zero, List.set_cons_succ]))
  (refine wpAnyH_take (i := 7) (v := ?_) rfl (by kernel_rfl) (by kernel_rfl) (by kernel_rfl) (fun _ _ _ h => h) (Or.inl ⟨by rfl, ?_⟩) (by assumption) ?_; rotate_left 1; (focus (intro wz hSz; (try dsimp only at hSz); go_simp; (try with_reducible rfl))); (try simp only [Act.put, List.setIfInBounds_toArray, List.set_cons_zero, List.set_cons_succ]))
  (refine wpAnyH_take (i := 8) (v := ?_) rfl (by kernel_rfl) (by kernel_rfl) (by kernel_rfl) (fun _ _ _ h => h) (Or.inl ⟨by rfl, ?_⟩) (by assumption) ?_; rotate_left 1; (focus (intro wz hSz; (try dsimp only at hSz); go_simp; (try with_reducible rfl))); (try simp only [Act.put, List.setIfInBounds_toArray, List.set_cons_zero, List.set_cons_succ]))
  (refine wpAnyH_take (i := 9) (v := ?_) rfl (by kernel_rfl) (by kernel_rfl) (by kernel_rfl) (fun _ _ _ h => h) (Or.inl ⟨by rfl, ?_⟩) (by assumption) ?_; rotate_left 1; (focus (intro wz hSz; (try dsimp only at hSz); go_simp; (try with_reducible rfl))); (try simp only [Act.put, List.setIfInBounds_toArray, List.set_cons_zero, List.set_cons_succ]))
  (refine wpAnyH_take (i := 10) (v := ?_) rfl (by kernel_rfl) (by kernel_rfl) (by kernel_rfl) (fun _ _ _ h => h) (Or.inl ⟨by rfl, ?_⟩) (by assumption) ?_; rotate_left 1; (focus (intro wz hSz; (try dsimp only at hSz); go_simp; (try with_reducible rfl))); (try simp only [Act.put, List.setIfInBounds_toArray, List.set_cons_zero, List.set_cons_succ]))
  (refine wpAnyH_take (i := 11) (v := ?_) rfl (by kernel_rfl) (by kernel_rfl) (by kernel_rfl) (fun _ _ _ h => h) (Or.inl ⟨by rfl, ?_⟩) (by assumption) ?_; rotate_left 1; (focus (intro wz hSz; (try dsimp only at hSz); go_simp; (try with_reducible rfl))); (try simp only [Act.put, List.setIfInBounds_toArray, List.set_cons_zero, List.set_cons_succ]))
  refine wpAnyH_ready (rs := [12]) (by kernel_rfl) (by simp) ?_
  refine AllReadyH.cons rfl (fun K1 hK1 => ?_) AllReadyH.nil
  go_simp
  refine (cV1 _).mono ?_
  rintro e y6 ⟨vv, rfl, bb, hx6⟩
  obtain ⟨A3, a3, rfl, n3⟩ := bb.nt
  have B6 := below_trans B0 hx6
  clear bb
  go_wp2_with fail
  refine hK1.out _ _ B6 (fun hHeldN => ?_)
  clear hK1 K1
  (try simp only [Act.put, List.getElem_toArray, List.getElem_cons_succ, List.getElem_cons_zero, List.setIfInBounds_toArray, List.set_cons_zero, List.set_cons_succ])
  refine wpAnyH_ready (rs := [13]) (by kernel_rfl) (by simp) ?_
  refine AllReadyH.cons rfl (fun K1 hK1 => ?_) AllReadyH.nil
  go_simp
  refine (cM y6 A1 a1' A3 a3 (nn1.on B6) n3).mono ?_
  rintro e y7 ⟨vv, rfl, bb, hx7⟩
  obtain ⟨A4, a4, rfl, n4⟩ := bb.nt
  have B7 := below_trans B6 hx7
  clear bb
  go_wp2_with fail
  refine hK1.out _ _ B7 (fun hHeldN => ?_)
  clear hK1 K1
  (try simp only [Act.put, List.getElem_toArray, List.getElem_cons_succ, List.getElem_cons_zero, List.setIfInBounds_toArray, List.set_cons_zero, List.set_cons_succ])
  (refine wpAnyH_take (i := 14) (v := ?_) rfl (by kernel_rfl) (by kernel_rfl) (by kernel_rfl) (fun _ _ _ h => h) (Or.inl ⟨by rfl, ?_⟩) (by assumption) ?_; rotate_left 1; (focus (intro wz hSz; (try dsimp only at hSz); go_simp; (try with_reducible rfl))); (try simp only [Act.put, List.setIfInBounds_toArray, List.set_cons_zero, List.set_cons_succ]))
  (refine wpAnyH_take (i := 15) (v := ?_) rfl (by kernel_rfl) (by kernel_rfl) (by kernel_rfl) (fun _ _ _ h => h) (Or.inl ⟨by rfl, ?_⟩) (by assumption) ?_; rotate_left 1; (focus (intro wz hSz; (try dsimp only at hSz); go_simp; (try with_reducible rfl))); (try simp only [Act.put, List.setIfInBounds_toArray, List.set_cons_zero, List.set_cons_succ]))
  (refine wpAnyH_take (i := 16) (v := ?_) rfl (by kernel_rfl) (by kernel_rfl) (by kernel_rfl) (fun _ _ _ h => h) (Or.inl ⟨by rfl, ?_⟩) (by assumption) ?_; rotate_left 1; (focus (intro wz hSz; (try dsimp only at hSz); go_simp; (try with_reducible rfl))); (try simp only [Act.put, List.setIfInBounds_toArray, List.set_cons_zero, List.set_cons_succ]))
  (refine wpAnyH_take (i := 17) (v := ?_) rfl (by kernel_rfl) (by kernel_rfl) (by kernel_rfl) (fun _ _ _ h => h) (Or.inl ⟨by rfl, ?_⟩) (by assumption) ?_; rotate_left 1; (focus (intro wz hSz; (try dsimp only at hSz); go_simp; (try with_reducible rfl))); (try simp only [Act.put, List.setIfInBounds_toArray, List.set_cons_zero, List.set_cons_succ]))
  (refine wpAnyH_take (i := 18) (v := ?_) rfl (by kernel_rfl) (by kernel_rfl) (by kernel_rfl) (fun _ _ _ h => h) (Or.inl ⟨by rfl, ?_⟩) (by assumption) ?_; rotate_left 1; (focus (intro wz hSz; (try dsimp only at hSz); go_simp; (try with_reducible rfl))); (try simp only [Act.put, List.setIfInBounds_toArray, List.set_cons_zero, List.set_cons_succ]))
  (try simp only [Act.put, List.getElem_toArray, List.getElem_cons_succ, List.getElem_cons_zero, List.setIfInBounds_toArray, List.set_cons_zero, List.set_cons_succ])
  refine wpAnyH_done (by kernel_rfl) ?_ _
  have nx2 := nn2.on B7
  have q7 := below_trans q5 B7
  have g0 := bel_cell B7 F1.out
  have g1 := L3 y7 B7
  clear L0 L2 L3 L4 F0 F1 nn1 nn2 q5 j1 j2 i1 i2 cV1 cM n3 B0 B6 B7 hx6 hx7
  have hm0 := hm
  clear hz' hb
  go_wp2_with fail
  go_loopw [13] (fun mv wr => ∃ k : Nat, mv = .int .i64 k ∧ Hid (k ≤ m ∧ k ≤ K) ∧ Below y7.heap.size y7 wr) (fun mv _ => m - (intOf mv).toNat)
  case atStart => exact ⟨0, rfl, Lib.hid ⟨Nat.zero_le _, Nat.zero_le _⟩, Below.refl _ _⟩
  case round =>
    obtain ⟨k, rfl, hk, hbr⟩ := hrel
    obtain ⟨w9, rfl⟩ : ∃ w9, w9 = wr := ⟨_, rfl⟩
    by_cases hkm : k < m
    · obtain ⟨k1, hk1⟩ : ∃ k1 : Nat, k + 1 = k1 := ⟨_, rfl⟩
      obtain ⟨k2, hk2⟩ : ∃ k2 : Nat, 256 * k1 = k2 := ⟨_, rfl⟩
      obtain ⟨Y, hY⟩ : ∃ Y : Nat, k2 * h2 = Y := ⟨_, rfl⟩
      have b1 : k1 ≤ 512 := by omega
      have b2 : k2 ≤ 131072 := by omega
      have b3 : Y ≤ 536870912 := by rw [← hY]; exact Nat.mul_le_mul b2 H2.out
      have eY : Y = H * (k + 1) := by rw [← hY, ← hk2, hk1]; exact key_mul EH.out
      have j4 : IntKind.i64.wrap ((k : Int) + 1) = (k1 : Int) := by rw [IntKind.wrap_i64]; omega
      have j5 : IntKind.i64.wrap (256 * (k1 : Int)) = (k2 : Int) := by rw [IntKind.wrap_i64]; omega
      have j6 : IntKind.i64.wrap ((k2 : Int) * (h2 : Int)) = (Y : Int) := by rw [← Int.natCast_mul, hY]; exact wrapK (Nat.le_refl Y) b3
      have j7 : IntKind.u64.wrap (Y : Int) = (Y : Int) := wrapU rfl (by omega)
      have EY := Lib.hid eY
      have B3 := Lib.hid b3
      have HK1 := Lib.hid hk1
      clear hk1 hk2 hY eY b1 b2 b3
      have G0 := fun w' (hb : Below w9.heap.size w9 w') => bel_cell (below_trans hbr hb) g0
      have G1 := fun w' (hb : Below w9.heap.size w9 w') => bel_cell (below_trans hbr hb) g1
      go_upto_region 12 with fail
      refine wp_region_held_drew (S := fun w' => Below w9.heap.size w9 w') (by kernel_rfl) (Below.refl _ _).drew (fun hHeld => ?_)
      have B0 : Below w9.heap.size w9 w9.drew := (Below.refl _ _).drew
      (refine wpAnyH_take (i := 0) (v := ?_) rfl (by kernel_rfl) (by kernel_rfl) (by kernel_rfl) (fun _ _ _ h => h) (Or.inl ⟨by rfl, ?_⟩) (by assumption) ?_; rotate_left 1; (focus (intro wz hSz; (try dsimp only at hSz); go_simp; (try with_reducible rfl))); (try simp only [Act.put, List.setIfInBounds_toArray, List.set_cons_zero, List.set_cons_succ]))
      (refine wpAnyH_take (i := 1) (v := ?_) rfl (by kernel_rfl) (by kernel_rfl) (by kernel_rfl) (fun _ _ _ h => h) (Or.inl ⟨by rfl, ?_⟩) (by assumption) ?_; rotate_left 1; (focus (intro wz hSz; (try dsimp only at hSz); go_simp; (try with_reducible rfl))); (try simp only [Act.put, List.setIfInBounds_toArray, List.set_cons_zero, List.set_cons_succ]))
      (refine wpAnyH_take (i := 2) (v := ?_) rfl (by kernel_rfl) (by kernel_rfl) (by kernel_rfl) (fun _ _ _ h => h) (Or.inl ⟨by rfl, ?_⟩) (by assumption) ?_; rotate_left 1; (focus (intro wz hSz; (try dsimp only at hSz); go_simp; (try with_reducible rfl))); (try simp only [Act.put, List.setIfInBounds_toArray, List.set_cons_zero, List.set_cons_succ]))
      (refine wpAnyH_take (i := 3) (v := ?_) rfl (by kernel_rfl) (by kernel_rfl) (by kernel_rfl) (fun _ _ _ h => h) (Or.inl ⟨by rfl, ?_⟩) (by assumption) ?_; rotate_left 1; (focus (intro wz hSz; (try dsimp only at hSz); go_simp; (try with_reducible rfl))); (try simp only [Act.put, List.setIfInBounds_toArray, List.set_cons_zero, List.set_cons_succ]))
      (refine wpAnyH_take (i := 4) (v := ?_) rfl (by kernel_rfl) (by kernel_rfl) (by kernel_rfl) (fun _ _ _ h => h) (Or.inl ⟨by rfl, ?_⟩) (by assumption) ?_; rotate_left 1; (focus (intro wz hSz; (try dsimp only at hSz); go_simp; (try with_reducible rfl))); (try simp only [Act.put, List.setIfInBounds_toArray, List.set_cons_zero, List.set_cons_succ]))
      (refine wpAnyH_take (i := 5) (v := ?_) rfl (by kernel_rfl) (by kernel_rfl) (by kernel_rfl) (fun _ _ _ h => h) (Or.inl ⟨by rfl, ?_⟩) (by assumption) ?_; rotate_left 1; (focus (intro wz hSz; (try dsimp only at hSz); go_simp; (try with_reducible rfl))); (try simp only [Act.put, List.setIfInBounds_toArray, List.set_cons_zero, List.set_cons_succ]))
      (refine wpAnyH_take (i := 6) (v := ?_) rfl (by kernel_rfl) (by kernel_rfl) (by kernel_rfl) (fun _ _ _ h => h) (Or.inl ⟨by rfl, ?_⟩) (by assumption) ?_; rotate_left 1; (focus (intro wz hSz; (try dsimp only at hSz); go_simp; (try with_reducible rfl))); (try simp only [Act.put, List.setIfInBounds_toArray, List.set_cons_zero, List.set_cons_succ]))
      (refine wpAnyH_take (i := 7) (v := ?_) rfl (by kernel_rfl) (by kernel_rfl) (by kernel_rfl) (fun _ _ _ h => h) (Or.inl ⟨by rfl, ?_⟩) (by assumption) ?_; rotate_left 1; (focus (intro wz hSz; (try dsimp only at hSz); go_simp; (try with_reducible rfl))); (try simp only [Act.put, List.setIfInBounds_toArray, List.set_cons_zero, List.set_cons_succ]))
      (refine wpAnyH_take (i := 8) (v := ?_) rfl (by kernel_rfl) (by kernel_rfl) (by kernel_rfl) (fun _ _ _ h => h) (Or.inl ⟨by rfl, ?_⟩) (by assumption) ?_; rotate_left 1; (focus (intro wz hSz; (try dsimp only at hSz); go_simp; (try with_reducible rfl))); (try simp only [Act.put, List.setIfInBounds_toArray, List.set_cons_zero, List.set_cons_succ]))
      refine wpAnyH_ready (rs := [9]) (by kernel_rfl) (by simp) ?_
      refine AllReadyH.cons rfl (fun K1 hK1 => ?_) AllReadyH.nil
      go_simp
      refine (cVH Y _ B3.out).mono ?_
      rintro e y10 ⟨vv, rfl, bb, hx10⟩
      obtain ⟨A5, a5, rfl, n5⟩ := bb.nt
      have B10 := below_trans B0 hx10
      clear bb
      go_wp2_with fail
      refine hK1.out _ _ B10 (fun hHeldN => ?_)
      clear hK1 K1
      (try simp only [Act.put, List.getElem_toArray, List.getElem_cons_succ, List.getElem_cons_zero, List.setIfInBounds_toArray, List.set_cons_zero, List.set_cons_succ])
      refine wpAnyH_ready (rs := [10]) (by kernel_rfl) (by simp) ?_
      refine AllReadyH.cons rfl (fun K1 hK1 => ?_) AllReadyH.nil
      go_simp
      refine (cMH Y y10 A2 a2' A5 a5 ((nx2.on hbr).on B10) n5 B3.out).mono ?_
      rintro e y11 ⟨vv, rfl, bb, hx11⟩
      obtain ⟨A6, a6, rfl, n6⟩ := bb.nt
      have B11 := below_trans B10 hx11
      clear bb
      go_wp2_with fail
      refine hK1.out _ _ B11 (fun hHeldN => ?_)
      clear hK1 K1
      (try simp only [Act.put, List.getElem_toArray, List.getElem_cons_succ, List.getElem_cons_zero, List.setIfInBounds_toArray, List.set_cons_zero, List.set_cons_succ])
      (refine wpAnyH_take (i := 11) (v := ?_) rfl (by kernel_rfl) (by kernel_rfl) (by kernel_rfl) (fun _ _ _ h => h) (Or.inl ⟨by rfl, ?_⟩) (by assumption) ?_; rotate_left 1; (focus (intro wz hSz; (try dsimp only at hSz); go_simp; (try with_reducible rfl))); (try simp only [Act.put, List.setIfInBounds_toArray, List.set_cons_zero, List.set_cons_succ]))
      (refine wpAnyH_take (i := 12) (v := ?_) rfl (by kernel_rfl) (by kernel_rfl) (by kernel_rfl) (fun _ _ _ h => h) (Or.inl ⟨by rfl, ?_⟩) (by assumption) ?_; rotate_left 1; (focus (intro wz hSz; (try dsimp only at hSz); go_simp; (try with_reducible rfl))); (try simp only [Act.put, List.setIfInBounds_toArray, List.set_cons_zero, List.set_cons_succ]))
      (refine wpAnyH_take (i := 13) (v := ?_) rfl (by kernel_rfl) (by kernel_rfl) (by kernel_rfl) (fun _ _ _ h => h) (Or.inl ⟨by rfl, ?_⟩) (by assumption) ?_; rotate_left 1; (focus (intro wz hSz; (try dsimp only at hSz); go_simp; (try with_reducible rfl))); (try simp only [Act.put, List.setIfInBounds_toArray, List.set_cons_zero, List.set_cons_succ]))
      (refine wpAnyH_take (i := 14) (v := ?_) rfl (by kernel_rfl) (by kernel_rfl) (by kernel_rfl) (fun _ _ _ h => h) (Or.inl ⟨by rfl, ?_⟩) (by assumption) ?_; rotate_left 1; (focus (intro wz hSz; (try dsimp only at hSz); go_simp; (try with_reducible rfl))); (try simp only [Act.put, List.setIfInBounds_toArray, List.set_cons_zero, List.set_cons_succ]))
      (refine wpAnyH_take (i := 15) (v := ?_) rfl (by kernel_rfl) (by kernel_rfl) (by kernel_rfl) (fun _ _ _ h => h) (Or.inl ⟨by rfl, ?_⟩) (by assumption) ?_; rotate_left 1; (focus (intro wz hSz; (try dsimp only at hSz); go_simp; (try with_reducible rfl))); (try simp only [Act.put, List.setIfInBounds_toArray, List.set_cons_zero, List.set_cons_succ]))
      (try simp only [Act.put, List.getElem_toArray, List.getElem_cons_succ, List.getElem_cons_zero, List.setIfInBounds_toArray, List.set_cons_zero, List.set_cons_succ])
      refine wpAnyH_done (by kernel_rfl) ?_ _
      have n9 := (n4.on hbr).on B11
      clear G0 G1 B0 B10 hx10 hx11 n5 j4 j5 j6 j7
      go_wp2_with fail
      refine (cC Y _ A6 a6 A4 a4 n6 n9 B3.out).mono ?_
      rintro e y12 ⟨rfl, hx12⟩
      have B12 := below_trans hbr (below_trans B11 hx12)
      have q12 := below_trans q7 B12
      have st := ST.out k hk.out.2
      rw [← EY.out] at st
      by_cases hc : Z < D * Y
      · have c1 : cmpI (D * Y) Z = 1 := cmpI_gt hc
        have hmin : min m K = k := by
          have h1 := hk.out.2
          have h2 : ¬ k + 1 ≤ K := fun h => by have := st.2 h; omega
          rw [Nat.min_eq_right (by omega)]; omega
        have HM := Lib.hid hmin
        clear hmin st hc
        rw [c1]
        clear c1
        go_wp2_with fail
        refine bodyPost_ret (v := .tuple #[.int .i64 (k : Int), .int .i64 0]) ?_ rfl ⟨by rw [HM.out], q12⟩
        unfold results
        go_simp
      · have c1 : cmpI (D * Y) Z ≤ 0 := cmpI_le hc
        have nx : Hid (k + 1 ≤ m ∧ k + 1 ≤ K) := Lib.hid ⟨hkm, st.1 (Nat.le_of_not_lt hc)⟩
        clear st hc
        obtain ⟨cc, hcc⟩ : ∃ cc, cmpI (D * Y) Z = cc := ⟨_, rfl⟩
        rw [hcc] at c1 ⊢
        clear hcc
        go_wp2_with fail
        exact ⟨⟨k + 1, by simp, nx, B12⟩, by simp [intOf]; omega⟩
    · have hmin : min m K = k := by
        have h1 := hk.out
        rw [Nat.min_eq_left (by omega)]; omega
      have HM := Lib.hid hmin
      have q9 := below_trans q7 hbr
      clear hmin
      go_wp2_with fail
      refine bodyPost_ret (v := .tuple #[.int .i64 (k : Int), .int .i64 0]) ?_ rfl ⟨by rw [HM.out], q9⟩
      unfold results
      go_simp

theorem sng_any {f : Nat} {args : Array Value} {w : World} {o : Opt} {g : Gn} {n : Int}
    (h1 : gainsE o g ≠ 0 → Calls Try.prog f args w fun e w' => e = .returned (.tuple #[.int .i64 0, .int .i64 (gainsE o g)]) ∧ Below w.heap.size w w')
    (h2 : gainsE o g = 0 → ¬ (0 ≤ n ∧ n ≤ 512) → Calls Try.prog f args w fun e w' => e = .returned (.tuple #[.int .i64 0, .int .i64 3]) ∧ Below w.heap.size w w')
    (h3 : gainsE o g = 0 → 0 ≤ n ∧ n ≤ 512 → g.h2 = 0 → Calls Try.prog f args w fun e w' => e = .returned (.tuple #[.int .i64 0, .int .i64 0]) ∧ Below w.heap.size w w')
    (h4 : gainsE o g = 0 → 0 ≤ n ∧ n ≤ 512 → g.h2 ≠ 0 → Calls Try.prog f args w fun e w' => e = .returned (.tuple #[.int .i64 ((min n.toNat (brN 0 (yNum o g) (yDen o g) * (n * o.s1 * g.a2).toNat / (brD 0 (yNum o g) (yDen o g) * (256 * g.h2).toNat)) : Nat) : Int), .int .i64 0]) ∧ Below w.heap.size w w') :
    Calls Try.prog f args w fun e w' => e = .returned (.tuple #[.int .i64 (sngK o g n : Int), .int .i64 (sngE o g n)]) ∧ Below w.heap.size w w' := by
  by_cases hE : gainsE o g = 0
  · by_cases hn : 0 ≤ n ∧ n ≤ 512
    · have e1 : sngE o g n = 0 := by unfold sngE; rw [if_neg (by simp [hE]), if_pos hn]
      by_cases hz : g.h2 = 0
      · have e2 : sngK o g n = 0 := by unfold sngK; rw [if_neg (by simp [e1]), if_pos hz]
        rw [e1, e2]
        exact h3 hE hn hz
      · unfold sngK
        rw [if_neg (by simp [e1]), if_neg hz, e1]
        exact h4 hE hn hz
    · have e1 : sngE o g n = 3 := by unfold sngE; rw [if_neg (by simp [hE]), if_neg hn]
      have e2 : sngK o g n = 0 := by unfold sngK; rw [if_pos (by simp [e1])]
      rw [e1, e2]
      exact h2 hE hn
  · have e1 : sngE o g n = gainsE o g := by unfold sngE; rw [if_pos hE]
    have e2 : sngK o g n = 0 := by unfold sngK; rw [if_pos (by rw [e1]; exact hE)]
    rw [e1, e2]
    exact h1 hE
theorem Singles_any (o : Opt) (g : Gn) (n : Int) (w : World) : Calls Try.prog 17 #[o.val, g.val, .int .i64 n] w fun e w' => e = .returned (.tuple #[.int .i64 (sngK o g n : Int), .int .i64 (sngE o g n)]) ∧ Below w.heap.size w w' := sng_any (sng_no o g n w) (sng_out o g n w) (sng_zero o g n w) (sng_main o g n w)
theorem rSingles_any (o : Opt) (g : Gn) (n : Int) (w : World) : Calls Try.prog 18 #[o.val, g.val, .int .i64 n] w fun e w' => e = .returned (.tuple #[.int .i64 (sngK o g n : Int), .int .i64 (sngE o g n)]) ∧ Below w.heap.size w w' := sng_any (rsng_no o g n w) (rsng_out o g n w) (rsng_zero o g n w) (rsng_main o g n w)

end Go.Proofs.Ytbobbcfjjdmdgaa
