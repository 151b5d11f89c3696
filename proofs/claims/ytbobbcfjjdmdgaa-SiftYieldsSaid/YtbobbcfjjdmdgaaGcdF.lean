/- Contracts of exact's FracAdd and FracSub. For valid fractions of small numbers. -/
import Derived.Test.YtbobbcfjjdmdgaaGcdE
namespace Go.Proofs.Ytbobbcfjjdmdgaa
open Go.RowKit
set_option linter.unusedVariables false
set_option linter.unusedSimpArgs false

set_option maxRecDepth 100000 in
set_option maxHeartbeats 8000000 in
theorem FracAdd_any (f g : Frc) (w : World) (hf : f.In w) (hg : g.In w) (h0 : validE [f, g] = 0) (hn : (limbs (V f.l * V g.m + V g.l * V f.m)).length ≤ 64) (hk : (limbs (V f.l * V g.m)).length ≤ 1000) (hk2 : (limbs (V g.l * V f.m)).length ≤ 1000) (hd : (limbs (V f.m * V g.m)).length ≤ 64) (hp : 0 < V f.m * V g.m) :
    Calls Try.prog 114 #[f.val, g.val] w fun e w' => FrR w w' (V f.l * V g.m + V g.l * V f.m) (V f.m * V g.m) e := by
  have hb1 := below_alloc (below_alloc (below_alloc (Below.refl w.heap.size w) (.cells #[.slice f.A f.l.length f.c, .slice f.C f.m.length f.d] 39)) (.cells #[.slice g.A g.l.length g.c, .slice g.C g.m.length g.d] 39)) (.cells #[.slice none 0 0, .slice none 0 0] 39)
  have hb0 := below_alloc hb1 (.cells #[.slice f.A f.l.length f.c, .slice f.C f.m.length f.d, .slice g.A g.l.length g.c, .slice g.C g.m.length g.d] 39)
  have cV := valid_any (some ⟨w.heap.size + 1 + 1 + 1, 0, none⟩) 2 [f, g] _ (frc_lit2 (((w.alloc (.cells #[.slice f.A f.l.length f.c, .slice f.C f.m.length f.d] 39)).alloc (.cells #[.slice g.A g.l.length g.c, .slice g.C g.m.length g.d] 39)).alloc (.cells #[.slice none 0 0, .slice none 0 0] 39)) f g (by simp)) (in_two hf hg hb0) (by simp)
  have hlen2 : ([f, g] : List Frc).length = 2 := rfl
  rw [hlen2, h0] at cV
  clear hlen2
  obtain ⟨s1, s2, s3, s4⟩ := short2 h0
  clear h0
  have cX := fun w' (hb : Below w.heap.size w w') => cross_any f g w' (hf.on hb) (hg.on hb) (by omega) (by omega) (by omega) (by omega)
  obtain ⟨P, hP⟩ : ∃ P, V f.l * V g.m = P := ⟨_, rfl⟩
  obtain ⟨Q, hQ⟩ : ∃ Q, V g.l * V f.m = Q := ⟨_, rfl⟩
  rw [hP, hQ] at hn ⊢
  rw [hP] at hk
  rw [hQ] at hk2
  simp only [hP, hQ] at cX
  clear hP hQ
  obtain ⟨X, hX⟩ : ∃ X, P + Q = X := ⟨_, rfl⟩
  obtain ⟨Y, hY⟩ : ∃ Y, V f.m * V g.m = Y := ⟨_, rfl⟩
  have c1 := fun w' A c B d (n1 : Nt w' A c (limbs P)) (n2 : Nt w' B d (limbs Q)) => plus_any A c (limbs P) B d (limbs Q) w' n1 n2 (by omega) (by omega)
  have c2 := fun w' (hb : Below w.heap.size w w') => times_any f.C f.d f.m g.C g.d g.m w' (hf.on hb).d (hg.on hb).d (by omega) (by omega)
  rw [hX] at hn ⊢
  rw [hY] at hd hp ⊢
  simp only [V_limbs, hX] at c1
  simp only [hY] at c2
  have c3 := fun w' P p Q q (n1 : Nt w' P p (limbs X)) (n2 : Nt w' Q q (limbs Y)) => reduced_any P p (limbs X) Q q (limbs Y) w' n1 n2 (by omega) (by omega) (by rw [V_limbs]; exact hp) (by rw [V_limbs, V_limbs]; exact Nat.le_trans (limbs_mono (rd_le X Y).1) hn) (by rw [V_limbs, V_limbs]; exact Nat.le_trans (limbs_mono (rd_le X Y).2) hd)
  simp only [V_limbs] at c3
  clear hX hY
  unfold FrR Frc.val
  go_enter Try.func114, Try.ntmps114
  go_wp2_with fail
  refine cV.mono ?_
  rintro e w3 ⟨rfl, hb3⟩
  have q3 := below_trans hb0 hb3
  have k0 : w3.cell? ⟨w.heap.size, 0, none⟩ = some (.slice f.A f.l.length f.c) := bel_cell hb3 (by go_simp)
  have k1 : w3.cell? ⟨w.heap.size, 1, none⟩ = some (.slice f.C f.m.length f.d) := bel_cell hb3 (by go_simp)
  have k2 : w3.cell? ⟨w.heap.size + 1, 0, none⟩ = some (.slice g.A g.l.length g.c) := bel_cell hb3 (by go_simp)
  have k3 : w3.cell? ⟨w.heap.size + 1, 1, none⟩ = some (.slice g.C g.m.length g.d) := bel_cell hb3 (by go_simp)
  have j0 := blk_new (below_trans (below_alloc (Below.refl _ _) (.cells #[.slice f.A f.l.length f.c, .slice f.C f.m.length f.d, .slice g.A g.l.length g.c, .slice g.C g.m.length g.d] 39)) hb3) (g := w.heap.size + 1 + 1) (by simp) (j := 0) rfl
  have j1 := blk_new (below_trans (below_alloc (Below.refl _ _) (.cells #[.slice f.A f.l.length f.c, .slice f.C f.m.length f.d, .slice g.A g.l.length g.c, .slice g.C g.m.length g.d] 39)) hb3) (g := w.heap.size + 1 + 1) (by simp) (j := 1) rfl
  have sz3 : w.heap.size + 1 + 1 < w3.heap.size := World.block_lt_of_cell? w3 _ j0.1
  have J := fun w' (hb : Below w3.heap.size w3 w') => And.intro (And.intro (bel_cell hb j0.1) ((hb.frozen (p := ⟨w.heap.size + 1 + 1, 0, none⟩) sz3).trans j0.2)) (And.intro (bel_cell hb j1.1) ((hb.frozen (p := ⟨w.heap.size + 1 + 1, 1, none⟩) sz3).trans j1.2))
  clear j0 j1
  go_wp2_with fail
  have cX3 := cX w3 q3
  unfold Frc.val at cX3
  refine cX3.mono ?_
  rintro e w4 ⟨u1, u2, rfl, bP, bQ, hb4⟩
  obtain ⟨D1, d1, rfl, nP⟩ := bP.nt
  obtain ⟨D2, d2, rfl, nQ⟩ := bQ.nt
  obtain ⟨w5, hw5⟩ : ∃ w5, w5 = w4 := ⟨_, rfl⟩
  subst hw5
  have q5 := below_trans q3 hb4
  have k0 := bel_cell hb4 k0
  have k1 := bel_cell hb4 k1
  have k2 := bel_cell hb4 k2
  have k3 := bel_cell hb4 k3
  have sz5 : w.heap.size + 1 + 1 < w5.heap.size := Nat.lt_of_lt_of_le sz3 hb4.size
  go_wp2_with fail
  go_region_held3 (fun w' => Below w.heap.size w w' ∧ w'.cell? ⟨w.heap.size, 0, none⟩ = some (.slice f.A f.l.length f.c) ∧ w'.cell? ⟨w.heap.size, 1, none⟩ = some (.slice f.C f.m.length f.d) ∧ w'.cell? ⟨w.heap.size + 1, 0, none⟩ = some (.slice g.A g.l.length g.c) ∧ w'.cell? ⟨w.heap.size + 1, 1, none⟩ = some (.slice g.C g.m.length g.d))
    (first | (exact ⟨q5.drew, k0, k1, k2, k3⟩) | (go_split_ands; exact ⟨below_trans (by assumption) hx1, bel_cell hx1 (by assumption), bel_cell hx1 (by assumption), bel_cell hx1 (by assumption), bel_cell hx1 (by assumption)⟩) | (go_split_ands; exact ⟨below_trans (by assumption) hx2, bel_cell hx2 (by assumption), bel_cell hx2 (by assumption), bel_cell hx2 (by assumption), bel_cell hx2 (by assumption)⟩) | (go_split_ands; exact ⟨below_trans (by assumption) hx3, bel_cell hx3 (by assumption), bel_cell hx3 (by assumption), bel_cell hx3 (by assumption), bel_cell hx3 (by assumption)⟩) | (go_split_ands; exact mulS (by assumption) (by assumption) (by assumption) (by assumption) (by assumption) _ _))
    (first
      | (go_at_call 167; refine (c1 _ _ _ _ _ (nP.on (Below.refl _ _).drew) (nQ.on (Below.refl _ _).drew)).mono ?_; rintro e y1 ⟨v1, rfl, b1, hx1⟩; obtain ⟨A1, e1, hv1, n1⟩ := b1.nt; rw [hv1])
      | (go_at_call 167; refine (c1 _ _ _ _ _ (nP.on (below_trans (Below.refl _ _).drew hx2)) (nQ.on (below_trans (Below.refl _ _).drew hx2))).mono ?_; rintro e y1 ⟨v1, rfl, b1, hx1⟩; obtain ⟨A1, e1, hv1, n1⟩ := b1.nt; rw [hv1])
      | (go_at_call 118; refine Calls.on (args' := #[.slice f.C f.m.length f.d, .slice g.C g.m.length g.d]) rfl ?_; refine (c2 _ (by go_split_ands; assumption)).mono ?_; rintro e y2 ⟨v2, rfl, b2, hx2⟩; obtain ⟨A2, e2, hv2, n2⟩ := b2.nt; rw [hv2])
      | (go_at_call 121; refine (c3 _ _ _ _ _ (n1.on hx2) n2).mono ?_; rintro e y3 ⟨v3, v4, rfl, b3, b4, hx3⟩; obtain ⟨A3, e3, hv3, n3⟩ := b3.nt; obtain ⟨A4, e4, hv4, n4⟩ := b4.nt; subst hv3 hv4; have HS : w5.heap.size ≤ y2.heap.size := Nat.le_trans hx1.size hx2.size; have HB := below_trans (below_trans (below_trans (Below.refl _ _).drew hx1) hx2) hx3; obtain ⟨⟨z0, z1⟩, z2, z3⟩ := J _ (below_trans hb4 HB))
      | (go_at_call 121; refine (c3 _ _ _ _ _ n1 (n2.on hx1)).mono ?_; rintro e y3 ⟨v3, v4, rfl, b3, b4, hx3⟩; obtain ⟨A3, e3, hv3, n3⟩ := b3.nt; obtain ⟨A4, e4, hv4, n4⟩ := b4.nt; subst hv3 hv4; have HS : w5.heap.size ≤ y1.heap.size := Nat.le_trans hx2.size hx1.size; have HB := below_trans (below_trans (below_trans (Below.refl _ _).drew hx2) hx1) hx3; obtain ⟨⟨z0, z1⟩, z2, z3⟩ := J _ (below_trans hb4 HB)))
  all_goals (
    have F1 := Big.down (base' := w.heap.size) (big_set2 b3 (g := w.heap.size + 1 + 1) (by omega) (.slice A3 (limbs (rdN X Y)).length e3) (.slice A4 (limbs (rdD X Y)).length e4)) (by omega)
    have F2 := Big.down (base' := w.heap.size) (big_set2 b4 (g := w.heap.size + 1 + 1) (by omega) (.slice A3 (limbs (rdN X Y)).length e3) (.slice A4 (limbs (rdD X Y)).length e4)) (by omega)
    have F3 := ((below_trans q5 HB).setCell (p := ⟨w.heap.size + 1 + 1, 0, none⟩) (by simp; omega) (.slice A3 (limbs (rdN X Y)).length e3)).setCell (p := ⟨w.heap.size + 1 + 1, 1, none⟩) (by simp; omega) (.slice A4 (limbs (rdD X Y)).length e4)
    go_wp2_with fail
    (try simp only [Exit.inBlock, Exit.then])
    refine bodyPost_ret (v := .tuple #[.agg #[.slice A3 (limbs (rdN X Y)).length e3, .slice A4 (limbs (rdD X Y)).length e4], .int .i64 0]) ?_ rfl ⟨_, _, rfl, F1, F2, F3⟩
    rw [results_cell_tmp rfl]
    go_simp)


set_option maxRecDepth 100000 in
set_option maxHeartbeats 8000000 in
theorem FracSub_any (f g : Frc) (w : World) (hf : f.In w) (hg : g.In w) (h0 : validE [f, g] = 0) (hn : (limbs (V f.l * V g.m - V g.l * V f.m)).length ≤ 64) (hle : V g.l * V f.m ≤ V f.l * V g.m) (hk : (limbs (V f.l * V g.m)).length ≤ 1000) (hd : (limbs (V f.m * V g.m)).length ≤ 64) (hp : 0 < V f.m * V g.m) :
    Calls Try.prog 115 #[f.val, g.val] w fun e w' => FrR w w' (V f.l * V g.m - V g.l * V f.m) (V f.m * V g.m) e := by
  have hb1 := below_alloc (below_alloc (below_alloc (Below.refl w.heap.size w) (.cells #[.slice f.A f.l.length f.c, .slice f.C f.m.length f.d] 39)) (.cells #[.slice g.A g.l.length g.c, .slice g.C g.m.length g.d] 39)) (.cells #[.slice none 0 0, .slice none 0 0] 39)
  have hb0 := below_alloc hb1 (.cells #[.slice f.A f.l.length f.c, .slice f.C f.m.length f.d, .slice g.A g.l.length g.c, .slice g.C g.m.length g.d] 39)
  have cV := valid_any (some ⟨w.heap.size + 1 + 1 + 1, 0, none⟩) 2 [f, g] _ (frc_lit2 (((w.alloc (.cells #[.slice f.A f.l.length f.c, .slice f.C f.m.length f.d] 39)).alloc (.cells #[.slice g.A g.l.length g.c, .slice g.C g.m.length g.d] 39)).alloc (.cells #[.slice none 0 0, .slice none 0 0] 39)) f g (by simp)) (in_two hf hg hb0) (by simp)
  have hlen2 : ([f, g] : List Frc).length = 2 := rfl
  rw [hlen2, h0] at cV
  clear hlen2
  obtain ⟨s1, s2, s3, s4⟩ := short2 h0
  clear h0
  have cX := fun w' (hb : Below w.heap.size w w') => cross_any f g w' (hf.on hb) (hg.on hb) (by omega) (by omega) (by omega) (by omega)
  obtain ⟨P, hP⟩ : ∃ P, V f.l * V g.m = P := ⟨_, rfl⟩
  obtain ⟨Q, hQ⟩ : ∃ Q, V g.l * V f.m = Q := ⟨_, rfl⟩
  rw [hP, hQ] at hn ⊢
  rw [hP] at hk
  rw [hQ] at hle
  rw [hP] at hle
  have hk2 := limbs_mono hle
  simp only [hP, hQ] at cX
  clear hP hQ
  obtain ⟨X, hX⟩ : ∃ X, P - Q = X := ⟨_, rfl⟩
  obtain ⟨Y, hY⟩ : ∃ Y, V f.m * V g.m = Y := ⟨_, rfl⟩
  have c1 := fun w' A c B d (n1 : Nt w' A c (limbs P)) (n2 : Nt w' B d (limbs Q)) => minus_any A c (limbs P) B d (limbs Q) w' n1 n2 (by omega) (by omega) (by rw [V_limbs, V_limbs]; exact hle)
  have c2 := fun w' (hb : Below w.heap.size w w') => times_any f.C f.d f.m g.C g.d g.m w' (hf.on hb).d (hg.on hb).d (by omega) (by omega)
  rw [hX] at hn ⊢
  rw [hY] at hd hp ⊢
  simp only [V_limbs, hX] at c1
  simp only [hY] at c2
  have c3 := fun w' P p Q q (n1 : Nt w' P p (limbs X)) (n2 : Nt w' Q q (limbs Y)) => reduced_any P p (limbs X) Q q (limbs Y) w' n1 n2 (by omega) (by omega) (by rw [V_limbs]; exact hp) (by rw [V_limbs, V_limbs]; exact Nat.le_trans (limbs_mono (rd_le X Y).1) hn) (by rw [V_limbs, V_limbs]; exact Nat.le_trans (limbs_mono (rd_le X Y).2) hd)
  simp only [V_limbs] at c3
  clear hX hY
  unfold FrR Frc.val
  go_enter Try.func115, Try.ntmps115
  go_wp2_with fail
  refine cV.mono ?_
  rintro e w3 ⟨rfl, hb3⟩
  have q3 := below_trans hb0 hb3
  have k0 : w3.cell? ⟨w.heap.size, 0, none⟩ = some (.slice f.A f.l.length f.c) := bel_cell hb3 (by go_simp)
  have k1 : w3.cell? ⟨w.heap.size, 1, none⟩ = some (.slice f.C f.m.length f.d) := bel_cell hb3 (by go_simp)
  have k2 : w3.cell? ⟨w.heap.size + 1, 0, none⟩ = some (.slice g.A g.l.length g.c) := bel_cell hb3 (by go_simp)
  have k3 : w3.cell? ⟨w.heap.size + 1, 1, none⟩ = some (.slice g.C g.m.length g.d) := bel_cell hb3 (by go_simp)
  have j0 := blk_new (below_trans (below_alloc (Below.refl _ _) (.cells #[.slice f.A f.l.length f.c, .slice f.C f.m.length f.d, .slice g.A g.l.length g.c, .slice g.C g.m.length g.d] 39)) hb3) (g := w.heap.size + 1 + 1) (by simp) (j := 0) rfl
  have j1 := blk_new (below_trans (below_alloc (Below.refl _ _) (.cells #[.slice f.A f.l.length f.c, .slice f.C f.m.length f.d, .slice g.A g.l.length g.c, .slice g.C g.m.length g.d] 39)) hb3) (g := w.heap.size + 1 + 1) (by simp) (j := 1) rfl
  have sz3 : w.heap.size + 1 + 1 < w3.heap.size := World.block_lt_of_cell? w3 _ j0.1
  have J := fun w' (hb : Below w3.heap.size w3 w') => And.intro (And.intro (bel_cell hb j0.1) ((hb.frozen (p := ⟨w.heap.size + 1 + 1, 0, none⟩) sz3).trans j0.2)) (And.intro (bel_cell hb j1.1) ((hb.frozen (p := ⟨w.heap.size + 1 + 1, 1, none⟩) sz3).trans j1.2))
  clear j0 j1
  go_wp2_with fail
  have cX3 := cX w3 q3
  unfold Frc.val at cX3
  refine cX3.mono ?_
  rintro e w4 ⟨u1, u2, rfl, bP, bQ, hb4⟩
  obtain ⟨D1, d1, rfl, nP⟩ := bP.nt
  obtain ⟨D2, d2, rfl, nQ⟩ := bQ.nt
  have cO := order_any D1 d1 (limbs P) D2 d2 (limbs Q) w4 nP.arr nQ.arr nP.len nP.cap nQ.len nQ.cap nP.dig nQ.dig
  rw [V_limbs, V_limbs] at cO
  obtain ⟨o, ho, ho0⟩ : ∃ o, cmpI P Q = o ∧ 0 ≤ o := by
    refine ⟨_, rfl, ?_⟩
    unfold cmpI
    rw [if_neg (Nat.not_lt.2 hle)]
    split <;> decide
  rw [ho] at cO
  clear ho
  go_wp2_with fail
  refine cO.mono ?_
  rintro e w5 ⟨rfl, hb5⟩
  obtain ⟨w4', hw4'⟩ : ∃ w4', w4' = w4 := ⟨_, rfl⟩
  have hb4 := below_trans hb4 hb5
  have nP := nP.on hb5
  have nQ := nQ.on hb5
  have q5 := below_trans q3 hb4
  have k0 := bel_cell hb4 k0
  have k1 := bel_cell hb4 k1
  have k2 := bel_cell hb4 k2
  have k3 := bel_cell hb4 k3
  have sz5 : w.heap.size + 1 + 1 < w5.heap.size := Nat.lt_of_lt_of_le sz3 hb4.size
  go_wp2_with fail
  go_region_held3 (fun w' => Below w.heap.size w w' ∧ w'.cell? ⟨w.heap.size, 0, none⟩ = some (.slice f.A f.l.length f.c) ∧ w'.cell? ⟨w.heap.size, 1, none⟩ = some (.slice f.C f.m.length f.d) ∧ w'.cell? ⟨w.heap.size + 1, 0, none⟩ = some (.slice g.A g.l.length g.c) ∧ w'.cell? ⟨w.heap.size + 1, 1, none⟩ = some (.slice g.C g.m.length g.d))
    (first | (exact ⟨q5.drew, k0, k1, k2, k3⟩) | (go_split_ands; exact ⟨below_trans (by assumption) hx1, bel_cell hx1 (by assumption), bel_cell hx1 (by assumption), bel_cell hx1 (by assumption), bel_cell hx1 (by assumption)⟩) | (go_split_ands; exact ⟨below_trans (by assumption) hx2, bel_cell hx2 (by assumption), bel_cell hx2 (by assumption), bel_cell hx2 (by assumption), bel_cell hx2 (by assumption)⟩) | (go_split_ands; exact ⟨below_trans (by assumption) hx3, bel_cell hx3 (by assumption), bel_cell hx3 (by assumption), bel_cell hx3 (by assumption), bel_cell hx3 (by assumption)⟩) | (go_split_ands; exact mulS (by assumption) (by assumption) (by assumption) (by assumption) (by assumption) _ _))
    (first
      | (go_at_call 168; refine (c1 _ _ _ _ _ (nP.on (Below.refl _ _).drew) (nQ.on (Below.refl _ _).drew)).mono ?_; rintro e y1 ⟨v1, rfl, b1, hx1⟩; obtain ⟨A1, e1, hv1, n1⟩ := b1.nt; rw [hv1])
      | (go_at_call 168; refine (c1 _ _ _ _ _ (nP.on (below_trans (Below.refl _ _).drew hx2)) (nQ.on (below_trans (Below.refl _ _).drew hx2))).mono ?_; rintro e y1 ⟨v1, rfl, b1, hx1⟩; obtain ⟨A1, e1, hv1, n1⟩ := b1.nt; rw [hv1])
      | (go_at_call 118; refine Calls.on (args' := #[.slice f.C f.m.length f.d, .slice g.C g.m.length g.d]) rfl ?_; refine (c2 _ (by go_split_ands; assumption)).mono ?_; rintro e y2 ⟨v2, rfl, b2, hx2⟩; obtain ⟨A2, e2, hv2, n2⟩ := b2.nt; rw [hv2])
      | (go_at_call 121; refine (c3 _ _ _ _ _ (n1.on hx2) n2).mono ?_; rintro e y3 ⟨v3, v4, rfl, b3, b4, hx3⟩; obtain ⟨A3, e3, hv3, n3⟩ := b3.nt; obtain ⟨A4, e4, hv4, n4⟩ := b4.nt; subst hv3 hv4; have HS : w5.heap.size ≤ y2.heap.size := Nat.le_trans hx1.size hx2.size; have HB := below_trans (below_trans (below_trans (Below.refl _ _).drew hx1) hx2) hx3; obtain ⟨⟨z0, z1⟩, z2, z3⟩ := J _ (below_trans hb4 HB))
      | (go_at_call 121; refine (c3 _ _ _ _ _ n1 (n2.on hx1)).mono ?_; rintro e y3 ⟨v3, v4, rfl, b3, b4, hx3⟩; obtain ⟨A3, e3, hv3, n3⟩ := b3.nt; obtain ⟨A4, e4, hv4, n4⟩ := b4.nt; subst hv3 hv4; have HS : w5.heap.size ≤ y1.heap.size := Nat.le_trans hx2.size hx1.size; have HB := below_trans (below_trans (below_trans (Below.refl _ _).drew hx2) hx1) hx3; obtain ⟨⟨z0, z1⟩, z2, z3⟩ := J _ (below_trans hb4 HB)))
  all_goals (
    have F1 := Big.down (base' := w.heap.size) (big_set2 b3 (g := w.heap.size + 1 + 1) (by omega) (.slice A3 (limbs (rdN X Y)).length e3) (.slice A4 (limbs (rdD X Y)).length e4)) (by omega)
    have F2 := Big.down (base' := w.heap.size) (big_set2 b4 (g := w.heap.size + 1 + 1) (by omega) (.slice A3 (limbs (rdN X Y)).length e3) (.slice A4 (limbs (rdD X Y)).length e4)) (by omega)
    have F3 := ((below_trans q5 HB).setCell (p := ⟨w.heap.size + 1 + 1, 0, none⟩) (by simp; omega) (.slice A3 (limbs (rdN X Y)).length e3)).setCell (p := ⟨w.heap.size + 1 + 1, 1, none⟩) (by simp; omega) (.slice A4 (limbs (rdD X Y)).length e4)
    go_wp2_with fail
    (try simp only [Exit.inBlock, Exit.then])
    refine bodyPost_ret (v := .tuple #[.agg #[.slice A3 (limbs (rdN X Y)).length e3, .slice A4 (limbs (rdD X Y)).length e4], .int .i64 0]) ?_ rfl ⟨_, _, rfl, F1, F2, F3⟩
    rw [results_cell_tmp rfl]
    go_simp)


end Go.Proofs.Ytbobbcfjjdmdgaa
