/- Contract of exact's FracMul. For valid fractions of small numbers. -/
import Derived.Test.YtbobbcfjjdmdgaaGcdD
namespace Go.Proofs.Ytbobbcfjjdmdgaa
open Go.RowKit
set_option linter.unusedVariables false
set_option linter.unusedSimpArgs false

/-- What a fraction's call hands back: a reduced fraction. -/
def FrR (w w' : World) (a b : Nat) (e : Ending) : Prop := ∃ v1 v2, e = .returned (.tuple #[.agg #[v1, v2], .int .i64 0]) ∧ Big w' w.heap.size v1 (rdN a b) ∧ Big w' w.heap.size v2 (rdD a b) ∧ Below w.heap.size w w'

theorem big_set2 {w : World} {B g x : Nat} {v : Value} (h : Big w B v x) (hlt : g < B) (a0 a1 : Value) : Big ((w.setCell ⟨g, 0, none⟩ a0).setCell ⟨g, 1, none⟩ a1) B v x :=
  Own.keep_lt (Own.keep_lt h (grown_set _ _ _ _) hlt) (grown_set _ _ _ _) hlt

theorem mulS {w y : World} {a b c d : Value} (h : Below w.heap.size w y) (h0 : y.cell? ⟨w.heap.size, 0, none⟩ = some a) (h1 : y.cell? ⟨w.heap.size, 1, none⟩ = some b) (h2 : y.cell? ⟨w.heap.size + 1, 0, none⟩ = some c) (h3 : y.cell? ⟨w.heap.size + 1, 1, none⟩ = some d) (u v : Value) :
    Below w.heap.size w ((y.setCell ⟨w.heap.size + 1 + 1, 0, none⟩ u).setCell ⟨w.heap.size + 1 + 1, 1, none⟩ v) ∧ ((y.setCell ⟨w.heap.size + 1 + 1, 0, none⟩ u).setCell ⟨w.heap.size + 1 + 1, 1, none⟩ v).cell? ⟨w.heap.size, 0, none⟩ = some a ∧ ((y.setCell ⟨w.heap.size + 1 + 1, 0, none⟩ u).setCell ⟨w.heap.size + 1 + 1, 1, none⟩ v).cell? ⟨w.heap.size, 1, none⟩ = some b ∧ ((y.setCell ⟨w.heap.size + 1 + 1, 0, none⟩ u).setCell ⟨w.heap.size + 1 + 1, 1, none⟩ v).cell? ⟨w.heap.size + 1, 0, none⟩ = some c ∧ ((y.setCell ⟨w.heap.size + 1 + 1, 0, none⟩ u).setCell ⟨w.heap.size + 1 + 1, 1, none⟩ v).cell? ⟨w.heap.size + 1, 1, none⟩ = some d := by
  have e : w.heap.size ≤ w.heap.size + 1 + 1 := by omega
  refine ⟨(h.setCell e u).setCell e v, ?_, ?_, ?_, ?_⟩ <;> go_simp

set_option maxRecDepth 100000 in
set_option maxHeartbeats 8000000 in
theorem FracMul_any (f g : Frc) (w : World) (hf : f.In w) (hg : g.In w) (h0 : validE [f, g] = 0) (hn : (limbs (V f.l * V g.l)).length ≤ 64) (hd : (limbs (V f.m * V g.m)).length ≤ 64) (hp : 0 < V f.m * V g.m) :
    Calls Try.prog 61 #[f.val, g.val] w fun e w' => FrR w w' (V f.l * V g.l) (V f.m * V g.m) e := by
  have hb1 := below_alloc (below_alloc (below_alloc (Below.refl w.heap.size w) (.cells #[.slice f.A f.l.length f.c, .slice f.C f.m.length f.d] 39)) (.cells #[.slice g.A g.l.length g.c, .slice g.C g.m.length g.d] 39)) (.cells #[.slice none 0 0, .slice none 0 0] 39)
  have hb0 := below_alloc hb1 (.cells #[.slice f.A f.l.length f.c, .slice f.C f.m.length f.d, .slice g.A g.l.length g.c, .slice g.C g.m.length g.d] 39)
  have cV := valid_any (some ⟨w.heap.size + 1 + 1 + 1, 0, none⟩) 2 [f, g] _ (frc_lit2 (((w.alloc (.cells #[.slice f.A f.l.length f.c, .slice f.C f.m.length f.d] 39)).alloc (.cells #[.slice g.A g.l.length g.c, .slice g.C g.m.length g.d] 39)).alloc (.cells #[.slice none 0 0, .slice none 0 0] 39)) f g (by simp)) (in_two hf hg hb0) (by simp)
  have hlen2 : ([f, g] : List Frc).length = 2 := rfl
  rw [hlen2, h0] at cV
  clear hlen2
  obtain ⟨s1, s2, s3, s4⟩ := short2 h0
  clear h0
  obtain ⟨X, hX⟩ : ∃ X, V f.l * V g.l = X := ⟨_, rfl⟩
  obtain ⟨Y, hY⟩ : ∃ Y, V f.m * V g.m = Y := ⟨_, rfl⟩
  have c1 := fun w' (hb : Below w.heap.size w w') => times_any f.A f.c f.l g.A g.c g.l w' (hf.on hb).n (hg.on hb).n (by omega) (by omega)
  have c2 := fun w' (hb : Below w.heap.size w w') => times_any f.C f.d f.m g.C g.d g.m w' (hf.on hb).d (hg.on hb).d (by omega) (by omega)
  rw [hX] at hn ⊢
  rw [hY] at hd hp ⊢
  simp only [hX] at c1
  simp only [hY] at c2
  have c3 := fun w' P p Q q (n1 : Nt w' P p (limbs X)) (n2 : Nt w' Q q (limbs Y)) => reduced_any P p (limbs X) Q q (limbs Y) w' n1 n2 (by omega) (by omega) (by rw [V_limbs]; exact hp) (by rw [V_limbs, V_limbs]; exact Nat.le_trans (limbs_mono (rd_le X Y).1) hn) (by rw [V_limbs, V_limbs]; exact Nat.le_trans (limbs_mono (rd_le X Y).2) hd)
  simp only [V_limbs] at c3
  clear hX hY
  unfold FrR Frc.val
  go_enter Try.func61, Try.ntmps61
  go_wp2_with fail
  refine cV.mono ?_
  rintro e w3 ⟨rfl, hb3⟩
  have q3 := below_trans hb0 hb3
  have k0 : w3.cell? ⟨w.heap.size, 0, none⟩ = some (.slice f.A f.l.length f.c) := bel_cell hb3 (by go_simp)
  have k1 : w3.cell? ⟨w.heap.size, 1, none⟩ = some (.slice f.C f.m.length f.d) := bel_cell hb3 (by go_simp)
  have k2 : w3.cell? ⟨w.heap.size + 1, 0, none⟩ = some (.slice g.A g.l.length g.c) := bel_cell hb3 (by go_simp)
  have k3 : w3.cell? ⟨w.heap.size + 1, 1, none⟩ = some (.slice g.C g.m.length g.d) := bel_cell hb3 (by go_simp)
  have j0 := blk_new (below_trans (below_alloc (Below.refl _ _) (.cells #[.slice f.A f.l.length f.c, .slice f.C f.m.length f.d, .slice g.A g.l.length g.c, .slice g.C g.m.length g.d] 39)) hb3) (g := w.heap.size + 1 + 1) (by simp) (j := 0) rfl
  have j1 := blk_new (below_trans (below_alloc (Below.refl _ _) (.cells #[.slice f.A f.l.length f.c, .slice f.C f.m.length f.d, .slice g.A g.l.length g.c, .slice g.C g.m.length g.d] 39)) hb3) (g := w.heap.size + 1 + 1) (by simp) (j := 1) rfl
  have sz3 : w.heap.size + 1 + 1 < w3.heap.size := World.block_lt_of_cell? w3 _ j0.1
  have J := fun w' (hb : Below w3.heap.size w3 w') => And.intro (And.intro (bel_cell hb j0.1) ((hb.frozen (p := ⟨w.heap.size + 1 + 1, 0, none⟩) sz3).trans j0.2)) (And.intro (bel_cell hb j1.1) ((hb.frozen (p := ⟨w.heap.size + 1 + 1, 1, none⟩) sz3).trans j1.2))
  clear j0 j1
  go_wp2_with fail
  go_region_held3 (fun w' => Below w.heap.size w w' ∧ w'.cell? ⟨w.heap.size, 0, none⟩ = some (.slice f.A f.l.length f.c) ∧ w'.cell? ⟨w.heap.size, 1, none⟩ = some (.slice f.C f.m.length f.d) ∧ w'.cell? ⟨w.heap.size + 1, 0, none⟩ = some (.slice g.A g.l.length g.c) ∧ w'.cell? ⟨w.heap.size + 1, 1, none⟩ = some (.slice g.C g.m.length g.d))
    (first | (exact ⟨q3.drew, k0, k1, k2, k3⟩) | (go_split_ands; exact ⟨below_trans (by assumption) hx1, bel_cell hx1 (by assumption), bel_cell hx1 (by assumption), bel_cell hx1 (by assumption), bel_cell hx1 (by assumption)⟩) | (go_split_ands; exact ⟨below_trans (by assumption) hx2, bel_cell hx2 (by assumption), bel_cell hx2 (by assumption), bel_cell hx2 (by assumption), bel_cell hx2 (by assumption)⟩) | (go_split_ands; exact ⟨below_trans (by assumption) hx3, bel_cell hx3 (by assumption), bel_cell hx3 (by assumption), bel_cell hx3 (by assumption), bel_cell hx3 (by assumption)⟩) | (go_split_ands; exact mulS (by assumption) (by assumption) (by assumption) (by assumption) (by assumption) _ _))
    (first
      | (go_at_call 118; refine Calls.on (args' := #[.slice f.A f.l.length f.c, .slice g.A g.l.length g.c]) rfl ?_; refine (c1 _ (by go_split_ands; assumption)).mono ?_; rintro e y1 ⟨v1, rfl, b1, hx1⟩; obtain ⟨A1, e1, hv1, n1⟩ := b1.nt; rw [hv1])
      | (go_at_call 118; refine Calls.on (args' := #[.slice f.C f.m.length f.d, .slice g.C g.m.length g.d]) rfl ?_; refine (c2 _ (by go_split_ands; assumption)).mono ?_; rintro e y2 ⟨v2, rfl, b2, hx2⟩; obtain ⟨A2, e2, hv2, n2⟩ := b2.nt; rw [hv2])
      | (go_at_call 121; refine (c3 _ _ _ _ _ (n1.on hx2) n2).mono ?_; rintro e y3 ⟨v3, v4, rfl, b3, b4, hx3⟩; obtain ⟨A3, e3, hv3, n3⟩ := b3.nt; obtain ⟨A4, e4, hv4, n4⟩ := b4.nt; subst hv3 hv4; have HS : w3.heap.size ≤ y2.heap.size := Nat.le_trans hx1.size hx2.size; have HB := below_trans (below_trans (below_trans (Below.refl _ _).drew hx1) hx2) hx3; obtain ⟨⟨z0, z1⟩, z2, z3⟩ := J _ HB)
      | (go_at_call 121; refine (c3 _ _ _ _ _ n1 (n2.on hx1)).mono ?_; rintro e y3 ⟨v3, v4, rfl, b3, b4, hx3⟩; obtain ⟨A3, e3, hv3, n3⟩ := b3.nt; obtain ⟨A4, e4, hv4, n4⟩ := b4.nt; subst hv3 hv4; have HS : w3.heap.size ≤ y1.heap.size := Nat.le_trans hx2.size hx1.size; have HB := below_trans (below_trans (below_trans (Below.refl _ _).drew hx2) hx1) hx3; obtain ⟨⟨z0, z1⟩, z2, z3⟩ := J _ HB))
  all_goals (
    have F1 := Big.down (base' := w.heap.size) (big_set2 b3 (g := w.heap.size + 1 + 1) (by omega) (.slice A3 (limbs (rdN X Y)).length e3) (.slice A4 (limbs (rdD X Y)).length e4)) (by omega)
    have F2 := Big.down (base' := w.heap.size) (big_set2 b4 (g := w.heap.size + 1 + 1) (by omega) (.slice A3 (limbs (rdN X Y)).length e3) (.slice A4 (limbs (rdD X Y)).length e4)) (by omega)
    have F3 := ((below_trans q3 HB).setCell (p := ⟨w.heap.size + 1 + 1, 0, none⟩) (by simp; omega) (.slice A3 (limbs (rdN X Y)).length e3)).setCell (p := ⟨w.heap.size + 1 + 1, 1, none⟩) (by simp; omega) (.slice A4 (limbs (rdD X Y)).length e4)
    go_wp2_with fail
    (try simp only [Exit.inBlock, Exit.then])
    refine bodyPost_ret (v := .tuple #[.agg #[.slice A3 (limbs (rdN X Y)).length e3, .slice A4 (limbs (rdD X Y)).length e4], .int .i64 0]) ?_ rfl ⟨_, _, rfl, F1, F2, F3⟩
    rw [results_cell_tmp rfl]
    go_simp)

end Go.Proofs.Ytbobbcfjjdmdgaa
