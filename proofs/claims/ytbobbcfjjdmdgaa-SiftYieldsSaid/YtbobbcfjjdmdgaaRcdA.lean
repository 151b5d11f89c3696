/- Contracts of the reference's gcd, reduced, Reduce. For numbers of at most 3000000 digits whose quotients have at most 256. -/
import Derived.Test.YtbobbcfjjdmdgaaRefM
import Derived.Test.YtbobbcfjjdmdgaaGcdE
import Derived.Deep.LoopGhost
namespace Go.Proofs.Ytbobbcfjjdmdgaa
open Go.RowKit
set_option linter.unusedVariables false
set_option linter.unusedSimpArgs false

theorem dg_nil : dg 0 = [] := by unfold dg; exact digB_zero ..
theorem dg_mono {x y : Nat} (h : x ≤ y) : (dg x).length ≤ (dg y).length := digB_len_le b8 (Nat.lt_of_le_of_lt h (digB_lt b8 y))
theorem dgl_le {l : List Nat} (h : Dig B32 l) : (dg (V l)).length ≤ 4 * l.length := dg_len (m := 32 * l.length) (k := 4 * l.length) (V_lt h) (by omega)
theorem dg_none {x : Nat} (h : (dg x).length = 0) : x = 0 := by
  have := digB_lt b8 x
  unfold dg at h
  rw [h] at this
  simpa using this

set_option maxRecDepth 100000 in
set_option maxHeartbeats 4000000 in
theorem rgcd_any (A : Option Addr) (c x : Nat) (C : Option Addr) (d y : Nat) (w : World) (hA : Dn w A c (dg x)) (hC : Dn w C d (dg y)) (hl : (dg x).length ≤ 3000000) (hm : (dg y).length ≤ 3000000) :
    Calls Try.prog 206 #[.slice A (dg x).length c, .slice C (dg y).length d] w fun e w' => ∃ P p, e = .returned (.slice P (dg (Nat.gcd x y)).length p) ∧ Dn w' P p (dg (Nat.gcd x y)) ∧ Below w.heap.size w w' := by
  obtain ⟨G, hG⟩ : ∃ G, Nat.gcd x y = G := ⟨_, rfl⟩
  rw [hG]
  have HG := Lib.hid hG
  clear hG
  go_enter Try.func206, Try.ntmps206
  go_wp2_with fail
  go_loopg [0, 1] y (fun k va vb wr => ∃ P p Q q x', va = .slice P (dg x').length p ∧ vb = .slice Q (dg k).length q ∧ Hid (Nat.gcd x' k = G) ∧ (dg x').length ≤ 3000000 ∧ (dg k).length ≤ 3000000 ∧ Dn wr P p (dg x') ∧ Dn wr Q q (dg k) ∧ Below w.heap.size w wr)
  case atStart => exact ⟨A, c, C, d, x, rfl, rfl, HG, hl, hm, hA, hC, Below.refl _ _⟩
  case round =>
    obtain ⟨P, p, Q, q, x', rfl, rfl, hg, l1, l2, nP, nQ, hb⟩ := hrel
    by_cases h0 : gk = 0
    · subst h0
      have eG : x' = G := by have := hg.out; rwa [Nat.gcd_zero_right] at this
      subst eG
      rw [dg_nil, List.length_nil]
      go_wp2_with fail
      go_ret
      exact ⟨_, _, rfl, nP, hb⟩
    · have h1 : 0 < gk := Nat.pos_of_ne_zero h0
      have h2 : 0 < (dg gk).length := Nat.pos_of_ne_zero fun e => h0 (dg_none e)
      have cD := divide_any P p x' Q q gk wr nP nQ l1 l2 h1
      have Hg := Lib.hid (show Nat.gcd gk (x' % gk) = G by rw [gcd_next]; exact hg.out)
      have Hlt := Lib.hid (Nat.mod_lt x' h1)
      have l3 := Nat.le_trans (dg_mono (Nat.le_of_lt (Nat.mod_lt x' h1))) l2
      go_wp2_with fail
      refine cD.mono ?_
      rintro e w5 ⟨v1, A2, c2, rfl, _, n2, hb5⟩
      go_wp2_with fail
      go_roundg (x' % gk)
      case measure => exact Hlt.out
      case rel => exact ⟨_, _, _, _, _, rfl, rfl, Hg, l2, l3, nQ.on hb5, n2, below_trans hb hb5⟩

set_option maxHeartbeats 1000000 in
theorem rfits_any (A : Option Addr) (c n : Nat) (w : World) (hn : n ≤ 256) :
    Calls Try.prog 177 #[.slice A n c] w fun e w' => e = .returned (.bool true) ∧ w = w' := by
  go_enter Try.func177, Try.ntmps177
  go_wp2_with fail
  go_ret
  exact ⟨ret_bool (decide_eq_true (by omega)), rfl⟩

set_option maxRecDepth 100000 in
set_option maxHeartbeats 4000000 in
theorem rreduced_any (A : Option Addr) (c x : Nat) (C : Option Addr) (d y : Nat) (w : World) (hA : Dn w A c (dg x)) (hC : Dn w C d (dg y)) (hl : (dg x).length ≤ 3000000) (hm : (dg y).length ≤ 3000000) (hy : 0 < y) (hn : (dg (rdN x y)).length ≤ 256) (hd : (dg (rdD x y)).length ≤ 256) :
    Calls Try.prog 169 #[.slice A (dg x).length c, .slice C (dg y).length d] w fun e w' => FrR w w' x y e := by
  have b0 := below_alloc (Below.refl w.heap.size w) (.cells #[.slice none 0 0, .slice none 0 0] 39)
  have g0 : 0 < Nat.gcd x y := Nat.gcd_pos_of_pos_right _ hy
  have cG := rgcd_any A c x C d y _ (hA.on b0) (hC.on b0) hl hm
  have lg : (dg (Nat.gcd x y)).length ≤ 3000000 := Nat.le_trans (dg_mono (Nat.le_of_dvd hy (Nat.gcd_dvd_right x y))) hm
  have c1 := fun w' (hb : Below w.heap.size w w') P p (ng : Dn w' P p (dg (Nat.gcd x y))) => divide_any A c x P p (Nat.gcd x y) w' (hA.on hb) ng hl lg g0
  have c2 := fun w' (hb : Below w.heap.size w w') P p (ng : Dn w' P p (dg (Nat.gcd x y))) => divide_any C d y P p (Nat.gcd x y) w' (hC.on hb) ng hm lg g0
  unfold FrR
  unfold rdN at hn ⊢
  unfold rdD at hd ⊢
  obtain ⟨X, hX⟩ : ∃ X, x / Nat.gcd x y = X := ⟨_, rfl⟩
  obtain ⟨Y, hY⟩ : ∃ Y, y / Nat.gcd x y = Y := ⟨_, rfl⟩
  rw [hX] at hn ⊢
  rw [hY] at hd ⊢
  simp only [hX] at c1
  simp only [hY] at c2
  clear hX hY g0 lg
  generalize Nat.gcd x y = G at *
  go_enter Try.func169, Try.ntmps169
  go_wp2_with fail
  refine cG.mono ?_
  rintro e w1 ⟨P, p, rfl, nG, hb1⟩
  have q1 := below_trans b0 hb1
  go_wp2_with fail
  refine (c1 w1 q1 P p nG).mono ?_
  rintro e w2 ⟨v1, A2, e2, rfl, dX, _, hb2⟩
  obtain ⟨A3, e3, rfl, nX⟩ := dX.dn
  have q2 := below_trans q1 hb2
  go_wp2_with fail
  refine (c2 w2 q2 P p (nG.on hb2)).mono ?_
  rintro e w3 ⟨v2, A4, e4, rfl, dY, _, hb3⟩
  obtain ⟨A5, e5, rfl, nY⟩ := dY.dn
  have q3 := below_trans q2 hb3
  go_wp2_with (first
    | (go_at_call 177; refine (rfits_any A3 e3 _ _ hn).mono ?_; rintro e w' ⟨rfl, rfl⟩)
    | (go_at_call 177; refine (rfits_any A5 e5 _ _ hd).mono ?_; rintro e w' ⟨rfl, rfl⟩))
  refine (nat_any A3 e3 X w3 (nX.on hb3) (by omega)).mono ?_
  rintro e w4 ⟨v3, rfl, b3, hb4⟩
  obtain ⟨A6, e6, rfl, n6⟩ := b3.nt
  go_wp2_with fail
  refine (nat_any A5 e5 Y w4 (nY.on hb4) (by omega)).mono ?_
  rintro e w5 ⟨v4, rfl, b4, hb5⟩
  obtain ⟨A7, e7, rfl, n7⟩ := b4.nt
  have HB := below_trans hb1 (below_trans hb2 (below_trans hb3 (below_trans hb4 hb5)))
  obtain ⟨z0, z1⟩ := blk_new HB (g := w.heap.size) rfl (j := 0) rfl
  obtain ⟨z2, z3⟩ := blk_new HB (g := w.heap.size) rfl (j := 1) rfl
  have s3 : w.heap.size < w3.heap.size := by have := (below_trans hb1 (below_trans hb2 hb3)).size; simp at this; omega
  have s4 : w.heap.size < w4.heap.size := by have := hb4.size; omega
  have F1 := Big.down (base' := w.heap.size) (big_set2 (b3.below hb5) (g := w.heap.size) s3 (.slice A6 (limbs X).length e6) (.slice A7 (limbs Y).length e7)) (by omega)
  have F2 := Big.down (base' := w.heap.size) (big_set2 b4 (g := w.heap.size) s4 (.slice A6 (limbs X).length e6) (.slice A7 (limbs Y).length e7)) (by omega)
  have F3 := ((below_trans b0 HB).setCell (p := ⟨w.heap.size, 0, none⟩) (Nat.le_refl _) (.slice A6 (limbs X).length e6)).setCell (p := ⟨w.heap.size, 1, none⟩) (Nat.le_refl _) (.slice A7 (limbs Y).length e7)
  go_wp2_with fail
  (try simp only [Exit.inBlock, Exit.then])
  refine bodyPost_ret (v := .tuple #[.agg #[.slice A6 (limbs X).length e6, .slice A7 (limbs Y).length e7], .int .i64 0]) ?_ rfl ⟨_, _, rfl, F1, F2, F3⟩
  rw [results_cell_tmp rfl]
  go_simp

theorem redS {w y : World} {a b : Value} (h : Below w.heap.size w y) (h0 : y.cell? ⟨w.heap.size, 0, none⟩ = some a) (h1 : y.cell? ⟨w.heap.size, 1, none⟩ = some b) (u v : Value) :
    Below w.heap.size w ((y.setCell ⟨w.heap.size + 1, 0, none⟩ u).setCell ⟨w.heap.size + 1, 1, none⟩ v) ∧ ((y.setCell ⟨w.heap.size + 1, 0, none⟩ u).setCell ⟨w.heap.size + 1, 1, none⟩ v).cell? ⟨w.heap.size, 0, none⟩ = some a ∧ ((y.setCell ⟨w.heap.size + 1, 0, none⟩ u).setCell ⟨w.heap.size + 1, 1, none⟩ v).cell? ⟨w.heap.size, 1, none⟩ = some b := by
  have e : w.heap.size ≤ w.heap.size + 1 := by omega
  refine ⟨(h.setCell e u).setCell e v, ?_, ?_⟩ <;> go_simp

set_option maxRecDepth 100000 in
set_option maxHeartbeats 8000000 in
theorem rReduce_any (f : Frc) (w : World) (hf : f.In w) (h0 : validE [f] = 0) (hp : 0 < V f.m) (hn : (dg (rdN (V f.l) (V f.m))).length ≤ 256) (hd : (dg (rdD (V f.l) (V f.m))).length ≤ 256) :
    Calls Try.prog 120 #[f.val] w fun e w' => FrR w w' (V f.l) (V f.m) e := by
  have b0 := below_alloc (below_alloc (Below.refl w.heap.size w) (.cells #[.slice f.A f.l.length f.c, .slice f.C f.m.length f.d] 39)) (.cells #[.slice none 0 0, .slice none 0 0] 39)
  have cV := rCheckFrac_any f _ (hf.on b0)
  rw [h0] at cV
  obtain ⟨s1, s2⟩ : f.l.length ≤ 64 ∧ f.m.length ≤ 64 := by
    have h1 := lng_mem (f := f) (k := 0) rfl (validE_zero.1 h0).1
    omega
  clear h0
  have c1 := fun w' (hb : Below w.heap.size w w') => digits_any f.A f.c f.l w' (hf.on hb).n (by omega)
  have c2 := fun w' (hb : Below w.heap.size w w') => digits_any f.C f.d f.m w' (hf.on hb).d (by omega)
  have lX : (dg (V f.l)).length ≤ 3000000 := by have := dgl_le (hf.n.dig); omega
  have lY : (dg (V f.m)).length ≤ 3000000 := by have := dgl_le (hf.d.dig); omega
  generalize V f.l = X at *
  generalize V f.m = Y at *
  have c3 := fun w' P p Q q (n1 : Dn w' P p (dg X)) (n2 : Dn w' Q q (dg Y)) => rreduced_any P p X Q q Y w' n1 n2 lX lY hp hn hd
  unfold FrR at c3 ⊢
  unfold Frc.val at cV ⊢
  clear hn hd
  go_enter Try.func120, Try.ntmps120
  go_wp2_with fail
  refine cV.mono ?_
  rintro e w3 ⟨rfl, hb3⟩
  have q3 := below_trans b0 hb3
  have k0 : w3.cell? ⟨w.heap.size, 0, none⟩ = some (.slice f.A f.l.length f.c) := bel_cell hb3 (by go_simp)
  have k1 : w3.cell? ⟨w.heap.size, 1, none⟩ = some (.slice f.C f.m.length f.d) := bel_cell hb3 (by go_simp)
  have j0 := blk_new hb3 (g := w.heap.size + 1) (by simp) (j := 0) rfl
  have j1 := blk_new hb3 (g := w.heap.size + 1) (by simp) (j := 1) rfl
  have sz3 : w.heap.size + 1 < w3.heap.size := World.block_lt_of_cell? w3 _ j0.1
  have J := fun w' (hb : Below w3.heap.size w3 w') => And.intro (And.intro (bel_cell hb j0.1) ((hb.frozen (p := ⟨w.heap.size + 1, 0, none⟩) sz3).trans j0.2)) (And.intro (bel_cell hb j1.1) ((hb.frozen (p := ⟨w.heap.size + 1, 1, none⟩) sz3).trans j1.2))
  clear j0 j1
  go_wp2_with fail
  go_region_held3 (fun w' => Below w.heap.size w w' ∧ w'.cell? ⟨w.heap.size, 0, none⟩ = some (.slice f.A f.l.length f.c) ∧ w'.cell? ⟨w.heap.size, 1, none⟩ = some (.slice f.C f.m.length f.d))
    (first | (exact ⟨q3.drew, k0, k1⟩) | (go_split_ands; exact ⟨below_trans (by assumption) hx1, bel_cell hx1 (by assumption), bel_cell hx1 (by assumption)⟩) | (go_split_ands; exact ⟨below_trans (by assumption) hx2, bel_cell hx2 (by assumption), bel_cell hx2 (by assumption)⟩) | (go_split_ands; exact ⟨below_trans (by assumption) hx3, bel_cell hx3 (by assumption), bel_cell hx3 (by assumption)⟩) | (go_split_ands; exact redS (by assumption) (by assumption) (by assumption) _ _))
    (first
      | (go_at_call 127; refine Calls.on (args' := #[.slice f.A f.l.length f.c]) rfl ?_; refine (c1 _ (by go_split_ands; assumption)).mono ?_; rintro e y1 ⟨v1, rfl, b1, hx1⟩; obtain ⟨A1, e1, hv1, n1⟩ := b1.dn; rw [hv1])
      | (go_at_call 127; refine Calls.on (args' := #[.slice f.C f.m.length f.d]) rfl ?_; refine (c2 _ (by go_split_ands; assumption)).mono ?_; rintro e y2 ⟨v2, rfl, b2, hx2⟩; obtain ⟨A2, e2, hv2, n2⟩ := b2.dn; rw [hv2])
      | (go_at_call 169; refine (c3 _ _ _ _ _ (n1.on hx2) n2).mono ?_; rintro e y3 ⟨v3, v4, rfl, b3, b4, hx3⟩; obtain ⟨A3, e3, hv3, n3⟩ := b3.nt; obtain ⟨A4, e4, hv4, n4⟩ := b4.nt; subst hv3 hv4; have HS : w3.heap.size ≤ y2.heap.size := Nat.le_trans hx1.size hx2.size; have HB := below_trans (below_trans (below_trans (Below.refl _ _).drew hx1) hx2) hx3; obtain ⟨⟨z0, z1⟩, z2, z3⟩ := J _ HB)
      | (go_at_call 169; refine (c3 _ _ _ _ _ n1 (n2.on hx1)).mono ?_; rintro e y3 ⟨v3, v4, rfl, b3, b4, hx3⟩; obtain ⟨A3, e3, hv3, n3⟩ := b3.nt; obtain ⟨A4, e4, hv4, n4⟩ := b4.nt; subst hv3 hv4; have HS : w3.heap.size ≤ y1.heap.size := Nat.le_trans hx2.size hx1.size; have HB := below_trans (below_trans (below_trans (Below.refl _ _).drew hx2) hx1) hx3; obtain ⟨⟨z0, z1⟩, z2, z3⟩ := J _ HB))
  all_goals (
    have F1 := Big.down (base' := w.heap.size) (big_set2 b3 (g := w.heap.size + 1) (by omega) (.slice A3 (limbs (rdN X Y)).length e3) (.slice A4 (limbs (rdD X Y)).length e4)) (by omega)
    have F2 := Big.down (base' := w.heap.size) (big_set2 b4 (g := w.heap.size + 1) (by omega) (.slice A3 (limbs (rdN X Y)).length e3) (.slice A4 (limbs (rdD X Y)).length e4)) (by omega)
    have F3 := ((below_trans q3 HB).setCell (p := ⟨w.heap.size + 1, 0, none⟩) (by simp) (.slice A3 (limbs (rdN X Y)).length e3)).setCell (p := ⟨w.heap.size + 1, 1, none⟩) (by simp) (.slice A4 (limbs (rdD X Y)).length e4)
    go_wp2_with fail
    (try simp only [Exit.inBlock, Exit.then])
    refine bodyPost_ret (v := .tuple #[.agg #[.slice A3 (limbs (rdN X Y)).length e3, .slice A4 (limbs (rdD X Y)).length e4], .int .i64 0]) ?_ rfl ⟨_, _, rfl, F1, F2, F3⟩
    rw [results_cell_tmp rfl]
    go_simp)

end Go.Proofs.Ytbobbcfjjdmdgaa
