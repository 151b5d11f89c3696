/- Contracts of the reference's pair and FracCompare. For at most 900000 limbs. -/
import Derived.Test.YtdngehgjbledfaaGreatRefJ
namespace Go.Proofs.YtdngehgjbledfaaGreat
open Go.RowKit
set_option linter.unusedVariables false
set_option linter.unusedSimpArgs false

theorem dg_limbs_len {l : List Nat} (h : Dig B32 l) {k : Nat} (hk : 4 * l.length ≤ k) : (dg (V l)).length ≤ k := by
  refine Nat.le_trans (dg_len (V_lt h) (k := 4 * l.length) (by omega)) hk
theorem pair_cases (f g : Frc) : (validE [f] = 4 ∧ validE [f, g] = 4) ∨ ((validE [f] == 4) = false ∧ validE [g] = 4 ∧ validE [f, g] = 4) ∨
    (validE [f] = 7 ∧ (validE [g] == 4) = false ∧ validE [f, g] = 7) ∨ (validE [f] = 0 ∧ validE [g] = 7 ∧ validE [f, g] = 7) ∨ (validE [f] = 0 ∧ validE [g] = 0 ∧ validE [f, g] = 0) := by
  unfold validE
  cases h1 : f.lng <;> cases h2 : g.lng <;> cases h3 : f.zro <;> cases h4 : g.zro <;> simp [h1, h2, h3, h4]

set_option maxRecDepth 100000 in
set_option maxHeartbeats 2000000 in
theorem pair_any (f g : Frc) (w : World) (hf : f.In w) (hg : g.In w) :
    Calls Tryz.prog 68 #[f.val, g.val] w fun e w' => e = .returned (.int .i64 (validE [f, g])) ∧ Below w.heap.size w w' := by
  have hb1 := below_alloc (below_alloc (Below.refl w.heap.size w) (.cells #[.slice f.A f.l.length f.c, .slice f.C f.m.length f.d] 29)) (.cells #[.slice g.A g.l.length g.c, .slice g.C g.m.length g.d] 29)
  have cF := fun w' (hb : Below w.heap.size w w') => rCheckFrac_any f w' (hf.on hb)
  have cG := fun w' (hb : Below w.heap.size w w') => rCheckFrac_any g w' (hg.on hb)
  unfold Frc.val at *
  obtain ⟨ef, hef⟩ : ∃ ef, validE [f] = ef := ⟨_, rfl⟩
  obtain ⟨eg, heg⟩ : ∃ eg, validE [g] = eg := ⟨_, rfl⟩
  have hc := pair_cases f g
  rw [hef, heg] at hc
  simp only [hef] at cF
  simp only [heg] at cG
  clear hef heg
  rcases hc with ⟨rfl, h3⟩ | ⟨h1, rfl, h3⟩ | ⟨rfl, h1, h3⟩ | ⟨rfl, rfl, h3⟩ | ⟨rfl, rfl, h3⟩
  · rw [h3]
    clear h3
    go_enter Tryz.func68, Tryz.ntmps68
    go_wp2_with fail
    refine (cF _ hb1).mono ?_
    rintro e w3 ⟨rfl, hb3⟩
    go_wp2_with fail
    go_ret
    exact ⟨rfl, below_trans hb1 hb3⟩
  · rw [h3]
    clear h3
    go_enter Tryz.func68, Tryz.ntmps68
    go_wp2_with fail
    refine (cF _ hb1).mono ?_
    rintro e w3 ⟨rfl, hb3⟩
    have q3 := below_trans hb1 hb3
    have k2 := (blk_new hb3 (g := w.heap.size + 1) (by simp) (j := 0) rfl).1
    have k3 := (blk_new hb3 (g := w.heap.size + 1) (by simp) (j := 1) rfl).1
    go_wp2_with fail
    refine (cG _ q3).mono ?_
    rintro e w4 ⟨rfl, hb4⟩
    go_wp2_with fail
    go_ret
    exact ⟨rfl, below_trans q3 hb4⟩
  all_goals (
    rw [h3]
    clear h3
    go_enter Tryz.func68, Tryz.ntmps68
    go_wp2_with fail
    refine (cF _ hb1).mono ?_
    rintro e w3 ⟨rfl, hb3⟩
    have q3 := below_trans hb1 hb3
    have k0 : w3.cell? ⟨w.heap.size, 0, none⟩ = some (.slice f.A f.l.length f.c) := bel_cell hb3 (by go_simp)
    have k1 : w3.cell? ⟨w.heap.size, 1, none⟩ = some (.slice f.C f.m.length f.d) := bel_cell hb3 (by go_simp)
    have k2 := (blk_new hb3 (g := w.heap.size + 1) (by simp) (j := 0) rfl).1
    have k3 := (blk_new hb3 (g := w.heap.size + 1) (by simp) (j := 1) rfl).1
    go_wp2_with fail
    refine (cG _ q3).mono ?_
    rintro e w4 ⟨rfl, hb4⟩
    have q4 := below_trans q3 hb4
    have m0 := bel_cell hb4 k0
    have m1 := bel_cell hb4 k1
    have m2 := bel_cell hb4 k2
    have m3 := bel_cell hb4 k3
    go_wp2_with fail
    refine (cF _ q4).mono ?_
    rintro e w5 ⟨rfl, hb5⟩
    have q5 := below_trans q4 hb5
    have l2 := bel_cell hb5 m2
    have l3 := bel_cell hb5 m3
    go_wp2_with fail
    first
      | (go_ret; exact ⟨rfl, q5⟩)
      | (refine (cG _ q5).mono ?_
         rintro e w6 ⟨rfl, hb6⟩
         go_wp2_with fail
         go_ret
         exact ⟨rfl, below_trans q5 hb6⟩))

set_option maxRecDepth 100000 in
set_option maxHeartbeats 4000000 in
theorem rFracCompare_any (f g : Frc) (w : World) (hf : f.In w) (hg : g.In w) :
    Calls Tryz.prog 41 #[f.val, g.val] w fun e w' => e = .returned (.tuple #[.int .i64 (fcmpI f g), .int .i64 (validE [f, g])]) ∧ Below w.heap.size w w' := by
  have hb1 := below_alloc (below_alloc (Below.refl w.heap.size w) (.cells #[.slice f.A f.l.length f.c, .slice f.C f.m.length f.d] 29)) (.cells #[.slice g.A g.l.length g.c, .slice g.C g.m.length g.d] 29)
  have cP := pair_any f g _ (hf.on hb1) (hg.on hb1)
  by_cases h0 : validE [f, g] = 0
  · have Hc : Hid (fcmpI f g = cmpI (V f.l * V g.m) (V g.l * V f.m)) := Lib.hid (by unfold fcmpI; rw [if_pos h0])
    rw [Hc.out]
    rw [h0] at cP ⊢
    unfold Frc.val at *
    obtain ⟨s1, s2, s3, s4⟩ := short2 h0
    have lfl : (dg (V f.l)).length ≤ 256 := dg_limbs_len hf.n.dig (by omega)
    have lfm : (dg (V f.m)).length ≤ 256 := dg_limbs_len hf.d.dig (by omega)
    have lgl : (dg (V g.l)).length ≤ 256 := dg_limbs_len hg.n.dig (by omega)
    have lgm : (dg (V g.m)).length ≤ 256 := dg_limbs_len hg.d.dig (by omega)
    clear h0
    go_enter Tryz.func41, Tryz.ntmps41
    go_wp2_with fail
    refine cP.mono ?_
    rintro e w3 ⟨rfl, hb3⟩
    have q3 := below_trans hb1 hb3
    have k0 : w3.cell? ⟨w.heap.size, 0, none⟩ = some (.slice f.A f.l.length f.c) := bel_cell hb3 (by go_simp)
    have k1 : w3.cell? ⟨w.heap.size, 1, none⟩ = some (.slice f.C f.m.length f.d) := bel_cell hb3 (by go_simp)
    have k2 : w3.cell? ⟨w.heap.size + 1, 0, none⟩ = some (.slice g.A g.l.length g.c) := bel_cell hb3 (by go_simp)
    have k3 : w3.cell? ⟨w.heap.size + 1, 1, none⟩ = some (.slice g.C g.m.length g.d) := bel_cell hb3 (by go_simp)
    have L0 := fun w' (hb : Below w3.heap.size w3 w') => bel_cell hb k0
    have L1 := fun w' (hb : Below w3.heap.size w3 w') => bel_cell hb k1
    have L2 := fun w' (hb : Below w3.heap.size w3 w') => bel_cell hb k2
    have L3 := fun w' (hb : Below w3.heap.size w3 w') => bel_cell hb k3
    have c1 := fun w' (hb : Below w3.heap.size w3 w') => digits_any f.A f.c f.l w' (hf.on (below_trans q3 hb)).n (by omega)
    have c2 := fun w' (hb : Below w3.heap.size w3 w') => digits_any g.C g.d g.m w' (hg.on (below_trans q3 hb)).d (by omega)
    have c3 := fun w' A c A' c' (h1 : Dn w' A c (dg (V f.l))) (h2 : Dn w' A' c' (dg (V g.m))) => rmul_any A c _ A' c' _ w' h1 h2 (by omega) (by omega)
    have c4 := fun w' (hb : Below w3.heap.size w3 w') => digits_any g.A g.c g.l w' (hg.on (below_trans q3 hb)).n (by omega)
    have c5 := fun w' (hb : Below w3.heap.size w3 w') => digits_any f.C f.d f.m w' (hf.on (below_trans q3 hb)).d (by omega)
    have c6 := fun w' A c A' c' (h1 : Dn w' A c (dg (V g.l))) (h2 : Dn w' A' c' (dg (V f.m))) => rmul_any A c _ A' c' _ w' h1 h2 (by omega) (by omega)
    have l1 := dg_mul (V f.l) (V g.m)
    have l2 := dg_mul (V g.l) (V f.m)
    have c7 := fun w' A c A' c' (h1 : Dn w' A c (dg (V f.l * V g.m))) (h2 : Dn w' A' c' (dg (V g.l * V f.m))) => rcmp_any A c _ A' c' _ w' h1 h2 (by omega) (by omega)
    simp only [dg_val] at c3 c6
    go_wp2_with fail
    go_region_held3 (fun w' => Below w3.heap.size w3 w')
      (first | (exact (Below.refl _ _).drew) | (refine below_trans ?_ hx1; assumption) | (refine below_trans ?_ hx2; assumption) | (refine below_trans ?_ hx3; assumption) | (refine below_trans ?_ hx4; assumption) | (refine below_trans ?_ hx5; assumption) | (refine below_trans ?_ hx6; assumption) | (refine below_trans ?_ hx7; assumption))
      (first | (go_at_call 63; refine Calls.on (args' := #[.slice f.A f.l.length f.c]) rfl ?_; refine (c1 _ ?hB).mono ?_; (case hB => assumption); rintro e y1 ⟨v1, rfl, b1, hx1⟩; obtain ⟨A1, e1, hv1, n1⟩ := b1.dn; rw [hv1]) | (go_at_call 63; refine Calls.on (args' := #[.slice g.C g.m.length g.d]) rfl ?_; refine (c2 _ ?hB).mono ?_; (case hB => assumption); rintro e y2 ⟨v2, rfl, b2, hx2⟩; obtain ⟨A2, e2, hv2, n2⟩ := b2.dn; rw [hv2]) | (go_at_call 63; refine Calls.on (args' := #[.slice g.A g.l.length g.c]) rfl ?_; refine (c4 _ ?hB).mono ?_; (case hB => assumption); rintro e y4 ⟨v4, rfl, b4, hx4⟩; obtain ⟨A4, e4, hv4, n4⟩ := b4.dn; rw [hv4]) | (go_at_call 63; refine Calls.on (args' := #[.slice f.C f.m.length f.d]) rfl ?_; refine (c5 _ ?hB).mono ?_; (case hB => assumption); rintro e y5 ⟨v5, rfl, b5, hx5⟩; obtain ⟨A5, e5, hv5, n5⟩ := b5.dn; rw [hv5]) | (go_at_call 64; refine Calls.on (args' := #[.slice A1 (dg (V f.l)).length e1, .slice A2 (dg (V g.m)).length e2]) rfl ?_; refine (c3 _ _ _ _ _ (n1.on hx2) n2).mono ?_; rintro e y3 ⟨v3, rfl, b3, hx3⟩; obtain ⟨A3, e3, hv3, n3⟩ := b3.dn; rw [hv3]) | (go_at_call 64; refine Calls.on (args' := #[.slice A4 (dg (V g.l)).length e4, .slice A5 (dg (V f.m)).length e5]) rfl ?_; refine (c6 _ _ _ _ _ (n4.on hx5) n5).mono ?_; rintro e y6 ⟨v6, rfl, b6, hx6⟩; obtain ⟨A6, e6, hv6, n6⟩ := b6.dn; rw [hv6]) | (go_at_call 62; refine (c7 _ _ _ _ _ (((n3.on hx4).on hx5).on hx6) n6).mono ?_; rintro e y7 ⟨rfl, hx7⟩))
    go_wp2_with fail
    go_ret2
    exact ⟨rfl, below_trans q3 (below_trans (below_trans (below_trans (below_trans (below_trans (below_trans (below_trans (Below.refl _ _).drew hx1) hx2) hx3) hx4) hx5) hx6) hx7)⟩
  · have Hc : Hid (fcmpI f g = 0) := Lib.hid (by unfold fcmpI; rw [if_neg h0])
    rw [Hc.out]
    have h0' : (validE [f, g] != 0) = true := by simpa using h0
    clear h0
    unfold Frc.val at *
    go_enter Tryz.func41, Tryz.ntmps41
    go_wp2_with fail
    refine cP.mono ?_
    rintro e w3 ⟨rfl, hb3⟩
    go_wp2_with fail
    go_ret2
    exact ⟨rfl, below_trans hb1 hb3⟩

end Go.Proofs.YtdngehgjbledfaaGreat
