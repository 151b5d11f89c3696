/- sift.Yield and sift.Faults, the reference's Yield and Faults, where the gains are refused. For any arrangement and gains. Contracts of sift.Yield and sift.Faults where the gains are good. For any arrangement and gains. Contracts of the reference's Yield and Faults where the gains are good. For any arrangement and gains. -/
import Derived.Test.YteoaaphjbggobaaGreatDoorYldP
namespace Go.Proofs.YteoaaphjbggobaaGreatDoor
open Go.RowKit
set_option linter.unusedVariables false
set_option linter.unusedSimpArgs false

/-- The boxes of an arrangement, of gains and of a result. -/
theorem boxes3 (o : Opt) (g : Gn) (w : World) : OptAt (((w.alloc (.cells #[.int .i64 o.k, .int .i64 o.c0, .int .i64 o.c1, .int .i64 o.c2, .int .i64 o.v0, .int .i64 o.v1, .int .i64 o.v2, .int .i64 o.v3, .int .i64 o.w0, .int .i64 o.w1, .int .i64 o.w2, .int .i64 o.w3, .int .i64 o.s0, .int .i64 o.s1, .int .i64 o.s2, .int .i64 o.s3, .int .i64 o.eta, .int .i64 o.dark] 60)).alloc (.cells #[.int .i64 g.a0, .int .i64 g.h0, .int .i64 g.x0, .int .i64 g.a1, .int .i64 g.h1, .int .i64 g.x1, .int .i64 g.a2, .int .i64 g.h2, .int .i64 g.x2] 63)).alloc (.cells #[.slice none 0 0, .slice none 0 0] 53)) w.heap.size o ∧ GnAt (((w.alloc (.cells #[.int .i64 o.k, .int .i64 o.c0, .int .i64 o.c1, .int .i64 o.c2, .int .i64 o.v0, .int .i64 o.v1, .int .i64 o.v2, .int .i64 o.v3, .int .i64 o.w0, .int .i64 o.w1, .int .i64 o.w2, .int .i64 o.w3, .int .i64 o.s0, .int .i64 o.s1, .int .i64 o.s2, .int .i64 o.s3, .int .i64 o.eta, .int .i64 o.dark] 60)).alloc (.cells #[.int .i64 g.a0, .int .i64 g.h0, .int .i64 g.x0, .int .i64 g.a1, .int .i64 g.h1, .int .i64 g.x1, .int .i64 g.a2, .int .i64 g.h2, .int .i64 g.x2] 63)).alloc (.cells #[.slice none 0 0, .slice none 0 0] 53)) (w.heap.size + 1) g ∧ ((((w.alloc (.cells #[.int .i64 o.k, .int .i64 o.c0, .int .i64 o.c1, .int .i64 o.c2, .int .i64 o.v0, .int .i64 o.v1, .int .i64 o.v2, .int .i64 o.v3, .int .i64 o.w0, .int .i64 o.w1, .int .i64 o.w2, .int .i64 o.w3, .int .i64 o.s0, .int .i64 o.s1, .int .i64 o.s2, .int .i64 o.s3, .int .i64 o.eta, .int .i64 o.dark] 60)).alloc (.cells #[.int .i64 g.a0, .int .i64 g.h0, .int .i64 g.x0, .int .i64 g.a1, .int .i64 g.h1, .int .i64 g.x1, .int .i64 g.a2, .int .i64 g.h2, .int .i64 g.x2] 63)).alloc (.cells #[.slice none 0 0, .slice none 0 0] 53)).cell? ⟨w.heap.size + 1 + 1, 0, none⟩ = some (.slice none 0 0) ∧ (((w.alloc (.cells #[.int .i64 o.k, .int .i64 o.c0, .int .i64 o.c1, .int .i64 o.c2, .int .i64 o.v0, .int .i64 o.v1, .int .i64 o.v2, .int .i64 o.v3, .int .i64 o.w0, .int .i64 o.w1, .int .i64 o.w2, .int .i64 o.w3, .int .i64 o.s0, .int .i64 o.s1, .int .i64 o.s2, .int .i64 o.s3, .int .i64 o.eta, .int .i64 o.dark] 60)).alloc (.cells #[.int .i64 g.a0, .int .i64 g.h0, .int .i64 g.x0, .int .i64 g.a1, .int .i64 g.h1, .int .i64 g.x1, .int .i64 g.a2, .int .i64 g.h2, .int .i64 g.x2] 63)).alloc (.cells #[.slice none 0 0, .slice none 0 0] 53)).frozen? ⟨w.heap.size + 1 + 1, 0, none⟩ = false) ∧ ((((w.alloc (.cells #[.int .i64 o.k, .int .i64 o.c0, .int .i64 o.c1, .int .i64 o.c2, .int .i64 o.v0, .int .i64 o.v1, .int .i64 o.v2, .int .i64 o.v3, .int .i64 o.w0, .int .i64 o.w1, .int .i64 o.w2, .int .i64 o.w3, .int .i64 o.s0, .int .i64 o.s1, .int .i64 o.s2, .int .i64 o.s3, .int .i64 o.eta, .int .i64 o.dark] 60)).alloc (.cells #[.int .i64 g.a0, .int .i64 g.h0, .int .i64 g.x0, .int .i64 g.a1, .int .i64 g.h1, .int .i64 g.x1, .int .i64 g.a2, .int .i64 g.h2, .int .i64 g.x2] 63)).alloc (.cells #[.slice none 0 0, .slice none 0 0] 53)).cell? ⟨w.heap.size + 1 + 1, 1, none⟩ = some (.slice none 0 0) ∧ (((w.alloc (.cells #[.int .i64 o.k, .int .i64 o.c0, .int .i64 o.c1, .int .i64 o.c2, .int .i64 o.v0, .int .i64 o.v1, .int .i64 o.v2, .int .i64 o.v3, .int .i64 o.w0, .int .i64 o.w1, .int .i64 o.w2, .int .i64 o.w3, .int .i64 o.s0, .int .i64 o.s1, .int .i64 o.s2, .int .i64 o.s3, .int .i64 o.eta, .int .i64 o.dark] 60)).alloc (.cells #[.int .i64 g.a0, .int .i64 g.h0, .int .i64 g.x0, .int .i64 g.a1, .int .i64 g.h1, .int .i64 g.x1, .int .i64 g.a2, .int .i64 g.h2, .int .i64 g.x2] 63)).alloc (.cells #[.slice none 0 0, .slice none 0 0] 53)).frozen? ⟨w.heap.size + 1 + 1, 1, none⟩ = false) ∧ Below w.heap.size w (((w.alloc (.cells #[.int .i64 o.k, .int .i64 o.c0, .int .i64 o.c1, .int .i64 o.c2, .int .i64 o.v0, .int .i64 o.v1, .int .i64 o.v2, .int .i64 o.v3, .int .i64 o.w0, .int .i64 o.w1, .int .i64 o.w2, .int .i64 o.w3, .int .i64 o.s0, .int .i64 o.s1, .int .i64 o.s2, .int .i64 o.s3, .int .i64 o.eta, .int .i64 o.dark] 60)).alloc (.cells #[.int .i64 g.a0, .int .i64 g.h0, .int .i64 g.x0, .int .i64 g.a1, .int .i64 g.h1, .int .i64 g.x1, .int .i64 g.a2, .int .i64 g.h2, .int .i64 g.x2] 63)).alloc (.cells #[.slice none 0 0, .slice none 0 0] 53)) := by
  have b2 := below_alloc (Below.refl ((w.alloc (.cells #[.int .i64 o.k, .int .i64 o.c0, .int .i64 o.c1, .int .i64 o.c2, .int .i64 o.v0, .int .i64 o.v1, .int .i64 o.v2, .int .i64 o.v3, .int .i64 o.w0, .int .i64 o.w1, .int .i64 o.w2, .int .i64 o.w3, .int .i64 o.s0, .int .i64 o.s1, .int .i64 o.s2, .int .i64 o.s3, .int .i64 o.eta, .int .i64 o.dark] 60)).alloc (.cells #[.int .i64 g.a0, .int .i64 g.h0, .int .i64 g.x0, .int .i64 g.a1, .int .i64 g.h1, .int .i64 g.x1, .int .i64 g.a2, .int .i64 g.h2, .int .i64 g.x2] 63)).heap.size ((w.alloc (.cells #[.int .i64 o.k, .int .i64 o.c0, .int .i64 o.c1, .int .i64 o.c2, .int .i64 o.v0, .int .i64 o.v1, .int .i64 o.v2, .int .i64 o.v3, .int .i64 o.w0, .int .i64 o.w1, .int .i64 o.w2, .int .i64 o.w3, .int .i64 o.s0, .int .i64 o.s1, .int .i64 o.s2, .int .i64 o.s3, .int .i64 o.eta, .int .i64 o.dark] 60)).alloc (.cells #[.int .i64 g.a0, .int .i64 g.h0, .int .i64 g.x0, .int .i64 g.a1, .int .i64 g.h1, .int .i64 g.x1, .int .i64 g.a2, .int .i64 g.h2, .int .i64 g.x2] 63))) (.cells #[.slice none 0 0, .slice none 0 0] 53)
  refine ⟨OptAt.on (heap_alloc2_old w _ _) b2, GnAt.on (heap_alloc2_new w _ _) b2, ⟨?_, ?_⟩, ⟨?_, ?_⟩, below_alloc (below_alloc (below_alloc (Below.refl w.heap.size w) _) _) _⟩
  all_goals go_simp

set_option maxRecDepth 100000 in
set_option maxHeartbeats 4000000 in
theorem yld_no (o : Opt) (g : Gn) (w : World) (hE : gainsE o g ≠ 0) : Calls Tryz.prog 15 #[o.val, g.val] w fun e w' => FrP w w' 0 0 (gainsE o g) e := by
  obtain ⟨at0, gt0, r0, r1, hb0⟩ := boxes3 o g w
  have cK := fun w' => checkGains_any o g w'
  unfold Opt.val Opt.cs Gn.val at *
  obtain ⟨E, he⟩ : ∃ E, gainsE o g = E := ⟨_, rfl⟩
  rw [he] at hE ⊢
  simp only [he] at cK
  have hne : (E != 0) = true := by rw [bne_iff_ne]; exact hE
  have At0 := Lib.hid at0; have Gt0 := Lib.hid gt0
  clear hE he at0 gt0
  go_enter Tryz.func15, Tryz.ntmps15
  go_upto_region 1 with fail
  obtain ⟨W, hW⟩ : ∃ W, (((w.alloc (.cells #[.int .i64 o.k, .int .i64 o.c0, .int .i64 o.c1, .int .i64 o.c2, .int .i64 o.v0, .int .i64 o.v1, .int .i64 o.v2, .int .i64 o.v3, .int .i64 o.w0, .int .i64 o.w1, .int .i64 o.w2, .int .i64 o.w3, .int .i64 o.s0, .int .i64 o.s1, .int .i64 o.s2, .int .i64 o.s3, .int .i64 o.eta, .int .i64 o.dark] 60)).alloc (.cells #[.int .i64 g.a0, .int .i64 g.h0, .int .i64 g.x0, .int .i64 g.a1, .int .i64 g.h1, .int .i64 g.x1, .int .i64 g.a2, .int .i64 g.h2, .int .i64 g.x2] 63)).alloc (.cells #[.slice none 0 0, .slice none 0 0] 53)) = W := ⟨_, rfl⟩
  rw [hW] at hb0 At0 Gt0 r0 r1 ⊢
  clear hW
  go_wp2_with (first | (refine wpList_load_row rfl 60 _ rfl w.heap.size rfl 60 _ (0, 0) _ At0.out Tryz.underlying60 rfl (by kernel_rfl) ?_) | (refine wpList_load_row rfl 63 _ rfl (w.heap.size + 1) rfl 63 _ (0, 0) _ Gt0.out Tryz.underlying63 rfl (by kernel_rfl) ?_))
  refine (cK _).mono ?_
  rintro e w2 ⟨rfl, hb2⟩
  have q2 := below_trans hb0 hb2
  have s0 := World.block_lt_of_cell? W _ r0.1
  have k0 := bel_cell hb2 r0.1
  have k1 := bel_cell hb2 r1.1
  have z0 := (hb2.frozen (p := ⟨w.heap.size + 1 + 1, 0, none⟩) s0).trans r0.2
  have z1 := (hb2.frozen (p := ⟨w.heap.size + 1 + 1, 1, none⟩) s0).trans r1.2
  have B3 := (q2.setCell (p := ⟨w.heap.size + 1 + 1, 0, none⟩) (by simp; omega) (.slice none 0 0)).setCell (p := ⟨w.heap.size + 1 + 1, 1, none⟩) (by simp; omega) (.slice none 0 0)
  go_wp2_with fail
  (try simp only [Exit.inBlock, Exit.then])
  refine bodyPost_ret (v := .tuple #[.agg #[.slice none 0 0, .slice none 0 0], .int .i64 E]) ?_ rfl ⟨_, _, rfl, big_zero _ _, big_zero _ _, B3⟩
  rw [results_cell_tmp rfl]
  go_simp

set_option maxRecDepth 100000 in
set_option maxHeartbeats 4000000 in
theorem flt_no (o : Opt) (g : Gn) (w : World) (hE : gainsE o g ≠ 0) : Calls Tryz.prog 16 #[o.val, g.val] w fun e w' => FrP w w' 0 0 (gainsE o g) e := by
  obtain ⟨at0, gt0, r0, r1, hb0⟩ := boxes3 o g w
  have cK := fun w' => checkGains_any o g w'
  unfold Opt.val Opt.cs Gn.val at *
  obtain ⟨E, he⟩ : ∃ E, gainsE o g = E := ⟨_, rfl⟩
  rw [he] at hE ⊢
  simp only [he] at cK
  have hne : (E != 0) = true := by rw [bne_iff_ne]; exact hE
  have At0 := Lib.hid at0; have Gt0 := Lib.hid gt0
  clear hE he at0 gt0
  go_enter Tryz.func16, Tryz.ntmps16
  go_upto_region 1 with fail
  obtain ⟨W, hW⟩ : ∃ W, (((w.alloc (.cells #[.int .i64 o.k, .int .i64 o.c0, .int .i64 o.c1, .int .i64 o.c2, .int .i64 o.v0, .int .i64 o.v1, .int .i64 o.v2, .int .i64 o.v3, .int .i64 o.w0, .int .i64 o.w1, .int .i64 o.w2, .int .i64 o.w3, .int .i64 o.s0, .int .i64 o.s1, .int .i64 o.s2, .int .i64 o.s3, .int .i64 o.eta, .int .i64 o.dark] 60)).alloc (.cells #[.int .i64 g.a0, .int .i64 g.h0, .int .i64 g.x0, .int .i64 g.a1, .int .i64 g.h1, .int .i64 g.x1, .int .i64 g.a2, .int .i64 g.h2, .int .i64 g.x2] 63)).alloc (.cells #[.slice none 0 0, .slice none 0 0] 53)) = W := ⟨_, rfl⟩
  rw [hW] at hb0 At0 Gt0 r0 r1 ⊢
  clear hW
  go_wp2_with (first | (refine wpList_load_row rfl 60 _ rfl w.heap.size rfl 60 _ (0, 0) _ At0.out Tryz.underlying60 rfl (by kernel_rfl) ?_) | (refine wpList_load_row rfl 63 _ rfl (w.heap.size + 1) rfl 63 _ (0, 0) _ Gt0.out Tryz.underlying63 rfl (by kernel_rfl) ?_))
  refine (cK _).mono ?_
  rintro e w2 ⟨rfl, hb2⟩
  have q2 := below_trans hb0 hb2
  have s0 := World.block_lt_of_cell? W _ r0.1
  have k0 := bel_cell hb2 r0.1
  have k1 := bel_cell hb2 r1.1
  have z0 := (hb2.frozen (p := ⟨w.heap.size + 1 + 1, 0, none⟩) s0).trans r0.2
  have z1 := (hb2.frozen (p := ⟨w.heap.size + 1 + 1, 1, none⟩) s0).trans r1.2
  have B3 := (q2.setCell (p := ⟨w.heap.size + 1 + 1, 0, none⟩) (by simp; omega) (.slice none 0 0)).setCell (p := ⟨w.heap.size + 1 + 1, 1, none⟩) (by simp; omega) (.slice none 0 0)
  go_wp2_with fail
  (try simp only [Exit.inBlock, Exit.then])
  refine bodyPost_ret (v := .tuple #[.agg #[.slice none 0 0, .slice none 0 0], .int .i64 E]) ?_ rfl ⟨_, _, rfl, big_zero _ _, big_zero _ _, B3⟩
  rw [results_cell_tmp rfl]
  go_simp

end Go.Proofs.YteoaaphjbggobaaGreatDoor

namespace Go.Proofs.YteoaaphjbggobaaGreatDoor
open Go.RowKit
set_option linter.unusedVariables false
set_option linter.unusedSimpArgs false

theorem gains_opt {o : Opt} {g : Gn} (h : gainsE o g = 0) : suitE o = 0 ∧ optE o = 0 ∧ 0 < o.s2 * o.w1 - o.w2 * o.s1 ∧ o.s2 * o.w3 ≤ o.w2 * o.s3 := by
  unfold gainsE at h
  have h1 : suitE o = 0 := by
    by_cases hs : suitE o = 0
    · exact hs
    · rw [if_pos hs] at h; exact absurd h hs
  have h2 := h1
  unfold suitE at h2
  have h3 : optE o = 0 := by
    by_cases hs : optE o = 0
    · exact hs
    · rw [if_pos hs] at h2; exact absurd h2 hs
  rw [if_neg (by simp [h3])] at h2
  split at h2
  · exact absurd h2 (by decide)
  · split at h2
    · exact absurd h2 (by decide)
    · rename_i hn
      exact ⟨h1, h3, by omega, by omega⟩
theorem gains_nat {o : Opt} {g : Gn} (h : gainsE o g = 0) : ∃ a0 h0 x0 a1 h1 x1 a2 h2 x2 : Nat, g = ⟨a0, h0, x0, a1, h1, x1, a2, h2, x2⟩ ∧ (0 < a0 ∧ a0 ≤ 4096 ∧ h0 ≤ a0 ∧ x0 ≤ h0) ∧ (0 < a1 ∧ a1 ≤ 4096 ∧ h1 ≤ a1 ∧ x1 ≤ h1) ∧ (0 < a2 ∧ a2 ≤ 4096 ∧ h2 ≤ a2 ∧ x2 ≤ h2) := by
  have hs := (gains_opt h).1
  unfold gainsE at h
  rw [if_neg (by simp [hs])] at h
  split at h
  · exact absurd h (by decide)
  · split at h
    · exact absurd h (by decide)
    · rename_i hn1 hn2
      have hn1 := Decidable.not_not.1 hn1
      have hn2 := Decidable.not_not.1 hn2
      unfold okG at hn1
      obtain ⟨a0, h0, x0, a1, h1, x1, a2, h2, x2⟩ := g
      simp only at hn1 hn2
      refine ⟨a0.toNat, h0.toNat, x0.toNat, a1.toNat, h1.toNat, x1.toNat, a2.toNat, h2.toNat, x2.toNat, ?_, ?_, ?_, ?_⟩
      · simp only [Gn.mk.injEq]; omega
      all_goals omega
theorem row_bounds {o : Opt} (h : optE o = 0) : ((0 ≤ o.w0 ∧ o.w0 ≤ 256) ∧ (0 ≤ o.w1 ∧ o.w1 ≤ 256) ∧ (0 ≤ o.w2 ∧ o.w2 ≤ 256)) ∧ (0 ≤ o.s0 ∧ o.s0 ≤ 256) ∧ (0 ≤ o.s1 ∧ o.s1 ≤ 256) ∧ (0 ≤ o.s2 ∧ o.s2 ≤ 256) := by
  obtain ⟨_, h1, h2⟩ := opt_rows h
  obtain ⟨q0, q1, q2, _⟩ := wt_parts h1
  obtain ⟨r0, r1, r2, _⟩ := wt_parts h2
  exact ⟨⟨q0, q1, q2⟩, r0, r1, r2⟩
theorem frp_end {w z : World} {B rb N D : Nat} {v1 v2 : Value} (b1 : Big z B v1 N) (b2 : Big z B v2 D) (hrb : rb < B) (hw : w.heap.size ≤ rb) (hb : Below w.heap.size w z) :
    Big ((z.setCell ⟨rb, 0, none⟩ v1).setCell ⟨rb, 1, none⟩ v2) w.heap.size v1 N ∧ Big ((z.setCell ⟨rb, 0, none⟩ v1).setCell ⟨rb, 1, none⟩ v2) w.heap.size v2 D ∧ Below w.heap.size w ((z.setCell ⟨rb, 0, none⟩ v1).setCell ⟨rb, 1, none⟩ v2) :=
  ⟨(big_set2 b1 hrb _ _).down (by omega), (big_set2 b2 hrb _ _).down (by omega), (hb.setCell (p := ⟨rb, 0, none⟩) hw _).setCell (p := ⟨rb, 1, none⟩) hw _⟩
theorem gn_cells {w : World} {b : Nat} {g : Gn} {a0 h0 x0 a1 h1 x1 a2 h2 x2 : Nat} (h : GnAt w b g) (hg : g = ⟨a0, h0, x0, a1, h1, x1, a2, h2, x2⟩) : w.cell? ⟨b, 0, none⟩ = some (.int .i64 (a0 : Int)) ∧ w.cell? ⟨b, 1, none⟩ = some (.int .i64 (h0 : Int)) ∧ w.cell? ⟨b, 2, none⟩ = some (.int .i64 (x0 : Int)) ∧ w.cell? ⟨b, 3, none⟩ = some (.int .i64 (a1 : Int)) ∧ w.cell? ⟨b, 4, none⟩ = some (.int .i64 (h1 : Int)) ∧ w.cell? ⟨b, 5, none⟩ = some (.int .i64 (x1 : Int)) ∧ w.cell? ⟨b, 6, none⟩ = some (.int .i64 (a2 : Int)) ∧ w.cell? ⟨b, 7, none⟩ = some (.int .i64 (h2 : Int)) ∧ w.cell? ⟨b, 8, none⟩ = some (.int .i64 (x2 : Int)) := by
  subst hg
  exact ⟨h.y0, h.y1, h.y2, h.y3, h.y4, h.y5, h.y6, h.y7, h.y8⟩
theorem one_le {a : Nat} (ha : a ≤ 4096) : a ≤ 4096 * 4096 := by omega
theorem w1_pos {w1 w2 s1 s2 : Int} (a : 0 ≤ w1 ∧ w1 ≤ 256) (b : 0 ≤ w2 ∧ w2 ≤ 256) (c : 0 ≤ s1 ∧ s1 ≤ 256) (d : 0 ≤ s2 ∧ s2 ≤ 256) (h : 0 < s2 * w1 - w2 * s1) : 0 < w1 := by
  rcases Int.lt_or_le 0 w1 with h1 | h1
  · exact h1
  · obtain rfl : w1 = 0 := by omega
    have := Int.mul_nonneg b.1 c.1
    rw [Int.mul_zero] at h
    omega
theorem prod_t {a b c : Nat} : b * (a * c) = a * b * c ∧ c * (a * b) = a * b * c ∧ a * (b * c) = a * b * c := ⟨by rw [← Nat.mul_assoc, Nat.mul_comm b a], by rw [Nat.mul_comm], by rw [Nat.mul_assoc]⟩
theorem two_le {a b : Nat} (ha : a ≤ 4096) (hb : b ≤ 4096) : a * b ≤ 4096 * 4096 := Nat.mul_le_mul ha hb
/-- Three terms. -/
theorem three_lt {p1 p2 p3 n1 n2 n3 t1 t2 t3 : Nat} (h1 : p1 ≤ 65536) (h2 : p2 ≤ 65536) (h3 : p3 ≤ 65536) (k1 : n1 ≤ 4096) (k2 : n2 ≤ 4096) (k3 : n3 ≤ 4096) (l1 : t1 ≤ 4096 * 4096) (l2 : t2 ≤ 4096 * 4096) (l3 : t3 ≤ 4096 * 4096) :
    0 + p1 * n1 * t1 < B32 ^ 4 ∧ 0 + p1 * n1 * t1 + p2 * n2 * t2 < B32 ^ 4 ∧ 0 + p1 * n1 * t1 + p2 * n2 * t2 + p3 * n3 * t3 < B32 ^ 4 := by
  have e1 := term_le h1 k1 l1
  have e2 := term_le h2 k2 l2
  have e3 := term_le h3 k3 l3
  exact ⟨sum_lt (by omega), sum_lt (by omega), sum_lt (by omega)⟩
theorem yNum_mk (o : Opt) (a0 h0 x0 a1 h1 x1 a2 h2 x2 : Nat) : yNum o ⟨a0, h0, x0, a1, h1, x1, a2, h2, x2⟩ = 0 + 256 * o.s2 * (h1 : Int) * ((a0 * a2 : Nat) : Int) + -256 * o.w2 * (h2 : Int) * ((a0 * a1 : Nat) : Int) + (o.w2 * o.s0 - o.s2 * o.w0) * (h0 : Int) * ((a1 * a2 : Nat) : Int) := by
  unfold yNum
  simp only [Int.natCast_mul]
  have e1 : 256 * o.s2 * (h1 : Int) * ((a0 : Int) * (a2 : Int)) = 256 * o.s2 * h1 * a0 * a2 := by rw [← Int.mul_assoc]
  have e2 : -256 * o.w2 * (h2 : Int) * ((a0 : Int) * (a1 : Int)) = -(256 * o.w2 * h2 * a0 * a1) := by rw [← Int.mul_assoc]; simp only [Int.neg_mul]
  have e3 : (o.w2 * o.s0 - o.s2 * o.w0) * (h0 : Int) * ((a1 : Int) * (a2 : Int)) = -((o.s2 * o.w0 - o.w2 * o.s0) * h0 * a1 * a2) := by rw [← Int.mul_assoc, ← Int.neg_sub]; simp only [Int.neg_mul]
  rw [e1, e2, e3]
  omega
theorem yDen_mk (o : Opt) (a0 h0 x0 a1 h1 x1 a2 h2 x2 : Nat) (d : Nat) (hd : o.s2 * o.w1 - o.w2 * o.s1 = (d : Int)) : (yDen o ⟨a0, h0, x0, a1, h1, x1, a2, h2, x2⟩).toNat = a0 * a1 * a2 * d := by
  have e : yDen o ⟨a0, h0, x0, a1, h1, x1, a2, h2, x2⟩ = ((a0 * a1 * a2 * d : Nat) : Int) := by
    unfold yDen
    simp only [hd, Int.natCast_mul]
    rw [Int.mul_comm ((a0 : Int) * a1 * a2), ← Int.mul_assoc, ← Int.mul_assoc]
  rw [e]; rfl
theorem fNum_mk (o : Opt) (a0 h0 x0 a1 h1 x1 a2 h2 x2 : Nat) : fNum o ⟨a0, h0, x0, a1, h1, x1, a2, h2, x2⟩ = 0 + 256 * (x1 : Int) * (a0 : Int) + -o.w0 * (x0 : Int) * (a1 : Int) := by
  unfold fNum
  simp only [Int.neg_mul]
  omega
theorem fDen_mk (o : Opt) (a0 h0 x0 a1 h1 x1 a2 h2 x2 : Nat) (d : Nat) (hd : o.w1 = (d : Int)) : (fDen o ⟨a0, h0, x0, a1, h1, x1, a2, h2, x2⟩).toNat = a0 * a1 * d := by
  have e : fDen o ⟨a0, h0, x0, a1, h1, x1, a2, h2, x2⟩ = ((a0 * a1 * d : Nat) : Int) := by
    unfold fDen
    simp only [hd, Int.natCast_mul]
    rw [Int.mul_comm ((a0 : Int) * a1), ← Int.mul_assoc]
  rw [e]; rfl

set_option maxRecDepth 100000 in
set_option maxHeartbeats 8000000 in
theorem yld_ok (o : Opt) (g : Gn) (w : World) (hE : gainsE o g = 0) : Calls Tryz.prog 15 #[o.val, g.val] w fun e w' => FrP w w' (rdN (brtN (yNum o g) (yDen o g).toNat) (yDen o g).toNat) (rdD (brtN (yNum o g) (yDen o g).toNat) (yDen o g).toNat) 0 e := by
  obtain ⟨sE, oE, pos, _⟩ := gains_opt hE
  have cK := fun w' => checkGains_any o g w'
  simp only [hE] at cK
  obtain ⟨a0, h0, x0, a1, h1, x1, a2, h2, x2, hg, ⟨m1, m2, m3, m4⟩, ⟨m5, m6, m7, m8⟩, m9, m10, m11, m12⟩ := gains_nat hE
  obtain ⟨at0, gt0, r0, r1, hb0⟩ := boxes3 o g w
  obtain ⟨⟨p0, p1, p2⟩, p3, p4, p5⟩ := row_bounds oE
  obtain ⟨P1, hP1, u1, u2, u3⟩ := imul p2 p3
  obtain ⟨P2, hP2, u4, u5, u6⟩ := imul p5 p0
  obtain ⟨P3, hP3, u7, u8, u9⟩ := imul p5 p1
  obtain ⟨P4, hP4, u10, u11, u12⟩ := imul p2 p4
  have eN := yNum_mk o a0 h0 x0 a1 h1 x1 a2 h2 x2
  obtain ⟨d, hd⟩ : ∃ d : Nat, P3 - P4 = (d : Int) := ⟨(P3 - P4).toNat, by rw [hP3, hP4] at pos; omega⟩
  have eD := yDen_mk o a0 h0 x0 a1 h1 x1 a2 h2 x2 d (by rw [hP3, hP4]; exact hd)
  have d0 : 0 < d := by rw [hP3, hP4] at pos; omega
  have d1 : d ≤ 65536 := by omega
  rw [hP1, hP2, ← hg] at eN
  rw [← hg] at eD
  rw [eD]
  obtain ⟨num, hnum⟩ : ∃ num, yNum o g = num := ⟨_, rfl⟩
  rw [hnum] at eN ⊢
  have HG := Lib.hid hg
  clear hP1 hP2 hP3 hP4 pos hnum eD hE sE oE hg
  have EN := Lib.hid eN
  obtain ⟨T, hT⟩ : ∃ T, a0 * a1 * a2 = T := ⟨_, rfl⟩
  obtain ⟨pt1, pt2, pt3⟩ := prod_t (a := a0) (b := a1) (c := a2)
  rw [hT] at pt1 pt2 pt3 ⊢
  have hT0 : 0 < T := by rw [← hT]; exact Nat.mul_pos (Nat.mul_pos m1 m5) m9
  have hT4 : T < B32 ^ 4 := by rw [← hT]; exact Nat.lt_of_le_of_lt (prod3_le m2 m6 m10) (by decide)
  have b1 : -65536 ≤ 256 * o.s2 ∧ 256 * o.s2 ≤ 65536 := by omega
  have b2 : -65536 ≤ -256 * o.w2 ∧ -256 * o.w2 ≤ 65536 := by omega
  have b3 : -65536 ≤ P1 - P2 ∧ P1 - P2 ≤ 65536 := by omega
  have o1 : h1 ≤ 4096 := by omega
  have o2 : h2 ≤ 4096 := by omega
  have o3 : h0 ≤ 4096 := by omega
  obtain ⟨A1, A2, A3⟩ := three_lt (posN_le b1).1 (posN_le b2).1 (posN_le b3).1 o1 o2 o3 (two_le m2 m10) (two_le m2 m6) (two_le m6 m10)
  obtain ⟨C1, C2, C3⟩ := three_lt (posN_le b1).2 (posN_le b2).2 (posN_le b3).2 o1 o2 o3 (two_le m2 m10) (two_le m2 m6) (two_le m6 m10)
  have t1 := term_step (x := 0) (y := 0) (num := 0) rfl (256 * o.s2) h1 (a0 * a2)
  have t2 := term_step t1 (-256 * o.w2) h2 (a0 * a1)
  have t3 := term_step t2 (P1 - P2) h0 (a1 * a2)
  have fin := min_brt (D := T * d) (t3.trans eN.symm)
  have c1 := fun b w' hS => heard_rep b 0 0 T (a0 * a2) a1 h1 x1 (256 * o.s2) w' hS b1 o1 m6 m5 pt1 hT0 (by decide) (by decide) hT4
  have c2 := fun b w' hS => heard_rep b _ _ T (a0 * a1) a2 h2 x2 (-256 * o.w2) w' hS b2 o2 m10 m9 pt2 hT0 A1 C1 hT4
  have c3 := fun b w' hS => heard_rep b _ _ T (a1 * a2) a0 h0 x0 (P1 - P2) w' hS b3 o3 m2 m1 pt3 hT0 A2 C2 hT4
  have c4 := fun b w' hS => over_rep b _ _ T d w' hS d0 d1 hT0 A3 C3 hT4
  rw [fin] at c4
  have c0 := fun w' => newSum_rep T hT0 w'
  have C1' := Lib.hid c1; have C2' := Lib.hid c2; have C3' := Lib.hid c3; have C4' := Lib.hid c4; have C0' := Lib.hid c0
  clear c1 c2 c3 c4 c0 fin t1 t2 t3 A1 A2 A3 C1 C2 C3 eN EN b1 b2 b3 o1 o2 o3 pt1 pt2 pt3 hT0 hT4 hT m1 m2 m3 m4 m5 m6 m7 m8 m9 m10 m11 m12 d0 d1 p0 p1 p3 p4
  unfold Opt.val Opt.cs Gn.val at *
  have At0 := Lib.hid at0; have Gt0 := Lib.hid gt0
  clear at0 gt0
  go_enter Tryz.func15, Tryz.ntmps15
  go_upto_region 1 with fail
  obtain ⟨W, hW⟩ : ∃ W, (((w.alloc (.cells #[.int .i64 o.k, .int .i64 o.c0, .int .i64 o.c1, .int .i64 o.c2, .int .i64 o.v0, .int .i64 o.v1, .int .i64 o.v2, .int .i64 o.v3, .int .i64 o.w0, .int .i64 o.w1, .int .i64 o.w2, .int .i64 o.w3, .int .i64 o.s0, .int .i64 o.s1, .int .i64 o.s2, .int .i64 o.s3, .int .i64 o.eta, .int .i64 o.dark] 60)).alloc (.cells #[.int .i64 g.a0, .int .i64 g.h0, .int .i64 g.x0, .int .i64 g.a1, .int .i64 g.h1, .int .i64 g.x1, .int .i64 g.a2, .int .i64 g.h2, .int .i64 g.x2] 63)).alloc (.cells #[.slice none 0 0, .slice none 0 0] 53)) = W := ⟨_, rfl⟩
  rw [hW] at hb0 At0 Gt0 r0 r1 ⊢
  clear hW
  go_wp2_with (first | (refine wpList_load_row rfl 60 _ rfl w.heap.size rfl 60 _ (0, 0) _ At0.out Tryz.underlying60 rfl (by kernel_rfl) ?_) | (refine wpList_load_row rfl 63 _ rfl (w.heap.size + 1) rfl 63 _ (0, 0) _ Gt0.out Tryz.underlying63 rfl (by kernel_rfl) ?_))
  refine (cK _).mono ?_
  rintro e w2 ⟨rfl, hb2⟩
  have q2 := below_trans hb0 hb2
  have at2 := At0.out.on hb2
  have gt2 := Lib.hid (Gt0.out.on hb2)
  have sR := World.block_lt_of_cell? W _ r0.1
  have j0 : w2.cell? ⟨w.heap.size + 1 + 1, 0, none⟩ = some (.slice none 0 0) := bel_cell hb2 r0.1
  have j1 : w2.cell? ⟨w.heap.size + 1 + 1, 1, none⟩ = some (.slice none 0 0) := bel_cell hb2 r1.1
  have j2 : w2.frozen? ⟨w.heap.size + 1 + 1, 0, none⟩ = false := (hb2.frozen (p := ⟨w.heap.size + 1 + 1, 0, none⟩) sR).trans r0.2
  have j3 : w2.frozen? ⟨w.heap.size + 1 + 1, 1, none⟩ = false := (hb2.frozen (p := ⟨w.heap.size + 1 + 1, 1, none⟩) sR).trans r1.2
  have sR2 : w.heap.size + 1 + 1 < w2.heap.size := World.block_lt_of_cell? w2 _ j0
  have x0' := at2.x0
  have sz2 : w.heap.size < w2.heap.size := World.block_lt_of_cell? w2 _ x0'
  have L8 := fun w' (hb : Below w2.heap.size w2 w') => (at2.on hb).x8
  have L9 := fun w' (hb : Below w2.heap.size w2 w') => (at2.on hb).x9
  have L10 := fun w' (hb : Below w2.heap.size w2 w') => (at2.on hb).x10
  have L11 := fun w' (hb : Below w2.heap.size w2 w') => (at2.on hb).x11
  have L12 := fun w' (hb : Below w2.heap.size w2 w') => (at2.on hb).x12
  have L13 := fun w' (hb : Below w2.heap.size w2 w') => (at2.on hb).x13
  have L14 := fun w' (hb : Below w2.heap.size w2 w') => (at2.on hb).x14
  have L15 := fun w' (hb : Below w2.heap.size w2 w') => (at2.on hb).x15
  go_upto_region 4 with fail
  go_cut [7, 8] (fun va vb wx => ∃ g h, va = .pointer (some ⟨g, 0, none⟩) ∧ vb = .pointer (some ⟨h, 0, none⟩) ∧ Row4 wx g o.w0 o.w1 o.w2 o.w3 ∧ Row4 wx h o.s0 o.s1 o.s2 o.s3 ∧ Below w2.heap.size w2 wx)
  case first =>
    go_region_held3 (fun w' => Below w2.heap.size w2 w')
      (first | (exact (Below.refl _ _).drew) | (refine below_alloc ?_ _; assumption) | (exact below_alloc (below_alloc (Below.refl _ _).drew _) _) | (exact below_alloc (Below.refl _ _).drew _))
      (fail)
    all_goals (
      go_wp2_with fail
      go_meet
      case rel => first
        | exact ⟨_, _, rfl, rfl, row4_a _ _ _ _ _ _ _ _ _ _, row4_b _ _ _ _ _ _ _ _ _ _, (below_alloc (below_alloc (Below.refl _ _) _) _).drew⟩
        | exact ⟨_, _, rfl, rfl, row4_b _ _ _ _ _ _ _ _ _ _, row4_a _ _ _ _ _ _ _ _ _ _, (below_alloc (below_alloc (Below.refl _ _) _) _).drew⟩)
  obtain ⟨p, q, rfl, rfl, R1, R2, hbc⟩ := hcut
  have q3 := below_trans q2 hbc
  have gt3 := Lib.hid (gt2.out.on hbc)
  have i0 := bel_cell hbc j0
  have i1 := bel_cell hbc j1
  have i2 := (hbc.frozen (p := ⟨w.heap.size + 1 + 1, 0, none⟩) sR2).trans j2
  have i3 := (hbc.frozen (p := ⟨w.heap.size + 1 + 1, 1, none⟩) sR2).trans j3
  have sC : w.heap.size + 1 + 1 < wc.heap.size := World.block_lt_of_cell? wc _ i0
  have RR1 := Lib.hid R1; have RR2 := Lib.hid R2
  clear x0' cK L8 L9 L10 L11 L12 L13 L14 L15 sz2 R1 R2 at2 j0 j1 j2 j3 r0 r1 gt2 At0 Gt0 hbc hb2 sR sR2 q2 hb0
  go_wp2_with fail
  refine (C0'.out wc).mono ?_
  rintro e w4 ⟨b, rfl, S0, lb, hx4⟩
  obtain ⟨y0, y1, y2, y3⟩ := RR1.out.on hx4
  obtain ⟨z0, z1, z2, z3⟩ := RR2.out.on hx4
  obtain ⟨k0, k1, k2, k3, k4, k5, k6, k7, k8⟩ := gn_cells (gt3.out.on hx4) HG.out
  go_wp2_with fail
  refine (C1'.out b w4 S0).mono ?_
  rintro e w5 ⟨rfl, S1, hk5⟩
  have B5 : Below wc.heap.size wc w5 := hx4.trans (hk5 wc.heap.size lb)
  clear y0 y1 y2 y3 z0 z1 z2 z3 k0 k1 k2 k3 k4 k5 k6 k7 k8
  obtain ⟨y0, y1, y2, y3⟩ := RR1.out.on B5
  obtain ⟨z0, z1, z2, z3⟩ := RR2.out.on B5
  obtain ⟨k0, k1, k2, k3, k4, k5, k6, k7, k8⟩ := gn_cells (gt3.out.on B5) HG.out
  go_wp2_with fail
  refine (C2'.out b w5 S1).mono ?_
  rintro e w6 ⟨rfl, S2, hk6⟩
  have B6 : Below wc.heap.size wc w6 := B5.trans (hk6 wc.heap.size lb)
  clear y0 y1 y2 y3 z0 z1 z2 z3 k0 k1 k2 k3 k4 k5 k6 k7 k8
  obtain ⟨y0, y1, y2, y3⟩ := RR1.out.on B6
  obtain ⟨z0, z1, z2, z3⟩ := RR2.out.on B6
  obtain ⟨k0, k1, k2, k3, k4, k5, k6, k7, k8⟩ := gn_cells (gt3.out.on B6) HG.out
  go_wp2_with fail
  refine (C3'.out b w6 S2).mono ?_
  rintro e w7 ⟨rfl, S3, hk7⟩
  have B7 : Below wc.heap.size wc w7 := B6.trans (hk7 wc.heap.size lb)
  clear y0 y1 y2 y3 z0 z1 z2 z3 k0 k1 k2 k3 k4 k5 k6 k7 k8
  obtain ⟨y0, y1, y2, y3⟩ := RR1.out.on B7
  obtain ⟨z0, z1, z2, z3⟩ := RR2.out.on B7
  go_wp2_with fail
  refine (C4'.out b w7 S3).mono ?_
  rintro e w8 ⟨v1, v2, rfl, b1, b2, hk8⟩
  obtain ⟨A8, a8, rfl, n8⟩ := b1.nt
  obtain ⟨A9, a9, rfl, n9⟩ := b2.nt
  have B8 : Below wc.heap.size wc w8 := B7.trans (hk8 wc.heap.size lb)
  have j0 := bel_cell B8 i0
  have j1 := bel_cell B8 i1
  have j2 := (B8.frozen (p := ⟨w.heap.size + 1 + 1, 0, none⟩) sC).trans i2
  have j3 := (B8.frozen (p := ⟨w.heap.size + 1 + 1, 1, none⟩) sC).trans i3
  obtain ⟨F1, F2, F3⟩ := frp_end b1 b2 (rb := w.heap.size + 1 + 1) (Nat.lt_of_lt_of_le sC B7.size) (by omega) (below_trans q3 B8)
  clear y0 y1 y2 y3 z0 z1 z2 z3 i0 i1 i2 i3 n8 n9 S0 S1 S2 S3 hk5 hk6 hk7 hk8 B5 B6 B7 B8 hx4 RR1 RR2 gt3 C0' C1' C2' C3' C4'
  go_wp2_with fail
  (try simp only [Exit.inBlock, Exit.then])
  refine bodyPost_ret (v := .tuple #[.agg #[.slice A8 (limbs (rdN (brtN num (T * d)) (T * d))).length a8, .slice A9 (limbs (rdD (brtN num (T * d)) (T * d))).length a9], .int .i64 0]) ?_ rfl ⟨_, _, rfl, F1, F2, F3⟩
  rw [results_cell_tmp rfl]
  go_simp

set_option maxRecDepth 100000 in
set_option maxHeartbeats 8000000 in
theorem flt_ok (o : Opt) (g : Gn) (w : World) (hE : gainsE o g = 0) : Calls Tryz.prog 16 #[o.val, g.val] w fun e w' => FrP w w' (rdN (brtN (fNum o g) (fDen o g).toNat) (fDen o g).toNat) (rdD (brtN (fNum o g) (fDen o g).toNat) (fDen o g).toNat) 0 e := by
  obtain ⟨sE, oE, pos, _⟩ := gains_opt hE
  have cK := fun w' => checkGains_any o g w'
  simp only [hE] at cK
  obtain ⟨a0, h0, x0, a1, h1, x1, a2, h2, x2, hg, ⟨m1, m2, m3, m4⟩, ⟨m5, m6, m7, m8⟩, m9, m10, m11, m12⟩ := gains_nat hE
  obtain ⟨at0, gt0, r0, r1, hb0⟩ := boxes3 o g w
  obtain ⟨⟨p0, p1, p2⟩, p3, p4, p5⟩ := row_bounds oE
  have eN := fNum_mk o a0 h0 x0 a1 h1 x1 a2 h2 x2
  have w1p : 0 < o.w1 := w1_pos p1 p2 p4 p5 pos
  obtain ⟨d, hd⟩ : ∃ d : Nat, o.w1 = (d : Int) := ⟨o.w1.toNat, by omega⟩
  have eD := fDen_mk o a0 h0 x0 a1 h1 x1 a2 h2 x2 d hd
  have d0 : 0 < d := by omega
  have d1 : d ≤ 65536 := by omega
  rw [← hg] at eN eD
  rw [eD]
  obtain ⟨num, hnum⟩ : ∃ num, fNum o g = num := ⟨_, rfl⟩
  rw [hnum] at eN ⊢
  have HG := Lib.hid hg
  have HD := Lib.hid hd
  obtain ⟨T, hT⟩ : ∃ T, a0 * a1 = T := ⟨_, rfl⟩
  have pt1 : a1 * a0 = T := by rw [← hT, Nat.mul_comm]
  rw [hT]
  have hT0 : 0 < T := by rw [← hT]; exact Nat.mul_pos m1 m5
  have hT4 : T < B32 ^ 4 := by rw [← hT]; exact Nat.lt_of_le_of_lt (two_le m2 m6) (by decide)
  have b1 : -65536 ≤ (256 : Int) ∧ (256 : Int) ≤ 65536 := by omega
  have b2 : -65536 ≤ -o.w0 ∧ -o.w0 ≤ 65536 := by omega
  have o1 : x1 ≤ 4096 := by omega
  have o2 : x0 ≤ 4096 := by omega
  obtain ⟨A1, A2, A3⟩ := three_lt (posN_le b1).1 (posN_le b2).1 (posN_le b2).1 o1 o2 o2 (one_le m2) (one_le m6) (one_le m6)
  obtain ⟨C1, C2, C3⟩ := three_lt (posN_le b1).2 (posN_le b2).2 (posN_le b2).2 o1 o2 o2 (one_le m2) (one_le m6) (one_le m6)
  have t1 := term_step (x := 0) (y := 0) (num := 0) rfl 256 x1 a0
  have t2 := term_step t1 (-o.w0) x0 a1
  have fin := min_brt (D := T * d) (t2.trans eN.symm)
  have c1 := fun b w' hS => wrong_rep b 0 0 T a0 a1 h1 x1 256 w' hS b1 o1 m6 m5 pt1 hT0 (by decide) (by decide) hT4
  have c2 := fun b w' hS => wrong_rep b _ _ T a1 a0 h0 x0 (-o.w0) w' hS b2 o2 m2 m1 hT hT0 A1 C1 hT4
  have c4 := fun b w' hS => over_rep b _ _ T d w' hS d0 d1 hT0 A2 C2 hT4
  rw [fin] at c4
  have c0 := fun w' => newSum_rep T hT0 w'
  have C1' := Lib.hid c1; have C2' := Lib.hid c2; have C4' := Lib.hid c4; have C0' := Lib.hid c0
  have hd' : o.w1 = (d : Int) := hd
  clear c1 c2 c4 c0 fin t1 t2 A1 A2 A3 C1 C2 C3 eN b1 b2 o1 o2 pt1 hT0 hT4 hT m1 m2 m3 m4 m5 m6 m7 m8 m9 m10 m11 m12 d0 d1 p1 p2 p3 p4 p5 hnum eD hE sE oE hg pos w1p hd hd'
  unfold Opt.val Opt.cs Gn.val at *
  have At0 := Lib.hid at0; have Gt0 := Lib.hid gt0
  clear at0 gt0
  go_enter Tryz.func16, Tryz.ntmps16
  go_upto_region 1 with fail
  obtain ⟨W, hW⟩ : ∃ W, (((w.alloc (.cells #[.int .i64 o.k, .int .i64 o.c0, .int .i64 o.c1, .int .i64 o.c2, .int .i64 o.v0, .int .i64 o.v1, .int .i64 o.v2, .int .i64 o.v3, .int .i64 o.w0, .int .i64 o.w1, .int .i64 o.w2, .int .i64 o.w3, .int .i64 o.s0, .int .i64 o.s1, .int .i64 o.s2, .int .i64 o.s3, .int .i64 o.eta, .int .i64 o.dark] 60)).alloc (.cells #[.int .i64 g.a0, .int .i64 g.h0, .int .i64 g.x0, .int .i64 g.a1, .int .i64 g.h1, .int .i64 g.x1, .int .i64 g.a2, .int .i64 g.h2, .int .i64 g.x2] 63)).alloc (.cells #[.slice none 0 0, .slice none 0 0] 53)) = W := ⟨_, rfl⟩
  rw [hW] at hb0 At0 Gt0 r0 r1 ⊢
  clear hW
  go_wp2_with (first | (refine wpList_load_row rfl 60 _ rfl w.heap.size rfl 60 _ (0, 0) _ At0.out Tryz.underlying60 rfl (by kernel_rfl) ?_) | (refine wpList_load_row rfl 63 _ rfl (w.heap.size + 1) rfl 63 _ (0, 0) _ Gt0.out Tryz.underlying63 rfl (by kernel_rfl) ?_))
  refine (cK _).mono ?_
  rintro e w2 ⟨rfl, hb2⟩
  have q2 := below_trans hb0 hb2
  have at2 := At0.out.on hb2
  have gt2 := Lib.hid (Gt0.out.on hb2)
  have sR := World.block_lt_of_cell? W _ r0.1
  have j0 : w2.cell? ⟨w.heap.size + 1 + 1, 0, none⟩ = some (.slice none 0 0) := bel_cell hb2 r0.1
  have j1 : w2.cell? ⟨w.heap.size + 1 + 1, 1, none⟩ = some (.slice none 0 0) := bel_cell hb2 r1.1
  have j2 : w2.frozen? ⟨w.heap.size + 1 + 1, 0, none⟩ = false := (hb2.frozen (p := ⟨w.heap.size + 1 + 1, 0, none⟩) sR).trans r0.2
  have j3 : w2.frozen? ⟨w.heap.size + 1 + 1, 1, none⟩ = false := (hb2.frozen (p := ⟨w.heap.size + 1 + 1, 1, none⟩) sR).trans r1.2
  have sR2 : w.heap.size + 1 + 1 < w2.heap.size := World.block_lt_of_cell? w2 _ j0
  have x8 := at2.x8
  have x9 := at2.x9
  have x10 := at2.x10
  have x11 := at2.x11
  go_upto_region 5 with fail
  have hbc := below_alloc (Below.refl w2.heap.size w2) (.cells #[.int .i64 o.w0, .int .i64 o.w1, .int .i64 o.w2, .int .i64 o.w3] 57)
  have R1 : Row4 (w2.alloc (.cells #[.int .i64 o.w0, .int .i64 o.w1, .int .i64 o.w2, .int .i64 o.w3] 57)) w2.heap.size o.w0 o.w1 o.w2 o.w3 := by refine ⟨?_, ?_, ?_, ?_⟩ <;> go_simp
  obtain ⟨wc, hwc⟩ : ∃ wc, w2.alloc (.cells #[.int .i64 o.w0, .int .i64 o.w1, .int .i64 o.w2, .int .i64 o.w3] 57) = wc := ⟨_, rfl⟩
  rw [hwc] at hbc R1 ⊢
  clear hwc
  have q3 := below_trans q2 hbc
  have gt3 := Lib.hid (gt2.out.on hbc)
  have i0 := bel_cell hbc j0
  have i1 := bel_cell hbc j1
  have i2 := (hbc.frozen (p := ⟨w.heap.size + 1 + 1, 0, none⟩) sR2).trans j2
  have i3 := (hbc.frozen (p := ⟨w.heap.size + 1 + 1, 1, none⟩) sR2).trans j3
  have sC : w.heap.size + 1 + 1 < wc.heap.size := World.block_lt_of_cell? wc _ i0
  have RR1 := Lib.hid R1
  clear cK x8 x9 x10 x11 R1 at2 j0 j1 j2 j3 r0 r1 gt2 At0 Gt0 hbc hb2 sR sR2 q2 hb0
  go_wp2_with fail
  refine (C0'.out wc).mono ?_
  rintro e w4 ⟨b, rfl, S0, lb, hx4⟩
  obtain ⟨k0, k1, k2, k3, k4, k5, k6, k7, k8⟩ := gn_cells (gt3.out.on hx4) HG.out
  go_wp2_with fail
  refine (C1'.out b w4 S0).mono ?_
  rintro e w5 ⟨rfl, S1, hk5⟩
  have B5 : Below wc.heap.size wc w5 := hx4.trans (hk5 wc.heap.size lb)
  clear k0 k1 k2 k3 k4 k5 k6 k7 k8
  obtain ⟨y0, y1, y2, y3⟩ := RR1.out.on B5
  obtain ⟨k0, k1, k2, k3, k4, k5, k6, k7, k8⟩ := gn_cells (gt3.out.on B5) HG.out
  go_wp2_with fail
  refine (C2'.out b w5 S1).mono ?_
  rintro e w7 ⟨rfl, S3, hk7⟩
  have B7 : Below wc.heap.size wc w7 := B5.trans (hk7 wc.heap.size lb)
  clear y0 y1 y2 y3 k0 k1 k2 k3 k4 k5 k6 k7 k8
  obtain ⟨y0, y1, y2, y3⟩ := RR1.out.on B7
  rw [HD.out] at y1
  go_wp2_with fail
  refine (C4'.out b w7 S3).mono ?_
  rintro e w8 ⟨v1, v2, rfl, b1, b2, hk8⟩
  obtain ⟨A8, a8, rfl, n8⟩ := b1.nt
  obtain ⟨A9, a9, rfl, n9⟩ := b2.nt
  have B8 : Below wc.heap.size wc w8 := B7.trans (hk8 wc.heap.size lb)
  have j0 := bel_cell B8 i0
  have j1 := bel_cell B8 i1
  have j2 := (B8.frozen (p := ⟨w.heap.size + 1 + 1, 0, none⟩) sC).trans i2
  have j3 := (B8.frozen (p := ⟨w.heap.size + 1 + 1, 1, none⟩) sC).trans i3
  obtain ⟨F1, F2, F3⟩ := frp_end b1 b2 (rb := w.heap.size + 1 + 1) (Nat.lt_of_lt_of_le sC B7.size) (by omega) (below_trans q3 B8)
  clear y0 y1 y2 y3 i0 i1 i2 i3 n8 n9 S0 S1 S3 hk5 hk7 hk8 B5 B7 B8 hx4 RR1 gt3 C0' C1' C2' C4'
  go_wp2_with fail
  (try simp only [Exit.inBlock, Exit.then])
  refine bodyPost_ret (v := .tuple #[.agg #[.slice A8 (limbs (rdN (brtN num (T * d)) (T * d))).length a8, .slice A9 (limbs (rdD (brtN num (T * d)) (T * d))).length a9], .int .i64 0]) ?_ rfl ⟨_, _, rfl, F1, F2, F3⟩
  rw [results_cell_tmp rfl]
  go_simp

end Go.Proofs.YteoaaphjbggobaaGreatDoor

namespace Go.Proofs.YteoaaphjbggobaaGreatDoor
open Go.RowKit
set_option linter.unusedVariables false
set_option linter.unusedSimpArgs false

theorem imulS {a b A B : Int} (ha : -A ≤ a ∧ a ≤ A) (hb : 0 ≤ b ∧ b ≤ B) (hA : 0 ≤ A) (hAB : A * B ≤ 4611686018427387904) : ∃ P, a * b = P ∧ (-(A * B) ≤ P ∧ P ≤ A * B) ∧ wrap64 (a * b) = P := by
  have h1 : a * b ≤ A * b := Int.mul_le_mul_of_nonneg_right ha.2 hb.1
  have h2 : -A * b ≤ a * b := Int.mul_le_mul_of_nonneg_right ha.1 hb.1
  have h3 : A * b ≤ A * B := Int.mul_le_mul_of_nonneg_left hb.2 hA
  rw [Int.neg_mul] at h2
  exact ⟨a * b, rfl, ⟨by omega, by omega⟩, IntWalk.wrap64_in _ (by omega)⟩
/-- Three cells. -/
def Row3 (w : World) (g : Nat) (a b c : Int) : Prop := w.cell? ⟨g, 0, none⟩ = some (.int .i64 a) ∧ w.cell? ⟨g, 1, none⟩ = some (.int .i64 b) ∧ w.cell? ⟨g, 2, none⟩ = some (.int .i64 c)
theorem Row3.on {w w' : World} {g : Nat} {a b c : Int} (h : Row3 w g a b c) (hb : Below w.heap.size w w') : Row3 w' g a b c := ⟨bel_cell hb h.1, bel_cell hb h.2.1, bel_cell hb h.2.2⟩
theorem row3_of {y : World} {B : Nat} {a b c : Int} {T : TypeId} (h : y.heap[B]? = some (.cells #[.int .i64 a, .int .i64 b, .int .i64 c] T (0, 0))) : Row3 y B a b c :=
  ⟨cell_of_row y B 0 _ _ _ h, cell_of_row y B 1 _ _ _ h, cell_of_row y B 2 _ _ _ h⟩
/-- Boxes one after the other. -/
theorem al3 (y : World) (p q r : Obj) : ((((y.alloc p).alloc q).alloc r).drew.heap[y.heap.size]? = some p) ∧ ((((y.alloc p).alloc q).alloc r).drew.heap[y.heap.size + 1]? = some q) ∧ ((((y.alloc p).alloc q).alloc r).drew.heap[y.heap.size + 1 + 1]? = some r) := by
  have s1 : (y.alloc p).heap.size = y.heap.size + 1 := by simp
  have s2 : ((y.alloc p).alloc q).heap.size = y.heap.size + 1 + 1 := by simp
  refine ⟨?_, ?_, ?_⟩
  · exact (heap_alloc_old ((y.alloc p).alloc q) r (show y.heap.size < ((y.alloc p).alloc q).heap.size by omega)).trans (heap_alloc2_old y p q)
  · exact (heap_alloc_old ((y.alloc p).alloc q) r (show y.heap.size + 1 < ((y.alloc p).alloc q).heap.size by omega)).trans (heap_alloc2_new y p q)
  · have := heap_alloc_new ((y.alloc p).alloc q) r
    rw [s2] at this
    exact this
theorem al2 (y : World) (p q : Obj) : (((y.alloc p).alloc q).drew.heap[y.heap.size]? = some p) ∧ (((y.alloc p).alloc q).drew.heap[y.heap.size + 1]? = some q) := ⟨heap_alloc2_old y p q, heap_alloc2_new y p q⟩

end Go.Proofs.YteoaaphjbggobaaGreatDoor
