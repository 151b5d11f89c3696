/- Contracts of sift.Suits and of the reference's Suits. For any arrangement. -/
import Derived.Test.YteoaaphjbggobaaOptC
import Derived.Deep.DeepCutAuto
import Derived.Laws.Rows
namespace Go.Proofs.Yteoaaphjbggobaa
open Go.RowKit
set_option linter.unusedVariables false
set_option linter.unusedSimpArgs false

def suitE (o : Opt) : Int := if optE o ≠ 0 then optE o else if o.k ≠ 1 then 2 else if o.s2 * o.w1 - o.w2 * o.s1 ≤ 0 ∨ o.w2 * o.s3 < o.s2 * o.w3 then 11 else 0
theorem optE_cases (o : Opt) : optE o = 0 ∨ optE o = 2 := by unfold optE; split <;> simp
theorem opt_rows {o : Opt} (h : optE o = 0) : wtB [o.v0, o.v1, o.v2, o.v3] = true ∧ wtB [o.w0, o.w1, o.w2, o.w3] = true ∧ wtB [o.s0, o.s1, o.s2, o.s3] = true := by
  unfold optE at h
  split at h
  · rename_i hb
    rw [opt_ref] at hb
    simp at hb
    exact ⟨hb.2.1, hb.2.2.1, hb.2.2.2.1⟩
  · cases h
theorem wt_parts {a b c d : Int} (h : wtB [a, b, c, d] = true) : (0 ≤ a ∧ a ≤ 256) ∧ (0 ≤ b ∧ b ≤ 256) ∧ (0 ≤ c ∧ c ≤ 256) ∧ (0 ≤ d ∧ d ≤ 256) ∧ a + b + c + d = 256 := by
  unfold wtB partB at h
  simp only [List.all_cons, List.all_nil, Bool.and_true, Bool.and_eq_true, decide_eq_true_eq, List.sum_cons, List.sum_nil] at h
  obtain ⟨⟨h1, h2, h3, h4⟩, h5⟩ := h
  have h6 := of_decide_eq_true h5
  exact ⟨h1, h2, h3, h4, by omega⟩
theorem opt_parts {o : Opt} (h : optE o = 0) : (0 ≤ o.w1 ∧ o.w1 ≤ 256) ∧ (0 ≤ o.s1 ∧ o.s1 ≤ 256) ∧ (0 ≤ o.s2 ∧ o.s2 ≤ 256) ∧ (0 ≤ o.s3 ∧ o.s3 ≤ 256) ∧ (0 ≤ o.w2 ∧ o.w2 ≤ 256) ∧ (0 ≤ o.w3 ∧ o.w3 ≤ 256) := by
  obtain ⟨_, h1, h2⟩ := opt_rows h
  obtain ⟨_, q1, q2, q3, _⟩ := wt_parts h1
  obtain ⟨_, r1, r2, r3, _⟩ := wt_parts h2
  exact ⟨q1, r1, r2, r3, q2, q3⟩
theorem imul {a b : Int} (ha : 0 ≤ a ∧ a ≤ 256) (hb : 0 ≤ b ∧ b ≤ 256) : ∃ P, a * b = P ∧ 0 ≤ P ∧ P ≤ 65536 ∧ wrap64 (a * b) = P := by
  have h1 : 0 ≤ a * b := Int.mul_nonneg ha.1 hb.1
  have h2 : a * b ≤ 256 * 256 := Int.mul_le_mul ha.2 hb.2 hb.1 (by decide)
  exact ⟨a * b, rfl, h1, by omega, IntWalk.wrap64_in _ (by omega)⟩
/-- An arrangement in a box. -/
def OptAt (w : World) (b : Nat) (o : Opt) : Prop := w.heap[b]? = some (.cells #[.int .i64 o.k, .int .i64 o.c0, .int .i64 o.c1, .int .i64 o.c2, .int .i64 o.v0, .int .i64 o.v1, .int .i64 o.v2, .int .i64 o.v3, .int .i64 o.w0, .int .i64 o.w1, .int .i64 o.w2, .int .i64 o.w3, .int .i64 o.s0, .int .i64 o.s1, .int .i64 o.s2, .int .i64 o.s3, .int .i64 o.eta, .int .i64 o.dark] 26 (0, 0))
theorem OptAt.on {w w' : World} {b : Nat} {o : Opt} (h : OptAt w b o) (hb : Below w.heap.size w w') : OptAt w' b o :=
  (hb.block b (Array.getElem?_eq_some_iff.1 h).1).trans h
theorem OptAt.new (w : World) (o : Opt) : OptAt (w.alloc (.cells #[.int .i64 o.k, .int .i64 o.c0, .int .i64 o.c1, .int .i64 o.c2, .int .i64 o.v0, .int .i64 o.v1, .int .i64 o.v2, .int .i64 o.v3, .int .i64 o.w0, .int .i64 o.w1, .int .i64 o.w2, .int .i64 o.w3, .int .i64 o.s0, .int .i64 o.s1, .int .i64 o.s2, .int .i64 o.s3, .int .i64 o.eta, .int .i64 o.dark] 26)) w.heap.size o := heap_alloc_new w _
theorem OptAt.x0 {w : World} {b : Nat} {o : Opt} (h : OptAt w b o) : w.cell? ⟨b, 0, none⟩ = some (.int .i64 o.k) := cell_of_row w b 0 _ _ _ h
theorem OptAt.x1 {w : World} {b : Nat} {o : Opt} (h : OptAt w b o) : w.cell? ⟨b, 1, none⟩ = some (.int .i64 o.c0) := cell_of_row w b 1 _ _ _ h
theorem OptAt.x2 {w : World} {b : Nat} {o : Opt} (h : OptAt w b o) : w.cell? ⟨b, 2, none⟩ = some (.int .i64 o.c1) := cell_of_row w b 2 _ _ _ h
theorem OptAt.x3 {w : World} {b : Nat} {o : Opt} (h : OptAt w b o) : w.cell? ⟨b, 3, none⟩ = some (.int .i64 o.c2) := cell_of_row w b 3 _ _ _ h
theorem OptAt.x4 {w : World} {b : Nat} {o : Opt} (h : OptAt w b o) : w.cell? ⟨b, 4, none⟩ = some (.int .i64 o.v0) := cell_of_row w b 4 _ _ _ h
theorem OptAt.x5 {w : World} {b : Nat} {o : Opt} (h : OptAt w b o) : w.cell? ⟨b, 5, none⟩ = some (.int .i64 o.v1) := cell_of_row w b 5 _ _ _ h
theorem OptAt.x6 {w : World} {b : Nat} {o : Opt} (h : OptAt w b o) : w.cell? ⟨b, 6, none⟩ = some (.int .i64 o.v2) := cell_of_row w b 6 _ _ _ h
theorem OptAt.x7 {w : World} {b : Nat} {o : Opt} (h : OptAt w b o) : w.cell? ⟨b, 7, none⟩ = some (.int .i64 o.v3) := cell_of_row w b 7 _ _ _ h
theorem OptAt.x8 {w : World} {b : Nat} {o : Opt} (h : OptAt w b o) : w.cell? ⟨b, 8, none⟩ = some (.int .i64 o.w0) := cell_of_row w b 8 _ _ _ h
theorem OptAt.x9 {w : World} {b : Nat} {o : Opt} (h : OptAt w b o) : w.cell? ⟨b, 9, none⟩ = some (.int .i64 o.w1) := cell_of_row w b 9 _ _ _ h
theorem OptAt.x10 {w : World} {b : Nat} {o : Opt} (h : OptAt w b o) : w.cell? ⟨b, 10, none⟩ = some (.int .i64 o.w2) := cell_of_row w b 10 _ _ _ h
theorem OptAt.x11 {w : World} {b : Nat} {o : Opt} (h : OptAt w b o) : w.cell? ⟨b, 11, none⟩ = some (.int .i64 o.w3) := cell_of_row w b 11 _ _ _ h
theorem OptAt.x12 {w : World} {b : Nat} {o : Opt} (h : OptAt w b o) : w.cell? ⟨b, 12, none⟩ = some (.int .i64 o.s0) := cell_of_row w b 12 _ _ _ h
theorem OptAt.x13 {w : World} {b : Nat} {o : Opt} (h : OptAt w b o) : w.cell? ⟨b, 13, none⟩ = some (.int .i64 o.s1) := cell_of_row w b 13 _ _ _ h
theorem OptAt.x14 {w : World} {b : Nat} {o : Opt} (h : OptAt w b o) : w.cell? ⟨b, 14, none⟩ = some (.int .i64 o.s2) := cell_of_row w b 14 _ _ _ h
theorem OptAt.x15 {w : World} {b : Nat} {o : Opt} (h : OptAt w b o) : w.cell? ⟨b, 15, none⟩ = some (.int .i64 o.s3) := cell_of_row w b 15 _ _ _ h
theorem OptAt.x16 {w : World} {b : Nat} {o : Opt} (h : OptAt w b o) : w.cell? ⟨b, 16, none⟩ = some (.int .i64 o.eta) := cell_of_row w b 16 _ _ _ h
theorem OptAt.x17 {w : World} {b : Nat} {o : Opt} (h : OptAt w b o) : w.cell? ⟨b, 17, none⟩ = some (.int .i64 o.dark) := cell_of_row w b 17 _ _ _ h
/-- Four cells. -/
def Row4 (w : World) (g : Nat) (a b c d : Int) : Prop := w.cell? ⟨g, 0, none⟩ = some (.int .i64 a) ∧ w.cell? ⟨g, 1, none⟩ = some (.int .i64 b) ∧ w.cell? ⟨g, 2, none⟩ = some (.int .i64 c) ∧ w.cell? ⟨g, 3, none⟩ = some (.int .i64 d)
theorem Row4.on {w w' : World} {g : Nat} {a b c d : Int} (h : Row4 w g a b c d) (hb : Below w.heap.size w w') : Row4 w' g a b c d := ⟨bel_cell hb h.1, bel_cell hb h.2.1, bel_cell hb h.2.2.1, bel_cell hb h.2.2.2⟩

theorem row4_a (y : World) (a b c d e f g h : Int) (T : TypeId) : Row4 ((y.alloc (.cells #[.int .i64 a, .int .i64 b, .int .i64 c, .int .i64 d] T)).alloc (.cells #[.int .i64 e, .int .i64 f, .int .i64 g, .int .i64 h] T)).drew y.heap.size a b c d := by
  refine ⟨?_, ?_, ?_, ?_⟩ <;> go_simp
theorem row4_b (y : World) (a b c d e f g h : Int) (T : TypeId) : Row4 ((y.alloc (.cells #[.int .i64 a, .int .i64 b, .int .i64 c, .int .i64 d] T)).alloc (.cells #[.int .i64 e, .int .i64 f, .int .i64 g, .int .i64 h] T)).drew (y.heap.size + 1) e f g h := by
  refine ⟨?_, ?_, ?_, ?_⟩ <;> go_simp

set_option maxRecDepth 100000 in
set_option maxHeartbeats 8000000 in
theorem oSuits_any (o : Opt) (w : World) : Calls Try.prog 47 #[o.val] w fun e w' => e = .returned (.int .i64 (suitE o)) ∧ Below w.heap.size w w' := by
  have hb0 := below_alloc (Below.refl w.heap.size w) (.cells o.cs 26)
  have cK := fun w' => oCheck_any o w'
  unfold Opt.val Opt.cs at *
  by_cases h0 : optE o = 0
  · rw [h0] at cK
    have pr := opt_parts h0
    by_cases hk : o.k = 1
    · have eS : Hid (suitE o = if o.s2 * o.w1 - o.w2 * o.s1 ≤ 0 ∨ o.w2 * o.s3 < o.s2 * o.w3 then 11 else 0) := Lib.hid (by unfold suitE; rw [if_neg (by simp [h0]), if_neg (by simp [hk])])
      have Pr := Lib.hid pr
      have kb : (o.k == 1) = true := by simpa using hk
      have kn : (o.k != 1) = false := by rw [bne_eq_false_iff_eq]; exact hk
      clear h0 hk pr
      go_enter Try.func47, Try.ntmps47
      go_upto_region 1 with fail
      have At0 := Lib.hid (OptAt.new w o)
      obtain ⟨W, hW⟩ : ∃ W, w.alloc (.cells #[.int .i64 o.k, .int .i64 o.c0, .int .i64 o.c1, .int .i64 o.c2, .int .i64 o.v0, .int .i64 o.v1, .int .i64 o.v2, .int .i64 o.v3, .int .i64 o.w0, .int .i64 o.w1, .int .i64 o.w2, .int .i64 o.w3, .int .i64 o.s0, .int .i64 o.s1, .int .i64 o.s2, .int .i64 o.s3, .int .i64 o.eta, .int .i64 o.dark] 26) = W := ⟨_, rfl⟩
      rw [hW] at hb0 At0 ⊢
      clear hW
      go_wp2_with (refine wpList_load_row rfl 26 _ rfl w.heap.size rfl 26 _ (0, 0) _ At0.out Try.underlying26 rfl (by kernel_rfl) ?_)
      refine (cK _).mono ?_
      rintro e w2 ⟨rfl, hb2⟩
      have q2 := below_trans hb0 hb2
      have at2 := At0.out.on hb2
      have x0 := at2.x0
      have sz2 : w.heap.size < w2.heap.size := World.block_lt_of_cell? w2 _ x0
      have L8 := fun w' (hb : Below w2.heap.size w2 w') => (at2.on hb).x8
      have L9 := fun w' (hb : Below w2.heap.size w2 w') => (at2.on hb).x9
      have L10 := fun w' (hb : Below w2.heap.size w2 w') => (at2.on hb).x10
      have L11 := fun w' (hb : Below w2.heap.size w2 w') => (at2.on hb).x11
      have L12 := fun w' (hb : Below w2.heap.size w2 w') => (at2.on hb).x12
      have L13 := fun w' (hb : Below w2.heap.size w2 w') => (at2.on hb).x13
      have L14 := fun w' (hb : Below w2.heap.size w2 w') => (at2.on hb).x14
      have L15 := fun w' (hb : Below w2.heap.size w2 w') => (at2.on hb).x15
      go_upto_region 6 with fail
      go_cut [4, 5] (fun va vb wx => ∃ g h, va = .pointer (some ⟨g, 0, none⟩) ∧ vb = .pointer (some ⟨h, 0, none⟩) ∧ Row4 wx g o.w0 o.w1 o.w2 o.w3 ∧ Row4 wx h o.s0 o.s1 o.s2 o.s3 ∧ Below w2.heap.size w2 wx)
      case first =>
        go_region_held3 (fun w' => Below w2.heap.size w2 w')
          (first | (exact (Below.refl _ _).drew) | (refine below_alloc ?_ _; assumption) | (exact below_alloc (below_alloc (Below.refl _ _).drew _) _) | (exact below_alloc (Below.refl _ _).drew _))
          (fail)
        all_goals (
          go_wp2_with fail
          go_meet
          case rel => first
            | exact ⟨_, _, rfl, rfl, row4_a _ _ _ _ _ _ _ _ _ _, row4_b _ _ _ _ _ _ _ _ _ _, (below_alloc (below_alloc (Below.refl _ _) _) _).drew⟩
            | exact ⟨_, _, rfl, rfl, row4_b _ _ _ _ _ _ _ _ _ _, row4_a _ _ _ _ _ _ _ _ _ _, (below_alloc (below_alloc (Below.refl _ _) _) _).drew⟩)
      obtain ⟨g, h, rfl, rfl, ⟨y0, y1, y2, y3⟩, ⟨z0, z1, z2, z3⟩, hbc⟩ := hcut
      have q3 := below_trans q2 hbc
      clear x0 cK L8 L9 L10 L11 L12 L13 L14 L15 sz2
      obtain ⟨p1, p2, p3, p4, p5, p6⟩ := Pr.out
      obtain ⟨P1, hP1, a1, b1, g1⟩ := imul p3 p1
      obtain ⟨P2, hP2, a2, b2, g2⟩ := imul p5 p2
      obtain ⟨P3, hP3, a3, b3, g3⟩ := imul p3 p6
      obtain ⟨P4, hP4, a4, b4, g4⟩ := imul p5 p4
      rw [hP1, hP2, hP3, hP4] at eS
      clear hP1 hP2 hP3 hP4 p1 p2 p3 p4 p5 p6
      have ES := Lib.hid eS.out
      clear eS
      by_cases h1 : P1 ≤ P2 <;> by_cases h2 : P4 < P3
      all_goals (
        have h3 : decide (P1 - P2 ≤ 0) = decide (P1 ≤ P2) := by rw [Bool.eq_iff_iff]; simp; omega
        go_wp2_with fail
        go_ret
        exact ⟨ret_int (by rw [ES.out]; simp; omega), q3⟩)
    · have eS : Hid (suitE o = 2) := Lib.hid (by unfold suitE; rw [if_neg (by simp [h0]), if_pos hk])
      have kb : (o.k == 1) = false := by simpa using hk
      clear h0 pr
      go_enter Try.func47, Try.ntmps47
      go_upto_region 1 with fail
      have At0 := Lib.hid (OptAt.new w o)
      obtain ⟨W, hW⟩ : ∃ W, w.alloc (.cells #[.int .i64 o.k, .int .i64 o.c0, .int .i64 o.c1, .int .i64 o.c2, .int .i64 o.v0, .int .i64 o.v1, .int .i64 o.v2, .int .i64 o.v3, .int .i64 o.w0, .int .i64 o.w1, .int .i64 o.w2, .int .i64 o.w3, .int .i64 o.s0, .int .i64 o.s1, .int .i64 o.s2, .int .i64 o.s3, .int .i64 o.eta, .int .i64 o.dark] 26) = W := ⟨_, rfl⟩
      rw [hW] at hb0 At0 ⊢
      clear hW
      go_wp2_with (refine wpList_load_row rfl 26 _ rfl w.heap.size rfl 26 _ (0, 0) _ At0.out Try.underlying26 rfl (by kernel_rfl) ?_)
      refine (cK _).mono ?_
      rintro e w2 ⟨rfl, hb2⟩
      have q2 := below_trans hb0 hb2
      have x0 := (At0.out.on hb2).x0
      go_wp2_with fail
      go_ret
      exact ⟨ret_int eS.out.symm, q2⟩
  · have eS : Hid (suitE o = optE o) := Lib.hid (by unfold suitE; rw [if_pos h0])
    have hne : (optE o != 0) = true := by rw [bne_iff_ne]; exact h0
    obtain ⟨E, hE⟩ : ∃ E, optE o = E := ⟨_, rfl⟩
    rw [hE] at cK hne eS
    clear h0 hE
    go_enter Try.func47, Try.ntmps47
    go_upto_region 1 with fail
    have At0 := Lib.hid (OptAt.new w o)
    obtain ⟨W, hW⟩ : ∃ W, w.alloc (.cells #[.int .i64 o.k, .int .i64 o.c0, .int .i64 o.c1, .int .i64 o.c2, .int .i64 o.v0, .int .i64 o.v1, .int .i64 o.v2, .int .i64 o.v3, .int .i64 o.w0, .int .i64 o.w1, .int .i64 o.w2, .int .i64 o.w3, .int .i64 o.s0, .int .i64 o.s1, .int .i64 o.s2, .int .i64 o.s3, .int .i64 o.eta, .int .i64 o.dark] 26) = W := ⟨_, rfl⟩
    rw [hW] at hb0 At0 ⊢
    clear hW
    go_wp2_with (refine wpList_load_row rfl 26 _ rfl w.heap.size rfl 26 _ (0, 0) _ At0.out Try.underlying26 rfl (by kernel_rfl) ?_)
    refine (cK _).mono ?_
    rintro e w2 ⟨rfl, hb2⟩
    have q2 := below_trans hb0 hb2
    go_wp2_with fail
    go_ret
    exact ⟨ret_int eS.out.symm, q2⟩

set_option maxRecDepth 100000 in
set_option maxHeartbeats 8000000 in
theorem rSuits_any (o : Opt) (w : World) : Calls Try.prog 53 #[o.val] w fun e w' => e = .returned (.int .i64 (suitE o)) ∧ Below w.heap.size w w' := by
  have hb0 := below_alloc (Below.refl w.heap.size w) (.cells o.cs 26)
  have cK := fun w' => rCheck_any o w'
  unfold Opt.val Opt.cs at *
  by_cases h0 : optE o = 0
  · rw [h0] at cK
    have pr := opt_parts h0
    by_cases hk : o.k = 1
    · have eS : Hid (suitE o = if o.s2 * o.w1 - o.w2 * o.s1 ≤ 0 ∨ o.w2 * o.s3 < o.s2 * o.w3 then 11 else 0) := Lib.hid (by unfold suitE; rw [if_neg (by simp [h0]), if_neg (by simp [hk])])
      have Pr := Lib.hid pr
      have kb : (o.k == 1) = true := by simpa using hk
      have kn : (o.k != 1) = false := by rw [bne_eq_false_iff_eq]; exact hk
      clear h0 hk pr
      go_enter Try.func53, Try.ntmps53
      go_upto_region 1 with fail
      have At0 := Lib.hid (OptAt.new w o)
      obtain ⟨W, hW⟩ : ∃ W, w.alloc (.cells #[.int .i64 o.k, .int .i64 o.c0, .int .i64 o.c1, .int .i64 o.c2, .int .i64 o.v0, .int .i64 o.v1, .int .i64 o.v2, .int .i64 o.v3, .int .i64 o.w0, .int .i64 o.w1, .int .i64 o.w2, .int .i64 o.w3, .int .i64 o.s0, .int .i64 o.s1, .int .i64 o.s2, .int .i64 o.s3, .int .i64 o.eta, .int .i64 o.dark] 26) = W := ⟨_, rfl⟩
      rw [hW] at hb0 At0 ⊢
      clear hW
      go_wp2_with (refine wpList_load_row rfl 26 _ rfl w.heap.size rfl 26 _ (0, 0) _ At0.out Try.underlying26 rfl (by kernel_rfl) ?_)
      refine (cK _).mono ?_
      rintro e w2 ⟨rfl, hb2⟩
      have q2 := below_trans hb0 hb2
      have at2 := At0.out.on hb2
      have x0 := at2.x0
      have sz2 : w.heap.size < w2.heap.size := World.block_lt_of_cell? w2 _ x0
      have L8 := fun w' (hb : Below w2.heap.size w2 w') => (at2.on hb).x8
      have L9 := fun w' (hb : Below w2.heap.size w2 w') => (at2.on hb).x9
      have L10 := fun w' (hb : Below w2.heap.size w2 w') => (at2.on hb).x10
      have L11 := fun w' (hb : Below w2.heap.size w2 w') => (at2.on hb).x11
      have L12 := fun w' (hb : Below w2.heap.size w2 w') => (at2.on hb).x12
      have L13 := fun w' (hb : Below w2.heap.size w2 w') => (at2.on hb).x13
      have L14 := fun w' (hb : Below w2.heap.size w2 w') => (at2.on hb).x14
      have L15 := fun w' (hb : Below w2.heap.size w2 w') => (at2.on hb).x15
      go_upto_region 5 with fail
      go_cut [3, 4] (fun va vb wx => ∃ g h, va = .pointer (some ⟨g, 0, none⟩) ∧ vb = .pointer (some ⟨h, 0, none⟩) ∧ Row4 wx g o.s0 o.s1 o.s2 o.s3 ∧ Row4 wx h o.w0 o.w1 o.w2 o.w3 ∧ Below w2.heap.size w2 wx)
      case first =>
        go_region_held3 (fun w' => Below w2.heap.size w2 w')
          (first | (exact (Below.refl _ _).drew) | (refine below_alloc ?_ _; assumption) | (exact below_alloc (below_alloc (Below.refl _ _).drew _) _) | (exact below_alloc (Below.refl _ _).drew _))
          (fail)
        all_goals (
          go_wp2_with fail
          go_meet
          case rel => first
            | exact ⟨_, _, rfl, rfl, row4_a _ _ _ _ _ _ _ _ _ _, row4_b _ _ _ _ _ _ _ _ _ _, (below_alloc (below_alloc (Below.refl _ _) _) _).drew⟩
            | exact ⟨_, _, rfl, rfl, row4_b _ _ _ _ _ _ _ _ _ _, row4_a _ _ _ _ _ _ _ _ _ _, (below_alloc (below_alloc (Below.refl _ _) _) _).drew⟩)
      obtain ⟨g, h, rfl, rfl, ⟨y0, y1, y2, y3⟩, ⟨z0, z1, z2, z3⟩, hbc⟩ := hcut
      have q3 := below_trans q2 hbc
      clear x0 cK L8 L9 L10 L11 L12 L13 L14 L15 sz2
      obtain ⟨p1, p2, p3, p4, p5, p6⟩ := Pr.out
      obtain ⟨P1, hP1, a1, b1, g1⟩ := imul p3 p1
      obtain ⟨P2, hP2, a2, b2, g2⟩ := imul p5 p2
      obtain ⟨P3, hP3, a3, b3, g3⟩ := imul p3 p6
      obtain ⟨P4, hP4, a4, b4, g4⟩ := imul p5 p4
      rw [hP1, hP2, hP3, hP4] at eS
      clear hP1 hP2 hP3 hP4 p1 p2 p3 p4 p5 p6
      have ES := Lib.hid eS.out
      clear eS
      by_cases h1 : P1 ≤ P2 <;> by_cases h2 : P4 < P3
      all_goals (
        have h3 : decide (P1 - P2 ≤ 0) = decide (P1 ≤ P2) := by rw [Bool.eq_iff_iff]; simp; omega
        go_wp2_with fail
        go_ret
        exact ⟨ret_int (by rw [ES.out]; simp; omega), q3⟩)
    · have eS : Hid (suitE o = 2) := Lib.hid (by unfold suitE; rw [if_neg (by simp [h0]), if_pos hk])
      have kb : (o.k == 1) = false := by simpa using hk
      clear h0 pr
      go_enter Try.func53, Try.ntmps53
      go_upto_region 1 with fail
      have At0 := Lib.hid (OptAt.new w o)
      obtain ⟨W, hW⟩ : ∃ W, w.alloc (.cells #[.int .i64 o.k, .int .i64 o.c0, .int .i64 o.c1, .int .i64 o.c2, .int .i64 o.v0, .int .i64 o.v1, .int .i64 o.v2, .int .i64 o.v3, .int .i64 o.w0, .int .i64 o.w1, .int .i64 o.w2, .int .i64 o.w3, .int .i64 o.s0, .int .i64 o.s1, .int .i64 o.s2, .int .i64 o.s3, .int .i64 o.eta, .int .i64 o.dark] 26) = W := ⟨_, rfl⟩
      rw [hW] at hb0 At0 ⊢
      clear hW
      go_wp2_with (refine wpList_load_row rfl 26 _ rfl w.heap.size rfl 26 _ (0, 0) _ At0.out Try.underlying26 rfl (by kernel_rfl) ?_)
      refine (cK _).mono ?_
      rintro e w2 ⟨rfl, hb2⟩
      have q2 := below_trans hb0 hb2
      have x0 := (At0.out.on hb2).x0
      go_wp2_with fail
      go_ret
      exact ⟨ret_int eS.out.symm, q2⟩
  · have eS : Hid (suitE o = optE o) := Lib.hid (by unfold suitE; rw [if_pos h0])
    have hne : (optE o != 0) = true := by rw [bne_iff_ne]; exact h0
    obtain ⟨E, hE⟩ : ∃ E, optE o = E := ⟨_, rfl⟩
    rw [hE] at cK hne eS
    clear h0 hE
    go_enter Try.func53, Try.ntmps53
    go_upto_region 1 with fail
    have At0 := Lib.hid (OptAt.new w o)
    obtain ⟨W, hW⟩ : ∃ W, w.alloc (.cells #[.int .i64 o.k, .int .i64 o.c0, .int .i64 o.c1, .int .i64 o.c2, .int .i64 o.v0, .int .i64 o.v1, .int .i64 o.v2, .int .i64 o.v3, .int .i64 o.w0, .int .i64 o.w1, .int .i64 o.w2, .int .i64 o.w3, .int .i64 o.s0, .int .i64 o.s1, .int .i64 o.s2, .int .i64 o.s3, .int .i64 o.eta, .int .i64 o.dark] 26) = W := ⟨_, rfl⟩
    rw [hW] at hb0 At0 ⊢
    clear hW
    go_wp2_with (refine wpList_load_row rfl 26 _ rfl w.heap.size rfl 26 _ (0, 0) _ At0.out Try.underlying26 rfl (by kernel_rfl) ?_)
    refine (cK _).mono ?_
    rintro e w2 ⟨rfl, hb2⟩
    have q2 := below_trans hb0 hb2

    have At2 := Lib.hid (At0.out.on hb2)
    go_wp2_with (refine wpList_load_row rfl 26 _ rfl w.heap.size rfl 26 _ (0, 0) _ At2.out Try.underlying26 rfl (by kernel_rfl) ?_)
    refine (cK _).mono ?_
    rintro e w3 ⟨rfl, hb3⟩
    have q2 := below_trans q2 hb3
    go_wp2_with fail
    go_ret
    exact ⟨ret_int eS.out.symm, q2⟩

end Go.Proofs.Yteoaaphjbggobaa
