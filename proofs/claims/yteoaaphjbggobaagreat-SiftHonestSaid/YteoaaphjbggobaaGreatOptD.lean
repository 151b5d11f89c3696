/- Contracts of sift.Suits and of the reference's Suits. For any arrangement. -/
import Derived.Test.YteoaaphjbggobaaGreatOptC
import Derived.Deep.DeepCutAuto
import Derived.Laws.Rows
namespace Go.Proofs.YteoaaphjbggobaaGreat
open Go.RowKit
set_option linter.unusedVariables false
set_option linter.unusedSimpArgs false

def suitE (o : Opt) : Int := if optE o ≠ 0 then optE o else if o.k ≠ 1 then 2 else if o.s2 * o.w1 - o.w2 * o.s1 ≤ 0 ∨ o.w2 * o.s3 < o.s2 * o.w3 then 11 else 0
theorem optE_cases (o : Opt) : optE o = 0 ∨ optE o = 2 := by unfold optE; split <;> simp
theorem opt_rows {o : Opt} (h : optE o = 0) : wtB [o.v0, o.v1, o.v2, o.v3] = true ∧ wtB [o.w0, o.w1, o.w2, o.w3] = true ∧ wtB [o.s0, o.s1, o.s2, o.s3] = true := by
  unfold optE at h
  split at h
  · rename_i hb
    rw [opt_ref] at hb
    simp at hb
    exact ⟨hb.2.1, hb.2.2.1, hb.2.2.2.1⟩
  · cases h
theorem wt_parts {a b c d : Int} (h : wtB [a, b, c, d] = true) : (0 ≤ a ∧ a ≤ 256) ∧ (0 ≤ b ∧ b ≤ 256) ∧ (0 ≤ c ∧ c ≤ 256) ∧ (0 ≤ d ∧ d ≤ 256) ∧ a + b + c + d = 256 := by
  unfold wtB partB at h
  simp only [List.all_cons, List.all_nil, Bool.and_true, Bool.and_eq_true, decide_eq_true_eq, List.sum_cons, List.sum_nil] at h
  obtain ⟨⟨h1, h2, h3, h4⟩, h5⟩ := h
  have h6 := of_decide_eq_true h5
  exact ⟨h1, h2, h3, h4, by omega⟩
theorem opt_parts {o : Opt} (h : optE o = 0) : (0 ≤ o.w1 ∧ o.w1 ≤ 256) ∧ (0 ≤ o.s1 ∧ o.s1 ≤ 256) ∧ (0 ≤ o.s2 ∧ o.s2 ≤ 256) ∧ (0 ≤ o.s3 ∧ o.s3 ≤ 256) ∧ (0 ≤ o.w2 ∧ o.w2 ≤ 256) ∧ (0 ≤ o.w3 ∧ o.w3 ≤ 256) := by
  obtain ⟨_, h1, h2⟩ := opt_rows h
  obtain ⟨_, q1, q2, q3, _⟩ := wt_parts h1
  obtain ⟨_, r1, r2, r3, _⟩ := wt_parts h2
  exact ⟨q1, r1, r2, r3, q2, q3⟩
theorem imul {a b : Int} (ha : 0 ≤ a ∧ a ≤ 256) (hb : 0 ≤ b ∧ b ≤ 256) : ∃ P, a * b = P ∧ 0 ≤ P ∧ P ≤ 65536 ∧ wrap64 (a * b) = P := by
  have h1 : 0 ≤ a * b := Int.mul_nonneg ha.1 hb.1
  have h2 : a * b ≤ 256 * 256 := Int.mul_le_mul ha.2 hb.2 hb.1 (by decide)
  exact ⟨a * b, rfl, h1, by omega, IntWalk.wrap64_in _ (by omega)⟩
/-- An arrangement in a box. -/
def OptAt (w : World) (b : Nat) (o : Opt) : Prop := w.heap[b]? = some (.cells #[.int .i64 o.k, .int .i64 o.c0, .int .i64 o.c1, .int .i64 o.c2, .int .i64 o.v0, .int .i64 o.v1, .int .i64 o.v2, .int .i64 o.v3, .int .i64 o.w0, .int .i64 o.w1, .int .i64 o.w2, .int .i64 o.w3, .int .i64 o.s0, .int .i64 o.s1, .int .i64 o.s2, .int .i64 o.s3, .int .i64 o.eta, .int .i64 o.dark] 68 (0, 0))
theorem OptAt.on {w w' : World} {b : Nat} {o : Opt} (h : OptAt w b o) (hb : Below w.heap.size w w') : OptAt w' b o :=
  (hb.block b (Array.getElem?_eq_some_iff.1 h).1).trans h
theorem OptAt.new (w : World) (o : Opt) : OptAt (w.alloc (.cells #[.int .i64 o.k, .int .i64 o.c0, .int .i64 o.c1, .int .i64 o.c2, .int .i64 o.v0, .int .i64 o.v1, .int .i64 o.v2, .int .i64 o.v3, .int .i64 o.w0, .int .i64 o.w1, .int .i64 o.w2, .int .i64 o.w3, .int .i64 o.s0, .int .i64 o.s1, .int .i64 o.s2, .int .i64 o.s3, .int .i64 o.eta, .int .i64 o.dark] 68)) w.heap.size o := heap_alloc_new w _
theorem OptAt.x0 {w : World} {b : Nat} {o : Opt} (h : OptAt w b o) : w.cell? ⟨b, 0, none⟩ = some (.int .i64 o.k) := cell_of_row w b 0 _ _ _ h
theorem OptAt.x1 {w : World} {b : Nat} {o : Opt} (h : OptAt w b o) : w.cell? ⟨b, 1, none⟩ = some (.int .i64 o.c0) := cell_of_row w b 1 _ _ _ h
theorem OptAt.x2 {w : World} {b : Nat} {o : Opt} (h : OptAt w b o) : w.cell? ⟨b, 2, none⟩ = some (.int .i64 o.c1) := cell_of_row w b 2 _ _ _ h
theorem OptAt.x3 {w : World} {b : Nat} {o : Opt} (h : OptAt w b o) : w.cell? ⟨b, 3, none⟩ = some (.int .i64 o.c2) := cell_of_row w b 3 _ _ _ h
theorem OptAt.x4 {w : World} {b : Nat} {o : Opt} (h : OptAt w b o) : w.cell? ⟨b, 4, none⟩ = some (.int .i64 o.v0) := cell_of_row w b 4 _ _ _ h
theorem OptAt.x5 {w : World} {b : Nat} {o : Opt} (h : OptAt w b o) : w.cell? ⟨b, 5, none⟩ = some (.int .i64 o.v1) := cell_of_row w b 5 _ _ _ h
theorem OptAt.x6 {w : World} {b : Nat} {o : Opt} (h : OptAt w b o) : w.cell? ⟨b, 6, none⟩ = some (.int .i64 o.v2) := cell_of_row w b 6 _ _ _ h
theorem OptAt.x7 {w : World} {b : Nat} {o : Opt} (h : OptAt w b o) : w.cell? ⟨b, 7, none⟩ = some (.int .i64 o.v3) := cell_of_row w b 7 _ _ _ h
theorem OptAt.x8 {w : World} {b : Nat} {o : Opt} (h : OptAt w b o) : w.cell? ⟨b, 8, none⟩ = some (.int .i64 o.w0) := cell_of_row w b 8 _ _ _ h
theorem OptAt.x9 {w : World} {b : Nat} {o : Opt} (h : OptAt w b o) : w.cell? ⟨b, 9, none⟩ = some (.int .i64 o.w1) := cell_of_row w b 9 _ _ _ h
theorem OptAt.x10 {w : World} {b : Nat} {o : Opt} (h : OptAt w b o) : w.cell? ⟨b, 10, none⟩ = some (.int .i64 o.w2) := cell_of_row w b 10 _ _ _ h
theorem OptAt.x11 {w : World} {b : Nat} {o : Opt} (h : OptAt w b o) : w.cell? ⟨b, 11, none⟩ = some (.int .i64 o.w3) := cell_of_row w b 11 _ _ _ h
theorem OptAt.x12 {w : World} {b : Nat} {o : Opt} (h : OptAt w b o) : w.cell? ⟨b, 12, none⟩ = some (.int .i64 o.s0) := cell_of_row w b 12 _ _ _ h
theorem OptAt.x13 {w : World} {b : Nat} {o : Opt} (h : OptAt w b o) : w.cell? ⟨b, 13, none⟩ = some (.int .i64 o.s1) := cell_of_row w b 13 _ _ _ h
theorem OptAt.x14 {w : World} {b : Nat} {o : Opt} (h : OptAt w b o) : w.cell? ⟨b, 14, none⟩ = some (.int .i64 o.s2) := cell_of_row w b 14 _ _ _ h
theorem OptAt.x15 {w : World} {b : Nat} {o : Opt} (h : OptAt w b o) : w.cell? ⟨b, 15, none⟩ = some (.int .i64 o.s3) := cell_of_row w b 15 _ _ _ h
theorem OptAt.x16 {w : World} {b : Nat} {o : Opt} (h : OptAt w b o) : w.cell? ⟨b, 16, none⟩ = some (.int .i64 o.eta) := cell_of_row w b 16 _ _ _ h
theorem OptAt.x17 {w : World} {b : Nat} {o : Opt} (h : OptAt w b o) : w.cell? ⟨b, 17, none⟩ = some (.int .i64 o.dark) := cell_of_row w b 17 _ _ _ h
/-- Four cells. -/
def Row4 (w : World) (g : Nat) (a b c d : Int) : Prop := w.cell? ⟨g, 0, none⟩ = some (.int .i64 a) ∧ w.cell? ⟨g, 1, none⟩ = some (.int .i64 b) ∧ w.cell? ⟨g, 2, none⟩ = some (.int .i64 c) ∧ w.cell? ⟨g, 3, none⟩ = some (.int .i64 d)
theorem Row4.on {w w' : World} {g : Nat} {a b c d : Int} (h : Row4 w g a b c d) (hb : Below w.heap.size w w') : Row4 w' g a b c d := ⟨bel_cell hb h.1, bel_cell hb h.2.1, bel_cell hb h.2.2.1, bel_cell hb h.2.2.2⟩

theorem row4_a (y : World) (a b c d e f g h : Int) (T : TypeId) : Row4 ((y.alloc (.cells #[.int .i64 a, .int .i64 b, .int .i64 c, .int .i64 d] T)).alloc (.cells #[.int .i64 e, .int .i64 f, .int .i64 g, .int .i64 h] T)).drew y.heap.size a b c d := by
  refine ⟨?_, ?_, ?_, ?_⟩ <;> go_simp
theorem row4_b (y : World) (a b c d e f g h : Int) (T : TypeId) : Row4 ((y.alloc (.cells #[.int .i64 a, .int .i64 b, .int .i64 c, .int .i64 d] T)).alloc (.cells #[.int .i64 e, .int .i64 f, .int .i64 g, .int .i64 h] T)).drew (y.heap.size + 1) e f g h := by
  refine ⟨?_, ?_, ?_, ?_⟩ <;> go_simp

end Go.Proofs.YteoaaphjbggobaaGreat
