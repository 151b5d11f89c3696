/- The walk of the law SiftYields. For any arrangement and yields. -/
import Derived.Test.YtbobbcfjjdmdgaaYlsP
import Derived.Test.YtbobbcfjjdmdgaaBndW
namespace Go.Proofs.Ytbobbcfjjdmdgaa
open Go.RowKit
set_option linter.unusedVariables false
set_option linter.unusedSimpArgs false

theorem boxesX (o : Opt) (of k0 k1 k2 k3 j0 j1 j2 j3 : Nat) (w : World) : OptAt ((w.alloc (.cells #[.int .i64 o.k, .int .i64 o.c0, .int .i64 o.c1, .int .i64 o.c2, .int .i64 o.v0, .int .i64 o.v1, .int .i64 o.v2, .int .i64 o.v3, .int .i64 o.w0, .int .i64 o.w1, .int .i64 o.w2, .int .i64 o.w3, .int .i64 o.s0, .int .i64 o.s1, .int .i64 o.s2, .int .i64 o.s3, .int .i64 o.eta, .int .i64 o.dark] 26)).alloc (.cells #[.int .u8 (of : Int), .int .u8 (k0 : Int), .int .u8 (k1 : Int), .int .u8 (k2 : Int), .int .u8 (k3 : Int), .int .u8 (j0 : Int), .int .u8 (j1 : Int), .int .u8 (j2 : Int), .int .u8 (j3 : Int)] 29)) w.heap.size o ∧ ((w.alloc (.cells #[.int .i64 o.k, .int .i64 o.c0, .int .i64 o.c1, .int .i64 o.c2, .int .i64 o.v0, .int .i64 o.v1, .int .i64 o.v2, .int .i64 o.v3, .int .i64 o.w0, .int .i64 o.w1, .int .i64 o.w2, .int .i64 o.w3, .int .i64 o.s0, .int .i64 o.s1, .int .i64 o.s2, .int .i64 o.s3, .int .i64 o.eta, .int .i64 o.dark] 26)).alloc (.cells #[.int .u8 (of : Int), .int .u8 (k0 : Int), .int .u8 (k1 : Int), .int .u8 (k2 : Int), .int .u8 (k3 : Int), .int .u8 (j0 : Int), .int .u8 (j1 : Int), .int .u8 (j2 : Int), .int .u8 (j3 : Int)] 29)).heap[w.heap.size + 1]? = some (.cells #[.int .u8 (of : Int), .int .u8 (k0 : Int), .int .u8 (k1 : Int), .int .u8 (k2 : Int), .int .u8 (k3 : Int), .int .u8 (j0 : Int), .int .u8 (j1 : Int), .int .u8 (j2 : Int), .int .u8 (j3 : Int)] 29 (0, 0)) ∧ Below w.heap.size w ((w.alloc (.cells #[.int .i64 o.k, .int .i64 o.c0, .int .i64 o.c1, .int .i64 o.c2, .int .i64 o.v0, .int .i64 o.v1, .int .i64 o.v2, .int .i64 o.v3, .int .i64 o.w0, .int .i64 o.w1, .int .i64 o.w2, .int .i64 o.w3, .int .i64 o.s0, .int .i64 o.s1, .int .i64 o.s2, .int .i64 o.s3, .int .i64 o.eta, .int .i64 o.dark] 26)).alloc (.cells #[.int .u8 (of : Int), .int .u8 (k0 : Int), .int .u8 (k1 : Int), .int .u8 (k2 : Int), .int .u8 (k3 : Int), .int .u8 (j0 : Int), .int .u8 (j1 : Int), .int .u8 (j2 : Int), .int .u8 (j3 : Int)] 29)) :=
  ⟨heap_alloc2_old w _ _, heap_alloc2_new w _ _, below_alloc (below_alloc (Below.refl w.heap.size w) _) _⟩
/-- Four cells that may be written. -/
def Bx (w : World) (b : Nat) (a0 a1 a2 a3 : Int) : Prop := Row4 w b a0 a1 a2 a3 ∧ w.frozen? ⟨b, 0, none⟩ = false ∧ w.frozen? ⟨b, 1, none⟩ = false ∧ w.frozen? ⟨b, 2, none⟩ = false ∧ w.frozen? ⟨b, 3, none⟩ = false
theorem boxes4 (y : World) : Bx ((y.alloc (.cells #[.int .i64 0, .int .i64 0, .int .i64 0, .int .i64 0] 23)).alloc (.cells #[.int .i64 0, .int .i64 0, .int .i64 0, .int .i64 0] 23)) y.heap.size 0 0 0 0 ∧ Bx ((y.alloc (.cells #[.int .i64 0, .int .i64 0, .int .i64 0, .int .i64 0] 23)).alloc (.cells #[.int .i64 0, .int .i64 0, .int .i64 0, .int .i64 0] 23)) (y.heap.size + 1) 0 0 0 0 ∧ Below y.heap.size y ((y.alloc (.cells #[.int .i64 0, .int .i64 0, .int .i64 0, .int .i64 0] 23)).alloc (.cells #[.int .i64 0, .int .i64 0, .int .i64 0, .int .i64 0] 23)) := by
  refine ⟨⟨⟨?_, ?_, ?_, ?_⟩, ?_, ?_, ?_, ?_⟩, ⟨⟨?_, ?_, ?_, ?_⟩, ?_, ?_, ?_, ?_⟩, below_alloc (below_alloc (Below.refl _ _) _) _⟩
  all_goals go_simp
theorem bx_set0 {w : World} {b : Nat} {a0 a1 a2 a3 : Int} (h : Bx w b a0 a1 a2 a3) (v : Int) : Bx (w.setCell ⟨b, 0, none⟩ (.int .i64 v)) b v a1 a2 a3 := by
  obtain ⟨⟨q0, q1, q2, q3⟩, f0, f1, f2, f3⟩ := h
  refine ⟨⟨?_, ?_, ?_, ?_⟩, ?_, ?_, ?_, ?_⟩ <;> go_simp
theorem bx_set1 {w : World} {b : Nat} {a0 a1 a2 a3 : Int} (h : Bx w b a0 a1 a2 a3) (v : Int) : Bx (w.setCell ⟨b, 1, none⟩ (.int .i64 v)) b a0 v a2 a3 := by
  obtain ⟨⟨q0, q1, q2, q3⟩, f0, f1, f2, f3⟩ := h
  refine ⟨⟨?_, ?_, ?_, ?_⟩, ?_, ?_, ?_, ?_⟩ <;> go_simp
theorem bx_set2 {w : World} {b : Nat} {a0 a1 a2 a3 : Int} (h : Bx w b a0 a1 a2 a3) (v : Int) : Bx (w.setCell ⟨b, 2, none⟩ (.int .i64 v)) b a0 a1 v a3 := by
  obtain ⟨⟨q0, q1, q2, q3⟩, f0, f1, f2, f3⟩ := h
  refine ⟨⟨?_, ?_, ?_, ?_⟩, ?_, ?_, ?_, ?_⟩ <;> go_simp
theorem bx_set3 {w : World} {b : Nat} {a0 a1 a2 a3 : Int} (h : Bx w b a0 a1 a2 a3) (v : Int) : Bx (w.setCell ⟨b, 3, none⟩ (.int .i64 v)) b a0 a1 a2 v := by
  obtain ⟨⟨q0, q1, q2, q3⟩, f0, f1, f2, f3⟩ := h
  refine ⟨⟨?_, ?_, ?_, ?_⟩, ?_, ?_, ?_, ?_⟩ <;> go_simp
theorem Bx.far {w : World} {b b' : Nat} {a0 a1 a2 a3 : Int} (h : Bx w b a0 a1 a2 a3) (hne : b' ≠ b) (j : Nat) (u : Value) : Bx (w.setCell ⟨b', j, none⟩ u) b a0 a1 a2 a3 := by
  obtain ⟨⟨q0, q1, q2, q3⟩, f0, f1, f2, f3⟩ := h
  exact ⟨⟨(World.cell?_setCell_far _ _ _ _ hne).trans q0, (World.cell?_setCell_far _ _ _ _ hne).trans q1, (World.cell?_setCell_far _ _ _ _ hne).trans q2, (World.cell?_setCell_far _ _ _ _ hne).trans q3⟩, by rw [World.frozen?_setCell]; exact f0, by rw [World.frozen?_setCell]; exact f1, by rw [World.frozen?_setCell]; exact f2, by rw [World.frozen?_setCell]; exact f3⟩
theorem OptAt.onB {w w' : World} {b B : Nat} {o : Opt} (h : OptAt w b o) (hb : Below B w w') (hlt : b < B) : OptAt w' b o := (hb.block b hlt).trans h
theorem Bx.on {w w' : World} {b : Nat} {a0 a1 a2 a3 : Int} (h : Bx w b a0 a1 a2 a3) (hb : Below w.heap.size w w') : Bx w' b a0 a1 a2 a3 := by
  have hl : b < w.heap.size := World.block_lt_of_cell? _ _ h.1.1
  exact ⟨h.1.on hb, (hb.frozen (p := ⟨b, 0, none⟩) hl).trans h.2.1, (hb.frozen (p := ⟨b, 1, none⟩) hl).trans h.2.2.1, (hb.frozen (p := ⟨b, 2, none⟩) hl).trans h.2.2.2.1, (hb.frozen (p := ⟨b, 3, none⟩) hl).trans h.2.2.2.2⟩
/-- The first n terms. -/
def acc (p0 p1 p2 p3 y0 y1 y2 y3 : Int) : Nat → Int
  | 0 => 0
  | 1 => p0 * y0
  | 2 => p0 * y0 + p1 * y1
  | 3 => p0 * y0 + p1 * y1 + p2 * y2
  | _ => p0 * y0 + p1 * y1 + p2 * y2 + p3 * y3
theorem acc_ok {p0 p1 p2 p3 y0 y1 y2 y3 : Int} (h : wtB [p0, p1, p2, p3] = true) (h0 : 0 ≤ y0 ∧ y0 ≤ 16) (h1 : 0 ≤ y1 ∧ y1 ≤ 16) (h2 : 0 ≤ y2 ∧ y2 ≤ 16) (h3 : 0 ≤ y3 ∧ y3 ≤ 16) :
    (wrap64 (p0 * y0) = p0 * y0 ∧ wrap64 (acc p0 p1 p2 p3 y0 y1 y2 y3 0 + p0 * y0) = acc p0 p1 p2 p3 y0 y1 y2 y3 1) ∧
    (wrap64 (p1 * y1) = p1 * y1 ∧ wrap64 (acc p0 p1 p2 p3 y0 y1 y2 y3 1 + p1 * y1) = acc p0 p1 p2 p3 y0 y1 y2 y3 2) ∧
    (wrap64 (p2 * y2) = p2 * y2 ∧ wrap64 (acc p0 p1 p2 p3 y0 y1 y2 y3 2 + p2 * y2) = acc p0 p1 p2 p3 y0 y1 y2 y3 3) ∧
    (wrap64 (p3 * y3) = p3 * y3 ∧ wrap64 (acc p0 p1 p2 p3 y0 y1 y2 y3 3 + p3 * y3) = acc p0 p1 p2 p3 y0 y1 y2 y3 4) := by
  obtain ⟨q0, q1, q2, q3, _⟩ := wt_parts h
  have key : ∀ {a b : Int}, 0 ≤ a ∧ a ≤ 256 → 0 ≤ b ∧ b ≤ 16 → 0 ≤ a * b ∧ a * b ≤ 4096 := fun {a b} ha hb => by
    have e1 := Int.mul_nonneg ha.1 hb.1
    have e2 : a * b ≤ 256 * 16 := Int.mul_le_mul ha.2 hb.2 hb.1 (by decide)
    omega
  have a0 := key q0 h0
  have a1 := key q1 h1
  have a2 := key q2 h2
  have a3 := key q3 h3
  refine ⟨⟨IntWalk.wrap64_in _ (by omega), ?_⟩, ⟨IntWalk.wrap64_in _ (by omega), ?_⟩, ⟨IntWalk.wrap64_in _ (by omega), ?_⟩, ⟨IntWalk.wrap64_in _ (by omega), ?_⟩⟩
  · show wrap64 (0 + p0 * y0) = p0 * y0
    rw [Int.zero_add]; exact IntWalk.wrap64_in _ (by omega)
  · show wrap64 (p0 * y0 + p1 * y1) = p0 * y0 + p1 * y1
    exact IntWalk.wrap64_in _ (by omega)
  · show wrap64 (p0 * y0 + p1 * y1 + p2 * y2) = p0 * y0 + p1 * y1 + p2 * y2
    exact IntWalk.wrap64_in _ (by omega)
  · show wrap64 (p0 * y0 + p1 * y1 + p2 * y2 + p3 * y3) = p0 * y0 + p1 * y1 + p2 * y2 + p3 * y3
    exact IntWalk.wrap64_in _ (by omega)
def aV (o : Opt) (a b c d : Nat) (n : Nat) : Int := acc o.v0 o.v1 o.v2 o.v3 a b c d n
def aW (o : Opt) (a b c d : Nat) (n : Nat) : Int := acc o.w0 o.w1 o.w2 o.w3 a b c d n
def aS (o : Opt) (a b c d : Nat) (n : Nat) : Int := acc o.s0 o.s1 o.s2 o.s3 a b c d n
/-- The gains while they are reckoned: n terms of class c. -/
def gI (o : Opt) (e : Ev) (c n : Nat) : Gn :=
  match c with
  | 0 => ⟨256 * (e.m : Int), aV o e.y0 e.y1 e.y2 e.y3 n, aV o e.x0 e.x1 e.x2 e.x3 n, 0, 0, 0, 0, 0, 0⟩
  | 1 => ⟨256 * (e.m : Int), aV o e.y0 e.y1 e.y2 e.y3 4, aV o e.x0 e.x1 e.x2 e.x3 4, 256 * (e.m : Int), aW o e.y0 e.y1 e.y2 e.y3 n, aW o e.x0 e.x1 e.x2 e.x3 n, 0, 0, 0⟩
  | _ => ⟨256 * (e.m : Int), aV o e.y0 e.y1 e.y2 e.y3 4, aV o e.x0 e.x1 e.x2 e.x3 4, 256 * (e.m : Int), aW o e.y0 e.y1 e.y2 e.y3 4, aW o e.x0 e.x1 e.x2 e.x3 4, 256 * (e.m : Int), aS o e.y0 e.y1 e.y2 e.y3 n, aS o e.x0 e.x1 e.x2 e.x3 n⟩
def gC (o : Opt) (e : Ev) (c : Nat) : Gn :=
  match c with
  | 0 => ⟨0, 0, 0, 0, 0, 0, 0, 0, 0⟩
  | c + 1 => gI o e c 4
theorem gC_end (o : Opt) (e : Ev) : gC o e 3 = evG o e := rfl
theorem gn_set {w : World} {b : Nat} {g g' : Gn} (h : GnAt w b g) (j : Nat) (v : Int) (hg : (#[.int .i64 g.a0, .int .i64 g.h0, .int .i64 g.x0, .int .i64 g.a1, .int .i64 g.h1, .int .i64 g.x1, .int .i64 g.a2, .int .i64 g.h2, .int .i64 g.x2] : Array Value).setIfInBounds j (.int .i64 v) = #[.int .i64 g'.a0, .int .i64 g'.h0, .int .i64 g'.x0, .int .i64 g'.a1, .int .i64 g'.h1, .int .i64 g'.x1, .int .i64 g'.a2, .int .i64 g'.h2, .int .i64 g'.x2]) : GnAt (w.setCell ⟨b, j, none⟩ (.int .i64 v)) b g' := by
  unfold GnAt
  rw [← hg]
  exact heap_setCell_same w b j _ _ _ h
theorem gn_fr {w : World} {b : Nat} {g : Gn} (h : GnAt w b g) (j : Nat) : w.frozen? ⟨b, j, none⟩ = false := frozen_of_row w b j _ _ h
theorem acc_all {o : Opt} {e : Ev} (hs : suitE o = 0) (he : e.Ok) :
    (((wrap64 (o.v0 * (e.y0 : Int)) = o.v0 * e.y0 ∧ wrap64 (aV o e.y0 e.y1 e.y2 e.y3 0 + o.v0 * e.y0) = aV o e.y0 e.y1 e.y2 e.y3 1) ∧ (wrap64 (o.v1 * (e.y1 : Int)) = o.v1 * e.y1 ∧ wrap64 (aV o e.y0 e.y1 e.y2 e.y3 1 + o.v1 * e.y1) = aV o e.y0 e.y1 e.y2 e.y3 2) ∧ (wrap64 (o.v2 * (e.y2 : Int)) = o.v2 * e.y2 ∧ wrap64 (aV o e.y0 e.y1 e.y2 e.y3 2 + o.v2 * e.y2) = aV o e.y0 e.y1 e.y2 e.y3 3) ∧ (wrap64 (o.v3 * (e.y3 : Int)) = o.v3 * e.y3 ∧ wrap64 (aV o e.y0 e.y1 e.y2 e.y3 3 + o.v3 * e.y3) = aV o e.y0 e.y1 e.y2 e.y3 4)) ∧
     ((wrap64 (o.v0 * (e.x0 : Int)) = o.v0 * e.x0 ∧ wrap64 (aV o e.x0 e.x1 e.x2 e.x3 0 + o.v0 * e.x0) = aV o e.x0 e.x1 e.x2 e.x3 1) ∧ (wrap64 (o.v1 * (e.x1 : Int)) = o.v1 * e.x1 ∧ wrap64 (aV o e.x0 e.x1 e.x2 e.x3 1 + o.v1 * e.x1) = aV o e.x0 e.x1 e.x2 e.x3 2) ∧ (wrap64 (o.v2 * (e.x2 : Int)) = o.v2 * e.x2 ∧ wrap64 (aV o e.x0 e.x1 e.x2 e.x3 2 + o.v2 * e.x2) = aV o e.x0 e.x1 e.x2 e.x3 3) ∧ (wrap64 (o.v3 * (e.x3 : Int)) = o.v3 * e.x3 ∧ wrap64 (aV o e.x0 e.x1 e.x2 e.x3 3 + o.v3 * e.x3) = aV o e.x0 e.x1 e.x2 e.x3 4))) ∧
    (((wrap64 (o.w0 * (e.y0 : Int)) = o.w0 * e.y0 ∧ wrap64 (aW o e.y0 e.y1 e.y2 e.y3 0 + o.w0 * e.y0) = aW o e.y0 e.y1 e.y2 e.y3 1) ∧ (wrap64 (o.w1 * (e.y1 : Int)) = o.w1 * e.y1 ∧ wrap64 (aW o e.y0 e.y1 e.y2 e.y3 1 + o.w1 * e.y1) = aW o e.y0 e.y1 e.y2 e.y3 2) ∧ (wrap64 (o.w2 * (e.y2 : Int)) = o.w2 * e.y2 ∧ wrap64 (aW o e.y0 e.y1 e.y2 e.y3 2 + o.w2 * e.y2) = aW o e.y0 e.y1 e.y2 e.y3 3) ∧ (wrap64 (o.w3 * (e.y3 : Int)) = o.w3 * e.y3 ∧ wrap64 (aW o e.y0 e.y1 e.y2 e.y3 3 + o.w3 * e.y3) = aW o e.y0 e.y1 e.y2 e.y3 4)) ∧
     ((wrap64 (o.w0 * (e.x0 : Int)) = o.w0 * e.x0 ∧ wrap64 (aW o e.x0 e.x1 e.x2 e.x3 0 + o.w0 * e.x0) = aW o e.x0 e.x1 e.x2 e.x3 1) ∧ (wrap64 (o.w1 * (e.x1 : Int)) = o.w1 * e.x1 ∧ wrap64 (aW o e.x0 e.x1 e.x2 e.x3 1 + o.w1 * e.x1) = aW o e.x0 e.x1 e.x2 e.x3 2) ∧ (wrap64 (o.w2 * (e.x2 : Int)) = o.w2 * e.x2 ∧ wrap64 (aW o e.x0 e.x1 e.x2 e.x3 2 + o.w2 * e.x2) = aW o e.x0 e.x1 e.x2 e.x3 3) ∧ (wrap64 (o.w3 * (e.x3 : Int)) = o.w3 * e.x3 ∧ wrap64 (aW o e.x0 e.x1 e.x2 e.x3 3 + o.w3 * e.x3) = aW o e.x0 e.x1 e.x2 e.x3 4))) ∧
    (((wrap64 (o.s0 * (e.y0 : Int)) = o.s0 * e.y0 ∧ wrap64 (aS o e.y0 e.y1 e.y2 e.y3 0 + o.s0 * e.y0) = aS o e.y0 e.y1 e.y2 e.y3 1) ∧ (wrap64 (o.s1 * (e.y1 : Int)) = o.s1 * e.y1 ∧ wrap64 (aS o e.y0 e.y1 e.y2 e.y3 1 + o.s1 * e.y1) = aS o e.y0 e.y1 e.y2 e.y3 2) ∧ (wrap64 (o.s2 * (e.y2 : Int)) = o.s2 * e.y2 ∧ wrap64 (aS o e.y0 e.y1 e.y2 e.y3 2 + o.s2 * e.y2) = aS o e.y0 e.y1 e.y2 e.y3 3) ∧ (wrap64 (o.s3 * (e.y3 : Int)) = o.s3 * e.y3 ∧ wrap64 (aS o e.y0 e.y1 e.y2 e.y3 3 + o.s3 * e.y3) = aS o e.y0 e.y1 e.y2 e.y3 4)) ∧
     ((wrap64 (o.s0 * (e.x0 : Int)) = o.s0 * e.x0 ∧ wrap64 (aS o e.x0 e.x1 e.x2 e.x3 0 + o.s0 * e.x0) = aS o e.x0 e.x1 e.x2 e.x3 1) ∧ (wrap64 (o.s1 * (e.x1 : Int)) = o.s1 * e.x1 ∧ wrap64 (aS o e.x0 e.x1 e.x2 e.x3 1 + o.s1 * e.x1) = aS o e.x0 e.x1 e.x2 e.x3 2) ∧ (wrap64 (o.s2 * (e.x2 : Int)) = o.s2 * e.x2 ∧ wrap64 (aS o e.x0 e.x1 e.x2 e.x3 2 + o.s2 * e.x2) = aS o e.x0 e.x1 e.x2 e.x3 3) ∧ (wrap64 (o.s3 * (e.x3 : Int)) = o.s3 * e.x3 ∧ wrap64 (aS o e.x0 e.x1 e.x2 e.x3 3 + o.s3 * e.x3) = aS o e.x0 e.x1 e.x2 e.x3 4))) := by
  obtain ⟨r1, r2, r3⟩ := opt_rows (suit_parts hs).1
  obtain ⟨m0, m1, k0, k1, k2, k3, j0, j1, j2, j3⟩ := he
  exact ⟨⟨acc_ok r1 (by omega) (by omega) (by omega) (by omega), acc_ok r1 (by omega) (by omega) (by omega) (by omega)⟩, ⟨acc_ok r2 (by omega) (by omega) (by omega) (by omega), acc_ok r2 (by omega) (by omega) (by omega) (by omega)⟩, acc_ok r3 (by omega) (by omega) (by omega) (by omega), acc_ok r3 (by omega) (by omega) (by omega) (by omega)⟩
theorem cmpI_ge {n m : Nat} (h : m ≤ n) : 0 ≤ cmpI n m := by
  unfold cmpI
  split
  · omega
  · split <;> decide
theorem fbr_pos {o : Opt} {e : Ev} (he : e.Ok) (hs : suitE o = 0) : 0 < brD 0 (fNum o (evG o e)) (fDen o (evG o e)) := by
  have := fden_pos he hs
  unfold brD
  rw [if_pos rfl]
  exact (rd_spec (show 0 < (fDen o (evG o e)).toNat by omega)).2.2.2.2
theorem cmp_frac (N D y m : Nat) (w : World) (hN : N < B32 ^ 4) (hD : D < B32 ^ 4) (hD0 : 0 < D) (hy : y ≤ 16) (hm : 0 < m ∧ m ≤ 16) (A : Option Addr) (a : Nat) (C : Option Addr) (c : Nat) (E : Option Addr) (e : Nat) (G : Option Addr) (g : Nat) (h1 : Nt w A a (limbs N)) (h2 : Nt w C c (limbs D)) (h3 : Nt w E e (limbs y)) (h4 : Nt w G g (limbs m)) :
    Calls Try.prog 13 #[.agg #[.slice A (limbs N).length a, .slice C (limbs D).length c], .agg #[.slice E (limbs y).length e, .slice G (limbs m).length g]] w fun r w' => r = .returned (.tuple #[.int .i64 (cmpI (N * m) (y * D)), .int .i64 0]) ∧ Below w.heap.size w w' := by
  have cC := FracCompare_any ⟨A, a, limbs N, C, c, limbs D⟩ ⟨E, e, limbs y, G, g, limbs m⟩ w ⟨h1, h2⟩ ⟨h3, h4⟩
  have hv : validE [⟨A, a, limbs N, C, c, limbs D⟩, ⟨E, e, limbs y, G, g, limbs m⟩] = 0 := two_valid (limbs_4 hN) (limbs_4 hD) (limbs_4 (Nat.lt_of_le_of_lt hy (by decide))) (limbs_4 (Nat.lt_of_le_of_lt hm.2 (by decide))) (by simp only [V_limbs]; exact hD0) (by simp only [V_limbs]; exact hm.1)
  have hc : fcmpI ⟨A, a, limbs N, C, c, limbs D⟩ ⟨E, e, limbs y, G, g, limbs m⟩ = cmpI (N * m) (y * D) := by
    unfold fcmpI
    rw [if_pos hv]
    simp only [V_limbs]
  rw [hv, hc] at cC
  exact cC
def pre (k i v : Nat) : Int := if i < k then (v : Int) else 0
theorem row_on {w w' : World} {b : Nat} {o : Obj} (h : w.heap[b]? = some o) (hb : Below w.heap.size w w') : w'.heap[b]? = some o :=
  (hb.block b (Array.getElem?_eq_some_iff.1 h).1).trans h
theorem x_cell {w w' : World} {b B : Nat} {cs : Array Value} {T : TypeId} (h : w.heap[b]? = some (.cells cs T (0, 0))) (hb : Below B w w') (hlt : b < B) (j : Nat) : w'.cell? ⟨b, j, none⟩ = cs[j]? :=
  cell_of_row w' b j cs T (0, 0) ((hb.block b hlt).trans h)

set_option maxRecDepth 100000 in
set_option maxHeartbeats 8000000 in
theorem yields_no (o : Opt) (of k0 k1 k2 k3 j0 j1 j2 j3 : Nat) (w : World) (hs : suitE o ≠ 0) : Calls Try.prog 3 #[o.val, .agg #[.int .u8 (of : Int), .int .u8 (k0 : Int), .int .u8 (k1 : Int), .int .u8 (k2 : Int), .int .u8 (k3 : Int), .int .u8 (j0 : Int), .int .u8 (j1 : Int), .int .u8 (j2 : Int), .int .u8 (j3 : Int)]] w fun e w' => e = .returned (.bool true) ∧ Below w.heap.size w w' := by
  have c7 := fun w' => oSuits_any o w'
  have c8 := fun w' => rSuits_any o w'
  have c9 := fun w' => known_any w'
  obtain ⟨at0, xt0, hb0⟩ := boxesX o of k0 k1 k2 k3 j0 j1 j2 j3 w
  have At0 := Lib.hid at0; have Xt0 := Lib.hid xt0
  unfold Opt.val Opt.cs at *
  clear at0 xt0
  obtain ⟨Z, hZ⟩ : ∃ Z, suitE o = Z := ⟨_, rfl⟩
  rw [hZ] at hs
  simp only [hZ] at c7 c8
  have hne : (Z != 0) = true := by rw [bne_iff_ne]; exact hs
  clear hs hZ
  go_enter Try.func3, Try.ntmps3
  go_upto_region 1 with fail
  obtain ⟨W, hW⟩ : ∃ W, ((w.alloc (.cells #[.int .i64 o.k, .int .i64 o.c0, .int .i64 o.c1, .int .i64 o.c2, .int .i64 o.v0, .int .i64 o.v1, .int .i64 o.v2, .int .i64 o.v3, .int .i64 o.w0, .int .i64 o.w1, .int .i64 o.w2, .int .i64 o.w3, .int .i64 o.s0, .int .i64 o.s1, .int .i64 o.s2, .int .i64 o.s3, .int .i64 o.eta, .int .i64 o.dark] 26)).alloc (.cells #[.int .u8 (of : Int), .int .u8 (k0 : Int), .int .u8 (k1 : Int), .int .u8 (k2 : Int), .int .u8 (k3 : Int), .int .u8 (j0 : Int), .int .u8 (j1 : Int), .int .u8 (j2 : Int), .int .u8 (j3 : Int)] 29)) = W := ⟨_, rfl⟩
  rw [hW] at hb0 At0 Xt0 ⊢
  clear hW
  refine wp_region_held_drew (S := fun w' => Below W.heap.size W w') (by kernel_rfl) (Below.refl _ _).drew (fun hHeld => ?_)
  have B0 : Below W.heap.size W W.drew := (Below.refl _ _).drew
  refine wpAnyH_take (i := 0) (v := _) rfl (by kernel_rfl) (by kernel_rfl) (by kernel_rfl) (fun _ _ _ h => h) (Or.inl ⟨by rfl, load_row 26 _ rfl w.heap.size rfl 26 _ (0, 0) _ (fun w' hb => At0.out.on hb) Try.underlying26 rfl (by kernel_rfl)⟩) (by assumption) ?_
  (try simp only [Act.put, List.getElem_toArray, List.getElem_cons_succ, List.getElem_cons_zero, List.setIfInBounds_toArray, List.set_cons_zero, List.set_cons_succ])
  refine wpAnyH_take (i := 2) (v := _) rfl (by kernel_rfl) (by kernel_rfl) (by kernel_rfl) (fun _ _ _ h => h) (Or.inl ⟨by rfl, load_row 26 _ rfl w.heap.size rfl 26 _ (0, 0) _ (fun w' hb => At0.out.on hb) Try.underlying26 rfl (by kernel_rfl)⟩) (by assumption) ?_
  (try simp only [Act.put, List.getElem_toArray, List.getElem_cons_succ, List.getElem_cons_zero, List.setIfInBounds_toArray, List.set_cons_zero, List.set_cons_succ])
  refine wpAnyH_ready (rs := [1]) (by kernel_rfl) (by simp) ?_
  refine AllReadyH.cons rfl (fun K1 hK1 => ?_) AllReadyH.nil
  go_simp
  refine (c7 _).mono ?_
  rintro e v1 ⟨rfl, hx1⟩
  have B1 := below_trans B0 hx1
  go_wp2_with fail
  refine hK1.out _ _ B1 (fun hHeldN => ?_)
  clear hK1 K1
  (try simp only [Act.put, List.getElem_toArray, List.getElem_cons_succ, List.getElem_cons_zero, List.setIfInBounds_toArray, List.set_cons_zero, List.set_cons_succ])
  refine wpAnyH_ready (rs := [3]) (by kernel_rfl) (by simp) ?_
  refine AllReadyH.cons rfl (fun K1 hK1 => ?_) AllReadyH.nil
  go_simp
  refine (c8 _).mono ?_
  rintro e v2 ⟨rfl, hx3⟩
  have B2 := below_trans B1 hx3
  go_wp2_with fail
  refine hK1.out _ _ B2 (fun hHeldN => ?_)
  clear hK1 K1
  (try simp only [Act.put, List.getElem_toArray, List.getElem_cons_succ, List.getElem_cons_zero, List.setIfInBounds_toArray, List.set_cons_zero, List.set_cons_succ])
  (refine wpAnyH_take (i := 4) (v := ?_) rfl (by kernel_rfl) (by kernel_rfl) (by kernel_rfl) (fun _ _ _ h => h) (Or.inl ⟨by rfl, ?_⟩) (by assumption) ?_; rotate_left 1; (focus (intro wz hSz; (try dsimp only at hSz); go_simp; (try with_reducible rfl))); (try simp only [Act.put, List.setIfInBounds_toArray, List.set_cons_zero, List.set_cons_succ]))
  (try simp only [Act.put, List.getElem_toArray, List.getElem_cons_succ, List.getElem_cons_zero, List.setIfInBounds_toArray, List.set_cons_zero, List.set_cons_succ])
  refine wpAnyH_done (by kernel_rfl) ?_ _
  have At2 := Lib.hid (At0.out.on B2)
  have hb2 := below_trans hb0 B2
  go_wp2_with (refine wpList_load_row rfl 26 _ rfl w.heap.size rfl 26 _ (0, 0) _ At2.out Try.underlying26 rfl (by kernel_rfl) ?_)
  refine (c7 _).mono ?_
  rintro e v3 ⟨rfl, hx3⟩
  have hb3 := below_trans hb2 hx3
  have B3 := below_trans B2 hx3
  have At3 := Lib.hid (At2.out.on hx3)
  go_wp2_with fail
  refine (c9 _).mono ?_
  rintro e y4 ⟨rfl, hx4⟩
  have hb4 := below_trans hb3 hx4
  go_wp2_with fail
  go_ret
  exact ⟨rfl, hb4⟩

set_option maxRecDepth 100000 in
set_option maxHeartbeats 8000000 in
theorem yields_main (o : Opt) (of k0 k1 k2 k3 j0 j1 j2 j3 : Nat) (w : World) (hs : suitE o = 0) (hof : of < 256) (hk : k0 < 256 ∧ k1 < 256 ∧ k2 < 256 ∧ k3 < 256) (hj : j0 < 256 ∧ j1 < 256 ∧ j2 < 256 ∧ j3 < 256) : Calls Try.prog 3 #[o.val, .agg #[.int .u8 (of : Int), .int .u8 (k0 : Int), .int .u8 (k1 : Int), .int .u8 (k2 : Int), .int .u8 (k3 : Int), .int .u8 (j0 : Int), .int .u8 (j1 : Int), .int .u8 (j2 : Int), .int .u8 (j3 : Int)]] w fun e w' => e = .returned (.bool true) ∧ Below w.heap.size w w' := by
  have c7 := fun w' => oSuits_any o w'
  have c8 := fun w' => rSuits_any o w'
  have c9 := fun w' => known_any w'
  obtain ⟨at0, xt0, hb0⟩ := boxesX o of k0 k1 k2 k3 j0 j1 j2 j3 w
  have At0 := Lib.hid at0; have Xt0 := Lib.hid xt0
  unfold Opt.val Opt.cs at *
  clear at0 xt0
  simp only [hs] at c7 c8
  have HS := Lib.hid hs
  have hs0 := hs
  clear hs
  obtain ⟨m, hm⟩ : ∃ m : Nat, of % 16 + 1 = m := ⟨_, rfl⟩
  obtain ⟨y0, hy0⟩ : ∃ y : Nat, k0 % (m + 1) = y := ⟨_, rfl⟩
  obtain ⟨y1, hy1⟩ : ∃ y : Nat, k1 % (m + 1) = y := ⟨_, rfl⟩
  obtain ⟨y2, hy2⟩ : ∃ y : Nat, k2 % (m + 1) = y := ⟨_, rfl⟩
  obtain ⟨y3, hy3⟩ : ∃ y : Nat, k3 % (m + 1) = y := ⟨_, rfl⟩
  obtain ⟨x0, hx0⟩ : ∃ x : Nat, j0 % (y0 + 1) = x := ⟨_, rfl⟩
  obtain ⟨x1, hx1'⟩ : ∃ x : Nat, j1 % (y1 + 1) = x := ⟨_, rfl⟩
  obtain ⟨x2, hx2⟩ : ∃ x : Nat, j2 % (y2 + 1) = x := ⟨_, rfl⟩
  obtain ⟨x3, hx3'⟩ : ∃ x : Nat, j3 % (y3 + 1) = x := ⟨_, rfl⟩
  have hok : Ev.Ok ⟨m, y0, y1, y2, y3, x0, x1, x2, x3⟩ := by
    have t (a b : Nat) : a % (b + 1) ≤ b := Nat.le_of_lt_succ (Nat.mod_lt _ (Nat.succ_pos _))
    refine ⟨?_, ?_, ?_, ?_, ?_, ?_, ?_, ?_, ?_, ?_⟩
    · show 0 < m; omega
    · show m ≤ 16; omega
    · show y0 ≤ m; rw [← hy0]; exact t _ _
    · show y1 ≤ m; rw [← hy1]; exact t _ _
    · show y2 ≤ m; rw [← hy2]; exact t _ _
    · show y3 ≤ m; rw [← hy3]; exact t _ _
    · show x0 ≤ y0; rw [← hx0]; exact t _ _
    · show x1 ≤ y1; rw [← hx1']; exact t _ _
    · show x2 ≤ y2; rw [← hx2]; exact t _ _
    · show x3 ≤ y3; rw [← hx3']; exact t _ _
  have hM : (of : Int) % 16 + 1 = (m : Int) := by omega
  have HY : Hid ((k0 : Int) % ((m : Int) + 1) = (y0 : Int) ∧ (k1 : Int) % ((m : Int) + 1) = (y1 : Int) ∧ (k2 : Int) % ((m : Int) + 1) = (y2 : Int) ∧ (k3 : Int) % ((m : Int) + 1) = (y3 : Int)) := Lib.hid ⟨by rw [← hy0]; rfl, by rw [← hy1]; rfl, by rw [← hy2]; rfl, by rw [← hy3]; rfl⟩
  have HX : Hid ((j0 : Int) % ((y0 : Int) + 1) = (x0 : Int) ∧ (j1 : Int) % ((y1 : Int) + 1) = (x1 : Int) ∧ (j2 : Int) % ((y2 : Int) + 1) = (x2 : Int) ∧ (j3 : Int) % ((y3 : Int) + 1) = (x3 : Int)) := Lib.hid ⟨by rw [← hx0]; rfl, by rw [← hx1']; rfl, by rw [← hx2]; rfl, by rw [← hx3']; rfl⟩
  have HOK := Lib.hid hok
  have HMM := Lib.hid hM
  have hm16 : 0 < m ∧ m ≤ 16 := ⟨hok.m0, hok.m1⟩
  have gE := ev_gains hok hs0
  have yb := yield_below hok hs0
  have fa := fault_above hok hs0
  obtain ⟨_, ys2, ys3⟩ := yld_small gE
  obtain ⟨ys1, _⟩ := brx_small (E := 0) (num := yNum o (evG o ⟨m, y0, y1, y2, y3, x0, x1, x2, x3⟩)) (den := yDen o (evG o ⟨m, y0, y1, y2, y3, x0, x1, x2, x3⟩)) (fun _ => (yden_small gE).2)
  obtain ⟨fs1, fs3⟩ := brx_small (E := 0) (num := fNum o (evG o ⟨m, y0, y1, y2, y3, x0, x1, x2, x3⟩)) (den := fDen o (evG o ⟨m, y0, y1, y2, y3, x0, x1, x2, x3⟩)) (fun _ => fden_small gE)
  have fs2 := fbr_pos hok hs0
  have cY := fun w' => Yield_any o (evG o ⟨m, y0, y1, y2, y3, x0, x1, x2, x3⟩) w'
  have cF := fun w' => Faults_any o (evG o ⟨m, y0, y1, y2, y3, x0, x1, x2, x3⟩) w'
  simp only [gE] at cY cF
  obtain ⟨N, hN⟩ : ∃ N, brN 0 (yNum o (evG o ⟨m, y0, y1, y2, y3, x0, x1, x2, x3⟩)) (yDen o (evG o ⟨m, y0, y1, y2, y3, x0, x1, x2, x3⟩)) = N := ⟨_, rfl⟩
  obtain ⟨D, hD⟩ : ∃ D, brD 0 (yNum o (evG o ⟨m, y0, y1, y2, y3, x0, x1, x2, x3⟩)) (yDen o (evG o ⟨m, y0, y1, y2, y3, x0, x1, x2, x3⟩)) = D := ⟨_, rfl⟩
  obtain ⟨M, hM'⟩ : ∃ M, brN 0 (fNum o (evG o ⟨m, y0, y1, y2, y3, x0, x1, x2, x3⟩)) (fDen o (evG o ⟨m, y0, y1, y2, y3, x0, x1, x2, x3⟩)) = M := ⟨_, rfl⟩
  obtain ⟨F, hF⟩ : ∃ F, brD 0 (fNum o (evG o ⟨m, y0, y1, y2, y3, x0, x1, x2, x3⟩)) (fDen o (evG o ⟨m, y0, y1, y2, y3, x0, x1, x2, x3⟩)) = F := ⟨_, rfl⟩
  simp only [hN, hD] at cY yb ys1 ys2 ys3
  simp only [hM', hF] at cF fa fs1 fs2 fs3
  have hy16 : y1 ≤ 16 := Nat.le_trans hok.k1 hok.m1
  have hx16 : x1 ≤ 16 := Nat.le_trans (Nat.le_trans hok.j1 hok.k1) hok.m1
  have cm1 := fun w' => cmp_frac N D y1 m w' ys1 ys3 ys2 hy16 hm16
  have cm2 := fun w' => cmp_frac M F x1 m w' fs1 fs3 fs2 hx16 hm16
  have hi1 : cmpI (N * m) (y1 * D) ≤ 0 := cmpI_le (Nat.not_lt.2 yb)
  have hi2 : 0 ≤ cmpI (M * m) (x1 * F) := cmpI_ge fa
  obtain ⟨I1, hI1⟩ : ∃ I, cmpI (N * m) (y1 * D) = I := ⟨_, rfl⟩
  obtain ⟨I2, hI2⟩ : ∃ I, cmpI (M * m) (x1 * F) = I := ⟨_, rfl⟩
  simp only [hI1] at cm1 hi1
  simp only [hI2] at cm2 hi2
  have CM1 := Lib.hid cm1; have CM2 := Lib.hid cm2; have HI1 := Lib.hid hi1; have HI2 := Lib.hid hi2
  unfold Opt.val Opt.cs Gn.val FrP at cY cF
  have CY := Lib.hid cY; have CF := Lib.hid cF
  have cOY := fun w' => Of_any y1 w' (by omega)
  have cOX := fun w' => Of_any x1 w' (by omega)
  have cOm := fun w' => Of_any m w' (by omega)
  have wY : IntKind.u64.wrap (y1 : Int) = (y1 : Int) := wrapU rfl (by omega)
  have wX : IntKind.u64.wrap (x1 : Int) = (x1 : Int) := wrapU rfl (by omega)
  have wm : IntKind.u64.wrap (m : Int) = (m : Int) := wrapU rfl (by omega)
  clear gE yb fa ys1 ys2 ys3 fs1 fs2 fs3 cY cF hN hD hM' hF cm1 cm2 hi1 hi2 hI1 hI2 hs0
  clear hm hy0 hy1 hy2 hy3 hx0 hx1' hx2 hx3' hok hM
  go_enter Try.func3, Try.ntmps3
  go_upto_region 1 with fail
  obtain ⟨W, hW⟩ : ∃ W, ((w.alloc (.cells #[.int .i64 o.k, .int .i64 o.c0, .int .i64 o.c1, .int .i64 o.c2, .int .i64 o.v0, .int .i64 o.v1, .int .i64 o.v2, .int .i64 o.v3, .int .i64 o.w0, .int .i64 o.w1, .int .i64 o.w2, .int .i64 o.w3, .int .i64 o.s0, .int .i64 o.s1, .int .i64 o.s2, .int .i64 o.s3, .int .i64 o.eta, .int .i64 o.dark] 26)).alloc (.cells #[.int .u8 (of : Int), .int .u8 (k0 : Int), .int .u8 (k1 : Int), .int .u8 (k2 : Int), .int .u8 (k3 : Int), .int .u8 (j0 : Int), .int .u8 (j1 : Int), .int .u8 (j2 : Int), .int .u8 (j3 : Int)] 29)) = W := ⟨_, rfl⟩
  rw [hW] at hb0 At0 Xt0 ⊢
  clear hW
  refine wp_region_held_drew (S := fun w' => Below W.heap.size W w') (by kernel_rfl) (Below.refl _ _).drew (fun hHeld => ?_)
  have B0 : Below W.heap.size W W.drew := (Below.refl _ _).drew
  refine wpAnyH_take (i := 0) (v := _) rfl (by kernel_rfl) (by kernel_rfl) (by kernel_rfl) (fun _ _ _ h => h) (Or.inl ⟨by rfl, load_row 26 _ rfl w.heap.size rfl 26 _ (0, 0) _ (fun w' hb => At0.out.on hb) Try.underlying26 rfl (by kernel_rfl)⟩) (by assumption) ?_
  (try simp only [Act.put, List.getElem_toArray, List.getElem_cons_succ, List.getElem_cons_zero, List.setIfInBounds_toArray, List.set_cons_zero, List.set_cons_succ])
  refine wpAnyH_take (i := 2) (v := _) rfl (by kernel_rfl) (by kernel_rfl) (by kernel_rfl) (fun _ _ _ h => h) (Or.inl ⟨by rfl, load_row 26 _ rfl w.heap.size rfl 26 _ (0, 0) _ (fun w' hb => At0.out.on hb) Try.underlying26 rfl (by kernel_rfl)⟩) (by assumption) ?_
  (try simp only [Act.put, List.getElem_toArray, List.getElem_cons_succ, List.getElem_cons_zero, List.setIfInBounds_toArray, List.set_cons_zero, List.set_cons_succ])
  refine wpAnyH_ready (rs := [1]) (by kernel_rfl) (by simp) ?_
  refine AllReadyH.cons rfl (fun K1 hK1 => ?_) AllReadyH.nil
  go_simp
  refine (c7 _).mono ?_
  rintro e v1 ⟨rfl, hx1⟩
  have B1 := below_trans B0 hx1
  go_wp2_with fail
  refine hK1.out _ _ B1 (fun hHeldN => ?_)
  clear hK1 K1
  (try simp only [Act.put, List.getElem_toArray, List.getElem_cons_succ, List.getElem_cons_zero, List.setIfInBounds_toArray, List.set_cons_zero, List.set_cons_succ])
  refine wpAnyH_ready (rs := [3]) (by kernel_rfl) (by simp) ?_
  refine AllReadyH.cons rfl (fun K1 hK1 => ?_) AllReadyH.nil
  go_simp
  refine (c8 _).mono ?_
  rintro e v2 ⟨rfl, hx3⟩
  have B2 := below_trans B1 hx3
  go_wp2_with fail
  refine hK1.out _ _ B2 (fun hHeldN => ?_)
  clear hK1 K1
  (try simp only [Act.put, List.getElem_toArray, List.getElem_cons_succ, List.getElem_cons_zero, List.setIfInBounds_toArray, List.set_cons_zero, List.set_cons_succ])
  (refine wpAnyH_take (i := 4) (v := ?_) rfl (by kernel_rfl) (by kernel_rfl) (by kernel_rfl) (fun _ _ _ h => h) (Or.inl ⟨by rfl, ?_⟩) (by assumption) ?_; rotate_left 1; (focus (intro wz hSz; (try dsimp only at hSz); go_simp; (try with_reducible rfl))); (try simp only [Act.put, List.setIfInBounds_toArray, List.set_cons_zero, List.set_cons_succ]))
  (try simp only [Act.put, List.getElem_toArray, List.getElem_cons_succ, List.getElem_cons_zero, List.setIfInBounds_toArray, List.set_cons_zero, List.set_cons_succ])
  refine wpAnyH_done (by kernel_rfl) ?_ _
  have At2 := Lib.hid (At0.out.on B2)
  have hb2 := below_trans hb0 B2
  go_wp2_with (refine wpList_load_row rfl 26 _ rfl w.heap.size rfl 26 _ (0, 0) _ At2.out Try.underlying26 rfl (by kernel_rfl) ?_)
  refine (c7 _).mono ?_
  rintro e v3 ⟨rfl, hx3⟩
  have hb3 := below_trans hb2 hx3
  have B3 := below_trans B2 hx3
  have At3 := Lib.hid (At2.out.on hx3)
  have xt3 := (B3.block (w.heap.size + 1) (Array.getElem?_eq_some_iff.1 Xt0.out).1).trans Xt0.out
  have Xt3 := Lib.hid xt3
  have z0 := cell_of_row v3 (w.heap.size + 1) 0 _ _ _ xt3
  clear xt3
  simp only [List.getElem?_toArray, List.getElem?_cons_zero] at z0
  go_upto_region 7 with fail
  rw [HMM.out]
  have hXlt : w.heap.size + 1 < v3.heap.size := World.block_lt_of_cell? _ _ z0
  obtain ⟨W7, hW7⟩ : ∃ W7, (v3.alloc (.cells #[.int .i64 0, .int .i64 0, .int .i64 0, .int .i64 0] 23)).alloc (.cells #[.int .i64 0, .int .i64 0, .int .i64 0, .int .i64 0] 23) = W7 := ⟨_, rfl⟩
  obtain ⟨bx6, bx7, bl7⟩ := boxes4 v3
  rw [hW7] at bx6 bx7 bl7 ⊢
  have hb7 := below_trans hb3 bl7
  have At7 := Lib.hid (At3.out.on bl7)
  have Xt7 := Lib.hid (row_on Xt3.out bl7)
  have s7 : v3.heap.size + 1 < W7.heap.size := World.block_lt_of_cell? _ _ bx7.1.1
  clear hW7 z0 Xt3 At3 bl7 hb3 hb0 hb2 At0 At2 Xt0 B0 B1 B2 B3 c7 c8 hx1 hx3 hHeld hHeldN
  go_wp2_with fail
  go_loopw [8] (fun nv wr => ∃ k : Nat, k ≤ 4 ∧ nv = .int .i64 k ∧ Bx wr v3.heap.size (pre k 0 y0) (pre k 1 y1) (pre k 2 y2) (pre k 3 y3) ∧ Bx wr (v3.heap.size + 1) (pre k 0 x0) (pre k 1 x1) (pre k 2 x2) (pre k 3 x3) ∧ Below v3.heap.size W7 wr) (fun nv _ => 4 - (intOf nv).toNat)
  case atStart => exact ⟨0, by omega, rfl, bx6, bx7, Below.refl _ _⟩
  case round =>
    obtain ⟨k, hk4, rfl, p6, p7, hbr⟩ := hrel
    obtain ⟨w9, rfl⟩ : ∃ w9, w9 = wr := ⟨_, rfl⟩
    rcases (show k = 0 ∨ k = 1 ∨ k = 2 ∨ k = 3 ∨ k = 4 by omega) with rfl | rfl | rfl | rfl | rfl
    · have U6 : Bx w9 v3.heap.size 0 0 0 0 := p6
      have U7 : Bx w9 (v3.heap.size + 1) 0 0 0 0 := p7
      clear p6 p7
      have p6 := Lib.hid U6
      have p7 := Lib.hid U7
      obtain ⟨⟨q0, q1, q2, q3⟩, f0, f1, f2, f3⟩ := U6
      obtain ⟨⟨r0, r1, r2, r3⟩, g0, g1, g2, g3⟩ := U7
      have yb : y0 ≤ 16 := Nat.le_trans HOK.out.k0 HOK.out.m1
      have z1 : w9.cell? ⟨w.heap.size + 1, 1, none⟩ = some (.int .u8 (k0 : Int)) := (x_cell Xt7.out hbr hXlt 1).trans rfl
      have z2 : w9.cell? ⟨w.heap.size + 1, 5, none⟩ = some (.int .u8 (j0 : Int)) := (x_cell Xt7.out hbr hXlt 5).trans rfl
      have eq1 : (k0 : Int) % ((m : Int) + 1) = (y0 : Int) := HY.out.1
      have eq2 : (j0 : Int) % ((y0 : Int) + 1) = (x0 : Int) := HX.out.1
      simp only [show ((0 : Nat) : Int) = 0 from rfl]
      go_upto_region 11 with fail
      have P6 := bx_set0 (b := v3.heap.size) p6.out (y0 : Int)
      have P7 := Bx.far (b' := v3.heap.size) p7.out (Nat.ne_of_lt (Nat.lt_succ_self _)) 0 (.int .i64 (y0 : Int))
      have b10 := hbr.setCell (p := ⟨v3.heap.size, 0, none⟩) (Nat.le_refl _) (.int .i64 (y0 : Int))
      obtain ⟨w10, hw10⟩ : ∃ w10, w9.setCell ⟨v3.heap.size, 0, none⟩ (.int .i64 (y0 : Int)) = w10 := ⟨_, rfl⟩
      rw [hw10] at P6 P7 b10 ⊢
      clear hw10 q0 q1 q2 q3 f0 f1 f2 f3 r0 r1 r2 r3 g0 g1 g2 g3 z1 z2
      have z2 : w10.cell? ⟨w.heap.size + 1, 5, none⟩ = some (.int .u8 (j0 : Int)) := (x_cell Xt7.out b10 hXlt 5).trans rfl
      have Q6 := Lib.hid P6
      have Q7 := Lib.hid P7
      obtain ⟨⟨q0, q1, q2, q3⟩, f0, f1, f2, f3⟩ := P6
      obtain ⟨⟨r0, r1, r2, r3⟩, g0, g1, g2, g3⟩ := P7
      go_region
      have P8 := Bx.far (b' := v3.heap.size + 1) Q6.out (Nat.ne_of_gt (Nat.lt_succ_self _)) 0 (.int .i64 (x0 : Int))
      have P9 := bx_set0 (b := v3.heap.size + 1) Q7.out (x0 : Int)
      have b11 := b10.setCell (p := ⟨v3.heap.size + 1, 0, none⟩) (Nat.le_succ _) (.int .i64 (x0 : Int))
      clear q0 q1 q2 q3 f0 f1 f2 f3 r0 r1 r2 r3 g0 g1 g2 g3 z2 eq1 eq2
      go_wp2_with fail
      exact ⟨⟨0 + 1, by omega, rfl, P8, P9, b11.drew⟩, by simp [intOf]⟩
    · have U6 : Bx w9 v3.heap.size (y0 : Int) 0 0 0 := p6
      have U7 : Bx w9 (v3.heap.size + 1) (x0 : Int) 0 0 0 := p7
      clear p6 p7
      have p6 := Lib.hid U6
      have p7 := Lib.hid U7
      obtain ⟨⟨q0, q1, q2, q3⟩, f0, f1, f2, f3⟩ := U6
      obtain ⟨⟨r0, r1, r2, r3⟩, g0, g1, g2, g3⟩ := U7
      have yb : y1 ≤ 16 := Nat.le_trans HOK.out.k1 HOK.out.m1
      have z1 : w9.cell? ⟨w.heap.size + 1, 2, none⟩ = some (.int .u8 (k1 : Int)) := (x_cell Xt7.out hbr hXlt 2).trans rfl
      have z2 : w9.cell? ⟨w.heap.size + 1, 6, none⟩ = some (.int .u8 (j1 : Int)) := (x_cell Xt7.out hbr hXlt 6).trans rfl
      have eq1 : (k1 : Int) % ((m : Int) + 1) = (y1 : Int) := HY.out.2.1
      have eq2 : (j1 : Int) % ((y1 : Int) + 1) = (x1 : Int) := HX.out.2.1
      simp only [show ((1 : Nat) : Int) = 1 from rfl]
      go_upto_region 11 with fail
      have P6 := bx_set1 (b := v3.heap.size) p6.out (y1 : Int)
      have P7 := Bx.far (b' := v3.heap.size) p7.out (Nat.ne_of_lt (Nat.lt_succ_self _)) 1 (.int .i64 (y1 : Int))
      have b10 := hbr.setCell (p := ⟨v3.heap.size, 1, none⟩) (Nat.le_refl _) (.int .i64 (y1 : Int))
      obtain ⟨w10, hw10⟩ : ∃ w10, w9.setCell ⟨v3.heap.size, 1, none⟩ (.int .i64 (y1 : Int)) = w10 := ⟨_, rfl⟩
      rw [hw10] at P6 P7 b10 ⊢
      clear hw10 q0 q1 q2 q3 f0 f1 f2 f3 r0 r1 r2 r3 g0 g1 g2 g3 z1 z2
      have z2 : w10.cell? ⟨w.heap.size + 1, 6, none⟩ = some (.int .u8 (j1 : Int)) := (x_cell Xt7.out b10 hXlt 6).trans rfl
      have Q6 := Lib.hid P6
      have Q7 := Lib.hid P7
      obtain ⟨⟨q0, q1, q2, q3⟩, f0, f1, f2, f3⟩ := P6
      obtain ⟨⟨r0, r1, r2, r3⟩, g0, g1, g2, g3⟩ := P7
      go_region
      have P8 := Bx.far (b' := v3.heap.size + 1) Q6.out (Nat.ne_of_gt (Nat.lt_succ_self _)) 1 (.int .i64 (x1 : Int))
      have P9 := bx_set1 (b := v3.heap.size + 1) Q7.out (x1 : Int)
      have b11 := b10.setCell (p := ⟨v3.heap.size + 1, 1, none⟩) (Nat.le_succ _) (.int .i64 (x1 : Int))
      clear q0 q1 q2 q3 f0 f1 f2 f3 r0 r1 r2 r3 g0 g1 g2 g3 z2 eq1 eq2
      go_wp2_with fail
      exact ⟨⟨1 + 1, by omega, rfl, P8, P9, b11.drew⟩, by simp [intOf]⟩
    · have U6 : Bx w9 v3.heap.size (y0 : Int) (y1 : Int) 0 0 := p6
      have U7 : Bx w9 (v3.heap.size + 1) (x0 : Int) (x1 : Int) 0 0 := p7
      clear p6 p7
      have p6 := Lib.hid U6
      have p7 := Lib.hid U7
      obtain ⟨⟨q0, q1, q2, q3⟩, f0, f1, f2, f3⟩ := U6
      obtain ⟨⟨r0, r1, r2, r3⟩, g0, g1, g2, g3⟩ := U7
      have yb : y2 ≤ 16 := Nat.le_trans HOK.out.k2 HOK.out.m1
      have z1 : w9.cell? ⟨w.heap.size + 1, 3, none⟩ = some (.int .u8 (k2 : Int)) := (x_cell Xt7.out hbr hXlt 3).trans rfl
      have z2 : w9.cell? ⟨w.heap.size + 1, 7, none⟩ = some (.int .u8 (j2 : Int)) := (x_cell Xt7.out hbr hXlt 7).trans rfl
      have eq1 : (k2 : Int) % ((m : Int) + 1) = (y2 : Int) := HY.out.2.2.1
      have eq2 : (j2 : Int) % ((y2 : Int) + 1) = (x2 : Int) := HX.out.2.2.1
      simp only [show ((2 : Nat) : Int) = 2 from rfl]
      go_upto_region 11 with fail
      have P6 := bx_set2 (b := v3.heap.size) p6.out (y2 : Int)
      have P7 := Bx.far (b' := v3.heap.size) p7.out (Nat.ne_of_lt (Nat.lt_succ_self _)) 2 (.int .i64 (y2 : Int))
      have b10 := hbr.setCell (p := ⟨v3.heap.size, 2, none⟩) (Nat.le_refl _) (.int .i64 (y2 : Int))
      obtain ⟨w10, hw10⟩ : ∃ w10, w9.setCell ⟨v3.heap.size, 2, none⟩ (.int .i64 (y2 : Int)) = w10 := ⟨_, rfl⟩
      rw [hw10] at P6 P7 b10 ⊢
      clear hw10 q0 q1 q2 q3 f0 f1 f2 f3 r0 r1 r2 r3 g0 g1 g2 g3 z1 z2
      have z2 : w10.cell? ⟨w.heap.size + 1, 7, none⟩ = some (.int .u8 (j2 : Int)) := (x_cell Xt7.out b10 hXlt 7).trans rfl
      have Q6 := Lib.hid P6
      have Q7 := Lib.hid P7
      obtain ⟨⟨q0, q1, q2, q3⟩, f0, f1, f2, f3⟩ := P6
      obtain ⟨⟨r0, r1, r2, r3⟩, g0, g1, g2, g3⟩ := P7
      go_region
      have P8 := Bx.far (b' := v3.heap.size + 1) Q6.out (Nat.ne_of_gt (Nat.lt_succ_self _)) 2 (.int .i64 (x2 : Int))
      have P9 := bx_set2 (b := v3.heap.size + 1) Q7.out (x2 : Int)
      have b11 := b10.setCell (p := ⟨v3.heap.size + 1, 2, none⟩) (Nat.le_succ _) (.int .i64 (x2 : Int))
      clear q0 q1 q2 q3 f0 f1 f2 f3 r0 r1 r2 r3 g0 g1 g2 g3 z2 eq1 eq2
      go_wp2_with fail
      exact ⟨⟨2 + 1, by omega, rfl, P8, P9, b11.drew⟩, by simp [intOf]⟩
    · have U6 : Bx w9 v3.heap.size (y0 : Int) (y1 : Int) (y2 : Int) 0 := p6
      have U7 : Bx w9 (v3.heap.size + 1) (x0 : Int) (x1 : Int) (x2 : Int) 0 := p7
      clear p6 p7
      have p6 := Lib.hid U6
      have p7 := Lib.hid U7
      obtain ⟨⟨q0, q1, q2, q3⟩, f0, f1, f2, f3⟩ := U6
      obtain ⟨⟨r0, r1, r2, r3⟩, g0, g1, g2, g3⟩ := U7
      have yb : y3 ≤ 16 := Nat.le_trans HOK.out.k3 HOK.out.m1
      have z1 : w9.cell? ⟨w.heap.size + 1, 4, none⟩ = some (.int .u8 (k3 : Int)) := (x_cell Xt7.out hbr hXlt 4).trans rfl
      have z2 : w9.cell? ⟨w.heap.size + 1, 8, none⟩ = some (.int .u8 (j3 : Int)) := (x_cell Xt7.out hbr hXlt 8).trans rfl
      have eq1 : (k3 : Int) % ((m : Int) + 1) = (y3 : Int) := HY.out.2.2.2
      have eq2 : (j3 : Int) % ((y3 : Int) + 1) = (x3 : Int) := HX.out.2.2.2
      simp only [show ((3 : Nat) : Int) = 3 from rfl]
      go_upto_region 11 with fail
      have P6 := bx_set3 (b := v3.heap.size) p6.out (y3 : Int)
      have P7 := Bx.far (b' := v3.heap.size) p7.out (Nat.ne_of_lt (Nat.lt_succ_self _)) 3 (.int .i64 (y3 : Int))
      have b10 := hbr.setCell (p := ⟨v3.heap.size, 3, none⟩) (Nat.le_refl _) (.int .i64 (y3 : Int))
      obtain ⟨w10, hw10⟩ : ∃ w10, w9.setCell ⟨v3.heap.size, 3, none⟩ (.int .i64 (y3 : Int)) = w10 := ⟨_, rfl⟩
      rw [hw10] at P6 P7 b10 ⊢
      clear hw10 q0 q1 q2 q3 f0 f1 f2 f3 r0 r1 r2 r3 g0 g1 g2 g3 z1 z2
      have z2 : w10.cell? ⟨w.heap.size + 1, 8, none⟩ = some (.int .u8 (j3 : Int)) := (x_cell Xt7.out b10 hXlt 8).trans rfl
      have Q6 := Lib.hid P6
      have Q7 := Lib.hid P7
      obtain ⟨⟨q0, q1, q2, q3⟩, f0, f1, f2, f3⟩ := P6
      obtain ⟨⟨r0, r1, r2, r3⟩, g0, g1, g2, g3⟩ := P7
      go_region
      have P8 := Bx.far (b' := v3.heap.size + 1) Q6.out (Nat.ne_of_gt (Nat.lt_succ_self _)) 3 (.int .i64 (x3 : Int))
      have P9 := bx_set3 (b := v3.heap.size + 1) Q7.out (x3 : Int)
      have b11 := b10.setCell (p := ⟨v3.heap.size + 1, 3, none⟩) (Nat.le_succ _) (.int .i64 (x3 : Int))
      clear q0 q1 q2 q3 f0 f1 f2 f3 r0 r1 r2 r3 g0 g1 g2 g3 z2 eq1 eq2
      go_wp2_with fail
      exact ⟨⟨3 + 1, by omega, rfl, P8, P9, b11.drew⟩, by simp [intOf]⟩
    · have U6 : Bx w9 v3.heap.size (y0 : Int) (y1 : Int) (y2 : Int) (y3 : Int) := p6
      have U7 : Bx w9 (v3.heap.size + 1) (x0 : Int) (x1 : Int) (x2 : Int) (x3 : Int) := p7
      clear p6 p7
      have p6 := Lib.hid U6
      have p7 := Lib.hid U7
      have At9 := Lib.hid (OptAt.onB At7.out hbr (Nat.lt_of_succ_lt hXlt))
      have hb9 := hb7.trans (hbr.mono (Nat.le_of_lt (Nat.lt_of_succ_lt hXlt)))
      clear U6 U7 hbr At7 Xt7 HY HX hXlt s7 hb7 HMM hk4
      simp only [show ((4 : Nat) : Int) = 4 from rfl]
      go_upto_region 13 with fail
      have gt : GnAt (w9.alloc (.cells #[.int .i64 0, .int .i64 0, .int .i64 0, .int .i64 0, .int .i64 0, .int .i64 0, .int .i64 0, .int .i64 0, .int .i64 0] 35)) w9.heap.size (gC o ⟨m, y0, y1, y2, y3, x0, x1, x2, x3⟩ 0) := heap_alloc_new w9 (.cells #[.int .i64 0, .int .i64 0, .int .i64 0, .int .i64 0, .int .i64 0, .int .i64 0, .int .i64 0, .int .i64 0, .int .i64 0] 35)
      have al := below_alloc (Below.refl w9.heap.size w9) (.cells #[.int .i64 0, .int .i64 0, .int .i64 0, .int .i64 0, .int .i64 0, .int .i64 0, .int .i64 0, .int .i64 0, .int .i64 0] 35)
      obtain ⟨W12, hW12⟩ : ∃ W12, w9.alloc (.cells #[.int .i64 0, .int .i64 0, .int .i64 0, .int .i64 0, .int .i64 0, .int .i64 0, .int .i64 0, .int .i64 0, .int .i64 0] 35) = W12 := ⟨_, rfl⟩
      rw [hW12] at gt al ⊢
      clear hW12
      have ACC := Lib.hid (acc_all HS.out HOK.out)
      go_wp2_with fail
      go_loopw [10] (fun cv wr => ∃ c : Nat, c ≤ 3 ∧ cv = .int .i64 c ∧ GnAt wr w9.heap.size (gC o ⟨m, y0, y1, y2, y3, x0, x1, x2, x3⟩ c) ∧ Below w9.heap.size w9 wr) (fun cv _ => 3 - (intOf cv).toNat)
      case atStart => exact ⟨0, by omega, rfl, gt, al⟩
      case round =>
        obtain ⟨c, hc3, rfl, gc, hbc⟩ := hrel
        obtain ⟨w11, rfl⟩ : ∃ w11, w11 = wr := ⟨_, rfl⟩
        rcases (show c = 0 ∨ c = 1 ∨ c = 2 ∨ c = 3 by omega) with rfl | rfl | rfl | rfl
        · have G := Lib.hid gc
          have k0 : w11.cell? ⟨w9.heap.size, 0, none⟩ = some (.int .i64 0) := gc.y0
          have f0 := gn_fr gc 0
          clear gc
          simp only [show ((0 : Nat) : Int) = 0 from rfl]
          go_upto_region 17 with fail
          have gs : GnAt (w11.setCell ⟨w9.heap.size, 0, none⟩ (.int .i64 (256 * (m : Int)))) w9.heap.size (gI o ⟨m, y0, y1, y2, y3, x0, x1, x2, x3⟩ 0 0) := gn_set G.out 0 _ rfl
          have bs := hbc.setCell (p := ⟨w9.heap.size, 0, none⟩) (Nat.le_refl _) (.int .i64 (256 * (m : Int)))
          obtain ⟨w12, hw12⟩ : ∃ w12, w11.setCell ⟨w9.heap.size, 0, none⟩ (.int .i64 (256 * (m : Int))) = w12 := ⟨_, rfl⟩
          rw [hw12] at gs bs ⊢
          clear hw12 k0 f0 G hbc
          go_wp2_with fail
          go_loopw [11] (fun nv wr => ∃ n : Nat, n ≤ 4 ∧ nv = .int .i64 n ∧ GnAt wr w9.heap.size (gI o ⟨m, y0, y1, y2, y3, x0, x1, x2, x3⟩ 0 n) ∧ Below w9.heap.size w9 wr) (fun nv _ => 4 - (intOf nv).toNat)
          case atStart => exact ⟨0, by omega, rfl, gs, bs⟩
          case round =>
            obtain ⟨n, hn4, rfl, gn, hbn⟩ := hrel
            obtain ⟨w13, rfl⟩ : ∃ w13, w13 = wr := ⟨_, rfl⟩
            rcases (show n = 0 ∨ n = 1 ∨ n = 2 ∨ n = 3 ∨ n = 4 by omega) with rfl | rfl | rfl | rfl | rfl
            · have G := Lib.hid gn
              have k1 : w13.cell? ⟨w9.heap.size, 1, none⟩ = some (.int .i64 (aV o y0 y1 y2 y3 0)) := gn.y1
              have f1 := gn_fr gn 1
              have op : w13.cell? ⟨w.heap.size, 4, none⟩ = some (.int .i64 o.v0) := (At9.out.on hbn).x4
              have yq : w13.cell? ⟨v3.heap.size, 0, none⟩ = some (.int .i64 (y0 : Int)) := (p6.out.on hbn).1.1
              have i1 := ACC.out.1.1.1.1
              have i2 := ACC.out.1.1.1.2
              clear gn
              simp only [show ((0 : Nat) : Int) = 0 from rfl]
              go_upto_region 20 with fail
              go_region
              have g14 : GnAt (w13.setCell ⟨w9.heap.size, 1, none⟩ (.int .i64 (aV o y0 y1 y2 y3 1))).drew w9.heap.size ⟨256 * (m : Int), aV o y0 y1 y2 y3 1, aV o x0 x1 x2 x3 0, 0, 0, 0, 0, 0, 0⟩ := gn_set G.out 1 _ rfl
              have b14 := (hbn.setCell (p := ⟨w9.heap.size, 1, none⟩) (Nat.le_refl _) (.int .i64 (aV o y0 y1 y2 y3 1))).drew
              obtain ⟨w14, hw14⟩ : ∃ w14, (w13.setCell ⟨w9.heap.size, 1, none⟩ (.int .i64 (aV o y0 y1 y2 y3 1))).drew = w14 := ⟨_, rfl⟩
              rw [hw14] at g14 b14 ⊢
              clear hw14 k1 f1 op yq i1 i2 G hbn
              have G := Lib.hid g14
              have k1 : w14.cell? ⟨w9.heap.size, 2, none⟩ = some (.int .i64 (aV o x0 x1 x2 x3 0)) := g14.y2
              have f1 := gn_fr g14 2
              have op : w14.cell? ⟨w.heap.size, 4, none⟩ = some (.int .i64 o.v0) := (At9.out.on b14).x4
              have yq : w14.cell? ⟨v3.heap.size + 1, 0, none⟩ = some (.int .i64 (x0 : Int)) := (p7.out.on b14).1.1
              have i1 := ACC.out.1.2.1.1
              have i2 := ACC.out.1.2.1.2
              clear g14
              go_upto_region 21 with fail
              go_region
              have g15 : GnAt (w14.setCell ⟨w9.heap.size, 2, none⟩ (.int .i64 (aV o x0 x1 x2 x3 1))).drew w9.heap.size (gI o ⟨m, y0, y1, y2, y3, x0, x1, x2, x3⟩ 0 1) := gn_set G.out 2 _ rfl
              have b15 := (b14.setCell (p := ⟨w9.heap.size, 2, none⟩) (Nat.le_refl _) (.int .i64 (aV o x0 x1 x2 x3 1))).drew
              clear k1 f1 op yq i1 i2 G
              go_wp2_with fail
              exact ⟨⟨0 + 1, by omega, rfl, g15, b15⟩, by simp [intOf]⟩
            · have G := Lib.hid gn
              have k1 : w13.cell? ⟨w9.heap.size, 1, none⟩ = some (.int .i64 (aV o y0 y1 y2 y3 1)) := gn.y1
              have f1 := gn_fr gn 1
              have op : w13.cell? ⟨w.heap.size, 5, none⟩ = some (.int .i64 o.v1) := (At9.out.on hbn).x5
              have yq : w13.cell? ⟨v3.heap.size, 1, none⟩ = some (.int .i64 (y1 : Int)) := (p6.out.on hbn).1.2.1
              have i1 := ACC.out.1.1.2.1.1
              have i2 := ACC.out.1.1.2.1.2
              clear gn
              simp only [show ((1 : Nat) : Int) = 1 from rfl]
              go_upto_region 20 with fail
              go_region
              have g14 : GnAt (w13.setCell ⟨w9.heap.size, 1, none⟩ (.int .i64 (aV o y0 y1 y2 y3 2))).drew w9.heap.size ⟨256 * (m : Int), aV o y0 y1 y2 y3 2, aV o x0 x1 x2 x3 1, 0, 0, 0, 0, 0, 0⟩ := gn_set G.out 1 _ rfl
              have b14 := (hbn.setCell (p := ⟨w9.heap.size, 1, none⟩) (Nat.le_refl _) (.int .i64 (aV o y0 y1 y2 y3 2))).drew
              obtain ⟨w14, hw14⟩ : ∃ w14, (w13.setCell ⟨w9.heap.size, 1, none⟩ (.int .i64 (aV o y0 y1 y2 y3 2))).drew = w14 := ⟨_, rfl⟩
              rw [hw14] at g14 b14 ⊢
              clear hw14 k1 f1 op yq i1 i2 G hbn
              have G := Lib.hid g14
              have k1 : w14.cell? ⟨w9.heap.size, 2, none⟩ = some (.int .i64 (aV o x0 x1 x2 x3 1)) := g14.y2
              have f1 := gn_fr g14 2
              have op : w14.cell? ⟨w.heap.size, 5, none⟩ = some (.int .i64 o.v1) := (At9.out.on b14).x5
              have yq : w14.cell? ⟨v3.heap.size + 1, 1, none⟩ = some (.int .i64 (x1 : Int)) := (p7.out.on b14).1.2.1
              have i1 := ACC.out.1.2.2.1.1
              have i2 := ACC.out.1.2.2.1.2
              clear g14
              go_upto_region 21 with fail
              go_region
              have g15 : GnAt (w14.setCell ⟨w9.heap.size, 2, none⟩ (.int .i64 (aV o x0 x1 x2 x3 2))).drew w9.heap.size (gI o ⟨m, y0, y1, y2, y3, x0, x1, x2, x3⟩ 0 2) := gn_set G.out 2 _ rfl
              have b15 := (b14.setCell (p := ⟨w9.heap.size, 2, none⟩) (Nat.le_refl _) (.int .i64 (aV o x0 x1 x2 x3 2))).drew
              clear k1 f1 op yq i1 i2 G
              go_wp2_with fail
              exact ⟨⟨1 + 1, by omega, rfl, g15, b15⟩, by simp [intOf]⟩
            · have G := Lib.hid gn
              have k1 : w13.cell? ⟨w9.heap.size, 1, none⟩ = some (.int .i64 (aV o y0 y1 y2 y3 2)) := gn.y1
              have f1 := gn_fr gn 1
              have op : w13.cell? ⟨w.heap.size, 6, none⟩ = some (.int .i64 o.v2) := (At9.out.on hbn).x6
              have yq : w13.cell? ⟨v3.heap.size, 2, none⟩ = some (.int .i64 (y2 : Int)) := (p6.out.on hbn).1.2.2.1
              have i1 := ACC.out.1.1.2.2.1.1
              have i2 := ACC.out.1.1.2.2.1.2
              clear gn
              simp only [show ((2 : Nat) : Int) = 2 from rfl]
              go_upto_region 20 with fail
              go_region
              have g14 : GnAt (w13.setCell ⟨w9.heap.size, 1, none⟩ (.int .i64 (aV o y0 y1 y2 y3 3))).drew w9.heap.size ⟨256 * (m : Int), aV o y0 y1 y2 y3 3, aV o x0 x1 x2 x3 2, 0, 0, 0, 0, 0, 0⟩ := gn_set G.out 1 _ rfl
              have b14 := (hbn.setCell (p := ⟨w9.heap.size, 1, none⟩) (Nat.le_refl _) (.int .i64 (aV o y0 y1 y2 y3 3))).drew
              obtain ⟨w14, hw14⟩ : ∃ w14, (w13.setCell ⟨w9.heap.size, 1, none⟩ (.int .i64 (aV o y0 y1 y2 y3 3))).drew = w14 := ⟨_, rfl⟩
              rw [hw14] at g14 b14 ⊢
              clear hw14 k1 f1 op yq i1 i2 G hbn
              have G := Lib.hid g14
              have k1 : w14.cell? ⟨w9.heap.size, 2, none⟩ = some (.int .i64 (aV o x0 x1 x2 x3 2)) := g14.y2
              have f1 := gn_fr g14 2
              have op : w14.cell? ⟨w.heap.size, 6, none⟩ = some (.int .i64 o.v2) := (At9.out.on b14).x6
              have yq : w14.cell? ⟨v3.heap.size + 1, 2, none⟩ = some (.int .i64 (x2 : Int)) := (p7.out.on b14).1.2.2.1
              have i1 := ACC.out.1.2.2.2.1.1
              have i2 := ACC.out.1.2.2.2.1.2
              clear g14
              go_upto_region 21 with fail
              go_region
              have g15 : GnAt (w14.setCell ⟨w9.heap.size, 2, none⟩ (.int .i64 (aV o x0 x1 x2 x3 3))).drew w9.heap.size (gI o ⟨m, y0, y1, y2, y3, x0, x1, x2, x3⟩ 0 3) := gn_set G.out 2 _ rfl
              have b15 := (b14.setCell (p := ⟨w9.heap.size, 2, none⟩) (Nat.le_refl _) (.int .i64 (aV o x0 x1 x2 x3 3))).drew
              clear k1 f1 op yq i1 i2 G
              go_wp2_with fail
              exact ⟨⟨2 + 1, by omega, rfl, g15, b15⟩, by simp [intOf]⟩
            · have G := Lib.hid gn
              have k1 : w13.cell? ⟨w9.heap.size, 1, none⟩ = some (.int .i64 (aV o y0 y1 y2 y3 3)) := gn.y1
              have f1 := gn_fr gn 1
              have op : w13.cell? ⟨w.heap.size, 7, none⟩ = some (.int .i64 o.v3) := (At9.out.on hbn).x7
              have yq : w13.cell? ⟨v3.heap.size, 3, none⟩ = some (.int .i64 (y3 : Int)) := (p6.out.on hbn).1.2.2.2
              have i1 := ACC.out.1.1.2.2.2.1
              have i2 := ACC.out.1.1.2.2.2.2
              clear gn
              simp only [show ((3 : Nat) : Int) = 3 from rfl]
              go_upto_region 20 with fail
              go_region
              have g14 : GnAt (w13.setCell ⟨w9.heap.size, 1, none⟩ (.int .i64 (aV o y0 y1 y2 y3 4))).drew w9.heap.size ⟨256 * (m : Int), aV o y0 y1 y2 y3 4, aV o x0 x1 x2 x3 3, 0, 0, 0, 0, 0, 0⟩ := gn_set G.out 1 _ rfl
              have b14 := (hbn.setCell (p := ⟨w9.heap.size, 1, none⟩) (Nat.le_refl _) (.int .i64 (aV o y0 y1 y2 y3 4))).drew
              obtain ⟨w14, hw14⟩ : ∃ w14, (w13.setCell ⟨w9.heap.size, 1, none⟩ (.int .i64 (aV o y0 y1 y2 y3 4))).drew = w14 := ⟨_, rfl⟩
              rw [hw14] at g14 b14 ⊢
              clear hw14 k1 f1 op yq i1 i2 G hbn
              have G := Lib.hid g14
              have k1 : w14.cell? ⟨w9.heap.size, 2, none⟩ = some (.int .i64 (aV o x0 x1 x2 x3 3)) := g14.y2
              have f1 := gn_fr g14 2
              have op : w14.cell? ⟨w.heap.size, 7, none⟩ = some (.int .i64 o.v3) := (At9.out.on b14).x7
              have yq : w14.cell? ⟨v3.heap.size + 1, 3, none⟩ = some (.int .i64 (x3 : Int)) := (p7.out.on b14).1.2.2.2
              have i1 := ACC.out.1.2.2.2.2.1
              have i2 := ACC.out.1.2.2.2.2.2
              clear g14
              go_upto_region 21 with fail
              go_region
              have g15 : GnAt (w14.setCell ⟨w9.heap.size, 2, none⟩ (.int .i64 (aV o x0 x1 x2 x3 4))).drew w9.heap.size (gI o ⟨m, y0, y1, y2, y3, x0, x1, x2, x3⟩ 0 4) := gn_set G.out 2 _ rfl
              have b15 := (b14.setCell (p := ⟨w9.heap.size, 2, none⟩) (Nat.le_refl _) (.int .i64 (aV o x0 x1 x2 x3 4))).drew
              clear k1 f1 op yq i1 i2 G
              go_wp2_with fail
              exact ⟨⟨3 + 1, by omega, rfl, g15, b15⟩, by simp [intOf]⟩
            · simp only [show ((4 : Nat) : Int) = 4 from rfl]
              go_wp2_with fail
              exact ⟨⟨0 + 1, by omega, rfl, gn, hbn⟩, by simp [intOf]⟩
        · have G := Lib.hid gc
          have k0 : w11.cell? ⟨w9.heap.size, 3, none⟩ = some (.int .i64 0) := gc.y3
          have f0 := gn_fr gc 3
          clear gc
          simp only [show ((1 : Nat) : Int) = 1 from rfl]
          go_upto_region 17 with fail
          have gs : GnAt (w11.setCell ⟨w9.heap.size, 3, none⟩ (.int .i64 (256 * (m : Int)))) w9.heap.size (gI o ⟨m, y0, y1, y2, y3, x0, x1, x2, x3⟩ 1 0) := gn_set G.out 3 _ rfl
          have bs := hbc.setCell (p := ⟨w9.heap.size, 3, none⟩) (Nat.le_refl _) (.int .i64 (256 * (m : Int)))
          obtain ⟨w12, hw12⟩ : ∃ w12, w11.setCell ⟨w9.heap.size, 3, none⟩ (.int .i64 (256 * (m : Int))) = w12 := ⟨_, rfl⟩
          rw [hw12] at gs bs ⊢
          clear hw12 k0 f0 G hbc
          go_wp2_with fail
          go_loopw [11] (fun nv wr => ∃ n : Nat, n ≤ 4 ∧ nv = .int .i64 n ∧ GnAt wr w9.heap.size (gI o ⟨m, y0, y1, y2, y3, x0, x1, x2, x3⟩ 1 n) ∧ Below w9.heap.size w9 wr) (fun nv _ => 4 - (intOf nv).toNat)
          case atStart => exact ⟨0, by omega, rfl, gs, bs⟩
          case round =>
            obtain ⟨n, hn4, rfl, gn, hbn⟩ := hrel
            obtain ⟨w13, rfl⟩ : ∃ w13, w13 = wr := ⟨_, rfl⟩
            rcases (show n = 0 ∨ n = 1 ∨ n = 2 ∨ n = 3 ∨ n = 4 by omega) with rfl | rfl | rfl | rfl | rfl
            · have G := Lib.hid gn
              have k1 : w13.cell? ⟨w9.heap.size, 4, none⟩ = some (.int .i64 (aW o y0 y1 y2 y3 0)) := gn.y4
              have f1 := gn_fr gn 4
              have op : w13.cell? ⟨w.heap.size, 8, none⟩ = some (.int .i64 o.w0) := (At9.out.on hbn).x8
              have yq : w13.cell? ⟨v3.heap.size, 0, none⟩ = some (.int .i64 (y0 : Int)) := (p6.out.on hbn).1.1
              have i1 := ACC.out.2.1.1.1.1
              have i2 := ACC.out.2.1.1.1.2
              clear gn
              simp only [show ((0 : Nat) : Int) = 0 from rfl]
              go_upto_region 20 with fail
              go_region
              have g14 : GnAt (w13.setCell ⟨w9.heap.size, 4, none⟩ (.int .i64 (aW o y0 y1 y2 y3 1))).drew w9.heap.size ⟨256 * (m : Int), aV o y0 y1 y2 y3 4, aV o x0 x1 x2 x3 4, 256 * (m : Int), aW o y0 y1 y2 y3 1, aW o x0 x1 x2 x3 0, 0, 0, 0⟩ := gn_set G.out 4 _ rfl
              have b14 := (hbn.setCell (p := ⟨w9.heap.size, 4, none⟩) (Nat.le_refl _) (.int .i64 (aW o y0 y1 y2 y3 1))).drew
              obtain ⟨w14, hw14⟩ : ∃ w14, (w13.setCell ⟨w9.heap.size, 4, none⟩ (.int .i64 (aW o y0 y1 y2 y3 1))).drew = w14 := ⟨_, rfl⟩
              rw [hw14] at g14 b14 ⊢
              clear hw14 k1 f1 op yq i1 i2 G hbn
              have G := Lib.hid g14
              have k1 : w14.cell? ⟨w9.heap.size, 5, none⟩ = some (.int .i64 (aW o x0 x1 x2 x3 0)) := g14.y5
              have f1 := gn_fr g14 5
              have op : w14.cell? ⟨w.heap.size, 8, none⟩ = some (.int .i64 o.w0) := (At9.out.on b14).x8
              have yq : w14.cell? ⟨v3.heap.size + 1, 0, none⟩ = some (.int .i64 (x0 : Int)) := (p7.out.on b14).1.1
              have i1 := ACC.out.2.1.2.1.1
              have i2 := ACC.out.2.1.2.1.2
              clear g14
              go_upto_region 21 with fail
              go_region
              have g15 : GnAt (w14.setCell ⟨w9.heap.size, 5, none⟩ (.int .i64 (aW o x0 x1 x2 x3 1))).drew w9.heap.size (gI o ⟨m, y0, y1, y2, y3, x0, x1, x2, x3⟩ 1 1) := gn_set G.out 5 _ rfl
              have b15 := (b14.setCell (p := ⟨w9.heap.size, 5, none⟩) (Nat.le_refl _) (.int .i64 (aW o x0 x1 x2 x3 1))).drew
              clear k1 f1 op yq i1 i2 G
              go_wp2_with fail
              exact ⟨⟨0 + 1, by omega, rfl, g15, b15⟩, by simp [intOf]⟩
            · have G := Lib.hid gn
              have k1 : w13.cell? ⟨w9.heap.size, 4, none⟩ = some (.int .i64 (aW o y0 y1 y2 y3 1)) := gn.y4
              have f1 := gn_fr gn 4
              have op : w13.cell? ⟨w.heap.size, 9, none⟩ = some (.int .i64 o.w1) := (At9.out.on hbn).x9
              have yq : w13.cell? ⟨v3.heap.size, 1, none⟩ = some (.int .i64 (y1 : Int)) := (p6.out.on hbn).1.2.1
              have i1 := ACC.out.2.1.1.2.1.1
              have i2 := ACC.out.2.1.1.2.1.2
              clear gn
              simp only [show ((1 : Nat) : Int) = 1 from rfl]
              go_upto_region 20 with fail
              go_region
              have g14 : GnAt (w13.setCell ⟨w9.heap.size, 4, none⟩ (.int .i64 (aW o y0 y1 y2 y3 2))).drew w9.heap.size ⟨256 * (m : Int), aV o y0 y1 y2 y3 4, aV o x0 x1 x2 x3 4, 256 * (m : Int), aW o y0 y1 y2 y3 2, aW o x0 x1 x2 x3 1, 0, 0, 0⟩ := gn_set G.out 4 _ rfl
              have b14 := (hbn.setCell (p := ⟨w9.heap.size, 4, none⟩) (Nat.le_refl _) (.int .i64 (aW o y0 y1 y2 y3 2))).drew
              obtain ⟨w14, hw14⟩ : ∃ w14, (w13.setCell ⟨w9.heap.size, 4, none⟩ (.int .i64 (aW o y0 y1 y2 y3 2))).drew = w14 := ⟨_, rfl⟩
              rw [hw14] at g14 b14 ⊢
              clear hw14 k1 f1 op yq i1 i2 G hbn
              have G := Lib.hid g14
              have k1 : w14.cell? ⟨w9.heap.size, 5, none⟩ = some (.int .i64 (aW o x0 x1 x2 x3 1)) := g14.y5
              have f1 := gn_fr g14 5
              have op : w14.cell? ⟨w.heap.size, 9, none⟩ = some (.int .i64 o.w1) := (At9.out.on b14).x9
              have yq : w14.cell? ⟨v3.heap.size + 1, 1, none⟩ = some (.int .i64 (x1 : Int)) := (p7.out.on b14).1.2.1
              have i1 := ACC.out.2.1.2.2.1.1
              have i2 := ACC.out.2.1.2.2.1.2
              clear g14
              go_upto_region 21 with fail
              go_region
              have g15 : GnAt (w14.setCell ⟨w9.heap.size, 5, none⟩ (.int .i64 (aW o x0 x1 x2 x3 2))).drew w9.heap.size (gI o ⟨m, y0, y1, y2, y3, x0, x1, x2, x3⟩ 1 2) := gn_set G.out 5 _ rfl
              have b15 := (b14.setCell (p := ⟨w9.heap.size, 5, none⟩) (Nat.le_refl _) (.int .i64 (aW o x0 x1 x2 x3 2))).drew
              clear k1 f1 op yq i1 i2 G
              go_wp2_with fail
              exact ⟨⟨1 + 1, by omega, rfl, g15, b15⟩, by simp [intOf]⟩
            · have G := Lib.hid gn
              have k1 : w13.cell? ⟨w9.heap.size, 4, none⟩ = some (.int .i64 (aW o y0 y1 y2 y3 2)) := gn.y4
              have f1 := gn_fr gn 4
              have op : w13.cell? ⟨w.heap.size, 10, none⟩ = some (.int .i64 o.w2) := (At9.out.on hbn).x10
              have yq : w13.cell? ⟨v3.heap.size, 2, none⟩ = some (.int .i64 (y2 : Int)) := (p6.out.on hbn).1.2.2.1
              have i1 := ACC.out.2.1.1.2.2.1.1
              have i2 := ACC.out.2.1.1.2.2.1.2
              clear gn
              simp only [show ((2 : Nat) : Int) = 2 from rfl]
              go_upto_region 20 with fail
              go_region
              have g14 : GnAt (w13.setCell ⟨w9.heap.size, 4, none⟩ (.int .i64 (aW o y0 y1 y2 y3 3))).drew w9.heap.size ⟨256 * (m : Int), aV o y0 y1 y2 y3 4, aV o x0 x1 x2 x3 4, 256 * (m : Int), aW o y0 y1 y2 y3 3, aW o x0 x1 x2 x3 2, 0, 0, 0⟩ := gn_set G.out 4 _ rfl
              have b14 := (hbn.setCell (p := ⟨w9.heap.size, 4, none⟩) (Nat.le_refl _) (.int .i64 (aW o y0 y1 y2 y3 3))).drew
              obtain ⟨w14, hw14⟩ : ∃ w14, (w13.setCell ⟨w9.heap.size, 4, none⟩ (.int .i64 (aW o y0 y1 y2 y3 3))).drew = w14 := ⟨_, rfl⟩
              rw [hw14] at g14 b14 ⊢
              clear hw14 k1 f1 op yq i1 i2 G hbn
              have G := Lib.hid g14
              have k1 : w14.cell? ⟨w9.heap.size, 5, none⟩ = some (.int .i64 (aW o x0 x1 x2 x3 2)) := g14.y5
              have f1 := gn_fr g14 5
              have op : w14.cell? ⟨w.heap.size, 10, none⟩ = some (.int .i64 o.w2) := (At9.out.on b14).x10
              have yq : w14.cell? ⟨v3.heap.size + 1, 2, none⟩ = some (.int .i64 (x2 : Int)) := (p7.out.on b14).1.2.2.1
              have i1 := ACC.out.2.1.2.2.2.1.1
              have i2 := ACC.out.2.1.2.2.2.1.2
              clear g14
              go_upto_region 21 with fail
              go_region
              have g15 : GnAt (w14.setCell ⟨w9.heap.size, 5, none⟩ (.int .i64 (aW o x0 x1 x2 x3 3))).drew w9.heap.size (gI o ⟨m, y0, y1, y2, y3, x0, x1, x2, x3⟩ 1 3) := gn_set G.out 5 _ rfl
              have b15 := (b14.setCell (p := ⟨w9.heap.size, 5, none⟩) (Nat.le_refl _) (.int .i64 (aW o x0 x1 x2 x3 3))).drew
              clear k1 f1 op yq i1 i2 G
              go_wp2_with fail
              exact ⟨⟨2 + 1, by omega, rfl, g15, b15⟩, by simp [intOf]⟩
            · have G := Lib.hid gn
              have k1 : w13.cell? ⟨w9.heap.size, 4, none⟩ = some (.int .i64 (aW o y0 y1 y2 y3 3)) := gn.y4
              have f1 := gn_fr gn 4
              have op : w13.cell? ⟨w.heap.size, 11, none⟩ = some (.int .i64 o.w3) := (At9.out.on hbn).x11
              have yq : w13.cell? ⟨v3.heap.size, 3, none⟩ = some (.int .i64 (y3 : Int)) := (p6.out.on hbn).1.2.2.2
              have i1 := ACC.out.2.1.1.2.2.2.1
              have i2 := ACC.out.2.1.1.2.2.2.2
              clear gn
              simp only [show ((3 : Nat) : Int) = 3 from rfl]
              go_upto_region 20 with fail
              go_region
              have g14 : GnAt (w13.setCell ⟨w9.heap.size, 4, none⟩ (.int .i64 (aW o y0 y1 y2 y3 4))).drew w9.heap.size ⟨256 * (m : Int), aV o y0 y1 y2 y3 4, aV o x0 x1 x2 x3 4, 256 * (m : Int), aW o y0 y1 y2 y3 4, aW o x0 x1 x2 x3 3, 0, 0, 0⟩ := gn_set G.out 4 _ rfl
              have b14 := (hbn.setCell (p := ⟨w9.heap.size, 4, none⟩) (Nat.le_refl _) (.int .i64 (aW o y0 y1 y2 y3 4))).drew
              obtain ⟨w14, hw14⟩ : ∃ w14, (w13.setCell ⟨w9.heap.size, 4, none⟩ (.int .i64 (aW o y0 y1 y2 y3 4))).drew = w14 := ⟨_, rfl⟩
              rw [hw14] at g14 b14 ⊢
              clear hw14 k1 f1 op yq i1 i2 G hbn
              have G := Lib.hid g14
              have k1 : w14.cell? ⟨w9.heap.size, 5, none⟩ = some (.int .i64 (aW o x0 x1 x2 x3 3)) := g14.y5
              have f1 := gn_fr g14 5
              have op : w14.cell? ⟨w.heap.size, 11, none⟩ = some (.int .i64 o.w3) := (At9.out.on b14).x11
              have yq : w14.cell? ⟨v3.heap.size + 1, 3, none⟩ = some (.int .i64 (x3 : Int)) := (p7.out.on b14).1.2.2.2
              have i1 := ACC.out.2.1.2.2.2.2.1
              have i2 := ACC.out.2.1.2.2.2.2.2
              clear g14
              go_upto_region 21 with fail
              go_region
              have g15 : GnAt (w14.setCell ⟨w9.heap.size, 5, none⟩ (.int .i64 (aW o x0 x1 x2 x3 4))).drew w9.heap.size (gI o ⟨m, y0, y1, y2, y3, x0, x1, x2, x3⟩ 1 4) := gn_set G.out 5 _ rfl
              have b15 := (b14.setCell (p := ⟨w9.heap.size, 5, none⟩) (Nat.le_refl _) (.int .i64 (aW o x0 x1 x2 x3 4))).drew
              clear k1 f1 op yq i1 i2 G
              go_wp2_with fail
              exact ⟨⟨3 + 1, by omega, rfl, g15, b15⟩, by simp [intOf]⟩
            · simp only [show ((4 : Nat) : Int) = 4 from rfl]
              go_wp2_with fail
              exact ⟨⟨1 + 1, by omega, rfl, gn, hbn⟩, by simp [intOf]⟩
        · have G := Lib.hid gc
          have k0 : w11.cell? ⟨w9.heap.size, 6, none⟩ = some (.int .i64 0) := gc.y6
          have f0 := gn_fr gc 6
          clear gc
          simp only [show ((2 : Nat) : Int) = 2 from rfl]
          go_upto_region 17 with fail
          have gs : GnAt (w11.setCell ⟨w9.heap.size, 6, none⟩ (.int .i64 (256 * (m : Int)))) w9.heap.size (gI o ⟨m, y0, y1, y2, y3, x0, x1, x2, x3⟩ 2 0) := gn_set G.out 6 _ rfl
          have bs := hbc.setCell (p := ⟨w9.heap.size, 6, none⟩) (Nat.le_refl _) (.int .i64 (256 * (m : Int)))
          obtain ⟨w12, hw12⟩ : ∃ w12, w11.setCell ⟨w9.heap.size, 6, none⟩ (.int .i64 (256 * (m : Int))) = w12 := ⟨_, rfl⟩
          rw [hw12] at gs bs ⊢
          clear hw12 k0 f0 G hbc
          go_wp2_with fail
          go_loopw [11] (fun nv wr => ∃ n : Nat, n ≤ 4 ∧ nv = .int .i64 n ∧ GnAt wr w9.heap.size (gI o ⟨m, y0, y1, y2, y3, x0, x1, x2, x3⟩ 2 n) ∧ Below w9.heap.size w9 wr) (fun nv _ => 4 - (intOf nv).toNat)
          case atStart => exact ⟨0, by omega, rfl, gs, bs⟩
          case round =>
            obtain ⟨n, hn4, rfl, gn, hbn⟩ := hrel
            obtain ⟨w13, rfl⟩ : ∃ w13, w13 = wr := ⟨_, rfl⟩
            rcases (show n = 0 ∨ n = 1 ∨ n = 2 ∨ n = 3 ∨ n = 4 by omega) with rfl | rfl | rfl | rfl | rfl
            · have G := Lib.hid gn
              have k1 : w13.cell? ⟨w9.heap.size, 7, none⟩ = some (.int .i64 (aS o y0 y1 y2 y3 0)) := gn.y7
              have f1 := gn_fr gn 7
              have op : w13.cell? ⟨w.heap.size, 12, none⟩ = some (.int .i64 o.s0) := (At9.out.on hbn).x12
              have yq : w13.cell? ⟨v3.heap.size, 0, none⟩ = some (.int .i64 (y0 : Int)) := (p6.out.on hbn).1.1
              have i1 := ACC.out.2.2.1.1.1
              have i2 := ACC.out.2.2.1.1.2
              clear gn
              simp only [show ((0 : Nat) : Int) = 0 from rfl]
              go_upto_region 20 with fail
              go_region
              have g14 : GnAt (w13.setCell ⟨w9.heap.size, 7, none⟩ (.int .i64 (aS o y0 y1 y2 y3 1))).drew w9.heap.size ⟨256 * (m : Int), aV o y0 y1 y2 y3 4, aV o x0 x1 x2 x3 4, 256 * (m : Int), aW o y0 y1 y2 y3 4, aW o x0 x1 x2 x3 4, 256 * (m : Int), aS o y0 y1 y2 y3 1, aS o x0 x1 x2 x3 0⟩ := gn_set G.out 7 _ rfl
              have b14 := (hbn.setCell (p := ⟨w9.heap.size, 7, none⟩) (Nat.le_refl _) (.int .i64 (aS o y0 y1 y2 y3 1))).drew
              obtain ⟨w14, hw14⟩ : ∃ w14, (w13.setCell ⟨w9.heap.size, 7, none⟩ (.int .i64 (aS o y0 y1 y2 y3 1))).drew = w14 := ⟨_, rfl⟩
              rw [hw14] at g14 b14 ⊢
              clear hw14 k1 f1 op yq i1 i2 G hbn
              have G := Lib.hid g14
              have k1 : w14.cell? ⟨w9.heap.size, 8, none⟩ = some (.int .i64 (aS o x0 x1 x2 x3 0)) := g14.y8
              have f1 := gn_fr g14 8
              have op : w14.cell? ⟨w.heap.size, 12, none⟩ = some (.int .i64 o.s0) := (At9.out.on b14).x12
              have yq : w14.cell? ⟨v3.heap.size + 1, 0, none⟩ = some (.int .i64 (x0 : Int)) := (p7.out.on b14).1.1
              have i1 := ACC.out.2.2.2.1.1
              have i2 := ACC.out.2.2.2.1.2
              clear g14
              go_upto_region 21 with fail
              go_region
              have g15 : GnAt (w14.setCell ⟨w9.heap.size, 8, none⟩ (.int .i64 (aS o x0 x1 x2 x3 1))).drew w9.heap.size (gI o ⟨m, y0, y1, y2, y3, x0, x1, x2, x3⟩ 2 1) := gn_set G.out 8 _ rfl
              have b15 := (b14.setCell (p := ⟨w9.heap.size, 8, none⟩) (Nat.le_refl _) (.int .i64 (aS o x0 x1 x2 x3 1))).drew
              clear k1 f1 op yq i1 i2 G
              go_wp2_with fail
              exact ⟨⟨0 + 1, by omega, rfl, g15, b15⟩, by simp [intOf]⟩
            · have G := Lib.hid gn
              have k1 : w13.cell? ⟨w9.heap.size, 7, none⟩ = some (.int .i64 (aS o y0 y1 y2 y3 1)) := gn.y7
              have f1 := gn_fr gn 7
              have op : w13.cell? ⟨w.heap.size, 13, none⟩ = some (.int .i64 o.s1) := (At9.out.on hbn).x13
              have yq : w13.cell? ⟨v3.heap.size, 1, none⟩ = some (.int .i64 (y1 : Int)) := (p6.out.on hbn).1.2.1
              have i1 := ACC.out.2.2.1.2.1.1
              have i2 := ACC.out.2.2.1.2.1.2
              clear gn
              simp only [show ((1 : Nat) : Int) = 1 from rfl]
              go_upto_region 20 with fail
              go_region
              have g14 : GnAt (w13.setCell ⟨w9.heap.size, 7, none⟩ (.int .i64 (aS o y0 y1 y2 y3 2))).drew w9.heap.size ⟨256 * (m : Int), aV o y0 y1 y2 y3 4, aV o x0 x1 x2 x3 4, 256 * (m : Int), aW o y0 y1 y2 y3 4, aW o x0 x1 x2 x3 4, 256 * (m : Int), aS o y0 y1 y2 y3 2, aS o x0 x1 x2 x3 1⟩ := gn_set G.out 7 _ rfl
              have b14 := (hbn.setCell (p := ⟨w9.heap.size, 7, none⟩) (Nat.le_refl _) (.int .i64 (aS o y0 y1 y2 y3 2))).drew
              obtain ⟨w14, hw14⟩ : ∃ w14, (w13.setCell ⟨w9.heap.size, 7, none⟩ (.int .i64 (aS o y0 y1 y2 y3 2))).drew = w14 := ⟨_, rfl⟩
              rw [hw14] at g14 b14 ⊢
              clear hw14 k1 f1 op yq i1 i2 G hbn
              have G := Lib.hid g14
              have k1 : w14.cell? ⟨w9.heap.size, 8, none⟩ = some (.int .i64 (aS o x0 x1 x2 x3 1)) := g14.y8
              have f1 := gn_fr g14 8
              have op : w14.cell? ⟨w.heap.size, 13, none⟩ = some (.int .i64 o.s1) := (At9.out.on b14).x13
              have yq : w14.cell? ⟨v3.heap.size + 1, 1, none⟩ = some (.int .i64 (x1 : Int)) := (p7.out.on b14).1.2.1
              have i1 := ACC.out.2.2.2.2.1.1
              have i2 := ACC.out.2.2.2.2.1.2
              clear g14
              go_upto_region 21 with fail
              go_region
              have g15 : GnAt (w14.setCell ⟨w9.heap.size, 8, none⟩ (.int .i64 (aS o x0 x1 x2 x3 2))).drew w9.heap.size (gI o ⟨m, y0, y1, y2, y3, x0, x1, x2, x3⟩ 2 2) := gn_set G.out 8 _ rfl
              have b15 := (b14.setCell (p := ⟨w9.heap.size, 8, none⟩) (Nat.le_refl _) (.int .i64 (aS o x0 x1 x2 x3 2))).drew
              clear k1 f1 op yq i1 i2 G
              go_wp2_with fail
              exact ⟨⟨1 + 1, by omega, rfl, g15, b15⟩, by simp [intOf]⟩
            · have G := Lib.hid gn
              have k1 : w13.cell? ⟨w9.heap.size, 7, none⟩ = some (.int .i64 (aS o y0 y1 y2 y3 2)) := gn.y7
              have f1 := gn_fr gn 7
              have op : w13.cell? ⟨w.heap.size, 14, none⟩ = some (.int .i64 o.s2) := (At9.out.on hbn).x14
              have yq : w13.cell? ⟨v3.heap.size, 2, none⟩ = some (.int .i64 (y2 : Int)) := (p6.out.on hbn).1.2.2.1
              have i1 := ACC.out.2.2.1.2.2.1.1
              have i2 := ACC.out.2.2.1.2.2.1.2
              clear gn
              simp only [show ((2 : Nat) : Int) = 2 from rfl]
              go_upto_region 20 with fail
              go_region
              have g14 : GnAt (w13.setCell ⟨w9.heap.size, 7, none⟩ (.int .i64 (aS o y0 y1 y2 y3 3))).drew w9.heap.size ⟨256 * (m : Int), aV o y0 y1 y2 y3 4, aV o x0 x1 x2 x3 4, 256 * (m : Int), aW o y0 y1 y2 y3 4, aW o x0 x1 x2 x3 4, 256 * (m : Int), aS o y0 y1 y2 y3 3, aS o x0 x1 x2 x3 2⟩ := gn_set G.out 7 _ rfl
              have b14 := (hbn.setCell (p := ⟨w9.heap.size, 7, none⟩) (Nat.le_refl _) (.int .i64 (aS o y0 y1 y2 y3 3))).drew
              obtain ⟨w14, hw14⟩ : ∃ w14, (w13.setCell ⟨w9.heap.size, 7, none⟩ (.int .i64 (aS o y0 y1 y2 y3 3))).drew = w14 := ⟨_, rfl⟩
              rw [hw14] at g14 b14 ⊢
              clear hw14 k1 f1 op yq i1 i2 G hbn
              have G := Lib.hid g14
              have k1 : w14.cell? ⟨w9.heap.size, 8, none⟩ = some (.int .i64 (aS o x0 x1 x2 x3 2)) := g14.y8
              have f1 := gn_fr g14 8
              have op : w14.cell? ⟨w.heap.size, 14, none⟩ = some (.int .i64 o.s2) := (At9.out.on b14).x14
              have yq : w14.cell? ⟨v3.heap.size + 1, 2, none⟩ = some (.int .i64 (x2 : Int)) := (p7.out.on b14).1.2.2.1
              have i1 := ACC.out.2.2.2.2.2.1.1
              have i2 := ACC.out.2.2.2.2.2.1.2
              clear g14
              go_upto_region 21 with fail
              go_region
              have g15 : GnAt (w14.setCell ⟨w9.heap.size, 8, none⟩ (.int .i64 (aS o x0 x1 x2 x3 3))).drew w9.heap.size (gI o ⟨m, y0, y1, y2, y3, x0, x1, x2, x3⟩ 2 3) := gn_set G.out 8 _ rfl
              have b15 := (b14.setCell (p := ⟨w9.heap.size, 8, none⟩) (Nat.le_refl _) (.int .i64 (aS o x0 x1 x2 x3 3))).drew
              clear k1 f1 op yq i1 i2 G
              go_wp2_with fail
              exact ⟨⟨2 + 1, by omega, rfl, g15, b15⟩, by simp [intOf]⟩
            · have G := Lib.hid gn
              have k1 : w13.cell? ⟨w9.heap.size, 7, none⟩ = some (.int .i64 (aS o y0 y1 y2 y3 3)) := gn.y7
              have f1 := gn_fr gn 7
              have op : w13.cell? ⟨w.heap.size, 15, none⟩ = some (.int .i64 o.s3) := (At9.out.on hbn).x15
              have yq : w13.cell? ⟨v3.heap.size, 3, none⟩ = some (.int .i64 (y3 : Int)) := (p6.out.on hbn).1.2.2.2
              have i1 := ACC.out.2.2.1.2.2.2.1
              have i2 := ACC.out.2.2.1.2.2.2.2
              clear gn
              simp only [show ((3 : Nat) : Int) = 3 from rfl]
              go_upto_region 20 with fail
              go_region
              have g14 : GnAt (w13.setCell ⟨w9.heap.size, 7, none⟩ (.int .i64 (aS o y0 y1 y2 y3 4))).drew w9.heap.size ⟨256 * (m : Int), aV o y0 y1 y2 y3 4, aV o x0 x1 x2 x3 4, 256 * (m : Int), aW o y0 y1 y2 y3 4, aW o x0 x1 x2 x3 4, 256 * (m : Int), aS o y0 y1 y2 y3 4, aS o x0 x1 x2 x3 3⟩ := gn_set G.out 7 _ rfl
              have b14 := (hbn.setCell (p := ⟨w9.heap.size, 7, none⟩) (Nat.le_refl _) (.int .i64 (aS o y0 y1 y2 y3 4))).drew
              obtain ⟨w14, hw14⟩ : ∃ w14, (w13.setCell ⟨w9.heap.size, 7, none⟩ (.int .i64 (aS o y0 y1 y2 y3 4))).drew = w14 := ⟨_, rfl⟩
              rw [hw14] at g14 b14 ⊢
              clear hw14 k1 f1 op yq i1 i2 G hbn
              have G := Lib.hid g14
              have k1 : w14.cell? ⟨w9.heap.size, 8, none⟩ = some (.int .i64 (aS o x0 x1 x2 x3 3)) := g14.y8
              have f1 := gn_fr g14 8
              have op : w14.cell? ⟨w.heap.size, 15, none⟩ = some (.int .i64 o.s3) := (At9.out.on b14).x15
              have yq : w14.cell? ⟨v3.heap.size + 1, 3, none⟩ = some (.int .i64 (x3 : Int)) := (p7.out.on b14).1.2.2.2
              have i1 := ACC.out.2.2.2.2.2.2.1
              have i2 := ACC.out.2.2.2.2.2.2.2
              clear g14
              go_upto_region 21 with fail
              go_region
              have g15 : GnAt (w14.setCell ⟨w9.heap.size, 8, none⟩ (.int .i64 (aS o x0 x1 x2 x3 4))).drew w9.heap.size (gI o ⟨m, y0, y1, y2, y3, x0, x1, x2, x3⟩ 2 4) := gn_set G.out 8 _ rfl
              have b15 := (b14.setCell (p := ⟨w9.heap.size, 8, none⟩) (Nat.le_refl _) (.int .i64 (aS o x0 x1 x2 x3 4))).drew
              clear k1 f1 op yq i1 i2 G
              go_wp2_with fail
              exact ⟨⟨3 + 1, by omega, rfl, g15, b15⟩, by simp [intOf]⟩
            · simp only [show ((4 : Nat) : Int) = 4 from rfl]
              go_wp2_with fail
              exact ⟨⟨2 + 1, by omega, rfl, gn, hbn⟩, by simp [intOf]⟩
        · simp only [show ((3 : Nat) : Int) = 3 from rfl]
          have Gt := Lib.hid (gC_end o ⟨m, y0, y1, y2, y3, x0, x1, x2, x3⟩ ▸ gc)
          have At := Lib.hid (At9.out.on hbc)
          have hbz := below_trans hb9 hbc
          have p8 := Lib.hid (p6.out.on hbc)
          have p9 := Lib.hid (p7.out.on hbc)
          clear gc hbc hb9 At9 p6 p7 ACC hc3
          go_upto_region 22 with fail
          go_wp2_with (first | (refine wpList_load_row rfl 26 _ rfl w.heap.size rfl 26 _ (0, 0) _ At.out Try.underlying26 rfl (by kernel_rfl) ?_) | (refine wpList_load_row rfl 35 _ rfl w9.heap.size rfl 35 _ (0, 0) _ Gt.out Try.underlying35 rfl (by kernel_rfl) ?_))
          refine (CY.out _).mono ?_
          rintro e u1 ⟨z1, z2, rfl, b1, b2, hx⟩
          obtain ⟨A1, a1', rfl, n1⟩ := b1.nt
          obtain ⟨B1', d1, rfl, m1⟩ := b2.nt
          have gq := gq_new u1 n1 m1 39
          have hz := below_alloc hx (.cells #[.slice A1 (limbs N).length a1', .slice B1' (limbs D).length d1] 39)
          clear n1 m1 b1 b2 hx
          go_upto_region 23 with fail
          obtain ⟨u2, hu⟩ : ∃ u2, u1.alloc (.cells #[.slice A1 (limbs N).length a1', .slice B1' (limbs D).length d1] 39) = u2 := ⟨_, rfl⟩
          rw [hu] at gq hz ⊢
          have hbz2 := below_trans hbz hz
          have At2 := Lib.hid (At.out.on hz); have Gt2 := Lib.hid (Gt.out.on hz)
          have p10 := Lib.hid (p8.out.on hz); have p11 := Lib.hid (p9.out.on hz)
          have G1 := Lib.hid gq
          clear hu gq hz At Gt hbz p8 p9
          go_wp2_with (first | (refine wpList_load_row rfl 26 _ rfl w.heap.size rfl 26 _ (0, 0) _ At2.out Try.underlying26 rfl (by kernel_rfl) ?_) | (refine wpList_load_row rfl 35 _ rfl w9.heap.size rfl 35 _ (0, 0) _ Gt2.out Try.underlying35 rfl (by kernel_rfl) ?_))
          refine (CF.out _).mono ?_
          rintro e u3 ⟨z1, z2, rfl, b1, b2, hx⟩
          obtain ⟨A2, a2', rfl, n1⟩ := b1.nt
          obtain ⟨B2', d2, rfl, m1⟩ := b2.nt
          have gq := gq_new u3 n1 m1 39
          have hz := below_alloc hx (.cells #[.slice A2 (limbs M).length a2', .slice B2' (limbs F).length d2] 39)
          clear n1 m1 b1 b2 hx
          go_upto_region 26 with fail
          obtain ⟨u4, hu⟩ : ∃ u4, u3.alloc (.cells #[.slice A2 (limbs M).length a2', .slice B2' (limbs F).length d2] 39) = u4 := ⟨_, rfl⟩
          rw [hu] at gq hz ⊢
          have hbz4 := below_trans hbz2 hz
          have p12 := Lib.hid (p10.out.on hz); have p13 := Lib.hid (p11.out.on hz)
          have G2 := Lib.hid gq
          have G3 := Lib.hid (G1.out.on hz)
          clear hu gq hz At2 Gt2 hbz2 p10 p11 G1 CY CF
          go_cut [13, 16] (fun va vb wx => va = .int .i64 0 ∧ vb = .int .i64 I1 ∧ Below u4.heap.size u4 wx)
          case first =>
            have L0 := fun w' (hb : Below u4.heap.size u4 w') => (G3.out.on hb).1.1
            have L1 := fun w' (hb : Below u4.heap.size u4 w') => (G3.out.on hb).1.2
            have L2 := fun w' (hb : Below u4.heap.size u4 w') => (p12.out.on hb).1.2.1
            refine wp_region_held_drew (S := fun w' => Below u4.heap.size u4 w') (by kernel_rfl) (Below.refl _ _).drew (fun hHeld => ?_)
            have B0 : Below u4.heap.size u4 u4.drew := (Below.refl _ _).drew
            (refine wpAnyH_take (i := 0) (v := ?_) rfl (by kernel_rfl) (by kernel_rfl) (by kernel_rfl) (fun _ _ _ h => h) (Or.inl ⟨by rfl, ?_⟩) (by assumption) ?_; rotate_left 1; (focus (intro wz hSz; (try dsimp only at hSz); go_simp; (try with_reducible rfl))); (try simp only [Act.put, List.setIfInBounds_toArray, List.set_cons_zero, List.set_cons_succ]))
            (try simp only [Act.put, List.getElem_toArray, List.getElem_cons_succ, List.getElem_cons_zero, List.setIfInBounds_toArray, List.set_cons_zero, List.set_cons_succ])
            (refine wpAnyH_take (i := 1) (v := ?_) rfl (by kernel_rfl) (by kernel_rfl) (by kernel_rfl) (fun _ _ _ h => h) (Or.inl ⟨by rfl, ?_⟩) (by assumption) ?_; rotate_left 1; (focus (intro wz hSz; (try dsimp only at hSz); go_simp; (try with_reducible rfl))); (try simp only [Act.put, List.setIfInBounds_toArray, List.set_cons_zero, List.set_cons_succ]))
            (try simp only [Act.put, List.getElem_toArray, List.getElem_cons_succ, List.getElem_cons_zero, List.setIfInBounds_toArray, List.set_cons_zero, List.set_cons_succ])
            (refine wpAnyH_take (i := 2) (v := ?_) rfl (by kernel_rfl) (by kernel_rfl) (by kernel_rfl) (fun _ _ _ h => h) (Or.inl ⟨by rfl, ?_⟩) (by assumption) ?_; rotate_left 1; (focus (intro wz hSz; (try dsimp only at hSz); go_simp; (try with_reducible rfl))); (try simp only [Act.put, List.setIfInBounds_toArray, List.set_cons_zero, List.set_cons_succ]))
            (try simp only [Act.put, List.getElem_toArray, List.getElem_cons_succ, List.getElem_cons_zero, List.setIfInBounds_toArray, List.set_cons_zero, List.set_cons_succ])
            (refine wpAnyH_take (i := 3) (v := ?_) rfl (by kernel_rfl) (by kernel_rfl) (by kernel_rfl) (fun _ _ _ h => h) (Or.inl ⟨by rfl, ?_⟩) (by assumption) ?_; rotate_left 1; (focus (intro wz hSz; (try dsimp only at hSz); go_simp; (try with_reducible rfl))); (try simp only [Act.put, List.setIfInBounds_toArray, List.set_cons_zero, List.set_cons_succ]))
            (try simp only [Act.put, List.getElem_toArray, List.getElem_cons_succ, List.getElem_cons_zero, List.setIfInBounds_toArray, List.set_cons_zero, List.set_cons_succ])
            (refine wpAnyH_take (i := 5) (v := ?_) rfl (by kernel_rfl) (by kernel_rfl) (by kernel_rfl) (fun _ _ _ h => h) (Or.inl ⟨by rfl, ?_⟩) (by assumption) ?_; rotate_left 1; (focus (intro wz hSz; (try dsimp only at hSz); go_simp; (try with_reducible rfl))); (try simp only [Act.put, List.setIfInBounds_toArray, List.set_cons_zero, List.set_cons_succ]))
            (try simp only [Act.put, List.getElem_toArray, List.getElem_cons_succ, List.getElem_cons_zero, List.setIfInBounds_toArray, List.set_cons_zero, List.set_cons_succ])
            (refine wpAnyH_take (i := 6) (v := ?_) rfl (by kernel_rfl) (by kernel_rfl) (by kernel_rfl) (fun _ _ _ h => h) (Or.inl ⟨by rfl, ?_⟩) (by assumption) ?_; rotate_left 1; (focus (intro wz hSz; (try dsimp only at hSz); go_simp; (try with_reducible rfl))); (try simp only [Act.put, List.setIfInBounds_toArray, List.set_cons_zero, List.set_cons_succ]))
            (try simp only [Act.put, List.getElem_toArray, List.getElem_cons_succ, List.getElem_cons_zero, List.setIfInBounds_toArray, List.set_cons_zero, List.set_cons_succ])
            refine wpAnyH_ready (rs := [4]) (by kernel_rfl) (by simp) ?_
            refine AllReadyH.cons rfl (fun K1 hK1 => ?_) AllReadyH.nil
            go_simp
            refine (cOY _).mono ?_
            rintro e t1 ⟨vv, rfl, bb, hx1⟩
            obtain ⟨A5, a5, rfl, n5⟩ := bb.nt
            have B5 := below_trans B0 hx1
            clear bb
            go_wp2_with fail
            refine hK1.out _ _ B5 (fun hHeldN => ?_)
            clear hK1 K1
            (try simp only [Act.put, List.getElem_toArray, List.getElem_cons_succ, List.getElem_cons_zero, List.setIfInBounds_toArray, List.set_cons_zero, List.set_cons_succ])
            refine wpAnyH_ready (rs := [7]) (by kernel_rfl) (by simp) ?_
            refine AllReadyH.cons rfl (fun K1 hK1 => ?_) AllReadyH.nil
            go_simp
            refine (cOm _).mono ?_
            rintro e t2 ⟨vv, rfl, bb, hx2⟩
            obtain ⟨A6, a6, rfl, n6⟩ := bb.nt
            have B6 := below_trans B5 hx2
            clear bb
            go_wp2_with fail
            refine hK1.out _ _ B6 (fun hHeldN => ?_)
            clear hK1 K1
            (try simp only [Act.put, List.getElem_toArray, List.getElem_cons_succ, List.getElem_cons_zero, List.setIfInBounds_toArray, List.set_cons_zero, List.set_cons_succ])
            (refine wpAnyH_take (i := 8) (v := ?_) rfl (by kernel_rfl) (by kernel_rfl) (by kernel_rfl) (fun _ _ _ h => h) (Or.inl ⟨by rfl, ?_⟩) (by assumption) ?_; rotate_left 1; (focus (intro wz hSz; (try dsimp only at hSz); go_simp; (try with_reducible rfl))); (try simp only [Act.put, List.setIfInBounds_toArray, List.set_cons_zero, List.set_cons_succ]))
            (try simp only [Act.put, List.getElem_toArray, List.getElem_cons_succ, List.getElem_cons_zero, List.setIfInBounds_toArray, List.set_cons_zero, List.set_cons_succ])
            refine wpAnyH_ready (rs := [9]) (by kernel_rfl) (by simp) ?_
            refine AllReadyH.cons rfl (fun K1 hK1 => ?_) AllReadyH.nil
            go_simp
            refine (CM1.out t2 A1 a1' B1' d1 A5 a5 A6 a6 (G3.out.on B6).2.1 (G3.out.on B6).2.2 (n5.on hx2) n6).mono ?_
            rintro e t4 ⟨rfl, hx4⟩
            have B7 := below_trans B6 hx4
            go_wp2_with fail
            refine hK1.out _ _ B7 (fun hHeldN => ?_)
            clear hK1 K1
            (try simp only [Act.put, List.getElem_toArray, List.getElem_cons_succ, List.getElem_cons_zero, List.setIfInBounds_toArray, List.set_cons_zero, List.set_cons_succ])
            (refine wpAnyH_take (i := 10) (v := ?_) rfl (by kernel_rfl) (by kernel_rfl) (by kernel_rfl) (fun _ _ _ h => h) (Or.inl ⟨by rfl, ?_⟩) (by assumption) ?_; rotate_left 1; (focus (intro wz hSz; (try dsimp only at hSz); go_simp; (try with_reducible rfl))); (try simp only [Act.put, List.setIfInBounds_toArray, List.set_cons_zero, List.set_cons_succ]))
            (try simp only [Act.put, List.getElem_toArray, List.getElem_cons_succ, List.getElem_cons_zero, List.setIfInBounds_toArray, List.set_cons_zero, List.set_cons_succ])
            (refine wpAnyH_take (i := 11) (v := ?_) rfl (by kernel_rfl) (by kernel_rfl) (by kernel_rfl) (fun _ _ _ h => h) (Or.inl ⟨by rfl, ?_⟩) (by assumption) ?_; rotate_left 1; (focus (intro wz hSz; (try dsimp only at hSz); go_simp; (try with_reducible rfl))); (try simp only [Act.put, List.setIfInBounds_toArray, List.set_cons_zero, List.set_cons_succ]))
            (try simp only [Act.put, List.getElem_toArray, List.getElem_cons_succ, List.getElem_cons_zero, List.setIfInBounds_toArray, List.set_cons_zero, List.set_cons_succ])
            (refine wpAnyH_take (i := 12) (v := ?_) rfl (by kernel_rfl) (by kernel_rfl) (by kernel_rfl) (fun _ _ _ h => h) (Or.inl ⟨by rfl, ?_⟩) (by assumption) ?_; rotate_left 1; (focus (intro wz hSz; (try dsimp only at hSz); go_simp; (try with_reducible rfl))); (try simp only [Act.put, List.setIfInBounds_toArray, List.set_cons_zero, List.set_cons_succ]))
            (try simp only [Act.put, List.getElem_toArray, List.getElem_cons_succ, List.getElem_cons_zero, List.setIfInBounds_toArray, List.set_cons_zero, List.set_cons_succ])
            (refine wpAnyH_take (i := 13) (v := ?_) rfl (by kernel_rfl) (by kernel_rfl) (by kernel_rfl) (fun _ _ _ h => h) (Or.inl ⟨by rfl, ?_⟩) (by assumption) ?_; rotate_left 1; (focus (intro wz hSz; (try dsimp only at hSz); go_simp; (try with_reducible rfl))); (try simp only [Act.put, List.setIfInBounds_toArray, List.set_cons_zero, List.set_cons_succ]))
            (try simp only [Act.put, List.getElem_toArray, List.getElem_cons_succ, List.getElem_cons_zero, List.setIfInBounds_toArray, List.set_cons_zero, List.set_cons_succ])
            (refine wpAnyH_take (i := 14) (v := ?_) rfl (by kernel_rfl) (by kernel_rfl) (by kernel_rfl) (fun _ _ _ h => h) (Or.inl ⟨by rfl, ?_⟩) (by assumption) ?_; rotate_left 1; (focus (intro wz hSz; (try dsimp only at hSz); go_simp; (try with_reducible rfl))); (try simp only [Act.put, List.setIfInBounds_toArray, List.set_cons_zero, List.set_cons_succ]))
            (try simp only [Act.put, List.getElem_toArray, List.getElem_cons_succ, List.getElem_cons_zero, List.setIfInBounds_toArray, List.set_cons_zero, List.set_cons_succ])
            refine wpAnyH_done (by kernel_rfl) ?_ _
            go_wp2_with fail
            go_meet
            case rel => exact ⟨rfl, rfl, B7⟩
          obtain ⟨rfl, rfl, hz⟩ := hcut
          obtain ⟨u5, hu⟩ : ∃ u5, wc = u5 := ⟨_, rfl⟩
          rw [hu] at hz ⊢
          have hbz5 := below_trans hbz4 hz
          have p14 := Lib.hid (p13.out.on hz)
          have G4 := Lib.hid (G2.out.on hz)
          clear hu hz hbz4 p12 p13 G2 G3 CM1
          go_upto_region 27 with fail
          go_cut [15, 17] (fun va vb wx => va = .int .i64 0 ∧ vb = .int .i64 I2 ∧ Below u5.heap.size u5 wx)
          case first =>
            have L0 := fun w' (hb : Below u5.heap.size u5 w') => (G4.out.on hb).1.1
            have L1 := fun w' (hb : Below u5.heap.size u5 w') => (G4.out.on hb).1.2
            have L2 := fun w' (hb : Below u5.heap.size u5 w') => (p14.out.on hb).1.2.1
            refine wp_region_held_drew (S := fun w' => Below u5.heap.size u5 w') (by kernel_rfl) (Below.refl _ _).drew (fun hHeld => ?_)
            have B0 : Below u5.heap.size u5 u5.drew := (Below.refl _ _).drew
            (refine wpAnyH_take (i := 0) (v := ?_) rfl (by kernel_rfl) (by kernel_rfl) (by kernel_rfl) (fun _ _ _ h => h) (Or.inl ⟨by rfl, ?_⟩) (by assumption) ?_; rotate_left 1; (focus (intro wz hSz; (try dsimp only at hSz); go_simp; (try with_reducible rfl))); (try simp only [Act.put, List.setIfInBounds_toArray, List.set_cons_zero, List.set_cons_succ]))
            (try simp only [Act.put, List.getElem_toArray, List.getElem_cons_succ, List.getElem_cons_zero, List.setIfInBounds_toArray, List.set_cons_zero, List.set_cons_succ])
            (refine wpAnyH_take (i := 1) (v := ?_) rfl (by kernel_rfl) (by kernel_rfl) (by kernel_rfl) (fun _ _ _ h => h) (Or.inl ⟨by rfl, ?_⟩) (by assumption) ?_; rotate_left 1; (focus (intro wz hSz; (try dsimp only at hSz); go_simp; (try with_reducible rfl))); (try simp only [Act.put, List.setIfInBounds_toArray, List.set_cons_zero, List.set_cons_succ]))
            (try simp only [Act.put, List.getElem_toArray, List.getElem_cons_succ, List.getElem_cons_zero, List.setIfInBounds_toArray, List.set_cons_zero, List.set_cons_succ])
            (refine wpAnyH_take (i := 2) (v := ?_) rfl (by kernel_rfl) (by kernel_rfl) (by kernel_rfl) (fun _ _ _ h => h) (Or.inl ⟨by rfl, ?_⟩) (by assumption) ?_; rotate_left 1; (focus (intro wz hSz; (try dsimp only at hSz); go_simp; (try with_reducible rfl))); (try simp only [Act.put, List.setIfInBounds_toArray, List.set_cons_zero, List.set_cons_succ]))
            (try simp only [Act.put, List.getElem_toArray, List.getElem_cons_succ, List.getElem_cons_zero, List.setIfInBounds_toArray, List.set_cons_zero, List.set_cons_succ])
            (refine wpAnyH_take (i := 3) (v := ?_) rfl (by kernel_rfl) (by kernel_rfl) (by kernel_rfl) (fun _ _ _ h => h) (Or.inl ⟨by rfl, ?_⟩) (by assumption) ?_; rotate_left 1; (focus (intro wz hSz; (try dsimp only at hSz); go_simp; (try with_reducible rfl))); (try simp only [Act.put, List.setIfInBounds_toArray, List.set_cons_zero, List.set_cons_succ]))
            (try simp only [Act.put, List.getElem_toArray, List.getElem_cons_succ, List.getElem_cons_zero, List.setIfInBounds_toArray, List.set_cons_zero, List.set_cons_succ])
            (refine wpAnyH_take (i := 5) (v := ?_) rfl (by kernel_rfl) (by kernel_rfl) (by kernel_rfl) (fun _ _ _ h => h) (Or.inl ⟨by rfl, ?_⟩) (by assumption) ?_; rotate_left 1; (focus (intro wz hSz; (try dsimp only at hSz); go_simp; (try with_reducible rfl))); (try simp only [Act.put, List.setIfInBounds_toArray, List.set_cons_zero, List.set_cons_succ]))
            (try simp only [Act.put, List.getElem_toArray, List.getElem_cons_succ, List.getElem_cons_zero, List.setIfInBounds_toArray, List.set_cons_zero, List.set_cons_succ])
            (refine wpAnyH_take (i := 6) (v := ?_) rfl (by kernel_rfl) (by kernel_rfl) (by kernel_rfl) (fun _ _ _ h => h) (Or.inl ⟨by rfl, ?_⟩) (by assumption) ?_; rotate_left 1; (focus (intro wz hSz; (try dsimp only at hSz); go_simp; (try with_reducible rfl))); (try simp only [Act.put, List.setIfInBounds_toArray, List.set_cons_zero, List.set_cons_succ]))
            (try simp only [Act.put, List.getElem_toArray, List.getElem_cons_succ, List.getElem_cons_zero, List.setIfInBounds_toArray, List.set_cons_zero, List.set_cons_succ])
            refine wpAnyH_ready (rs := [4]) (by kernel_rfl) (by simp) ?_
            refine AllReadyH.cons rfl (fun K1 hK1 => ?_) AllReadyH.nil
            go_simp
            refine (cOX _).mono ?_
            rintro e t1 ⟨vv, rfl, bb, hx1⟩
            obtain ⟨A5, a5, rfl, n5⟩ := bb.nt
            have B5 := below_trans B0 hx1
            clear bb
            go_wp2_with fail
            refine hK1.out _ _ B5 (fun hHeldN => ?_)
            clear hK1 K1
            (try simp only [Act.put, List.getElem_toArray, List.getElem_cons_succ, List.getElem_cons_zero, List.setIfInBounds_toArray, List.set_cons_zero, List.set_cons_succ])
            refine wpAnyH_ready (rs := [7]) (by kernel_rfl) (by simp) ?_
            refine AllReadyH.cons rfl (fun K1 hK1 => ?_) AllReadyH.nil
            go_simp
            refine (cOm _).mono ?_
            rintro e t2 ⟨vv, rfl, bb, hx2⟩
            obtain ⟨A6, a6, rfl, n6⟩ := bb.nt
            have B6 := below_trans B5 hx2
            clear bb
            go_wp2_with fail
            refine hK1.out _ _ B6 (fun hHeldN => ?_)
            clear hK1 K1
            (try simp only [Act.put, List.getElem_toArray, List.getElem_cons_succ, List.getElem_cons_zero, List.setIfInBounds_toArray, List.set_cons_zero, List.set_cons_succ])
            (refine wpAnyH_take (i := 8) (v := ?_) rfl (by kernel_rfl) (by kernel_rfl) (by kernel_rfl) (fun _ _ _ h => h) (Or.inl ⟨by rfl, ?_⟩) (by assumption) ?_; rotate_left 1; (focus (intro wz hSz; (try dsimp only at hSz); go_simp; (try with_reducible rfl))); (try simp only [Act.put, List.setIfInBounds_toArray, List.set_cons_zero, List.set_cons_succ]))
            (try simp only [Act.put, List.getElem_toArray, List.getElem_cons_succ, List.getElem_cons_zero, List.setIfInBounds_toArray, List.set_cons_zero, List.set_cons_succ])
            refine wpAnyH_ready (rs := [9]) (by kernel_rfl) (by simp) ?_
            refine AllReadyH.cons rfl (fun K1 hK1 => ?_) AllReadyH.nil
            go_simp
            refine (CM2.out t2 A2 a2' B2' d2 A5 a5 A6 a6 (G4.out.on B6).2.1 (G4.out.on B6).2.2 (n5.on hx2) n6).mono ?_
            rintro e t4 ⟨rfl, hx4⟩
            have B7 := below_trans B6 hx4
            go_wp2_with fail
            refine hK1.out _ _ B7 (fun hHeldN => ?_)
            clear hK1 K1
            (try simp only [Act.put, List.getElem_toArray, List.getElem_cons_succ, List.getElem_cons_zero, List.setIfInBounds_toArray, List.set_cons_zero, List.set_cons_succ])
            (refine wpAnyH_take (i := 10) (v := ?_) rfl (by kernel_rfl) (by kernel_rfl) (by kernel_rfl) (fun _ _ _ h => h) (Or.inl ⟨by rfl, ?_⟩) (by assumption) ?_; rotate_left 1; (focus (intro wz hSz; (try dsimp only at hSz); go_simp; (try with_reducible rfl))); (try simp only [Act.put, List.setIfInBounds_toArray, List.set_cons_zero, List.set_cons_succ]))
            (try simp only [Act.put, List.getElem_toArray, List.getElem_cons_succ, List.getElem_cons_zero, List.setIfInBounds_toArray, List.set_cons_zero, List.set_cons_succ])
            (refine wpAnyH_take (i := 11) (v := ?_) rfl (by kernel_rfl) (by kernel_rfl) (by kernel_rfl) (fun _ _ _ h => h) (Or.inl ⟨by rfl, ?_⟩) (by assumption) ?_; rotate_left 1; (focus (intro wz hSz; (try dsimp only at hSz); go_simp; (try with_reducible rfl))); (try simp only [Act.put, List.setIfInBounds_toArray, List.set_cons_zero, List.set_cons_succ]))
            (try simp only [Act.put, List.getElem_toArray, List.getElem_cons_succ, List.getElem_cons_zero, List.setIfInBounds_toArray, List.set_cons_zero, List.set_cons_succ])
            (refine wpAnyH_take (i := 12) (v := ?_) rfl (by kernel_rfl) (by kernel_rfl) (by kernel_rfl) (fun _ _ _ h => h) (Or.inl ⟨by rfl, ?_⟩) (by assumption) ?_; rotate_left 1; (focus (intro wz hSz; (try dsimp only at hSz); go_simp; (try with_reducible rfl))); (try simp only [Act.put, List.setIfInBounds_toArray, List.set_cons_zero, List.set_cons_succ]))
            (try simp only [Act.put, List.getElem_toArray, List.getElem_cons_succ, List.getElem_cons_zero, List.setIfInBounds_toArray, List.set_cons_zero, List.set_cons_succ])
            (refine wpAnyH_take (i := 13) (v := ?_) rfl (by kernel_rfl) (by kernel_rfl) (by kernel_rfl) (fun _ _ _ h => h) (Or.inl ⟨by rfl, ?_⟩) (by assumption) ?_; rotate_left 1; (focus (intro wz hSz; (try dsimp only at hSz); go_simp; (try with_reducible rfl))); (try simp only [Act.put, List.setIfInBounds_toArray, List.set_cons_zero, List.set_cons_succ]))
            (try simp only [Act.put, List.getElem_toArray, List.getElem_cons_succ, List.getElem_cons_zero, List.setIfInBounds_toArray, List.set_cons_zero, List.set_cons_succ])
            (refine wpAnyH_take (i := 14) (v := ?_) rfl (by kernel_rfl) (by kernel_rfl) (by kernel_rfl) (fun _ _ _ h => h) (Or.inl ⟨by rfl, ?_⟩) (by assumption) ?_; rotate_left 1; (focus (intro wz hSz; (try dsimp only at hSz); go_simp; (try with_reducible rfl))); (try simp only [Act.put, List.setIfInBounds_toArray, List.set_cons_zero, List.set_cons_succ]))
            (try simp only [Act.put, List.getElem_toArray, List.getElem_cons_succ, List.getElem_cons_zero, List.setIfInBounds_toArray, List.set_cons_zero, List.set_cons_succ])
            refine wpAnyH_done (by kernel_rfl) ?_ _
            go_wp2_with fail
            go_meet
            case rel => exact ⟨rfl, rfl, B7⟩
          obtain ⟨rfl, rfl, hz⟩ := hcut
          have hbz6 := below_trans hbz5 hz
          have i1 := HI1.out
          have i2 := HI2.out
          clear hbz5 p14 G4 CM2 hz
          go_wp2_with fail
          refine (c9 _).mono ?_
          rintro e u7 ⟨rfl, hx7⟩
          have hbz7 := below_trans hbz6 hx7
          go_wp2_with fail
          go_ret
          exact ⟨rfl, hbz7⟩

end Go.Proofs.Ytbobbcfjjdmdgaa
