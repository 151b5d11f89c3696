/- Contracts of NewPair of both sides. For any setup and rules, and pools of at most 100000 bits. -/
import Derived.Test.YtfolgmcoggejbaaGreatSesF
import Derived.Test.YtfolgmcoggejbaaGreatRulB
namespace Go.Proofs.YtfolgmcoggejbaaGreat
open Go.RowKit
set_option linter.unusedVariables false
set_option linter.unusedSimpArgs false

/-- A pair of stations. -/
structure Par where
  s : Stp
  rules : Value
  light : Nat
  x0 : Value
  x1 : Value
  way : Value
  f0 : Value
  f1 : Value
  f2 : Value
  shift : Int
def Par.cs (x : Par) : Array Value := #[.bool true, .int .i64 x.s.o.k, .int .i64 x.s.o.c0, .int .i64 x.s.o.c1, .int .i64 x.s.o.c2, .int .i64 x.s.o.v0, .int .i64 x.s.o.v1, .int .i64 x.s.o.v2, .int .i64 x.s.o.v3, .int .i64 x.s.o.w0, .int .i64 x.s.o.w1, .int .i64 x.s.o.w2, .int .i64 x.s.o.w3, .int .i64 x.s.o.s0, .int .i64 x.s.o.s1, .int .i64 x.s.o.s2, .int .i64 x.s.o.s3, .int .i64 x.s.o.eta, .int .i64 x.s.o.dark, .int .i64 x.s.slots, .int .i64 x.s.head, .int .i64 x.s.need, .int .i64 x.s.block, .int .i64 x.s.sample, .slice x.s.eps.A x.s.eps.l.length x.s.eps.c, .slice x.s.eps.C x.s.eps.m.length x.s.eps.d, .slice x.s.lim.A x.s.lim.l.length x.s.lim.c, .slice x.s.lim.C x.s.lim.m.length x.s.lim.d, .int .i64 x.s.passes, .int .i64 x.s.pblk, .int .u64 x.s.pseed, .int .i64 x.s.width, .int .i64 x.s.margin, .int .i64 x.s.tries, .int .u64 x.s.seed, x.rules, .int .u64 x.light, x.x0, x.x1, x.way, x.f0, x.f1, x.f2, .int .i64 x.shift]
def ParAt (w : World) (b : Nat) (x : Par) : Prop := w.heap[b]? = some (.cells x.cs 104 (0, 0))
theorem ParAt.on {w w' : World} {b : Nat} {x : Par} (h : ParAt w b x) (hb : Below w.heap.size w w') : ParAt w' b x :=
  (hb.block b (Array.getElem?_eq_some_iff.1 h).1).trans h
theorem ParAt.new (w : World) (x : Par) : ParAt (w.alloc (.cells x.cs 104)) w.heap.size x := heap_alloc_new w _
theorem ParAt.c {w : World} {b : Nat} {x : Par} (h : ParAt w b x) (j : Nat) : w.cell? ⟨b, j, none⟩ = x.cs[j]? := cell_of_row w b j _ _ _ h
theorem ParAt.set {w : World} {b : Nat} {x x' : Par} (j : Nat) (v : Value) (h : ParAt w b x) (hs : x.cs.setIfInBounds j v = x'.cs) : ParAt (w.setCell ⟨b, j, none⟩ v) b x' := by
  unfold ParAt
  rw [← hs]
  exact heap_setCell_same w b j _ _ v h
theorem ParAt.fr {w : World} {b : Nat} {x : Par} (h : ParAt w b x) (j : Nat) : w.frozen? ⟨b, j, none⟩ = false := frozen_of_row w b j _ _ h
theorem StpAt.on2 {w : World} {b B j : Nat} {s : Stp} {v : Value} (h : StpAt w b s) (hb : b < B) : StpAt (w.setCell ⟨B, j, none⟩ v) b s :=
  (heap_setCell_other w ⟨B, j, none⟩ b v (by simp; omega)).trans h
def npE (s : Stp) (l : List Rul) (n : Nat) : Int := if stpE s ≠ 0 then stpE s else if rulesE l ≠ 0 then rulesE l else if 65536 < n then 4 else 0
def NpR (w w' : World) (s : Stp) (r : List Rul) (n : Nat) (e : Ending) : Prop :=
  ∃ v, e = .returned (.tuple #[v, .int .i64 (npE s r n)]) ∧ Below w.heap.size w w' ∧ (npE s r n = 0 → ∃ b, v = .pointer (some ⟨b, 0, none⟩)) ∧ (npE s r n ≠ 0 → v = .pointer none)
theorem npR_bad {w w' : World} {s : Stp} {r : List Rul} {n : Nat} {E : Int} (h : npE s r n = E) (hE : E ≠ 0) (hb : Below w.heap.size w w') : NpR w w' s r n (.returned (.tuple #[.pointer none, .int .i64 E])) :=
  ⟨_, by rw [h], hb, fun h0 => absurd (h.symm.trans h0) hE, fun _ => rfl⟩
theorem nsE_short {s : Stp} {k : Int} {n : Nat} (h : stpE s = 0) (hk : betwB k 0 1 = true) (hn : ¬ 65536 < n) : nsE s k n = 0 := by unfold nsE; rw [h, hk, if_neg hn]; rfl
theorem nsE_long {s : Stp} {k : Int} {n : Nat} (h : stpE s = 0) (hk : betwB k 0 1 = true) (hn : 65536 < n) : nsE s k n = 4 := by unfold nsE; rw [h, hk, if_pos hn]; rfl
theorem stpE_cases (s : Stp) : stpE s = 0 ∨ stpE s = 2 := by unfold stpE; split <;> simp

/-- The cells of a pair of the reference. -/
def rparCs (s : Stp) (r : Value) (light : Nat) (x0 x1 : Value) : Array Value := #[.int .i64 s.o.k, .int .i64 s.o.c0, .int .i64 s.o.c1, .int .i64 s.o.c2, .int .i64 s.o.v0, .int .i64 s.o.v1, .int .i64 s.o.v2, .int .i64 s.o.v3, .int .i64 s.o.w0, .int .i64 s.o.w1, .int .i64 s.o.w2, .int .i64 s.o.w3, .int .i64 s.o.s0, .int .i64 s.o.s1, .int .i64 s.o.s2, .int .i64 s.o.s3, .int .i64 s.o.eta, .int .i64 s.o.dark, .int .i64 s.slots, .int .i64 s.head, .int .i64 s.need, .int .i64 s.block, .int .i64 s.sample, .slice s.eps.A s.eps.l.length s.eps.c, .slice s.eps.C s.eps.m.length s.eps.d, .slice s.lim.A s.lim.l.length s.lim.c, .slice s.lim.C s.lim.m.length s.lim.d, .int .i64 s.passes, .int .i64 s.pblk, .int .u64 s.pseed, .int .i64 s.width, .int .i64 s.margin, .int .i64 s.tries, .int .u64 s.seed, r, .int .u64 light, x0, x1, .slice none 0 0, .slice none 0 0, .slice none 0 0, .slice none 0 0, .int .i64 0]
def RpR (w w' : World) (s : Stp) (r : List Rul) (n : Nat) (e : Ending) : Prop :=
  ∃ v, e = .returned (.tuple #[v, .int .i64 (npE s r n)]) ∧ Below w.heap.size w w' ∧ ∃ p, v = .pointer p
theorem rpR_of {w w' : World} {s : Stp} {r : List Rul} {n : Nat} {E : Int} {p : Option Addr} (h : npE s r n = E) (hb : Below w.heap.size w w') : RpR w w' s r n (.returned (.tuple #[.pointer p, .int .i64 E])) :=
  ⟨_, by rw [h], hb, _, rfl⟩
end Go.Proofs.YtfolgmcoggejbaaGreat
