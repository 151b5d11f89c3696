/- A setup as data; when it is valid; contracts of the small functions of both sides' Check. -/
import Derived.Test.YtfolgmcoggejbaaGreatOptAll
import Derived.Test.YtfolgmcoggejbaaGreatExA
import Derived.Test.YtfolgmcoggejbaaGreatRfxAll
import Derived.Deep.DeepCutAuto
namespace Go.Proofs.YtfolgmcoggejbaaGreat
open Go.RowKit
set_option linter.unusedVariables false
set_option linter.unusedSimpArgs false

/-- A setup. -/
structure Stp where
  o : Opt
  slots : Int
  head : Int
  need : Int
  block : Int
  sample : Int
  eps : Frc
  lim : Frc
  passes : Int
  pblk : Int
  pseed : Nat
  width : Int
  margin : Int
  tries : Int
  seed : Nat
def Stp.cs (s : Stp) : Array Value := #[.int .i64 s.o.k, .int .i64 s.o.c0, .int .i64 s.o.c1, .int .i64 s.o.c2, .int .i64 s.o.v0, .int .i64 s.o.v1, .int .i64 s.o.v2, .int .i64 s.o.v3, .int .i64 s.o.w0, .int .i64 s.o.w1, .int .i64 s.o.w2, .int .i64 s.o.w3, .int .i64 s.o.s0, .int .i64 s.o.s1, .int .i64 s.o.s2, .int .i64 s.o.s3, .int .i64 s.o.eta, .int .i64 s.o.dark,
  .int .i64 s.slots, .int .i64 s.head, .int .i64 s.need, .int .i64 s.block, .int .i64 s.sample, .slice s.eps.A s.eps.l.length s.eps.c, .slice s.eps.C s.eps.m.length s.eps.d, .slice s.lim.A s.lim.l.length s.lim.c, .slice s.lim.C s.lim.m.length s.lim.d, .int .i64 s.passes, .int .i64 s.pblk, .int .u64 s.pseed, .int .i64 s.width, .int .i64 s.margin, .int .i64 s.tries, .int .u64 s.seed]
def Stp.val (s : Stp) : Value := .agg s.cs
structure Stp.In (s : Stp) (w : World) : Prop where
  e : s.eps.In w
  l : s.lim.In w
theorem Stp.In.on {s : Stp} {w w' : World} (h : s.In w) (hb : Below w.heap.size w w') : s.In w' := ⟨h.e.on hb, h.l.on hb⟩
def wideB (w : Int) : Bool := w == 8 || w == 16 || w == 32
def lightB (s : Stp) : Bool := optE s.o == 0 && (s.o.k != 1 || suitE s.o == 0)
def countB (s : Stp) : Bool := betwB s.slots 1 4000 && (betwB s.head 0 s.slots && (betwB s.need 0 4096 && (betwB s.block 1 512 && betwB s.sample 0 (s.block - 1))))
def planB (a b : Int) : Bool := betwB a 1 6 && betwB b 1 512
def restB (s : Stp) : Bool := planB s.passes s.pblk && (wideB s.width && (betwB s.margin 0 512 && betwB s.tries 1 100))
def fracB (s : Stp) : Bool := validE [s.lim] == 0 && (validE [s.eps] == 0 && decide (V s.eps.l < V s.eps.m))
def stpB (s : Stp) : Bool := lightB s && (countB s && (restB s && fracB s))
def stpE (s : Stp) : Int := if stpB s = true then 0 else 2

theorem ssane_any (n a b : Int) (w : World) : Calls Tryz.prog 61 #[.int .i64 n, .int .i64 a, .int .i64 b] w fun e w' => e = .returned (.bool (betwB n a b)) ∧ w = w' := by
  go_enter Tryz.func61, Tryz.ntmps61
  go_wp2
  all_goals (go_ret; exact ⟨ret_bool (by simp [betwB]; try omega), rfl⟩)
theorem wide_any (n : Int) (w : World) : Calls Tryz.prog 199 #[.int .i64 n] w fun e w' => e = .returned (.bool (wideB n)) ∧ w = w' := by
  go_enter Tryz.func199, Tryz.ntmps199
  go_wp2
  all_goals (go_ret; exact ⟨ret_bool (by simp [wideB]; try omega), rfl⟩)
def planE (a b : Int) : Int := if planB a b = true then 0 else 2
theorem plan_any (a b s : Int) (w : World) : Calls Tryz.prog 44 #[.agg #[.int .i64 a, .int .i64 b, .int .u64 s]] w fun e w' => e = .returned (.int .i64 (planE a b)) ∧ Below w.heap.size w w' := by
  go_enter Tryz.func44, Tryz.ntmps44
  go_wp2
  all_goals (go_ret; exact ⟨ret_int (by simp [planE, planB, betwB]; try omega), below_alloc (Below.refl _ _) _⟩)
end Go.Proofs.YtfolgmcoggejbaaGreat
