/- Contracts of sift.checkGains and of the reference's gains. For any arrangement and gains. -/
import Derived.Test.YteoaaphjbggobaaGreatOptD
namespace Go.Proofs.YteoaaphjbggobaaGreat
open Go.RowKit
set_option linter.unusedVariables false
set_option linter.unusedSimpArgs false

/-- Gains: a what was sent, h what was heard, x what was wrong. -/
structure Gn where
  a0 : Int
  h0 : Int
  x0 : Int
  a1 : Int
  h1 : Int
  x1 : Int
  a2 : Int
  h2 : Int
  x2 : Int
def Gn.val (g : Gn) : Value := .agg #[.int .i64 g.a0, .int .i64 g.h0, .int .i64 g.x0, .int .i64 g.a1, .int .i64 g.h1, .int .i64 g.x1, .int .i64 g.a2, .int .i64 g.h2, .int .i64 g.x2]
def okG (a h x : Int) : Prop := 0 ≤ x ∧ x ≤ h ∧ h ≤ a ∧ a ≤ 4096
instance (a h x : Int) : Decidable (okG a h x) := by unfold okG; infer_instance
def allG (g : Gn) : Nat → Prop
  | 0 => True
  | 1 => okG g.a0 g.h0 g.x0
  | 2 => okG g.a0 g.h0 g.x0 ∧ okG g.a1 g.h1 g.x1
  | _ => okG g.a0 g.h0 g.x0 ∧ okG g.a1 g.h1 g.x1 ∧ okG g.a2 g.h2 g.x2
def someG (g : Gn) : Nat → Prop
  | 0 => True
  | 1 => g.a0 ≠ 0
  | 2 => g.a0 ≠ 0 ∧ g.a1 ≠ 0
  | _ => g.a0 ≠ 0 ∧ g.a1 ≠ 0 ∧ g.a2 ≠ 0
def gainsE (o : Opt) (g : Gn) : Int := if suitE o ≠ 0 then suitE o else if ¬ (okG g.a0 g.h0 g.x0 ∧ okG g.a1 g.h1 g.x1 ∧ okG g.a2 g.h2 g.x2) then 2 else if ¬ (g.a0 ≠ 0 ∧ g.a1 ≠ 0 ∧ g.a2 ≠ 0) then 9 else 0
theorem okG_no {a h x : Int} (h0 : ¬ okG a h x) : x < 0 ∨ (¬ x < 0 ∧ h < x) ∨ (¬ x < 0 ∧ ¬ h < x ∧ a < h) ∨ (¬ x < 0 ∧ ¬ h < x ∧ ¬ a < h ∧ 4096 < a) := by
  unfold okG at h0
  omega
end Go.Proofs.YteoaaphjbggobaaGreat
