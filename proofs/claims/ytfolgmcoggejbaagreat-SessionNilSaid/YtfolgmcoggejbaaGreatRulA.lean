/- The rules of a channel: what makes a rule valid; the program's CheckRule. No condition. -/
import Derived.Test.YtfolgmcoggejbaaGreatOptAll
namespace Go.Proofs.YtfolgmcoggejbaaGreat
open Go.RowKit
set_option linter.unusedVariables false
set_option linter.unusedSimpArgs false

/-- A rule: its kind, first and last slot, two numbers. -/
structure Rul where
  k : Int
  f : Int
  t : Int
  a : Int
  b : Int
def Rul.enc (r : Rul) : List Value := [.int .i64 r.k, .int .i64 r.f, .int .i64 r.t, .int .i64 r.a, .int .i64 r.b]
theorem Rul.enc_len (r : Rul) : r.enc.length = 5 := rfl
def Rul.val (r : Rul) : Value := .agg #[.int .i64 r.k, .int .i64 r.f, .int .i64 r.t, .int .i64 r.a, .int .i64 r.b]
def spanB (r : Rul) : Bool := decide (0 ≤ r.f) && decide (r.f ≤ r.t) && decide (r.t < 4096)
def bitB (x : Int) : Bool := (x == 0) || (x == 1)
def ruleB (r : Rul) : Bool :=
  if r.k = 1 ∨ r.k = 2 then (r.f == 0) && (r.t == 0) && partB r.a && (r.b == 0)
  else if r.k = 3 then (r.f == 0) && (r.t == 0) && bitB r.b && decide (r.b ≤ r.a) && decide (r.a ≤ 16)
  else if r.k = 4 ∨ r.k = 6 then spanB r && partB r.a && (r.b == 0)
  else if r.k = 5 then spanB r && (r.a == 0) && (r.b == 0)
  else if r.k = 7 then spanB r && bitB r.a && bitB r.b
  else false
def ruleE (r : Rul) : Int := if ruleB r = true then 0 else 2

set_option maxHeartbeats 1000000 in
theorem ranged_any (k f t a b : Int) (w : World) : Calls Tryz.prog 238 #[.agg #[.int .i64 k, .int .i64 f, .int .i64 t, .int .i64 a, .int .i64 b]] w fun e w' => e = .returned (.bool (decide (4 ≤ k))) ∧ Below w.heap.size w w' := by
  go_enter Tryz.func238, Tryz.ntmps238
  go_wp2
  go_ret
  exact ⟨rfl, below_alloc (Below.refl _ _) _⟩

set_option maxRecDepth 100000 in
set_option maxHeartbeats 8000000 in
theorem oRule_any (r : Rul) (w : World) : Calls Tryz.prog 235 #[r.val] w fun e w' => e = .returned (.int .i64 (ruleE r)) ∧ Below w.heap.size w w' := by
  obtain ⟨k, f, t, a, b⟩ := r
  unfold Rul.val
  have cP := fun x w' => oPart_any x w'
  have cG := fun k f t a b w' => ranged_any k f t a b w'
  go_enter Tryz.func235, Tryz.ntmps235
  go_wp2_with (first
    | (go_at_call 234; refine (cP _ _).mono ?_; rintro e w' ⟨rfl, rfl⟩)
    | (go_at_call 238; refine (cG _ _ _ _ _ _).mono ?_; rintro e w1 ⟨rfl, hb1⟩; have y1 := bel_cell hb1 (new_cell (j := 1) rfl); have y2 := bel_cell hb1 (new_cell (j := 2) rfl); have q1 := below_trans (below_alloc (Below.refl w.heap.size w) _) hb1))
  all_goals (
    go_ret
    first
      | exact ⟨ret_int (by simp_all [ruleE, ruleB, spanB, bitB] <;> omega), by assumption⟩
      | exact ⟨ret_int (by simp_all [ruleE, ruleB, spanB, bitB] <;> omega), below_alloc (Below.refl _ _) _⟩)
end Go.Proofs.YtfolgmcoggejbaaGreat
