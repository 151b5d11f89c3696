/- Contracts of exact's fit, Add, Mul, Compare. For numbers of at most 64 limbs whose result has no more. -/
import Derived.Test.YtfolgmcoggejbaaGreatNumAll
namespace Go.Proofs.YtfolgmcoggejbaaGreat
open Go.RowKit
set_option linter.unusedVariables false
set_option linter.unusedSimpArgs false

set_option maxHeartbeats 1000000 in
theorem fit_any (A : Option Addr) (c : Nat) (l : List Nat) (w : World) (h : Nt w A c l) (hl : l.length ≤ 3000000) (hf : (limbs (V l)).length ≤ 64) :
    Calls Tryz.prog 211 #[.slice A l.length c] w fun e w' => ∃ v, e = .returned (.tuple #[v, .int .i64 0]) ∧ Big w' w.heap.size v (V l) ∧ Below w.heap.size w w' := by
  go_enter Tryz.func211, Tryz.ntmps211
  go_wp2_with (go_at_call 38; refine (clone_any A c l _ h hl).mono ?_; rintro e w1 ⟨v, rfl, b1, hb1⟩; obtain ⟨A1, c1, hv, n1⟩ := b1.nt; subst hv)
  go_ret2
  exact ⟨_, rfl, b1, hb1⟩

set_option maxHeartbeats 1000000 in
theorem Compare_any (A : Option Addr) (c : Nat) (l : List Nat) (C : Option Addr) (d : Nat) (m : List Nat) (w : World) (hA : Nt w A c l) (hC : Nt w C d m) (hl : l.length ≤ 64) (hm : m.length ≤ 64) :
    Calls Tryz.prog 200 #[.slice A l.length c, .slice C m.length d] w fun e w' => e = .returned (.tuple #[.int .i64 (cmpI (V l) (V m)), .int .i64 0]) ∧ Below w.heap.size w w' := by
  have hz : long2E l m = 0 := long2E_zero.2 ⟨hl, hm⟩
  have cC := check_any A c l C d m w
  rw [hz] at cC
  have cO := order_any A c l C d m w hA.arr hC.arr hA.len hA.cap hC.len hC.cap hA.dig hC.dig
  clear hz
  go_enter Tryz.func200, Tryz.ntmps200
  go_wp2_with (first
    | (go_at_call 205; refine (cC).mono ?_; rintro e w' ⟨rfl, rfl⟩)
    | (go_at_call 153; refine cO.mono ?_; rintro e w1 ⟨rfl, hb1⟩))
  go_ret2
  exact ⟨rfl, hb1⟩

end Go.Proofs.YtfolgmcoggejbaaGreat
