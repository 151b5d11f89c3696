/- Contracts of exact's fit, Add, Mul, Compare. For numbers of at most 64 limbs whose result has no more. -/
import Derived.Test.YthcjlfnkpmeonaaNumAll
namespace Go.Proofs.Ythcjlfnkpmeonaa
open Go.RowKit
set_option linter.unusedVariables false
set_option linter.unusedSimpArgs false

set_option maxHeartbeats 1000000 in
theorem Compare_any (A : Option Addr) (c : Nat) (l : List Nat) (C : Option Addr) (d : Nat) (m : List Nat) (w : World) (hA : Nt w A c l) (hC : Nt w C d m) (hl : l.length ≤ 64) (hm : m.length ≤ 64) :
    Calls Try.prog 23 #[.slice A l.length c, .slice C m.length d] w fun e w' => e = .returned (.tuple #[.int .i64 (cmpI (V l) (V m)), .int .i64 0]) ∧ Below w.heap.size w w' := by
  have hz : long2E l m = 0 := long2E_zero.2 ⟨hl, hm⟩
  have cC := check_any A c l C d m w
  rw [hz] at cC
  have cO := order_any A c l C d m w hA.arr hC.arr hA.len hA.cap hC.len hC.cap hA.dig hC.dig
  clear hz
  go_enter Try.func23, Try.ntmps23
  go_wp2_with (first
    | (go_at_call 49; refine (cC).mono ?_; rintro e w' ⟨rfl, rfl⟩)
    | (go_at_call 50; refine cO.mono ?_; rintro e w1 ⟨rfl, hb1⟩))
  go_ret2
  exact ⟨rfl, hb1⟩

end Go.Proofs.Ythcjlfnkpmeonaa
