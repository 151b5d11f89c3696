/- Contracts of the checks of slots and of the reference's checks: 'heardE' and 'slotsE'. No condition but that a list's length is an int's. -/
import Derived.Test.YteoaaphjbggobaaGreatDoorRise
namespace Go.Proofs.YteoaaphjbggobaaGreatDoor
open Go.RowKit
set_option linter.unusedVariables false
set_option linter.unusedSimpArgs false

theorem checkHeard_any (A : Option Addr) (n : Nat) (l : List Hrd) (a b : Int) (w : World) (hA : Arr 2 Hrd.enc w w.heap.size A l) (hl : l.length ≤ 4611686018427387904) :
    Calls Tryz.prog 27 #[.slice A l.length n, .int .i64 a, .int .i64 b] w fun e w' => e = .returned (.int .i64 (heardE l a b)) ∧ Below w.heap.size w w' := by
  go_enter Tryz.func27, Tryz.ntmps27
  go_wp2_with (go_at_call 51; refine (risingHeard_any A n l a b _ hA hl).mono ?_; rintro e w2 ⟨rfl, hb2⟩)
  go_ret
  exact ⟨rfl, hb2⟩
end Go.Proofs.YteoaaphjbggobaaGreatDoor
