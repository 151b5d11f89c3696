/- Contracts of the reference's digits and Text of announcements. No condition but on sizes. -/
import Derived.Test.YteoaaphjbggobaaGreatDoorProg
import Derived.Test.YteoaaphjbggobaaGreatDoorStxP
import Derived.Test.YteoaaphjbggobaaGreatDoorRise2
import Derived.BigQuiet
import Derived.Deep.QuietTactic
namespace Go.Proofs.YteoaaphjbggobaaGreatDoor
open Go.RowKit
set_option linter.unusedVariables false
set_option linter.unusedSimpArgs false

theorem below_drw (w : World) (n : Nat) : Below w.heap.size w (w.drewN n) := ⟨rfl, rfl, rfl, Nat.le_refl _, fun _ _ => rfl⟩
theorem good_sub {l : List Hrd} (h : GoodH l) (k : Nat) : GoodH (l.take k) := fun x hx => h x (List.mem_of_mem_take hx)
end Go.Proofs.YteoaaphjbggobaaGreatDoor
