/- Contracts of the small tests and of the checks of lists: what each returns, and that nothing that lay has turned. No condition but that a list's length is an int's. -/
import Derived.Test.YthcjlfnkpmeonaaProg
import Derived.Test.YthcjlfnkpmeonaaData
namespace Go.Proofs.Ythcjlfnkpmeonaa
open Go.RowKit
set_option linter.unusedVariables false
set_option linter.unusedSimpArgs false

end Go.Proofs.Ythcjlfnkpmeonaa
