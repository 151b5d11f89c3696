/- Contract of exact's choose. For binomials of at most 512 things. -/
import Derived.Test.YteoaaphjbggobaaNumAll
namespace Go.Proofs.Yteoaaphjbggobaa
open Go.RowKit
set_option linter.unusedVariables false
set_option linter.unusedSimpArgs false

end Go.Proofs.Yteoaaphjbggobaa
