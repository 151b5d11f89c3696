/- Contracts of exact's fit, Add, Mul, Compare. For numbers of at most 64 limbs whose result has no more. -/
import Derived.Test.YtoccbcjkjcgdlaaDoorNumAll
namespace Go.Proofs.YtoccbcjkjcgdlaaDoor
open Go.RowKit
set_option linter.unusedVariables false
set_option linter.unusedSimpArgs false

end Go.Proofs.YtoccbcjkjcgdlaaDoor
