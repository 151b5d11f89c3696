/- Contract of the reference's Bound. For any three numbers, a fraction of at most 900000 limbs. -/
import Derived.Test.YtbobbcfjjdmdgaaRefK
namespace Go.Proofs.Ytbobbcfjjdmdgaa
open Go.RowKit
set_option linter.unusedVariables false
set_option linter.unusedSimpArgs false

end Go.Proofs.Ytbobbcfjjdmdgaa
