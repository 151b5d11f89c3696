/- Contracts of the reference's Bound for any numbers, Rate and Judge. For a fraction of at most 900000 limbs. -/
import Derived.Test.YtbobbcfjjdmdgaaRefL
import Derived.Test.YtbobbcfjjdmdgaaRefChk
namespace Go.Proofs.Ytbobbcfjjdmdgaa
open Go.RowKit
set_option linter.unusedVariables false
set_option linter.unusedSimpArgs false

end Go.Proofs.Ytbobbcfjjdmdgaa
