/- Contract of the reference's Enter. For lists whose length is an int's. -/
import Derived.Test.YtiphhkfmemkldaaDoorLedE
namespace Go.Proofs.YtiphhkfmemkldaaDoor
open Go.RowKit
set_option linter.unusedVariables false
set_option linter.unusedSimpArgs false

end Go.Proofs.YtiphhkfmemkldaaDoor
