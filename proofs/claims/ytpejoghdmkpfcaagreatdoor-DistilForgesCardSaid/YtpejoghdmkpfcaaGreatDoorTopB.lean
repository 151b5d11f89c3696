/- Contracts of algebra's Toeplitz and of the reference's. For at most 512 bits, a result of at most 512 bits, a seed that fits. -/
import Derived.Test.YtpejoghdmkpfcaaGreatDoorTopA
namespace Go.Proofs.YtpejoghdmkpfcaaGreatDoor
open Go.RowKit
set_option linter.unusedVariables false
set_option linter.unusedSimpArgs false

end Go.Proofs.YtpejoghdmkpfcaaGreatDoor
