/- Contract of the statement's hashes. For blocks of one length, at most 512 bits. -/
import Derived.Test.YtpejoghdmkpfcaaGreatDoorMixA
import Derived.Test.YtpejoghdmkpfcaaGreatDoorTopB
import Derived.Test.YtpejoghdmkpfcaaGreatDoorColP
namespace Go.Proofs.YtpejoghdmkpfcaaGreatDoor
open Go.RowKit
set_option linter.unusedVariables false
set_option linter.unusedSimpArgs false

end Go.Proofs.YtpejoghdmkpfcaaGreatDoor
