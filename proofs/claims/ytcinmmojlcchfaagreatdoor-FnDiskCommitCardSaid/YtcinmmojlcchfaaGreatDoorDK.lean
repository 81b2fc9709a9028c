/- The law FnExactDiskOpen, in plain Lean. -/
import Derived.Test.YtcinmmojlcchfaaGreatDoorSG1
import Derived.Test.YtcinmmojlcchfaaGreatDoorSF1
import Derived.Test.YtcinmmojlcchfaaGreatDoorMD
set_option linter.unusedVariables false
set_option linter.unusedSimpArgs false
namespace Go.Proofs.YtcinmmojlcchfaaGreatDoor
open Go.RowKit
end Go.Proofs.YtcinmmojlcchfaaGreatDoor
