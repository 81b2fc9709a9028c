/- Plain laws: marks of files and disks. -/
import Derived.Test.YtcinmmojlcchfaaGreatDoorSF1
import Derived.Test.YtcinmmojlcchfaaGreatDoorFD
set_option linter.unusedVariables false
set_option linter.unusedSimpArgs false
namespace Go.Proofs.YtcinmmojlcchfaaGreatDoor
open Go.RowKit
end Go.Proofs.YtcinmmojlcchfaaGreatDoor
