/- Plain laws: the laws' own functions over File, Disk. -/
import Derived.Test.YtcinmmojlcchfaaGreatDoorFS
import Derived.Test.YtcinmmojlcchfaaGreatDoorSG1
set_option linter.unusedVariables false
set_option linter.unusedSimpArgs false
namespace Go.Proofs.YtcinmmojlcchfaaGreatDoor
open Go.RowKit
end Go.Proofs.YtcinmmojlcchfaaGreatDoor
