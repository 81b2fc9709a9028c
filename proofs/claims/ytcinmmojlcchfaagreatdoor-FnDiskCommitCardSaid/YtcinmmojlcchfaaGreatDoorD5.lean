/- Plain laws: sizes and copies of an index. -/
import Derived.Test.YtcinmmojlcchfaaGreatDoorDK
set_option linter.unusedVariables false
set_option linter.unusedSimpArgs false
namespace Go.Proofs.YtcinmmojlcchfaaGreatDoor
open Go.RowKit
end Go.Proofs.YtcinmmojlcchfaaGreatDoor
