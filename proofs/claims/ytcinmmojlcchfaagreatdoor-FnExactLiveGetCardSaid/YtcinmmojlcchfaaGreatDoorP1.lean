/- Plain laws: what is drawn. -/
import Derived.Test.YtcinmmojlcchfaaGreatDoorG1
set_option linter.unusedVariables false
set_option linter.unusedSimpArgs false
namespace Go.Proofs.YtcinmmojlcchfaaGreatDoor
open Go.RowKit
end Go.Proofs.YtcinmmojlcchfaaGreatDoor
