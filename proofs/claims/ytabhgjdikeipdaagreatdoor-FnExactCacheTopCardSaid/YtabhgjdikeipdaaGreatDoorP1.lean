/- Plain laws: what is drawn. -/
import Derived.Test.YtabhgjdikeipdaaGreatDoorG1
set_option linter.unusedVariables false
set_option linter.unusedSimpArgs false
namespace Go.Proofs.YtabhgjdikeipdaaGreatDoor
open Go.RowKit
end Go.Proofs.YtabhgjdikeipdaaGreatDoor
