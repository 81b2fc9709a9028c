/- No struct type is read here. -/
import Derived.Test.YtabhgjdikeipdaaGreatDoorKY
set_option linter.unusedSimpArgs false
set_option linter.unusedVariables false
namespace Go.Proofs.YtabhgjdikeipdaaGreatDoor
end Go.Proofs.YtabhgjdikeipdaaGreatDoor
