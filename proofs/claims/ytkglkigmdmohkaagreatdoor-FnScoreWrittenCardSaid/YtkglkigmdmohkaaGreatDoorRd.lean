/- No struct type is read here. -/
import Derived.Test.YtkglkigmdmohkaaGreatDoorKY
set_option linter.unusedSimpArgs false
set_option linter.unusedVariables false
namespace Go.Proofs.YtkglkigmdmohkaaGreatDoor
end Go.Proofs.YtkglkigmdmohkaaGreatDoor
