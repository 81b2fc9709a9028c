/- No struct type is read here. -/
import Derived.Test.YtnkagklajgimlaaGreatDoorKY
set_option linter.unusedSimpArgs false
set_option linter.unusedVariables false
namespace Go.Proofs.YtnkagklajgimlaaGreatDoor
end Go.Proofs.YtnkagklajgimlaaGreatDoor
