/- Plain laws: sizes and copies of an index. -/
import Derived.Test.YtnkagklajgimlaaGreatDoorDK
set_option linter.unusedVariables false
set_option linter.unusedSimpArgs false
namespace Go.Proofs.YtnkagklajgimlaaGreatDoor
open Go.RowKit
end Go.Proofs.YtnkagklajgimlaaGreatDoor
