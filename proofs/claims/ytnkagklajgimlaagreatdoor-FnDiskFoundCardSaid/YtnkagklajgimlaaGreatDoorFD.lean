/- Plain laws: the laws' own functions over File, Disk. -/
import Derived.Test.YtnkagklajgimlaaGreatDoorFS
import Derived.Test.YtnkagklajgimlaaGreatDoorSG1
set_option linter.unusedVariables false
set_option linter.unusedSimpArgs false
namespace Go.Proofs.YtnkagklajgimlaaGreatDoor
open Go.RowKit
end Go.Proofs.YtnkagklajgimlaaGreatDoor
