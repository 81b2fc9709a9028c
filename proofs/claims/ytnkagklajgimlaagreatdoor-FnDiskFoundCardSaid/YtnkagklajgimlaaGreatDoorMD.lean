/- Plain laws: marks of files and disks. -/
import Derived.Test.YtnkagklajgimlaaGreatDoorSF1
import Derived.Test.YtnkagklajgimlaaGreatDoorFD
set_option linter.unusedVariables false
set_option linter.unusedSimpArgs false
namespace Go.Proofs.YtnkagklajgimlaaGreatDoor
open Go.RowKit
end Go.Proofs.YtnkagklajgimlaaGreatDoor
