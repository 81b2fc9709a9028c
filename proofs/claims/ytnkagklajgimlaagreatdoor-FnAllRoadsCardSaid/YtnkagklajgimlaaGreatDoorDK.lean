/- The law FnExactDiskOpen, in plain Lean. -/
import Derived.Test.YtnkagklajgimlaaGreatDoorSG1
import Derived.Test.YtnkagklajgimlaaGreatDoorSF1
import Derived.Test.YtnkagklajgimlaaGreatDoorMD
set_option linter.unusedVariables false
set_option linter.unusedSimpArgs false
namespace Go.Proofs.YtnkagklajgimlaaGreatDoor
open Go.RowKit
end Go.Proofs.YtnkagklajgimlaaGreatDoor
