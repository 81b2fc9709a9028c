/- How the laws' struct types are read. -/
import Derived.Test.YtcinmmojlcchfaaGreatDoorKY
set_option linter.unusedSimpArgs false
set_option linter.unusedVariables false
namespace Go.Proofs.YtcinmmojlcchfaaGreatDoor
open Go.RowKit
section
variable {H : Type} {enc : TypeId × Value -> H} {w : World} {spare : Nat -> Bool} {held : Bool}
end
end Go.Proofs.YtcinmmojlcchfaaGreatDoor
