/- Lays.n146 at this program, by name. -/
import Derived.Test.YtcinmmojlcchfaaGreatDoorKTab
import Derived.Test.YtcinmmojlcchfaaGreatDoorKZ
import Derived.Shelf.Strings.Split
import Derived.KernelRfl
set_option linter.unusedSimpArgs false
set_option linter.unusedVariables false
namespace Go.Proofs.YtcinmmojlcchfaaGreatDoor
open Go.RowKit Go.Shelf
end Go.Proofs.YtcinmmojlcchfaaGreatDoor
