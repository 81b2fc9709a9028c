/- slices.Compact at numbers, at this program. -/
import Derived.Test.YtchgdmmcjgmfcaaGreatDoorKTab
import Derived.Test.YtchgdmmcjgmfcaaGreatDoorKZ
import Derived.Shelf.Slices.CompactI
import Derived.KernelRfl
set_option linter.unusedSimpArgs false
set_option linter.unusedVariables false
namespace Go.Proofs.YtchgdmmcjgmfcaaGreatDoor
open Go.RowKit Go.Shelf
end Go.Proofs.YtchgdmmcjgmfcaaGreatDoor
