/- A library function of the kit's shelf as a model: slices.Compact at numbers: a row of the caller's own is given away, and comes back shorter. -/
import Derived.Test.YtchgdmmcjgmfcaaGreatDoorKY
import Derived.Lib.SlicesCompact
import Derived.Sort.Row
set_option linter.unusedSimpArgs false
set_option linter.unusedVariables false
namespace Go.Proofs.YtchgdmmcjgmfcaaGreatDoor
open Go.RowKit Go.Sort
end Go.Proofs.YtchgdmmcjgmfcaaGreatDoor
