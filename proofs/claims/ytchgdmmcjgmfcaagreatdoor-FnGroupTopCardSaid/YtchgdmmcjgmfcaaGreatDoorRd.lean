/- No struct type is read here. -/
import Derived.Test.YtchgdmmcjgmfcaaGreatDoorKY
set_option linter.unusedSimpArgs false
set_option linter.unusedVariables false
namespace Go.Proofs.YtchgdmmcjgmfcaaGreatDoor
end Go.Proofs.YtchgdmmcjgmfcaaGreatDoor
