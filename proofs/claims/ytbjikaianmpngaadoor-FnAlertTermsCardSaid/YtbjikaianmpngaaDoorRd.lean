/- No struct type is read here. -/
import Derived.Test.YtbjikaianmpngaaDoorKY
set_option linter.unusedSimpArgs false
set_option linter.unusedVariables false
namespace Go.Proofs.YtbjikaianmpngaaDoor
end Go.Proofs.YtbjikaianmpngaaDoor
