/- Plain laws: the laws' own functions over string, int, Syn, Conf. -/
import Derived.Test.YtbjikaianmpngaaDoorQ1
import Derived.Test.YtbjikaianmpngaaDoorG1
set_option linter.unusedVariables false
set_option linter.unusedSimpArgs false
namespace Go.Proofs.YtbjikaianmpngaaDoor
open Go.RowKit
abbrev TSyn :Tp:=.pair (.sl .str) .str
abbrev ESyn :Type:=(List (List UInt8))×(List UInt8)
instance decSyn :DecidableEq (ESyn):=inferInstance
abbrev TConf :Tp:=.pair (.sl .str) (.sl TSyn)
abbrev EConf :Type:=(List (List UInt8))×(List (ESyn))
instance decConf :DecidableEq (EConf):=inferInstance
end Go.Proofs.YtbjikaianmpngaaDoor
