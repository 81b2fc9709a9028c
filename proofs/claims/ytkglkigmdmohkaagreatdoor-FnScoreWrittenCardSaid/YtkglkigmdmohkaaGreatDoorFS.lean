/- Plain laws: the laws' own functions over string, int, Syn, Conf, Field, Attr, Doc, Post, Entry, Seg, Hit. -/
import Derived.Test.YtkglkigmdmohkaaGreatDoorQ1
import Derived.Test.YtkglkigmdmohkaaGreatDoorG1
set_option linter.unusedVariables false
set_option linter.unusedSimpArgs false
namespace Go.Proofs.YtkglkigmdmohkaaGreatDoor
open Go.RowKit
abbrev TSyn :Tp:=.pair (.sl .str) .str
abbrev ESyn :Type:=(List (List UInt8))×(List UInt8)
instance decSyn :DecidableEq (ESyn):=inferInstance
abbrev TConf :Tp:=.pair (.sl .str) (.sl TSyn)
abbrev EConf :Type:=(List (List UInt8))×(List (ESyn))
instance decConf :DecidableEq (EConf):=inferInstance
abbrev jj :Tp:=.pair .str .str
abbrev EField :Type:=(List UInt8)×(List UInt8)
instance decField :DecidableEq (EField):=inferInstance
abbrev ji :Tp:=.pair .str (.int .i64)
abbrev EAttr :Type:=(List UInt8)×Int
instance decAttr :DecidableEq (EAttr):=inferInstance
abbrev TDoc :Tp:=.pair (.int .i64) (.pair (.sl jj) (.sl ji))
abbrev EDoc :Type:=Int×(List (EField))×(List (EAttr))
instance decDoc_1 :DecidableEq ((List (EField))×(List (EAttr))):=inferInstance
instance decDoc :DecidableEq (EDoc):=inferInstance
abbrev EPost :Type:=Int×(List (Int))
instance decPost :DecidableEq (EPost):=inferInstance
abbrev EEntry :Type:=(List UInt8)×(List UInt8)×(List (EPost))
instance decEntry_1 :DecidableEq ((List UInt8)×(List (EPost))):=inferInstance
instance decEntry :DecidableEq (EEntry):=inferInstance
abbrev ESeg :Type:=(List (EDoc))×(List (EEntry))
instance decSeg :DecidableEq (ESeg):=inferInstance
abbrev EHit :Type:=Int×Int
instance decHit :DecidableEq (EHit):=inferInstance
end Go.Proofs.YtkglkigmdmohkaaGreatDoor
