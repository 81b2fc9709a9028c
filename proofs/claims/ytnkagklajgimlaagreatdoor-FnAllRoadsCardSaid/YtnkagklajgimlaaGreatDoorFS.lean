/- Plain laws: the laws' own functions over string, int, Syn, Conf, Field, Attr, Doc, Post, Entry, Seg, Hit. -/
import Derived.Test.YtnkagklajgimlaaGreatDoorQ1
import Derived.Test.YtnkagklajgimlaaGreatDoorG1
set_option linter.unusedVariables false
set_option linter.unusedSimpArgs false
namespace Go.Proofs.YtnkagklajgimlaaGreatDoor
open Go.RowKit
abbrev Wd :aJ:=.pair (.ar .str) .str
abbrev eT :Type:=(List (List UInt8))×(List UInt8)
instance asW :DecidableEq (eT):=inferInstance
abbrev gJ :aJ:=.pair (.ar .str) (.ar Wd)
abbrev aK :Type:=(List (List UInt8))×(List (eT))
instance asN :DecidableEq (aK):=inferInstance
abbrev aiC :aJ:=.pair .str .str
abbrev eo :Type:=(List UInt8)×(List UInt8)
instance asS :DecidableEq (eo):=inferInstance
abbrev aiA :aJ:=.pair .str (.int .i64)
abbrev gz :Type:=(List UInt8)×Int
instance asM :DecidableEq (gz):=inferInstance
abbrev fN :aJ:=.pair (.int .i64) (.pair (.ar aiC) (.ar aiA))
abbrev aF :Type:=Int×(List (eo))×(List (gz))
instance asP :DecidableEq ((List (eo))×(List (gz))):=inferInstance
instance asO :DecidableEq (aF):=inferInstance
abbrev EPost :Type:=Int×(List (Int))
instance asU :DecidableEq (EPost):=inferInstance
abbrev cQ :Type:=(List UInt8)×(List UInt8)×(List (EPost))
instance asR :DecidableEq ((List UInt8)×(List (EPost))):=inferInstance
instance asQ :DecidableEq (cQ):=inferInstance
abbrev cq :Type:=(List (aF))×(List (cQ))
instance asV :DecidableEq (cq):=inferInstance
abbrev zI :aJ:=.pair (.int .i64) (.int .i64)
abbrev bY :Type:=Int×Int
instance asT :DecidableEq (bY):=inferInstance
end Go.Proofs.YtnkagklajgimlaaGreatDoor
