/- Plain laws: the laws' own functions over string, int, Syn, Conf, Field, Attr, Doc, Post, Entry, Seg, Hit. -/
import Derived.Test.YtnkagklajgimlaaGreatDoorQ1
import Derived.Test.YtnkagklajgimlaaGreatDoorG1
set_option linter.unusedVariables false
set_option linter.unusedSimpArgs false
namespace Go.Proofs.YtnkagklajgimlaaGreatDoor
open Go.RowKit
abbrev TI :aH:=.pair (.av .str) .str
abbrev eS :Type:=(List (List UInt8))×(List UInt8)
instance aod :DecidableEq (eS):=inferInstance
abbrev gm :aH:=.pair (.av .str) (.av TI)
abbrev aL :Type:=(List (List UInt8))×(List (eS))
instance an4 :DecidableEq (aL):=inferInstance
abbrev aff :aH:=.pair .str .str
abbrev ei :Type:=(List UInt8)×(List UInt8)
instance an9 :DecidableEq (ei):=inferInstance
abbrev afd :aH:=.pair .str (.int .i64)
abbrev gl :Type:=(List UInt8)×Int
instance an3 :DecidableEq (gl):=inferInstance
abbrev fE :aH:=.pair (.int .i64) (.pair (.av aff) (.av afd))
abbrev aC :Type:=Int×(List (ei))×(List (gl))
instance an6 :DecidableEq ((List (ei))×(List (gl))):=inferInstance
instance an5 :DecidableEq (aC):=inferInstance
abbrev EPost :Type:=Int×(List (Int))
instance aob :DecidableEq (EPost):=inferInstance
abbrev cK :Type:=(List UInt8)×(List UInt8)×(List (EPost))
instance an8 :DecidableEq ((List UInt8)×(List (EPost))):=inferInstance
instance an7 :DecidableEq (cK):=inferInstance
abbrev cB :Type:=(List (aC))×(List (cK))
instance aoc :DecidableEq (cB):=inferInstance
abbrev yw :aH:=.pair (.int .i64) (.int .i64)
abbrev dy :Type:=Int×Int
instance aoa :DecidableEq (dy):=inferInstance
end Go.Proofs.YtnkagklajgimlaaGreatDoor
