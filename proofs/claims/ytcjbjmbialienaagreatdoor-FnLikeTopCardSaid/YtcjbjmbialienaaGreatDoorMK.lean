/- Plain laws: the laws' own marks over string, int, Syn, Conf, Field, Attr, Doc, Post, Entry, Seg, Hit. (marks.py) -/
import Derived.Test.YtcjbjmbialienaaGreatDoorFS
set_option linter.unusedVariables false
set_option linter.unusedSimpArgs false
namespace Go.Proofs.YtcjbjmbialienaaGreatDoor
open Go.RowKit
end Go.Proofs.YtcjbjmbialienaaGreatDoor
