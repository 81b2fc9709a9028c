/- Plain laws: the laws' own marks over string, int, Syn, Conf, Field, Attr, Doc, Post, Entry, Seg, Hit. (marks.py) -/
import Derived.Test.YtobfngpkemkojaaGreatDoorFS
set_option linter.unusedVariables false
set_option linter.unusedSimpArgs false
namespace Go.Proofs.YtobfngpkemkojaaGreatDoor
open Go.RowKit
end Go.Proofs.YtobfngpkemkojaaGreatDoor
