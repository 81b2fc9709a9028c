/- Plain laws: sizes and copies of an index. -/
import Derived.Test.YtcinmmojlcchfaaGreatDoorDK
set_option linter.unusedVariables false
set_option linter.unusedSimpArgs false
namespace Go.Proofs.YtcinmmojlcchfaaGreatDoor
open Go.RowKit
theorem fitI_of {N:Nat} (hM:Sm<N) (hN:N<=16777216) {x:EIndex} (h:okD Sm jJJ x):FitI N x:=
 ⟨hM,hN,h.1,h.2.1,fun l hl=>⟨(h.2.2 l hl).1.1.2,(h.2.2 l hl).1.1.1,(h.2.2 l hl).2.1⟩⟩
end Go.Proofs.YtcinmmojlcchfaaGreatDoor
