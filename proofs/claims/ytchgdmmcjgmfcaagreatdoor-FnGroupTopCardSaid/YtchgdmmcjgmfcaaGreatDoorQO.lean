import Derived.Test.YtchgdmmcjgmfcaaGreatDoorQA
set_option linter.unusedVariables false
set_option linter.unusedSimpArgs false
namespace Go.Proofs.YtchgdmmcjgmfcaaGreatDoor
open Go.RowKit
section
variable {Y Z : Type} (c : Y -> Y -> Option Bool)
end
section
variable {Y Z : Type} {c : Y -> Y -> Option Bool} {lt : Y -> Y -> Bool} 
structure WCompO (c:Y->Y->Option Bool) (lt:Y->Y->Bool) (d:List Y):Prop where
 cmp:∀x,x∈d->∀y,y∈d->Def (c x y) fun r=>r=lt x y
end
section
variable {Y Z : Type} {c : Y -> Y -> Option Bool} {lt : Y -> Y -> Bool} 
end
section
variable {Y Z : Type} {c : Y -> Y -> Option Bool} {lt : Y -> Y -> Bool} 
end
section
variable {Y Z : Type} {c : Y -> Y -> Option Bool} {lt : Y -> Y -> Bool} 
end
section
variable {Y Z : Type} {c : Y -> Y -> Option Bool} {lt : Y -> Y -> Bool} 
end
section
variable {Y : Type} {c : Y -> Y -> Option Bool} {lt : Y -> Y -> Bool}
end
end Go.Proofs.YtchgdmmcjgmfcaaGreatDoor
