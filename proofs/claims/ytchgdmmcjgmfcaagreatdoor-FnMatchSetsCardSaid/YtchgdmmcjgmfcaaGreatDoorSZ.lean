/- slices.Compact at numbers, at this program. -/
import Derived.Test.YtchgdmmcjgmfcaaGreatDoorKTab
import Derived.Test.YtchgdmmcjgmfcaaGreatDoorKZ
import Derived.Shelf.Slices.CompactI
import Derived.KernelRfl
set_option linter.unusedSimpArgs false
set_option linter.unusedVariables false
namespace Go.Proofs.YtchgdmmcjgmfcaaGreatDoor
open Go.RowKit Go.Shelf
def jSp :Ren where
 f:=fun x=>match x with
  |20=>107
  |n=>n
 t:=fun x=>match x with
  |0=>0
  |3=>3
  |4=>4
  |22=>75
  |n=>n
 g:=fun n=>n
theorem jR6 :Lays2.n20 Tryz.prog jSp where
 mixed:=by kernel_rfl
 f20:=(Tryz.func107).trans (congrArg some (by kernel_rfl))
 t0:=Tryz.underlying0
 a0:=Tryz.isAgg0
 z0:=Tryz.sizeOf0
 v0:=Tryz.zeroValue0
 t3:=Tryz.underlying3
 a3:=Tryz.isAgg3
 z3:=Tryz.sizeOf3
 v3:=Tryz.zeroValue3
 t4:=Tryz.underlying4
 a4:=Tryz.isAgg4
 z4:=Tryz.sizeOf4
 v4:=Tryz.zeroValue4
 t22:=Tryz.underlying75
 a22:=Tryz.isAgg75
 z22:=Tryz.sizeOf75
 v22:=Tryz.zeroValue75
 i3:=by kernel_rfl
def jR7 (xs:List Int):Option (List Int):=some (Lib.compact xs)
theorem jSd :ModelOk Tryz.prog 107 ⟨⟨[.mtk 800000 (.int .i64) 3 false],[]⟩,⟨[.mtk 1 (.int .i64) 3 false],[]⟩,jR7⟩:=
 jSl ⟨_,Tryz.func107,by decide,by kernel_rfl⟩ _ (fun b cap zs w hH h1 h2=>Any.slices_Compact_int jR6 b 0 cap zs w hH h1 h2) (fun a cap w=>Any.slices_Compact_int_empty jR6 a cap w)
end Go.Proofs.YtchgdmmcjgmfcaaGreatDoor
