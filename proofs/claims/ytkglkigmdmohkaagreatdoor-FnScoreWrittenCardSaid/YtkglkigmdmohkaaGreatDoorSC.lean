/- Lays.n145 at this program, by name. -/
import Derived.Test.YtkglkigmdmohkaaGreatDoorKTab
import Derived.Test.YtkglkigmdmohkaaGreatDoorKZ
import Derived.Shelf.Strings.Cut
import Derived.KernelRfl
set_option linter.unusedSimpArgs false
set_option linter.unusedVariables false
namespace Go.Proofs.YtkglkigmdmohkaaGreatDoor
open Go.RowKit Go.Shelf
def jXZ :Ren where
 f:=fun x=>match x with
  |145=>84
  |220=>131
  |219=>171
  |217=>199
  |225=>200
  |224=>201
  |267=>202
  |266=>215
  |314=>216
  |n=>n
 t:=fun x=>match x with
  |9=>9
  |4=>4
  |59=>138
  |3=>3
  |5=>5
  |46=>173
  |146=>242
  |51=>203
  |n=>n
 g:=fun x=>match x with
  |1=>3
  |n=>n
theorem jYk :Lays.n145 Tryz.prog jXZ where
 mixed:=by kernel_rfl
 f145:=(Tryz.func84).trans (congrArg some (by kernel_rfl))
 f217:=(Tryz.func199).trans (congrArg some (by kernel_rfl))
 f219:=(Tryz.func171).trans (congrArg some (by kernel_rfl))
 f220:=(Tryz.func131).trans (congrArg some (by kernel_rfl))
 f224:=(Tryz.func201).trans (congrArg some (by kernel_rfl))
 f225:=(Tryz.func200).trans (congrArg some (by kernel_rfl))
 f266:=(Tryz.func215).trans (congrArg some (by kernel_rfl))
 f267:=(Tryz.func202).trans (congrArg some (by kernel_rfl))
 f314:=(Tryz.func216).trans (congrArg some (by kernel_rfl))
 t3:=Tryz.underlying3
 a3:=Tryz.isAgg3
 z3:=Tryz.sizeOf3
 v3:=Tryz.zeroValue3
 t4:=Tryz.underlying4
 a4:=Tryz.isAgg4
 z4:=Tryz.sizeOf4
 v4:=Tryz.zeroValue4
 t5:=Tryz.underlying5
 a5:=Tryz.isAgg5
 z5:=Tryz.sizeOf5
 v5:=Tryz.zeroValue5
 t9:=Tryz.underlying9
 a9:=Tryz.isAgg9
 z9:=Tryz.sizeOf9
 v9:=Tryz.zeroValue9
 t46:=Tryz.underlying173
 a46:=Tryz.isAgg173
 z46:=Tryz.sizeOf173
 v46:=Tryz.zeroValue173
 t51:=Tryz.underlying203
 a51:=Tryz.isAgg203
 z51:=Tryz.sizeOf203
 v51:=Tryz.zeroValue203
 t59:=Tryz.underlying138
 a59:=Tryz.isAgg138
 z59:=Tryz.sizeOf138
 v59:=Tryz.zeroValue138
 t146:=Tryz.underlying242
 a146:=Tryz.isAgg242
 z146:=Tryz.sizeOf242
 v146:=Tryz.zeroValue242
 g1:=by kernel_rfl
def cutM (s sep:List UInt8):Option (List UInt8×List UInt8×Bool):=if s.length<4294967281 then some (Lib.cut s sep)else none
theorem jXX :ModelOk Tryz.prog 84 ⟨⟨[.pv .str,.pv .str],[]⟩,⟨[.tup [.pv .str,.pv .str,.pv .bool]],[]⟩,fun a=>cutM a.1 a.2⟩:=
 jYr _ ⟨_,Tryz.func84,by decide,by kernel_rfl⟩ (g:=3) (by kernel_rfl) (fun s sep r hr w hm=>by
  obtain⟨v,h1,m,rfl⟩:=hm
  unfold cutM at hr
  split at hr
  case isFalse=>cases hr
  rename_i hl
  cases hr
  refine(Any.strings_Cut jYk (bytes s) (bytes sep) m w (jXD hl) h1).mono ?_
  rintro e w' ⟨rfl,n,rfl⟩
  exact⟨by simp[bytes],below_drewN (Below.refl _ _) _⟩)
end Go.Proofs.YtkglkigmdmohkaaGreatDoor
