/- Lays.n145 at this program, by name. -/
import Derived.Test.YtcinmmojlcchfaaGreatDoorKTab
import Derived.Test.YtcinmmojlcchfaaGreatDoorKZ
import Derived.Shelf.Strings.Cut
import Derived.KernelRfl
set_option linter.unusedSimpArgs false
set_option linter.unusedVariables false
namespace Go.Proofs.YtcinmmojlcchfaaGreatDoor
open Go.RowKit Go.Shelf
def jXZ :Ren where
 f:=fun x=>match x with
  |145=>119
  |220=>195
  |219=>242
  |217=>301
  |225=>302
  |224=>303
  |267=>304
  |266=>335
  |314=>336
  |n=>n
 t:=fun x=>match x with
  |9=>9
  |4=>4
  |59=>153
  |3=>3
  |5=>5
  |46=>200
  |146=>352
  |51=>199
  |n=>n
 g:=fun x=>match x with
  |1=>2
  |n=>n
theorem jYk :Lays.n145 Tryz.prog jXZ where
 mixed:=by kernel_rfl
 f145:=(Tryz.func119).trans (congrArg some (by kernel_rfl))
 f217:=(Tryz.func301).trans (congrArg some (by kernel_rfl))
 f219:=(Tryz.func242).trans (congrArg some (by kernel_rfl))
 f220:=(Tryz.func195).trans (congrArg some (by kernel_rfl))
 f224:=(Tryz.func303).trans (congrArg some (by kernel_rfl))
 f225:=(Tryz.func302).trans (congrArg some (by kernel_rfl))
 f266:=(Tryz.func335).trans (congrArg some (by kernel_rfl))
 f267:=(Tryz.func304).trans (congrArg some (by kernel_rfl))
 f314:=(Tryz.func336).trans (congrArg some (by kernel_rfl))
 t3:=Tryz.underlying3
 a3:=Tryz.isAgg3
 z3:=Tryz.sizeOf3
 v3:=Tryz.zeroValue3
 t4:=Tryz.underlying4
 a4:=Tryz.isAgg4
 z4:=Tryz.sizeOf4
 v4:=Tryz.zeroValue4
 t5:=Tryz.underlying5
 a5:=Tryz.isAgg5
 z5:=Tryz.sizeOf5
 v5:=Tryz.zeroValue5
 t9:=Tryz.underlying9
 a9:=Tryz.isAgg9
 z9:=Tryz.sizeOf9
 v9:=Tryz.zeroValue9
 t46:=Tryz.underlying200
 a46:=Tryz.isAgg200
 z46:=Tryz.sizeOf200
 v46:=Tryz.zeroValue200
 t51:=Tryz.underlying199
 a51:=Tryz.isAgg199
 z51:=Tryz.sizeOf199
 v51:=Tryz.zeroValue199
 t59:=Tryz.underlying153
 a59:=Tryz.isAgg153
 z59:=Tryz.sizeOf153
 v59:=Tryz.zeroValue153
 t146:=Tryz.underlying352
 a146:=Tryz.isAgg352
 z146:=Tryz.sizeOf352
 v146:=Tryz.zeroValue352
 g1:=by kernel_rfl
def cutM (s sep:List UInt8):Option (List UInt8×List UInt8×Bool):=if s.length<4294967281 then some (Lib.cut s sep)else none
theorem jXX :ModelOk Tryz.prog 119 ⟨⟨[.pv .str,.pv .str],[]⟩,⟨[.tup [.pv .str,.pv .str,.pv .bool]],[]⟩,fun a=>cutM a.1 a.2⟩:=
 jYr _ ⟨_,Tryz.func119,by decide,by kernel_rfl⟩ (g:=2) (by kernel_rfl) (fun s sep r hr w hm=>by
  obtain⟨v,h1,m,rfl⟩:=hm
  unfold cutM at hr
  split at hr
  case isFalse=>cases hr
  rename_i hl
  cases hr
  refine(Any.strings_Cut jYk (bytes s) (bytes sep) m w (jXD hl) h1).mono ?_
  rintro e w' ⟨rfl,n,rfl⟩
  exact⟨by simp[bytes],below_drewN (Below.refl _ _) _⟩)
end Go.Proofs.YtcinmmojlcchfaaGreatDoor
