/- Lays.n145 at this program, by name. -/
import Derived.Test.YtcdcmcgdgnibmaaGreatDoorKTab
import Derived.Test.YtcdcmcgdgnibmaaGreatDoorKZ
import Derived.Shelf.Strings.Cut
import Derived.KernelRfl
set_option linter.unusedSimpArgs false
set_option linter.unusedVariables false
namespace Go.Proofs.YtcdcmcgdgnibmaaGreatDoor
open Go.RowKit Go.Shelf
def jXZ :Ren where
 f:=fun x=>match x with
  |145=>109
  |220=>181
  |219=>230
  |217=>275
  |225=>276
  |224=>277
  |267=>278
  |266=>298
  |314=>299
  |n=>n
 t:=fun x=>match x with
  |9=>9
  |4=>4
  |59=>149
  |3=>3
  |5=>5
  |46=>220
  |146=>304
  |51=>234
  |n=>n
 g:=fun x=>match x with
  |1=>3
  |n=>n
theorem jYk :Lays.n145 Tryz.prog jXZ where
 mixed:=by kernel_rfl
 f145:=(Tryz.func109).trans (congrArg some (by kernel_rfl))
 f217:=(Tryz.func275).trans (congrArg some (by kernel_rfl))
 f219:=(Tryz.func230).trans (congrArg some (by kernel_rfl))
 f220:=(Tryz.func181).trans (congrArg some (by kernel_rfl))
 f224:=(Tryz.func277).trans (congrArg some (by kernel_rfl))
 f225:=(Tryz.func276).trans (congrArg some (by kernel_rfl))
 f266:=(Tryz.func298).trans (congrArg some (by kernel_rfl))
 f267:=(Tryz.func278).trans (congrArg some (by kernel_rfl))
 f314:=(Tryz.func299).trans (congrArg some (by kernel_rfl))
 t3:=Tryz.underlying3
 a3:=Tryz.isAgg3
 z3:=Tryz.sizeOf3
 v3:=Tryz.zeroValue3
 t4:=Tryz.underlying4
 a4:=Tryz.isAgg4
 z4:=Tryz.sizeOf4
 v4:=Tryz.zeroValue4
 t5:=Tryz.underlying5
 a5:=Tryz.isAgg5
 z5:=Tryz.sizeOf5
 v5:=Tryz.zeroValue5
 t9:=Tryz.underlying9
 a9:=Tryz.isAgg9
 z9:=Tryz.sizeOf9
 v9:=Tryz.zeroValue9
 t46:=Tryz.underlying220
 a46:=Tryz.isAgg220
 z46:=Tryz.sizeOf220
 v46:=Tryz.zeroValue220
 t51:=Tryz.underlying234
 a51:=Tryz.isAgg234
 z51:=Tryz.sizeOf234
 v51:=Tryz.zeroValue234
 t59:=Tryz.underlying149
 a59:=Tryz.isAgg149
 z59:=Tryz.sizeOf149
 v59:=Tryz.zeroValue149
 t146:=Tryz.underlying304
 a146:=Tryz.isAgg304
 z146:=Tryz.sizeOf304
 v146:=Tryz.zeroValue304
 g1:=by kernel_rfl
def cutM (s sep:List UInt8):Option (List UInt8×List UInt8×Bool):=if s.length<4294967281 then some (Lib.cut s sep)else none
theorem jXX :ModelOk Tryz.prog 109 ⟨⟨[.pv .str,.pv .str],[]⟩,⟨[.tup [.pv .str,.pv .str,.pv .bool]],[]⟩,fun a=>cutM a.1 a.2⟩:=
 jYr _ ⟨_,Tryz.func109,by decide,by kernel_rfl⟩ (g:=3) (by kernel_rfl) (fun s sep r hr w hm=>by
  obtain⟨v,h1,m,rfl⟩:=hm
  unfold cutM at hr
  split at hr
  case isFalse=>cases hr
  rename_i hl
  cases hr
  refine(Any.strings_Cut jYk (bytes s) (bytes sep) m w (jXD hl) h1).mono ?_
  rintro e w' ⟨rfl,n,rfl⟩
  exact⟨by simp[bytes],below_drewN (Below.refl _ _) _⟩)
end Go.Proofs.YtcdcmcgdgnibmaaGreatDoor
