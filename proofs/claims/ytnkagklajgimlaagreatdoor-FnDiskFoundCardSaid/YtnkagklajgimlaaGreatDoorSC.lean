/- Lays.n145 at this program, by name. -/
import Derived.Test.YtnkagklajgimlaaGreatDoorKTab
import Derived.Test.YtnkagklajgimlaaGreatDoorKZ
import Derived.Shelf.Strings.Cut
import Derived.KernelRfl
set_option linter.unusedSimpArgs false
set_option linter.unusedVariables false
namespace Go.Proofs.YtnkagklajgimlaaGreatDoor
open Go.RowKit Go.Shelf
def aej :Ren where
 f:=fun x=>match x with
  |145=>105
  |220=>165
  |219=>238
  |217=>305
  |225=>306
  |224=>307
  |267=>308
  |266=>337
  |314=>338
  |n=>n
 t:=fun x=>match x with
  |9=>9
  |4=>4
  |59=>163
  |3=>3
  |5=>5
  |46=>142
  |146=>356
  |51=>141
  |n=>n
 g:=fun x=>match x with
  |1=>5
  |n=>n
theorem aeF :Lays.n145 Tryz.prog aej where
 mixed:=by kernel_rfl
 f145:=(Tryz.func105).trans (congrArg some (by kernel_rfl))
 f217:=(Tryz.func305).trans (congrArg some (by kernel_rfl))
 f219:=(Tryz.func238).trans (congrArg some (by kernel_rfl))
 f220:=(Tryz.func165).trans (congrArg some (by kernel_rfl))
 f224:=(Tryz.func307).trans (congrArg some (by kernel_rfl))
 f225:=(Tryz.func306).trans (congrArg some (by kernel_rfl))
 f266:=(Tryz.func337).trans (congrArg some (by kernel_rfl))
 f267:=(Tryz.func308).trans (congrArg some (by kernel_rfl))
 f314:=(Tryz.func338).trans (congrArg some (by kernel_rfl))
 t3:=Tryz.underlying3
 a3:=Tryz.isAgg3
 z3:=Tryz.sizeOf3
 v3:=Tryz.zeroValue3
 t4:=Tryz.underlying4
 a4:=Tryz.isAgg4
 z4:=Tryz.sizeOf4
 v4:=Tryz.zeroValue4
 t5:=Tryz.underlying5
 a5:=Tryz.isAgg5
 z5:=Tryz.sizeOf5
 v5:=Tryz.zeroValue5
 t9:=Tryz.underlying9
 a9:=Tryz.isAgg9
 z9:=Tryz.sizeOf9
 v9:=Tryz.zeroValue9
 t46:=Tryz.underlying142
 a46:=Tryz.isAgg142
 z46:=Tryz.sizeOf142
 v46:=Tryz.zeroValue142
 t51:=Tryz.underlying141
 a51:=Tryz.isAgg141
 z51:=Tryz.sizeOf141
 v51:=Tryz.zeroValue141
 t59:=Tryz.underlying163
 a59:=Tryz.isAgg163
 z59:=Tryz.sizeOf163
 v59:=Tryz.zeroValue163
 t146:=Tryz.underlying356
 a146:=Tryz.isAgg356
 z146:=Tryz.sizeOf356
 v146:=Tryz.zeroValue356
 g1:=by kernel_rfl
def vK (s sep:List UInt8):Option (List UInt8×List UInt8×Bool):=if s.length<4294967281 then some (Lib.cut s sep)else none
theorem aeh :hW Tryz.prog 105 ⟨⟨[.ag .str,.ag .str],[]⟩,⟨[.bM [.ag .str,.ag .str,.ag .bool]],[]⟩,fun a=>vK a.1 a.2⟩:=
 aeJ _ ⟨_,Tryz.func105,by decide,by kernel_rfl⟩ (g:=5) (by kernel_rfl) (fun s sep r b w hm=>by
  obtain⟨v,c,m,rfl⟩:=hm
  unfold vK at b
  split at b
  case isFalse=>cases b
  rename_i d
  cases b
  refine(Any.strings_Cut aeF (bytes s) (bytes sep) m w (N3 d) c).mono ?_
  rintro e w' ⟨rfl,n,rfl⟩
  exact⟨by simp[bytes],below_drewN (Below.refl _ _) _⟩)
end Go.Proofs.YtnkagklajgimlaaGreatDoor
