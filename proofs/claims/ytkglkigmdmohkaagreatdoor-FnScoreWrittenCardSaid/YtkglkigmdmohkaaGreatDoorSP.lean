/- Lays.n146 at this program, by name. -/
import Derived.Test.YtkglkigmdmohkaaGreatDoorKTab
import Derived.Test.YtkglkigmdmohkaaGreatDoorKZ
import Derived.Shelf.Strings.Split
import Derived.KernelRfl
set_option linter.unusedSimpArgs false
set_option linter.unusedVariables false
namespace Go.Proofs.YtkglkigmdmohkaaGreatDoor
open Go.RowKit Go.Shelf
def jX6 :Ren where
 f:=fun x=>match x with
  |146=>85
  |221=>132
  |268=>172
  |138=>173
  |143=>174
  |195=>203
  |197=>204
  |218=>205
  |219=>171
  |260=>217
  |217=>199
  |225=>200
  |224=>201
  |267=>202
  |266=>215
  |314=>216
  |n=>n
 t:=fun x=>match x with
  |9=>9
  |31=>23
  |3=>3
  |4=>4
  |0=>0
  |105=>230
  |21=>21
  |5=>5
  |46=>173
  |119=>247
  |139=>250
  |138=>249
  |146=>242
  |51=>203
  |n=>n
 g:=fun x=>match x with
  |1=>3
  |3=>7
  |4=>8
  |n=>n
theorem jYh :Lays.n146 Tryz.prog jX6 where
 mixed:=by kernel_rfl
 f138:=(Tryz.func173).trans (congrArg some (by kernel_rfl))
 f143:=(Tryz.func174).trans (congrArg some (by kernel_rfl))
 f146:=(Tryz.func85).trans (congrArg some (by kernel_rfl))
 f195:=(Tryz.func203).trans (congrArg some (by kernel_rfl))
 f197:=(Tryz.func204).trans (congrArg some (by kernel_rfl))
 f217:=(Tryz.func199).trans (congrArg some (by kernel_rfl))
 f218:=(Tryz.func205).trans (congrArg some (by kernel_rfl))
 f219:=(Tryz.func171).trans (congrArg some (by kernel_rfl))
 f221:=(Tryz.func132).trans (congrArg some (by kernel_rfl))
 f224:=(Tryz.func201).trans (congrArg some (by kernel_rfl))
 f225:=(Tryz.func200).trans (congrArg some (by kernel_rfl))
 f260:=(Tryz.func217).trans (congrArg some (by kernel_rfl))
 f266:=(Tryz.func215).trans (congrArg some (by kernel_rfl))
 f267:=(Tryz.func202).trans (congrArg some (by kernel_rfl))
 f268:=(Tryz.func172).trans (congrArg some (by kernel_rfl))
 f314:=(Tryz.func216).trans (congrArg some (by kernel_rfl))
 t0:=Tryz.underlying0
 a0:=Tryz.isAgg0
 z0:=Tryz.sizeOf0
 v0:=Tryz.zeroValue0
 t3:=Tryz.underlying3
 a3:=Tryz.isAgg3
 z3:=Tryz.sizeOf3
 v3:=Tryz.zeroValue3
 t4:=Tryz.underlying4
 a4:=Tryz.isAgg4
 z4:=Tryz.sizeOf4
 v4:=Tryz.zeroValue4
 t5:=Tryz.underlying5
 a5:=Tryz.isAgg5
 z5:=Tryz.sizeOf5
 v5:=Tryz.zeroValue5
 t9:=Tryz.underlying9
 a9:=Tryz.isAgg9
 z9:=Tryz.sizeOf9
 v9:=Tryz.zeroValue9
 t21:=Tryz.underlying21
 a21:=Tryz.isAgg21
 z21:=Tryz.sizeOf21
 v21:=Tryz.zeroValue21
 t31:=Tryz.underlying23
 a31:=Tryz.isAgg23
 z31:=Tryz.sizeOf23
 v31:=Tryz.zeroValue23
 t46:=Tryz.underlying173
 a46:=Tryz.isAgg173
 z46:=Tryz.sizeOf173
 v46:=Tryz.zeroValue173
 t51:=Tryz.underlying203
 a51:=Tryz.isAgg203
 z51:=Tryz.sizeOf203
 v51:=Tryz.zeroValue203
 t105:=Tryz.underlying230
 a105:=Tryz.isAgg230
 z105:=Tryz.sizeOf230
 v105:=Tryz.zeroValue230
 t119:=Tryz.underlying247
 a119:=Tryz.isAgg247
 z119:=Tryz.sizeOf247
 t138:=Tryz.underlying249
 a138:=Tryz.isAgg249
 z138:=Tryz.sizeOf249
 v138:=Tryz.zeroValue249
 t139:=Tryz.underlying250
 a139:=Tryz.isAgg250
 z139:=Tryz.sizeOf250
 v139:=Tryz.zeroValue250
 t146:=Tryz.underlying242
 a146:=Tryz.isAgg242
 z146:=Tryz.sizeOf242
 v146:=Tryz.zeroValue242
 g1:=by kernel_rfl
 g3:=by kernel_rfl
 g4:=by kernel_rfl
def splitM (s sep:List UInt8):Option (List (List UInt8)):=match sep with
 | [b]=>if s.length<4294967281 then some (cutAt b s)else none
 |_=>none
theorem jYA :ModelOk Tryz.prog 85 ⟨⟨[.pv .str,.pv .str],[]⟩,⟨[.pv (.sl .str)],[]⟩,fun a=>splitM a.1 a.2⟩:=
 jYK _ ⟨_,Tryz.func85,by decide,by kernel_rfl⟩ (g:=3) (by kernel_rfl) 9 (fun s sep r hr w hm=>by
  obtain⟨v,h1,m,rfl⟩:=hm
  unfold splitM at hr
  split at hr
  case h_2=>cases hr
  rename_i b e
  have e:sep=[b]:=e
  subst e
  split at hr
  case isFalse=>cases hr
  rename_i hl
  cases hr
  refine(Any.strings_Split jYh (by kernel_rfl) (bytes s) (bytes [b]) m w (jXD hl) h1 (zae 1)).mono ?_
  rintro e w' ⟨rfl,rfl⟩
  have hl2:=Lib.splitB_all (bytes [b]) (zae 1) 0 _ (bytes s) rfl
  rw[jXF,zar]at hl2
  rw[jXF,<-hl2,zbO]
  exact⟨by simp,rfl⟩)
end Go.Proofs.YtkglkigmdmohkaaGreatDoor
