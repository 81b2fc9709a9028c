/- Lays.n146 at this program, by name. -/
import Derived.Test.YtcinmmojlcchfaaGreatDoorKTab
import Derived.Test.YtcinmmojlcchfaaGreatDoorKZ
import Derived.Shelf.Strings.Split
import Derived.KernelRfl
set_option linter.unusedSimpArgs false
set_option linter.unusedVariables false
namespace Go.Proofs.YtcinmmojlcchfaaGreatDoor
open Go.RowKit Go.Shelf
def jX6 :Ren where
 f:=fun x=>match x with
  |146=>46
  |221=>114
  |268=>187
  |138=>188
  |143=>189
  |195=>239
  |197=>240
  |218=>241
  |219=>242
  |260=>300
  |217=>301
  |225=>302
  |224=>303
  |267=>304
  |266=>335
  |314=>336
  |n=>n
 t:=fun x=>match x with
  |9=>9
  |31=>22
  |3=>3
  |4=>4
  |0=>0
  |105=>268
  |21=>21
  |5=>5
  |46=>200
  |119=>348
  |139=>351
  |138=>350
  |146=>352
  |51=>199
  |n=>n
 g:=fun x=>match x with
  |1=>2
  |3=>4
  |4=>5
  |n=>n
theorem jYh :Lays.n146 Tryz.prog jX6 where
 mixed:=by kernel_rfl
 f138:=(Tryz.func188).trans (congrArg some (by kernel_rfl))
 f143:=(Tryz.func189).trans (congrArg some (by kernel_rfl))
 f146:=(Tryz.func46).trans (congrArg some (by kernel_rfl))
 f195:=(Tryz.func239).trans (congrArg some (by kernel_rfl))
 f197:=(Tryz.func240).trans (congrArg some (by kernel_rfl))
 f217:=(Tryz.func301).trans (congrArg some (by kernel_rfl))
 f218:=(Tryz.func241).trans (congrArg some (by kernel_rfl))
 f219:=(Tryz.func242).trans (congrArg some (by kernel_rfl))
 f221:=(Tryz.func114).trans (congrArg some (by kernel_rfl))
 f224:=(Tryz.func303).trans (congrArg some (by kernel_rfl))
 f225:=(Tryz.func302).trans (congrArg some (by kernel_rfl))
 f260:=(Tryz.func300).trans (congrArg some (by kernel_rfl))
 f266:=(Tryz.func335).trans (congrArg some (by kernel_rfl))
 f267:=(Tryz.func304).trans (congrArg some (by kernel_rfl))
 f268:=(Tryz.func187).trans (congrArg some (by kernel_rfl))
 f314:=(Tryz.func336).trans (congrArg some (by kernel_rfl))
 t0:=Tryz.underlying0
 a0:=Tryz.isAgg0
 z0:=Tryz.sizeOf0
 v0:=Tryz.zeroValue0
 t3:=Tryz.underlying3
 a3:=Tryz.isAgg3
 z3:=Tryz.sizeOf3
 v3:=Tryz.zeroValue3
 t4:=Tryz.underlying4
 a4:=Tryz.isAgg4
 z4:=Tryz.sizeOf4
 v4:=Tryz.zeroValue4
 t5:=Tryz.underlying5
 a5:=Tryz.isAgg5
 z5:=Tryz.sizeOf5
 v5:=Tryz.zeroValue5
 t9:=Tryz.underlying9
 a9:=Tryz.isAgg9
 z9:=Tryz.sizeOf9
 v9:=Tryz.zeroValue9
 t21:=Tryz.underlying21
 a21:=Tryz.isAgg21
 z21:=Tryz.sizeOf21
 v21:=Tryz.zeroValue21
 t31:=Tryz.underlying22
 a31:=Tryz.isAgg22
 z31:=Tryz.sizeOf22
 v31:=Tryz.zeroValue22
 t46:=Tryz.underlying200
 a46:=Tryz.isAgg200
 z46:=Tryz.sizeOf200
 v46:=Tryz.zeroValue200
 t51:=Tryz.underlying199
 a51:=Tryz.isAgg199
 z51:=Tryz.sizeOf199
 v51:=Tryz.zeroValue199
 t105:=Tryz.underlying268
 a105:=Tryz.isAgg268
 z105:=Tryz.sizeOf268
 v105:=Tryz.zeroValue268
 t119:=Tryz.underlying348
 a119:=Tryz.isAgg348
 z119:=Tryz.sizeOf348
 t138:=Tryz.underlying350
 a138:=Tryz.isAgg350
 z138:=Tryz.sizeOf350
 v138:=Tryz.zeroValue350
 t139:=Tryz.underlying351
 a139:=Tryz.isAgg351
 z139:=Tryz.sizeOf351
 v139:=Tryz.zeroValue351
 t146:=Tryz.underlying352
 a146:=Tryz.isAgg352
 z146:=Tryz.sizeOf352
 v146:=Tryz.zeroValue352
 g1:=by kernel_rfl
 g3:=by kernel_rfl
 g4:=by kernel_rfl
def splitM (s sep:List UInt8):Option (List (List UInt8)):=match sep with
 | [b]=>if s.length<4294967281 then some (cutAt b s)else none
 |_=>none
theorem jYA :ModelOk Tryz.prog 46 ⟨⟨[.pv .str,.pv .str],[]⟩,⟨[.pv (.sl .str)],[]⟩,fun a=>splitM a.1 a.2⟩:=
 jYK _ ⟨_,Tryz.func46,by decide,by kernel_rfl⟩ (g:=2) (by kernel_rfl) 9 (fun s sep r hr w hm=>by
  obtain⟨v,h1,m,rfl⟩:=hm
  unfold splitM at hr
  split at hr
  case h_2=>cases hr
  rename_i b e
  have e:sep=[b]:=e
  subst e
  split at hr
  case isFalse=>cases hr
  rename_i hl
  cases hr
  refine(Any.strings_Split jYh (by kernel_rfl) (bytes s) (bytes [b]) m w (jXD hl) h1 (zae 1)).mono ?_
  rintro e w' ⟨rfl,rfl⟩
  have hl2:=Lib.splitB_all (bytes [b]) (zae 1) 0 _ (bytes s) rfl
  rw[jXF,zar]at hl2
  rw[jXF,<-hl2,zbO]
  exact⟨by simp,rfl⟩)
end Go.Proofs.YtcinmmojlcchfaaGreatDoor
