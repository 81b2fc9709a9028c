/- Lays.n146 at this program, by name. -/
import Derived.Test.YtnkagklajgimlaaGreatDoorKTab
import Derived.Test.YtnkagklajgimlaaGreatDoorKZ
import Derived.Shelf.Strings.Split
import Derived.KernelRfl
set_option linter.unusedSimpArgs false
set_option linter.unusedVariables false
namespace Go.Proofs.YtnkagklajgimlaaGreatDoor
open Go.RowKit Go.Shelf
def ahH :Ren where
 f:=fun x=>match x with
  |146=>103
  |221=>164
  |268=>235
  |138=>236
  |143=>237
  |195=>302
  |197=>303
  |218=>304
  |219=>238
  |260=>336
  |217=>305
  |225=>306
  |224=>307
  |267=>308
  |266=>337
  |314=>338
  |n=>n
 t:=fun x=>match x with
  |9=>9
  |31=>26
  |3=>3
  |4=>4
  |0=>0
  |105=>334
  |21=>21
  |5=>5
  |46=>142
  |119=>365
  |139=>368
  |138=>367
  |146=>356
  |51=>141
  |n=>n
 g:=fun x=>match x with
  |1=>5
  |3=>9
  |4=>10
  |n=>n
theorem ah4 :Lays.n146 Tryz.prog ahH where
 mixed:=by kernel_rfl
 f138:=(Tryz.func236).trans (congrArg some (by kernel_rfl))
 f143:=(Tryz.func237).trans (congrArg some (by kernel_rfl))
 f146:=(Tryz.func103).trans (congrArg some (by kernel_rfl))
 f195:=(Tryz.func302).trans (congrArg some (by kernel_rfl))
 f197:=(Tryz.func303).trans (congrArg some (by kernel_rfl))
 f217:=(Tryz.func305).trans (congrArg some (by kernel_rfl))
 f218:=(Tryz.func304).trans (congrArg some (by kernel_rfl))
 f219:=(Tryz.func238).trans (congrArg some (by kernel_rfl))
 f221:=(Tryz.func164).trans (congrArg some (by kernel_rfl))
 f224:=(Tryz.func307).trans (congrArg some (by kernel_rfl))
 f225:=(Tryz.func306).trans (congrArg some (by kernel_rfl))
 f260:=(Tryz.func336).trans (congrArg some (by kernel_rfl))
 f266:=(Tryz.func337).trans (congrArg some (by kernel_rfl))
 f267:=(Tryz.func308).trans (congrArg some (by kernel_rfl))
 f268:=(Tryz.func235).trans (congrArg some (by kernel_rfl))
 f314:=(Tryz.func338).trans (congrArg some (by kernel_rfl))
 t0:=Tryz.underlying0
 a0:=Tryz.isAgg0
 z0:=Tryz.sizeOf0
 v0:=Tryz.zeroValue0
 t3:=Tryz.underlying3
 a3:=Tryz.isAgg3
 z3:=Tryz.sizeOf3
 v3:=Tryz.zeroValue3
 t4:=Tryz.underlying4
 a4:=Tryz.isAgg4
 z4:=Tryz.sizeOf4
 v4:=Tryz.zeroValue4
 t5:=Tryz.underlying5
 a5:=Tryz.isAgg5
 z5:=Tryz.sizeOf5
 v5:=Tryz.zeroValue5
 t9:=Tryz.underlying9
 a9:=Tryz.isAgg9
 z9:=Tryz.sizeOf9
 v9:=Tryz.zeroValue9
 t21:=Tryz.underlying21
 a21:=Tryz.isAgg21
 z21:=Tryz.sizeOf21
 v21:=Tryz.zeroValue21
 t31:=Tryz.underlying26
 a31:=Tryz.isAgg26
 z31:=Tryz.sizeOf26
 v31:=Tryz.zeroValue26
 t46:=Tryz.underlying142
 a46:=Tryz.isAgg142
 z46:=Tryz.sizeOf142
 v46:=Tryz.zeroValue142
 t51:=Tryz.underlying141
 a51:=Tryz.isAgg141
 z51:=Tryz.sizeOf141
 v51:=Tryz.zeroValue141
 t105:=Tryz.underlying334
 a105:=Tryz.isAgg334
 z105:=Tryz.sizeOf334
 v105:=Tryz.zeroValue334
 t119:=Tryz.underlying365
 a119:=Tryz.isAgg365
 z119:=Tryz.sizeOf365
 t138:=Tryz.underlying367
 a138:=Tryz.isAgg367
 z138:=Tryz.sizeOf367
 v138:=Tryz.zeroValue367
 t139:=Tryz.underlying368
 a139:=Tryz.isAgg368
 z139:=Tryz.sizeOf368
 v139:=Tryz.zeroValue368
 t146:=Tryz.underlying356
 a146:=Tryz.isAgg356
 z146:=Tryz.sizeOf356
 v146:=Tryz.zeroValue356
 g1:=by kernel_rfl
 g3:=by kernel_rfl
 g4:=by kernel_rfl
def tz (s sep:List UInt8):Option (List (List UInt8)):=match sep with
 | [b]=>if s.length<4294967281 then some (cutAt b s)else none
 |_=>none
theorem ahP :ig Tryz.prog 103 ⟨⟨[.af .str,.af .str],[]⟩,⟨[.af (.ar .str)],[]⟩,fun a=>tz a.1 a.2⟩:=
 ahW _ ⟨_,Tryz.func103,by decide,by kernel_rfl⟩ (g:=5) (by kernel_rfl) 9 (fun s sep r c w hm=>by
  obtain⟨v,f,m,rfl⟩:=hm
  unfold tz at c
  split at c
  case h_2=>cases c
  rename_i b e
  have e:sep=[b]:=e
  subst e
  split at c
  case isFalse=>cases c
  rename_i h
  cases c
  refine(Any.strings_Split ah4 (by kernel_rfl) (bytes s) (bytes [b]) m w (P6 h) f (bE 1)).mono ?_
  rintro e w' ⟨rfl,rfl⟩
  have d:=Lib.splitB_all (bytes [b]) (bE 1) 0 _ (bytes s) rfl
  rw[P8,dE]at d
  rw[P8,<-d,mb]
  exact⟨by simp,rfl⟩)
end Go.Proofs.YtnkagklajgimlaaGreatDoor
