/- LaysM.n171 at this program, by name. -/
import Derived.Test.YtnkagklajgimlaaGreatDoorKTab
import Derived.Test.YtnkagklajgimlaaGreatDoorKZ
import Derived.Shelf.Strconv.Itoa3
import Derived.KernelRfl
set_option linter.unusedSimpArgs false
set_option linter.unusedVariables false
namespace Go.Proofs.YtnkagklajgimlaaGreatDoor
open Go.RowKit Go.Shelf
def adO :Ren where
 f:=fun x=>match x with
  |171=>31
  |243=>82
  |246=>152
  |283=>214
  |284=>215
  |285=>216
  |286=>217
  |129=>198
  |317=>291
  |318=>292
  |319=>293
  |320=>294
  |337=>331
  |338=>332
  |n=>n
 t:=fun x=>match x with
  |3=>3
  |9=>9
  |2=>2
  |4=>4
  |171=>265
  |0=>0
  |53=>255
  |37=>22
  |5=>5
  |173=>267
  |212=>325
  |51=>141
  |20=>20
  |213=>326
  |46=>142
  |232=>363
  |233=>364
  |n=>n
 g:=fun x=>match x with
  |17=>2
  |18=>7
  |19=>8
  |n=>n
theorem adW :LaysM.n171 Tryz.prog adO where
 mixed:=by kernel_rfl
 f129:=(Tryz.func198).trans (congrArg some (by kernel_rfl))
 f171:=(Tryz.func31).trans (congrArg some (by kernel_rfl))
 f243:=(Tryz.func82).trans (congrArg some (by kernel_rfl))
 f246:=(Tryz.func152).trans (congrArg some (by kernel_rfl))
 f283:=(Tryz.func214).trans (congrArg some (by kernel_rfl))
 f284:=(Tryz.func215).trans (congrArg some (by kernel_rfl))
 f285:=(Tryz.func216).trans (congrArg some (by kernel_rfl))
 f286:=(Tryz.func217).trans (congrArg some (by kernel_rfl))
 f317:=(Tryz.func291).trans (congrArg some (by kernel_rfl))
 f318:=(Tryz.func292).trans (congrArg some (by kernel_rfl))
 f319:=(Tryz.func293).trans (congrArg some (by kernel_rfl))
 f320:=(Tryz.func294).trans (congrArg some (by kernel_rfl))
 f337:=(Tryz.func331).trans (congrArg some (by kernel_rfl))
 f338:=(Tryz.func332).trans (congrArg some (by kernel_rfl))
 t0:=Tryz.underlying0
 a0:=Tryz.isAgg0
 z0:=Tryz.sizeOf0
 v0:=Tryz.zeroValue0
 t2:=Tryz.underlying2
 a2:=Tryz.isAgg2
 z2:=Tryz.sizeOf2
 v2:=Tryz.zeroValue2
 t3:=Tryz.underlying3
 a3:=Tryz.isAgg3
 z3:=Tryz.sizeOf3
 v3:=Tryz.zeroValue3
 t4:=Tryz.underlying4
 a4:=Tryz.isAgg4
 z4:=Tryz.sizeOf4
 v4:=Tryz.zeroValue4
 t5:=Tryz.underlying5
 a5:=Tryz.isAgg5
 z5:=Tryz.sizeOf5
 v5:=Tryz.zeroValue5
 t9:=Tryz.underlying9
 a9:=Tryz.isAgg9
 z9:=Tryz.sizeOf9
 v9:=Tryz.zeroValue9
 t20:=Tryz.underlying20
 a20:=Tryz.isAgg20
 z20:=Tryz.sizeOf20
 v20:=Tryz.zeroValue20
 t37:=Tryz.underlying22
 a37:=Tryz.isAgg22
 z37:=Tryz.sizeOf22
 v37:=Tryz.zeroValue22
 t46:=Tryz.underlying142
 a46:=Tryz.isAgg142
 z46:=Tryz.sizeOf142
 v46:=Tryz.zeroValue142
 t51:=Tryz.underlying141
 a51:=Tryz.isAgg141
 z51:=Tryz.sizeOf141
 v51:=Tryz.zeroValue141
 t53:=Tryz.underlying255
 a53:=Tryz.isAgg255
 z53:=Tryz.sizeOf255
 v53:=Tryz.zeroValue255
 t171:=Tryz.underlying265
 a171:=Tryz.isAgg265
 z171:=Tryz.sizeOf265
 v171:=Tryz.zeroValue265
 t173:=Tryz.underlying267
 a173:=Tryz.isAgg267
 z173:=Tryz.sizeOf267
 v173:=Tryz.zeroValue267
 t212:=Tryz.underlying325
 a212:=Tryz.isAgg325
 z212:=Tryz.sizeOf325
 v212:=Tryz.zeroValue325
 t213:=Tryz.underlying326
 a213:=Tryz.isAgg326
 z213:=Tryz.sizeOf326
 t232:=Tryz.underlying363
 a232:=Tryz.isAgg363
 z232:=Tryz.sizeOf363
 v232:=Tryz.zeroValue363
 t233:=Tryz.underlying364
 a233:=Tryz.isAgg364
 z233:=Tryz.sizeOf364
 v233:=Tryz.zeroValue364
 g17:=by kernel_rfl
 g18:=by kernel_rfl
 g19:=by kernel_rfl
 i0:=by kernel_rfl
 i2:=by kernel_rfl
 i3:=by kernel_rfl
 i4:=by kernel_rfl
 i5:=by kernel_rfl
 i9:=by kernel_rfl
 i20:=by kernel_rfl
 i37:=by kernel_rfl
 i46:=by kernel_rfl
 i51:=by kernel_rfl
 i53:=by kernel_rfl
 i171:=by kernel_rfl
 i173:=by kernel_rfl
 i212:=by kernel_rfl
 i232:=by kernel_rfl
 i233:=by kernel_rfl
 m17:=by kernel_rfl
 m18:=by kernel_rfl
 m19:=by kernel_rfl
def kh (n:Int):List UInt8:=Lib.itoa n
def wR (n:Int):Option (List UInt8):=if-9223372036854775808<=n/\n<=9223372036854775807 then some (kh n)else none
theorem adY :hW Tryz.prog 31 ⟨⟨[.ag (.int .i64)],[]⟩,⟨[.ag .str],[]⟩,wR⟩:=by
 refine adP wR ⟨_,Tryz.func31,by decide,by kernel_rfl⟩ (name:= "internal/strconv.uint64pow10") (g:=2) (k:=.u64) (zs:=Lib.pow10Tab) (by kernel_rfl) (by kernel_rfl) (fun n r a w b=>?_)
 unfold wR at a
 split at a
 case isFalse=>cases a
 rename_i h
 obtain rfl:=Option.some.inj a
 refine(Any.strconv_Itoa adW n h.1 h.2 w b).mono ?_
 rintro e w' ⟨rfl,k,os,rfl⟩
 refine⟨?_,rfl,rfl,rfl,?_,fun i hi=>?_⟩
 .rfl
 .show w.heap.size<=(w.heap++os).size
  rw[Array.size_append];omega
 .show (w.heap++os)[i]? =w.heap[i]?
  rw[Array.getElem?_append,ai hi]
end Go.Proofs.YtnkagklajgimlaaGreatDoor
