/- LaysM.n171 at this program, by name. -/
import Derived.Test.YtcinmmojlcchfaaGreatDoorKTab
import Derived.Test.YtcinmmojlcchfaaGreatDoorKZ
import Derived.Shelf.Strconv.Itoa3
import Derived.KernelRfl
set_option linter.unusedSimpArgs false
set_option linter.unusedVariables false
namespace Go.Proofs.YtcinmmojlcchfaaGreatDoor
open Go.RowKit Go.Shelf
def jO7 :Ren where
 f:=fun x=>match x with
  |171=>86
  |243=>162
  |246=>223
  |283=>280
  |284=>281
  |285=>282
  |286=>283
  |129=>256
  |317=>322
  |318=>323
  |319=>324
  |320=>325
  |337=>341
  |338=>342
  |n=>n
 t:=fun x=>match x with
  |3=>3
  |9=>9
  |2=>2
  |4=>4
  |171=>300
  |0=>0
  |53=>271
  |37=>45
  |5=>5
  |173=>302
  |212=>332
  |51=>199
  |20=>20
  |213=>333
  |46=>200
  |232=>366
  |233=>367
  |n=>n
 g:=fun x=>match x with
  |17=>3
  |18=>6
  |19=>7
  |n=>n
theorem jPa :LaysM.n171 Tryz.prog jO7 where
 mixed:=by kernel_rfl
 f129:=(Tryz.func256).trans (congrArg some (by kernel_rfl))
 f171:=(Tryz.func86).trans (congrArg some (by kernel_rfl))
 f243:=(Tryz.func162).trans (congrArg some (by kernel_rfl))
 f246:=(Tryz.func223).trans (congrArg some (by kernel_rfl))
 f283:=(Tryz.func280).trans (congrArg some (by kernel_rfl))
 f284:=(Tryz.func281).trans (congrArg some (by kernel_rfl))
 f285:=(Tryz.func282).trans (congrArg some (by kernel_rfl))
 f286:=(Tryz.func283).trans (congrArg some (by kernel_rfl))
 f317:=(Tryz.func322).trans (congrArg some (by kernel_rfl))
 f318:=(Tryz.func323).trans (congrArg some (by kernel_rfl))
 f319:=(Tryz.func324).trans (congrArg some (by kernel_rfl))
 f320:=(Tryz.func325).trans (congrArg some (by kernel_rfl))
 f337:=(Tryz.func341).trans (congrArg some (by kernel_rfl))
 f338:=(Tryz.func342).trans (congrArg some (by kernel_rfl))
 t0:=Tryz.underlying0
 a0:=Tryz.isAgg0
 z0:=Tryz.sizeOf0
 v0:=Tryz.zeroValue0
 t2:=Tryz.underlying2
 a2:=Tryz.isAgg2
 z2:=Tryz.sizeOf2
 v2:=Tryz.zeroValue2
 t3:=Tryz.underlying3
 a3:=Tryz.isAgg3
 z3:=Tryz.sizeOf3
 v3:=Tryz.zeroValue3
 t4:=Tryz.underlying4
 a4:=Tryz.isAgg4
 z4:=Tryz.sizeOf4
 v4:=Tryz.zeroValue4
 t5:=Tryz.underlying5
 a5:=Tryz.isAgg5
 z5:=Tryz.sizeOf5
 v5:=Tryz.zeroValue5
 t9:=Tryz.underlying9
 a9:=Tryz.isAgg9
 z9:=Tryz.sizeOf9
 v9:=Tryz.zeroValue9
 t20:=Tryz.underlying20
 a20:=Tryz.isAgg20
 z20:=Tryz.sizeOf20
 v20:=Tryz.zeroValue20
 t37:=Tryz.underlying45
 a37:=Tryz.isAgg45
 z37:=Tryz.sizeOf45
 v37:=Tryz.zeroValue45
 t46:=Tryz.underlying200
 a46:=Tryz.isAgg200
 z46:=Tryz.sizeOf200
 v46:=Tryz.zeroValue200
 t51:=Tryz.underlying199
 a51:=Tryz.isAgg199
 z51:=Tryz.sizeOf199
 v51:=Tryz.zeroValue199
 t53:=Tryz.underlying271
 a53:=Tryz.isAgg271
 z53:=Tryz.sizeOf271
 v53:=Tryz.zeroValue271
 t171:=Tryz.underlying300
 a171:=Tryz.isAgg300
 z171:=Tryz.sizeOf300
 v171:=Tryz.zeroValue300
 t173:=Tryz.underlying302
 a173:=Tryz.isAgg302
 z173:=Tryz.sizeOf302
 v173:=Tryz.zeroValue302
 t212:=Tryz.underlying332
 a212:=Tryz.isAgg332
 z212:=Tryz.sizeOf332
 v212:=Tryz.zeroValue332
 t213:=Tryz.underlying333
 a213:=Tryz.isAgg333
 z213:=Tryz.sizeOf333
 t232:=Tryz.underlying366
 a232:=Tryz.isAgg366
 z232:=Tryz.sizeOf366
 v232:=Tryz.zeroValue366
 t233:=Tryz.underlying367
 a233:=Tryz.isAgg367
 z233:=Tryz.sizeOf367
 v233:=Tryz.zeroValue367
 g17:=by kernel_rfl
 g18:=by kernel_rfl
 g19:=by kernel_rfl
 i0:=by kernel_rfl
 i2:=by kernel_rfl
 i3:=by kernel_rfl
 i4:=by kernel_rfl
 i5:=by kernel_rfl
 i9:=by kernel_rfl
 i20:=by kernel_rfl
 i37:=by kernel_rfl
 i46:=by kernel_rfl
 i51:=by kernel_rfl
 i53:=by kernel_rfl
 i171:=by kernel_rfl
 i173:=by kernel_rfl
 i212:=by kernel_rfl
 i232:=by kernel_rfl
 i233:=by kernel_rfl
 m17:=by kernel_rfl
 m18:=by kernel_rfl
 m19:=by kernel_rfl
def itoaL (n:Int):List UInt8:=Lib.itoa n
def itoaM (n:Int):Option (List UInt8):=if-9223372036854775808<=n/\n<=9223372036854775807 then some (itoaL n)else none
theorem jPp :ModelOk Tryz.prog 86 ⟨⟨[.pv (.int .i64)],[]⟩,⟨[.pv .str],[]⟩,itoaM⟩:=by
 refine jOP itoaM ⟨_,Tryz.func86,by decide,by kernel_rfl⟩ (name:= "internal/strconv.uint64pow10") (g:=3) (k:=.u64) (zs:=Lib.pow10Tab) (by kernel_rfl) (by kernel_rfl) (fun n r hr w ht=>?_)
 unfold itoaM at hr
 split at hr
 case isFalse=>cases hr
 rename_i h
 obtain rfl:=Option.some.inj hr
 refine(Any.strconv_Itoa jPa n h.1 h.2 w ht).mono ?_
 rintro e w' ⟨rfl,k,os,rfl⟩
 refine⟨?_,rfl,rfl,rfl,?_,fun i hi=>?_⟩
 .rfl
 .show w.heap.size<=(w.heap++os).size
  rw[Array.size_append];omega
 .show (w.heap++os)[i]? =w.heap[i]?
  rw[Array.getElem?_append,zf hi]
end Go.Proofs.YtcinmmojlcchfaaGreatDoor
