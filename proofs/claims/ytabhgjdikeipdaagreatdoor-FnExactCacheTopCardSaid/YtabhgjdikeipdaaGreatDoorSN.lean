/- LaysM.n171 at this program, by name. -/
import Derived.Test.YtabhgjdikeipdaaGreatDoorKTab
import Derived.Test.YtabhgjdikeipdaaGreatDoorKN
import Derived.Shelf.Strconv.Itoa3
import Derived.KernelRfl
set_option linter.unusedSimpArgs false
set_option linter.unusedVariables false
namespace Go.Proofs.YtabhgjdikeipdaaGreatDoor
open Go.RowKit Go.Shelf
def jO7 :Ren where
 f:=fun x=>match x with
  |171=>147
  |243=>222
  |246=>293
  |283=>325
  |284=>326
  |285=>327
  |286=>328
  |129=>216
  |317=>343
  |318=>344
  |319=>345
  |320=>346
  |337=>358
  |338=>359
  |n=>n
 t:=fun x=>match x with
  |3=>3
  |9=>9
  |2=>2
  |4=>4
  |171=>368
  |0=>0
  |53=>275
  |37=>22
  |5=>5
  |173=>370
  |212=>386
  |51=>273
  |20=>20
  |213=>387
  |46=>199
  |232=>409
  |233=>410
  |n=>n
 g:=fun x=>match x with
  |17=>4
  |18=>5
  |19=>6
  |n=>n
theorem jPa :LaysM.n171 Tryz.prog jO7 where
 mixed:=by kernel_rfl
 f129:=(Tryz.func216).trans (congrArg some (by kernel_rfl))
 f171:=(Tryz.func147).trans (congrArg some (by kernel_rfl))
 f243:=(Tryz.func222).trans (congrArg some (by kernel_rfl))
 f246:=(Tryz.func293).trans (congrArg some (by kernel_rfl))
 f283:=(Tryz.func325).trans (congrArg some (by kernel_rfl))
 f284:=(Tryz.func326).trans (congrArg some (by kernel_rfl))
 f285:=(Tryz.func327).trans (congrArg some (by kernel_rfl))
 f286:=(Tryz.func328).trans (congrArg some (by kernel_rfl))
 f317:=(Tryz.func343).trans (congrArg some (by kernel_rfl))
 f318:=(Tryz.func344).trans (congrArg some (by kernel_rfl))
 f319:=(Tryz.func345).trans (congrArg some (by kernel_rfl))
 f320:=(Tryz.func346).trans (congrArg some (by kernel_rfl))
 f337:=(Tryz.func358).trans (congrArg some (by kernel_rfl))
 f338:=(Tryz.func359).trans (congrArg some (by kernel_rfl))
 t0:=Tryz.underlying0
 a0:=Tryz.isAgg0
 z0:=Tryz.sizeOf0
 v0:=Tryz.zeroValue0
 t2:=Tryz.underlying2
 a2:=Tryz.isAgg2
 z2:=Tryz.sizeOf2
 v2:=Tryz.zeroValue2
 t3:=Tryz.underlying3
 a3:=Tryz.isAgg3
 z3:=Tryz.sizeOf3
 v3:=Tryz.zeroValue3
 t4:=Tryz.underlying4
 a4:=Tryz.isAgg4
 z4:=Tryz.sizeOf4
 v4:=Tryz.zeroValue4
 t5:=Tryz.underlying5
 a5:=Tryz.isAgg5
 z5:=Tryz.sizeOf5
 v5:=Tryz.zeroValue5
 t9:=Tryz.underlying9
 a9:=Tryz.isAgg9
 z9:=Tryz.sizeOf9
 v9:=Tryz.zeroValue9
 t20:=Tryz.underlying20
 a20:=Tryz.isAgg20
 z20:=Tryz.sizeOf20
 v20:=Tryz.zeroValue20
 t37:=Tryz.underlying22
 a37:=Tryz.isAgg22
 z37:=Tryz.sizeOf22
 v37:=Tryz.zeroValue22
 t46:=Tryz.underlying199
 a46:=Tryz.isAgg199
 z46:=Tryz.sizeOf199
 v46:=Tryz.zeroValue199
 t51:=Tryz.underlying273
 a51:=Tryz.isAgg273
 z51:=Tryz.sizeOf273
 v51:=Tryz.zeroValue273
 t53:=Tryz.underlying275
 a53:=Tryz.isAgg275
 z53:=Tryz.sizeOf275
 v53:=Tryz.zeroValue275
 t171:=Tryz.underlying368
 a171:=Tryz.isAgg368
 z171:=Tryz.sizeOf368
 v171:=Tryz.zeroValue368
 t173:=Tryz.underlying370
 a173:=Tryz.isAgg370
 z173:=Tryz.sizeOf370
 v173:=Tryz.zeroValue370
 t212:=Tryz.underlying386
 a212:=Tryz.isAgg386
 z212:=Tryz.sizeOf386
 v212:=Tryz.zeroValue386
 t213:=Tryz.underlying387
 a213:=Tryz.isAgg387
 z213:=Tryz.sizeOf387
 t232:=Tryz.underlying409
 a232:=Tryz.isAgg409
 z232:=Tryz.sizeOf409
 v232:=Tryz.zeroValue409
 t233:=Tryz.underlying410
 a233:=Tryz.isAgg410
 z233:=Tryz.sizeOf410
 v233:=Tryz.zeroValue410
 g17:=by kernel_rfl
 g18:=by kernel_rfl
 g19:=by kernel_rfl
 i0:=by kernel_rfl
 i2:=by kernel_rfl
 i3:=by kernel_rfl
 i4:=by kernel_rfl
 i5:=by kernel_rfl
 i9:=by kernel_rfl
 i20:=by kernel_rfl
 i37:=by kernel_rfl
 i46:=by kernel_rfl
 i51:=by kernel_rfl
 i53:=by kernel_rfl
 i171:=by kernel_rfl
 i173:=by kernel_rfl
 i212:=by kernel_rfl
 i232:=by kernel_rfl
 i233:=by kernel_rfl
 m17:=by kernel_rfl
 m18:=by kernel_rfl
 m19:=by kernel_rfl
def itoaL (n:Int):List UInt8:=Lib.itoa n
def jOn (n:Int):Option (List UInt8):=if-9223372036854775808<=n/\n<=9223372036854775807 then some (itoaL n)else none
theorem jPp :ModelOk Tryz.prog 147 ⟨⟨[.pv (.int .i64)],[]⟩,⟨[.pv .str],[]⟩,jOn⟩:=by
 refine jOP jOn ⟨_,Tryz.func147,by decide,by kernel_rfl⟩ (name:= "internal/strconv.uint64pow10") (g:=4) (k:=.u64) (zs:=Lib.pow10Tab) (by kernel_rfl) (by kernel_rfl) (fun n r hr w ht=>?_)
 unfold jOn at hr
 split at hr
 case isFalse=>cases hr
 rename_i h
 obtain rfl:=Option.some.inj hr
 refine(Any.strconv_Itoa jPa n h.1 h.2 w ht).mono ?_
 rintro e w' ⟨rfl,k,os,rfl⟩
 refine⟨?_,rfl,rfl,rfl,?_,fun i hi=>?_⟩
 .rfl
 .show w.heap.size<=(w.heap++os).size
  rw[Array.size_append];omega
 .show (w.heap++os)[i]? =w.heap[i]?
  rw[Array.getElem?_append,zf hi]
end Go.Proofs.YtabhgjdikeipdaaGreatDoor
