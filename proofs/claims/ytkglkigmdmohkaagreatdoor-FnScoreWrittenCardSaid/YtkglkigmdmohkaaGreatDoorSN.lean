/- LaysM.n171 at this program, by name. -/
import Derived.Test.YtkglkigmdmohkaaGreatDoorKTab
import Derived.Test.YtkglkigmdmohkaaGreatDoorKZ
import Derived.Shelf.Strconv.Itoa3
import Derived.KernelRfl
set_option linter.unusedSimpArgs false
set_option linter.unusedVariables false
namespace Go.Proofs.YtkglkigmdmohkaaGreatDoor
open Go.RowKit Go.Shelf
def jO7 :Ren where
 f:=fun x=>match x with
  |171=>45
  |243=>90
  |246=>137
  |283=>182
  |284=>183
  |285=>184
  |286=>185
  |129=>166
  |317=>209
  |318=>210
  |319=>211
  |320=>212
  |337=>220
  |338=>221
  |n=>n
 t:=fun x=>match x with
  |3=>3
  |9=>9
  |2=>2
  |4=>4
  |171=>216
  |0=>0
  |53=>205
  |37=>22
  |5=>5
  |173=>218
  |212=>237
  |51=>203
  |20=>20
  |213=>238
  |46=>173
  |232=>251
  |233=>252
  |n=>n
 g:=fun x=>match x with
  |17=>6
  |18=>9
  |19=>10
  |n=>n
theorem jPa :LaysM.n171 Tryz.prog jO7 where
 mixed:=by kernel_rfl
 f129:=(Tryz.func166).trans (congrArg some (by kernel_rfl))
 f171:=(Tryz.func45).trans (congrArg some (by kernel_rfl))
 f243:=(Tryz.func90).trans (congrArg some (by kernel_rfl))
 f246:=(Tryz.func137).trans (congrArg some (by kernel_rfl))
 f283:=(Tryz.func182).trans (congrArg some (by kernel_rfl))
 f284:=(Tryz.func183).trans (congrArg some (by kernel_rfl))
 f285:=(Tryz.func184).trans (congrArg some (by kernel_rfl))
 f286:=(Tryz.func185).trans (congrArg some (by kernel_rfl))
 f317:=(Tryz.func209).trans (congrArg some (by kernel_rfl))
 f318:=(Tryz.func210).trans (congrArg some (by kernel_rfl))
 f319:=(Tryz.func211).trans (congrArg some (by kernel_rfl))
 f320:=(Tryz.func212).trans (congrArg some (by kernel_rfl))
 f337:=(Tryz.func220).trans (congrArg some (by kernel_rfl))
 f338:=(Tryz.func221).trans (congrArg some (by kernel_rfl))
 t0:=Tryz.underlying0
 a0:=Tryz.isAgg0
 z0:=Tryz.sizeOf0
 v0:=Tryz.zeroValue0
 t2:=Tryz.underlying2
 a2:=Tryz.isAgg2
 z2:=Tryz.sizeOf2
 v2:=Tryz.zeroValue2
 t3:=Tryz.underlying3
 a3:=Tryz.isAgg3
 z3:=Tryz.sizeOf3
 v3:=Tryz.zeroValue3
 t4:=Tryz.underlying4
 a4:=Tryz.isAgg4
 z4:=Tryz.sizeOf4
 v4:=Tryz.zeroValue4
 t5:=Tryz.underlying5
 a5:=Tryz.isAgg5
 z5:=Tryz.sizeOf5
 v5:=Tryz.zeroValue5
 t9:=Tryz.underlying9
 a9:=Tryz.isAgg9
 z9:=Tryz.sizeOf9
 v9:=Tryz.zeroValue9
 t20:=Tryz.underlying20
 a20:=Tryz.isAgg20
 z20:=Tryz.sizeOf20
 v20:=Tryz.zeroValue20
 t37:=Tryz.underlying22
 a37:=Tryz.isAgg22
 z37:=Tryz.sizeOf22
 v37:=Tryz.zeroValue22
 t46:=Tryz.underlying173
 a46:=Tryz.isAgg173
 z46:=Tryz.sizeOf173
 v46:=Tryz.zeroValue173
 t51:=Tryz.underlying203
 a51:=Tryz.isAgg203
 z51:=Tryz.sizeOf203
 v51:=Tryz.zeroValue203
 t53:=Tryz.underlying205
 a53:=Tryz.isAgg205
 z53:=Tryz.sizeOf205
 v53:=Tryz.zeroValue205
 t171:=Tryz.underlying216
 a171:=Tryz.isAgg216
 z171:=Tryz.sizeOf216
 v171:=Tryz.zeroValue216
 t173:=Tryz.underlying218
 a173:=Tryz.isAgg218
 z173:=Tryz.sizeOf218
 v173:=Tryz.zeroValue218
 t212:=Tryz.underlying237
 a212:=Tryz.isAgg237
 z212:=Tryz.sizeOf237
 v212:=Tryz.zeroValue237
 t213:=Tryz.underlying238
 a213:=Tryz.isAgg238
 z213:=Tryz.sizeOf238
 t232:=Tryz.underlying251
 a232:=Tryz.isAgg251
 z232:=Tryz.sizeOf251
 v232:=Tryz.zeroValue251
 t233:=Tryz.underlying252
 a233:=Tryz.isAgg252
 z233:=Tryz.sizeOf252
 v233:=Tryz.zeroValue252
 g17:=by kernel_rfl
 g18:=by kernel_rfl
 g19:=by kernel_rfl
 i0:=by kernel_rfl
 i2:=by kernel_rfl
 i3:=by kernel_rfl
 i4:=by kernel_rfl
 i5:=by kernel_rfl
 i9:=by kernel_rfl
 i20:=by kernel_rfl
 i37:=by kernel_rfl
 i46:=by kernel_rfl
 i51:=by kernel_rfl
 i53:=by kernel_rfl
 i171:=by kernel_rfl
 i173:=by kernel_rfl
 i212:=by kernel_rfl
 i232:=by kernel_rfl
 i233:=by kernel_rfl
 m17:=by kernel_rfl
 m18:=by kernel_rfl
 m19:=by kernel_rfl
def itoaL (n:Int):List UInt8:=Lib.itoa n
def itoaM (n:Int):Option (List UInt8):=if-9223372036854775808<=n/\n<=9223372036854775807 then some (itoaL n)else none
theorem jPp :ModelOk Tryz.prog 45 ⟨⟨[.pv (.int .i64)],[]⟩,⟨[.pv .str],[]⟩,itoaM⟩:=by
 refine jOP itoaM ⟨_,Tryz.func45,by decide,by kernel_rfl⟩ (name:= "internal/strconv.uint64pow10") (g:=6) (k:=.u64) (zs:=Lib.pow10Tab) (by kernel_rfl) (by kernel_rfl) (fun n r hr w ht=>?_)
 unfold itoaM at hr
 split at hr
 case isFalse=>cases hr
 rename_i h
 obtain rfl:=Option.some.inj hr
 refine(Any.strconv_Itoa jPa n h.1 h.2 w ht).mono ?_
 rintro e w' ⟨rfl,k,os,rfl⟩
 refine⟨?_,rfl,rfl,rfl,?_,fun i hi=>?_⟩
 .rfl
 .show w.heap.size<=(w.heap++os).size
  rw[Array.size_append];omega
 .show (w.heap++os)[i]? =w.heap[i]?
  rw[Array.getElem?_append,zf hi]
end Go.Proofs.YtkglkigmdmohkaaGreatDoor
