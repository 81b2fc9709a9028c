/- strings.Join, by the kit's contract over any program. -/
import Derived.Test.YtnkagklajgimlaaGreatDoorKTab
import Derived.Test.YtnkagklajgimlaaGreatDoorKZ
import Derived.Shelf.Strings.OnBuilder
import Derived.KernelRfl
set_option linter.unusedSimpArgs false
set_option linter.unusedVariables false
namespace Go.Proofs.YtnkagklajgimlaaGreatDoor
open Go.RowKit Go.Shelf
def Pj :Ren where
 f:=fun x=>match x with
  |156=>208
  |165=>286
  |166=>287
  |169=>288
  |240=>328
  |241=>329
  |276=>346
  |277=>347
  |n=>n
 t:=fun x=>match x with
  |31=>26
  |9=>9
  |3=>3
  |4=>4
  |0=>0
  |20=>20
  |72=>321
  |76=>149
  |70=>319
  |37=>22
  |75=>148
  |127=>351
  |164=>360
  |5=>5
  |80=>208
  |n=>n
 g:=fun n=>n
theorem Ph :Lays.n156 Tryz.prog Pj where
 mixed:=by kernel_rfl
 f156:=(Tryz.func208).trans (congrArg some (by kernel_rfl))
 f165:=(Tryz.func286).trans (congrArg some (by kernel_rfl))
 f166:=(Tryz.func287).trans (congrArg some (by kernel_rfl))
 f169:=(Tryz.func288).trans (congrArg some (by kernel_rfl))
 f240:=(Tryz.func328).trans (congrArg some (by kernel_rfl))
 f241:=(Tryz.func329).trans (congrArg some (by kernel_rfl))
 f276:=(Tryz.func346).trans (congrArg some (by kernel_rfl))
 f277:=(Tryz.func347).trans (congrArg some (by kernel_rfl))
 t0:=Tryz.underlying0
 a0:=Tryz.isAgg0
 z0:=Tryz.sizeOf0
 v0:=Tryz.zeroValue0
 t3:=Tryz.underlying3
 a3:=Tryz.isAgg3
 z3:=Tryz.sizeOf3
 v3:=Tryz.zeroValue3
 t4:=Tryz.underlying4
 a4:=Tryz.isAgg4
 z4:=Tryz.sizeOf4
 v4:=Tryz.zeroValue4
 t9:=Tryz.underlying9
 a9:=Tryz.isAgg9
 z9:=Tryz.sizeOf9
 v9:=Tryz.zeroValue9
 t20:=Tryz.underlying20
 a20:=Tryz.isAgg20
 z20:=Tryz.sizeOf20
 v20:=Tryz.zeroValue20
 t31:=Tryz.underlying26
 a31:=Tryz.isAgg26
 z31:=Tryz.sizeOf26
 v31:=Tryz.zeroValue26
 t37:=Tryz.underlying22
 a37:=Tryz.isAgg22
 z37:=Tryz.sizeOf22
 v37:=Tryz.zeroValue22
 t70:=Tryz.underlying319
 a70:=Tryz.isAgg319
 z70:=Tryz.sizeOf319
 v70:=Tryz.zeroValue319
 t72:=Tryz.underlying321
 a72:=Tryz.isAgg321
 z72:=Tryz.sizeOf321
 v72:=Tryz.zeroValue321
 t75:=Tryz.underlying148
 a75:=Tryz.isAgg148
 z75:=Tryz.sizeOf148
 v75:=Tryz.zeroValue148
 t76:=Tryz.underlying149
 a76:=Tryz.isAgg149
 z76:=Tryz.sizeOf149
 v76:=Tryz.zeroValue149
 t127:=Tryz.underlying351
 a127:=Tryz.isAgg351
 z127:=Tryz.sizeOf351
 v127:=Tryz.zeroValue351
 t164:=Tryz.underlying360
 a164:=Tryz.isAgg360
 z164:=Tryz.sizeOf360
 v164:=Tryz.zeroValue360
theorem RO :Builder.Extra Tryz.prog Pj where
 sizeBuilder:=by kernel_rfl
 liesBuilder:=by kernel_rfl
 t5:=Tryz.underlying5
 a5:=Tryz.isAgg5
 z5:=Tryz.sizeOf5
 v5:=Tryz.zeroValue5
 infoByte:=by kernel_rfl
 cellsByte:=by kernel_rfl
 sizeByte:=by kernel_rfl
 neB5:=by decide
def e9 (xs:List (List UInt8)) (sep:List UInt8):List UInt8:=Lib.join xs sep
def yi (xs:List (List UInt8)) (sep:List UInt8):Option (List UInt8):=if xs.length<=140737488355328/\(e9 xs sep).length<=140737488355328 then some (e9 xs sep)else none
theorem adS :ig Tryz.prog 208 ⟨⟨[.af (.ar .str),.af .str],[]⟩,⟨[.af .str],[]⟩,fun a=>yi a.1 a.2⟩:=by
 refine aes _ ⟨_,Tryz.func208,by decide,by kernel_rfl⟩ (fun xs sep r s w a cap b o c g d i=>?_)
 have f:yi xs sep=some r:=s
 unfold yi at f
 split at f
 case isFalse=>cases f
 rename_i h
 obtain rfl:e9 xs sep=r:=Option.some.inj f
 match xs,c,g,d,i,h with
 | [],c,g,d,i,h=>
  exact(Any.strings_Join_none Ph RO a cap (bytes sep) w).mono fun e w' ⟨he,hw⟩=>⟨he,hw▸Below.refl _ _⟩
 |x::xs,c,g,d,i,h=>
  obtain rfl:=g (by simp)
  have k:((x::xs).map bytes).map (·.data.toList)=x::xs:=by
   rw[mb]
   exact(l8 (fun p _=>by simp[bytes])).trans (List.map_id _)
  have l:(bytes sep).data.toList=sep:=by simp[bytes]
  have key:=Any.strings_Join Ph RO b o cap ((x::xs).map bytes) (bytes sep) w (fun j y hy=>by
   rw[iC]at hy
   obtain⟨z,t,rfl⟩:=hT.1 hy
   exact d j z t) (i (by simp)) (by rw[dE];exact h.1) (by rw[dE];exact c) (by rw[k,l];exact h.2)
  rw[dE,k,l]at key
  exact key
end Go.Proofs.YtnkagklajgimlaaGreatDoor
