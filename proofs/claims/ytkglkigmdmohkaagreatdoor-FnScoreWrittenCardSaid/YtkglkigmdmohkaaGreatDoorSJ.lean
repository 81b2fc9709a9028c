/- strings.Join, by the kit's contract over any program. -/
import Derived.Test.YtkglkigmdmohkaaGreatDoorKTab
import Derived.Test.YtkglkigmdmohkaaGreatDoorKZ
import Derived.Shelf.Strings.OnBuilder
import Derived.KernelRfl
set_option linter.unusedSimpArgs false
set_option linter.unusedVariables false
namespace Go.Proofs.YtkglkigmdmohkaaGreatDoor
open Go.RowKit Go.Shelf
def jAq :Ren where
 f:=fun x=>match x with
  |156=>44
  |165=>87
  |166=>88
  |169=>89
  |240=>135
  |241=>136
  |276=>180
  |277=>181
  |n=>n
 t:=fun x=>match x with
  |31=>23
  |9=>9
  |3=>3
  |4=>4
  |0=>0
  |20=>20
  |72=>147
  |76=>143
  |70=>145
  |37=>22
  |75=>142
  |127=>182
  |164=>213
  |5=>5
  |80=>63
  |n=>n
 g:=fun n=>n
theorem jAh :Lays.n156 Tryz.prog jAq where
 mixed:=by kernel_rfl
 f156:=(Tryz.func44).trans (congrArg some (by kernel_rfl))
 f165:=(Tryz.func87).trans (congrArg some (by kernel_rfl))
 f166:=(Tryz.func88).trans (congrArg some (by kernel_rfl))
 f169:=(Tryz.func89).trans (congrArg some (by kernel_rfl))
 f240:=(Tryz.func135).trans (congrArg some (by kernel_rfl))
 f241:=(Tryz.func136).trans (congrArg some (by kernel_rfl))
 f276:=(Tryz.func180).trans (congrArg some (by kernel_rfl))
 f277:=(Tryz.func181).trans (congrArg some (by kernel_rfl))
 t0:=Tryz.underlying0
 a0:=Tryz.isAgg0
 z0:=Tryz.sizeOf0
 v0:=Tryz.zeroValue0
 t3:=Tryz.underlying3
 a3:=Tryz.isAgg3
 z3:=Tryz.sizeOf3
 v3:=Tryz.zeroValue3
 t4:=Tryz.underlying4
 a4:=Tryz.isAgg4
 z4:=Tryz.sizeOf4
 v4:=Tryz.zeroValue4
 t9:=Tryz.underlying9
 a9:=Tryz.isAgg9
 z9:=Tryz.sizeOf9
 v9:=Tryz.zeroValue9
 t20:=Tryz.underlying20
 a20:=Tryz.isAgg20
 z20:=Tryz.sizeOf20
 v20:=Tryz.zeroValue20
 t31:=Tryz.underlying23
 a31:=Tryz.isAgg23
 z31:=Tryz.sizeOf23
 v31:=Tryz.zeroValue23
 t37:=Tryz.underlying22
 a37:=Tryz.isAgg22
 z37:=Tryz.sizeOf22
 v37:=Tryz.zeroValue22
 t70:=Tryz.underlying145
 a70:=Tryz.isAgg145
 z70:=Tryz.sizeOf145
 v70:=Tryz.zeroValue145
 t72:=Tryz.underlying147
 a72:=Tryz.isAgg147
 z72:=Tryz.sizeOf147
 v72:=Tryz.zeroValue147
 t75:=Tryz.underlying142
 a75:=Tryz.isAgg142
 z75:=Tryz.sizeOf142
 v75:=Tryz.zeroValue142
 t76:=Tryz.underlying143
 a76:=Tryz.isAgg143
 z76:=Tryz.sizeOf143
 v76:=Tryz.zeroValue143
 t127:=Tryz.underlying182
 a127:=Tryz.isAgg182
 z127:=Tryz.sizeOf182
 v127:=Tryz.zeroValue182
 t164:=Tryz.underlying213
 a164:=Tryz.isAgg213
 z164:=Tryz.sizeOf213
 v164:=Tryz.zeroValue213
theorem jzv :Builder.Extra Tryz.prog jAq where
 sizeBuilder:=by kernel_rfl
 liesBuilder:=by kernel_rfl
 t5:=Tryz.underlying5
 a5:=Tryz.isAgg5
 z5:=Tryz.sizeOf5
 v5:=Tryz.zeroValue5
 infoByte:=by kernel_rfl
 cellsByte:=by kernel_rfl
 sizeByte:=by kernel_rfl
 neB5:=by decide
def joinL (xs:List (List UInt8)) (sep:List UInt8):List UInt8:=Lib.join xs sep
def jxR (xs:List (List UInt8)) (sep:List UInt8):Option (List UInt8):=if xs.length<=140737488355328/\(joinL xs sep).length<=140737488355328 then some (joinL xs sep)else none
theorem jBz :ModelOk Tryz.prog 44 ⟨⟨[.pv (.sl .str),.pv .str],[]⟩,⟨[.pv .str],[]⟩,fun a=>jxR a.1 a.2⟩:=by
 refine jD1 _ ⟨_,Tryz.func44,by decide,by kernel_rfl⟩ (fun xs sep r hr w a cap b o hcap ha hat hb=>?_)
 have hr':jxR xs sep=some r:=hr
 unfold jxR at hr'
 split at hr'
 case isFalse=>cases hr'
 rename_i h
 obtain rfl:joinL xs sep=r:=Option.some.inj hr'
 match xs,hcap,ha,hat,hb,h with
 | [],hcap,ha,hat,hb,h=>
  exact(Any.strings_Join_none jAh jzv a cap (bytes sep) w).mono fun e w' ⟨he,hw⟩=>⟨he,hw▸Below.refl _ _⟩
 |x::xs,hcap,ha,hat,hb,h=>
  obtain rfl:=ha (by simp)
  have e1:((x::xs).map bytes).map (·.data.toList)=x::xs:=by
   rw[zbO]
   exact(za0 (fun p _=>by simp[bytes])).trans (List.map_id _)
  have e2:(bytes sep).data.toList=sep:=by simp[bytes]
  have key:=Any.strings_Join jAh jzv b o cap ((x::xs).map bytes) (bytes sep) w (fun j y hy=>by
   rw[zaF]at hy
   obtain⟨z,hz,rfl⟩:=zaA.1 hy
   exact hat j z hz) (hb (by simp)) (by rw[zar];exact h.1) (by rw[zar];exact hcap) (by rw[e1,e2];exact h.2)
  rw[zar,e1,e2]at key
  exact key
end Go.Proofs.YtkglkigmdmohkaaGreatDoor
