/- strings.Join, by the kit's contract over any program. -/
import Derived.Test.YtbjikaianmpngaaGreatDoorKTab
import Derived.Test.YtbjikaianmpngaaGreatDoorKJ
import Derived.Shelf.Strings.OnBuilder
import Derived.KernelRfl
set_option linter.unusedSimpArgs false
set_option linter.unusedVariables false
namespace Go.Proofs.YtbjikaianmpngaaGreatDoor
open Go.RowKit Go.Shelf
def jAq :Ren where
 f:=fun x=>match x with
  |156=>54
  |165=>72
  |166=>73
  |169=>74
  |240=>85
  |241=>86
  |276=>101
  |277=>102
  |n=>n
 t:=fun x=>match x with
  |31=>23
  |9=>9
  |3=>3
  |4=>4
  |0=>0
  |20=>20
  |72=>108
  |76=>112
  |70=>106
  |37=>91
  |75=>111
  |127=>125
  |164=>140
  |5=>5
  |80=>114
  |n=>n
 g:=fun n=>n
theorem jAh :Lays.n156 Tryz.prog jAq where
 mixed:=by kernel_rfl
 f156:=(Tryz.func54).trans (congrArg some (by kernel_rfl))
 f165:=(Tryz.func72).trans (congrArg some (by kernel_rfl))
 f166:=(Tryz.func73).trans (congrArg some (by kernel_rfl))
 f169:=(Tryz.func74).trans (congrArg some (by kernel_rfl))
 f240:=(Tryz.func85).trans (congrArg some (by kernel_rfl))
 f241:=(Tryz.func86).trans (congrArg some (by kernel_rfl))
 f276:=(Tryz.func101).trans (congrArg some (by kernel_rfl))
 f277:=(Tryz.func102).trans (congrArg some (by kernel_rfl))
 t0:=Tryz.underlying0
 a0:=Tryz.isAgg0
 z0:=Tryz.sizeOf0
 v0:=Tryz.zeroValue0
 t3:=Tryz.underlying3
 a3:=Tryz.isAgg3
 z3:=Tryz.sizeOf3
 v3:=Tryz.zeroValue3
 t4:=Tryz.underlying4
 a4:=Tryz.isAgg4
 z4:=Tryz.sizeOf4
 v4:=Tryz.zeroValue4
 t9:=Tryz.underlying9
 a9:=Tryz.isAgg9
 z9:=Tryz.sizeOf9
 v9:=Tryz.zeroValue9
 t20:=Tryz.underlying20
 a20:=Tryz.isAgg20
 z20:=Tryz.sizeOf20
 v20:=Tryz.zeroValue20
 t31:=Tryz.underlying23
 a31:=Tryz.isAgg23
 z31:=Tryz.sizeOf23
 v31:=Tryz.zeroValue23
 t37:=Tryz.underlying91
 a37:=Tryz.isAgg91
 z37:=Tryz.sizeOf91
 v37:=Tryz.zeroValue91
 t70:=Tryz.underlying106
 a70:=Tryz.isAgg106
 z70:=Tryz.sizeOf106
 v70:=Tryz.zeroValue106
 t72:=Tryz.underlying108
 a72:=Tryz.isAgg108
 z72:=Tryz.sizeOf108
 v72:=Tryz.zeroValue108
 t75:=Tryz.underlying111
 a75:=Tryz.isAgg111
 z75:=Tryz.sizeOf111
 v75:=Tryz.zeroValue111
 t76:=Tryz.underlying112
 a76:=Tryz.isAgg112
 z76:=Tryz.sizeOf112
 v76:=Tryz.zeroValue112
 t127:=Tryz.underlying125
 a127:=Tryz.isAgg125
 z127:=Tryz.sizeOf125
 v127:=Tryz.zeroValue125
 t164:=Tryz.underlying140
 a164:=Tryz.isAgg140
 z164:=Tryz.sizeOf140
 v164:=Tryz.zeroValue140
theorem jzv :Builder.Extra Tryz.prog jAq where
 sizeBuilder:=by kernel_rfl
 liesBuilder:=by kernel_rfl
 t5:=Tryz.underlying5
 a5:=Tryz.isAgg5
 z5:=Tryz.sizeOf5
 v5:=Tryz.zeroValue5
 infoByte:=by kernel_rfl
 cellsByte:=by kernel_rfl
 sizeByte:=by kernel_rfl
 neB5:=by decide
def jQJ (xs:List (List UInt8)) (sep:List UInt8):List UInt8:=Lib.join xs sep
def jxR (xs:List (List UInt8)) (sep:List UInt8):Option (List UInt8):=if xs.length<=140737488355328/\(jQJ xs sep).length<=140737488355328 then some (jQJ xs sep)else none
theorem jBz :ModelOk Tryz.prog 54 ⟨⟨[.pv (.sl .str),.pv .str],[]⟩,⟨[.pv .str],[]⟩,fun a=>jxR a.1 a.2⟩:=by
 refine jD1 _ ⟨_,Tryz.func54,by decide,by kernel_rfl⟩ (fun xs sep r hr w a cap b o hcap ha hat hb=>?_)
 have hr':jxR xs sep=some r:=hr
 unfold jxR at hr'
 split at hr'
 case isFalse=>cases hr'
 rename_i h
 obtain rfl:jQJ xs sep=r:=Option.some.inj hr'
 match xs,hcap,ha,hat,hb,h with
 | [],hcap,ha,hat,hb,h=>
  exact(Any.strings_Join_none jAh jzv a cap (bytes sep) w).mono fun e w' ⟨he,hw⟩=>⟨he,hw▸Below.refl _ _⟩
 |x::xs,hcap,ha,hat,hb,h=>
  obtain rfl:=ha (by simp)
  have e1:((x::xs).map bytes).map (·.data.toList)=x::xs:=by
   rw[List.map_map]
   exact(List.map_congr_left (fun p _=>by simp[bytes])).trans (List.map_id _)
  have e2:(bytes sep).data.toList=sep:=by simp[bytes]
  have key:=Any.strings_Join jAh jzv b o cap ((x::xs).map bytes) (bytes sep) w (fun j y hy=>by
   rw[zaF]at hy
   obtain⟨z,hz,rfl⟩:=zaA.1 hy
   exact hat j z hz) (hb (by simp)) (by rw[zar];exact h.1) (by rw[zar];exact hcap) (by rw[e1,e2];exact h.2)
  rw[zar,e1,e2]at key
  exact key
end Go.Proofs.YtbjikaianmpngaaGreatDoor
