/- strings.Join, by the kit's contract over any program. -/
import Derived.Test.YtbjikaianmpngaaDoorKTab
import Derived.Test.YtbjikaianmpngaaDoorKJ
import Derived.Shelf.Strings.OnBuilder
import Derived.KernelRfl
set_option linter.unusedSimpArgs false
set_option linter.unusedVariables false
namespace Go.Proofs.YtbjikaianmpngaaDoor
open Go.RowKit Go.Shelf
def jAq :Ren where
 f:=fun x=>match x with
  |156=>32
  |165=>50
  |166=>51
  |169=>52
  |240=>65
  |241=>66
  |276=>82
  |277=>83
  |n=>n
 t:=fun x=>match x with
  |31=>24
  |9=>9
  |3=>3
  |4=>4
  |0=>0
  |20=>20
  |72=>82
  |76=>86
  |70=>80
  |37=>22
  |75=>85
  |127=>100
  |164=>114
  |5=>5
  |80=>88
  |n=>n
 g:=fun n=>n
theorem jAh :Lays.n156 Tryd.prog jAq where
 mixed:=by kernel_rfl
 f156:=(Tryd.func32).trans (congrArg some (by kernel_rfl))
 f165:=(Tryd.func50).trans (congrArg some (by kernel_rfl))
 f166:=(Tryd.func51).trans (congrArg some (by kernel_rfl))
 f169:=(Tryd.func52).trans (congrArg some (by kernel_rfl))
 f240:=(Tryd.func65).trans (congrArg some (by kernel_rfl))
 f241:=(Tryd.func66).trans (congrArg some (by kernel_rfl))
 f276:=(Tryd.func82).trans (congrArg some (by kernel_rfl))
 f277:=(Tryd.func83).trans (congrArg some (by kernel_rfl))
 t0:=Tryd.underlying0
 a0:=Tryd.isAgg0
 z0:=Tryd.sizeOf0
 v0:=Tryd.zeroValue0
 t3:=Tryd.underlying3
 a3:=Tryd.isAgg3
 z3:=Tryd.sizeOf3
 v3:=Tryd.zeroValue3
 t4:=Tryd.underlying4
 a4:=Tryd.isAgg4
 z4:=Tryd.sizeOf4
 v4:=Tryd.zeroValue4
 t9:=Tryd.underlying9
 a9:=Tryd.isAgg9
 z9:=Tryd.sizeOf9
 v9:=Tryd.zeroValue9
 t20:=Tryd.underlying20
 a20:=Tryd.isAgg20
 z20:=Tryd.sizeOf20
 v20:=Tryd.zeroValue20
 t31:=Tryd.underlying24
 a31:=Tryd.isAgg24
 z31:=Tryd.sizeOf24
 v31:=Tryd.zeroValue24
 t37:=Tryd.underlying22
 a37:=Tryd.isAgg22
 z37:=Tryd.sizeOf22
 v37:=Tryd.zeroValue22
 t70:=Tryd.underlying80
 a70:=Tryd.isAgg80
 z70:=Tryd.sizeOf80
 v70:=Tryd.zeroValue80
 t72:=Tryd.underlying82
 a72:=Tryd.isAgg82
 z72:=Tryd.sizeOf82
 v72:=Tryd.zeroValue82
 t75:=Tryd.underlying85
 a75:=Tryd.isAgg85
 z75:=Tryd.sizeOf85
 v75:=Tryd.zeroValue85
 t76:=Tryd.underlying86
 a76:=Tryd.isAgg86
 z76:=Tryd.sizeOf86
 v76:=Tryd.zeroValue86
 t127:=Tryd.underlying100
 a127:=Tryd.isAgg100
 z127:=Tryd.sizeOf100
 v127:=Tryd.zeroValue100
 t164:=Tryd.underlying114
 a164:=Tryd.isAgg114
 z164:=Tryd.sizeOf114
 v164:=Tryd.zeroValue114
theorem jzv :Builder.Extra Tryd.prog jAq where
 sizeBuilder:=by kernel_rfl
 liesBuilder:=by kernel_rfl
 t5:=Tryd.underlying5
 a5:=Tryd.isAgg5
 z5:=Tryd.sizeOf5
 v5:=Tryd.zeroValue5
 infoByte:=by kernel_rfl
 cellsByte:=by kernel_rfl
 sizeByte:=by kernel_rfl
 neB5:=by decide
def jQJ (xs:List (List UInt8)) (sep:List UInt8):List UInt8:=Lib.join xs sep
def jxR (xs:List (List UInt8)) (sep:List UInt8):Option (List UInt8):=if xs.length<=140737488355328/\(jQJ xs sep).length<=140737488355328 then some (jQJ xs sep)else none
theorem jBz :ModelOk Tryd.prog 32 ⟨⟨[.pv (.sl .str),.pv .str],[]⟩,⟨[.pv .str],[]⟩,fun a=>jxR a.1 a.2⟩:=by
 refine jD1 _ ⟨_,Tryd.func32,by decide,by kernel_rfl⟩ (fun xs sep r hr w a cap b o hcap ha hat hb=>?_)
 have hr':jxR xs sep=some r:=hr
 unfold jxR at hr'
 split at hr'
 case isFalse=>cases hr'
 rename_i h
 obtain rfl:jQJ xs sep=r:=Option.some.inj hr'
 match xs,hcap,ha,hat,hb,h with
 | [],hcap,ha,hat,hb,h=>
  exact(Any.strings_Join_none jAh jzv a cap (bytes sep) w).mono fun e w' ⟨he,hw⟩=>⟨he,hw▸Below.refl _ _⟩
 |x::xs,hcap,ha,hat,hb,h=>
  obtain rfl:=ha (by simp)
  have e1:((x::xs).map bytes).map (·.data.toList)=x::xs:=by
   rw[List.map_map]
   exact(List.map_congr_left (fun p _=>by simp[bytes])).trans (List.map_id _)
  have e2:(bytes sep).data.toList=sep:=by simp[bytes]
  have key:=Any.strings_Join jAh jzv b o cap ((x::xs).map bytes) (bytes sep) w (fun j y hy=>by
   rw[zaF]at hy
   obtain⟨z,hz,rfl⟩:=zaA.1 hy
   exact hat j z hz) (hb (by simp)) (by rw[zar];exact h.1) (by rw[zar];exact hcap) (by rw[e1,e2];exact h.2)
  rw[zar,e1,e2]at key
  exact key
end Go.Proofs.YtbjikaianmpngaaDoor
