/- LaysC.n172 at this program, by name. -/
import Derived.Test.YtcinmmojlcchfaaGreatDoorKTab
import Derived.Test.YtcinmmojlcchfaaGreatDoorKZ
import Derived.Shelf.Strconv.AtoiAll
import Derived.KernelRfl
set_option linter.unusedSimpArgs false
set_option linter.unusedVariables false
namespace Go.Proofs.YtcinmmojlcchfaaGreatDoor
open Go.RowKit Go.Shelf
def jYy :Ren where
 f:=fun x=>match x with
  |172=>48
  |244=>116
  |245=>117
  |247=>190
  |279=>191
  |280=>192
  |281=>193
  |282=>194
  |287=>243
  |316=>244
  |171=>86
  |205=>245
  |321=>305
  |322=>306
  |243=>162
  |246=>223
  |283=>280
  |284=>281
  |285=>282
  |286=>283
  |129=>256
  |317=>322
  |318=>323
  |319=>324
  |320=>325
  |337=>341
  |338=>342
  |n=>n
 t:=fun x=>match x with
  |9=>9
  |3=>3
  |75=>88
  |76=>89
  |4=>4
  |5=>5
  |167=>224
  |37=>45
  |0=>0
  |85=>225
  |2=>2
  |168=>227
  |53=>271
  |175=>272
  |46=>200
  |210=>275
  |127=>314
  |145=>317
  |143=>315
  |21=>21
  |171=>300
  |173=>302
  |212=>332
  |51=>199
  |20=>20
  |213=>333
  |232=>366
  |233=>367
  |80=>377
  |n=>n
 g:=fun x=>match x with
  |15=>0
  |16=>1
  |17=>3
  |18=>6
  |19=>7
  |n=>n
theorem jXA :LaysC.n172 Tryz.prog jYy where
 mixed:=by kernel_rfl
 f129:=(Tryz.func256).trans (congrArg some (by kernel_rfl))
 f171:=(Tryz.func86).trans (congrArg some (by kernel_rfl))
 f172:=(Tryz.func48).trans (congrArg some (by kernel_rfl))
 f205:=(Tryz.func245).trans (congrArg some (by kernel_rfl))
 f243:=(Tryz.func162).trans (congrArg some (by kernel_rfl))
 f244:=(Tryz.func116).trans (congrArg some (by kernel_rfl))
 f245:=(Tryz.func117).trans (congrArg some (by kernel_rfl))
 f246:=(Tryz.func223).trans (congrArg some (by kernel_rfl))
 f247:=(Tryz.func190).trans (congrArg some (by kernel_rfl))
 f279:=(Tryz.func191).trans (congrArg some (by kernel_rfl))
 f280:=(Tryz.func192).trans (congrArg some (by kernel_rfl))
 f281:=(Tryz.func193).trans (congrArg some (by kernel_rfl))
 f282:=(Tryz.func194).trans (congrArg some (by kernel_rfl))
 f283:=(Tryz.func280).trans (congrArg some (by kernel_rfl))
 f284:=(Tryz.func281).trans (congrArg some (by kernel_rfl))
 f285:=(Tryz.func282).trans (congrArg some (by kernel_rfl))
 f286:=(Tryz.func283).trans (congrArg some (by kernel_rfl))
 f287:=(Tryz.func243).trans (congrArg some (by kernel_rfl))
 f316:=(Tryz.func244).trans (congrArg some (by kernel_rfl))
 f317:=(Tryz.func322).trans (congrArg some (by kernel_rfl))
 f318:=(Tryz.func323).trans (congrArg some (by kernel_rfl))
 f319:=(Tryz.func324).trans (congrArg some (by kernel_rfl))
 f320:=(Tryz.func325).trans (congrArg some (by kernel_rfl))
 f321:=(Tryz.func305).trans (congrArg some (by kernel_rfl))
 f322:=(Tryz.func306).trans (congrArg some (by kernel_rfl))
 f337:=(Tryz.func341).trans (congrArg some (by kernel_rfl))
 f338:=(Tryz.func342).trans (congrArg some (by kernel_rfl))
 t0:=Tryz.underlying0
 a0:=Tryz.isAgg0
 z0:=Tryz.sizeOf0
 v0:=Tryz.zeroValue0
 t2:=Tryz.underlying2
 a2:=Tryz.isAgg2
 z2:=Tryz.sizeOf2
 v2:=Tryz.zeroValue2
 t3:=Tryz.underlying3
 a3:=Tryz.isAgg3
 z3:=Tryz.sizeOf3
 v3:=Tryz.zeroValue3
 t4:=Tryz.underlying4
 a4:=Tryz.isAgg4
 z4:=Tryz.sizeOf4
 v4:=Tryz.zeroValue4
 t5:=Tryz.underlying5
 a5:=Tryz.isAgg5
 z5:=Tryz.sizeOf5
 v5:=Tryz.zeroValue5
 t9:=Tryz.underlying9
 a9:=Tryz.isAgg9
 z9:=Tryz.sizeOf9
 v9:=Tryz.zeroValue9
 t20:=Tryz.underlying20
 a20:=Tryz.isAgg20
 z20:=Tryz.sizeOf20
 v20:=Tryz.zeroValue20
 t21:=Tryz.underlying21
 a21:=Tryz.isAgg21
 z21:=Tryz.sizeOf21
 v21:=Tryz.zeroValue21
 t37:=Tryz.underlying45
 a37:=Tryz.isAgg45
 z37:=Tryz.sizeOf45
 v37:=Tryz.zeroValue45
 t46:=Tryz.underlying200
 a46:=Tryz.isAgg200
 z46:=Tryz.sizeOf200
 v46:=Tryz.zeroValue200
 t51:=Tryz.underlying199
 a51:=Tryz.isAgg199
 z51:=Tryz.sizeOf199
 v51:=Tryz.zeroValue199
 t53:=Tryz.underlying271
 a53:=Tryz.isAgg271
 z53:=Tryz.sizeOf271
 v53:=Tryz.zeroValue271
 t75:=Tryz.underlying88
 a75:=Tryz.isAgg88
 z75:=Tryz.sizeOf88
 v75:=Tryz.zeroValue88
 t76:=Tryz.underlying89
 a76:=Tryz.isAgg89
 z76:=Tryz.sizeOf89
 v76:=Tryz.zeroValue89
 t85:=Tryz.underlying225
 a85:=Tryz.isAgg225
 z85:=Tryz.sizeOf225
 v85:=Tryz.zeroValue225
 t127:=Tryz.underlying314
 a127:=Tryz.isAgg314
 z127:=Tryz.sizeOf314
 v127:=Tryz.zeroValue314
 t143:=Tryz.underlying315
 a143:=Tryz.isAgg315
 z143:=Tryz.sizeOf315
 v143:=Tryz.zeroValue315
 t145:=Tryz.underlying317
 a145:=Tryz.isAgg317
 z145:=Tryz.sizeOf317
 v145:=Tryz.zeroValue317
 t167:=Tryz.underlying224
 a167:=Tryz.isAgg224
 z167:=Tryz.sizeOf224
 v167:=Tryz.zeroValue224
 t168:=Tryz.underlying227
 a168:=Tryz.isAgg227
 z168:=Tryz.sizeOf227
 v168:=Tryz.zeroValue227
 t171:=Tryz.underlying300
 a171:=Tryz.isAgg300
 z171:=Tryz.sizeOf300
 v171:=Tryz.zeroValue300
 t173:=Tryz.underlying302
 a173:=Tryz.isAgg302
 z173:=Tryz.sizeOf302
 v173:=Tryz.zeroValue302
 t175:=Tryz.underlying272
 a175:=Tryz.isAgg272
 z175:=Tryz.sizeOf272
 v175:=Tryz.zeroValue272
 t210:=Tryz.underlying275
 a210:=Tryz.isAgg275
 z210:=Tryz.sizeOf275
 v210:=Tryz.zeroValue275
 t212:=Tryz.underlying332
 a212:=Tryz.isAgg332
 z212:=Tryz.sizeOf332
 v212:=Tryz.zeroValue332
 t213:=Tryz.underlying333
 a213:=Tryz.isAgg333
 z213:=Tryz.sizeOf333
 t232:=Tryz.underlying366
 a232:=Tryz.isAgg366
 z232:=Tryz.sizeOf366
 v232:=Tryz.zeroValue366
 t233:=Tryz.underlying367
 a233:=Tryz.isAgg367
 z233:=Tryz.sizeOf367
 v233:=Tryz.zeroValue367
 g15:=by kernel_rfl
 g16:=by kernel_rfl
 g17:=by kernel_rfl
 g18:=by kernel_rfl
 g19:=by kernel_rfl
 t80:=Tryz.underlying377
 a80:=Tryz.isAgg377
 z80:=Tryz.sizeOf377
 v80:=Tryz.zeroValue377
 i0:=by kernel_rfl
 i2:=by kernel_rfl
 i3:=by kernel_rfl
 i4:=by kernel_rfl
 i5:=by kernel_rfl
 i9:=by kernel_rfl
 i20:=by kernel_rfl
 i21:=by kernel_rfl
 i37:=by kernel_rfl
 i46:=by kernel_rfl
 i51:=by kernel_rfl
 i53:=by kernel_rfl
 i75:=by kernel_rfl
 i76:=by kernel_rfl
 i80:=by kernel_rfl
 i85:=by kernel_rfl
 i127:=by kernel_rfl
 i143:=by kernel_rfl
 i145:=by kernel_rfl
 i167:=by kernel_rfl
 i168:=by kernel_rfl
 i171:=by kernel_rfl
 i173:=by kernel_rfl
 i175:=by kernel_rfl
 i210:=by kernel_rfl
 i212:=by kernel_rfl
 i232:=by kernel_rfl
 i233:=by kernel_rfl
 m15:=by kernel_rfl
 m16:=by kernel_rfl
 m17:=by kernel_rfl
 m18:=by kernel_rfl
 m19:=by kernel_rfl
 c0:=by kernel_rfl
 c2:=by kernel_rfl
 c3:=by kernel_rfl
 c4:=by kernel_rfl
 c5:=by kernel_rfl
 c9:=by kernel_rfl
 c20:=by kernel_rfl
 c21:=by kernel_rfl
 c37:=by kernel_rfl
 c46:=by kernel_rfl
 c51:=by kernel_rfl
 c53:=by kernel_rfl
 c75:=by kernel_rfl
 c76:=by kernel_rfl
 c80:=by kernel_rfl
 c85:=by kernel_rfl
 c127:=by kernel_rfl
 c143:=by kernel_rfl
 c145:=by kernel_rfl
 c167:=by kernel_rfl
 c168:=by kernel_rfl
 c171:=by kernel_rfl
 c173:=by kernel_rfl
 c175:=by kernel_rfl
 c210:=by kernel_rfl
 c212:=by kernel_rfl
 c213:=by kernel_rfl
 c232:=by kernel_rfl
 c233:=by kernel_rfl
def atoiM (s:List UInt8):Option Int:=if s.length<4294967281 then some (atoiN s)else none
theorem jYw :ModelOk Tryz.prog 48 ⟨⟨[.pv .str],[]⟩,⟨[.tup [.pv (.int .i64),.dead]],[]⟩,atoiM⟩:=
 jYd _ ⟨_,Tryz.func48,by decide,by kernel_rfl⟩ (g1:=0) (g2:=1) (by kernel_rfl) (by kernel_rfl) (fun s r hr w h1 h2=>by
  unfold atoiM at hr
  split at hr
  case isFalse=>cases hr
  rename_i hl
  cases hr
  have hd:(bytes s).data.toList=s:=by simp[bytes]
  have hs:(bytes s).size<=281474976710656:=by
   show(bytes s).data.size<=_
   simp[bytes]
   omega
  cases hv:Lib.atoiAll s with
  |ok v=>
   refine(Any.strconv_Atoi_ok jXA (bytes s) (by omega) v (by rw[hd];exact hv) w).mono ?_
   rintro e w' ⟨rfl,hw⟩
   refine⟨⟨_,by unfold atoiN;rw[hv]⟩,?_⟩
   rcases hw with rfl|⟨t,rfl⟩
   .exact Below.refl _ _
   .exact Lib.bytesWorld_below _ _ _
  |range=>
   obtain⟨ev,e1,e2⟩:=h2
   refine(Any.strconv_Atoi_range jXA (bytes s) hs (by rw[hd];exact hv) ev w e1 e2).mono ?_
   rintro e w' ⟨N,rfl,_,_,bel⟩
   exact⟨⟨_,by unfold atoiN;rw[hv,hd]⟩,bel⟩
  |_=>
   obtain⟨ev,e1,e2⟩:=h1
   refine(Any.strconv_Atoi_syntax jXA (bytes s) hs (by rw[hd];exact hv) ev w e1 e2).mono ?_
   rintro e w' ⟨N,rfl,_,_,bel⟩
   exact⟨⟨_,by unfold atoiN;rw[hv]⟩,bel⟩)
end Go.Proofs.YtcinmmojlcchfaaGreatDoor
