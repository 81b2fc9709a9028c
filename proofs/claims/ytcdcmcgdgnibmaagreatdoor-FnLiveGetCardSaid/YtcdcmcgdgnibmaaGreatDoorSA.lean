/- LaysC.n172 at this program, by name. -/
import Derived.Test.YtcdcmcgdgnibmaaGreatDoorKTab
import Derived.Test.YtcdcmcgdgnibmaaGreatDoorKZ
import Derived.Shelf.Strconv.AtoiAll
import Derived.KernelRfl
set_option linter.unusedSimpArgs false
set_option linter.unusedVariables false
namespace Go.Proofs.YtcdcmcgdgnibmaaGreatDoor
open Go.RowKit Go.Shelf
def jYy :Ren where
 f:=fun x=>match x with
  |172=>46
  |244=>106
  |245=>107
  |247=>176
  |279=>177
  |280=>178
  |281=>179
  |282=>180
  |287=>231
  |316=>232
  |171=>40
  |205=>233
  |321=>279
  |322=>280
  |243=>92
  |246=>166
  |283=>219
  |284=>220
  |285=>221
  |286=>222
  |129=>244
  |317=>270
  |318=>271
  |319=>272
  |320=>273
  |337=>296
  |338=>297
  |n=>n
 t:=fun x=>match x with
  |9=>9
  |3=>3
  |75=>90
  |76=>91
  |4=>4
  |5=>5
  |167=>199
  |37=>22
  |0=>0
  |85=>200
  |2=>2
  |168=>202
  |53=>241
  |175=>249
  |46=>220
  |210=>252
  |127=>285
  |145=>288
  |143=>286
  |21=>21
  |171=>240
  |173=>244
  |212=>283
  |51=>234
  |20=>20
  |213=>284
  |232=>311
  |233=>312
  |80=>313
  |n=>n
 g:=fun x=>match x with
  |15=>0
  |16=>1
  |17=>2
  |18=>6
  |19=>7
  |n=>n
theorem jXA :LaysC.n172 Tryz.prog jYy where
 mixed:=by kernel_rfl
 f129:=(Tryz.func244).trans (congrArg some (by kernel_rfl))
 f171:=(Tryz.func40).trans (congrArg some (by kernel_rfl))
 f172:=(Tryz.func46).trans (congrArg some (by kernel_rfl))
 f205:=(Tryz.func233).trans (congrArg some (by kernel_rfl))
 f243:=(Tryz.func92).trans (congrArg some (by kernel_rfl))
 f244:=(Tryz.func106).trans (congrArg some (by kernel_rfl))
 f245:=(Tryz.func107).trans (congrArg some (by kernel_rfl))
 f246:=(Tryz.func166).trans (congrArg some (by kernel_rfl))
 f247:=(Tryz.func176).trans (congrArg some (by kernel_rfl))
 f279:=(Tryz.func177).trans (congrArg some (by kernel_rfl))
 f280:=(Tryz.func178).trans (congrArg some (by kernel_rfl))
 f281:=(Tryz.func179).trans (congrArg some (by kernel_rfl))
 f282:=(Tryz.func180).trans (congrArg some (by kernel_rfl))
 f283:=(Tryz.func219).trans (congrArg some (by kernel_rfl))
 f284:=(Tryz.func220).trans (congrArg some (by kernel_rfl))
 f285:=(Tryz.func221).trans (congrArg some (by kernel_rfl))
 f286:=(Tryz.func222).trans (congrArg some (by kernel_rfl))
 f287:=(Tryz.func231).trans (congrArg some (by kernel_rfl))
 f316:=(Tryz.func232).trans (congrArg some (by kernel_rfl))
 f317:=(Tryz.func270).trans (congrArg some (by kernel_rfl))
 f318:=(Tryz.func271).trans (congrArg some (by kernel_rfl))
 f319:=(Tryz.func272).trans (congrArg some (by kernel_rfl))
 f320:=(Tryz.func273).trans (congrArg some (by kernel_rfl))
 f321:=(Tryz.func279).trans (congrArg some (by kernel_rfl))
 f322:=(Tryz.func280).trans (congrArg some (by kernel_rfl))
 f337:=(Tryz.func296).trans (congrArg some (by kernel_rfl))
 f338:=(Tryz.func297).trans (congrArg some (by kernel_rfl))
 t0:=Tryz.underlying0
 a0:=Tryz.isAgg0
 z0:=Tryz.sizeOf0
 v0:=Tryz.zeroValue0
 t2:=Tryz.underlying2
 a2:=Tryz.isAgg2
 z2:=Tryz.sizeOf2
 v2:=Tryz.zeroValue2
 t3:=Tryz.underlying3
 a3:=Tryz.isAgg3
 z3:=Tryz.sizeOf3
 v3:=Tryz.zeroValue3
 t4:=Tryz.underlying4
 a4:=Tryz.isAgg4
 z4:=Tryz.sizeOf4
 v4:=Tryz.zeroValue4
 t5:=Tryz.underlying5
 a5:=Tryz.isAgg5
 z5:=Tryz.sizeOf5
 v5:=Tryz.zeroValue5
 t9:=Tryz.underlying9
 a9:=Tryz.isAgg9
 z9:=Tryz.sizeOf9
 v9:=Tryz.zeroValue9
 t20:=Tryz.underlying20
 a20:=Tryz.isAgg20
 z20:=Tryz.sizeOf20
 v20:=Tryz.zeroValue20
 t21:=Tryz.underlying21
 a21:=Tryz.isAgg21
 z21:=Tryz.sizeOf21
 v21:=Tryz.zeroValue21
 t37:=Tryz.underlying22
 a37:=Tryz.isAgg22
 z37:=Tryz.sizeOf22
 v37:=Tryz.zeroValue22
 t46:=Tryz.underlying220
 a46:=Tryz.isAgg220
 z46:=Tryz.sizeOf220
 v46:=Tryz.zeroValue220
 t51:=Tryz.underlying234
 a51:=Tryz.isAgg234
 z51:=Tryz.sizeOf234
 v51:=Tryz.zeroValue234
 t53:=Tryz.underlying241
 a53:=Tryz.isAgg241
 z53:=Tryz.sizeOf241
 v53:=Tryz.zeroValue241
 t75:=Tryz.underlying90
 a75:=Tryz.isAgg90
 z75:=Tryz.sizeOf90
 v75:=Tryz.zeroValue90
 t76:=Tryz.underlying91
 a76:=Tryz.isAgg91
 z76:=Tryz.sizeOf91
 v76:=Tryz.zeroValue91
 t85:=Tryz.underlying200
 a85:=Tryz.isAgg200
 z85:=Tryz.sizeOf200
 v85:=Tryz.zeroValue200
 t127:=Tryz.underlying285
 a127:=Tryz.isAgg285
 z127:=Tryz.sizeOf285
 v127:=Tryz.zeroValue285
 t143:=Tryz.underlying286
 a143:=Tryz.isAgg286
 z143:=Tryz.sizeOf286
 v143:=Tryz.zeroValue286
 t145:=Tryz.underlying288
 a145:=Tryz.isAgg288
 z145:=Tryz.sizeOf288
 v145:=Tryz.zeroValue288
 t167:=Tryz.underlying199
 a167:=Tryz.isAgg199
 z167:=Tryz.sizeOf199
 v167:=Tryz.zeroValue199
 t168:=Tryz.underlying202
 a168:=Tryz.isAgg202
 z168:=Tryz.sizeOf202
 v168:=Tryz.zeroValue202
 t171:=Tryz.underlying240
 a171:=Tryz.isAgg240
 z171:=Tryz.sizeOf240
 v171:=Tryz.zeroValue240
 t173:=Tryz.underlying244
 a173:=Tryz.isAgg244
 z173:=Tryz.sizeOf244
 v173:=Tryz.zeroValue244
 t175:=Tryz.underlying249
 a175:=Tryz.isAgg249
 z175:=Tryz.sizeOf249
 v175:=Tryz.zeroValue249
 t210:=Tryz.underlying252
 a210:=Tryz.isAgg252
 z210:=Tryz.sizeOf252
 v210:=Tryz.zeroValue252
 t212:=Tryz.underlying283
 a212:=Tryz.isAgg283
 z212:=Tryz.sizeOf283
 v212:=Tryz.zeroValue283
 t213:=Tryz.underlying284
 a213:=Tryz.isAgg284
 z213:=Tryz.sizeOf284
 t232:=Tryz.underlying311
 a232:=Tryz.isAgg311
 z232:=Tryz.sizeOf311
 v232:=Tryz.zeroValue311
 t233:=Tryz.underlying312
 a233:=Tryz.isAgg312
 z233:=Tryz.sizeOf312
 v233:=Tryz.zeroValue312
 g15:=by kernel_rfl
 g16:=by kernel_rfl
 g17:=by kernel_rfl
 g18:=by kernel_rfl
 g19:=by kernel_rfl
 t80:=Tryz.underlying313
 a80:=Tryz.isAgg313
 z80:=Tryz.sizeOf313
 v80:=Tryz.zeroValue313
 i0:=by kernel_rfl
 i2:=by kernel_rfl
 i3:=by kernel_rfl
 i4:=by kernel_rfl
 i5:=by kernel_rfl
 i9:=by kernel_rfl
 i20:=by kernel_rfl
 i21:=by kernel_rfl
 i37:=by kernel_rfl
 i46:=by kernel_rfl
 i51:=by kernel_rfl
 i53:=by kernel_rfl
 i75:=by kernel_rfl
 i76:=by kernel_rfl
 i80:=by kernel_rfl
 i85:=by kernel_rfl
 i127:=by kernel_rfl
 i143:=by kernel_rfl
 i145:=by kernel_rfl
 i167:=by kernel_rfl
 i168:=by kernel_rfl
 i171:=by kernel_rfl
 i173:=by kernel_rfl
 i175:=by kernel_rfl
 i210:=by kernel_rfl
 i212:=by kernel_rfl
 i232:=by kernel_rfl
 i233:=by kernel_rfl
 m15:=by kernel_rfl
 m16:=by kernel_rfl
 m17:=by kernel_rfl
 m18:=by kernel_rfl
 m19:=by kernel_rfl
 c0:=by kernel_rfl
 c2:=by kernel_rfl
 c3:=by kernel_rfl
 c4:=by kernel_rfl
 c5:=by kernel_rfl
 c9:=by kernel_rfl
 c20:=by kernel_rfl
 c21:=by kernel_rfl
 c37:=by kernel_rfl
 c46:=by kernel_rfl
 c51:=by kernel_rfl
 c53:=by kernel_rfl
 c75:=by kernel_rfl
 c76:=by kernel_rfl
 c80:=by kernel_rfl
 c85:=by kernel_rfl
 c127:=by kernel_rfl
 c143:=by kernel_rfl
 c145:=by kernel_rfl
 c167:=by kernel_rfl
 c168:=by kernel_rfl
 c171:=by kernel_rfl
 c173:=by kernel_rfl
 c175:=by kernel_rfl
 c210:=by kernel_rfl
 c212:=by kernel_rfl
 c213:=by kernel_rfl
 c232:=by kernel_rfl
 c233:=by kernel_rfl
def atoiM (s:List UInt8):Option Int:=if s.length<4294967281 then some (atoiN s)else none
theorem jYw :ModelOk Tryz.prog 46 ⟨⟨[.pv .str],[]⟩,⟨[.tup [.pv (.int .i64),.dead]],[]⟩,atoiM⟩:=
 jYd _ ⟨_,Tryz.func46,by decide,by kernel_rfl⟩ (g1:=0) (g2:=1) (by kernel_rfl) (by kernel_rfl) (fun s r hr w h1 h2=>by
  unfold atoiM at hr
  split at hr
  case isFalse=>cases hr
  rename_i hl
  cases hr
  have hd:(bytes s).data.toList=s:=by simp[bytes]
  have hs:(bytes s).size<=281474976710656:=by
   show(bytes s).data.size<=_
   simp[bytes]
   omega
  cases hv:Lib.atoiAll s with
  |ok v=>
   refine(Any.strconv_Atoi_ok jXA (bytes s) (by omega) v (by rw[hd];exact hv) w).mono ?_
   rintro e w' ⟨rfl,hw⟩
   refine⟨⟨_,by unfold atoiN;rw[hv]⟩,?_⟩
   rcases hw with rfl|⟨t,rfl⟩
   .exact Below.refl _ _
   .exact Lib.bytesWorld_below _ _ _
  |range=>
   obtain⟨ev,e1,e2⟩:=h2
   refine(Any.strconv_Atoi_range jXA (bytes s) hs (by rw[hd];exact hv) ev w e1 e2).mono ?_
   rintro e w' ⟨N,rfl,_,_,bel⟩
   exact⟨⟨_,by unfold atoiN;rw[hv,hd]⟩,bel⟩
  |_=>
   obtain⟨ev,e1,e2⟩:=h1
   refine(Any.strconv_Atoi_syntax jXA (bytes s) hs (by rw[hd];exact hv) ev w e1 e2).mono ?_
   rintro e w' ⟨N,rfl,_,_,bel⟩
   exact⟨⟨_,by unfold atoiN;rw[hv]⟩,bel⟩)
end Go.Proofs.YtcdcmcgdgnibmaaGreatDoor
