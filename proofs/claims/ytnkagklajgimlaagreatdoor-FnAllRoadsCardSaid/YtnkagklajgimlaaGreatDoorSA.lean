/- LaysC.n172 at this program, by name. -/
import Derived.Test.YtnkagklajgimlaaGreatDoorKTab
import Derived.Test.YtnkagklajgimlaaGreatDoorKZ
import Derived.Shelf.Strconv.AtoiAll
import Derived.KernelRfl
set_option linter.unusedSimpArgs false
set_option linter.unusedVariables false
namespace Go.Proofs.YtnkagklajgimlaaGreatDoor
open Go.RowKit Go.Shelf
def aid :Ren where
 f:=fun x=>match x with
  |172=>87
  |244=>154
  |245=>155
  |247=>226
  |279=>227
  |280=>228
  |281=>229
  |282=>230
  |287=>298
  |316=>299
  |171=>31
  |205=>300
  |321=>334
  |322=>335
  |243=>82
  |246=>152
  |283=>214
  |284=>215
  |285=>216
  |286=>217
  |129=>198
  |317=>291
  |318=>292
  |319=>293
  |320=>294
  |337=>331
  |338=>332
  |n=>n
 t:=fun x=>match x with
  |9=>9
  |3=>3
  |75=>148
  |76=>149
  |4=>4
  |5=>5
  |167=>274
  |37=>22
  |0=>0
  |85=>275
  |2=>2
  |168=>277
  |53=>255
  |175=>329
  |46=>142
  |210=>332
  |127=>351
  |145=>355
  |143=>353
  |21=>21
  |171=>265
  |173=>267
  |212=>325
  |51=>141
  |20=>20
  |213=>326
  |232=>363
  |233=>364
  |80=>208
  |n=>n
 g:=fun x=>match x with
  |15=>3
  |16=>4
  |17=>2
  |18=>7
  |19=>8
  |n=>n
theorem HU :LaysC.n172 Tryz.prog aid where
 mixed:=by kernel_rfl
 f129:=(Tryz.func198).trans (congrArg some (by kernel_rfl))
 f171:=(Tryz.func31).trans (congrArg some (by kernel_rfl))
 f172:=(Tryz.func87).trans (congrArg some (by kernel_rfl))
 f205:=(Tryz.func300).trans (congrArg some (by kernel_rfl))
 f243:=(Tryz.func82).trans (congrArg some (by kernel_rfl))
 f244:=(Tryz.func154).trans (congrArg some (by kernel_rfl))
 f245:=(Tryz.func155).trans (congrArg some (by kernel_rfl))
 f246:=(Tryz.func152).trans (congrArg some (by kernel_rfl))
 f247:=(Tryz.func226).trans (congrArg some (by kernel_rfl))
 f279:=(Tryz.func227).trans (congrArg some (by kernel_rfl))
 f280:=(Tryz.func228).trans (congrArg some (by kernel_rfl))
 f281:=(Tryz.func229).trans (congrArg some (by kernel_rfl))
 f282:=(Tryz.func230).trans (congrArg some (by kernel_rfl))
 f283:=(Tryz.func214).trans (congrArg some (by kernel_rfl))
 f284:=(Tryz.func215).trans (congrArg some (by kernel_rfl))
 f285:=(Tryz.func216).trans (congrArg some (by kernel_rfl))
 f286:=(Tryz.func217).trans (congrArg some (by kernel_rfl))
 f287:=(Tryz.func298).trans (congrArg some (by kernel_rfl))
 f316:=(Tryz.func299).trans (congrArg some (by kernel_rfl))
 f317:=(Tryz.func291).trans (congrArg some (by kernel_rfl))
 f318:=(Tryz.func292).trans (congrArg some (by kernel_rfl))
 f319:=(Tryz.func293).trans (congrArg some (by kernel_rfl))
 f320:=(Tryz.func294).trans (congrArg some (by kernel_rfl))
 f321:=(Tryz.func334).trans (congrArg some (by kernel_rfl))
 f322:=(Tryz.func335).trans (congrArg some (by kernel_rfl))
 f337:=(Tryz.func331).trans (congrArg some (by kernel_rfl))
 f338:=(Tryz.func332).trans (congrArg some (by kernel_rfl))
 t0:=Tryz.underlying0
 a0:=Tryz.isAgg0
 z0:=Tryz.sizeOf0
 v0:=Tryz.zeroValue0
 t2:=Tryz.underlying2
 a2:=Tryz.isAgg2
 z2:=Tryz.sizeOf2
 v2:=Tryz.zeroValue2
 t3:=Tryz.underlying3
 a3:=Tryz.isAgg3
 z3:=Tryz.sizeOf3
 v3:=Tryz.zeroValue3
 t4:=Tryz.underlying4
 a4:=Tryz.isAgg4
 z4:=Tryz.sizeOf4
 v4:=Tryz.zeroValue4
 t5:=Tryz.underlying5
 a5:=Tryz.isAgg5
 z5:=Tryz.sizeOf5
 v5:=Tryz.zeroValue5
 t9:=Tryz.underlying9
 a9:=Tryz.isAgg9
 z9:=Tryz.sizeOf9
 v9:=Tryz.zeroValue9
 t20:=Tryz.underlying20
 a20:=Tryz.isAgg20
 z20:=Tryz.sizeOf20
 v20:=Tryz.zeroValue20
 t21:=Tryz.underlying21
 a21:=Tryz.isAgg21
 z21:=Tryz.sizeOf21
 v21:=Tryz.zeroValue21
 t37:=Tryz.underlying22
 a37:=Tryz.isAgg22
 z37:=Tryz.sizeOf22
 v37:=Tryz.zeroValue22
 t46:=Tryz.underlying142
 a46:=Tryz.isAgg142
 z46:=Tryz.sizeOf142
 v46:=Tryz.zeroValue142
 t51:=Tryz.underlying141
 a51:=Tryz.isAgg141
 z51:=Tryz.sizeOf141
 v51:=Tryz.zeroValue141
 t53:=Tryz.underlying255
 a53:=Tryz.isAgg255
 z53:=Tryz.sizeOf255
 v53:=Tryz.zeroValue255
 t75:=Tryz.underlying148
 a75:=Tryz.isAgg148
 z75:=Tryz.sizeOf148
 v75:=Tryz.zeroValue148
 t76:=Tryz.underlying149
 a76:=Tryz.isAgg149
 z76:=Tryz.sizeOf149
 v76:=Tryz.zeroValue149
 t85:=Tryz.underlying275
 a85:=Tryz.isAgg275
 z85:=Tryz.sizeOf275
 v85:=Tryz.zeroValue275
 t127:=Tryz.underlying351
 a127:=Tryz.isAgg351
 z127:=Tryz.sizeOf351
 v127:=Tryz.zeroValue351
 t143:=Tryz.underlying353
 a143:=Tryz.isAgg353
 z143:=Tryz.sizeOf353
 v143:=Tryz.zeroValue353
 t145:=Tryz.underlying355
 a145:=Tryz.isAgg355
 z145:=Tryz.sizeOf355
 v145:=Tryz.zeroValue355
 t167:=Tryz.underlying274
 a167:=Tryz.isAgg274
 z167:=Tryz.sizeOf274
 v167:=Tryz.zeroValue274
 t168:=Tryz.underlying277
 a168:=Tryz.isAgg277
 z168:=Tryz.sizeOf277
 v168:=Tryz.zeroValue277
 t171:=Tryz.underlying265
 a171:=Tryz.isAgg265
 z171:=Tryz.sizeOf265
 v171:=Tryz.zeroValue265
 t173:=Tryz.underlying267
 a173:=Tryz.isAgg267
 z173:=Tryz.sizeOf267
 v173:=Tryz.zeroValue267
 t175:=Tryz.underlying329
 a175:=Tryz.isAgg329
 z175:=Tryz.sizeOf329
 v175:=Tryz.zeroValue329
 t210:=Tryz.underlying332
 a210:=Tryz.isAgg332
 z210:=Tryz.sizeOf332
 v210:=Tryz.zeroValue332
 t212:=Tryz.underlying325
 a212:=Tryz.isAgg325
 z212:=Tryz.sizeOf325
 v212:=Tryz.zeroValue325
 t213:=Tryz.underlying326
 a213:=Tryz.isAgg326
 z213:=Tryz.sizeOf326
 t232:=Tryz.underlying363
 a232:=Tryz.isAgg363
 z232:=Tryz.sizeOf363
 v232:=Tryz.zeroValue363
 t233:=Tryz.underlying364
 a233:=Tryz.isAgg364
 z233:=Tryz.sizeOf364
 v233:=Tryz.zeroValue364
 g15:=by kernel_rfl
 g16:=by kernel_rfl
 g17:=by kernel_rfl
 g18:=by kernel_rfl
 g19:=by kernel_rfl
 t80:=Tryz.underlying208
 a80:=Tryz.isAgg208
 z80:=Tryz.sizeOf208
 v80:=Tryz.zeroValue208
 i0:=by kernel_rfl
 i2:=by kernel_rfl
 i3:=by kernel_rfl
 i4:=by kernel_rfl
 i5:=by kernel_rfl
 i9:=by kernel_rfl
 i20:=by kernel_rfl
 i21:=by kernel_rfl
 i37:=by kernel_rfl
 i46:=by kernel_rfl
 i51:=by kernel_rfl
 i53:=by kernel_rfl
 i75:=by kernel_rfl
 i76:=by kernel_rfl
 i80:=by kernel_rfl
 i85:=by kernel_rfl
 i127:=by kernel_rfl
 i143:=by kernel_rfl
 i145:=by kernel_rfl
 i167:=by kernel_rfl
 i168:=by kernel_rfl
 i171:=by kernel_rfl
 i173:=by kernel_rfl
 i175:=by kernel_rfl
 i210:=by kernel_rfl
 i212:=by kernel_rfl
 i232:=by kernel_rfl
 i233:=by kernel_rfl
 m15:=by kernel_rfl
 m16:=by kernel_rfl
 m17:=by kernel_rfl
 m18:=by kernel_rfl
 m19:=by kernel_rfl
 c0:=by kernel_rfl
 c2:=by kernel_rfl
 c3:=by kernel_rfl
 c4:=by kernel_rfl
 c5:=by kernel_rfl
 c9:=by kernel_rfl
 c20:=by kernel_rfl
 c21:=by kernel_rfl
 c37:=by kernel_rfl
 c46:=by kernel_rfl
 c51:=by kernel_rfl
 c53:=by kernel_rfl
 c75:=by kernel_rfl
 c76:=by kernel_rfl
 c80:=by kernel_rfl
 c85:=by kernel_rfl
 c127:=by kernel_rfl
 c143:=by kernel_rfl
 c145:=by kernel_rfl
 c167:=by kernel_rfl
 c168:=by kernel_rfl
 c171:=by kernel_rfl
 c173:=by kernel_rfl
 c175:=by kernel_rfl
 c210:=by kernel_rfl
 c212:=by kernel_rfl
 c213:=by kernel_rfl
 c232:=by kernel_rfl
 c233:=by kernel_rfl
def wQ (s:List UInt8):Option Int:=if s.length<4294967281 then some (h0 s)else none
theorem aic :ig Tryz.prog 87 ⟨⟨[.af .str],[]⟩,⟨[.bR [.af (.int .i64),.dead]],[]⟩,wQ⟩:=
 ah0 _ ⟨_,Tryz.func87,by decide,by kernel_rfl⟩ (g1:=3) (g2:=4) (by kernel_rfl) (by kernel_rfl) (fun s r c w i j=>by
  unfold wQ at c
  split at c
  case isFalse=>cases c
  rename_i k
  cases c
  have d:(bytes s).data.toList=s:=by simp[bytes]
  have h:(bytes s).size<=281474976710656:=by
   show(bytes s).data.size<=_
   simp[bytes]
   omega
  cases b:Lib.atoiAll s with
  |ok v=>
   refine(Any.strconv_Atoi_ok HU (bytes s) (by omega) v (by rw[d];exact b) w).mono ?_
   rintro e w' ⟨rfl,hw⟩
   refine⟨⟨_,by unfold h0;rw[b]⟩,?_⟩
   rcases hw with rfl|⟨t,rfl⟩
   .exact Below.refl _ _
   .exact Lib.bytesWorld_below _ _ _
  |range=>
   obtain⟨aQ,f,g⟩:=j
   refine(Any.strconv_Atoi_range HU (bytes s) h (by rw[d];exact b) aQ w f g).mono ?_
   rintro e w' ⟨N,rfl,_,_,a⟩
   exact⟨⟨_,by unfold h0;rw[b,d]⟩,a⟩
  |_=>
   obtain⟨aQ,f,g⟩:=i
   refine(Any.strconv_Atoi_syntax HU (bytes s) h (by rw[d];exact b) aQ w f g).mono ?_
   rintro e w' ⟨N,rfl,_,_,a⟩
   exact⟨⟨_,by unfold h0;rw[b]⟩,a⟩)
end Go.Proofs.YtnkagklajgimlaaGreatDoor
