/- LaysC.n172 at this program, by name. -/
import Derived.Test.YtkglkigmdmohkaaGreatDoorKTab
import Derived.Test.YtkglkigmdmohkaaGreatDoorKZ
import Derived.Shelf.Strconv.AtoiAll
import Derived.WalkKit
import Derived.Deep.DeepFit
import Derived.KernelRfl
set_option linter.unusedSimpArgs false
set_option linter.unusedVariables false
namespace Go.Proofs.YtkglkigmdmohkaaGreatDoor
open Go.RowKit Go.Shelf
def jYy :Ren where
 f:=fun x=>match x with
  |172=>86
  |244=>133
  |245=>134
  |247=>175
  |279=>176
  |280=>177
  |281=>178
  |282=>179
  |287=>206
  |316=>207
  |171=>45
  |205=>208
  |321=>218
  |322=>219
  |243=>90
  |246=>137
  |283=>182
  |284=>183
  |285=>184
  |286=>185
  |129=>166
  |317=>209
  |318=>210
  |319=>211
  |320=>212
  |337=>220
  |338=>221
  |n=>n
 t:=fun x=>match x with
  |9=>9
  |3=>3
  |75=>142
  |76=>143
  |4=>4
  |5=>5
  |167=>207
  |37=>22
  |0=>0
  |85=>208
  |2=>2
  |168=>210
  |53=>205
  |175=>232
  |46=>173
  |210=>235
  |127=>182
  |145=>246
  |143=>244
  |21=>21
  |171=>216
  |173=>218
  |212=>237
  |51=>203
  |20=>20
  |213=>238
  |232=>251
  |233=>252
  |80=>63
  |n=>n
 g:=fun x=>match x with
  |15=>4
  |16=>5
  |17=>6
  |18=>9
  |19=>10
  |n=>n
theorem jXA :LaysC.n172 Tryz.prog jYy where
 mixed:=by kernel_rfl
 f129:=(Tryz.func166).trans (congrArg some (by kernel_rfl))
 f171:=(Tryz.func45).trans (congrArg some (by kernel_rfl))
 f172:=(Tryz.func86).trans (congrArg some (by kernel_rfl))
 f205:=(Tryz.func208).trans (congrArg some (by kernel_rfl))
 f243:=(Tryz.func90).trans (congrArg some (by kernel_rfl))
 f244:=(Tryz.func133).trans (congrArg some (by kernel_rfl))
 f245:=(Tryz.func134).trans (congrArg some (by kernel_rfl))
 f246:=(Tryz.func137).trans (congrArg some (by kernel_rfl))
 f247:=(Tryz.func175).trans (congrArg some (by kernel_rfl))
 f279:=(Tryz.func176).trans (congrArg some (by kernel_rfl))
 f280:=(Tryz.func177).trans (congrArg some (by kernel_rfl))
 f281:=(Tryz.func178).trans (congrArg some (by kernel_rfl))
 f282:=(Tryz.func179).trans (congrArg some (by kernel_rfl))
 f283:=(Tryz.func182).trans (congrArg some (by kernel_rfl))
 f284:=(Tryz.func183).trans (congrArg some (by kernel_rfl))
 f285:=(Tryz.func184).trans (congrArg some (by kernel_rfl))
 f286:=(Tryz.func185).trans (congrArg some (by kernel_rfl))
 f287:=(Tryz.func206).trans (congrArg some (by kernel_rfl))
 f316:=(Tryz.func207).trans (congrArg some (by kernel_rfl))
 f317:=(Tryz.func209).trans (congrArg some (by kernel_rfl))
 f318:=(Tryz.func210).trans (congrArg some (by kernel_rfl))
 f319:=(Tryz.func211).trans (congrArg some (by kernel_rfl))
 f320:=(Tryz.func212).trans (congrArg some (by kernel_rfl))
 f321:=(Tryz.func218).trans (congrArg some (by kernel_rfl))
 f322:=(Tryz.func219).trans (congrArg some (by kernel_rfl))
 f337:=(Tryz.func220).trans (congrArg some (by kernel_rfl))
 f338:=(Tryz.func221).trans (congrArg some (by kernel_rfl))
 t0:=Tryz.underlying0
 a0:=Tryz.isAgg0
 z0:=Tryz.sizeOf0
 v0:=Tryz.zeroValue0
 t2:=Tryz.underlying2
 a2:=Tryz.isAgg2
 z2:=Tryz.sizeOf2
 v2:=Tryz.zeroValue2
 t3:=Tryz.underlying3
 a3:=Tryz.isAgg3
 z3:=Tryz.sizeOf3
 v3:=Tryz.zeroValue3
 t4:=Tryz.underlying4
 a4:=Tryz.isAgg4
 z4:=Tryz.sizeOf4
 v4:=Tryz.zeroValue4
 t5:=Tryz.underlying5
 a5:=Tryz.isAgg5
 z5:=Tryz.sizeOf5
 v5:=Tryz.zeroValue5
 t9:=Tryz.underlying9
 a9:=Tryz.isAgg9
 z9:=Tryz.sizeOf9
 v9:=Tryz.zeroValue9
 t20:=Tryz.underlying20
 a20:=Tryz.isAgg20
 z20:=Tryz.sizeOf20
 v20:=Tryz.zeroValue20
 t21:=Tryz.underlying21
 a21:=Tryz.isAgg21
 z21:=Tryz.sizeOf21
 v21:=Tryz.zeroValue21
 t37:=Tryz.underlying22
 a37:=Tryz.isAgg22
 z37:=Tryz.sizeOf22
 v37:=Tryz.zeroValue22
 t46:=Tryz.underlying173
 a46:=Tryz.isAgg173
 z46:=Tryz.sizeOf173
 v46:=Tryz.zeroValue173
 t51:=Tryz.underlying203
 a51:=Tryz.isAgg203
 z51:=Tryz.sizeOf203
 v51:=Tryz.zeroValue203
 t53:=Tryz.underlying205
 a53:=Tryz.isAgg205
 z53:=Tryz.sizeOf205
 v53:=Tryz.zeroValue205
 t75:=Tryz.underlying142
 a75:=Tryz.isAgg142
 z75:=Tryz.sizeOf142
 v75:=Tryz.zeroValue142
 t76:=Tryz.underlying143
 a76:=Tryz.isAgg143
 z76:=Tryz.sizeOf143
 v76:=Tryz.zeroValue143
 t85:=Tryz.underlying208
 a85:=Tryz.isAgg208
 z85:=Tryz.sizeOf208
 v85:=Tryz.zeroValue208
 t127:=Tryz.underlying182
 a127:=Tryz.isAgg182
 z127:=Tryz.sizeOf182
 v127:=Tryz.zeroValue182
 t143:=Tryz.underlying244
 a143:=Tryz.isAgg244
 z143:=Tryz.sizeOf244
 v143:=Tryz.zeroValue244
 t145:=Tryz.underlying246
 a145:=Tryz.isAgg246
 z145:=Tryz.sizeOf246
 v145:=Tryz.zeroValue246
 t167:=Tryz.underlying207
 a167:=Tryz.isAgg207
 z167:=Tryz.sizeOf207
 v167:=Tryz.zeroValue207
 t168:=Tryz.underlying210
 a168:=Tryz.isAgg210
 z168:=Tryz.sizeOf210
 v168:=Tryz.zeroValue210
 t171:=Tryz.underlying216
 a171:=Tryz.isAgg216
 z171:=Tryz.sizeOf216
 v171:=Tryz.zeroValue216
 t173:=Tryz.underlying218
 a173:=Tryz.isAgg218
 z173:=Tryz.sizeOf218
 v173:=Tryz.zeroValue218
 t175:=Tryz.underlying232
 a175:=Tryz.isAgg232
 z175:=Tryz.sizeOf232
 v175:=Tryz.zeroValue232
 t210:=Tryz.underlying235
 a210:=Tryz.isAgg235
 z210:=Tryz.sizeOf235
 v210:=Tryz.zeroValue235
 t212:=Tryz.underlying237
 a212:=Tryz.isAgg237
 z212:=Tryz.sizeOf237
 v212:=Tryz.zeroValue237
 t213:=Tryz.underlying238
 a213:=Tryz.isAgg238
 z213:=Tryz.sizeOf238
 t232:=Tryz.underlying251
 a232:=Tryz.isAgg251
 z232:=Tryz.sizeOf251
 v232:=Tryz.zeroValue251
 t233:=Tryz.underlying252
 a233:=Tryz.isAgg252
 z233:=Tryz.sizeOf252
 v233:=Tryz.zeroValue252
 g15:=by kernel_rfl
 g16:=by kernel_rfl
 g17:=by kernel_rfl
 g18:=by kernel_rfl
 g19:=by kernel_rfl
 t80:=Tryz.underlying63
 a80:=Tryz.isAgg63
 z80:=Tryz.sizeOf63
 v80:=Tryz.zeroValue63
 i0:=by kernel_rfl
 i2:=by kernel_rfl
 i3:=by kernel_rfl
 i4:=by kernel_rfl
 i5:=by kernel_rfl
 i9:=by kernel_rfl
 i20:=by kernel_rfl
 i21:=by kernel_rfl
 i37:=by kernel_rfl
 i46:=by kernel_rfl
 i51:=by kernel_rfl
 i53:=by kernel_rfl
 i75:=by kernel_rfl
 i76:=by kernel_rfl
 i80:=by kernel_rfl
 i85:=by kernel_rfl
 i127:=by kernel_rfl
 i143:=by kernel_rfl
 i145:=by kernel_rfl
 i167:=by kernel_rfl
 i168:=by kernel_rfl
 i171:=by kernel_rfl
 i173:=by kernel_rfl
 i175:=by kernel_rfl
 i210:=by kernel_rfl
 i212:=by kernel_rfl
 i232:=by kernel_rfl
 i233:=by kernel_rfl
 m15:=by kernel_rfl
 m16:=by kernel_rfl
 m17:=by kernel_rfl
 m18:=by kernel_rfl
 m19:=by kernel_rfl
 c0:=by kernel_rfl
 c2:=by kernel_rfl
 c3:=by kernel_rfl
 c4:=by kernel_rfl
 c5:=by kernel_rfl
 c9:=by kernel_rfl
 c20:=by kernel_rfl
 c21:=by kernel_rfl
 c37:=by kernel_rfl
 c46:=by kernel_rfl
 c51:=by kernel_rfl
 c53:=by kernel_rfl
 c75:=by kernel_rfl
 c76:=by kernel_rfl
 c80:=by kernel_rfl
 c85:=by kernel_rfl
 c127:=by kernel_rfl
 c143:=by kernel_rfl
 c145:=by kernel_rfl
 c167:=by kernel_rfl
 c168:=by kernel_rfl
 c171:=by kernel_rfl
 c173:=by kernel_rfl
 c175:=by kernel_rfl
 c210:=by kernel_rfl
 c212:=by kernel_rfl
 c213:=by kernel_rfl
 c232:=by kernel_rfl
 c233:=by kernel_rfl
def numM (s:List UInt8):Option Int:=if s.length<4294967281 then some (match Lib.atoiAll s with
 | .ok v=>v
 |_=> -1)else none
theorem j5e :ModelOk Tryz.prog 43 ⟨⟨[.pv .str],[]⟩,⟨[.pv (.int .i64)],[]⟩,numM⟩:=
 j5l _ ⟨_,Tryz.func43,by decide,by kernel_rfl⟩ (g1:=4) (g2:=5) (by kernel_rfl) (by kernel_rfl) (fun s r hr w h1 h2=>by
  unfold numM at hr
  split at hr
  case isFalse=>cases hr
  rename_i hl
  cases hr
  have hd:(bytes s).data.toList=s:=by simp[bytes]
  have hs:(bytes s).size<=281474976710656:=by
   show(bytes s).data.size<=_
   simp[bytes]
   omega
  cases hv:Lib.atoiAll s with
  |ok v=>
   have cA:=Any.strconv_Atoi_ok jXA (bytes s) (by omega) v (by rw[hd];exact hv) w
   go_enter Tryz.func43,Tryz.ntmps43
   go_wp2_with (go_at_call 86;go_fit cA;rintro e w1 ⟨rfl,hw⟩)
   go_ret
   refine⟨rfl,?_⟩
   rcases hw with rfl|⟨t,rfl⟩
   .exact Below.refl _ _
   .exact Lib.bytesWorld_below _ _ _
  |range=>
   obtain⟨ev,e1,e2⟩:=h2
   have cA:=Any.strconv_Atoi_range jXA (bytes s) hs (by rw[hd];exact hv) ev w e1 e2
   go_enter Tryz.func43,Tryz.ntmps43
   go_wp2_with (go_at_call 86;go_fit cA;rintro e w1 ⟨N,rfl,_,_,bel⟩)
   go_ret
   exact⟨rfl,bel⟩
  |_=>
   obtain⟨ev,e1,e2⟩:=h1
   have cA:=Any.strconv_Atoi_syntax jXA (bytes s) hs (by rw[hd];exact hv) ev w e1 e2
   go_enter Tryz.func43,Tryz.ntmps43
   go_wp2_with (go_at_call 86;go_fit cA;rintro e w1 ⟨N,rfl,_,_,bel⟩)
   go_ret
   exact⟨rfl,bel⟩)
end Go.Proofs.YtkglkigmdmohkaaGreatDoor
