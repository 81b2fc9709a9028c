/- Lays.n146 at this program, by name. -/
import Derived.Test.YtcdcmcgdgnibmaaGreatDoorKTab
import Derived.Test.YtcdcmcgdgnibmaaGreatDoorKZ
import Derived.Shelf.Strings.Split
import Derived.KernelRfl
set_option linter.unusedSimpArgs false
set_option linter.unusedVariables false
namespace Go.Proofs.YtcdcmcgdgnibmaaGreatDoor
open Go.RowKit Go.Shelf
def jX6 :Ren where
 f:=fun x=>match x with
  |146=>44
  |221=>104
  |268=>173
  |138=>174
  |143=>175
  |195=>227
  |197=>228
  |218=>229
  |219=>230
  |260=>274
  |217=>275
  |225=>276
  |224=>277
  |267=>278
  |266=>298
  |314=>299
  |n=>n
 t:=fun x=>match x with
  |9=>9
  |31=>23
  |3=>3
  |4=>4
  |0=>0
  |105=>246
  |21=>21
  |5=>5
  |46=>220
  |119=>300
  |139=>303
  |138=>302
  |146=>304
  |51=>234
  |n=>n
 g:=fun x=>match x with
  |1=>3
  |3=>4
  |4=>5
  |n=>n
theorem jYh :Lays.n146 Tryz.prog jX6 where
 mixed:=by kernel_rfl
 f138:=(Tryz.func174).trans (congrArg some (by kernel_rfl))
 f143:=(Tryz.func175).trans (congrArg some (by kernel_rfl))
 f146:=(Tryz.func44).trans (congrArg some (by kernel_rfl))
 f195:=(Tryz.func227).trans (congrArg some (by kernel_rfl))
 f197:=(Tryz.func228).trans (congrArg some (by kernel_rfl))
 f217:=(Tryz.func275).trans (congrArg some (by kernel_rfl))
 f218:=(Tryz.func229).trans (congrArg some (by kernel_rfl))
 f219:=(Tryz.func230).trans (congrArg some (by kernel_rfl))
 f221:=(Tryz.func104).trans (congrArg some (by kernel_rfl))
 f224:=(Tryz.func277).trans (congrArg some (by kernel_rfl))
 f225:=(Tryz.func276).trans (congrArg some (by kernel_rfl))
 f260:=(Tryz.func274).trans (congrArg some (by kernel_rfl))
 f266:=(Tryz.func298).trans (congrArg some (by kernel_rfl))
 f267:=(Tryz.func278).trans (congrArg some (by kernel_rfl))
 f268:=(Tryz.func173).trans (congrArg some (by kernel_rfl))
 f314:=(Tryz.func299).trans (congrArg some (by kernel_rfl))
 t0:=Tryz.underlying0
 a0:=Tryz.isAgg0
 z0:=Tryz.sizeOf0
 v0:=Tryz.zeroValue0
 t3:=Tryz.underlying3
 a3:=Tryz.isAgg3
 z3:=Tryz.sizeOf3
 v3:=Tryz.zeroValue3
 t4:=Tryz.underlying4
 a4:=Tryz.isAgg4
 z4:=Tryz.sizeOf4
 v4:=Tryz.zeroValue4
 t5:=Tryz.underlying5
 a5:=Tryz.isAgg5
 z5:=Tryz.sizeOf5
 v5:=Tryz.zeroValue5
 t9:=Tryz.underlying9
 a9:=Tryz.isAgg9
 z9:=Tryz.sizeOf9
 v9:=Tryz.zeroValue9
 t21:=Tryz.underlying21
 a21:=Tryz.isAgg21
 z21:=Tryz.sizeOf21
 v21:=Tryz.zeroValue21
 t31:=Tryz.underlying23
 a31:=Tryz.isAgg23
 z31:=Tryz.sizeOf23
 v31:=Tryz.zeroValue23
 t46:=Tryz.underlying220
 a46:=Tryz.isAgg220
 z46:=Tryz.sizeOf220
 v46:=Tryz.zeroValue220
 t51:=Tryz.underlying234
 a51:=Tryz.isAgg234
 z51:=Tryz.sizeOf234
 v51:=Tryz.zeroValue234
 t105:=Tryz.underlying246
 a105:=Tryz.isAgg246
 z105:=Tryz.sizeOf246
 v105:=Tryz.zeroValue246
 t119:=Tryz.underlying300
 a119:=Tryz.isAgg300
 z119:=Tryz.sizeOf300
 t138:=Tryz.underlying302
 a138:=Tryz.isAgg302
 z138:=Tryz.sizeOf302
 v138:=Tryz.zeroValue302
 t139:=Tryz.underlying303
 a139:=Tryz.isAgg303
 z139:=Tryz.sizeOf303
 v139:=Tryz.zeroValue303
 t146:=Tryz.underlying304
 a146:=Tryz.isAgg304
 z146:=Tryz.sizeOf304
 v146:=Tryz.zeroValue304
 g1:=by kernel_rfl
 g3:=by kernel_rfl
 g4:=by kernel_rfl
def jXq (s sep:List UInt8):Option (List (List UInt8)):=match sep with
 | [b]=>if s.length<4294967281 then some (cutAt b s)else none
 |_=>none
theorem jYA :ModelOk Tryz.prog 44 ⟨⟨[.pv .str,.pv .str],[]⟩,⟨[.pv (.sl .str)],[]⟩,fun a=>jXq a.1 a.2⟩:=
 jYK _ ⟨_,Tryz.func44,by decide,by kernel_rfl⟩ (g:=3) (by kernel_rfl) 9 (fun s sep r hr w hm=>by
  obtain⟨v,h1,m,rfl⟩:=hm
  unfold jXq at hr
  split at hr
  case h_2=>cases hr
  rename_i b e
  have e:sep=[b]:=e
  subst e
  split at hr
  case isFalse=>cases hr
  rename_i hl
  cases hr
  refine(Any.strings_Split jYh (by kernel_rfl) (bytes s) (bytes [b]) m w (jXD hl) h1 (zae 1)).mono ?_
  rintro e w' ⟨rfl,rfl⟩
  have hl2:=Lib.splitB_all (bytes [b]) (zae 1) 0 _ (bytes s) rfl
  rw[jXF,zar]at hl2
  rw[jXF,<-hl2,zbO]
  exact⟨by simp,rfl⟩)
end Go.Proofs.YtcdcmcgdgnibmaaGreatDoor
