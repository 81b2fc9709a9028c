/- The table of types, by program. -/
import Derived.Test.YtcdcmcgdgnibmaaGreatDoorKX
import Derived.Test.YtcdcmcgdgnibmaaGreatDoorProg
import Derived.KernelRfl
set_option linter.unusedSimpArgs false
set_option linter.unusedVariables false
namespace Go.Proofs.YtcdcmcgdgnibmaaGreatDoor
open Go.RowKit
set_option maxRecDepth 100000
abbrev jEt (P:Program) (k n:Nat) (z:List AV):Prop:=∃i y,P.info? k=some i/\i.size=n/\i.zero=some y/\y.cells.size=n/\∀c,All2 (V1c c) z y.cells.toList
abbrev tSl (z:AV) (e:TypeId) (r:Tp) (b:Nat):Ty:=⟨false,1,[z],some (e,r,b),[],false,false,none,none,none,false,[],none⟩
theorem oSl {P:Program} {k e:TypeId} {r:Tp} {b:Nat} {z:AV} (h:P.underlying k=some (.slice e)) (hi:jEt P k 1 [z]:=by exact⟨_,_,rfl,rfl,rfl,rfl,fun c=>⟨⟨rfl,rfl⟩,True.intro⟩⟩)
  (he:0<r.w/\∃ie z,P.info? e=some ie/\ie.size=r.w/\ie.bytes=b/\ie.zero=some z/\z.cells.size=r.w:=by exact⟨by decide,_,_,rfl,rfl,rfl,rfl,rfl⟩):TyOk P k (tSl z e r b):=
 ⟨⟨_,h,rfl⟩,hi,fun _ _ _ g=>by cases g;exact⟨h,he⟩,fun h=>absurd rfl h,nofun,nofun,nofun,nofun,nofun,nofun,fun h=>absurd rfl h,nofun⟩
abbrev tSt (n:Nat) (z:List AV) (o f:List (Nat×Nat)):Ty:=⟨true,n,z,none,o,false,false,none,none,none,false,f,none⟩
theorem oSt {P:Program} {k n:Nat} {z:List AV} {o f:List (Nat×Nat)} {fs:Array Field} (h:P.underlying k=some (.struct fs))
  (hi:jEt P k n z:=by exact⟨_,_,rfl,rfl,rfl,rfl,fun c=>by repeat' first|exact True.intro|exact⟨⟨_,rfl,Rep.int _ _⟩,rfl⟩|exact⟨⟨_,rfl,Rep.str _⟩,rfl⟩|exact⟨⟨_,rfl,Rep.bool _⟩,rfl⟩|exact⟨rfl,rfl⟩|exact⟨True.intro,rfl⟩|refine⟨?_,?_⟩⟩)
  (ho:fs.toList.mapM (fun f=>(P.info? f.type).map fun i=>(f.offset,i.size))=some o:=by kernel_rfl) (hf:fs.toList.map (fun f=>(f.type,f.offset))=f:=by kernel_rfl):TyOk P k (tSt n z o f):=
 ⟨⟨_,h,rfl⟩,hi,nofun,fun _=>⟨_,h,ho⟩,nofun,nofun,nofun,nofun,nofun,nofun,fun _=>⟨_,h,hf⟩,nofun⟩
abbrev tIn (i:IntKind):Ty:=⟨false,1,[.pv (.int i) (0:Int)],none,[],false,false,some i,none,none,false,[],none⟩
abbrev tPt (z:AV):Ty:=⟨false,1,[z],none,[],false,false,none,none,none,true,[],none⟩
theorem oIn {P:Program} {k:Nat} {i:IntKind} (h:P.underlying k=some (.int i)) (hi:jEt P k 1 [.pv (.int i) (0:Int)]:=by exact⟨_,_,rfl,rfl,rfl,rfl,fun c=>⟨⟨⟨_,rfl,Rep.int _ _⟩,rfl⟩,True.intro⟩⟩):TyOk P k (tIn i):=
 ⟨⟨_,h,rfl⟩,hi,nofun,fun h=>absurd rfl h,nofun,nofun,fun _ g=>by cases g;exact h,nofun,nofun,nofun,fun h=>absurd rfl h,nofun⟩
theorem oPt {P:Program} {k u:Nat} {z:AV} (h:P.underlying k=some (.pointer u)) (hi:jEt P k 1 [z]:=by exact⟨_,_,rfl,rfl,rfl,rfl,fun c=>⟨⟨rfl,rfl⟩,True.intro⟩⟩):TyOk P k (tPt z):=
 ⟨⟨_,h,rfl⟩,hi,nofun,fun h=>absurd rfl h,nofun,nofun,nofun,nofun,nofun,fun _=>⟨_,h⟩,fun h=>absurd rfl h,nofun⟩
def ty2 :Ty:=tIn .i64
theorem jnr :TyOk Tryz.prog 2 ty2:=oIn Tryz.underlying2
def ty3 :Ty:=tIn .i64
theorem jkV :TyOk Tryz.prog 3 ty3:=oIn Tryz.underlying3
def ty4 :Ty:=⟨false,1,[.pv .bool false],none,[],false,true,none,none,none,false,[],none⟩
theorem jsX :TyOk Tryz.prog 4 ty4:=⟨⟨_,Tryz.underlying4,rfl⟩,⟨_,_,rfl,rfl,rfl,rfl,fun c=>⟨⟨⟨_,rfl,Rep.bool _⟩,rfl⟩,True.intro⟩⟩,nofun,fun h=>absurd rfl h,nofun,fun _=>Tryz.underlying4,nofun,nofun,nofun,nofun,fun h=>absurd rfl h,nofun⟩
def ty5 :Ty:=tIn .u8
theorem joh :TyOk Tryz.prog 5 ty5:=oIn Tryz.underlying5
def ty6 :Ty:=tIn .u8
theorem jDG :TyOk Tryz.prog 6 ty6:=oIn Tryz.underlying6
def ty7 :Ty:=tSt 4 [.pv (.int .i64) 0,.pv (.int .i64) 0,.pv .bool false,.pv (.int .u8) 0] [(0,1),(1,1),(2,1),(3,1)] [(2,0),(3,1),(4,2),(6,3)]
theorem jCK :TyOk Tryz.prog 7 ty7:=oSt Tryz.underlying7
def ty8 :Ty:=tSt 4 [.pv (.int .i64) 0,.pv (.int .i64) 0,.pv .bool false,.pv (.int .u8) 0] [(0,1),(1,1),(2,1),(3,1)] [(2,0),(3,1),(4,2),(6,3)]
theorem jYY :TyOk Tryz.prog 8 ty8:=oSt Tryz.underlying8
def ty9 :Ty:=⟨false,1,[.pv .str []],none,[],true,false,none,none,none,false,[],none⟩
theorem jlm :TyOk Tryz.prog 9 ty9:=⟨⟨_,Tryz.underlying9,rfl⟩,⟨_,_,rfl,rfl,rfl,rfl,fun c=>⟨⟨⟨_,rfl,Rep.str _⟩,rfl⟩,True.intro⟩⟩,nofun,fun h=>absurd rfl h,fun _=>Tryz.underlying9,nofun,nofun,nofun,nofun,nofun,fun h=>absurd rfl h,nofun⟩
def ty16 :Ty:=tPt (.nilp)
theorem juI :TyOk Tryz.prog 16 ty16:=oPt Tryz.underlying16
def ty22 :Ty:=tSl (.nils) 5 (.int .u8) 1
theorem jkf :TyOk Tryz.prog 22 ty22:=oSl Tryz.underlying22
def ty23 :Ty:=tSl (.nils) 9 .str 16
theorem jlb :TyOk Tryz.prog 23 ty23:=oSl Tryz.underlying23
def ty24 :Ty:=tSl (.nils) 143 (.pair (.sl .str) .str) 40
theorem jo8 :TyOk Tryz.prog 24 ty24:=oSl Tryz.underlying24
def ty25 :Ty:=tSt 2 [.nils,.nils] [(0,1),(1,1)] [(23,0),(24,1)]
theorem jtq :TyOk Tryz.prog 25 ty25:=oSt Tryz.underlying25
def ty26 :Ty:=tSt 2 [.nils,.nils] [(0,1),(1,1)] [(23,0),(24,1)]
theorem jmW :TyOk Tryz.prog 26 ty26:=oSt Tryz.underlying26
def ty27 :Ty:=tSl (.nils) 81 (.pair (.int .i64) (.pair (.sl (.pair .str .str)) (.sl (.pair .str (.int .i64))))) 56
theorem jtj :TyOk Tryz.prog 27 ty27:=oSl Tryz.underlying27
def ty28 :Ty:=tSl (.nils) 132 (.pair .str (.pair .str (.sl (.pair (.int .i64) (.sl (.int .i64)))))) 56
theorem jmp :TyOk Tryz.prog 28 ty28:=oSl Tryz.underlying28
def ty29 :Ty:=tSt 2 [.nils,.nils] [(0,1),(1,1)] [(27,0),(28,1)]
theorem jse :TyOk Tryz.prog 29 ty29:=oSt Tryz.underlying29
def ty30 :Ty:=tSt 2 [.nils,.nils] [(0,1),(1,1)] [(27,0),(28,1)]
theorem jlj :TyOk Tryz.prog 30 ty30:=oSt Tryz.underlying30
def ty31 :Ty:=tSl (.nils) 3 (.int .i64) 8
theorem jD0 :TyOk Tryz.prog 31 ty31:=oSl Tryz.underlying31
def ty32 :Ty:=tSt 3 [.nils,.nils,.nils] [(0,2),(2,1)] [(30,0),(31,2)]
theorem jB5 :TyOk Tryz.prog 32 ty32:=oSt Tryz.underlying32
def ty33 :Ty:=tSt 3 [.nils,.nils,.nils] [(0,2),(2,1)] [(30,0),(31,2)]
theorem jM8 :TyOk Tryz.prog 33 ty33:=oSt Tryz.underlying33
def ty57 :Ty:=tSl (.nils) 33 (.pair (.pair (.sl (.pair (.int .i64) (.pair (.sl (.pair .str .str)) (.sl (.pair .str (.int .i64)))))) (.sl (.pair .str (.pair .str (.sl (.pair (.int .i64) (.sl (.int .i64)))))))) (.sl (.int .i64))) 72
theorem jL3 :TyOk Tryz.prog 57 ty57:=oSl Tryz.underlying57
def ty58 :Ty:=tSt 3 [.nils,.nils,.nils] [(0,2),(2,1)] [(26,0),(57,2)]
theorem jMU :TyOk Tryz.prog 58 ty58:=oSt Tryz.underlying58
def ty59 :Ty:=tSt 3 [.nils,.nils,.nils] [(0,2),(2,1)] [(26,0),(57,2)]
theorem jQg :TyOk Tryz.prog 59 ty59:=oSt Tryz.underlying59
def ty74 :Ty:=tPt (.nilp)
theorem jEW :TyOk Tryz.prog 74 ty74:=oPt Tryz.underlying74
def ty78 :Ty:=tSl (.nils) 134 (.pair .str .str) 32
theorem jm0 :TyOk Tryz.prog 78 ty78:=oSl Tryz.underlying78
def ty79 :Ty:=tSl (.nils) 136 (.pair .str (.int .i64)) 24
theorem jm3 :TyOk Tryz.prog 79 ty79:=oSl Tryz.underlying79
def ty80 :Ty:=tSt 3 [.pv (.int .i64) 0,.nils,.nils] [(0,1),(1,1),(2,1)] [(3,0),(78,1),(79,2)]
theorem jHv :TyOk Tryz.prog 80 ty80:=oSt Tryz.underlying80
def ty81 :Ty:=tSt 3 [.pv (.int .i64) 0,.nils,.nils] [(0,1),(1,1),(2,1)] [(3,0),(78,1),(79,2)]
theorem jWC :TyOk Tryz.prog 81 ty81:=oSt Tryz.underlying81
def jNg :Ty:=tSt 2 [.pv .str [],.pv .str []] [(0,1),(1,1)] [(9,0),(9,1)]
theorem jOb :TyOk Tryz.prog 114 jNg:=oSt Tryz.underlying114
def jQZ :Ty:=tSt 2 [.nils,.pv (.int .i64) 0] [(0,1),(1,1)] [(22,0),(3,1)]
theorem jRk :TyOk Tryz.prog 126 jQZ:=oSt Tryz.underlying126
def jzj :Ty:=tSt 2 [.nils,.pv (.int .i64) 0] [(0,1),(1,1)] [(22,0),(3,1)]
theorem jDH :TyOk Tryz.prog 127 jzj:=oSt Tryz.underlying127
def jFa :Ty:=tSl (.nils) 217 (.pair (.int .i64) (.sl (.int .i64))) 32
theorem jGa :TyOk Tryz.prog 130 jFa:=oSl Tryz.underlying130
def jiN :Ty:=tSt 3 [.pv .str [],.pv .str [],.nils] [(0,1),(1,1),(2,1)] [(9,0),(9,1),(130,2)]
theorem jmd :TyOk Tryz.prog 131 jiN:=oSt Tryz.underlying131
def jXP :Ty:=tSt 3 [.pv .str [],.pv .str [],.nils] [(0,1),(1,1),(2,1)] [(9,0),(9,1),(130,2)]
theorem jYL :TyOk Tryz.prog 132 jXP:=oSt Tryz.underlying132
def jAl :Ty:=⟨true,2,[.pv .str [],.pv .str []],none,[(0,1),(1,1)],false,false,none,some (.pair .str .str),none,false,[(9,0),(9,1)],none⟩
theorem jC2 :TyOk Tryz.prog 134 jAl:=⟨⟨_,Tryz.underlying134,rfl⟩,⟨_,_,rfl,rfl,rfl,rfl,fun c=>⟨⟨⟨_,rfl,Rep.str _⟩,rfl⟩,⟨⟨_,rfl,Rep.str _⟩,rfl⟩,True.intro⟩⟩,nofun,fun _=>⟨_,Tryz.underlying134,by kernel_rfl⟩,nofun,nofun,nofun,fun r h=>by cases h;exact eqs_of _ rfl (by kernel_rfl) (by kernel_rfl) (by kernel_rfl) [(false,9,0),(false,9,1)] (by kernel_rfl) (fun x y=>⟨⟨rfl,rfl,Tryz.underlying9⟩,⟨⟨rfl,rfl,Tryz.underlying9⟩,True.intro⟩⟩),nofun,nofun,fun _=>⟨_,Tryz.underlying134,by kernel_rfl⟩,nofun⟩
def jzO :Ty:=tSt 2 [.pv .str [],.pv (.int .i64) 0] [(0,1),(1,1)] [(9,0),(3,1)]
theorem jBv :TyOk Tryz.prog 135 jzO:=oSt Tryz.underlying135
def jg9 :Ty:=⟨true,2,[.pv .str [],.pv (.int .i64) 0],none,[(0,1),(1,1)],false,false,none,some (.pair .str (.int .i64)),none,false,[(9,0),(3,1)],none⟩
theorem joi :TyOk Tryz.prog 136 jg9:=⟨⟨_,Tryz.underlying136,rfl⟩,⟨_,_,rfl,rfl,rfl,rfl,fun c=>⟨⟨⟨_,rfl,Rep.str _⟩,rfl⟩,⟨⟨_,rfl,Rep.int _ _⟩,rfl⟩,True.intro⟩⟩,nofun,fun _=>⟨_,Tryz.underlying136,by kernel_rfl⟩,nofun,nofun,nofun,fun r h=>by cases h;exact eqs_of _ rfl (by kernel_rfl) (by kernel_rfl) (by kernel_rfl) [(false,9,0),(false,3,1)] (by kernel_rfl) (fun x y=>⟨⟨rfl,rfl,Tryz.underlying9⟩,⟨⟨rfl,rfl,⟨rfl,_,Tryz.underlying3⟩⟩,True.intro⟩⟩),nofun,nofun,fun _=>⟨_,Tryz.underlying136,by kernel_rfl⟩,nofun⟩
def jhm :Ty:=tSt 2 [.nils,.pv .str []] [(0,1),(1,1)] [(23,0),(9,1)]
theorem jpp :TyOk Tryz.prog 142 jhm:=oSt Tryz.underlying142
def jem :Ty:=tSt 2 [.nils,.pv .str []] [(0,1),(1,1)] [(23,0),(9,1)]
theorem joF :TyOk Tryz.prog 143 jem:=oSt Tryz.underlying143
def jja :Ty:=tSl (.nils) 155 (.pair .str (.int .i64)) 24
theorem jsI :TyOk Tryz.prog 152 jja:=oSl Tryz.underlying152
def jFJ :Ty:=tSt 2 [.pv .str [],.pv (.int .i64) 0] [(0,1),(1,1)] [(9,0),(3,1)]
theorem jGp :TyOk Tryz.prog 154 jFJ:=oSt Tryz.underlying154
def jFk :Ty:=⟨true,2,[.pv .str [],.pv (.int .i64) 0],none,[(0,1),(1,1)],false,false,none,some (.pair .str (.int .i64)),none,false,[(9,0),(3,1)],none⟩
theorem jFL :TyOk Tryz.prog 155 jFk:=⟨⟨_,Tryz.underlying155,rfl⟩,⟨_,_,rfl,rfl,rfl,rfl,fun c=>⟨⟨⟨_,rfl,Rep.str _⟩,rfl⟩,⟨⟨_,rfl,Rep.int _ _⟩,rfl⟩,True.intro⟩⟩,nofun,fun _=>⟨_,Tryz.underlying155,by kernel_rfl⟩,nofun,nofun,nofun,fun r h=>by cases h;exact eqs_of _ rfl (by kernel_rfl) (by kernel_rfl) (by kernel_rfl) [(false,9,0),(false,3,1)] (by kernel_rfl) (fun x y=>⟨⟨rfl,rfl,Tryz.underlying9⟩,⟨⟨rfl,rfl,⟨rfl,_,Tryz.underlying3⟩⟩,True.intro⟩⟩),nofun,nofun,fun _=>⟨_,Tryz.underlying155,by kernel_rfl⟩,nofun⟩
def jzz :Ty:=tSl (.nils) 209 (.pair .str (.pair (.int .i64) (.pair (.int .i64) (.int .i64)))) 40
theorem jCD :TyOk Tryz.prog 206 jzz:=oSl Tryz.underlying206
def jje :Ty:=tSt 4 [.pv .str [],.pv (.int .i64) 0,.pv (.int .i64) 0,.pv (.int .i64) 0] [(0,1),(1,1),(2,1),(3,1)] [(9,0),(3,1),(3,2),(3,3)]
theorem jqy :TyOk Tryz.prog 208 jje:=oSt Tryz.underlying208
def jhV :Ty:=⟨true,4,[.pv .str [],.pv (.int .i64) 0,.pv (.int .i64) 0,.pv (.int .i64) 0],none,[(0,1),(1,1),(2,1),(3,1)],false,false,none,some (.pair .str (.pair (.int .i64) (.pair (.int .i64) (.int .i64)))),none,false,[(9,0),(3,1),(3,2),(3,3)],none⟩
theorem jsP :TyOk Tryz.prog 209 jhV:=⟨⟨_,Tryz.underlying209,rfl⟩,⟨_,_,rfl,rfl,rfl,rfl,fun c=>⟨⟨⟨_,rfl,Rep.str _⟩,rfl⟩,⟨⟨_,rfl,Rep.int _ _⟩,rfl⟩,⟨⟨_,rfl,Rep.int _ _⟩,rfl⟩,⟨⟨_,rfl,Rep.int _ _⟩,rfl⟩,True.intro⟩⟩,nofun,fun _=>⟨_,Tryz.underlying209,by kernel_rfl⟩,nofun,nofun,nofun,fun r h=>by cases h;exact eqs_of _ rfl (by kernel_rfl) (by kernel_rfl) (by kernel_rfl) [(false,9,0),(false,3,1),(false,3,2),(false,3,3)] (by kernel_rfl) (fun x y=>⟨⟨rfl,rfl,Tryz.underlying9⟩,⟨⟨rfl,rfl,⟨rfl,_,Tryz.underlying3⟩⟩,⟨⟨rfl,rfl,⟨rfl,_,Tryz.underlying3⟩⟩,⟨⟨rfl,rfl,⟨rfl,_,Tryz.underlying3⟩⟩,True.intro⟩⟩⟩⟩),nofun,nofun,fun _=>⟨_,Tryz.underlying209,by kernel_rfl⟩,nofun⟩
def ji1 :Ty:=tPt (.nilp)
theorem jtI :TyOk Tryz.prog 210 ji1:=oPt Tryz.underlying210
def jjt :Ty:=tPt (.nilp)
theorem jtb :TyOk Tryz.prog 212 jjt:=oPt Tryz.underlying212
def jFv :Ty:=tSt 2 [.pv (.int .i64) 0,.nils] [(0,1),(1,1)] [(3,0),(31,1)]
theorem jGq :TyOk Tryz.prog 216 jFv:=oSt Tryz.underlying216
def jza :Ty:=tSt 2 [.pv (.int .i64) 0,.nils] [(0,1),(1,1)] [(3,0),(31,1)]
theorem jDi :TyOk Tryz.prog 217 jza:=oSt Tryz.underlying217
def jy7 :Ty:=tIn .u64
theorem jCh :TyOk Tryz.prog 220 jy7:=oIn Tryz.underlying220
def jFC :Ty:=tIn .u32
theorem jGh :TyOk Tryz.prog 234 jFC:=oIn Tryz.underlying234
def jKp :Ty:=tIn .u64
theorem jKV :TyOk Tryz.prog 241 jKp:=oIn Tryz.underlying241
def jzd :Ty:=tIn .i64
theorem jCs :TyOk Tryz.prog 255 jzd:=oIn Tryz.underlying255
def jzs :Ty:=tIn .u64
theorem jDD :TyOk Tryz.prog 289 jzs:=oIn Tryz.underlying289
def jzJ :Ty:=tPt (.nilp)
theorem jCW :TyOk Tryz.prog 293 jzJ:=oPt Tryz.underlying293
def jQX :Ty:=tPt (.nilp)
theorem jRv :TyOk Tryz.prog 306 jQX:=oPt Tryz.underlying306
def jQU :Ty:=⟨true,0,[],none,[],false,false,none,none,none,false,[],none⟩
theorem jRy :TyOk Tryz.prog 317 jQU:=⟨⟨_,Tryz.underlying317,rfl⟩,⟨_,_,rfl,rfl,rfl,rfl,fun c=>True.intro⟩,nofun,fun h=>absurd rfl h,nofun,nofun,nofun,nofun,nofun,nofun,fun h=>absurd rfl h,nofun⟩
def jXJ :Ty:=⟨true,0,[],none,[],false,false,none,none,none,false,[],none⟩
theorem jYa :TyOk Tryz.prog 318 jXJ:=⟨⟨_,Tryz.underlying318,rfl⟩,⟨_,_,rfl,rfl,rfl,rfl,fun c=>True.intro⟩,nofun,fun h=>absurd rfl h,nofun,nofun,nofun,nofun,nofun,nofun,fun h=>absurd rfl h,nofun⟩
def jcH :List (Nat×Ty)->Nat->Option Ty
 | [],_=>none
 |(k,y)::l,t=>bif Nat.beq t k then some y else jcH l t
def jc4 (P:Program):List (Nat×Ty)->Prop
 | []=>True
 |(k,y)::l=>TyOk P k y/\jc4 P l
theorem jeo {P:Program}:∀ {l:List (Nat×Ty)},jc4 P l->∀t y,jcH l t=some y->TyOk P t y
 | [],_,t,y,h=>by cases h
 |(k,z)::l,hl,t,y,h=>by
  simp only[jcH]at h
  cases e:Nat.beq t k with
  |true=>rw[e]at h;cases h;rw[zby e];exact hl.1
  |false=>rw[e]at h;exact jeo hl.2 t y h
def tyL :List (Nat×Ty):=[(2,ty2),(3,ty3),(4,ty4),(5,ty5),(6,ty6),(7,ty7),(8,ty8),(9,ty9),(16,ty16),(22,ty22),(23,ty23),(24,ty24),(25,ty25),(26,ty26),(27,ty27),(28,ty28),(29,ty29),(30,ty30),(31,ty31),(32,ty32),(33,ty33),(57,ty57),(58,ty58),(59,ty59),(74,ty74),(78,ty78),(79,ty79),(80,ty80),(81,ty81),(114,jNg),(126,jQZ),(127,jzj),(130,jFa),(131,jiN),(132,jXP),(134,jAl),(135,jzO),(136,jg9),(142,jhm),(143,jem),(152,jja),(154,jFJ),(155,jFk),(206,jzz),(208,jje),(209,jhV),(210,ji1),(212,jjt),(216,jFv),(217,jza),(220,jy7),(234,jFC),(241,jKp),(255,jzd),(289,jzs),(293,jzJ),(306,jQX),(317,jQU),(318,jXJ)]
theorem jnJ :jc4 Tryz.prog tyL:=⟨jnr,jkV,jsX,joh,jDG,jCK,jYY,jlm,juI,jkf,jlb,jo8,jtq,jmW,jtj,jmp,jse,jlj,jD0,jB5,jM8,jL3,jMU,jQg,jEW,jm0,jm3,jHv,jWC,jOb,jRk,jDH,jGa,jmd,jYL,jC2,jBv,joi,jpp,joF,jsI,jGp,jFL,jCD,jqy,jsP,jtI,jtb,jGq,jDi,jCh,jGh,jKV,jCs,jDD,jCW,jRv,jRy,jYa,True.intro⟩
def ja1 :List (Nat×Model)->Nat->List Model
 | [],_=>[]
 |(k,m)::l,f=>bif Nat.beq f k then m::ja1 l f else ja1 l f
def jR (P:Program):List (Nat×Model)->Prop
 | []=>True
 |(k,m)::l=>ModelOk P k m/\jR P l
theorem jef {P:Program}:∀ {l:List (Nat×Model)},jR P l->∀f m,m∈ja1 l f->ModelOk P f m
 | [],_,f,m,h=>by cases h
 |(k,x)::l,hl,f,m,h=>by
  simp only[ja1]at h
  cases e:Nat.beq f k with
  |true=>
   rw[e]at h
   rcases zp.1 h with h|h
   .subst h;rw[zby e];exact hl.1
   .exact jef hl.2 f m h
  |false=>rw[e]at h;exact jef hl.2 f m h
theorem ja {P:Program}:jR P []:=True.intro
theorem jsH {P:Program} {k:Nat} {m:Model} {l:List (Nat×Model)} (h:ModelOk P k m) (hl:jR P l):jR P ((k,m)::l):=And.intro h hl
def memB :List Nat->Nat->Bool
 | [],_=>false
 |k::l,j=>bif Nat.beq j k then true else memB l j
noncomputable def jbC (l:List (Nat×Model)) (wr res:List Nat) (dw:List Nat:=[]):Env:=⟨Tryz.prog,jcH tyL,ja1 l,memB wr,memB res,memB dw⟩
theorem jtQ {l:List (Nat×Model)} (h:jR Tryz.prog l) (wr res:List Nat) (dw:List Nat:=[]):EnvOk (jbC l wr res dw):=⟨by kernel_rfl,jeo jnJ,jef h⟩
end Go.Proofs.YtcdcmcgdgnibmaaGreatDoor
