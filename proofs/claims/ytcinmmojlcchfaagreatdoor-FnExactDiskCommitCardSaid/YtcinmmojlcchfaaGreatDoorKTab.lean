/- The table of types, by program. -/
import Derived.Test.YtcinmmojlcchfaaGreatDoorKX
import Derived.Test.YtcinmmojlcchfaaGreatDoorProg
import Derived.KernelRfl
set_option linter.unusedSimpArgs false
set_option linter.unusedVariables false
namespace Go.Proofs.YtcinmmojlcchfaaGreatDoor
open Go.RowKit
set_option maxRecDepth 100000
abbrev jEt (P:Program) (k n:Nat) (z:List AV):Prop:=∃i y,P.info? k=some i/\i.size=n/\i.zero=some y/\y.cells.size=n/\∀c,All2 (V1c c) z y.cells.toList
abbrev tSl (z:AV) (e:TypeId) (r:Tp) (b:Nat):Ty:=⟨false,1,[z],some (e,r,b),[],false,false,none,none,none,false,[],none⟩
theorem oSl {P:Program} {k e:TypeId} {r:Tp} {b:Nat} {z:AV} (h:P.underlying k=some (.slice e)) (hi:jEt P k 1 [z]:=by exact⟨_,_,rfl,rfl,rfl,rfl,fun c=>⟨⟨rfl,rfl⟩,True.intro⟩⟩)
  (he:0<r.w/\∃ie z,P.info? e=some ie/\ie.size=r.w/\ie.bytes=b/\ie.zero=some z/\z.cells.size=r.w:=by exact⟨by decide,_,_,rfl,rfl,rfl,rfl,rfl⟩):TyOk P k (tSl z e r b):=
 ⟨⟨_,h,rfl⟩,hi,fun _ _ _ g=>by cases g;exact⟨h,he⟩,fun h=>absurd rfl h,nofun,nofun,nofun,nofun,nofun,nofun,fun h=>absurd rfl h,nofun⟩
abbrev tSt (n:Nat) (z:List AV) (o f:List (Nat×Nat)):Ty:=⟨true,n,z,none,o,false,false,none,none,none,false,f,none⟩
theorem oSt {P:Program} {k n:Nat} {z:List AV} {o f:List (Nat×Nat)} {fs:Array Field} (h:P.underlying k=some (.struct fs))
  (hi:jEt P k n z:=by exact⟨_,_,rfl,rfl,rfl,rfl,fun c=>by repeat' first|exact True.intro|exact⟨⟨_,rfl,Rep.int _ _⟩,rfl⟩|exact⟨⟨_,rfl,Rep.str _⟩,rfl⟩|exact⟨⟨_,rfl,Rep.bool _⟩,rfl⟩|exact⟨rfl,rfl⟩|exact⟨True.intro,rfl⟩|refine⟨?_,?_⟩⟩)
  (ho:fs.toList.mapM (fun f=>(P.info? f.type).map fun i=>(f.offset,i.size))=some o:=by kernel_rfl) (hf:fs.toList.map (fun f=>(f.type,f.offset))=f:=by kernel_rfl):TyOk P k (tSt n z o f):=
 ⟨⟨_,h,rfl⟩,hi,nofun,fun _=>⟨_,h,ho⟩,nofun,nofun,nofun,nofun,nofun,nofun,fun _=>⟨_,h,hf⟩,nofun⟩
abbrev tIn (i:IntKind):Ty:=⟨false,1,[.pv (.int i) (0:Int)],none,[],false,false,some i,none,none,false,[],none⟩
abbrev tPt (z:AV):Ty:=⟨false,1,[z],none,[],false,false,none,none,none,true,[],none⟩
theorem oIn {P:Program} {k:Nat} {i:IntKind} (h:P.underlying k=some (.int i)) (hi:jEt P k 1 [.pv (.int i) (0:Int)]:=by exact⟨_,_,rfl,rfl,rfl,rfl,fun c=>⟨⟨⟨_,rfl,Rep.int _ _⟩,rfl⟩,True.intro⟩⟩):TyOk P k (tIn i):=
 ⟨⟨_,h,rfl⟩,hi,nofun,fun h=>absurd rfl h,nofun,nofun,fun _ g=>by cases g;exact h,nofun,nofun,nofun,fun h=>absurd rfl h,nofun⟩
theorem oPt {P:Program} {k u:Nat} {z:AV} (h:P.underlying k=some (.pointer u)) (hi:jEt P k 1 [z]:=by exact⟨_,_,rfl,rfl,rfl,rfl,fun c=>⟨⟨rfl,rfl⟩,True.intro⟩⟩):TyOk P k (tPt z):=
 ⟨⟨_,h,rfl⟩,hi,nofun,fun h=>absurd rfl h,nofun,nofun,nofun,nofun,nofun,fun _=>⟨_,h⟩,fun h=>absurd rfl h,nofun⟩
def ty2 :Ty:=tIn .i64
theorem jnr :TyOk Tryz.prog 2 ty2:=oIn Tryz.underlying2
def ty3 :Ty:=tIn .i64
theorem jkV :TyOk Tryz.prog 3 ty3:=oIn Tryz.underlying3
def ty4 :Ty:=⟨false,1,[.pv .bool false],none,[],false,true,none,none,none,false,[],none⟩
theorem jsX :TyOk Tryz.prog 4 ty4:=⟨⟨_,Tryz.underlying4,rfl⟩,⟨_,_,rfl,rfl,rfl,rfl,fun c=>⟨⟨⟨_,rfl,Rep.bool _⟩,rfl⟩,True.intro⟩⟩,nofun,fun h=>absurd rfl h,nofun,fun _=>Tryz.underlying4,nofun,nofun,nofun,nofun,fun h=>absurd rfl h,nofun⟩
def ty5 :Ty:=tIn .u8
theorem joh :TyOk Tryz.prog 5 ty5:=oIn Tryz.underlying5
def ty9 :Ty:=⟨false,1,[.pv .str []],none,[],true,false,none,none,none,false,[],none⟩
theorem jlm :TyOk Tryz.prog 9 ty9:=⟨⟨_,Tryz.underlying9,rfl⟩,⟨_,_,rfl,rfl,rfl,rfl,fun c=>⟨⟨⟨_,rfl,Rep.str _⟩,rfl⟩,True.intro⟩⟩,nofun,fun h=>absurd rfl h,fun _=>Tryz.underlying9,nofun,nofun,nofun,nofun,nofun,fun h=>absurd rfl h,nofun⟩
def ty22 :Ty:=tSl (.nils) 9 .str 16
theorem jkf :TyOk Tryz.prog 22 ty22:=oSl Tryz.underlying22
def ty23 :Ty:=tSl (.nils) 141 (.pair (.sl .str) .str) 40
theorem jlb :TyOk Tryz.prog 23 ty23:=oSl Tryz.underlying23
def ty24 :Ty:=tSt 2 [.nils,.nils] [(0,1),(1,1)] [(22,0),(23,1)]
theorem jo8 :TyOk Tryz.prog 24 ty24:=oSt Tryz.underlying24
def ty25 :Ty:=tSt 2 [.nils,.nils] [(0,1),(1,1)] [(22,0),(23,1)]
theorem jtq :TyOk Tryz.prog 25 ty25:=oSt Tryz.underlying25
def ty27 :Ty:=tSl (.nils) 95 (.pair (.int .i64) (.pair (.sl (.pair .str .str)) (.sl (.pair .str (.int .i64))))) 56
theorem jtj :TyOk Tryz.prog 27 ty27:=oSl Tryz.underlying27
def ty28 :Ty:=tSl (.nils) 167 (.pair .str (.pair .str (.sl (.pair (.int .i64) (.sl (.int .i64)))))) 56
theorem jmp :TyOk Tryz.prog 28 ty28:=oSl Tryz.underlying28
def ty29 :Ty:=tSt 2 [.nils,.nils] [(0,1),(1,1)] [(27,0),(28,1)]
theorem jse :TyOk Tryz.prog 29 ty29:=oSt Tryz.underlying29
def ty30 :Ty:=tSt 2 [.nils,.nils] [(0,1),(1,1)] [(27,0),(28,1)]
theorem jlj :TyOk Tryz.prog 30 ty30:=oSt Tryz.underlying30
def ty31 :Ty:=tSl (.nils) 3 (.int .i64) 8
theorem jD0 :TyOk Tryz.prog 31 ty31:=oSl Tryz.underlying31
def ty32 :Ty:=tSt 3 [.nils,.nils,.nils] [(0,2),(2,1)] [(30,0),(31,2)]
theorem jB5 :TyOk Tryz.prog 32 ty32:=oSt Tryz.underlying32
def ty33 :Ty:=tSt 3 [.nils,.nils,.nils] [(0,2),(2,1)] [(30,0),(31,2)]
theorem jM8 :TyOk Tryz.prog 33 ty33:=oSt Tryz.underlying33
def ty36 :Ty:=tSl (.nils) 142 (.pair (.sl .str) .str) 40
theorem jRB :TyOk Tryz.prog 36 ty36:=oSl Tryz.underlying36
def ty37 :Ty:=tSt 2 [.nils,.nils] [(0,1),(1,1)] [(22,0),(36,1)]
theorem jA1 :TyOk Tryz.prog 37 ty37:=oSt Tryz.underlying37
def ty38 :Ty:=tSt 2 [.nils,.nils] [(0,1),(1,1)] [(22,0),(36,1)]
theorem jBk :TyOk Tryz.prog 38 ty38:=oSt Tryz.underlying38
def ty45 :Ty:=tSl (.nils) 5 (.int .u8) 1
theorem joX :TyOk Tryz.prog 45 ty45:=oSl Tryz.underlying45
def ty46 :Ty:=tSl (.nils) 114 (.pair .str .str) 32
theorem jl4 :TyOk Tryz.prog 46 ty46:=oSl Tryz.underlying46
def ty47 :Ty:=tSt 1 [.nils] [(0,1)] [(46,0)]
theorem jwu :TyOk Tryz.prog 47 ty47:=oSt Tryz.underlying47
def ty48 :Ty:=tSt 1 [.nils] [(0,1)] [(46,0)]
theorem jwS :TyOk Tryz.prog 48 ty48:=oSt Tryz.underlying48
def ty51 :Ty:=tSl (.nils) 33 (.pair (.pair (.sl (.pair (.int .i64) (.pair (.sl (.pair .str .str)) (.sl (.pair .str (.int .i64)))))) (.sl (.pair .str (.pair .str (.sl (.pair (.int .i64) (.sl (.int .i64)))))))) (.sl (.int .i64))) 72
theorem jnW :TyOk Tryz.prog 51 ty51:=oSl Tryz.underlying51
def ty52 :Ty:=tSt 3 [.nils,.nils,.nils] [(0,2),(2,1)] [(38,0),(51,2)]
theorem jog :TyOk Tryz.prog 52 ty52:=oSt Tryz.underlying52
def ty53 :Ty:=tSt 3 [.nils,.nils,.nils] [(0,2),(2,1)] [(38,0),(51,2)]
theorem jpI :TyOk Tryz.prog 53 ty53:=oSt Tryz.underlying53
def ty60 :Ty:=tSl (.nils) 196 (.pair .str .str) 32
theorem jMT :TyOk Tryz.prog 60 ty60:=oSl Tryz.underlying60
def ty61 :Ty:=tSt 1 [.nils] [(0,1)] [(60,0)]
theorem jGN :TyOk Tryz.prog 61 ty61:=oSt Tryz.underlying61
def ty62 :Ty:=tSt 1 [.nils] [(0,1)] [(60,0)]
theorem jDo :TyOk Tryz.prog 62 ty62:=oSt Tryz.underlying62
def ty73 :Ty:=tSl (.nils) 213 (.pair (.pair (.sl (.pair (.int .i64) (.pair (.sl (.pair .str .str)) (.sl (.pair .str (.int .i64)))))) (.sl (.pair .str (.pair .str (.sl (.pair (.int .i64) (.sl (.int .i64)))))))) (.sl (.int .i64))) 72
theorem jMn :TyOk Tryz.prog 73 ty73:=oSl Tryz.underlying73
def ty74 :Ty:=tSt 3 [.nils,.nils,.nils] [(0,2),(2,1)] [(25,0),(73,2)]
theorem jEW :TyOk Tryz.prog 74 ty74:=oSt Tryz.underlying74
def ty75 :Ty:=tSt 3 [.nils,.nils,.nils] [(0,2),(2,1)] [(25,0),(73,2)]
theorem jmE :TyOk Tryz.prog 75 ty75:=oSt Tryz.underlying75
def ty92 :Ty:=tSl (.nils) 155 (.pair .str .str) 32
theorem jG1 :TyOk Tryz.prog 92 ty92:=oSl Tryz.underlying92
def ty93 :Ty:=tSl (.nils) 157 (.pair .str (.int .i64)) 24
theorem jHo :TyOk Tryz.prog 93 ty93:=oSl Tryz.underlying93
def ty94 :Ty:=tSt 3 [.pv (.int .i64) 0,.nils,.nils] [(0,1),(1,1),(2,1)] [(3,0),(92,1),(93,2)]
theorem jHc :TyOk Tryz.prog 94 ty94:=oSt Tryz.underlying94
def ty95 :Ty:=tSt 3 [.pv (.int .i64) 0,.nils,.nils] [(0,1),(1,1),(2,1)] [(3,0),(92,1),(93,2)]
theorem jOl :TyOk Tryz.prog 95 ty95:=oSt Tryz.underlying95
def jZb :Ty:=tSt 2 [.pv .str [],.pv .str []] [(0,1),(1,1)] [(9,0),(9,1)]
theorem jZj :TyOk Tryz.prog 113 jZb:=oSt Tryz.underlying113
def jNg :Ty:=⟨true,2,[.pv .str [],.pv .str []],none,[(0,1),(1,1)],false,false,none,some (.pair .str .str),none,false,[(9,0),(9,1)],none⟩
theorem jOb :TyOk Tryz.prog 114 jNg:=⟨⟨_,Tryz.underlying114,rfl⟩,⟨_,_,rfl,rfl,rfl,rfl,fun c=>⟨⟨⟨_,rfl,Rep.str _⟩,rfl⟩,⟨⟨_,rfl,Rep.str _⟩,rfl⟩,True.intro⟩⟩,nofun,fun _=>⟨_,Tryz.underlying114,by kernel_rfl⟩,nofun,nofun,nofun,fun r h=>by cases h;exact eqs_of _ rfl (by kernel_rfl) (by kernel_rfl) (by kernel_rfl) [(false,9,0),(false,9,1)] (by kernel_rfl) (fun x y=>⟨⟨rfl,rfl,Tryz.underlying9⟩,⟨⟨rfl,rfl,Tryz.underlying9⟩,True.intro⟩⟩),nofun,nofun,fun _=>⟨_,Tryz.underlying114,by kernel_rfl⟩,nofun⟩
def jY8 :Ty:=tSt 2 [.nils,.pv .str []] [(0,1),(1,1)] [(22,0),(9,1)]
theorem jZf :TyOk Tryz.prog 140 jY8:=oSt Tryz.underlying140
def jeZ :Ty:=tSt 2 [.nils,.pv .str []] [(0,1),(1,1)] [(22,0),(9,1)]
theorem jmI :TyOk Tryz.prog 141 jeZ:=oSt Tryz.underlying141
def jhm :Ty:=tSt 2 [.nils,.pv .str []] [(0,1),(1,1)] [(22,0),(9,1)]
theorem jpp :TyOk Tryz.prog 142 jhm:=oSt Tryz.underlying142
def jFk :Ty:=⟨true,2,[.pv .str [],.pv .str []],none,[(0,1),(1,1)],false,false,none,some (.pair .str .str),none,false,[(9,0),(9,1)],none⟩
theorem jFL :TyOk Tryz.prog 155 jFk:=⟨⟨_,Tryz.underlying155,rfl⟩,⟨_,_,rfl,rfl,rfl,rfl,fun c=>⟨⟨⟨_,rfl,Rep.str _⟩,rfl⟩,⟨⟨_,rfl,Rep.str _⟩,rfl⟩,True.intro⟩⟩,nofun,fun _=>⟨_,Tryz.underlying155,by kernel_rfl⟩,nofun,nofun,nofun,fun r h=>by cases h;exact eqs_of _ rfl (by kernel_rfl) (by kernel_rfl) (by kernel_rfl) [(false,9,0),(false,9,1)] (by kernel_rfl) (fun x y=>⟨⟨rfl,rfl,Tryz.underlying9⟩,⟨⟨rfl,rfl,Tryz.underlying9⟩,True.intro⟩⟩),nofun,nofun,fun _=>⟨_,Tryz.underlying155,by kernel_rfl⟩,nofun⟩
def jFu :Ty:=tSt 2 [.pv .str [],.pv (.int .i64) 0] [(0,1),(1,1)] [(9,0),(3,1)]
theorem jGu :TyOk Tryz.prog 156 jFu:=oSt Tryz.underlying156
def jQY :Ty:=⟨true,2,[.pv .str [],.pv (.int .i64) 0],none,[(0,1),(1,1)],false,false,none,some (.pair .str (.int .i64)),none,false,[(9,0),(3,1)],none⟩
theorem jRn :TyOk Tryz.prog 157 jQY:=⟨⟨_,Tryz.underlying157,rfl⟩,⟨_,_,rfl,rfl,rfl,rfl,fun c=>⟨⟨⟨_,rfl,Rep.str _⟩,rfl⟩,⟨⟨_,rfl,Rep.int _ _⟩,rfl⟩,True.intro⟩⟩,nofun,fun _=>⟨_,Tryz.underlying157,by kernel_rfl⟩,nofun,nofun,nofun,fun r h=>by cases h;exact eqs_of _ rfl (by kernel_rfl) (by kernel_rfl) (by kernel_rfl) [(false,9,0),(false,3,1)] (by kernel_rfl) (fun x y=>⟨⟨rfl,rfl,Tryz.underlying9⟩,⟨⟨rfl,rfl,⟨rfl,_,Tryz.underlying3⟩⟩,True.intro⟩⟩),nofun,nofun,fun _=>⟨_,Tryz.underlying157,by kernel_rfl⟩,nofun⟩
def jQ3 :Ty:=tSl (.nils) 162 (.pair .str (.int .i64)) 24
theorem jRg :TyOk Tryz.prog 159 jQ3:=oSl Tryz.underlying159
def jE9 :Ty:=tSt 2 [.pv .str [],.pv (.int .i64) 0] [(0,1),(1,1)] [(9,0),(3,1)]
theorem jF8 :TyOk Tryz.prog 161 jE9:=oSt Tryz.underlying161
def jg0 :Ty:=⟨true,2,[.pv .str [],.pv (.int .i64) 0],none,[(0,1),(1,1)],false,false,none,some (.pair .str (.int .i64)),none,false,[(9,0),(3,1)],none⟩
theorem jqt :TyOk Tryz.prog 162 jg0:=⟨⟨_,Tryz.underlying162,rfl⟩,⟨_,_,rfl,rfl,rfl,rfl,fun c=>⟨⟨⟨_,rfl,Rep.str _⟩,rfl⟩,⟨⟨_,rfl,Rep.int _ _⟩,rfl⟩,True.intro⟩⟩,nofun,fun _=>⟨_,Tryz.underlying162,by kernel_rfl⟩,nofun,nofun,nofun,fun r h=>by cases h;exact eqs_of _ rfl (by kernel_rfl) (by kernel_rfl) (by kernel_rfl) [(false,9,0),(false,3,1)] (by kernel_rfl) (fun x y=>⟨⟨rfl,rfl,Tryz.underlying9⟩,⟨⟨rfl,rfl,⟨rfl,_,Tryz.underlying3⟩⟩,True.intro⟩⟩),nofun,nofun,fun _=>⟨_,Tryz.underlying162,by kernel_rfl⟩,nofun⟩
def jjd :Ty:=tSl (.nils) 241 (.pair (.int .i64) (.sl (.int .i64))) 32
theorem jnD :TyOk Tryz.prog 165 jjd:=oSl Tryz.underlying165
def jZc :Ty:=tSt 3 [.pv .str [],.pv .str [],.nils] [(0,1),(1,1),(2,1)] [(9,0),(9,1),(165,2)]
theorem jZe :TyOk Tryz.prog 166 jZc:=oSt Tryz.underlying166
def jiX :Ty:=tSt 3 [.pv .str [],.pv .str [],.nils] [(0,1),(1,1),(2,1)] [(9,0),(9,1),(165,2)]
theorem jo7 :TyOk Tryz.prog 167 jiX:=oSt Tryz.underlying167
def jNl :Ty:=⟨true,2,[.pv .str [],.pv .str []],none,[(0,1),(1,1)],false,false,none,some (.pair .str .str),none,false,[(9,0),(9,1)],none⟩
theorem jNI :TyOk Tryz.prog 196 jNl:=⟨⟨_,Tryz.underlying196,rfl⟩,⟨_,_,rfl,rfl,rfl,rfl,fun c=>⟨⟨⟨_,rfl,Rep.str _⟩,rfl⟩,⟨⟨_,rfl,Rep.str _⟩,rfl⟩,True.intro⟩⟩,nofun,fun _=>⟨_,Tryz.underlying196,by kernel_rfl⟩,nofun,nofun,nofun,fun r h=>by cases h;exact eqs_of _ rfl (by kernel_rfl) (by kernel_rfl) (by kernel_rfl) [(false,9,0),(false,9,1)] (by kernel_rfl) (fun x y=>⟨⟨rfl,rfl,Tryz.underlying9⟩,⟨⟨rfl,rfl,Tryz.underlying9⟩,True.intro⟩⟩),nofun,nofun,fun _=>⟨_,Tryz.underlying196,by kernel_rfl⟩,nofun⟩
def jzq :Ty:=tIn .u32
theorem jDR :TyOk Tryz.prog 199 jzq:=oIn Tryz.underlying199
def jY7 :Ty:=tIn .u64
theorem jZg :TyOk Tryz.prog 200 jY7:=oIn Tryz.underlying200
def j1Q :Ty:=tPt (.nilp)
theorem j3k :TyOk Tryz.prog 201 j1Q:=oPt Tryz.underlying201
def jje :Ty:=tSl (.nils) 340 (.pair (.int .i64) (.pair (.sl (.pair .str .str)) (.sl (.pair .str (.int .i64))))) 56
theorem jqy :TyOk Tryz.prog 208 jje:=oSl Tryz.underlying208
def jhV :Ty:=tSl (.nils) 344 (.pair .str (.pair .str (.sl (.pair (.int .i64) (.sl (.int .i64)))))) 56
theorem jsP :TyOk Tryz.prog 209 jhV:=oSl Tryz.underlying209
def ji1 :Ty:=tSt 2 [.nils,.nils] [(0,1),(1,1)] [(208,0),(209,1)]
theorem jtI :TyOk Tryz.prog 210 ji1:=oSt Tryz.underlying210
def jPO :Ty:=tSt 2 [.nils,.nils] [(0,1),(1,1)] [(208,0),(209,1)]
theorem jQD :TyOk Tryz.prog 211 jPO:=oSt Tryz.underlying211
def jjt :Ty:=tSt 3 [.nils,.nils,.nils] [(0,2),(2,1)] [(211,0),(31,2)]
theorem jtb :TyOk Tryz.prog 212 jjt:=oSt Tryz.underlying212
def jhd :Ty:=tSt 3 [.nils,.nils,.nils] [(0,2),(2,1)] [(211,0),(31,2)]
theorem jr4 :TyOk Tryz.prog 213 jhd:=oSt Tryz.underlying213
def jFI :Ty:=tSl (.nils) 233 (.pair .str (.pair (.int .i64) (.pair (.int .i64) (.int .i64)))) 40
theorem jF7 :TyOk Tryz.prog 230 jFI:=oSl Tryz.underlying230
def jFq :Ty:=tSt 4 [.pv .str [],.pv (.int .i64) 0,.pv (.int .i64) 0,.pv (.int .i64) 0] [(0,1),(1,1),(2,1),(3,1)] [(9,0),(3,1),(3,2),(3,3)]
theorem jF2 :TyOk Tryz.prog 232 jFq:=oSt Tryz.underlying232
def jh4 :Ty:=⟨true,4,[.pv .str [],.pv (.int .i64) 0,.pv (.int .i64) 0,.pv (.int .i64) 0],none,[(0,1),(1,1),(2,1),(3,1)],false,false,none,some (.pair .str (.pair (.int .i64) (.pair (.int .i64) (.int .i64)))),none,false,[(9,0),(3,1),(3,2),(3,3)],none⟩
theorem jn7 :TyOk Tryz.prog 233 jh4:=⟨⟨_,Tryz.underlying233,rfl⟩,⟨_,_,rfl,rfl,rfl,rfl,fun c=>⟨⟨⟨_,rfl,Rep.str _⟩,rfl⟩,⟨⟨_,rfl,Rep.int _ _⟩,rfl⟩,⟨⟨_,rfl,Rep.int _ _⟩,rfl⟩,⟨⟨_,rfl,Rep.int _ _⟩,rfl⟩,True.intro⟩⟩,nofun,fun _=>⟨_,Tryz.underlying233,by kernel_rfl⟩,nofun,nofun,nofun,fun r h=>by cases h;exact eqs_of _ rfl (by kernel_rfl) (by kernel_rfl) (by kernel_rfl) [(false,9,0),(false,3,1),(false,3,2),(false,3,3)] (by kernel_rfl) (fun x y=>⟨⟨rfl,rfl,Tryz.underlying9⟩,⟨⟨rfl,rfl,⟨rfl,_,Tryz.underlying3⟩⟩,⟨⟨rfl,rfl,⟨rfl,_,Tryz.underlying3⟩⟩,⟨⟨rfl,rfl,⟨rfl,_,Tryz.underlying3⟩⟩,True.intro⟩⟩⟩⟩),nofun,nofun,fun _=>⟨_,Tryz.underlying233,by kernel_rfl⟩,nofun⟩
def jFC :Ty:=tPt (.nilp)
theorem jGh :TyOk Tryz.prog 234 jFC:=oPt Tryz.underlying234
def jY6 :Ty:=tPt (.nilp)
theorem jZp :TyOk Tryz.prog 236 jY6:=oPt Tryz.underlying236
def jQO :Ty:=tSt 2 [.pv (.int .i64) 0,.nils] [(0,1),(1,1)] [(3,0),(31,1)]
theorem jRh :TyOk Tryz.prog 240 jQO:=oSt Tryz.underlying240
def jKp :Ty:=tSt 2 [.pv (.int .i64) 0,.nils] [(0,1),(1,1)] [(3,0),(31,1)]
theorem jKV :TyOk Tryz.prog 241 jKp:=oSt Tryz.underlying241
def jZa :Ty:=tIn .u64
theorem jZo :TyOk Tryz.prog 271 jZa:=oIn Tryz.underlying271
def jNu :Ty:=tIn .i64
theorem jNL :TyOk Tryz.prog 278 jNu:=oIn Tryz.underlying278
def jXJ :Ty:=tIn .u64
theorem jYa :TyOk Tryz.prog 318 jXJ:=oIn Tryz.underlying318
def jY5 :Ty:=tPt (.nilp)
theorem jZi :TyOk Tryz.prog 322 jY5:=oPt Tryz.underlying322
def j30 :Ty:=tSl (.nils) 369 (.pair .str .str) 32
theorem j4r :TyOk Tryz.prog 337 j30:=oSl Tryz.underlying337
def j34 :Ty:=tSl (.nils) 371 (.pair .str (.int .i64)) 24
theorem j4m :TyOk Tryz.prog 338 j34:=oSl Tryz.underlying338
def j38 :Ty:=tSt 3 [.pv (.int .i64) 0,.nils,.nils] [(0,1),(1,1),(2,1)] [(3,0),(337,1),(338,2)]
theorem j4e :TyOk Tryz.prog 339 j38:=oSt Tryz.underlying339
def j31 :Ty:=tSt 3 [.pv (.int .i64) 0,.nils,.nils] [(0,1),(1,1),(2,1)] [(3,0),(337,1),(338,2)]
theorem j4k :TyOk Tryz.prog 340 j31:=oSt Tryz.underlying340
def j32 :Ty:=tSl (.nils) 373 (.pair (.int .i64) (.sl (.int .i64))) 32
theorem j4h :TyOk Tryz.prog 342 j32:=oSl Tryz.underlying342
def j4a :Ty:=tSt 3 [.pv .str [],.pv .str [],.nils] [(0,1),(1,1),(2,1)] [(9,0),(9,1),(342,2)]
theorem j4c :TyOk Tryz.prog 343 j4a:=oSt Tryz.underlying343
def jPG :Ty:=tSt 3 [.pv .str [],.pv .str [],.nils] [(0,1),(1,1),(2,1)] [(9,0),(9,1),(342,2)]
theorem jQf :TyOk Tryz.prog 344 jPG:=oSt Tryz.underlying344
def jZd :Ty:=tPt (.nilp)
theorem jZl :TyOk Tryz.prog 354 jZd:=oPt Tryz.underlying354
def jFH :Ty:=⟨true,2,[.pv .str [],.pv .str []],none,[(0,1),(1,1)],false,false,none,some (.pair .str .str),none,false,[(9,0),(9,1)],none⟩
theorem jGj :TyOk Tryz.prog 369 jFH:=⟨⟨_,Tryz.underlying369,rfl⟩,⟨_,_,rfl,rfl,rfl,rfl,fun c=>⟨⟨⟨_,rfl,Rep.str _⟩,rfl⟩,⟨⟨_,rfl,Rep.str _⟩,rfl⟩,True.intro⟩⟩,nofun,fun _=>⟨_,Tryz.underlying369,by kernel_rfl⟩,nofun,nofun,nofun,fun r h=>by cases h;exact eqs_of _ rfl (by kernel_rfl) (by kernel_rfl) (by kernel_rfl) [(false,9,0),(false,9,1)] (by kernel_rfl) (fun x y=>⟨⟨rfl,rfl,Tryz.underlying9⟩,⟨⟨rfl,rfl,Tryz.underlying9⟩,True.intro⟩⟩),nofun,nofun,fun _=>⟨_,Tryz.underlying369,by kernel_rfl⟩,nofun⟩
def j3Z :Ty:=⟨true,2,[.pv .str [],.pv (.int .i64) 0],none,[(0,1),(1,1)],false,false,none,some (.pair .str (.int .i64)),none,false,[(9,0),(3,1)],none⟩
theorem j4f :TyOk Tryz.prog 371 j3Z:=⟨⟨_,Tryz.underlying371,rfl⟩,⟨_,_,rfl,rfl,rfl,rfl,fun c=>⟨⟨⟨_,rfl,Rep.str _⟩,rfl⟩,⟨⟨_,rfl,Rep.int _ _⟩,rfl⟩,True.intro⟩⟩,nofun,fun _=>⟨_,Tryz.underlying371,by kernel_rfl⟩,nofun,nofun,nofun,fun r h=>by cases h;exact eqs_of _ rfl (by kernel_rfl) (by kernel_rfl) (by kernel_rfl) [(false,9,0),(false,3,1)] (by kernel_rfl) (fun x y=>⟨⟨rfl,rfl,Tryz.underlying9⟩,⟨⟨rfl,rfl,⟨rfl,_,Tryz.underlying3⟩⟩,True.intro⟩⟩),nofun,nofun,fun _=>⟨_,Tryz.underlying371,by kernel_rfl⟩,nofun⟩
def jPQ :Ty:=tSt 2 [.pv (.int .i64) 0,.nils] [(0,1),(1,1)] [(3,0),(31,1)]
theorem jQz :TyOk Tryz.prog 373 jPQ:=oSt Tryz.underlying373
def jcH :List (Nat×Ty)->Nat->Option Ty
 | [],_=>none
 |(k,y)::l,t=>bif Nat.beq t k then some y else jcH l t
def jc4 (P:Program):List (Nat×Ty)->Prop
 | []=>True
 |(k,y)::l=>TyOk P k y/\jc4 P l
theorem jeo {P:Program}:∀ {l:List (Nat×Ty)},jc4 P l->∀t y,jcH l t=some y->TyOk P t y
 | [],_,t,y,h=>by cases h
 |(k,z)::l,hl,t,y,h=>by
  simp only[jcH]at h
  cases e:Nat.beq t k with
  |true=>rw[e]at h;cases h;rw[zby e];exact hl.1
  |false=>rw[e]at h;exact jeo hl.2 t y h
def tyL :List (Nat×Ty):=[(2,ty2),(3,ty3),(4,ty4),(5,ty5),(9,ty9),(22,ty22),(23,ty23),(24,ty24),(25,ty25),(27,ty27),(28,ty28),(29,ty29),(30,ty30),(31,ty31),(32,ty32),(33,ty33),(36,ty36),(37,ty37),(38,ty38),(45,ty45),(46,ty46),(47,ty47),(48,ty48),(51,ty51),(52,ty52),(53,ty53),(60,ty60),(61,ty61),(62,ty62),(73,ty73),(74,ty74),(75,ty75),(92,ty92),(93,ty93),(94,ty94),(95,ty95),(113,jZb),(114,jNg),(140,jY8),(141,jeZ),(142,jhm),(155,jFk),(156,jFu),(157,jQY),(159,jQ3),(161,jE9),(162,jg0),(165,jjd),(166,jZc),(167,jiX),(196,jNl),(199,jzq),(200,jY7),(201,j1Q),(208,jje),(209,jhV),(210,ji1),(211,jPO),(212,jjt),(213,jhd),(230,jFI),(232,jFq),(233,jh4),(234,jFC),(236,jY6),(240,jQO),(241,jKp),(271,jZa),(278,jNu),(318,jXJ),(322,jY5),(337,j30),(338,j34),(339,j38),(340,j31),(342,j32),(343,j4a),(344,jPG),(354,jZd),(369,jFH),(371,j3Z),(373,jPQ)]
theorem jnJ :jc4 Tryz.prog tyL:=⟨jnr,jkV,jsX,joh,jlm,jkf,jlb,jo8,jtq,jtj,jmp,jse,jlj,jD0,jB5,jM8,jRB,jA1,jBk,joX,jl4,jwu,jwS,jnW,jog,jpI,jMT,jGN,jDo,jMn,jEW,jmE,jG1,jHo,jHc,jOl,jZj,jOb,jZf,jmI,jpp,jFL,jGu,jRn,jRg,jF8,jqt,jnD,jZe,jo7,jNI,jDR,jZg,j3k,jqy,jsP,jtI,jQD,jtb,jr4,jF7,jF2,jn7,jGh,jZp,jRh,jKV,jZo,jNL,jYa,jZi,j4r,j4m,j4e,j4k,j4h,j4c,jQf,jZl,jGj,j4f,jQz,True.intro⟩
def ja1 :List (Nat×Model)->Nat->List Model
 | [],_=>[]
 |(k,m)::l,f=>bif Nat.beq f k then m::ja1 l f else ja1 l f
def jR (P:Program):List (Nat×Model)->Prop
 | []=>True
 |(k,m)::l=>ModelOk P k m/\jR P l
theorem jef {P:Program}:∀ {l:List (Nat×Model)},jR P l->∀f m,m∈ja1 l f->ModelOk P f m
 | [],_,f,m,h=>by cases h
 |(k,x)::l,hl,f,m,h=>by
  simp only[ja1]at h
  cases e:Nat.beq f k with
  |true=>
   rw[e]at h
   rcases zp.1 h with h|h
   .subst h;rw[zby e];exact hl.1
   .exact jef hl.2 f m h
  |false=>rw[e]at h;exact jef hl.2 f m h
theorem ja {P:Program}:jR P []:=True.intro
theorem jsH {P:Program} {k:Nat} {m:Model} {l:List (Nat×Model)} (h:ModelOk P k m) (hl:jR P l):jR P ((k,m)::l):=And.intro h hl
def memB :List Nat->Nat->Bool
 | [],_=>false
 |k::l,j=>bif Nat.beq j k then true else memB l j
noncomputable def jbC (l:List (Nat×Model)) (wr res:List Nat) (dw:List Nat:=[]):Env:=⟨Tryz.prog,jcH tyL,ja1 l,memB wr,memB res,memB dw⟩
theorem jtQ {l:List (Nat×Model)} (h:jR Tryz.prog l) (wr res:List Nat) (dw:List Nat:=[]):EnvOk (jbC l wr res dw):=⟨by kernel_rfl,jeo jnJ,jef h⟩
end Go.Proofs.YtcinmmojlcchfaaGreatDoor
