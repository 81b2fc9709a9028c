/- The table of types, by program. -/
import Derived.Test.YtcinmmojlcchfaaGreatKX
import Derived.Test.YtcinmmojlcchfaaGreatProg
import Derived.KernelRfl
set_option linter.unusedSimpArgs false
set_option linter.unusedVariables false
namespace Go.Proofs.YtcinmmojlcchfaaGreat
open Go.RowKit
set_option maxRecDepth 100000
abbrev jEt (P:Program) (k n:Nat) (z:List AV):Prop:=∃i y,P.info? k=some i/\i.size=n/\i.zero=some y/\y.cells.size=n/\∀c,All2 (V1c c) z y.cells.toList
abbrev tSl (z:AV) (e:TypeId) (r:Tp) (b:Nat):Ty:=⟨false,1,[z],some (e,r,b),[],false,false,none,none,none,false,[],none⟩
theorem oSl {P:Program} {k e:TypeId} {r:Tp} {b:Nat} {z:AV} (h:P.underlying k=some (.slice e)) (hi:jEt P k 1 [z]:=by exact⟨_,_,rfl,rfl,rfl,rfl,fun c=>⟨⟨rfl,rfl⟩,True.intro⟩⟩)
  (he:0<r.w/\∃ie z,P.info? e=some ie/\ie.size=r.w/\ie.bytes=b/\ie.zero=some z/\z.cells.size=r.w:=by exact⟨by decide,_,_,rfl,rfl,rfl,rfl,rfl⟩):TyOk P k (tSl z e r b):=
 ⟨⟨_,h,rfl⟩,hi,fun _ _ _ g=>by cases g;exact⟨h,he⟩,fun h=>absurd rfl h,nofun,nofun,nofun,nofun,nofun,nofun,fun h=>absurd rfl h,nofun⟩
abbrev tSt (n:Nat) (z:List AV) (o f:List (Nat×Nat)):Ty:=⟨true,n,z,none,o,false,false,none,none,none,false,f,none⟩
theorem oSt {P:Program} {k n:Nat} {z:List AV} {o f:List (Nat×Nat)} {fs:Array Field} (h:P.underlying k=some (.struct fs))
  (hi:jEt P k n z:=by exact⟨_,_,rfl,rfl,rfl,rfl,fun c=>by repeat' first|exact True.intro|exact⟨⟨_,rfl,Rep.int _ _⟩,rfl⟩|exact⟨⟨_,rfl,Rep.str _⟩,rfl⟩|exact⟨⟨_,rfl,Rep.bool _⟩,rfl⟩|exact⟨rfl,rfl⟩|exact⟨True.intro,rfl⟩|refine⟨?_,?_⟩⟩)
  (ho:fs.toList.mapM (fun f=>(P.info? f.type).map fun i=>(f.offset,i.size))=some o:=by kernel_rfl) (hf:fs.toList.map (fun f=>(f.type,f.offset))=f:=by kernel_rfl):TyOk P k (tSt n z o f):=
 ⟨⟨_,h,rfl⟩,hi,nofun,fun _=>⟨_,h,ho⟩,nofun,nofun,nofun,nofun,nofun,nofun,fun _=>⟨_,h,hf⟩,nofun⟩
abbrev tIn (i:IntKind):Ty:=⟨false,1,[.pv (.int i) (0:Int)],none,[],false,false,some i,none,none,false,[],none⟩
abbrev tPt (z:AV):Ty:=⟨false,1,[z],none,[],false,false,none,none,none,true,[],none⟩
theorem oIn {P:Program} {k:Nat} {i:IntKind} (h:P.underlying k=some (.int i)) (hi:jEt P k 1 [.pv (.int i) (0:Int)]:=by exact⟨_,_,rfl,rfl,rfl,rfl,fun c=>⟨⟨⟨_,rfl,Rep.int _ _⟩,rfl⟩,True.intro⟩⟩):TyOk P k (tIn i):=
 ⟨⟨_,h,rfl⟩,hi,nofun,fun h=>absurd rfl h,nofun,nofun,fun _ g=>by cases g;exact h,nofun,nofun,nofun,fun h=>absurd rfl h,nofun⟩
theorem oPt {P:Program} {k u:Nat} {z:AV} (h:P.underlying k=some (.pointer u)) (hi:jEt P k 1 [z]:=by exact⟨_,_,rfl,rfl,rfl,rfl,fun c=>⟨⟨rfl,rfl⟩,True.intro⟩⟩):TyOk P k (tPt z):=
 ⟨⟨_,h,rfl⟩,hi,nofun,fun h=>absurd rfl h,nofun,nofun,nofun,nofun,nofun,fun _=>⟨_,h⟩,fun h=>absurd rfl h,nofun⟩
def ty2 :Ty:=tIn .i64
theorem jnr :TyOk Tryz.prog 2 ty2:=oIn Tryz.underlying2
def ty3 :Ty:=tIn .i64
theorem jkV :TyOk Tryz.prog 3 ty3:=oIn Tryz.underlying3
def ty4 :Ty:=⟨false,1,[.pv .bool false],none,[],false,true,none,none,none,false,[],none⟩
theorem jsX :TyOk Tryz.prog 4 ty4:=⟨⟨_,Tryz.underlying4,rfl⟩,⟨_,_,rfl,rfl,rfl,rfl,fun c=>⟨⟨⟨_,rfl,Rep.bool _⟩,rfl⟩,True.intro⟩⟩,nofun,fun h=>absurd rfl h,nofun,fun _=>Tryz.underlying4,nofun,nofun,nofun,nofun,fun h=>absurd rfl h,nofun⟩
def ty5 :Ty:=tIn .u8
theorem joh :TyOk Tryz.prog 5 ty5:=oIn Tryz.underlying5
def ty9 :Ty:=⟨false,1,[.pv .str []],none,[],true,false,none,none,none,false,[],none⟩
theorem jlm :TyOk Tryz.prog 9 ty9:=⟨⟨_,Tryz.underlying9,rfl⟩,⟨_,_,rfl,rfl,rfl,rfl,fun c=>⟨⟨⟨_,rfl,Rep.str _⟩,rfl⟩,True.intro⟩⟩,nofun,fun h=>absurd rfl h,fun _=>Tryz.underlying9,nofun,nofun,nofun,nofun,nofun,fun h=>absurd rfl h,nofun⟩
def ty22 :Ty:=tSl (.nils) 9 .str 16
theorem jkf :TyOk Tryz.prog 22 ty22:=oSl Tryz.underlying22
def ty23 :Ty:=tSl (.nils) 122 (.pair (.sl .str) .str) 40
theorem jlb :TyOk Tryz.prog 23 ty23:=oSl Tryz.underlying23
def ty24 :Ty:=tSt 2 [.nils,.nils] [(0,1),(1,1)] [(22,0),(23,1)]
theorem jo8 :TyOk Tryz.prog 24 ty24:=oSt Tryz.underlying24
def ty25 :Ty:=tSt 2 [.nils,.nils] [(0,1),(1,1)] [(22,0),(23,1)]
theorem jtq :TyOk Tryz.prog 25 ty25:=oSt Tryz.underlying25
def ty26 :Ty:=tSl (.nils) 71 (.pair (.pair (.sl (.pair (.int .i64) (.pair (.sl (.pair .str .str)) (.sl (.pair .str (.int .i64)))))) (.sl (.pair .str (.pair .str (.sl (.pair (.int .i64) (.sl (.int .i64)))))))) (.sl (.int .i64))) 72
theorem jmW :TyOk Tryz.prog 26 ty26:=oSl Tryz.underlying26
def ty27 :Ty:=tSt 3 [.nils,.nils,.nils] [(0,2),(2,1)] [(25,0),(26,2)]
theorem jtj :TyOk Tryz.prog 27 ty27:=oSt Tryz.underlying27
def ty28 :Ty:=tSt 3 [.nils,.nils,.nils] [(0,2),(2,1)] [(25,0),(26,2)]
theorem jmp :TyOk Tryz.prog 28 ty28:=oSt Tryz.underlying28
def ty30 :Ty:=tSl (.nils) 126 (.pair (.sl .str) .str) 40
theorem jlj :TyOk Tryz.prog 30 ty30:=oSl Tryz.underlying30
def ty31 :Ty:=tSt 2 [.nils,.nils] [(0,1),(1,1)] [(22,0),(30,1)]
theorem jD0 :TyOk Tryz.prog 31 ty31:=oSt Tryz.underlying31
def ty32 :Ty:=tSt 2 [.nils,.nils] [(0,1),(1,1)] [(22,0),(30,1)]
theorem jB5 :TyOk Tryz.prog 32 ty32:=oSt Tryz.underlying32
def ty33 :Ty:=tSl (.nils) 55 (.pair (.pair (.sl (.pair (.int .i64) (.pair (.sl (.pair .str .str)) (.sl (.pair .str (.int .i64)))))) (.sl (.pair .str (.pair .str (.sl (.pair (.int .i64) (.sl (.int .i64)))))))) (.sl (.int .i64))) 72
theorem jM8 :TyOk Tryz.prog 33 ty33:=oSl Tryz.underlying33
def ty34 :Ty:=tSt 3 [.nils,.nils,.nils] [(0,2),(2,1)] [(32,0),(33,2)]
theorem jLW :TyOk Tryz.prog 34 ty34:=oSt Tryz.underlying34
def ty35 :Ty:=tSt 3 [.nils,.nils,.nils] [(0,2),(2,1)] [(32,0),(33,2)]
theorem jGr :TyOk Tryz.prog 35 ty35:=oSt Tryz.underlying35
def ty47 :Ty:=tSl (.nils) 77 (.pair (.int .i64) (.pair (.sl (.pair .str .str)) (.sl (.pair .str (.int .i64))))) 56
theorem jwu :TyOk Tryz.prog 47 ty47:=oSl Tryz.underlying47
def ty49 :Ty:=tSl (.nils) 89 (.pair .str (.pair .str (.sl (.pair (.int .i64) (.sl (.int .i64)))))) 56
theorem jOM :TyOk Tryz.prog 49 ty49:=oSl Tryz.underlying49
def ty50 :Ty:=tSt 2 [.nils,.nils] [(0,1),(1,1)] [(47,0),(49,1)]
theorem jmX :TyOk Tryz.prog 50 ty50:=oSt Tryz.underlying50
def ty51 :Ty:=tSt 2 [.nils,.nils] [(0,1),(1,1)] [(47,0),(49,1)]
theorem jnW :TyOk Tryz.prog 51 ty51:=oSt Tryz.underlying51
def ty53 :Ty:=tSl (.nils) 3 (.int .i64) 8
theorem jpI :TyOk Tryz.prog 53 ty53:=oSl Tryz.underlying53
def ty54 :Ty:=tSt 3 [.nils,.nils,.nils] [(0,2),(2,1)] [(51,0),(53,2)]
theorem joI :TyOk Tryz.prog 54 ty54:=oSt Tryz.underlying54
def ty55 :Ty:=tSt 3 [.nils,.nils,.nils] [(0,2),(2,1)] [(51,0),(53,2)]
theorem jlw :TyOk Tryz.prog 55 ty55:=oSt Tryz.underlying55
def ty66 :Ty:=tSl (.nils) 201 (.pair (.int .i64) (.pair (.sl (.pair .str .str)) (.sl (.pair .str (.int .i64))))) 56
theorem jA3 :TyOk Tryz.prog 66 ty66:=oSl Tryz.underlying66
def ty67 :Ty:=tSl (.nils) 205 (.pair .str (.pair .str (.sl (.pair (.int .i64) (.sl (.int .i64)))))) 56
theorem jEz :TyOk Tryz.prog 67 ty67:=oSl Tryz.underlying67
def ty68 :Ty:=tSt 2 [.nils,.nils] [(0,1),(1,1)] [(66,0),(67,1)]
theorem ju2 :TyOk Tryz.prog 68 ty68:=oSt Tryz.underlying68
def ty69 :Ty:=tSt 2 [.nils,.nils] [(0,1),(1,1)] [(66,0),(67,1)]
theorem jBa :TyOk Tryz.prog 69 ty69:=oSt Tryz.underlying69
def ty70 :Ty:=tSt 3 [.nils,.nils,.nils] [(0,2),(2,1)] [(69,0),(53,2)]
theorem jGQ :TyOk Tryz.prog 70 ty70:=oSt Tryz.underlying70
def ty71 :Ty:=tSt 3 [.nils,.nils,.nils] [(0,2),(2,1)] [(69,0),(53,2)]
theorem jFX :TyOk Tryz.prog 71 ty71:=oSt Tryz.underlying71
def ty74 :Ty:=tSl (.nils) 99 (.pair .str .str) 32
theorem jEW :TyOk Tryz.prog 74 ty74:=oSl Tryz.underlying74
def ty75 :Ty:=tSl (.nils) 169 (.pair .str (.int .i64)) 24
theorem jmE :TyOk Tryz.prog 75 ty75:=oSl Tryz.underlying75
def ty76 :Ty:=tSt 3 [.pv (.int .i64) 0,.nils,.nils] [(0,1),(1,1),(2,1)] [(3,0),(74,1),(75,2)]
theorem jFP :TyOk Tryz.prog 76 ty76:=oSt Tryz.underlying76
def ty77 :Ty:=tSt 3 [.pv (.int .i64) 0,.nils,.nils] [(0,1),(1,1),(2,1)] [(3,0),(74,1),(75,2)]
theorem jk4 :TyOk Tryz.prog 77 ty77:=oSt Tryz.underlying77
def ty87 :Ty:=tSl (.nils) 136 (.pair (.int .i64) (.sl (.int .i64))) 32
theorem jB4 :TyOk Tryz.prog 87 ty87:=oSl Tryz.underlying87
def ty88 :Ty:=tSt 3 [.pv .str [],.pv .str [],.nils] [(0,1),(1,1),(2,1)] [(9,0),(9,1),(87,2)]
theorem jB7 :TyOk Tryz.prog 88 ty88:=oSt Tryz.underlying88
def ty89 :Ty:=tSt 3 [.pv .str [],.pv .str [],.nils] [(0,1),(1,1),(2,1)] [(9,0),(9,1),(87,2)]
theorem jp6 :TyOk Tryz.prog 89 ty89:=oSt Tryz.underlying89
def ty98 :Ty:=tSt 2 [.pv .str [],.pv .str []] [(0,1),(1,1)] [(9,0),(9,1)]
theorem joL :TyOk Tryz.prog 98 ty98:=oSt Tryz.underlying98
def ty99 :Ty:=⟨true,2,[.pv .str [],.pv .str []],none,[(0,1),(1,1)],false,false,none,some (.pair .str .str),none,false,[(9,0),(9,1)],none⟩
theorem jBr :TyOk Tryz.prog 99 ty99:=⟨⟨_,Tryz.underlying99,rfl⟩,⟨_,_,rfl,rfl,rfl,rfl,fun c=>⟨⟨⟨_,rfl,Rep.str _⟩,rfl⟩,⟨⟨_,rfl,Rep.str _⟩,rfl⟩,True.intro⟩⟩,nofun,fun _=>⟨_,Tryz.underlying99,by kernel_rfl⟩,nofun,nofun,nofun,fun r h=>by cases h;exact eqs_of _ rfl (by kernel_rfl) (by kernel_rfl) (by kernel_rfl) [(false,9,0),(false,9,1)] (by kernel_rfl) (fun x y=>⟨⟨rfl,rfl,Tryz.underlying9⟩,⟨⟨rfl,rfl,Tryz.underlying9⟩,True.intro⟩⟩),nofun,nofun,fun _=>⟨_,Tryz.underlying99,by kernel_rfl⟩,nofun⟩
def jHW :Ty:=tSl (.nils) 103 (.pair .str (.int .i64)) 24
theorem jIL :TyOk Tryz.prog 100 jHW:=oSl Tryz.underlying100
def jNk :Ty:=tSt 2 [.pv .str [],.pv (.int .i64) 0] [(0,1),(1,1)] [(9,0),(3,1)]
theorem jNH :TyOk Tryz.prog 102 jNk:=oSt Tryz.underlying102
def jNG :Ty:=⟨true,2,[.pv .str [],.pv (.int .i64) 0],none,[(0,1),(1,1)],false,false,none,some (.pair .str (.int .i64)),none,false,[(9,0),(3,1)],none⟩
theorem jN2 :TyOk Tryz.prog 103 jNG:=⟨⟨_,Tryz.underlying103,rfl⟩,⟨_,_,rfl,rfl,rfl,rfl,fun c=>⟨⟨⟨_,rfl,Rep.str _⟩,rfl⟩,⟨⟨_,rfl,Rep.int _ _⟩,rfl⟩,True.intro⟩⟩,nofun,fun _=>⟨_,Tryz.underlying103,by kernel_rfl⟩,nofun,nofun,nofun,fun r h=>by cases h;exact eqs_of _ rfl (by kernel_rfl) (by kernel_rfl) (by kernel_rfl) [(false,9,0),(false,3,1)] (by kernel_rfl) (fun x y=>⟨⟨rfl,rfl,Tryz.underlying9⟩,⟨⟨rfl,rfl,⟨rfl,_,Tryz.underlying3⟩⟩,True.intro⟩⟩),nofun,nofun,fun _=>⟨_,Tryz.underlying103,by kernel_rfl⟩,nofun⟩
def jQ0 :Ty:=tSt 2 [.nils,.pv .str []] [(0,1),(1,1)] [(22,0),(9,1)]
theorem jRC :TyOk Tryz.prog 121 jQ0:=oSt Tryz.underlying121
def jus :Ty:=tSt 2 [.nils,.pv .str []] [(0,1),(1,1)] [(22,0),(9,1)]
theorem ju6 :TyOk Tryz.prog 122 jus:=oSt Tryz.underlying122
def jQZ :Ty:=tSt 2 [.nils,.pv .str []] [(0,1),(1,1)] [(22,0),(9,1)]
theorem jRk :TyOk Tryz.prog 126 jQZ:=oSt Tryz.underlying126
def jzO :Ty:=tSt 2 [.pv (.int .i64) 0,.nils] [(0,1),(1,1)] [(3,0),(53,1)]
theorem jBv :TyOk Tryz.prog 135 jzO:=oSt Tryz.underlying135
def jg9 :Ty:=tSt 2 [.pv (.int .i64) 0,.nils] [(0,1),(1,1)] [(3,0),(53,1)]
theorem joi :TyOk Tryz.prog 136 jg9:=oSt Tryz.underlying136
def jem :Ty:=tSl (.nils) 146 (.pair .str (.pair (.int .i64) (.pair (.int .i64) (.int .i64)))) 40
theorem joF :TyOk Tryz.prog 143 jem:=oSl Tryz.underlying143
def jfd :Ty:=tSt 4 [.pv .str [],.pv (.int .i64) 0,.pv (.int .i64) 0,.pv (.int .i64) 0] [(0,1),(1,1),(2,1),(3,1)] [(9,0),(3,1),(3,2),(3,3)]
theorem jsq :TyOk Tryz.prog 145 jfd:=oSt Tryz.underlying145
def ji9 :Ty:=⟨true,4,[.pv .str [],.pv (.int .i64) 0,.pv (.int .i64) 0,.pv (.int .i64) 0],none,[(0,1),(1,1),(2,1),(3,1)],false,false,none,some (.pair .str (.pair (.int .i64) (.pair (.int .i64) (.int .i64)))),none,false,[(9,0),(3,1),(3,2),(3,3)],none⟩
theorem jku :TyOk Tryz.prog 146 ji9:=⟨⟨_,Tryz.underlying146,rfl⟩,⟨_,_,rfl,rfl,rfl,rfl,fun c=>⟨⟨⟨_,rfl,Rep.str _⟩,rfl⟩,⟨⟨_,rfl,Rep.int _ _⟩,rfl⟩,⟨⟨_,rfl,Rep.int _ _⟩,rfl⟩,⟨⟨_,rfl,Rep.int _ _⟩,rfl⟩,True.intro⟩⟩,nofun,fun _=>⟨_,Tryz.underlying146,by kernel_rfl⟩,nofun,nofun,nofun,fun r h=>by cases h;exact eqs_of _ rfl (by kernel_rfl) (by kernel_rfl) (by kernel_rfl) [(false,9,0),(false,3,1),(false,3,2),(false,3,3)] (by kernel_rfl) (fun x y=>⟨⟨rfl,rfl,Tryz.underlying9⟩,⟨⟨rfl,rfl,⟨rfl,_,Tryz.underlying3⟩⟩,⟨⟨rfl,rfl,⟨rfl,_,Tryz.underlying3⟩⟩,⟨⟨rfl,rfl,⟨rfl,_,Tryz.underlying3⟩⟩,True.intro⟩⟩⟩⟩),nofun,nofun,fun _=>⟨_,Tryz.underlying146,by kernel_rfl⟩,nofun⟩
def jUZ :Ty:=tPt (.nilp)
theorem jV1 :TyOk Tryz.prog 147 jUZ:=oPt Tryz.underlying147
def jKx :Ty:=tPt (.nilp)
theorem jMI :TyOk Tryz.prog 149 jKx:=oPt Tryz.underlying149
def jFk :Ty:=tIn .u64
theorem jFL :TyOk Tryz.prog 155 jFk:=oIn Tryz.underlying155
def jhn :Ty:=tSt 2 [.pv .str [],.pv (.int .i64) 0] [(0,1),(1,1)] [(9,0),(3,1)]
theorem jli :TyOk Tryz.prog 168 jhn:=oSt Tryz.underlying168
def jiu :Ty:=⟨true,2,[.pv .str [],.pv (.int .i64) 0],none,[(0,1),(1,1)],false,false,none,some (.pair .str (.int .i64)),none,false,[(9,0),(3,1)],none⟩
theorem jlk :TyOk Tryz.prog 169 jiu:=⟨⟨_,Tryz.underlying169,rfl⟩,⟨_,_,rfl,rfl,rfl,rfl,fun c=>⟨⟨⟨_,rfl,Rep.str _⟩,rfl⟩,⟨⟨_,rfl,Rep.int _ _⟩,rfl⟩,True.intro⟩⟩,nofun,fun _=>⟨_,Tryz.underlying169,by kernel_rfl⟩,nofun,nofun,nofun,fun r h=>by cases h;exact eqs_of _ rfl (by kernel_rfl) (by kernel_rfl) (by kernel_rfl) [(false,9,0),(false,3,1)] (by kernel_rfl) (fun x y=>⟨⟨rfl,rfl,Tryz.underlying9⟩,⟨⟨rfl,rfl,⟨rfl,_,Tryz.underlying3⟩⟩,True.intro⟩⟩),nofun,nofun,fun _=>⟨_,Tryz.underlying169,by kernel_rfl⟩,nofun⟩
def jAr :Ty:=tSl (.nils) 5 (.int .u8) 1
theorem jAM :TyOk Tryz.prog 177 jAr:=oSl Tryz.underlying177
def jQW :Ty:=tIn .i64
theorem jRt :TyOk Tryz.prog 179 jQW:=oIn Tryz.underlying179
def jzm :Ty:=tIn .u32
theorem jDm :TyOk Tryz.prog 187 jzm:=oIn Tryz.underlying187
def jNv :Ty:=tIn .u64
theorem jN0 :TyOk Tryz.prog 189 jNv:=oIn Tryz.underlying189
def jzp :Ty:=tSl (.nils) 235 (.pair .str .str) 32
theorem jAZ :TyOk Tryz.prog 198 jzp:=oSl Tryz.underlying198
def jzq :Ty:=tSl (.nils) 237 (.pair .str (.int .i64)) 24
theorem jDR :TyOk Tryz.prog 199 jzq:=oSl Tryz.underlying199
def jY7 :Ty:=tSt 3 [.pv (.int .i64) 0,.nils,.nils] [(0,1),(1,1),(2,1)] [(3,0),(198,1),(199,2)]
theorem jZg :TyOk Tryz.prog 200 jY7:=oSt Tryz.underlying200
def j1Q :Ty:=tSt 3 [.pv (.int .i64) 0,.nils,.nils] [(0,1),(1,1),(2,1)] [(3,0),(198,1),(199,2)]
theorem j3k :TyOk Tryz.prog 201 j1Q:=oSt Tryz.underlying201
def jQN :Ty:=tSl (.nils) 239 (.pair (.int .i64) (.sl (.int .i64))) 32
theorem jRD :TyOk Tryz.prog 203 jQN:=oSl Tryz.underlying203
def jNp :Ty:=tSt 3 [.pv .str [],.pv .str [],.nils] [(0,1),(1,1),(2,1)] [(9,0),(9,1),(203,2)]
theorem jNU :TyOk Tryz.prog 204 jNp:=oSt Tryz.underlying204
def jzW :Ty:=tSt 3 [.pv .str [],.pv .str [],.nils] [(0,1),(1,1),(2,1)] [(9,0),(9,1),(203,2)]
theorem jAE :TyOk Tryz.prog 205 jzW:=oSt Tryz.underlying205
def jjt :Ty:=tIn .u64
theorem jtb :TyOk Tryz.prog 212 jjt:=oIn Tryz.underlying212
def jFv :Ty:=tPt (.nilp)
theorem jGq :TyOk Tryz.prog 216 jFv:=oPt Tryz.underlying216
def jy1 :Ty:=tPt (.nilp)
theorem jCd :TyOk Tryz.prog 227 jy1:=oPt Tryz.underlying227
def jKR :Ty:=⟨true,2,[.pv .str [],.pv .str []],none,[(0,1),(1,1)],false,false,none,some (.pair .str .str),none,false,[(9,0),(9,1)],none⟩
theorem jLw :TyOk Tryz.prog 235 jKR:=⟨⟨_,Tryz.underlying235,rfl⟩,⟨_,_,rfl,rfl,rfl,rfl,fun c=>⟨⟨⟨_,rfl,Rep.str _⟩,rfl⟩,⟨⟨_,rfl,Rep.str _⟩,rfl⟩,True.intro⟩⟩,nofun,fun _=>⟨_,Tryz.underlying235,by kernel_rfl⟩,nofun,nofun,nofun,fun r h=>by cases h;exact eqs_of _ rfl (by kernel_rfl) (by kernel_rfl) (by kernel_rfl) [(false,9,0),(false,9,1)] (by kernel_rfl) (fun x y=>⟨⟨rfl,rfl,Tryz.underlying9⟩,⟨⟨rfl,rfl,Tryz.underlying9⟩,True.intro⟩⟩),nofun,nofun,fun _=>⟨_,Tryz.underlying235,by kernel_rfl⟩,nofun⟩
def jiE :Ty:=⟨true,2,[.pv .str [],.pv (.int .i64) 0],none,[(0,1),(1,1)],false,false,none,some (.pair .str (.int .i64)),none,false,[(9,0),(3,1)],none⟩
theorem jpi :TyOk Tryz.prog 237 jiE:=⟨⟨_,Tryz.underlying237,rfl⟩,⟨_,_,rfl,rfl,rfl,rfl,fun c=>⟨⟨⟨_,rfl,Rep.str _⟩,rfl⟩,⟨⟨_,rfl,Rep.int _ _⟩,rfl⟩,True.intro⟩⟩,nofun,fun _=>⟨_,Tryz.underlying237,by kernel_rfl⟩,nofun,nofun,nofun,fun r h=>by cases h;exact eqs_of _ rfl (by kernel_rfl) (by kernel_rfl) (by kernel_rfl) [(false,9,0),(false,3,1)] (by kernel_rfl) (fun x y=>⟨⟨rfl,rfl,Tryz.underlying9⟩,⟨⟨rfl,rfl,⟨rfl,_,Tryz.underlying3⟩⟩,True.intro⟩⟩),nofun,nofun,fun _=>⟨_,Tryz.underlying237,by kernel_rfl⟩,nofun⟩
def jFi :Ty:=tSt 2 [.pv (.int .i64) 0,.nils] [(0,1),(1,1)] [(3,0),(53,1)]
theorem jGB :TyOk Tryz.prog 239 jFi:=oSt Tryz.underlying239
def jcH :List (Nat×Ty)->Nat->Option Ty
 | [],_=>none
 |(k,y)::l,t=>bif Nat.beq t k then some y else jcH l t
def jc4 (P:Program):List (Nat×Ty)->Prop
 | []=>True
 |(k,y)::l=>TyOk P k y/\jc4 P l
theorem jeo {P:Program}:∀ {l:List (Nat×Ty)},jc4 P l->∀t y,jcH l t=some y->TyOk P t y
 | [],_,t,y,h=>by cases h
 |(k,z)::l,hl,t,y,h=>by
  simp only[jcH]at h
  cases e:Nat.beq t k with
  |true=>rw[e]at h;cases h;rw[Nat.eq_of_beq_eq_true e];exact hl.1
  |false=>rw[e]at h;exact jeo hl.2 t y h
def tyL :List (Nat×Ty):=[(2,ty2),(3,ty3),(4,ty4),(5,ty5),(9,ty9),(22,ty22),(23,ty23),(24,ty24),(25,ty25),(26,ty26),(27,ty27),(28,ty28),(30,ty30),(31,ty31),(32,ty32),(33,ty33),(34,ty34),(35,ty35),(47,ty47),(49,ty49),(50,ty50),(51,ty51),(53,ty53),(54,ty54),(55,ty55),(66,ty66),(67,ty67),(68,ty68),(69,ty69),(70,ty70),(71,ty71),(74,ty74),(75,ty75),(76,ty76),(77,ty77),(87,ty87),(88,ty88),(89,ty89),(98,ty98),(99,ty99),(100,jHW),(102,jNk),(103,jNG),(121,jQ0),(122,jus),(126,jQZ),(135,jzO),(136,jg9),(143,jem),(145,jfd),(146,ji9),(147,jUZ),(149,jKx),(155,jFk),(168,jhn),(169,jiu),(177,jAr),(179,jQW),(187,jzm),(189,jNv),(198,jzp),(199,jzq),(200,jY7),(201,j1Q),(203,jQN),(204,jNp),(205,jzW),(212,jjt),(216,jFv),(227,jy1),(235,jKR),(237,jiE),(239,jFi)]
theorem jnJ :jc4 Tryz.prog tyL:=⟨jnr,jkV,jsX,joh,jlm,jkf,jlb,jo8,jtq,jmW,jtj,jmp,jlj,jD0,jB5,jM8,jLW,jGr,jwu,jOM,jmX,jnW,jpI,joI,jlw,jA3,jEz,ju2,jBa,jGQ,jFX,jEW,jmE,jFP,jk4,jB4,jB7,jp6,joL,jBr,jIL,jNH,jN2,jRC,ju6,jRk,jBv,joi,joF,jsq,jku,jV1,jMI,jFL,jli,jlk,jAM,jRt,jDm,jN0,jAZ,jDR,jZg,j3k,jRD,jNU,jAE,jtb,jGq,jCd,jLw,jpi,jGB,True.intro⟩
def ja1 :List (Nat×Model)->Nat->List Model
 | [],_=>[]
 |(k,m)::l,f=>bif Nat.beq f k then m::ja1 l f else ja1 l f
def jR (P:Program):List (Nat×Model)->Prop
 | []=>True
 |(k,m)::l=>ModelOk P k m/\jR P l
theorem jef {P:Program}:∀ {l:List (Nat×Model)},jR P l->∀f m,m∈ja1 l f->ModelOk P f m
 | [],_,f,m,h=>by cases h
 |(k,x)::l,hl,f,m,h=>by
  simp only[ja1]at h
  cases e:Nat.beq f k with
  |true=>
   rw[e]at h
   rcases zp.1 h with h|h
   .subst h;rw[Nat.eq_of_beq_eq_true e];exact hl.1
   .exact jef hl.2 f m h
  |false=>rw[e]at h;exact jef hl.2 f m h
theorem ja {P:Program}:jR P []:=True.intro
theorem jsH {P:Program} {k:Nat} {m:Model} {l:List (Nat×Model)} (h:ModelOk P k m) (hl:jR P l):jR P ((k,m)::l):=And.intro h hl
def memB :List Nat->Nat->Bool
 | [],_=>false
 |k::l,j=>bif Nat.beq j k then true else memB l j
noncomputable def jbC (l:List (Nat×Model)) (wr res:List Nat) (dw:List Nat:=[]):Env:=⟨Tryz.prog,jcH tyL,ja1 l,memB wr,memB res,memB dw⟩
theorem jtQ {l:List (Nat×Model)} (h:jR Tryz.prog l) (wr res:List Nat) (dw:List Nat:=[]):EnvOk (jbC l wr res dw):=⟨by kernel_rfl,jeo jnJ,jef h⟩
end Go.Proofs.YtcinmmojlcchfaaGreat
