/- The table of types, by program. -/
import Derived.Test.YtabhgjdikeipdaaGreatDoorKX
import Derived.Test.YtabhgjdikeipdaaGreatDoorProg
import Derived.KernelRfl
set_option linter.unusedSimpArgs false
set_option linter.unusedVariables false
namespace Go.Proofs.YtabhgjdikeipdaaGreatDoor
open Go.RowKit
set_option maxRecDepth 100000
abbrev jEt (P:Program) (k n:Nat) (z:List AV):Prop:=∃i y,P.info? k=some i/\i.size=n/\i.zero=some y/\y.cells.size=n/\∀c,All2 (V1c c) z y.cells.toList
abbrev tSl (z:AV) (e:TypeId) (r:Tp) (b:Nat):Ty:=⟨false,1,[z],some (e,r,b),[],false,false,none,none,none,false,[],none⟩
theorem oSl {P:Program} {k e:TypeId} {r:Tp} {b:Nat} {z:AV} (h:P.underlying k=some (.slice e)) (hi:jEt P k 1 [z]:=by exact⟨_,_,rfl,rfl,rfl,rfl,fun c=>⟨⟨rfl,rfl⟩,True.intro⟩⟩)
  (he:0<r.w/\∃ie z,P.info? e=some ie/\ie.size=r.w/\ie.bytes=b/\ie.zero=some z/\z.cells.size=r.w:=by exact⟨by decide,_,_,rfl,rfl,rfl,rfl,rfl⟩):TyOk P k (tSl z e r b):=
 ⟨⟨_,h,rfl⟩,hi,fun _ _ _ g=>by cases g;exact⟨h,he⟩,fun h=>absurd rfl h,nofun,nofun,nofun,nofun,nofun,nofun,fun h=>absurd rfl h,nofun⟩
abbrev tSt (n:Nat) (z:List AV) (o f:List (Nat×Nat)):Ty:=⟨true,n,z,none,o,false,false,none,none,none,false,f,none⟩
theorem oSt {P:Program} {k n:Nat} {z:List AV} {o f:List (Nat×Nat)} {fs:Array Field} (h:P.underlying k=some (.struct fs))
  (hi:jEt P k n z:=by exact⟨_,_,rfl,rfl,rfl,rfl,fun c=>by repeat' first|exact True.intro|exact⟨⟨_,rfl,Rep.int _ _⟩,rfl⟩|exact⟨⟨_,rfl,Rep.str _⟩,rfl⟩|exact⟨⟨_,rfl,Rep.bool _⟩,rfl⟩|exact⟨rfl,rfl⟩|exact⟨True.intro,rfl⟩|refine⟨?_,?_⟩⟩)
  (ho:fs.toList.mapM (fun f=>(P.info? f.type).map fun i=>(f.offset,i.size))=some o:=by kernel_rfl) (hf:fs.toList.map (fun f=>(f.type,f.offset))=f:=by kernel_rfl):TyOk P k (tSt n z o f):=
 ⟨⟨_,h,rfl⟩,hi,nofun,fun _=>⟨_,h,ho⟩,nofun,nofun,nofun,nofun,nofun,nofun,fun _=>⟨_,h,hf⟩,nofun⟩
abbrev tIn (i:IntKind):Ty:=⟨false,1,[.pv (.int i) (0:Int)],none,[],false,false,some i,none,none,false,[],none⟩
abbrev tPt (z:AV):Ty:=⟨false,1,[z],none,[],false,false,none,none,none,true,[],none⟩
theorem oIn {P:Program} {k:Nat} {i:IntKind} (h:P.underlying k=some (.int i)) (hi:jEt P k 1 [.pv (.int i) (0:Int)]:=by exact⟨_,_,rfl,rfl,rfl,rfl,fun c=>⟨⟨⟨_,rfl,Rep.int _ _⟩,rfl⟩,True.intro⟩⟩):TyOk P k (tIn i):=
 ⟨⟨_,h,rfl⟩,hi,nofun,fun h=>absurd rfl h,nofun,nofun,fun _ g=>by cases g;exact h,nofun,nofun,nofun,fun h=>absurd rfl h,nofun⟩
theorem oPt {P:Program} {k u:Nat} {z:AV} (h:P.underlying k=some (.pointer u)) (hi:jEt P k 1 [z]:=by exact⟨_,_,rfl,rfl,rfl,rfl,fun c=>⟨⟨rfl,rfl⟩,True.intro⟩⟩):TyOk P k (tPt z):=
 ⟨⟨_,h,rfl⟩,hi,nofun,fun h=>absurd rfl h,nofun,nofun,nofun,nofun,nofun,fun _=>⟨_,h⟩,fun h=>absurd rfl h,nofun⟩
def ty2 :Ty:=tIn .i64
theorem jnr :TyOk Tryz.prog 2 ty2:=oIn Tryz.underlying2
def ty3 :Ty:=tIn .i64
theorem jkV :TyOk Tryz.prog 3 ty3:=oIn Tryz.underlying3
def ty4 :Ty:=⟨false,1,[.pv .bool false],none,[],false,true,none,none,none,false,[],none⟩
theorem jsX :TyOk Tryz.prog 4 ty4:=⟨⟨_,Tryz.underlying4,rfl⟩,⟨_,_,rfl,rfl,rfl,rfl,fun c=>⟨⟨⟨_,rfl,Rep.bool _⟩,rfl⟩,True.intro⟩⟩,nofun,fun h=>absurd rfl h,nofun,fun _=>Tryz.underlying4,nofun,nofun,nofun,nofun,fun h=>absurd rfl h,nofun⟩
def ty5 :Ty:=tIn .u8
theorem joh :TyOk Tryz.prog 5 ty5:=oIn Tryz.underlying5
def ty6 :Ty:=tIn .u8
theorem jDG :TyOk Tryz.prog 6 ty6:=oIn Tryz.underlying6
def ty7 :Ty:=tSt 4 [.pv (.int .i64) 0,.pv (.int .i64) 0,.pv .bool false,.pv (.int .u8) 0] [(0,1),(1,1),(2,1),(3,1)] [(2,0),(3,1),(4,2),(6,3)]
theorem jCK :TyOk Tryz.prog 7 ty7:=oSt Tryz.underlying7
def ty9 :Ty:=⟨false,1,[.pv .str []],none,[],true,false,none,none,none,false,[],none⟩
theorem jlm :TyOk Tryz.prog 9 ty9:=⟨⟨_,Tryz.underlying9,rfl⟩,⟨_,_,rfl,rfl,rfl,rfl,fun c=>⟨⟨⟨_,rfl,Rep.str _⟩,rfl⟩,True.intro⟩⟩,nofun,fun h=>absurd rfl h,fun _=>Tryz.underlying9,nofun,nofun,nofun,nofun,nofun,fun h=>absurd rfl h,nofun⟩
def ty11 :Ty:=⟨false,1,[.pv .str []],none,[],true,false,none,none,none,false,[],none⟩
theorem jOT :TyOk Tryz.prog 11 ty11:=⟨⟨_,Tryz.underlying11,rfl⟩,⟨_,_,rfl,rfl,rfl,rfl,fun c=>⟨⟨⟨_,rfl,Rep.str _⟩,rfl⟩,True.intro⟩⟩,nofun,fun h=>absurd rfl h,fun _=>Tryz.underlying11,nofun,nofun,nofun,nofun,nofun,fun h=>absurd rfl h,nofun⟩
def ty22 :Ty:=tSl (.nils) 5 (.int .u8) 1
theorem jkf :TyOk Tryz.prog 22 ty22:=oSl Tryz.underlying22
def ty23 :Ty:=tSl (.nils) 9 .str 16
theorem jlb :TyOk Tryz.prog 23 ty23:=oSl Tryz.underlying23
def ty24 :Ty:=tSl (.nils) 172 (.pair (.sl .str) .str) 40
theorem jo8 :TyOk Tryz.prog 24 ty24:=oSl Tryz.underlying24
def ty25 :Ty:=tSt 2 [.nils,.nils] [(0,1),(1,1)] [(23,0),(24,1)]
theorem jtq :TyOk Tryz.prog 25 ty25:=oSt Tryz.underlying25
def ty26 :Ty:=tSt 2 [.nils,.nils] [(0,1),(1,1)] [(23,0),(24,1)]
theorem jmW :TyOk Tryz.prog 26 ty26:=oSt Tryz.underlying26
def ty27 :Ty:=tSl (.nils) 96 (.pair (.pair (.sl (.pair (.int .i64) (.pair (.sl (.pair .str .str)) (.sl (.pair .str (.int .i64)))))) (.sl (.pair .str (.pair .str (.sl (.pair (.int .i64) (.sl (.int .i64)))))))) (.sl (.int .i64))) 72
theorem jtj :TyOk Tryz.prog 27 ty27:=oSl Tryz.underlying27
def ty28 :Ty:=tSt 3 [.nils,.nils,.nils] [(0,2),(2,1)] [(26,0),(27,2)]
theorem jmp :TyOk Tryz.prog 28 ty28:=oSt Tryz.underlying28
def ty29 :Ty:=tSt 3 [.nils,.nils,.nils] [(0,2),(2,1)] [(26,0),(27,2)]
theorem jse :TyOk Tryz.prog 29 ty29:=oSt Tryz.underlying29
def ty30 :Ty:=tSl (.nils) 32 .q 88
theorem jlj :TyOk Tryz.prog 30 ty30:=oSl Tryz.underlying30
def ty31 :Ty:=tSt 6 [.pv (.int .i64) 0,.pv .str [],.nils,.pv (.int .i64) 0,.pv (.int .i64) 0,.nils] [(0,1),(1,1),(2,1),(3,1),(4,1),(5,1)] [(3,0),(9,1),(23,2),(3,3),(3,4),(30,5)]
theorem jD0 :TyOk Tryz.prog 31 ty31:=oSt Tryz.underlying31
def ty32 :Ty:=tSt 6 [.pv (.int .i64) 0,.pv .str [],.nils,.pv (.int .i64) 0,.pv (.int .i64) 0,.nils] [(0,1),(1,1),(2,1),(3,1),(4,1),(5,1)] [(3,0),(9,1),(23,2),(3,3),(3,4),(30,5)]
theorem jB5 :TyOk Tryz.prog 32 ty32:=oSt Tryz.underlying32
def ty35 :Ty:=tSl (.nils) 93 (.pair (.int .i64) (.int .i64)) 16
theorem jGr :TyOk Tryz.prog 35 ty35:=oSl Tryz.underlying35
def ty40 :Ty:=tSl (.nils) 105 (.pair (.int .i64) (.pair (.sl (.pair .str .str)) (.sl (.pair .str (.int .i64))))) 56
theorem jv6 :TyOk Tryz.prog 40 ty40:=oSl Tryz.underlying40
def ty41 :Ty:=tSl (.nils) 116 (.pair .str (.pair .str (.sl (.pair (.int .i64) (.sl (.int .i64)))))) 56
theorem jDk :TyOk Tryz.prog 41 ty41:=oSl Tryz.underlying41
def ty42 :Ty:=tSt 2 [.nils,.nils] [(0,1),(1,1)] [(40,0),(41,1)]
theorem jAG :TyOk Tryz.prog 42 ty42:=oSt Tryz.underlying42
def ty43 :Ty:=tSt 2 [.nils,.nils] [(0,1),(1,1)] [(40,0),(41,1)]
theorem jk9 :TyOk Tryz.prog 43 ty43:=oSt Tryz.underlying43
def ty47 :Ty:=tSl (.nils) 128 (.pair .str (.sl (.pair (.int .i64) (.int .i64)))) 40
theorem jwu :TyOk Tryz.prog 47 ty47:=oSl Tryz.underlying47
def ty48 :Ty:=tSt 3 [.pv (.int .i64) 0,.pv (.int .i64) 0,.nils] [(0,1),(1,1),(2,1)] [(3,0),(3,1),(47,2)]
theorem jwS :TyOk Tryz.prog 48 ty48:=oSt Tryz.underlying48
def ty49 :Ty:=tSt 3 [.pv (.int .i64) 0,.pv (.int .i64) 0,.nils] [(0,1),(1,1),(2,1)] [(3,0),(3,1),(47,2)]
theorem jOM :TyOk Tryz.prog 49 ty49:=oSt Tryz.underlying49
def ty59 :Ty:=tSl (.nils) 213 (.pair .str (.sl (.pair (.int .i64) (.int .i64)))) 40
theorem jQg :TyOk Tryz.prog 59 ty59:=oSl Tryz.underlying59
def ty60 :Ty:=tSt 3 [.pv (.int .i64) 0,.pv (.int .i64) 0,.nils] [(0,1),(1,1),(2,1)] [(3,0),(3,1),(59,2)]
theorem jMT :TyOk Tryz.prog 60 ty60:=oSt Tryz.underlying60
def ty61 :Ty:=tSt 3 [.pv (.int .i64) 0,.pv (.int .i64) 0,.nils] [(0,1),(1,1),(2,1)] [(3,0),(3,1),(59,2)]
theorem jGN :TyOk Tryz.prog 61 ty61:=oSt Tryz.underlying61
def ty62 :Ty:=tSl (.nils) 288 (.pair (.sl .str) .str) 40
theorem jDo :TyOk Tryz.prog 62 ty62:=oSl Tryz.underlying62
def ty63 :Ty:=tSt 2 [.nils,.nils] [(0,1),(1,1)] [(23,0),(62,1)]
theorem jF5 :TyOk Tryz.prog 63 ty63:=oSt Tryz.underlying63
def ty64 :Ty:=tSt 2 [.nils,.nils] [(0,1),(1,1)] [(23,0),(62,1)]
theorem jGi :TyOk Tryz.prog 64 ty64:=oSt Tryz.underlying64
def ty65 :Ty:=tSl (.nils) 221 (.pair (.pair (.sl (.pair (.int .i64) (.pair (.sl (.pair .str .str)) (.sl (.pair .str (.int .i64)))))) (.sl (.pair .str (.pair .str (.sl (.pair (.int .i64) (.sl (.int .i64)))))))) (.sl (.int .i64))) 72
theorem jQs :TyOk Tryz.prog 65 ty65:=oSl Tryz.underlying65
def ty66 :Ty:=tSt 3 [.nils,.nils,.nils] [(0,2),(2,1)] [(64,0),(65,2)]
theorem jA3 :TyOk Tryz.prog 66 ty66:=oSt Tryz.underlying66
def ty67 :Ty:=tSt 3 [.nils,.nils,.nils] [(0,2),(2,1)] [(64,0),(65,2)]
theorem jEz :TyOk Tryz.prog 67 ty67:=oSt Tryz.underlying67
def ty68 :Ty:=tSl (.nils) 70 .q 88
theorem ju2 :TyOk Tryz.prog 68 ty68:=oSl Tryz.underlying68
def ty69 :Ty:=tSt 6 [.pv (.int .i64) 0,.pv .str [],.nils,.pv (.int .i64) 0,.pv (.int .i64) 0,.nils] [(0,1),(1,1),(2,1),(3,1),(4,1),(5,1)] [(3,0),(9,1),(23,2),(3,3),(3,4),(68,5)]
theorem jBa :TyOk Tryz.prog 69 ty69:=oSt Tryz.underlying69
def ty70 :Ty:=tSt 6 [.pv (.int .i64) 0,.pv .str [],.nils,.pv (.int .i64) 0,.pv (.int .i64) 0,.nils] [(0,1),(1,1),(2,1),(3,1),(4,1),(5,1)] [(3,0),(9,1),(23,2),(3,3),(3,4),(68,5)]
theorem jGQ :TyOk Tryz.prog 70 ty70:=oSt Tryz.underlying70
def ty89 :Ty:=tSl (.nils) 3 (.int .i64) 8
theorem jp6 :TyOk Tryz.prog 89 ty89:=oSl Tryz.underlying89
def ty92 :Ty:=tSt 2 [.pv (.int .i64) 0,.pv (.int .i64) 0] [(0,1),(1,1)] [(3,0),(3,1)]
theorem jG1 :TyOk Tryz.prog 92 ty92:=oSt Tryz.underlying92
def ty93 :Ty:=⟨true,2,[.pv (.int .i64) 0,.pv (.int .i64) 0],none,[(0,1),(1,1)],false,false,none,some (.pair (.int .i64) (.int .i64)),none,false,[(3,0),(3,1)],none⟩
theorem jHo :TyOk Tryz.prog 93 ty93:=⟨⟨_,Tryz.underlying93,rfl⟩,⟨_,_,rfl,rfl,rfl,rfl,fun c=>⟨⟨⟨_,rfl,Rep.int _ _⟩,rfl⟩,⟨⟨_,rfl,Rep.int _ _⟩,rfl⟩,True.intro⟩⟩,nofun,fun _=>⟨_,Tryz.underlying93,by kernel_rfl⟩,nofun,nofun,nofun,fun r h=>by cases h;exact eqs_of _ rfl (by kernel_rfl) (by kernel_rfl) (by kernel_rfl) [(false,3,0),(false,3,1)] (by kernel_rfl) (fun x y=>⟨⟨rfl,rfl,⟨rfl,_,Tryz.underlying3⟩⟩,⟨⟨rfl,rfl,⟨rfl,_,Tryz.underlying3⟩⟩,True.intro⟩⟩),nofun,nofun,fun _=>⟨_,Tryz.underlying93,by kernel_rfl⟩,nofun⟩
def ty95 :Ty:=tSt 3 [.nils,.nils,.nils] [(0,2),(2,1)] [(43,0),(89,2)]
theorem jOl :TyOk Tryz.prog 95 ty95:=oSt Tryz.underlying95
def ty96 :Ty:=tSt 3 [.nils,.nils,.nils] [(0,2),(2,1)] [(43,0),(89,2)]
theorem jNV :TyOk Tryz.prog 96 ty96:=oSt Tryz.underlying96
def jNk :Ty:=tSl (.nils) 107 (.pair .str .str) 32
theorem jNH :TyOk Tryz.prog 102 jNk:=oSl Tryz.underlying102
def jNG :Ty:=tSl (.nils) 258 (.pair .str (.int .i64)) 24
theorem jN2 :TyOk Tryz.prog 103 jNG:=oSl Tryz.underlying103
def jKG :Ty:=tSt 3 [.pv (.int .i64) 0,.nils,.nils] [(0,1),(1,1),(2,1)] [(3,0),(102,1),(103,2)]
theorem jMo :TyOk Tryz.prog 104 jKG:=oSt Tryz.underlying104
def jKN :Ty:=tSt 3 [.pv (.int .i64) 0,.nils,.nils] [(0,1),(1,1),(2,1)] [(3,0),(102,1),(103,2)]
theorem jKW :TyOk Tryz.prog 105 jKN:=oSt Tryz.underlying105
def jKs :Ty:=tSt 2 [.pv .str [],.pv .str []] [(0,1),(1,1)] [(9,0),(9,1)]
theorem jLm :TyOk Tryz.prog 106 jKs:=oSt Tryz.underlying106
def jNE :Ty:=⟨true,2,[.pv .str [],.pv .str []],none,[(0,1),(1,1)],false,false,none,some (.pair .str .str),none,false,[(9,0),(9,1)],none⟩
theorem jNW :TyOk Tryz.prog 107 jNE:=⟨⟨_,Tryz.underlying107,rfl⟩,⟨_,_,rfl,rfl,rfl,rfl,fun c=>⟨⟨⟨_,rfl,Rep.str _⟩,rfl⟩,⟨⟨_,rfl,Rep.str _⟩,rfl⟩,True.intro⟩⟩,nofun,fun _=>⟨_,Tryz.underlying107,by kernel_rfl⟩,nofun,nofun,nofun,fun r h=>by cases h;exact eqs_of _ rfl (by kernel_rfl) (by kernel_rfl) (by kernel_rfl) [(false,9,0),(false,9,1)] (by kernel_rfl) (fun x y=>⟨⟨rfl,rfl,Tryz.underlying9⟩,⟨⟨rfl,rfl,Tryz.underlying9⟩,True.intro⟩⟩),nofun,nofun,fun _=>⟨_,Tryz.underlying107,by kernel_rfl⟩,nofun⟩
def jNm :Ty:=tSl (.nils) 111 (.pair .str (.int .i64)) 24
theorem jN3 :TyOk Tryz.prog 108 jNm:=oSl Tryz.underlying108
def jGW :Ty:=tSt 2 [.pv .str [],.pv (.int .i64) 0] [(0,1),(1,1)] [(9,0),(3,1)]
theorem jG5 :TyOk Tryz.prog 110 jGW:=oSt Tryz.underlying110
def jG0 :Ty:=⟨true,2,[.pv .str [],.pv (.int .i64) 0],none,[(0,1),(1,1)],false,false,none,some (.pair .str (.int .i64)),none,false,[(9,0),(3,1)],none⟩
theorem jHm :TyOk Tryz.prog 111 jG0:=⟨⟨_,Tryz.underlying111,rfl⟩,⟨_,_,rfl,rfl,rfl,rfl,fun c=>⟨⟨⟨_,rfl,Rep.str _⟩,rfl⟩,⟨⟨_,rfl,Rep.int _ _⟩,rfl⟩,True.intro⟩⟩,nofun,fun _=>⟨_,Tryz.underlying111,by kernel_rfl⟩,nofun,nofun,nofun,fun r h=>by cases h;exact eqs_of _ rfl (by kernel_rfl) (by kernel_rfl) (by kernel_rfl) [(false,9,0),(false,3,1)] (by kernel_rfl) (fun x y=>⟨⟨rfl,rfl,Tryz.underlying9⟩,⟨⟨rfl,rfl,⟨rfl,_,Tryz.underlying3⟩⟩,True.intro⟩⟩),nofun,nofun,fun _=>⟨_,Tryz.underlying111,by kernel_rfl⟩,nofun⟩
def jNg :Ty:=tSl (.nils) 196 (.pair (.int .i64) (.sl (.int .i64))) 32
theorem jOb :TyOk Tryz.prog 114 jNg:=oSl Tryz.underlying114
def jKy :Ty:=tSt 3 [.pv .str [],.pv .str [],.nils] [(0,1),(1,1),(2,1)] [(9,0),(9,1),(114,2)]
theorem jLy :TyOk Tryz.prog 115 jKy:=oSt Tryz.underlying115
def jKP :Ty:=tSt 3 [.pv .str [],.pv .str [],.nils] [(0,1),(1,1),(2,1)] [(9,0),(9,1),(114,2)]
theorem jL6 :TyOk Tryz.prog 116 jKP:=oSt Tryz.underlying116
def jzj :Ty:=tSt 2 [.pv .str [],.nils] [(0,1),(1,1)] [(9,0),(35,1)]
theorem jDH :TyOk Tryz.prog 127 jzj:=oSt Tryz.underlying127
def jy2 :Ty:=tSt 2 [.pv .str [],.nils] [(0,1),(1,1)] [(9,0),(35,1)]
theorem jB6 :TyOk Tryz.prog 128 jy2:=oSt Tryz.underlying128
def jKI :Ty:=tSt 2 [.nils,.pv .str []] [(0,1),(1,1)] [(23,0),(9,1)]
theorem jM2 :TyOk Tryz.prog 171 jKI:=oSt Tryz.underlying171
def jNs :Ty:=tSt 2 [.nils,.pv .str []] [(0,1),(1,1)] [(23,0),(9,1)]
theorem jOg :TyOk Tryz.prog 172 jNs:=oSt Tryz.underlying172
def jNj :Ty:=tPt (.nilp)
theorem jOe :TyOk Tryz.prog 181 jNj:=oPt Tryz.underlying181
def jNo :Ty:=tSt 4 [.nils,.nils,.nils,.nils] [(0,2),(2,2)] [(26,0),(43,2)]
theorem jNT :TyOk Tryz.prog 182 jNo:=oSt Tryz.underlying182
def jzL :Ty:=tSt 4 [.nils,.nils,.nils,.nils] [(0,2),(2,2)] [(26,0),(43,2)]
theorem jDr :TyOk Tryz.prog 183 jzL:=oSt Tryz.underlying183
def jyY :Ty:=tSl (.nils) 188 (.pair .str (.pair (.int .i64) (.pair (.int .i64) (.int .i64)))) 40
theorem jCr :TyOk Tryz.prog 185 jyY:=oSl Tryz.underlying185
def jzm :Ty:=tSt 4 [.pv .str [],.pv (.int .i64) 0,.pv (.int .i64) 0,.pv (.int .i64) 0] [(0,1),(1,1),(2,1),(3,1)] [(9,0),(3,1),(3,2),(3,3)]
theorem jDm :TyOk Tryz.prog 187 jzm:=oSt Tryz.underlying187
def jNx :Ty:=⟨true,4,[.pv .str [],.pv (.int .i64) 0,.pv (.int .i64) 0,.pv (.int .i64) 0],none,[(0,1),(1,1),(2,1),(3,1)],false,false,none,some (.pair .str (.pair (.int .i64) (.pair (.int .i64) (.int .i64)))),none,false,[(9,0),(3,1),(3,2),(3,3)],none⟩
theorem jOk :TyOk Tryz.prog 188 jNx:=⟨⟨_,Tryz.underlying188,rfl⟩,⟨_,_,rfl,rfl,rfl,rfl,fun c=>⟨⟨⟨_,rfl,Rep.str _⟩,rfl⟩,⟨⟨_,rfl,Rep.int _ _⟩,rfl⟩,⟨⟨_,rfl,Rep.int _ _⟩,rfl⟩,⟨⟨_,rfl,Rep.int _ _⟩,rfl⟩,True.intro⟩⟩,nofun,fun _=>⟨_,Tryz.underlying188,by kernel_rfl⟩,nofun,nofun,nofun,fun r h=>by cases h;exact eqs_of _ rfl (by kernel_rfl) (by kernel_rfl) (by kernel_rfl) [(false,9,0),(false,3,1),(false,3,2),(false,3,3)] (by kernel_rfl) (fun x y=>⟨⟨rfl,rfl,Tryz.underlying9⟩,⟨⟨rfl,rfl,⟨rfl,_,Tryz.underlying3⟩⟩,⟨⟨rfl,rfl,⟨rfl,_,Tryz.underlying3⟩⟩,⟨⟨rfl,rfl,⟨rfl,_,Tryz.underlying3⟩⟩,True.intro⟩⟩⟩⟩),nofun,nofun,fun _=>⟨_,Tryz.underlying188,by kernel_rfl⟩,nofun⟩
def jNv :Ty:=tPt (.nilp)
theorem jN0 :TyOk Tryz.prog 189 jNv:=oPt Tryz.underlying189
def jzl :Ty:=tPt (.nilp)
theorem jCq :TyOk Tryz.prog 191 jzl:=oPt Tryz.underlying191
def jGV :Ty:=tSt 2 [.pv (.int .i64) 0,.nils] [(0,1),(1,1)] [(3,0),(89,1)]
theorem jG9 :TyOk Tryz.prog 195 jGV:=oSt Tryz.underlying195
def jNl :Ty:=tSt 2 [.pv (.int .i64) 0,.nils] [(0,1),(1,1)] [(3,0),(89,1)]
theorem jNI :TyOk Tryz.prog 196 jNl:=oSt Tryz.underlying196
def jzq :Ty:=tIn .u64
theorem jDR :TyOk Tryz.prog 199 jzq:=oIn Tryz.underlying199
def jNp :Ty:=tSt 8 [.pv .bool false,.pv (.int .i64) 0,.pv (.int .i64) 0,.pv (.int .i64) 0,.pv (.int .i64) 0,.pv .bool false,.pv (.int .i64) 0,.pv (.int .i64) 0] [(0,1),(1,1),(2,1),(3,1),(4,1),(5,1),(6,1),(7,1)] [(4,0),(3,1),(3,2),(3,3),(3,4),(4,5),(3,6),(3,7)]
theorem jNU :TyOk Tryz.prog 204 jNp:=oSt Tryz.underlying204
def jzW :Ty:=⟨true,8,[.pv .bool false,.pv (.int .i64) 0,.pv (.int .i64) 0,.pv (.int .i64) 0,.pv (.int .i64) 0,.pv .bool false,.pv (.int .i64) 0,.pv (.int .i64) 0],none,[(0,1),(1,1),(2,1),(3,1),(4,1),(5,1),(6,1),(7,1)],false,false,none,some (.pair .bool (.pair (.int .i64) (.pair (.int .i64) (.pair (.int .i64) (.pair (.int .i64) (.pair .bool (.pair (.int .i64) (.int .i64)))))))),none,false,[(4,0),(3,1),(3,2),(3,3),(3,4),(4,5),(3,6),(3,7)],none⟩
theorem jAE :TyOk Tryz.prog 205 jzW:=⟨⟨_,Tryz.underlying205,rfl⟩,⟨_,_,rfl,rfl,rfl,rfl,fun c=>⟨⟨⟨_,rfl,Rep.bool _⟩,rfl⟩,⟨⟨_,rfl,Rep.int _ _⟩,rfl⟩,⟨⟨_,rfl,Rep.int _ _⟩,rfl⟩,⟨⟨_,rfl,Rep.int _ _⟩,rfl⟩,⟨⟨_,rfl,Rep.int _ _⟩,rfl⟩,⟨⟨_,rfl,Rep.bool _⟩,rfl⟩,⟨⟨_,rfl,Rep.int _ _⟩,rfl⟩,⟨⟨_,rfl,Rep.int _ _⟩,rfl⟩,True.intro⟩⟩,nofun,fun _=>⟨_,Tryz.underlying205,by kernel_rfl⟩,nofun,nofun,nofun,fun r h=>by cases h;exact eqs_of _ rfl (by kernel_rfl) (by kernel_rfl) (by kernel_rfl) [(false,4,0),(false,3,1),(false,3,2),(false,3,3),(false,3,4),(false,4,5),(false,3,6),(false,3,7)] (by kernel_rfl) (fun x y=>⟨⟨rfl,rfl,Tryz.underlying4⟩,⟨⟨rfl,rfl,⟨rfl,_,Tryz.underlying3⟩⟩,⟨⟨rfl,rfl,⟨rfl,_,Tryz.underlying3⟩⟩,⟨⟨rfl,rfl,⟨rfl,_,Tryz.underlying3⟩⟩,⟨⟨rfl,rfl,⟨rfl,_,Tryz.underlying3⟩⟩,⟨⟨rfl,rfl,Tryz.underlying4⟩,⟨⟨rfl,rfl,⟨rfl,_,Tryz.underlying3⟩⟩,⟨⟨rfl,rfl,⟨rfl,_,Tryz.underlying3⟩⟩,True.intro⟩⟩⟩⟩⟩⟩⟩⟩),nofun,nofun,fun _=>⟨_,Tryz.underlying205,by kernel_rfl⟩,nofun⟩
def jNn :Ty:=⟨false,1,[.dead],none,[],false,false,none,none,none,false,[],some (3,205,.int .i64,.pair .bool (.pair (.int .i64) (.pair (.int .i64) (.pair (.int .i64) (.pair (.int .i64) (.pair .bool (.pair (.int .i64) (.int .i64))))))),true)⟩
theorem jN1 :TyOk Tryz.prog 207 jNn:=⟨⟨_,Tryz.underlying207,rfl⟩,⟨_,_,rfl,rfl,rfl,rfl,fun c=>⟨⟨True.intro,rfl⟩,True.intro⟩⟩,nofun,fun h=>absurd rfl h,nofun,nofun,nofun,nofun,nofun,nofun,fun h=>absurd rfl h,fun K V kt vt agg h=>by cases h;exact⟨Tryz.underlying207,Tryz.underlying3,rfl,(fun h=>by first|rfl|cases h),_,_,rfl,rfl,rfl⟩⟩
def jhV :Ty:=⟨false,1,[.dead],none,[],false,false,none,none,some (3,9,.int .i64,.str),false,[],some (3,9,.int .i64,.str,false)⟩
theorem jsP :TyOk Tryz.prog 209 jhV:=⟨⟨_,Tryz.underlying209,rfl⟩,⟨_,_,rfl,rfl,rfl,rfl,fun c=>⟨⟨True.intro,rfl⟩,True.intro⟩⟩,nofun,fun h=>absurd rfl h,nofun,nofun,nofun,nofun,fun K V kt vt h=>by cases h;exact⟨Tryz.underlying209,Tryz.underlying3,_,_,rfl,rfl,rfl⟩,nofun,fun h=>absurd rfl h,fun K V kt vt agg h=>by cases h;exact⟨Tryz.underlying209,Tryz.underlying3,rfl,(fun h=>by first|rfl|cases h),_,_,rfl,rfl,rfl⟩⟩
def jPO :Ty:=tSl (.nils) 344 (.pair (.int .i64) (.int .i64)) 16
theorem jQD :TyOk Tryz.prog 211 jPO:=oSl Tryz.underlying211
def jjt :Ty:=tSt 2 [.pv .str [],.nils] [(0,1),(1,1)] [(9,0),(211,1)]
theorem jtb :TyOk Tryz.prog 212 jjt:=oSt Tryz.underlying212
def jhd :Ty:=tSt 2 [.pv .str [],.nils] [(0,1),(1,1)] [(9,0),(211,1)]
theorem jr4 :TyOk Tryz.prog 213 jhd:=oSt Tryz.underlying213
def jFv :Ty:=tSl (.nils) 376 (.pair (.int .i64) (.pair (.sl (.pair .str .str)) (.sl (.pair .str (.int .i64))))) 56
theorem jGq :TyOk Tryz.prog 216 jFv:=oSl Tryz.underlying216
def jza :Ty:=tSl (.nils) 380 (.pair .str (.pair .str (.sl (.pair (.int .i64) (.sl (.int .i64)))))) 56
theorem jDi :TyOk Tryz.prog 217 jza:=oSl Tryz.underlying217
def jPR :Ty:=tSt 2 [.nils,.nils] [(0,1),(1,1)] [(216,0),(217,1)]
theorem jP6 :TyOk Tryz.prog 218 jPR:=oSt Tryz.underlying218
def jKr :Ty:=tSt 2 [.nils,.nils] [(0,1),(1,1)] [(216,0),(217,1)]
theorem jMZ :TyOk Tryz.prog 219 jKr:=oSt Tryz.underlying219
def jy7 :Ty:=tSt 3 [.nils,.nils,.nils] [(0,2),(2,1)] [(219,0),(89,2)]
theorem jCh :TyOk Tryz.prog 220 jy7:=oSt Tryz.underlying220
def jE8 :Ty:=tSt 3 [.nils,.nils,.nils] [(0,2),(2,1)] [(219,0),(89,2)]
theorem jGk :TyOk Tryz.prog 221 jE8:=oSt Tryz.underlying221
def jAC :Ty:=tSt 2 [.pv .str [],.pv (.int .i64) 0] [(0,1),(1,1)] [(9,0),(3,1)]
theorem jBN :TyOk Tryz.prog 257 jAC:=oSt Tryz.underlying257
def jhO :Ty:=⟨true,2,[.pv .str [],.pv (.int .i64) 0],none,[(0,1),(1,1)],false,false,none,some (.pair .str (.int .i64)),none,false,[(9,0),(3,1)],none⟩
theorem jtS :TyOk Tryz.prog 258 jhO:=⟨⟨_,Tryz.underlying258,rfl⟩,⟨_,_,rfl,rfl,rfl,rfl,fun c=>⟨⟨⟨_,rfl,Rep.str _⟩,rfl⟩,⟨⟨_,rfl,Rep.int _ _⟩,rfl⟩,True.intro⟩⟩,nofun,fun _=>⟨_,Tryz.underlying258,by kernel_rfl⟩,nofun,nofun,nofun,fun r h=>by cases h;exact eqs_of _ rfl (by kernel_rfl) (by kernel_rfl) (by kernel_rfl) [(false,9,0),(false,3,1)] (by kernel_rfl) (fun x y=>⟨⟨rfl,rfl,Tryz.underlying9⟩,⟨⟨rfl,rfl,⟨rfl,_,Tryz.underlying3⟩⟩,True.intro⟩⟩),nofun,nofun,fun _=>⟨_,Tryz.underlying258,by kernel_rfl⟩,nofun⟩
def jNC :Ty:=tIn .i64
theorem jN9 :TyOk Tryz.prog 265 jNC:=oIn Tryz.underlying265
def jNB :Ty:=tIn .u32
theorem jNJ :TyOk Tryz.prog 273 jNB:=oIn Tryz.underlying273
def jNq :Ty:=tIn .u64
theorem jNQ :TyOk Tryz.prog 275 jNq:=oIn Tryz.underlying275
def jNu :Ty:=tPt (.nilp)
theorem jNL :TyOk Tryz.prog 278 jNu:=oPt Tryz.underlying278
def jAg :Ty:=tSt 2 [.nilp,.nils] [(0,1),(1,1)] [(278,0),(22,1)]
theorem jCe :TyOk Tryz.prog 279 jAg:=oSt Tryz.underlying279
def jFp :Ty:=tSt 2 [.nilp,.nils] [(0,1),(1,1)] [(278,0),(22,1)]
theorem jGv :TyOk Tryz.prog 280 jFp:=oSt Tryz.underlying280
def jPS :Ty:=tSt 2 [.nils,.pv .str []] [(0,1),(1,1)] [(23,0),(9,1)]
theorem jPT :TyOk Tryz.prog 288 jPS:=oSt Tryz.underlying288
def jNt :Ty:=tSt 2 [.pv (.int .i64) 0,.pv (.int .i64) 0] [(0,1),(1,1)] [(3,0),(3,1)]
theorem jNX :TyOk Tryz.prog 310 jNt:=oSt Tryz.underlying310
def jNz :Ty:=⟨true,2,[.pv (.int .i64) 0,.pv (.int .i64) 0],none,[(0,1),(1,1)],false,false,none,some (.pair (.int .i64) (.int .i64)),none,false,[(3,0),(3,1)],none⟩
theorem jN6 :TyOk Tryz.prog 311 jNz:=⟨⟨_,Tryz.underlying311,rfl⟩,⟨_,_,rfl,rfl,rfl,rfl,fun c=>⟨⟨⟨_,rfl,Rep.int _ _⟩,rfl⟩,⟨⟨_,rfl,Rep.int _ _⟩,rfl⟩,True.intro⟩⟩,nofun,fun _=>⟨_,Tryz.underlying311,by kernel_rfl⟩,nofun,nofun,nofun,fun r h=>by cases h;exact eqs_of _ rfl (by kernel_rfl) (by kernel_rfl) (by kernel_rfl) [(false,3,0),(false,3,1)] (by kernel_rfl) (fun x y=>⟨⟨rfl,rfl,⟨rfl,_,Tryz.underlying3⟩⟩,⟨⟨rfl,rfl,⟨rfl,_,Tryz.underlying3⟩⟩,True.intro⟩⟩),nofun,nofun,fun _=>⟨_,Tryz.underlying311,by kernel_rfl⟩,nofun⟩
def jNw :Ty:=tSl (.nils) 89 (.sl (.int .i64)) 24
theorem jOj :TyOk Tryz.prog 316 jNw:=oSl Tryz.underlying316
def jNi :Ty:=tIn .u64
theorem jNP :TyOk Tryz.prog 332 jNi:=oIn Tryz.underlying332
def jNh :Ty:=tPt (.nilp)
theorem jOc :TyOk Tryz.prog 336 jNh:=oPt Tryz.underlying336
def jPG :Ty:=⟨true,2,[.pv (.int .i64) 0,.pv (.int .i64) 0],none,[(0,1),(1,1)],false,false,none,some (.pair (.int .i64) (.int .i64)),none,false,[(3,0),(3,1)],none⟩
theorem jQf :TyOk Tryz.prog 344 jPG:=⟨⟨_,Tryz.underlying344,rfl⟩,⟨_,_,rfl,rfl,rfl,rfl,fun c=>⟨⟨⟨_,rfl,Rep.int _ _⟩,rfl⟩,⟨⟨_,rfl,Rep.int _ _⟩,rfl⟩,True.intro⟩⟩,nofun,fun _=>⟨_,Tryz.underlying344,by kernel_rfl⟩,nofun,nofun,nofun,fun r h=>by cases h;exact eqs_of _ rfl (by kernel_rfl) (by kernel_rfl) (by kernel_rfl) [(false,3,0),(false,3,1)] (by kernel_rfl) (fun x y=>⟨⟨rfl,rfl,⟨rfl,_,Tryz.underlying3⟩⟩,⟨⟨rfl,rfl,⟨rfl,_,Tryz.underlying3⟩⟩,True.intro⟩⟩),nofun,nofun,fun _=>⟨_,Tryz.underlying344,by kernel_rfl⟩,nofun⟩
def jNF :Ty:=tPt (.nilp)
theorem jOi :TyOk Tryz.prog 362 jNF:=oPt Tryz.underlying362
def jPQ :Ty:=tSl (.nils) 399 (.pair .str .str) 32
theorem jQz :TyOk Tryz.prog 373 jPQ:=oSl Tryz.underlying373
def jPL :Ty:=tSl (.nils) 401 (.pair .str (.int .i64)) 24
theorem jPV :TyOk Tryz.prog 374 jPL:=oSl Tryz.underlying374
def jPH :Ty:=tSt 3 [.pv (.int .i64) 0,.nils,.nils] [(0,1),(1,1),(2,1)] [(3,0),(373,1),(374,2)]
theorem jPZ :TyOk Tryz.prog 375 jPH:=oSt Tryz.underlying375
def jHP :Ty:=tSt 3 [.pv (.int .i64) 0,.nils,.nils] [(0,1),(1,1),(2,1)] [(3,0),(373,1),(374,2)]
theorem jIp :TyOk Tryz.prog 376 jHP:=oSt Tryz.underlying376
def jHZ :Ty:=tSl (.nils) 403 (.pair (.int .i64) (.sl (.int .i64))) 32
theorem jH8 :TyOk Tryz.prog 378 jHZ:=oSl Tryz.underlying378
def jPM :Ty:=tSt 3 [.pv .str [],.pv .str [],.nils] [(0,1),(1,1),(2,1)] [(9,0),(9,1),(378,2)]
theorem jP8 :TyOk Tryz.prog 379 jPM:=oSt Tryz.underlying379
def jPJ :Ty:=tSt 3 [.pv .str [],.pv .str [],.nils] [(0,1),(1,1),(2,1)] [(9,0),(9,1),(378,2)]
theorem jQw :TyOk Tryz.prog 380 jPJ:=oSt Tryz.underlying380
def jPK :Ty:=⟨true,2,[.pv .str [],.pv .str []],none,[(0,1),(1,1)],false,false,none,some (.pair .str .str),none,false,[(9,0),(9,1)],none⟩
theorem jPU :TyOk Tryz.prog 399 jPK:=⟨⟨_,Tryz.underlying399,rfl⟩,⟨_,_,rfl,rfl,rfl,rfl,fun c=>⟨⟨⟨_,rfl,Rep.str _⟩,rfl⟩,⟨⟨_,rfl,Rep.str _⟩,rfl⟩,True.intro⟩⟩,nofun,fun _=>⟨_,Tryz.underlying399,by kernel_rfl⟩,nofun,nofun,nofun,fun r h=>by cases h;exact eqs_of _ rfl (by kernel_rfl) (by kernel_rfl) (by kernel_rfl) [(false,9,0),(false,9,1)] (by kernel_rfl) (fun x y=>⟨⟨rfl,rfl,Tryz.underlying9⟩,⟨⟨rfl,rfl,Tryz.underlying9⟩,True.intro⟩⟩),nofun,nofun,fun _=>⟨_,Tryz.underlying399,by kernel_rfl⟩,nofun⟩
def jPI :Ty:=⟨true,2,[.pv .str [],.pv (.int .i64) 0],none,[(0,1),(1,1)],false,false,none,some (.pair .str (.int .i64)),none,false,[(9,0),(3,1)],none⟩
theorem jP0 :TyOk Tryz.prog 401 jPI:=⟨⟨_,Tryz.underlying401,rfl⟩,⟨_,_,rfl,rfl,rfl,rfl,fun c=>⟨⟨⟨_,rfl,Rep.str _⟩,rfl⟩,⟨⟨_,rfl,Rep.int _ _⟩,rfl⟩,True.intro⟩⟩,nofun,fun _=>⟨_,Tryz.underlying401,by kernel_rfl⟩,nofun,nofun,nofun,fun r h=>by cases h;exact eqs_of _ rfl (by kernel_rfl) (by kernel_rfl) (by kernel_rfl) [(false,9,0),(false,3,1)] (by kernel_rfl) (fun x y=>⟨⟨rfl,rfl,Tryz.underlying9⟩,⟨⟨rfl,rfl,⟨rfl,_,Tryz.underlying3⟩⟩,True.intro⟩⟩),nofun,nofun,fun _=>⟨_,Tryz.underlying401,by kernel_rfl⟩,nofun⟩
def jPP :Ty:=tSt 2 [.pv (.int .i64) 0,.nils] [(0,1),(1,1)] [(3,0),(89,1)]
theorem jQd :TyOk Tryz.prog 403 jPP:=oSt Tryz.underlying403
def jcH :List (Nat×Ty)->Nat->Option Ty
 | [],_=>none
 |(k,y)::l,t=>bif Nat.beq t k then some y else jcH l t
def jc4 (P:Program):List (Nat×Ty)->Prop
 | []=>True
 |(k,y)::l=>TyOk P k y/\jc4 P l
theorem jeo {P:Program}:∀ {l:List (Nat×Ty)},jc4 P l->∀t y,jcH l t=some y->TyOk P t y
 | [],_,t,y,h=>by cases h
 |(k,z)::l,hl,t,y,h=>by
  simp only[jcH]at h
  cases e:Nat.beq t k with
  |true=>rw[e]at h;cases h;rw[zby e];exact hl.1
  |false=>rw[e]at h;exact jeo hl.2 t y h
def tyL :List (Nat×Ty):=[(2,ty2),(3,ty3),(4,ty4),(5,ty5),(6,ty6),(7,ty7),(9,ty9),(11,ty11),(22,ty22),(23,ty23),(24,ty24),(25,ty25),(26,ty26),(27,ty27),(28,ty28),(29,ty29),(30,ty30),(31,ty31),(32,ty32),(35,ty35),(40,ty40),(41,ty41),(42,ty42),(43,ty43),(47,ty47),(48,ty48),(49,ty49),(59,ty59),(60,ty60),(61,ty61),(62,ty62),(63,ty63),(64,ty64),(65,ty65),(66,ty66),(67,ty67),(68,ty68),(69,ty69),(70,ty70),(89,ty89),(92,ty92),(93,ty93),(95,ty95),(96,ty96),(102,jNk),(103,jNG),(104,jKG),(105,jKN),(106,jKs),(107,jNE),(108,jNm),(110,jGW),(111,jG0),(114,jNg),(115,jKy),(116,jKP),(127,jzj),(128,jy2),(171,jKI),(172,jNs),(181,jNj),(182,jNo),(183,jzL),(185,jyY),(187,jzm),(188,jNx),(189,jNv),(191,jzl),(195,jGV),(196,jNl),(199,jzq),(204,jNp),(205,jzW),(207,jNn),(209,jhV),(211,jPO),(212,jjt),(213,jhd),(216,jFv),(217,jza),(218,jPR),(219,jKr),(220,jy7),(221,jE8),(257,jAC),(258,jhO),(265,jNC),(273,jNB),(275,jNq),(278,jNu),(279,jAg),(280,jFp),(288,jPS),(310,jNt),(311,jNz),(316,jNw),(332,jNi),(336,jNh),(344,jPG),(362,jNF),(373,jPQ),(374,jPL),(375,jPH),(376,jHP),(378,jHZ),(379,jPM),(380,jPJ),(399,jPK),(401,jPI),(403,jPP)]
theorem jnJ :jc4 Tryz.prog tyL:=⟨jnr,jkV,jsX,joh,jDG,jCK,jlm,jOT,jkf,jlb,jo8,jtq,jmW,jtj,jmp,jse,jlj,jD0,jB5,jGr,jv6,jDk,jAG,jk9,jwu,jwS,jOM,jQg,jMT,jGN,jDo,jF5,jGi,jQs,jA3,jEz,ju2,jBa,jGQ,jp6,jG1,jHo,jOl,jNV,jNH,jN2,jMo,jKW,jLm,jNW,jN3,jG5,jHm,jOb,jLy,jL6,jDH,jB6,jM2,jOg,jOe,jNT,jDr,jCr,jDm,jOk,jN0,jCq,jG9,jNI,jDR,jNU,jAE,jN1,jsP,jQD,jtb,jr4,jGq,jDi,jP6,jMZ,jCh,jGk,jBN,jtS,jN9,jNJ,jNQ,jNL,jCe,jGv,jPT,jNX,jN6,jOj,jNP,jOc,jQf,jOi,jQz,jPV,jPZ,jIp,jH8,jP8,jQw,jPU,jP0,jQd,True.intro⟩
def ja1 :List (Nat×Model)->Nat->List Model
 | [],_=>[]
 |(k,m)::l,f=>bif Nat.beq f k then m::ja1 l f else ja1 l f
def jR (P:Program):List (Nat×Model)->Prop
 | []=>True
 |(k,m)::l=>ModelOk P k m/\jR P l
theorem jef {P:Program}:∀ {l:List (Nat×Model)},jR P l->∀f m,m∈ja1 l f->ModelOk P f m
 | [],_,f,m,h=>by cases h
 |(k,x)::l,hl,f,m,h=>by
  simp only[ja1]at h
  cases e:Nat.beq f k with
  |true=>
   rw[e]at h
   rcases zp.1 h with h|h
   .subst h;rw[zby e];exact hl.1
   .exact jef hl.2 f m h
  |false=>rw[e]at h;exact jef hl.2 f m h
theorem ja {P:Program}:jR P []:=True.intro
theorem jsH {P:Program} {k:Nat} {m:Model} {l:List (Nat×Model)} (h:ModelOk P k m) (hl:jR P l):jR P ((k,m)::l):=And.intro h hl
def memB :List Nat->Nat->Bool
 | [],_=>false
 |k::l,j=>bif Nat.beq j k then true else memB l j
noncomputable def jbC (l:List (Nat×Model)) (wr res:List Nat) (dw:List Nat:=[]):Env:=⟨Tryz.prog,jcH tyL,ja1 l,memB wr,memB res,memB dw⟩
theorem jtQ {l:List (Nat×Model)} (h:jR Tryz.prog l) (wr res:List Nat) (dw:List Nat:=[]):EnvOk (jbC l wr res dw):=⟨by kernel_rfl,jeo jnJ,jef h⟩
end Go.Proofs.YtabhgjdikeipdaaGreatDoor
