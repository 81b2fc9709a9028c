/- The table of types, by program. -/
import Derived.Test.YtkglkigmdmohkaaGreatDoorKX
import Derived.Test.YtkglkigmdmohkaaGreatDoorProg
import Derived.KernelRfl
set_option linter.unusedSimpArgs false
set_option linter.unusedVariables false
namespace Go.Proofs.YtkglkigmdmohkaaGreatDoor
open Go.RowKit
set_option maxRecDepth 100000
abbrev jEt (P:Program) (k n:Nat) (z:List AV):Prop:=∃i y,P.info? k=some i/\i.size=n/\i.zero=some y/\y.cells.size=n/\∀c,All2 (V1c c) z y.cells.toList
abbrev tSl (z:AV) (e:TypeId) (r:Tp) (b:Nat):Ty:=⟨false,1,[z],some (e,r,b),[],false,false,none,none,none,false,[],none⟩
theorem oSl {P:Program} {k e:TypeId} {r:Tp} {b:Nat} {z:AV} (h:P.underlying k=some (.slice e)) (hi:jEt P k 1 [z]:=by exact⟨_,_,rfl,rfl,rfl,rfl,fun c=>⟨⟨rfl,rfl⟩,True.intro⟩⟩)
  (he:0<r.w/\∃ie z,P.info? e=some ie/\ie.size=r.w/\ie.bytes=b/\ie.zero=some z/\z.cells.size=r.w:=by exact⟨by decide,_,_,rfl,rfl,rfl,rfl,rfl⟩):TyOk P k (tSl z e r b):=
 ⟨⟨_,h,rfl⟩,hi,fun _ _ _ g=>by cases g;exact⟨h,he⟩,fun h=>absurd rfl h,nofun,nofun,nofun,nofun,nofun,nofun,fun h=>absurd rfl h,nofun⟩
abbrev tSt (n:Nat) (z:List AV) (o f:List (Nat×Nat)):Ty:=⟨true,n,z,none,o,false,false,none,none,none,false,f,none⟩
theorem oSt {P:Program} {k n:Nat} {z:List AV} {o f:List (Nat×Nat)} {fs:Array Field} (h:P.underlying k=some (.struct fs))
  (hi:jEt P k n z:=by exact⟨_,_,rfl,rfl,rfl,rfl,fun c=>by repeat' first|exact True.intro|exact⟨⟨_,rfl,Rep.int _ _⟩,rfl⟩|exact⟨⟨_,rfl,Rep.str _⟩,rfl⟩|exact⟨⟨_,rfl,Rep.bool _⟩,rfl⟩|exact⟨rfl,rfl⟩|exact⟨True.intro,rfl⟩|refine⟨?_,?_⟩⟩)
  (ho:fs.toList.mapM (fun f=>(P.info? f.type).map fun i=>(f.offset,i.size))=some o:=by kernel_rfl) (hf:fs.toList.map (fun f=>(f.type,f.offset))=f:=by kernel_rfl):TyOk P k (tSt n z o f):=
 ⟨⟨_,h,rfl⟩,hi,nofun,fun _=>⟨_,h,ho⟩,nofun,nofun,nofun,nofun,nofun,nofun,fun _=>⟨_,h,hf⟩,nofun⟩
abbrev tIn (i:IntKind):Ty:=⟨false,1,[.pv (.int i) (0:Int)],none,[],false,false,some i,none,none,false,[],none⟩
abbrev tPt (z:AV):Ty:=⟨false,1,[z],none,[],false,false,none,none,none,true,[],none⟩
theorem oIn {P:Program} {k:Nat} {i:IntKind} (h:P.underlying k=some (.int i)) (hi:jEt P k 1 [.pv (.int i) (0:Int)]:=by exact⟨_,_,rfl,rfl,rfl,rfl,fun c=>⟨⟨⟨_,rfl,Rep.int _ _⟩,rfl⟩,True.intro⟩⟩):TyOk P k (tIn i):=
 ⟨⟨_,h,rfl⟩,hi,nofun,fun h=>absurd rfl h,nofun,nofun,fun _ g=>by cases g;exact h,nofun,nofun,nofun,fun h=>absurd rfl h,nofun⟩
theorem oPt {P:Program} {k u:Nat} {z:AV} (h:P.underlying k=some (.pointer u)) (hi:jEt P k 1 [z]:=by exact⟨_,_,rfl,rfl,rfl,rfl,fun c=>⟨⟨rfl,rfl⟩,True.intro⟩⟩):TyOk P k (tPt z):=
 ⟨⟨_,h,rfl⟩,hi,nofun,fun h=>absurd rfl h,nofun,nofun,nofun,nofun,nofun,fun _=>⟨_,h⟩,fun h=>absurd rfl h,nofun⟩
def ty2 :Ty:=tIn .i64
theorem jnr :TyOk Tryz.prog 2 ty2:=oIn Tryz.underlying2
def ty3 :Ty:=tIn .i64
theorem jkV :TyOk Tryz.prog 3 ty3:=oIn Tryz.underlying3
def ty4 :Ty:=⟨false,1,[.pv .bool false],none,[],false,true,none,none,none,false,[],none⟩
theorem jsX :TyOk Tryz.prog 4 ty4:=⟨⟨_,Tryz.underlying4,rfl⟩,⟨_,_,rfl,rfl,rfl,rfl,fun c=>⟨⟨⟨_,rfl,Rep.bool _⟩,rfl⟩,True.intro⟩⟩,nofun,fun h=>absurd rfl h,nofun,fun _=>Tryz.underlying4,nofun,nofun,nofun,nofun,fun h=>absurd rfl h,nofun⟩
def ty5 :Ty:=tIn .u8
theorem joh :TyOk Tryz.prog 5 ty5:=oIn Tryz.underlying5
def ty6 :Ty:=tIn .u8
theorem jDG :TyOk Tryz.prog 6 ty6:=oIn Tryz.underlying6
def ty7 :Ty:=tSt 4 [.pv (.int .i64) 0,.pv (.int .i64) 0,.pv .bool false,.pv (.int .u8) 0] [(0,1),(1,1),(2,1),(3,1)] [(2,0),(3,1),(4,2),(6,3)]
theorem jCK :TyOk Tryz.prog 7 ty7:=oSt Tryz.underlying7
def ty9 :Ty:=⟨false,1,[.pv .str []],none,[],true,false,none,none,none,false,[],none⟩
theorem jlm :TyOk Tryz.prog 9 ty9:=⟨⟨_,Tryz.underlying9,rfl⟩,⟨_,_,rfl,rfl,rfl,rfl,fun c=>⟨⟨⟨_,rfl,Rep.str _⟩,rfl⟩,True.intro⟩⟩,nofun,fun h=>absurd rfl h,fun _=>Tryz.underlying9,nofun,nofun,nofun,nofun,nofun,fun h=>absurd rfl h,nofun⟩
def ty12 :Ty:=tIn .u64
theorem jFS :TyOk Tryz.prog 12 ty12:=oIn Tryz.underlying12
def ty13 :Ty:=tSt 2 [.pv .str [],.pv (.int .u64) 0] [(0,1),(1,1)] [(9,0),(12,1)]
theorem jGM :TyOk Tryz.prog 13 ty13:=oSt Tryz.underlying13
def ty16 :Ty:=tPt (.nilp)
theorem juI :TyOk Tryz.prog 16 ty16:=oPt Tryz.underlying16
def ty22 :Ty:=tSl (.nils) 5 (.int .u8) 1
theorem jkf :TyOk Tryz.prog 22 ty22:=oSl Tryz.underlying22
def ty23 :Ty:=tSl (.nils) 9 .str 16
theorem jlb :TyOk Tryz.prog 23 ty23:=oSl Tryz.underlying23
def ty24 :Ty:=tSl (.nils) 103 (.pair (.sl .str) .str) 40
theorem jo8 :TyOk Tryz.prog 24 ty24:=oSl Tryz.underlying24
def ty25 :Ty:=tSt 2 [.nils,.nils] [(0,1),(1,1)] [(23,0),(24,1)]
theorem jtq :TyOk Tryz.prog 25 ty25:=oSt Tryz.underlying25
def ty26 :Ty:=tSt 2 [.nils,.nils] [(0,1),(1,1)] [(23,0),(24,1)]
theorem jmW :TyOk Tryz.prog 26 ty26:=oSt Tryz.underlying26
def ty27 :Ty:=tSl (.nils) 50 (.pair (.int .i64) (.pair (.sl (.pair .str .str)) (.sl (.pair .str (.int .i64))))) 56
theorem jtj :TyOk Tryz.prog 27 ty27:=oSl Tryz.underlying27
def ty28 :Ty:=tSl (.nils) 69 (.pair .str (.pair .str (.sl (.pair (.int .i64) (.sl (.int .i64)))))) 56
theorem jmp :TyOk Tryz.prog 28 ty28:=oSl Tryz.underlying28
def ty29 :Ty:=tSt 2 [.nils,.nils] [(0,1),(1,1)] [(27,0),(28,1)]
theorem jse :TyOk Tryz.prog 29 ty29:=oSt Tryz.underlying29
def ty30 :Ty:=tSt 2 [.nils,.nils] [(0,1),(1,1)] [(27,0),(28,1)]
theorem jlj :TyOk Tryz.prog 30 ty30:=oSt Tryz.underlying30
def ty31 :Ty:=tSl (.nils) 33 .q 88
theorem jD0 :TyOk Tryz.prog 31 ty31:=oSl Tryz.underlying31
def ty32 :Ty:=tSt 6 [.pv (.int .i64) 0,.pv .str [],.nils,.pv (.int .i64) 0,.pv (.int .i64) 0,.nils] [(0,1),(1,1),(2,1),(3,1),(4,1),(5,1)] [(3,0),(9,1),(23,2),(3,3),(3,4),(31,5)]
theorem jB5 :TyOk Tryz.prog 32 ty32:=oSt Tryz.underlying32
def ty33 :Ty:=tSt 6 [.pv (.int .i64) 0,.pv .str [],.nils,.pv (.int .i64) 0,.pv (.int .i64) 0,.nils] [(0,1),(1,1),(2,1),(3,1),(4,1),(5,1)] [(3,0),(9,1),(23,2),(3,3),(3,4),(31,5)]
theorem jM8 :TyOk Tryz.prog 33 ty33:=oSt Tryz.underlying33
def ty41 :Ty:=tPt (.nilp)
theorem jDk :TyOk Tryz.prog 41 ty41:=oPt Tryz.underlying41
def ty47 :Ty:=tSl (.nils) 110 (.pair .str .str) 32
theorem jwu :TyOk Tryz.prog 47 ty47:=oSl Tryz.underlying47
def ty48 :Ty:=tSl (.nils) 137 (.pair .str (.int .i64)) 24
theorem jwS :TyOk Tryz.prog 48 ty48:=oSl Tryz.underlying48
def ty49 :Ty:=tSt 3 [.pv (.int .i64) 0,.nils,.nils] [(0,1),(1,1),(2,1)] [(3,0),(47,1),(48,2)]
theorem jOM :TyOk Tryz.prog 49 ty49:=oSt Tryz.underlying49
def ty50 :Ty:=tSt 3 [.pv (.int .i64) 0,.nils,.nils] [(0,1),(1,1),(2,1)] [(3,0),(47,1),(48,2)]
theorem jmX :TyOk Tryz.prog 50 ty50:=oSt Tryz.underlying50
def ty55 :Ty:=tPt (.nilp)
theorem jlw :TyOk Tryz.prog 55 ty55:=oPt Tryz.underlying55
def ty56 :Ty:=tSt 4 [.nils,.nils,.nils,.nils] [(0,2),(2,2)] [(26,0),(30,2)]
theorem jnN :TyOk Tryz.prog 56 ty56:=oSt Tryz.underlying56
def ty57 :Ty:=tSt 4 [.nils,.nils,.nils,.nils] [(0,2),(2,2)] [(26,0),(30,2)]
theorem jL3 :TyOk Tryz.prog 57 ty57:=oSt Tryz.underlying57
def ty59 :Ty:=tPt (.nilp)
theorem jQg :TyOk Tryz.prog 59 ty59:=oPt Tryz.underlying59
def ty60 :Ty:=tSt 2 [.pv .str [],.pv (.int .i64) 0] [(0,1),(1,1)] [(9,0),(3,1)]
theorem jMT :TyOk Tryz.prog 60 ty60:=oSt Tryz.underlying60
def ty61 :Ty:=⟨true,2,[.pv .str [],.pv (.int .i64) 0],none,[(0,1),(1,1)],false,false,none,some (.pair .str (.int .i64)),none,false,[(9,0),(3,1)],none⟩
theorem jGN :TyOk Tryz.prog 61 ty61:=⟨⟨_,Tryz.underlying61,rfl⟩,⟨_,_,rfl,rfl,rfl,rfl,fun c=>⟨⟨⟨_,rfl,Rep.str _⟩,rfl⟩,⟨⟨_,rfl,Rep.int _ _⟩,rfl⟩,True.intro⟩⟩,nofun,fun _=>⟨_,Tryz.underlying61,by kernel_rfl⟩,nofun,nofun,nofun,fun r h=>by cases h;exact eqs_of _ rfl (by kernel_rfl) (by kernel_rfl) (by kernel_rfl) [(false,9,0),(false,3,1)] (by kernel_rfl) (fun x y=>⟨⟨rfl,rfl,Tryz.underlying9⟩,⟨⟨rfl,rfl,⟨rfl,_,Tryz.underlying3⟩⟩,True.intro⟩⟩),nofun,nofun,fun _=>⟨_,Tryz.underlying61,by kernel_rfl⟩,nofun⟩
def ty65 :Ty:=tSt 2 [.nils,.pv (.int .i64) 0] [(0,1),(1,1)] [(22,0),(3,1)]
theorem jQs :TyOk Tryz.prog 65 ty65:=oSt Tryz.underlying65
def ty66 :Ty:=tSt 2 [.nils,.pv (.int .i64) 0] [(0,1),(1,1)] [(22,0),(3,1)]
theorem jA3 :TyOk Tryz.prog 66 ty66:=oSt Tryz.underlying66
def ty67 :Ty:=tSl (.nils) 121 (.pair (.int .i64) (.sl (.int .i64))) 32
theorem jEz :TyOk Tryz.prog 67 ty67:=oSl Tryz.underlying67
def ty68 :Ty:=tSt 3 [.pv .str [],.pv .str [],.nils] [(0,1),(1,1),(2,1)] [(9,0),(9,1),(67,2)]
theorem ju2 :TyOk Tryz.prog 68 ty68:=oSt Tryz.underlying68
def ty69 :Ty:=tSt 3 [.pv .str [],.pv .str [],.nils] [(0,1),(1,1),(2,1)] [(9,0),(9,1),(67,2)]
theorem jBa :TyOk Tryz.prog 69 ty69:=oSt Tryz.underlying69
def ty71 :Ty:=tPt (.nilp)
theorem jFX :TyOk Tryz.prog 71 ty71:=oPt Tryz.underlying71
def ty84 :Ty:=tSl (.nils) 3 (.int .i64) 8
theorem jOf :TyOk Tryz.prog 84 ty84:=oSl Tryz.underlying84
def ty89 :Ty:=⟨false,1,[.dead],none,[],false,false,none,none,some (3,9,.int .i64,.str),false,[],some (3,9,.int .i64,.str,false)⟩
theorem jp6 :TyOk Tryz.prog 89 ty89:=⟨⟨_,Tryz.underlying89,rfl⟩,⟨_,_,rfl,rfl,rfl,rfl,fun c=>⟨⟨True.intro,rfl⟩,True.intro⟩⟩,nofun,fun h=>absurd rfl h,nofun,nofun,nofun,nofun,fun K V kt vt h=>by cases h;exact⟨Tryz.underlying89,Tryz.underlying3,_,_,rfl,rfl,rfl⟩,nofun,fun h=>absurd rfl h,fun K V kt vt agg h=>by cases h;exact⟨Tryz.underlying89,Tryz.underlying3,rfl,(fun h=>by first|rfl|cases h),_,_,rfl,rfl,rfl⟩⟩
def jNk :Ty:=tSt 2 [.nils,.pv .str []] [(0,1),(1,1)] [(23,0),(9,1)]
theorem jNH :TyOk Tryz.prog 102 jNk:=oSt Tryz.underlying102
def jNG :Ty:=tSt 2 [.nils,.pv .str []] [(0,1),(1,1)] [(23,0),(9,1)]
theorem jN2 :TyOk Tryz.prog 103 jNG:=oSt Tryz.underlying103
def j4Z :Ty:=tSt 2 [.pv .str [],.pv .str []] [(0,1),(1,1)] [(9,0),(9,1)]
theorem j49 :TyOk Tryz.prog 109 j4Z:=oSt Tryz.underlying109
def jGW :Ty:=⟨true,2,[.pv .str [],.pv .str []],none,[(0,1),(1,1)],false,false,none,some (.pair .str .str),none,false,[(9,0),(9,1)],none⟩
theorem jG5 :TyOk Tryz.prog 110 jGW:=⟨⟨_,Tryz.underlying110,rfl⟩,⟨_,_,rfl,rfl,rfl,rfl,fun c=>⟨⟨⟨_,rfl,Rep.str _⟩,rfl⟩,⟨⟨_,rfl,Rep.str _⟩,rfl⟩,True.intro⟩⟩,nofun,fun _=>⟨_,Tryz.underlying110,by kernel_rfl⟩,nofun,nofun,nofun,fun r h=>by cases h;exact eqs_of _ rfl (by kernel_rfl) (by kernel_rfl) (by kernel_rfl) [(false,9,0),(false,9,1)] (by kernel_rfl) (fun x y=>⟨⟨rfl,rfl,Tryz.underlying9⟩,⟨⟨rfl,rfl,Tryz.underlying9⟩,True.intro⟩⟩),nofun,nofun,fun _=>⟨_,Tryz.underlying110,by kernel_rfl⟩,nofun⟩
def jG0 :Ty:=tSl (.nils) 114 (.pair .str (.int .i64)) 24
theorem jHm :TyOk Tryz.prog 111 jG0:=oSl Tryz.underlying111
def jZb :Ty:=tSt 2 [.pv .str [],.pv (.int .i64) 0] [(0,1),(1,1)] [(9,0),(3,1)]
theorem jZj :TyOk Tryz.prog 113 jZb:=oSt Tryz.underlying113
def jNg :Ty:=⟨true,2,[.pv .str [],.pv (.int .i64) 0],none,[(0,1),(1,1)],false,false,none,some (.pair .str (.int .i64)),none,false,[(9,0),(3,1)],none⟩
theorem jOb :TyOk Tryz.prog 114 jNg:=⟨⟨_,Tryz.underlying114,rfl⟩,⟨_,_,rfl,rfl,rfl,rfl,fun c=>⟨⟨⟨_,rfl,Rep.str _⟩,rfl⟩,⟨⟨_,rfl,Rep.int _ _⟩,rfl⟩,True.intro⟩⟩,nofun,fun _=>⟨_,Tryz.underlying114,by kernel_rfl⟩,nofun,nofun,nofun,fun r h=>by cases h;exact eqs_of _ rfl (by kernel_rfl) (by kernel_rfl) (by kernel_rfl) [(false,9,0),(false,3,1)] (by kernel_rfl) (fun x y=>⟨⟨rfl,rfl,Tryz.underlying9⟩,⟨⟨rfl,rfl,⟨rfl,_,Tryz.underlying3⟩⟩,True.intro⟩⟩),nofun,nofun,fun _=>⟨_,Tryz.underlying114,by kernel_rfl⟩,nofun⟩
def jz3 :Ty:=tSt 2 [.pv (.int .i64) 0,.nils] [(0,1),(1,1)] [(3,0),(84,1)]
theorem jCj :TyOk Tryz.prog 120 jz3:=oSt Tryz.underlying120
def jQ0 :Ty:=tSt 2 [.pv (.int .i64) 0,.nils] [(0,1),(1,1)] [(3,0),(84,1)]
theorem jRC :TyOk Tryz.prog 121 jQ0:=oSt Tryz.underlying121
def jt5 :Ty:=tSt 8 [.pv .bool false,.pv (.int .i64) 0,.pv (.int .i64) 0,.pv (.int .i64) 0,.pv (.int .i64) 0,.pv .bool false,.pv (.int .i64) 0,.pv (.int .i64) 0] [(0,1),(1,1),(2,1),(3,1),(4,1),(5,1),(6,1),(7,1)] [(4,0),(3,1),(3,2),(3,3),(3,4),(4,5),(3,6),(3,7)]
theorem ju9 :TyOk Tryz.prog 123 jt5:=oSt Tryz.underlying123
def jAv :Ty:=⟨true,8,[.pv .bool false,.pv (.int .i64) 0,.pv (.int .i64) 0,.pv (.int .i64) 0,.pv (.int .i64) 0,.pv .bool false,.pv (.int .i64) 0,.pv (.int .i64) 0],none,[(0,1),(1,1),(2,1),(3,1),(4,1),(5,1),(6,1),(7,1)],false,false,none,some (.pair .bool (.pair (.int .i64) (.pair (.int .i64) (.pair (.int .i64) (.pair (.int .i64) (.pair .bool (.pair (.int .i64) (.int .i64)))))))),none,false,[(4,0),(3,1),(3,2),(3,3),(3,4),(4,5),(3,6),(3,7)],none⟩
theorem jCH :TyOk Tryz.prog 124 jAv:=⟨⟨_,Tryz.underlying124,rfl⟩,⟨_,_,rfl,rfl,rfl,rfl,fun c=>⟨⟨⟨_,rfl,Rep.bool _⟩,rfl⟩,⟨⟨_,rfl,Rep.int _ _⟩,rfl⟩,⟨⟨_,rfl,Rep.int _ _⟩,rfl⟩,⟨⟨_,rfl,Rep.int _ _⟩,rfl⟩,⟨⟨_,rfl,Rep.int _ _⟩,rfl⟩,⟨⟨_,rfl,Rep.bool _⟩,rfl⟩,⟨⟨_,rfl,Rep.int _ _⟩,rfl⟩,⟨⟨_,rfl,Rep.int _ _⟩,rfl⟩,True.intro⟩⟩,nofun,fun _=>⟨_,Tryz.underlying124,by kernel_rfl⟩,nofun,nofun,nofun,fun r h=>by cases h;exact eqs_of _ rfl (by kernel_rfl) (by kernel_rfl) (by kernel_rfl) [(false,4,0),(false,3,1),(false,3,2),(false,3,3),(false,3,4),(false,4,5),(false,3,6),(false,3,7)] (by kernel_rfl) (fun x y=>⟨⟨rfl,rfl,Tryz.underlying4⟩,⟨⟨rfl,rfl,⟨rfl,_,Tryz.underlying3⟩⟩,⟨⟨rfl,rfl,⟨rfl,_,Tryz.underlying3⟩⟩,⟨⟨rfl,rfl,⟨rfl,_,Tryz.underlying3⟩⟩,⟨⟨rfl,rfl,⟨rfl,_,Tryz.underlying3⟩⟩,⟨⟨rfl,rfl,Tryz.underlying4⟩,⟨⟨rfl,rfl,⟨rfl,_,Tryz.underlying3⟩⟩,⟨⟨rfl,rfl,⟨rfl,_,Tryz.underlying3⟩⟩,True.intro⟩⟩⟩⟩⟩⟩⟩⟩),nofun,nofun,fun _=>⟨_,Tryz.underlying124,by kernel_rfl⟩,nofun⟩
def jQZ :Ty:=⟨false,1,[.dead],none,[],false,false,none,none,none,false,[],some (3,124,.int .i64,.pair .bool (.pair (.int .i64) (.pair (.int .i64) (.pair (.int .i64) (.pair (.int .i64) (.pair .bool (.pair (.int .i64) (.int .i64))))))),true)⟩
theorem jRk :TyOk Tryz.prog 126 jQZ:=⟨⟨_,Tryz.underlying126,rfl⟩,⟨_,_,rfl,rfl,rfl,rfl,fun c=>⟨⟨True.intro,rfl⟩,True.intro⟩⟩,nofun,fun h=>absurd rfl h,nofun,nofun,nofun,nofun,nofun,nofun,fun h=>absurd rfl h,fun K V kt vt agg h=>by cases h;exact⟨Tryz.underlying126,Tryz.underlying3,rfl,(fun h=>by first|rfl|cases h),_,_,rfl,rfl,rfl⟩⟩
def jy2 :Ty:=tSt 2 [.pv (.int .i64) 0,.pv (.int .i64) 0] [(0,1),(1,1)] [(3,0),(3,1)]
theorem jB6 :TyOk Tryz.prog 128 jy2:=oSt Tryz.underlying128
def jzu :Ty:=⟨true,2,[.pv (.int .i64) 0,.pv (.int .i64) 0],none,[(0,1),(1,1)],false,false,none,some (.pair (.int .i64) (.int .i64)),none,false,[(3,0),(3,1)],none⟩
theorem jDc :TyOk Tryz.prog 129 jzu:=⟨⟨_,Tryz.underlying129,rfl⟩,⟨_,_,rfl,rfl,rfl,rfl,fun c=>⟨⟨⟨_,rfl,Rep.int _ _⟩,rfl⟩,⟨⟨_,rfl,Rep.int _ _⟩,rfl⟩,True.intro⟩⟩,nofun,fun _=>⟨_,Tryz.underlying129,by kernel_rfl⟩,nofun,nofun,nofun,fun r h=>by cases h;exact eqs_of _ rfl (by kernel_rfl) (by kernel_rfl) (by kernel_rfl) [(false,3,0),(false,3,1)] (by kernel_rfl) (fun x y=>⟨⟨rfl,rfl,⟨rfl,_,Tryz.underlying3⟩⟩,⟨⟨rfl,rfl,⟨rfl,_,Tryz.underlying3⟩⟩,True.intro⟩⟩),nofun,nofun,fun _=>⟨_,Tryz.underlying129,by kernel_rfl⟩,nofun⟩
def jAl :Ty:=tSl (.nils) 84 (.sl (.int .i64)) 24
theorem jC2 :TyOk Tryz.prog 134 jAl:=oSl Tryz.underlying134
def jg9 :Ty:=tSt 2 [.pv .str [],.pv (.int .i64) 0] [(0,1),(1,1)] [(9,0),(3,1)]
theorem joi :TyOk Tryz.prog 136 jg9:=oSt Tryz.underlying136
def jeD :Ty:=⟨true,2,[.pv .str [],.pv (.int .i64) 0],none,[(0,1),(1,1)],false,false,none,some (.pair .str (.int .i64)),none,false,[(9,0),(3,1)],none⟩
theorem jlt :TyOk Tryz.prog 137 jeD:=⟨⟨_,Tryz.underlying137,rfl⟩,⟨_,_,rfl,rfl,rfl,rfl,fun c=>⟨⟨⟨_,rfl,Rep.str _⟩,rfl⟩,⟨⟨_,rfl,Rep.int _ _⟩,rfl⟩,True.intro⟩⟩,nofun,fun _=>⟨_,Tryz.underlying137,by kernel_rfl⟩,nofun,nofun,nofun,fun r h=>by cases h;exact eqs_of _ rfl (by kernel_rfl) (by kernel_rfl) (by kernel_rfl) [(false,9,0),(false,3,1)] (by kernel_rfl) (fun x y=>⟨⟨rfl,rfl,Tryz.underlying9⟩,⟨⟨rfl,rfl,⟨rfl,_,Tryz.underlying3⟩⟩,True.intro⟩⟩),nofun,nofun,fun _=>⟨_,Tryz.underlying137,by kernel_rfl⟩,nofun⟩
def jfd :Ty:=tPt (.nilp)
theorem jsq :TyOk Tryz.prog 145 jfd:=oPt Tryz.underlying145
def ji9 :Ty:=tSt 2 [.nilp,.nils] [(0,1),(1,1)] [(145,0),(22,1)]
theorem jku :TyOk Tryz.prog 146 ji9:=oSt Tryz.underlying146
def jUZ :Ty:=tSt 2 [.nilp,.nils] [(0,1),(1,1)] [(145,0),(22,1)]
theorem jV1 :TyOk Tryz.prog 147 jUZ:=oSt Tryz.underlying147
def jg0 :Ty:=tSl (.nils) 165 (.pair .str (.pair (.int .i64) (.pair (.int .i64) (.int .i64)))) 40
theorem jqt :TyOk Tryz.prog 162 jg0:=oSl Tryz.underlying162
def jh3 :Ty:=tSt 4 [.pv .str [],.pv (.int .i64) 0,.pv (.int .i64) 0,.pv (.int .i64) 0] [(0,1),(1,1),(2,1),(3,1)] [(9,0),(3,1),(3,2),(3,3)]
theorem jkP :TyOk Tryz.prog 164 jh3:=oSt Tryz.underlying164
def jjd :Ty:=⟨true,4,[.pv .str [],.pv (.int .i64) 0,.pv (.int .i64) 0,.pv (.int .i64) 0],none,[(0,1),(1,1),(2,1),(3,1)],false,false,none,some (.pair .str (.pair (.int .i64) (.pair (.int .i64) (.int .i64)))),none,false,[(9,0),(3,1),(3,2),(3,3)],none⟩
theorem jnD :TyOk Tryz.prog 165 jjd:=⟨⟨_,Tryz.underlying165,rfl⟩,⟨_,_,rfl,rfl,rfl,rfl,fun c=>⟨⟨⟨_,rfl,Rep.str _⟩,rfl⟩,⟨⟨_,rfl,Rep.int _ _⟩,rfl⟩,⟨⟨_,rfl,Rep.int _ _⟩,rfl⟩,⟨⟨_,rfl,Rep.int _ _⟩,rfl⟩,True.intro⟩⟩,nofun,fun _=>⟨_,Tryz.underlying165,by kernel_rfl⟩,nofun,nofun,nofun,fun r h=>by cases h;exact eqs_of _ rfl (by kernel_rfl) (by kernel_rfl) (by kernel_rfl) [(false,9,0),(false,3,1),(false,3,2),(false,3,3)] (by kernel_rfl) (fun x y=>⟨⟨rfl,rfl,Tryz.underlying9⟩,⟨⟨rfl,rfl,⟨rfl,_,Tryz.underlying3⟩⟩,⟨⟨rfl,rfl,⟨rfl,_,Tryz.underlying3⟩⟩,⟨⟨rfl,rfl,⟨rfl,_,Tryz.underlying3⟩⟩,True.intro⟩⟩⟩⟩),nofun,nofun,fun _=>⟨_,Tryz.underlying165,by kernel_rfl⟩,nofun⟩
def jZc :Ty:=tPt (.nilp)
theorem jZe :TyOk Tryz.prog 166 jZc:=oPt Tryz.underlying166
def jKS :Ty:=tIn .u64
theorem jNe :TyOk Tryz.prog 173 jKS:=oIn Tryz.underlying173
def jNl :Ty:=tIn .i64
theorem jNI :TyOk Tryz.prog 196 jNl:=oIn Tryz.underlying196
def jQN :Ty:=tIn .u32
theorem jRD :TyOk Tryz.prog 203 jQN:=oIn Tryz.underlying203
def jzW :Ty:=tIn .u64
theorem jAE :TyOk Tryz.prog 205 jzW:=oIn Tryz.underlying205
def jE8 :Ty:=tIn .u64
theorem jGk :TyOk Tryz.prog 221 jE8:=oIn Tryz.underlying221
def jz5 :Ty:=tPt (.nilp)
theorem jAK :TyOk Tryz.prog 225 jz5:=oPt Tryz.underlying225
def jFi :Ty:=tPt (.nilp)
theorem jGB :TyOk Tryz.prog 239 jFi:=oPt Tryz.underlying239
def jf0 :Ty:=⟨true,0,[],none,[],false,false,none,none,none,false,[],none⟩
theorem jmQ :TyOk Tryz.prog 256 jf0:=⟨⟨_,Tryz.underlying256,rfl⟩,⟨_,_,rfl,rfl,rfl,rfl,fun c=>True.intro⟩,nofun,fun h=>absurd rfl h,nofun,nofun,nofun,nofun,nofun,nofun,fun h=>absurd rfl h,nofun⟩
def jAC :Ty:=⟨true,0,[],none,[],false,false,none,none,none,false,[],none⟩
theorem jBN :TyOk Tryz.prog 257 jAC:=⟨⟨_,Tryz.underlying257,rfl⟩,⟨_,_,rfl,rfl,rfl,rfl,fun c=>True.intro⟩,nofun,fun h=>absurd rfl h,nofun,nofun,nofun,nofun,nofun,nofun,fun h=>absurd rfl h,nofun⟩
def jcH :List (Nat×Ty)->Nat->Option Ty
 | [],_=>none
 |(k,y)::l,t=>bif Nat.beq t k then some y else jcH l t
def jc4 (P:Program):List (Nat×Ty)->Prop
 | []=>True
 |(k,y)::l=>TyOk P k y/\jc4 P l
theorem jeo {P:Program}:∀ {l:List (Nat×Ty)},jc4 P l->∀t y,jcH l t=some y->TyOk P t y
 | [],_,t,y,h=>by cases h
 |(k,z)::l,hl,t,y,h=>by
  simp only[jcH]at h
  cases e:Nat.beq t k with
  |true=>rw[e]at h;cases h;rw[zby e];exact hl.1
  |false=>rw[e]at h;exact jeo hl.2 t y h
def tyL :List (Nat×Ty):=[(2,ty2),(3,ty3),(4,ty4),(5,ty5),(6,ty6),(7,ty7),(9,ty9),(12,ty12),(13,ty13),(16,ty16),(22,ty22),(23,ty23),(24,ty24),(25,ty25),(26,ty26),(27,ty27),(28,ty28),(29,ty29),(30,ty30),(31,ty31),(32,ty32),(33,ty33),(41,ty41),(47,ty47),(48,ty48),(49,ty49),(50,ty50),(55,ty55),(56,ty56),(57,ty57),(59,ty59),(60,ty60),(61,ty61),(65,ty65),(66,ty66),(67,ty67),(68,ty68),(69,ty69),(71,ty71),(84,ty84),(89,ty89),(102,jNk),(103,jNG),(109,j4Z),(110,jGW),(111,jG0),(113,jZb),(114,jNg),(120,jz3),(121,jQ0),(123,jt5),(124,jAv),(126,jQZ),(128,jy2),(129,jzu),(134,jAl),(136,jg9),(137,jeD),(145,jfd),(146,ji9),(147,jUZ),(162,jg0),(164,jh3),(165,jjd),(166,jZc),(173,jKS),(196,jNl),(203,jQN),(205,jzW),(221,jE8),(225,jz5),(239,jFi),(256,jf0),(257,jAC)]
theorem jnJ :jc4 Tryz.prog tyL:=⟨jnr,jkV,jsX,joh,jDG,jCK,jlm,jFS,jGM,juI,jkf,jlb,jo8,jtq,jmW,jtj,jmp,jse,jlj,jD0,jB5,jM8,jDk,jwu,jwS,jOM,jmX,jlw,jnN,jL3,jQg,jMT,jGN,jQs,jA3,jEz,ju2,jBa,jFX,jOf,jp6,jNH,jN2,j49,jG5,jHm,jZj,jOb,jCj,jRC,ju9,jCH,jRk,jB6,jDc,jC2,joi,jlt,jsq,jku,jV1,jqt,jkP,jnD,jZe,jNe,jNI,jRD,jAE,jGk,jAK,jGB,jmQ,jBN,True.intro⟩
def ja1 :List (Nat×Model)->Nat->List Model
 | [],_=>[]
 |(k,m)::l,f=>bif Nat.beq f k then m::ja1 l f else ja1 l f
def jR (P:Program):List (Nat×Model)->Prop
 | []=>True
 |(k,m)::l=>ModelOk P k m/\jR P l
theorem jef {P:Program}:∀ {l:List (Nat×Model)},jR P l->∀f m,m∈ja1 l f->ModelOk P f m
 | [],_,f,m,h=>by cases h
 |(k,x)::l,hl,f,m,h=>by
  simp only[ja1]at h
  cases e:Nat.beq f k with
  |true=>
   rw[e]at h
   rcases zp.1 h with h|h
   .subst h;rw[zby e];exact hl.1
   .exact jef hl.2 f m h
  |false=>rw[e]at h;exact jef hl.2 f m h
theorem ja {P:Program}:jR P []:=True.intro
theorem jsH {P:Program} {k:Nat} {m:Model} {l:List (Nat×Model)} (h:ModelOk P k m) (hl:jR P l):jR P ((k,m)::l):=And.intro h hl
def memB :List Nat->Nat->Bool
 | [],_=>false
 |k::l,j=>bif Nat.beq j k then true else memB l j
noncomputable def jbC (l:List (Nat×Model)) (wr res:List Nat) (dw:List Nat:=[]):Env:=⟨Tryz.prog,jcH tyL,ja1 l,memB wr,memB res,memB dw⟩
theorem jtQ {l:List (Nat×Model)} (h:jR Tryz.prog l) (wr res:List Nat) (dw:List Nat:=[]):EnvOk (jbC l wr res dw):=⟨by kernel_rfl,jeo jnJ,jef h⟩
end Go.Proofs.YtkglkigmdmohkaaGreatDoor
