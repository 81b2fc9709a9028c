/- The table of types, by program. -/
import Derived.Test.YtchgdmmcjgmfcaaGreatDoorKX
import Derived.Test.YtchgdmmcjgmfcaaGreatDoorProg
import Derived.KernelRfl
set_option linter.unusedSimpArgs false
set_option linter.unusedVariables false
namespace Go.Proofs.YtchgdmmcjgmfcaaGreatDoor
open Go.RowKit
set_option maxRecDepth 100000
abbrev jEt (P:Program) (k n:Nat) (z:List AV):Prop:=∃i y,P.info? k=some i/\i.size=n/\i.zero=some y/\y.cells.size=n/\∀c,All2 (V1c c) z y.cells.toList
abbrev tSl (z:AV) (e:TypeId) (r:Tp) (b:Nat):Ty:=⟨false,1,[z],some (e,r,b),[],false,false,none,none,none,false,[],none⟩
theorem oSl {P:Program} {k e:TypeId} {r:Tp} {b:Nat} {z:AV} (h:P.underlying k=some (.slice e)) (hi:jEt P k 1 [z]:=by exact⟨_,_,rfl,rfl,rfl,rfl,fun c=>⟨⟨rfl,rfl⟩,True.intro⟩⟩)
  (he:0<r.w/\∃ie z,P.info? e=some ie/\ie.size=r.w/\ie.bytes=b/\ie.zero=some z/\z.cells.size=r.w:=by exact⟨by decide,_,_,rfl,rfl,rfl,rfl,rfl⟩):TyOk P k (tSl z e r b):=
 ⟨⟨_,h,rfl⟩,hi,fun _ _ _ g=>by cases g;exact⟨h,he⟩,fun h=>absurd rfl h,nofun,nofun,nofun,nofun,nofun,nofun,fun h=>absurd rfl h,nofun⟩
abbrev tSt (n:Nat) (z:List AV) (o f:List (Nat×Nat)):Ty:=⟨true,n,z,none,o,false,false,none,none,none,false,f,none⟩
theorem oSt {P:Program} {k n:Nat} {z:List AV} {o f:List (Nat×Nat)} {fs:Array Field} (h:P.underlying k=some (.struct fs))
  (hi:jEt P k n z:=by exact⟨_,_,rfl,rfl,rfl,rfl,fun c=>by repeat' first|exact True.intro|exact⟨⟨_,rfl,Rep.int _ _⟩,rfl⟩|exact⟨⟨_,rfl,Rep.str _⟩,rfl⟩|exact⟨⟨_,rfl,Rep.bool _⟩,rfl⟩|exact⟨rfl,rfl⟩|exact⟨True.intro,rfl⟩|refine⟨?_,?_⟩⟩)
  (ho:fs.toList.mapM (fun f=>(P.info? f.type).map fun i=>(f.offset,i.size))=some o:=by kernel_rfl) (hf:fs.toList.map (fun f=>(f.type,f.offset))=f:=by kernel_rfl):TyOk P k (tSt n z o f):=
 ⟨⟨_,h,rfl⟩,hi,nofun,fun _=>⟨_,h,ho⟩,nofun,nofun,nofun,nofun,nofun,nofun,fun _=>⟨_,h,hf⟩,nofun⟩
abbrev tIn (i:IntKind):Ty:=⟨false,1,[.pv (.int i) (0:Int)],none,[],false,false,some i,none,none,false,[],none⟩
abbrev tPt (z:AV):Ty:=⟨false,1,[z],none,[],false,false,none,none,none,true,[],none⟩
theorem oIn {P:Program} {k:Nat} {i:IntKind} (h:P.underlying k=some (.int i)) (hi:jEt P k 1 [.pv (.int i) (0:Int)]:=by exact⟨_,_,rfl,rfl,rfl,rfl,fun c=>⟨⟨⟨_,rfl,Rep.int _ _⟩,rfl⟩,True.intro⟩⟩):TyOk P k (tIn i):=
 ⟨⟨_,h,rfl⟩,hi,nofun,fun h=>absurd rfl h,nofun,nofun,fun _ g=>by cases g;exact h,nofun,nofun,nofun,fun h=>absurd rfl h,nofun⟩
theorem oPt {P:Program} {k u:Nat} {z:AV} (h:P.underlying k=some (.pointer u)) (hi:jEt P k 1 [z]:=by exact⟨_,_,rfl,rfl,rfl,rfl,fun c=>⟨⟨rfl,rfl⟩,True.intro⟩⟩):TyOk P k (tPt z):=
 ⟨⟨_,h,rfl⟩,hi,nofun,fun h=>absurd rfl h,nofun,nofun,nofun,nofun,nofun,fun _=>⟨_,h⟩,fun h=>absurd rfl h,nofun⟩
def ty2 :Ty:=tIn .i64
theorem jnr :TyOk Tryz.prog 2 ty2:=oIn Tryz.underlying2
def ty3 :Ty:=tIn .i64
theorem jkV :TyOk Tryz.prog 3 ty3:=oIn Tryz.underlying3
def ty4 :Ty:=⟨false,1,[.pv .bool false],none,[],false,true,none,none,none,false,[],none⟩
theorem jsX :TyOk Tryz.prog 4 ty4:=⟨⟨_,Tryz.underlying4,rfl⟩,⟨_,_,rfl,rfl,rfl,rfl,fun c=>⟨⟨⟨_,rfl,Rep.bool _⟩,rfl⟩,True.intro⟩⟩,nofun,fun h=>absurd rfl h,nofun,fun _=>Tryz.underlying4,nofun,nofun,nofun,nofun,fun h=>absurd rfl h,nofun⟩
def ty5 :Ty:=tIn .u8
theorem joh :TyOk Tryz.prog 5 ty5:=oIn Tryz.underlying5
def ty6 :Ty:=tIn .u8
theorem jDG :TyOk Tryz.prog 6 ty6:=oIn Tryz.underlying6
def ty7 :Ty:=tSt 4 [.pv (.int .i64) 0,.pv (.int .i64) 0,.pv .bool false,.pv (.int .u8) 0] [(0,1),(1,1),(2,1),(3,1)] [(2,0),(3,1),(4,2),(6,3)]
theorem jCK :TyOk Tryz.prog 7 ty7:=oSt Tryz.underlying7
def ty9 :Ty:=⟨false,1,[.pv .str []],none,[],true,false,none,none,none,false,[],none⟩
theorem jlm :TyOk Tryz.prog 9 ty9:=⟨⟨_,Tryz.underlying9,rfl⟩,⟨_,_,rfl,rfl,rfl,rfl,fun c=>⟨⟨⟨_,rfl,Rep.str _⟩,rfl⟩,True.intro⟩⟩,nofun,fun h=>absurd rfl h,fun _=>Tryz.underlying9,nofun,nofun,nofun,nofun,nofun,fun h=>absurd rfl h,nofun⟩
def ty12 :Ty:=tIn .u64
theorem jFS :TyOk Tryz.prog 12 ty12:=oIn Tryz.underlying12
def ty13 :Ty:=tSt 2 [.pv .str [],.pv (.int .u64) 0] [(0,1),(1,1)] [(9,0),(12,1)]
theorem jGM :TyOk Tryz.prog 13 ty13:=oSt Tryz.underlying13
def ty16 :Ty:=tPt (.nilp)
theorem juI :TyOk Tryz.prog 16 ty16:=oPt Tryz.underlying16
def ty22 :Ty:=tSl (.nils) 5 (.int .u8) 1
theorem jkf :TyOk Tryz.prog 22 ty22:=oSl Tryz.underlying22
def ty23 :Ty:=tSl (.nils) 9 .str 16
theorem jlb :TyOk Tryz.prog 23 ty23:=oSl Tryz.underlying23
def ty24 :Ty:=tSl (.nils) 117 (.pair (.sl .str) .str) 40
theorem jo8 :TyOk Tryz.prog 24 ty24:=oSl Tryz.underlying24
def ty25 :Ty:=tSt 2 [.nils,.nils] [(0,1),(1,1)] [(23,0),(24,1)]
theorem jtq :TyOk Tryz.prog 25 ty25:=oSt Tryz.underlying25
def ty26 :Ty:=tSt 2 [.nils,.nils] [(0,1),(1,1)] [(23,0),(24,1)]
theorem jmW :TyOk Tryz.prog 26 ty26:=oSt Tryz.underlying26
def ty30 :Ty:=tSl (.nils) 51 (.pair (.int .i64) (.pair (.sl (.pair .str .str)) (.sl (.pair .str (.int .i64))))) 56
theorem jlj :TyOk Tryz.prog 30 ty30:=oSl Tryz.underlying30
def ty36 :Ty:=tSl (.nils) 38 .q 88
theorem jRB :TyOk Tryz.prog 36 ty36:=oSl Tryz.underlying36
def ty37 :Ty:=tSt 6 [.pv (.int .i64) 0,.pv .str [],.nils,.pv (.int .i64) 0,.pv (.int .i64) 0,.nils] [(0,1),(1,1),(2,1),(3,1),(4,1),(5,1)] [(3,0),(9,1),(23,2),(3,3),(3,4),(36,5)]
theorem jA1 :TyOk Tryz.prog 37 ty37:=oSt Tryz.underlying37
def ty38 :Ty:=tSt 6 [.pv (.int .i64) 0,.pv .str [],.nils,.pv (.int .i64) 0,.pv (.int .i64) 0,.nils] [(0,1),(1,1),(2,1),(3,1),(4,1),(5,1)] [(3,0),(9,1),(23,2),(3,3),(3,4),(36,5)]
theorem jBk :TyOk Tryz.prog 38 ty38:=oSt Tryz.underlying38
def ty42 :Ty:=tSl (.nils) 90 (.pair (.int .i64) (.int .i64)) 16
theorem jAG :TyOk Tryz.prog 42 ty42:=oSl Tryz.underlying42
def ty48 :Ty:=tSl (.nils) 120 (.pair .str .str) 32
theorem jwS :TyOk Tryz.prog 48 ty48:=oSl Tryz.underlying48
def ty49 :Ty:=tSl (.nils) 122 (.pair .str (.int .i64)) 24
theorem jOM :TyOk Tryz.prog 49 ty49:=oSl Tryz.underlying49
def ty50 :Ty:=tSt 3 [.pv (.int .i64) 0,.nils,.nils] [(0,1),(1,1),(2,1)] [(3,0),(48,1),(49,2)]
theorem jmX :TyOk Tryz.prog 50 ty50:=oSt Tryz.underlying50
def ty51 :Ty:=tSt 3 [.pv (.int .i64) 0,.nils,.nils] [(0,1),(1,1),(2,1)] [(3,0),(48,1),(49,2)]
theorem jnW :TyOk Tryz.prog 51 ty51:=oSt Tryz.underlying51
def ty67 :Ty:=tSl (.nils) 131 (.pair .str (.pair .str (.sl (.pair (.int .i64) (.sl (.int .i64)))))) 56
theorem jEz :TyOk Tryz.prog 67 ty67:=oSl Tryz.underlying67
def ty68 :Ty:=tSt 2 [.nils,.nils] [(0,1),(1,1)] [(30,0),(67,1)]
theorem ju2 :TyOk Tryz.prog 68 ty68:=oSt Tryz.underlying68
def ty69 :Ty:=tSt 2 [.nils,.nils] [(0,1),(1,1)] [(30,0),(67,1)]
theorem jBa :TyOk Tryz.prog 69 ty69:=oSt Tryz.underlying69
def ty75 :Ty:=tSl (.nils) 3 (.int .i64) 8
theorem jmE :TyOk Tryz.prog 75 ty75:=oSl Tryz.underlying75
def ty85 :Ty:=tSl (.nils) 152 (.pair (.int .i64) (.int .i64)) 16
theorem jCc :TyOk Tryz.prog 85 ty85:=oSl Tryz.underlying85
def ty89 :Ty:=tSt 2 [.pv (.int .i64) 0,.pv (.int .i64) 0] [(0,1),(1,1)] [(3,0),(3,1)]
theorem jp6 :TyOk Tryz.prog 89 ty89:=oSt Tryz.underlying89
def ty90 :Ty:=⟨true,2,[.pv (.int .i64) 0,.pv (.int .i64) 0],none,[(0,1),(1,1)],false,false,none,some (.pair (.int .i64) (.int .i64)),none,false,[(3,0),(3,1)],none⟩
theorem jmN :TyOk Tryz.prog 90 ty90:=⟨⟨_,Tryz.underlying90,rfl⟩,⟨_,_,rfl,rfl,rfl,rfl,fun c=>⟨⟨⟨_,rfl,Rep.int _ _⟩,rfl⟩,⟨⟨_,rfl,Rep.int _ _⟩,rfl⟩,True.intro⟩⟩,nofun,fun _=>⟨_,Tryz.underlying90,by kernel_rfl⟩,nofun,nofun,nofun,fun r h=>by cases h;exact eqs_of _ rfl (by kernel_rfl) (by kernel_rfl) (by kernel_rfl) [(false,3,0),(false,3,1)] (by kernel_rfl) (fun x y=>⟨⟨rfl,rfl,⟨rfl,_,Tryz.underlying3⟩⟩,⟨⟨rfl,rfl,⟨rfl,_,Tryz.underlying3⟩⟩,True.intro⟩⟩),nofun,nofun,fun _=>⟨_,Tryz.underlying90,by kernel_rfl⟩,nofun⟩
def ty91 :Ty:=tPt (.nilp)
theorem joR :TyOk Tryz.prog 91 ty91:=oPt Tryz.underlying91
def jKP :Ty:=tSt 2 [.nils,.pv .str []] [(0,1),(1,1)] [(23,0),(9,1)]
theorem jL6 :TyOk Tryz.prog 116 jKP:=oSt Tryz.underlying116
def jKM :Ty:=tSt 2 [.nils,.pv .str []] [(0,1),(1,1)] [(23,0),(9,1)]
theorem jLB :TyOk Tryz.prog 117 jKM:=oSt Tryz.underlying117
def jzr :Ty:=tSt 2 [.pv .str [],.pv .str []] [(0,1),(1,1)] [(9,0),(9,1)]
theorem jBF :TyOk Tryz.prog 119 jzr:=oSt Tryz.underlying119
def jz3 :Ty:=⟨true,2,[.pv .str [],.pv .str []],none,[(0,1),(1,1)],false,false,none,some (.pair .str .str),none,false,[(9,0),(9,1)],none⟩
theorem jCj :TyOk Tryz.prog 120 jz3:=⟨⟨_,Tryz.underlying120,rfl⟩,⟨_,_,rfl,rfl,rfl,rfl,fun c=>⟨⟨⟨_,rfl,Rep.str _⟩,rfl⟩,⟨⟨_,rfl,Rep.str _⟩,rfl⟩,True.intro⟩⟩,nofun,fun _=>⟨_,Tryz.underlying120,by kernel_rfl⟩,nofun,nofun,nofun,fun r h=>by cases h;exact eqs_of _ rfl (by kernel_rfl) (by kernel_rfl) (by kernel_rfl) [(false,9,0),(false,9,1)] (by kernel_rfl) (fun x y=>⟨⟨rfl,rfl,Tryz.underlying9⟩,⟨⟨rfl,rfl,Tryz.underlying9⟩,True.intro⟩⟩),nofun,nofun,fun _=>⟨_,Tryz.underlying120,by kernel_rfl⟩,nofun⟩
def jQ0 :Ty:=tSt 2 [.pv .str [],.pv (.int .i64) 0] [(0,1),(1,1)] [(9,0),(3,1)]
theorem jRC :TyOk Tryz.prog 121 jQ0:=oSt Tryz.underlying121
def jus :Ty:=⟨true,2,[.pv .str [],.pv (.int .i64) 0],none,[(0,1),(1,1)],false,false,none,some (.pair .str (.int .i64)),none,false,[(9,0),(3,1)],none⟩
theorem ju6 :TyOk Tryz.prog 122 jus:=⟨⟨_,Tryz.underlying122,rfl⟩,⟨_,_,rfl,rfl,rfl,rfl,fun c=>⟨⟨⟨_,rfl,Rep.str _⟩,rfl⟩,⟨⟨_,rfl,Rep.int _ _⟩,rfl⟩,True.intro⟩⟩,nofun,fun _=>⟨_,Tryz.underlying122,by kernel_rfl⟩,nofun,nofun,nofun,fun r h=>by cases h;exact eqs_of _ rfl (by kernel_rfl) (by kernel_rfl) (by kernel_rfl) [(false,9,0),(false,3,1)] (by kernel_rfl) (fun x y=>⟨⟨rfl,rfl,Tryz.underlying9⟩,⟨⟨rfl,rfl,⟨rfl,_,Tryz.underlying3⟩⟩,True.intro⟩⟩),nofun,nofun,fun _=>⟨_,Tryz.underlying122,by kernel_rfl⟩,nofun⟩
def jt5 :Ty:=tSl (.nils) 126 (.pair .str (.int .i64)) 24
theorem ju9 :TyOk Tryz.prog 123 jt5:=oSl Tryz.underlying123
def jiF :Ty:=tSt 2 [.pv .str [],.pv (.int .i64) 0] [(0,1),(1,1)] [(9,0),(3,1)]
theorem joS :TyOk Tryz.prog 125 jiF:=oSt Tryz.underlying125
def jQZ :Ty:=⟨true,2,[.pv .str [],.pv (.int .i64) 0],none,[(0,1),(1,1)],false,false,none,some (.pair .str (.int .i64)),none,false,[(9,0),(3,1)],none⟩
theorem jRk :TyOk Tryz.prog 126 jQZ:=⟨⟨_,Tryz.underlying126,rfl⟩,⟨_,_,rfl,rfl,rfl,rfl,fun c=>⟨⟨⟨_,rfl,Rep.str _⟩,rfl⟩,⟨⟨_,rfl,Rep.int _ _⟩,rfl⟩,True.intro⟩⟩,nofun,fun _=>⟨_,Tryz.underlying126,by kernel_rfl⟩,nofun,nofun,nofun,fun r h=>by cases h;exact eqs_of _ rfl (by kernel_rfl) (by kernel_rfl) (by kernel_rfl) [(false,9,0),(false,3,1)] (by kernel_rfl) (fun x y=>⟨⟨rfl,rfl,Tryz.underlying9⟩,⟨⟨rfl,rfl,⟨rfl,_,Tryz.underlying3⟩⟩,True.intro⟩⟩),nofun,nofun,fun _=>⟨_,Tryz.underlying126,by kernel_rfl⟩,nofun⟩
def jzu :Ty:=tSl (.nils) 204 (.pair (.int .i64) (.sl (.int .i64))) 32
theorem jDc :TyOk Tryz.prog 129 jzu:=oSl Tryz.underlying129
def jFa :Ty:=tSt 3 [.pv .str [],.pv .str [],.nils] [(0,1),(1,1),(2,1)] [(9,0),(9,1),(129,2)]
theorem jGa :TyOk Tryz.prog 130 jFa:=oSt Tryz.underlying130
def jiN :Ty:=tSt 3 [.pv .str [],.pv .str [],.nils] [(0,1),(1,1),(2,1)] [(9,0),(9,1),(129,2)]
theorem jmd :TyOk Tryz.prog 131 jiN:=oSt Tryz.underlying131
def jzx :Ty:=⟨false,1,[.dead],none,[],false,false,none,none,some (3,4,.int .i64,.bool),false,[],some (3,4,.int .i64,.bool,false)⟩
theorem jBf :TyOk Tryz.prog 148 jzx:=⟨⟨_,Tryz.underlying148,rfl⟩,⟨_,_,rfl,rfl,rfl,rfl,fun c=>⟨⟨True.intro,rfl⟩,True.intro⟩⟩,nofun,fun h=>absurd rfl h,nofun,nofun,nofun,nofun,fun K V kt vt h=>by cases h;exact⟨Tryz.underlying148,Tryz.underlying3,_,_,rfl,rfl,rfl⟩,nofun,fun h=>absurd rfl h,fun K V kt vt agg h=>by cases h;exact⟨Tryz.underlying148,Tryz.underlying3,rfl,(fun h=>by first|rfl|cases h),_,_,rfl,rfl,rfl⟩⟩
def jKx :Ty:=⟨false,1,[.dead],none,[],false,false,none,none,some (3,3,.int .i64,.int .i64),false,[],some (3,3,.int .i64,.int .i64,false)⟩
theorem jMI :TyOk Tryz.prog 149 jKx:=⟨⟨_,Tryz.underlying149,rfl⟩,⟨_,_,rfl,rfl,rfl,rfl,fun c=>⟨⟨True.intro,rfl⟩,True.intro⟩⟩,nofun,fun h=>absurd rfl h,nofun,nofun,nofun,nofun,fun K V kt vt h=>by cases h;exact⟨Tryz.underlying149,Tryz.underlying3,_,_,rfl,rfl,rfl⟩,nofun,fun h=>absurd rfl h,fun K V kt vt agg h=>by cases h;exact⟨Tryz.underlying149,Tryz.underlying3,rfl,(fun h=>by first|rfl|cases h),_,_,rfl,rfl,rfl⟩⟩
def jiW :Ty:=tSt 2 [.pv (.int .i64) 0,.pv (.int .i64) 0] [(0,1),(1,1)] [(3,0),(3,1)]
theorem jmC :TyOk Tryz.prog 151 jiW:=oSt Tryz.underlying151
def jja :Ty:=⟨true,2,[.pv (.int .i64) 0,.pv (.int .i64) 0],none,[(0,1),(1,1)],false,false,none,some (.pair (.int .i64) (.int .i64)),none,false,[(3,0),(3,1)],none⟩
theorem jsI :TyOk Tryz.prog 152 jja:=⟨⟨_,Tryz.underlying152,rfl⟩,⟨_,_,rfl,rfl,rfl,rfl,fun c=>⟨⟨⟨_,rfl,Rep.int _ _⟩,rfl⟩,⟨⟨_,rfl,Rep.int _ _⟩,rfl⟩,True.intro⟩⟩,nofun,fun _=>⟨_,Tryz.underlying152,by kernel_rfl⟩,nofun,nofun,nofun,fun r h=>by cases h;exact eqs_of _ rfl (by kernel_rfl) (by kernel_rfl) (by kernel_rfl) [(false,3,0),(false,3,1)] (by kernel_rfl) (fun x y=>⟨⟨rfl,rfl,⟨rfl,_,Tryz.underlying3⟩⟩,⟨⟨rfl,rfl,⟨rfl,_,Tryz.underlying3⟩⟩,True.intro⟩⟩),nofun,nofun,fun _=>⟨_,Tryz.underlying152,by kernel_rfl⟩,nofun⟩
def jFu :Ty:=tSt 2 [.nils,.pv (.int .i64) 0] [(0,1),(1,1)] [(22,0),(3,1)]
theorem jGu :TyOk Tryz.prog 156 jFu:=oSt Tryz.underlying156
def jQY :Ty:=tSt 2 [.nils,.pv (.int .i64) 0] [(0,1),(1,1)] [(22,0),(3,1)]
theorem jRn :TyOk Tryz.prog 157 jQY:=oSt Tryz.underlying157
def jzn :Ty:=tPt (.nilp)
theorem jAT :TyOk Tryz.prog 178 jzn:=oPt Tryz.underlying178
def jQW :Ty:=tSt 4 [.nils,.nils,.nils,.nils] [(0,2),(2,2)] [(26,0),(69,2)]
theorem jRt :TyOk Tryz.prog 179 jQW:=oSt Tryz.underlying179
def jQQ :Ty:=tSt 4 [.nils,.nils,.nils,.nils] [(0,2),(2,2)] [(26,0),(69,2)]
theorem jQ9 :TyOk Tryz.prog 180 jQQ:=oSt Tryz.underlying180
def jGX :Ty:=tSl (.nils) 196 (.pair .str (.pair (.int .i64) (.pair (.int .i64) (.int .i64)))) 40
theorem jHa :TyOk Tryz.prog 193 jGX:=oSl Tryz.underlying193
def jGV :Ty:=tSt 4 [.pv .str [],.pv (.int .i64) 0,.pv (.int .i64) 0,.pv (.int .i64) 0] [(0,1),(1,1),(2,1),(3,1)] [(9,0),(3,1),(3,2),(3,3)]
theorem jG9 :TyOk Tryz.prog 195 jGV:=oSt Tryz.underlying195
def jNl :Ty:=⟨true,4,[.pv .str [],.pv (.int .i64) 0,.pv (.int .i64) 0,.pv (.int .i64) 0],none,[(0,1),(1,1),(2,1),(3,1)],false,false,none,some (.pair .str (.pair (.int .i64) (.pair (.int .i64) (.int .i64)))),none,false,[(9,0),(3,1),(3,2),(3,3)],none⟩
theorem jNI :TyOk Tryz.prog 196 jNl:=⟨⟨_,Tryz.underlying196,rfl⟩,⟨_,_,rfl,rfl,rfl,rfl,fun c=>⟨⟨⟨_,rfl,Rep.str _⟩,rfl⟩,⟨⟨_,rfl,Rep.int _ _⟩,rfl⟩,⟨⟨_,rfl,Rep.int _ _⟩,rfl⟩,⟨⟨_,rfl,Rep.int _ _⟩,rfl⟩,True.intro⟩⟩,nofun,fun _=>⟨_,Tryz.underlying196,by kernel_rfl⟩,nofun,nofun,nofun,fun r h=>by cases h;exact eqs_of _ rfl (by kernel_rfl) (by kernel_rfl) (by kernel_rfl) [(false,9,0),(false,3,1),(false,3,2),(false,3,3)] (by kernel_rfl) (fun x y=>⟨⟨rfl,rfl,Tryz.underlying9⟩,⟨⟨rfl,rfl,⟨rfl,_,Tryz.underlying3⟩⟩,⟨⟨rfl,rfl,⟨rfl,_,Tryz.underlying3⟩⟩,⟨⟨rfl,rfl,⟨rfl,_,Tryz.underlying3⟩⟩,True.intro⟩⟩⟩⟩),nofun,nofun,fun _=>⟨_,Tryz.underlying196,by kernel_rfl⟩,nofun⟩
def jGY :Ty:=tPt (.nilp)
theorem jHn :TyOk Tryz.prog 197 jGY:=oPt Tryz.underlying197
def jzq :Ty:=tPt (.nilp)
theorem jDR :TyOk Tryz.prog 199 jzq:=oPt Tryz.underlying199
def jQN :Ty:=tSt 2 [.pv (.int .i64) 0,.nils] [(0,1),(1,1)] [(3,0),(75,1)]
theorem jRD :TyOk Tryz.prog 203 jQN:=oSt Tryz.underlying203
def jNp :Ty:=tSt 2 [.pv (.int .i64) 0,.nils] [(0,1),(1,1)] [(3,0),(75,1)]
theorem jNU :TyOk Tryz.prog 204 jNp:=oSt Tryz.underlying204
def jNn :Ty:=tIn .u64
theorem jN1 :TyOk Tryz.prog 207 jNn:=oIn Tryz.underlying207
def ji1 :Ty:=tSt 8 [.pv .bool false,.pv (.int .i64) 0,.pv (.int .i64) 0,.pv (.int .i64) 0,.pv (.int .i64) 0,.pv .bool false,.pv (.int .i64) 0,.pv (.int .i64) 0] [(0,1),(1,1),(2,1),(3,1),(4,1),(5,1),(6,1),(7,1)] [(4,0),(3,1),(3,2),(3,3),(3,4),(4,5),(3,6),(3,7)]
theorem jtI :TyOk Tryz.prog 210 ji1:=oSt Tryz.underlying210
def jPO :Ty:=⟨true,8,[.pv .bool false,.pv (.int .i64) 0,.pv (.int .i64) 0,.pv (.int .i64) 0,.pv (.int .i64) 0,.pv .bool false,.pv (.int .i64) 0,.pv (.int .i64) 0],none,[(0,1),(1,1),(2,1),(3,1),(4,1),(5,1),(6,1),(7,1)],false,false,none,some (.pair .bool (.pair (.int .i64) (.pair (.int .i64) (.pair (.int .i64) (.pair (.int .i64) (.pair .bool (.pair (.int .i64) (.int .i64)))))))),none,false,[(4,0),(3,1),(3,2),(3,3),(3,4),(4,5),(3,6),(3,7)],none⟩
theorem jQD :TyOk Tryz.prog 211 jPO:=⟨⟨_,Tryz.underlying211,rfl⟩,⟨_,_,rfl,rfl,rfl,rfl,fun c=>⟨⟨⟨_,rfl,Rep.bool _⟩,rfl⟩,⟨⟨_,rfl,Rep.int _ _⟩,rfl⟩,⟨⟨_,rfl,Rep.int _ _⟩,rfl⟩,⟨⟨_,rfl,Rep.int _ _⟩,rfl⟩,⟨⟨_,rfl,Rep.int _ _⟩,rfl⟩,⟨⟨_,rfl,Rep.bool _⟩,rfl⟩,⟨⟨_,rfl,Rep.int _ _⟩,rfl⟩,⟨⟨_,rfl,Rep.int _ _⟩,rfl⟩,True.intro⟩⟩,nofun,fun _=>⟨_,Tryz.underlying211,by kernel_rfl⟩,nofun,nofun,nofun,fun r h=>by cases h;exact eqs_of _ rfl (by kernel_rfl) (by kernel_rfl) (by kernel_rfl) [(false,4,0),(false,3,1),(false,3,2),(false,3,3),(false,3,4),(false,4,5),(false,3,6),(false,3,7)] (by kernel_rfl) (fun x y=>⟨⟨rfl,rfl,Tryz.underlying4⟩,⟨⟨rfl,rfl,⟨rfl,_,Tryz.underlying3⟩⟩,⟨⟨rfl,rfl,⟨rfl,_,Tryz.underlying3⟩⟩,⟨⟨rfl,rfl,⟨rfl,_,Tryz.underlying3⟩⟩,⟨⟨rfl,rfl,⟨rfl,_,Tryz.underlying3⟩⟩,⟨⟨rfl,rfl,Tryz.underlying4⟩,⟨⟨rfl,rfl,⟨rfl,_,Tryz.underlying3⟩⟩,⟨⟨rfl,rfl,⟨rfl,_,Tryz.underlying3⟩⟩,True.intro⟩⟩⟩⟩⟩⟩⟩⟩),nofun,nofun,fun _=>⟨_,Tryz.underlying211,by kernel_rfl⟩,nofun⟩
def jhd :Ty:=⟨false,1,[.dead],none,[],false,false,none,none,none,false,[],some (3,211,.int .i64,.pair .bool (.pair (.int .i64) (.pair (.int .i64) (.pair (.int .i64) (.pair (.int .i64) (.pair .bool (.pair (.int .i64) (.int .i64))))))),true)⟩
theorem jr4 :TyOk Tryz.prog 213 jhd:=⟨⟨_,Tryz.underlying213,rfl⟩,⟨_,_,rfl,rfl,rfl,rfl,fun c=>⟨⟨True.intro,rfl⟩,True.intro⟩⟩,nofun,fun h=>absurd rfl h,nofun,nofun,nofun,nofun,nofun,nofun,fun h=>absurd rfl h,fun K V kt vt agg h=>by cases h;exact⟨Tryz.underlying213,Tryz.underlying3,rfl,(fun h=>by first|rfl|cases h),_,_,rfl,rfl,rfl⟩⟩
def jFC :Ty:=tSt 2 [.pv (.int .i64) 0,.pv (.int .i64) 0] [(0,1),(1,1)] [(3,0),(3,1)]
theorem jGh :TyOk Tryz.prog 234 jFC:=oSt Tryz.underlying234
def jKR :Ty:=⟨true,2,[.pv (.int .i64) 0,.pv (.int .i64) 0],none,[(0,1),(1,1)],false,false,none,some (.pair (.int .i64) (.int .i64)),none,false,[(3,0),(3,1)],none⟩
theorem jLw :TyOk Tryz.prog 235 jKR:=⟨⟨_,Tryz.underlying235,rfl⟩,⟨_,_,rfl,rfl,rfl,rfl,fun c=>⟨⟨⟨_,rfl,Rep.int _ _⟩,rfl⟩,⟨⟨_,rfl,Rep.int _ _⟩,rfl⟩,True.intro⟩⟩,nofun,fun _=>⟨_,Tryz.underlying235,by kernel_rfl⟩,nofun,nofun,nofun,fun r h=>by cases h;exact eqs_of _ rfl (by kernel_rfl) (by kernel_rfl) (by kernel_rfl) [(false,3,0),(false,3,1)] (by kernel_rfl) (fun x y=>⟨⟨rfl,rfl,⟨rfl,_,Tryz.underlying3⟩⟩,⟨⟨rfl,rfl,⟨rfl,_,Tryz.underlying3⟩⟩,True.intro⟩⟩),nofun,nofun,fun _=>⟨_,Tryz.underlying235,by kernel_rfl⟩,nofun⟩
def jQO :Ty:=tSl (.nils) 75 (.sl (.int .i64)) 24
theorem jRh :TyOk Tryz.prog 240 jQO:=oSl Tryz.underlying240
def jzE :Ty:=tIn .i64
theorem jCP :TyOk Tryz.prog 245 jzE:=oIn Tryz.underlying245
def jKQ :Ty:=tIn .u32
theorem jK9 :TyOk Tryz.prog 253 jKQ:=oIn Tryz.underlying253
def jzd :Ty:=tIn .u64
theorem jCs :TyOk Tryz.prog 255 jzd:=oIn Tryz.underlying255
def jQT :Ty:=tIn .u64
theorem jRz :TyOk Tryz.prog 285 jQT:=oIn Tryz.underlying285
def jzs :Ty:=tPt (.nilp)
theorem jDD :TyOk Tryz.prog 289 jzs:=oPt Tryz.underlying289
def jQX :Ty:=tPt (.nilp)
theorem jRv :TyOk Tryz.prog 306 jQX:=oPt Tryz.underlying306
def jQR :Ty:=tSt 2 [.nilp,.nils] [(0,1),(1,1)] [(306,0),(22,1)]
theorem jRx :TyOk Tryz.prog 307 jQR:=oSt Tryz.underlying307
def jQP :Ty:=tSt 2 [.nilp,.nils] [(0,1),(1,1)] [(306,0),(22,1)]
theorem jRa :TyOk Tryz.prog 308 jQP:=oSt Tryz.underlying308
def jQU :Ty:=tPt (.nilp)
theorem jRy :TyOk Tryz.prog 317 jQU:=oPt Tryz.underlying317
def jFA :Ty:=⟨true,0,[],none,[],false,false,none,none,none,false,[],none⟩
theorem jFR :TyOk Tryz.prog 333 jFA:=⟨⟨_,Tryz.underlying333,rfl⟩,⟨_,_,rfl,rfl,rfl,rfl,fun c=>True.intro⟩,nofun,fun h=>absurd rfl h,nofun,nofun,nofun,nofun,nofun,nofun,fun h=>absurd rfl h,nofun⟩
def jQ1 :Ty:=⟨true,0,[],none,[],false,false,none,none,none,false,[],none⟩
theorem jRA :TyOk Tryz.prog 334 jQ1:=⟨⟨_,Tryz.underlying334,rfl⟩,⟨_,_,rfl,rfl,rfl,rfl,fun c=>True.intro⟩,nofun,fun h=>absurd rfl h,nofun,nofun,nofun,nofun,nofun,nofun,fun h=>absurd rfl h,nofun⟩
def jcH :List (Nat×Ty)->Nat->Option Ty
 | [],_=>none
 |(k,y)::l,t=>bif Nat.beq t k then some y else jcH l t
def jc4 (P:Program):List (Nat×Ty)->Prop
 | []=>True
 |(k,y)::l=>TyOk P k y/\jc4 P l
theorem jeo {P:Program}:∀ {l:List (Nat×Ty)},jc4 P l->∀t y,jcH l t=some y->TyOk P t y
 | [],_,t,y,h=>by cases h
 |(k,z)::l,hl,t,y,h=>by
  simp only[jcH]at h
  cases e:Nat.beq t k with
  |true=>rw[e]at h;cases h;rw[zby e];exact hl.1
  |false=>rw[e]at h;exact jeo hl.2 t y h
def tyL :List (Nat×Ty):=[(2,ty2),(3,ty3),(4,ty4),(5,ty5),(6,ty6),(7,ty7),(9,ty9),(12,ty12),(13,ty13),(16,ty16),(22,ty22),(23,ty23),(24,ty24),(25,ty25),(26,ty26),(30,ty30),(36,ty36),(37,ty37),(38,ty38),(42,ty42),(48,ty48),(49,ty49),(50,ty50),(51,ty51),(67,ty67),(68,ty68),(69,ty69),(75,ty75),(85,ty85),(89,ty89),(90,ty90),(91,ty91),(116,jKP),(117,jKM),(119,jzr),(120,jz3),(121,jQ0),(122,jus),(123,jt5),(125,jiF),(126,jQZ),(129,jzu),(130,jFa),(131,jiN),(148,jzx),(149,jKx),(151,jiW),(152,jja),(156,jFu),(157,jQY),(178,jzn),(179,jQW),(180,jQQ),(193,jGX),(195,jGV),(196,jNl),(197,jGY),(199,jzq),(203,jQN),(204,jNp),(207,jNn),(210,ji1),(211,jPO),(213,jhd),(234,jFC),(235,jKR),(240,jQO),(245,jzE),(253,jKQ),(255,jzd),(285,jQT),(289,jzs),(306,jQX),(307,jQR),(308,jQP),(317,jQU),(333,jFA),(334,jQ1)]
theorem jnJ :jc4 Tryz.prog tyL:=⟨jnr,jkV,jsX,joh,jDG,jCK,jlm,jFS,jGM,juI,jkf,jlb,jo8,jtq,jmW,jlj,jRB,jA1,jBk,jAG,jwS,jOM,jmX,jnW,jEz,ju2,jBa,jmE,jCc,jp6,jmN,joR,jL6,jLB,jBF,jCj,jRC,ju6,ju9,joS,jRk,jDc,jGa,jmd,jBf,jMI,jmC,jsI,jGu,jRn,jAT,jRt,jQ9,jHa,jG9,jNI,jHn,jDR,jRD,jNU,jN1,jtI,jQD,jr4,jGh,jLw,jRh,jCP,jK9,jCs,jRz,jDD,jRv,jRx,jRa,jRy,jFR,jRA,True.intro⟩
def ja1 :List (Nat×Model)->Nat->List Model
 | [],_=>[]
 |(k,m)::l,f=>bif Nat.beq f k then m::ja1 l f else ja1 l f
def jR (P:Program):List (Nat×Model)->Prop
 | []=>True
 |(k,m)::l=>ModelOk P k m/\jR P l
theorem jef {P:Program}:∀ {l:List (Nat×Model)},jR P l->∀f m,m∈ja1 l f->ModelOk P f m
 | [],_,f,m,h=>by cases h
 |(k,x)::l,hl,f,m,h=>by
  simp only[ja1]at h
  cases e:Nat.beq f k with
  |true=>
   rw[e]at h
   rcases zp.1 h with h|h
   .subst h;rw[zby e];exact hl.1
   .exact jef hl.2 f m h
  |false=>rw[e]at h;exact jef hl.2 f m h
theorem ja {P:Program}:jR P []:=True.intro
theorem jsH {P:Program} {k:Nat} {m:Model} {l:List (Nat×Model)} (h:ModelOk P k m) (hl:jR P l):jR P ((k,m)::l):=And.intro h hl
def memB :List Nat->Nat->Bool
 | [],_=>false
 |k::l,j=>bif Nat.beq j k then true else memB l j
noncomputable def jbC (l:List (Nat×Model)) (wr res:List Nat) (dw:List Nat:=[]):Env:=⟨Tryz.prog,jcH tyL,ja1 l,memB wr,memB res,memB dw⟩
theorem jtQ {l:List (Nat×Model)} (h:jR Tryz.prog l) (wr res:List Nat) (dw:List Nat:=[]):EnvOk (jbC l wr res dw):=⟨by kernel_rfl,jeo jnJ,jef h⟩
end Go.Proofs.YtchgdmmcjgmfcaaGreatDoor
