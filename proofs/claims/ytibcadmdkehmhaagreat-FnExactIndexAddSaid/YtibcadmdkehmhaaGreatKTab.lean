/- The table of types, by program. -/
import Derived.Test.YtibcadmdkehmhaaGreatKX
import Derived.Test.YtibcadmdkehmhaaGreatProg
import Derived.KernelRfl
set_option linter.unusedSimpArgs false
set_option linter.unusedVariables false
namespace Go.Proofs.YtibcadmdkehmhaaGreat
open Go.RowKit
set_option maxRecDepth 100000
abbrev jEt (P:Program) (k n:Nat) (z:List AV):Prop:=∃i y,P.info? k=some i/\i.size=n/\i.zero=some y/\y.cells.size=n/\∀c,All2 (V1c c) z y.cells.toList
abbrev tSl (z:AV) (e:TypeId) (r:Tp) (b:Nat):Ty:=⟨false,1,[z],some (e,r,b),[],false,false,none,none,none,false,[],none⟩
theorem oSl {P:Program} {k e:TypeId} {r:Tp} {b:Nat} {z:AV} (h:P.underlying k=some (.slice e)) (hi:jEt P k 1 [z]:=by exact⟨_,_,rfl,rfl,rfl,rfl,fun c=>⟨⟨rfl,rfl⟩,True.intro⟩⟩)
  (he:0<r.w/\∃ie z,P.info? e=some ie/\ie.size=r.w/\ie.bytes=b/\ie.zero=some z/\z.cells.size=r.w:=by exact⟨by decide,_,_,rfl,rfl,rfl,rfl,rfl⟩):TyOk P k (tSl z e r b):=
 ⟨⟨_,h,rfl⟩,hi,fun _ _ _ g=>by cases g;exact⟨h,he⟩,fun h=>absurd rfl h,nofun,nofun,nofun,nofun,nofun,nofun,fun h=>absurd rfl h,nofun⟩
abbrev tSt (n:Nat) (z:List AV) (o f:List (Nat×Nat)):Ty:=⟨true,n,z,none,o,false,false,none,none,none,false,f,none⟩
theorem oSt {P:Program} {k n:Nat} {z:List AV} {o f:List (Nat×Nat)} {fs:Array Field} (h:P.underlying k=some (.struct fs))
  (hi:jEt P k n z:=by exact⟨_,_,rfl,rfl,rfl,rfl,fun c=>by repeat' first|exact True.intro|exact⟨⟨_,rfl,Rep.int _ _⟩,rfl⟩|exact⟨⟨_,rfl,Rep.str _⟩,rfl⟩|exact⟨⟨_,rfl,Rep.bool _⟩,rfl⟩|exact⟨rfl,rfl⟩|exact⟨True.intro,rfl⟩|refine⟨?_,?_⟩⟩)
  (ho:fs.toList.mapM (fun f=>(P.info? f.type).map fun i=>(f.offset,i.size))=some o:=by kernel_rfl) (hf:fs.toList.map (fun f=>(f.type,f.offset))=f:=by kernel_rfl):TyOk P k (tSt n z o f):=
 ⟨⟨_,h,rfl⟩,hi,nofun,fun _=>⟨_,h,ho⟩,nofun,nofun,nofun,nofun,nofun,nofun,fun _=>⟨_,h,hf⟩,nofun⟩
abbrev tIn (i:IntKind):Ty:=⟨false,1,[.pv (.int i) (0:Int)],none,[],false,false,some i,none,none,false,[],none⟩
abbrev tPt (z:AV):Ty:=⟨false,1,[z],none,[],false,false,none,none,none,true,[],none⟩
theorem oIn {P:Program} {k:Nat} {i:IntKind} (h:P.underlying k=some (.int i)) (hi:jEt P k 1 [.pv (.int i) (0:Int)]:=by exact⟨_,_,rfl,rfl,rfl,rfl,fun c=>⟨⟨⟨_,rfl,Rep.int _ _⟩,rfl⟩,True.intro⟩⟩):TyOk P k (tIn i):=
 ⟨⟨_,h,rfl⟩,hi,nofun,fun h=>absurd rfl h,nofun,nofun,fun _ g=>by cases g;exact h,nofun,nofun,nofun,fun h=>absurd rfl h,nofun⟩
theorem oPt {P:Program} {k u:Nat} {z:AV} (h:P.underlying k=some (.pointer u)) (hi:jEt P k 1 [z]:=by exact⟨_,_,rfl,rfl,rfl,rfl,fun c=>⟨⟨rfl,rfl⟩,True.intro⟩⟩):TyOk P k (tPt z):=
 ⟨⟨_,h,rfl⟩,hi,nofun,fun h=>absurd rfl h,nofun,nofun,nofun,nofun,nofun,fun _=>⟨_,h⟩,fun h=>absurd rfl h,nofun⟩
def ty2 :Ty:=tIn .i64
theorem jnr :TyOk Tryz.prog 2 ty2:=oIn Tryz.underlying2
def ty3 :Ty:=tIn .i64
theorem jkV :TyOk Tryz.prog 3 ty3:=oIn Tryz.underlying3
def ty4 :Ty:=⟨false,1,[.pv .bool false],none,[],false,true,none,none,none,false,[],none⟩
theorem jsX :TyOk Tryz.prog 4 ty4:=⟨⟨_,Tryz.underlying4,rfl⟩,⟨_,_,rfl,rfl,rfl,rfl,fun c=>⟨⟨⟨_,rfl,Rep.bool _⟩,rfl⟩,True.intro⟩⟩,nofun,fun h=>absurd rfl h,nofun,fun _=>Tryz.underlying4,nofun,nofun,nofun,nofun,fun h=>absurd rfl h,nofun⟩
def ty5 :Ty:=tIn .u8
theorem joh :TyOk Tryz.prog 5 ty5:=oIn Tryz.underlying5
def ty9 :Ty:=⟨false,1,[.pv .str []],none,[],true,false,none,none,none,false,[],none⟩
theorem jlm :TyOk Tryz.prog 9 ty9:=⟨⟨_,Tryz.underlying9,rfl⟩,⟨_,_,rfl,rfl,rfl,rfl,fun c=>⟨⟨⟨_,rfl,Rep.str _⟩,rfl⟩,True.intro⟩⟩,nofun,fun h=>absurd rfl h,fun _=>Tryz.underlying9,nofun,nofun,nofun,nofun,nofun,fun h=>absurd rfl h,nofun⟩
def ty22 :Ty:=tSl (.nils) 9 .str 16
theorem jkf :TyOk Tryz.prog 22 ty22:=oSl Tryz.underlying22
def ty23 :Ty:=tSl (.nils) 152 (.pair (.sl .str) .str) 40
theorem jlb :TyOk Tryz.prog 23 ty23:=oSl Tryz.underlying23
def ty24 :Ty:=tSt 2 [.nils,.nils] [(0,1),(1,1)] [(22,0),(23,1)]
theorem jo8 :TyOk Tryz.prog 24 ty24:=oSt Tryz.underlying24
def ty25 :Ty:=tSt 2 [.nils,.nils] [(0,1),(1,1)] [(22,0),(23,1)]
theorem jtq :TyOk Tryz.prog 25 ty25:=oSt Tryz.underlying25
def ty26 :Ty:=tSl (.nils) 93 (.pair (.pair (.sl (.pair (.int .i64) (.pair (.sl (.pair .str .str)) (.sl (.pair .str (.int .i64)))))) (.sl (.pair .str (.pair .str (.sl (.pair (.int .i64) (.sl (.int .i64)))))))) (.sl (.int .i64))) 72
theorem jmW :TyOk Tryz.prog 26 ty26:=oSl Tryz.underlying26
def ty27 :Ty:=tSt 3 [.nils,.nils,.nils] [(0,2),(2,1)] [(25,0),(26,2)]
theorem jtj :TyOk Tryz.prog 27 ty27:=oSt Tryz.underlying27
def ty28 :Ty:=tSt 3 [.nils,.nils,.nils] [(0,2),(2,1)] [(25,0),(26,2)]
theorem jmp :TyOk Tryz.prog 28 ty28:=oSt Tryz.underlying28
def ty30 :Ty:=tSl (.nils) 156 (.pair (.sl .str) .str) 40
theorem jlj :TyOk Tryz.prog 30 ty30:=oSl Tryz.underlying30
def ty31 :Ty:=tSt 2 [.nils,.nils] [(0,1),(1,1)] [(22,0),(30,1)]
theorem jD0 :TyOk Tryz.prog 31 ty31:=oSt Tryz.underlying31
def ty32 :Ty:=tSt 2 [.nils,.nils] [(0,1),(1,1)] [(22,0),(30,1)]
theorem jB5 :TyOk Tryz.prog 32 ty32:=oSt Tryz.underlying32
def ty33 :Ty:=tSl (.nils) 62 (.pair (.pair (.sl (.pair (.int .i64) (.pair (.sl (.pair .str .str)) (.sl (.pair .str (.int .i64)))))) (.sl (.pair .str (.pair .str (.sl (.pair (.int .i64) (.sl (.int .i64)))))))) (.sl (.int .i64))) 72
theorem jM8 :TyOk Tryz.prog 33 ty33:=oSl Tryz.underlying33
def ty34 :Ty:=tSt 3 [.nils,.nils,.nils] [(0,2),(2,1)] [(32,0),(33,2)]
theorem jLW :TyOk Tryz.prog 34 ty34:=oSt Tryz.underlying34
def ty35 :Ty:=tSt 3 [.nils,.nils,.nils] [(0,2),(2,1)] [(32,0),(33,2)]
theorem jGr :TyOk Tryz.prog 35 ty35:=oSt Tryz.underlying35
def ty42 :Ty:=tSl (.nils) 74 (.pair (.int .i64) (.pair (.sl (.pair .str .str)) (.sl (.pair .str (.int .i64))))) 56
theorem jAG :TyOk Tryz.prog 42 ty42:=oSl Tryz.underlying42
def ty45 :Ty:=tSl (.nils) 79 (.pair (.int .i64) (.pair (.sl (.pair .str .str)) (.sl (.pair .str (.int .i64))))) 56
theorem joX :TyOk Tryz.prog 45 ty45:=oSl Tryz.underlying45
def ty56 :Ty:=tSl (.nils) 106 (.pair .str (.pair .str (.sl (.pair (.int .i64) (.sl (.int .i64)))))) 56
theorem jnN :TyOk Tryz.prog 56 ty56:=oSl Tryz.underlying56
def ty57 :Ty:=tSt 2 [.nils,.nils] [(0,1),(1,1)] [(45,0),(56,1)]
theorem jL3 :TyOk Tryz.prog 57 ty57:=oSt Tryz.underlying57
def ty58 :Ty:=tSt 2 [.nils,.nils] [(0,1),(1,1)] [(45,0),(56,1)]
theorem jMU :TyOk Tryz.prog 58 ty58:=oSt Tryz.underlying58
def ty60 :Ty:=tSl (.nils) 3 (.int .i64) 8
theorem jMT :TyOk Tryz.prog 60 ty60:=oSl Tryz.underlying60
def ty61 :Ty:=tSt 3 [.nils,.nils,.nils] [(0,2),(2,1)] [(58,0),(60,2)]
theorem jGN :TyOk Tryz.prog 61 ty61:=oSt Tryz.underlying61
def ty62 :Ty:=tSt 3 [.nils,.nils,.nils] [(0,2),(2,1)] [(58,0),(60,2)]
theorem jDo :TyOk Tryz.prog 62 ty62:=oSt Tryz.underlying62
def ty71 :Ty:=tSl (.nils) 191 (.pair .str .str) 32
theorem jFX :TyOk Tryz.prog 71 ty71:=oSl Tryz.underlying71
def ty72 :Ty:=tSl (.nils) 193 (.pair .str (.int .i64)) 24
theorem jGo :TyOk Tryz.prog 72 ty72:=oSl Tryz.underlying72
def ty73 :Ty:=tSt 3 [.pv (.int .i64) 0,.nils,.nils] [(0,1),(1,1),(2,1)] [(3,0),(71,1),(72,2)]
theorem jMn :TyOk Tryz.prog 73 ty73:=oSt Tryz.underlying73
def ty74 :Ty:=tSt 3 [.pv (.int .i64) 0,.nils,.nils] [(0,1),(1,1),(2,1)] [(3,0),(71,1),(72,2)]
theorem jEW :TyOk Tryz.prog 74 ty74:=oSt Tryz.underlying74
def ty76 :Ty:=tSl (.nils) 116 (.pair .str .str) 32
theorem jFP :TyOk Tryz.prog 76 ty76:=oSl Tryz.underlying76
def ty77 :Ty:=tSl (.nils) 149 (.pair .str (.int .i64)) 24
theorem jk4 :TyOk Tryz.prog 77 ty77:=oSl Tryz.underlying77
def ty78 :Ty:=tSt 3 [.pv (.int .i64) 0,.nils,.nils] [(0,1),(1,1),(2,1)] [(3,0),(76,1),(77,2)]
theorem jm0 :TyOk Tryz.prog 78 ty78:=oSt Tryz.underlying78
def ty79 :Ty:=tSt 3 [.pv (.int .i64) 0,.nils,.nils] [(0,1),(1,1),(2,1)] [(3,0),(76,1),(77,2)]
theorem jm3 :TyOk Tryz.prog 79 ty79:=oSt Tryz.underlying79
def ty89 :Ty:=tSl (.nils) 235 (.pair .str (.pair .str (.sl (.pair (.int .i64) (.sl (.int .i64)))))) 56
theorem jp6 :TyOk Tryz.prog 89 ty89:=oSl Tryz.underlying89
def ty90 :Ty:=tSt 2 [.nils,.nils] [(0,1),(1,1)] [(42,0),(89,1)]
theorem jmN :TyOk Tryz.prog 90 ty90:=oSt Tryz.underlying90
def ty91 :Ty:=tSt 2 [.nils,.nils] [(0,1),(1,1)] [(42,0),(89,1)]
theorem joR :TyOk Tryz.prog 91 ty91:=oSt Tryz.underlying91
def ty92 :Ty:=tSt 3 [.nils,.nils,.nils] [(0,2),(2,1)] [(91,0),(60,2)]
theorem jG1 :TyOk Tryz.prog 92 ty92:=oSt Tryz.underlying92
def ty93 :Ty:=tSt 3 [.nils,.nils,.nils] [(0,2),(2,1)] [(91,0),(60,2)]
theorem jHo :TyOk Tryz.prog 93 ty93:=oSt Tryz.underlying93
def jKG :Ty:=tSl (.nils) 164 (.pair (.int .i64) (.sl (.int .i64))) 32
theorem jMo :TyOk Tryz.prog 104 jKG:=oSl Tryz.underlying104
def jKN :Ty:=tSt 3 [.pv .str [],.pv .str [],.nils] [(0,1),(1,1),(2,1)] [(9,0),(9,1),(104,2)]
theorem jKW :TyOk Tryz.prog 105 jKN:=oSt Tryz.underlying105
def jKs :Ty:=tSt 3 [.pv .str [],.pv .str [],.nils] [(0,1),(1,1),(2,1)] [(9,0),(9,1),(104,2)]
theorem jLm :TyOk Tryz.prog 106 jKs:=oSt Tryz.underlying106
def jKy :Ty:=tSt 2 [.pv .str [],.pv .str []] [(0,1),(1,1)] [(9,0),(9,1)]
theorem jLy :TyOk Tryz.prog 115 jKy:=oSt Tryz.underlying115
def jKP :Ty:=⟨true,2,[.pv .str [],.pv .str []],none,[(0,1),(1,1)],false,false,none,some (.pair .str .str),none,false,[(9,0),(9,1)],none⟩
theorem jL6 :TyOk Tryz.prog 116 jKP:=⟨⟨_,Tryz.underlying116,rfl⟩,⟨_,_,rfl,rfl,rfl,rfl,fun c=>⟨⟨⟨_,rfl,Rep.str _⟩,rfl⟩,⟨⟨_,rfl,Rep.str _⟩,rfl⟩,True.intro⟩⟩,nofun,fun _=>⟨_,Tryz.underlying116,by kernel_rfl⟩,nofun,nofun,nofun,fun r h=>by cases h;exact eqs_of _ rfl (by kernel_rfl) (by kernel_rfl) (by kernel_rfl) [(false,9,0),(false,9,1)] (by kernel_rfl) (fun x y=>⟨⟨rfl,rfl,Tryz.underlying9⟩,⟨⟨rfl,rfl,Tryz.underlying9⟩,True.intro⟩⟩),nofun,nofun,fun _=>⟨_,Tryz.underlying116,by kernel_rfl⟩,nofun⟩
def jKM :Ty:=tSl (.nils) 120 (.pair .str (.int .i64)) 24
theorem jLB :TyOk Tryz.prog 117 jKM:=oSl Tryz.underlying117
def jzr :Ty:=tSt 2 [.pv .str [],.pv (.int .i64) 0] [(0,1),(1,1)] [(9,0),(3,1)]
theorem jBF :TyOk Tryz.prog 119 jzr:=oSt Tryz.underlying119
def jz3 :Ty:=⟨true,2,[.pv .str [],.pv (.int .i64) 0],none,[(0,1),(1,1)],false,false,none,some (.pair .str (.int .i64)),none,false,[(9,0),(3,1)],none⟩
theorem jCj :TyOk Tryz.prog 120 jz3:=⟨⟨_,Tryz.underlying120,rfl⟩,⟨_,_,rfl,rfl,rfl,rfl,fun c=>⟨⟨⟨_,rfl,Rep.str _⟩,rfl⟩,⟨⟨_,rfl,Rep.int _ _⟩,rfl⟩,True.intro⟩⟩,nofun,fun _=>⟨_,Tryz.underlying120,by kernel_rfl⟩,nofun,nofun,nofun,fun r h=>by cases h;exact eqs_of _ rfl (by kernel_rfl) (by kernel_rfl) (by kernel_rfl) [(false,9,0),(false,3,1)] (by kernel_rfl) (fun x y=>⟨⟨rfl,rfl,Tryz.underlying9⟩,⟨⟨rfl,rfl,⟨rfl,_,Tryz.underlying3⟩⟩,True.intro⟩⟩),nofun,nofun,fun _=>⟨_,Tryz.underlying120,by kernel_rfl⟩,nofun⟩
def jhm :Ty:=tPt (.nilp)
theorem jpp :TyOk Tryz.prog 142 jhm:=oPt Tryz.underlying142
def jzx :Ty:=tSt 2 [.pv .str [],.pv (.int .i64) 0] [(0,1),(1,1)] [(9,0),(3,1)]
theorem jBf :TyOk Tryz.prog 148 jzx:=oSt Tryz.underlying148
def jKx :Ty:=⟨true,2,[.pv .str [],.pv (.int .i64) 0],none,[(0,1),(1,1)],false,false,none,some (.pair .str (.int .i64)),none,false,[(9,0),(3,1)],none⟩
theorem jMI :TyOk Tryz.prog 149 jKx:=⟨⟨_,Tryz.underlying149,rfl⟩,⟨_,_,rfl,rfl,rfl,rfl,fun c=>⟨⟨⟨_,rfl,Rep.str _⟩,rfl⟩,⟨⟨_,rfl,Rep.int _ _⟩,rfl⟩,True.intro⟩⟩,nofun,fun _=>⟨_,Tryz.underlying149,by kernel_rfl⟩,nofun,nofun,nofun,fun r h=>by cases h;exact eqs_of _ rfl (by kernel_rfl) (by kernel_rfl) (by kernel_rfl) [(false,9,0),(false,3,1)] (by kernel_rfl) (fun x y=>⟨⟨rfl,rfl,Tryz.underlying9⟩,⟨⟨rfl,rfl,⟨rfl,_,Tryz.underlying3⟩⟩,True.intro⟩⟩),nofun,nofun,fun _=>⟨_,Tryz.underlying149,by kernel_rfl⟩,nofun⟩
def jiW :Ty:=tSt 2 [.nils,.pv .str []] [(0,1),(1,1)] [(22,0),(9,1)]
theorem jmC :TyOk Tryz.prog 151 jiW:=oSt Tryz.underlying151
def jja :Ty:=tSt 2 [.nils,.pv .str []] [(0,1),(1,1)] [(22,0),(9,1)]
theorem jsI :TyOk Tryz.prog 152 jja:=oSt Tryz.underlying152
def jFu :Ty:=tSt 2 [.nils,.pv .str []] [(0,1),(1,1)] [(22,0),(9,1)]
theorem jGu :TyOk Tryz.prog 156 jFu:=oSt Tryz.underlying156
def ji0 :Ty:=tSt 2 [.pv (.int .i64) 0,.nils] [(0,1),(1,1)] [(3,0),(60,1)]
theorem jrX :TyOk Tryz.prog 163 ji0:=oSt Tryz.underlying163
def jh3 :Ty:=tSt 2 [.pv (.int .i64) 0,.nils] [(0,1),(1,1)] [(3,0),(60,1)]
theorem jkP :TyOk Tryz.prog 164 jh3:=oSt Tryz.underlying164
def jKI :Ty:=tSl (.nils) 174 (.pair .str (.pair (.int .i64) (.pair (.int .i64) (.int .i64)))) 40
theorem jM2 :TyOk Tryz.prog 171 jKI:=oSl Tryz.underlying171
def jKS :Ty:=tSt 4 [.pv .str [],.pv (.int .i64) 0,.pv (.int .i64) 0,.pv (.int .i64) 0] [(0,1),(1,1),(2,1),(3,1)] [(9,0),(3,1),(3,2),(3,3)]
theorem jNe :TyOk Tryz.prog 173 jKS:=oSt Tryz.underlying173
def jAd :Ty:=⟨true,4,[.pv .str [],.pv (.int .i64) 0,.pv (.int .i64) 0,.pv (.int .i64) 0],none,[(0,1),(1,1),(2,1),(3,1)],false,false,none,some (.pair .str (.pair (.int .i64) (.pair (.int .i64) (.int .i64)))),none,false,[(9,0),(3,1),(3,2),(3,3)],none⟩
theorem jDj :TyOk Tryz.prog 174 jAd:=⟨⟨_,Tryz.underlying174,rfl⟩,⟨_,_,rfl,rfl,rfl,rfl,fun c=>⟨⟨⟨_,rfl,Rep.str _⟩,rfl⟩,⟨⟨_,rfl,Rep.int _ _⟩,rfl⟩,⟨⟨_,rfl,Rep.int _ _⟩,rfl⟩,⟨⟨_,rfl,Rep.int _ _⟩,rfl⟩,True.intro⟩⟩,nofun,fun _=>⟨_,Tryz.underlying174,by kernel_rfl⟩,nofun,nofun,nofun,fun r h=>by cases h;exact eqs_of _ rfl (by kernel_rfl) (by kernel_rfl) (by kernel_rfl) [(false,9,0),(false,3,1),(false,3,2),(false,3,3)] (by kernel_rfl) (fun x y=>⟨⟨rfl,rfl,Tryz.underlying9⟩,⟨⟨rfl,rfl,⟨rfl,_,Tryz.underlying3⟩⟩,⟨⟨rfl,rfl,⟨rfl,_,Tryz.underlying3⟩⟩,⟨⟨rfl,rfl,⟨rfl,_,Tryz.underlying3⟩⟩,True.intro⟩⟩⟩⟩),nofun,nofun,fun _=>⟨_,Tryz.underlying174,by kernel_rfl⟩,nofun⟩
def jy6 :Ty:=tPt (.nilp)
theorem jDI :TyOk Tryz.prog 175 jy6:=oPt Tryz.underlying175
def jAr :Ty:=tPt (.nilp)
theorem jAM :TyOk Tryz.prog 177 jAr:=oPt Tryz.underlying177
def jzL :Ty:=tIn .u64
theorem jDr :TyOk Tryz.prog 183 jzL:=oIn Tryz.underlying183
def jzl :Ty:=⟨true,2,[.pv .str [],.pv .str []],none,[(0,1),(1,1)],false,false,none,some (.pair .str .str),none,false,[(9,0),(9,1)],none⟩
theorem jCq :TyOk Tryz.prog 191 jzl:=⟨⟨_,Tryz.underlying191,rfl⟩,⟨_,_,rfl,rfl,rfl,rfl,fun c=>⟨⟨⟨_,rfl,Rep.str _⟩,rfl⟩,⟨⟨_,rfl,Rep.str _⟩,rfl⟩,True.intro⟩⟩,nofun,fun _=>⟨_,Tryz.underlying191,by kernel_rfl⟩,nofun,nofun,nofun,fun r h=>by cases h;exact eqs_of _ rfl (by kernel_rfl) (by kernel_rfl) (by kernel_rfl) [(false,9,0),(false,9,1)] (by kernel_rfl) (fun x y=>⟨⟨rfl,rfl,Tryz.underlying9⟩,⟨⟨rfl,rfl,Tryz.underlying9⟩,True.intro⟩⟩),nofun,nofun,fun _=>⟨_,Tryz.underlying191,by kernel_rfl⟩,nofun⟩
def jGX :Ty:=⟨true,2,[.pv .str [],.pv (.int .i64) 0],none,[(0,1),(1,1)],false,false,none,some (.pair .str (.int .i64)),none,false,[(9,0),(3,1)],none⟩
theorem jHa :TyOk Tryz.prog 193 jGX:=⟨⟨_,Tryz.underlying193,rfl⟩,⟨_,_,rfl,rfl,rfl,rfl,fun c=>⟨⟨⟨_,rfl,Rep.str _⟩,rfl⟩,⟨⟨_,rfl,Rep.int _ _⟩,rfl⟩,True.intro⟩⟩,nofun,fun _=>⟨_,Tryz.underlying193,by kernel_rfl⟩,nofun,nofun,nofun,fun r h=>by cases h;exact eqs_of _ rfl (by kernel_rfl) (by kernel_rfl) (by kernel_rfl) [(false,9,0),(false,3,1)] (by kernel_rfl) (fun x y=>⟨⟨rfl,rfl,Tryz.underlying9⟩,⟨⟨rfl,rfl,⟨rfl,_,Tryz.underlying3⟩⟩,True.intro⟩⟩),nofun,nofun,fun _=>⟨_,Tryz.underlying193,by kernel_rfl⟩,nofun⟩
def jzq :Ty:=tSl (.nils) 5 (.int .u8) 1
theorem jDR :TyOk Tryz.prog 199 jzq:=oSl Tryz.underlying199
def jhV :Ty:=tIn .i64
theorem jsP :TyOk Tryz.prog 209 jhV:=oIn Tryz.underlying209
def jza :Ty:=tIn .u32
theorem jDi :TyOk Tryz.prog 217 jza:=oIn Tryz.underlying217
def jKr :Ty:=tIn .u64
theorem jMZ :TyOk Tryz.prog 219 jKr:=oIn Tryz.underlying219
def jh4 :Ty:=tSl (.nils) 260 (.pair (.int .i64) (.sl (.int .i64))) 32
theorem jn7 :TyOk Tryz.prog 233 jh4:=oSl Tryz.underlying233
def jFC :Ty:=tSt 3 [.pv .str [],.pv .str [],.nils] [(0,1),(1,1),(2,1)] [(9,0),(9,1),(233,2)]
theorem jGh :TyOk Tryz.prog 234 jFC:=oSt Tryz.underlying234
def jKR :Ty:=tSt 3 [.pv .str [],.pv .str [],.nils] [(0,1),(1,1),(2,1)] [(9,0),(9,1),(233,2)]
theorem jLw :TyOk Tryz.prog 235 jKR:=oSt Tryz.underlying235
def jKp :Ty:=tIn .u64
theorem jKV :TyOk Tryz.prog 241 jKp:=oIn Tryz.underlying241
def jzE :Ty:=tPt (.nilp)
theorem jCP :TyOk Tryz.prog 245 jzE:=oPt Tryz.underlying245
def jKQ :Ty:=tPt (.nilp)
theorem jK9 :TyOk Tryz.prog 253 jKQ:=oPt Tryz.underlying253
def jH0 :Ty:=tSt 2 [.pv (.int .i64) 0,.nils] [(0,1),(1,1)] [(3,0),(60,1)]
theorem jJb :TyOk Tryz.prog 260 jH0:=oSt Tryz.underlying260
def jcH :List (Nat×Ty)->Nat->Option Ty
 | [],_=>none
 |(k,y)::l,t=>bif Nat.beq t k then some y else jcH l t
def jc4 (P:Program):List (Nat×Ty)->Prop
 | []=>True
 |(k,y)::l=>TyOk P k y/\jc4 P l
theorem jeo {P:Program}:∀ {l:List (Nat×Ty)},jc4 P l->∀t y,jcH l t=some y->TyOk P t y
 | [],_,t,y,h=>by cases h
 |(k,z)::l,hl,t,y,h=>by
  simp only[jcH]at h
  cases e:Nat.beq t k with
  |true=>rw[e]at h;cases h;rw[Nat.eq_of_beq_eq_true e];exact hl.1
  |false=>rw[e]at h;exact jeo hl.2 t y h
def tyL :List (Nat×Ty):=[(2,ty2),(3,ty3),(4,ty4),(5,ty5),(9,ty9),(22,ty22),(23,ty23),(24,ty24),(25,ty25),(26,ty26),(27,ty27),(28,ty28),(30,ty30),(31,ty31),(32,ty32),(33,ty33),(34,ty34),(35,ty35),(42,ty42),(45,ty45),(56,ty56),(57,ty57),(58,ty58),(60,ty60),(61,ty61),(62,ty62),(71,ty71),(72,ty72),(73,ty73),(74,ty74),(76,ty76),(77,ty77),(78,ty78),(79,ty79),(89,ty89),(90,ty90),(91,ty91),(92,ty92),(93,ty93),(104,jKG),(105,jKN),(106,jKs),(115,jKy),(116,jKP),(117,jKM),(119,jzr),(120,jz3),(142,jhm),(148,jzx),(149,jKx),(151,jiW),(152,jja),(156,jFu),(163,ji0),(164,jh3),(171,jKI),(173,jKS),(174,jAd),(175,jy6),(177,jAr),(183,jzL),(191,jzl),(193,jGX),(199,jzq),(209,jhV),(217,jza),(219,jKr),(233,jh4),(234,jFC),(235,jKR),(241,jKp),(245,jzE),(253,jKQ),(260,jH0)]
theorem jnJ :jc4 Tryz.prog tyL:=⟨jnr,jkV,jsX,joh,jlm,jkf,jlb,jo8,jtq,jmW,jtj,jmp,jlj,jD0,jB5,jM8,jLW,jGr,jAG,joX,jnN,jL3,jMU,jMT,jGN,jDo,jFX,jGo,jMn,jEW,jFP,jk4,jm0,jm3,jp6,jmN,joR,jG1,jHo,jMo,jKW,jLm,jLy,jL6,jLB,jBF,jCj,jpp,jBf,jMI,jmC,jsI,jGu,jrX,jkP,jM2,jNe,jDj,jDI,jAM,jDr,jCq,jHa,jDR,jsP,jDi,jMZ,jn7,jGh,jLw,jKV,jCP,jK9,jJb,True.intro⟩
def ja1 :List (Nat×Model)->Nat->List Model
 | [],_=>[]
 |(k,m)::l,f=>bif Nat.beq f k then m::ja1 l f else ja1 l f
def jR (P:Program):List (Nat×Model)->Prop
 | []=>True
 |(k,m)::l=>ModelOk P k m/\jR P l
theorem jef {P:Program}:∀ {l:List (Nat×Model)},jR P l->∀f m,m∈ja1 l f->ModelOk P f m
 | [],_,f,m,h=>by cases h
 |(k,x)::l,hl,f,m,h=>by
  simp only[ja1]at h
  cases e:Nat.beq f k with
  |true=>
   rw[e]at h
   rcases zp.1 h with h|h
   .subst h;rw[Nat.eq_of_beq_eq_true e];exact hl.1
   .exact jef hl.2 f m h
  |false=>rw[e]at h;exact jef hl.2 f m h
theorem ja {P:Program}:jR P []:=True.intro
theorem jsH {P:Program} {k:Nat} {m:Model} {l:List (Nat×Model)} (h:ModelOk P k m) (hl:jR P l):jR P ((k,m)::l):=And.intro h hl
def memB :List Nat->Nat->Bool
 | [],_=>false
 |k::l,j=>bif Nat.beq j k then true else memB l j
noncomputable def jbC (l:List (Nat×Model)) (wr res:List Nat) (dw:List Nat:=[]):Env:=⟨Tryz.prog,jcH tyL,ja1 l,memB wr,memB res,memB dw⟩
theorem jtQ {l:List (Nat×Model)} (h:jR Tryz.prog l) (wr res:List Nat) (dw:List Nat:=[]):EnvOk (jbC l wr res dw):=⟨by kernel_rfl,jeo jnJ,jef h⟩
end Go.Proofs.YtibcadmdkehmhaaGreat
