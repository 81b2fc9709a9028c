/- The table of types, by program. -/
import Derived.Test.YtbjikaianmpngaaDoorKX
import Derived.Test.YtbjikaianmpngaaDoorProg
import Derived.KernelRfl
set_option linter.unusedSimpArgs false
set_option linter.unusedVariables false
namespace Go.Proofs.YtbjikaianmpngaaDoor
open Go.RowKit
set_option maxRecDepth 100000
abbrev jEt (P:Program) (k n:Nat) (z:List AV):Prop:=∃i y,P.info? k=some i/\i.size=n/\i.zero=some y/\y.cells.size=n/\∀c,All2 (V1c c) z y.cells.toList
abbrev tSl (z:AV) (e:TypeId) (r:Tp) (b:Nat):Ty:=⟨false,1,[z],some (e,r,b),[],false,false,none,none,none,false,[],none⟩
theorem oSl {P:Program} {k e:TypeId} {r:Tp} {b:Nat} {z:AV} (h:P.underlying k=some (.slice e)) (hi:jEt P k 1 [z]:=by exact⟨_,_,rfl,rfl,rfl,rfl,fun c=>⟨⟨rfl,rfl⟩,True.intro⟩⟩)
  (he:0<r.w/\∃ie z,P.info? e=some ie/\ie.size=r.w/\ie.bytes=b/\ie.zero=some z/\z.cells.size=r.w:=by exact⟨by decide,_,_,rfl,rfl,rfl,rfl,rfl⟩):TyOk P k (tSl z e r b):=
 ⟨⟨_,h,rfl⟩,hi,fun _ _ _ g=>by cases g;exact⟨h,he⟩,fun h=>absurd rfl h,nofun,nofun,nofun,nofun,nofun,nofun,fun h=>absurd rfl h,nofun⟩
abbrev tSt (n:Nat) (z:List AV) (o f:List (Nat×Nat)):Ty:=⟨true,n,z,none,o,false,false,none,none,none,false,f,none⟩
theorem oSt {P:Program} {k n:Nat} {z:List AV} {o f:List (Nat×Nat)} {fs:Array Field} (h:P.underlying k=some (.struct fs))
  (hi:jEt P k n z:=by exact⟨_,_,rfl,rfl,rfl,rfl,fun c=>by repeat' first|exact True.intro|exact⟨⟨_,rfl,Rep.int _ _⟩,rfl⟩|exact⟨⟨_,rfl,Rep.str _⟩,rfl⟩|exact⟨⟨_,rfl,Rep.bool _⟩,rfl⟩|exact⟨rfl,rfl⟩|exact⟨True.intro,rfl⟩|refine⟨?_,?_⟩⟩)
  (ho:fs.toList.mapM (fun f=>(P.info? f.type).map fun i=>(f.offset,i.size))=some o:=by kernel_rfl) (hf:fs.toList.map (fun f=>(f.type,f.offset))=f:=by kernel_rfl):TyOk P k (tSt n z o f):=
 ⟨⟨_,h,rfl⟩,hi,nofun,fun _=>⟨_,h,ho⟩,nofun,nofun,nofun,nofun,nofun,nofun,fun _=>⟨_,h,hf⟩,nofun⟩
abbrev tIn (i:IntKind):Ty:=⟨false,1,[.pv (.int i) (0:Int)],none,[],false,false,some i,none,none,false,[],none⟩
abbrev tPt (z:AV):Ty:=⟨false,1,[z],none,[],false,false,none,none,none,true,[],none⟩
theorem oIn {P:Program} {k:Nat} {i:IntKind} (h:P.underlying k=some (.int i)) (hi:jEt P k 1 [.pv (.int i) (0:Int)]:=by exact⟨_,_,rfl,rfl,rfl,rfl,fun c=>⟨⟨⟨_,rfl,Rep.int _ _⟩,rfl⟩,True.intro⟩⟩):TyOk P k (tIn i):=
 ⟨⟨_,h,rfl⟩,hi,nofun,fun h=>absurd rfl h,nofun,nofun,fun _ g=>by cases g;exact h,nofun,nofun,nofun,fun h=>absurd rfl h,nofun⟩
theorem oPt {P:Program} {k u:Nat} {z:AV} (h:P.underlying k=some (.pointer u)) (hi:jEt P k 1 [z]:=by exact⟨_,_,rfl,rfl,rfl,rfl,fun c=>⟨⟨rfl,rfl⟩,True.intro⟩⟩):TyOk P k (tPt z):=
 ⟨⟨_,h,rfl⟩,hi,nofun,fun h=>absurd rfl h,nofun,nofun,nofun,nofun,nofun,fun _=>⟨_,h⟩,fun h=>absurd rfl h,nofun⟩
def ty2 :Ty:=tIn .i64
theorem jnr :TyOk Tryd.prog 2 ty2:=oIn Tryd.underlying2
def ty3 :Ty:=tIn .i64
theorem jkV :TyOk Tryd.prog 3 ty3:=oIn Tryd.underlying3
def ty4 :Ty:=⟨false,1,[.pv .bool false],none,[],false,true,none,none,none,false,[],none⟩
theorem jsX :TyOk Tryd.prog 4 ty4:=⟨⟨_,Tryd.underlying4,rfl⟩,⟨_,_,rfl,rfl,rfl,rfl,fun c=>⟨⟨⟨_,rfl,Rep.bool _⟩,rfl⟩,True.intro⟩⟩,nofun,fun h=>absurd rfl h,nofun,fun _=>Tryd.underlying4,nofun,nofun,nofun,nofun,fun h=>absurd rfl h,nofun⟩
def ty5 :Ty:=tIn .u8
theorem joh :TyOk Tryd.prog 5 ty5:=oIn Tryd.underlying5
def ty6 :Ty:=tIn .u8
theorem jDG :TyOk Tryd.prog 6 ty6:=oIn Tryd.underlying6
def ty7 :Ty:=tSt 4 [.pv (.int .i64) 0,.pv (.int .i64) 0,.pv .bool false,.pv (.int .u8) 0] [(0,1),(1,1),(2,1),(3,1)] [(2,0),(3,1),(4,2),(6,3)]
theorem jCK :TyOk Tryd.prog 7 ty7:=oSt Tryd.underlying7
def ty9 :Ty:=⟨false,1,[.pv .str []],none,[],true,false,none,none,none,false,[],none⟩
theorem jlm :TyOk Tryd.prog 9 ty9:=⟨⟨_,Tryd.underlying9,rfl⟩,⟨_,_,rfl,rfl,rfl,rfl,fun c=>⟨⟨⟨_,rfl,Rep.str _⟩,rfl⟩,True.intro⟩⟩,nofun,fun h=>absurd rfl h,fun _=>Tryd.underlying9,nofun,nofun,nofun,nofun,nofun,fun h=>absurd rfl h,nofun⟩
def ty12 :Ty:=tIn .u64
theorem jFS :TyOk Tryd.prog 12 ty12:=oIn Tryd.underlying12
def ty13 :Ty:=tSt 2 [.pv .str [],.pv (.int .u64) 0] [(0,1),(1,1)] [(9,0),(12,1)]
theorem jGM :TyOk Tryd.prog 13 ty13:=oSt Tryd.underlying13
def ty22 :Ty:=tSl (.nils) 5 (.int .u8) 1
theorem jkf :TyOk Tryd.prog 22 ty22:=oSl Tryd.underlying22
def ty23 :Ty:=tSl (.nils) 39 (.pair .str .q) 104
theorem jlb :TyOk Tryd.prog 23 ty23:=oSl Tryd.underlying23
def ty24 :Ty:=tSl (.nils) 9 .str 16
theorem jo8 :TyOk Tryd.prog 24 ty24:=oSl Tryd.underlying24
def ty25 :Ty:=tSl (.nils) 54 (.pair (.sl .str) .str) 40
theorem jtq :TyOk Tryd.prog 25 ty25:=oSl Tryd.underlying25
def ty26 :Ty:=tSt 2 [.nils,.nils] [(0,1),(1,1)] [(24,0),(25,1)]
theorem jmW :TyOk Tryd.prog 26 ty26:=oSt Tryd.underlying26
def ty27 :Ty:=tSt 2 [.nils,.nils] [(0,1),(1,1)] [(24,0),(25,1)]
theorem jtj :TyOk Tryd.prog 27 ty27:=oSt Tryd.underlying27
def ty35 :Ty:=tSl (.nils) 37 .q 88
theorem jGr :TyOk Tryd.prog 35 ty35:=oSl Tryd.underlying35
def ty36 :Ty:=tSt 6 [.pv (.int .i64) 0,.pv .str [],.nils,.pv (.int .i64) 0,.pv (.int .i64) 0,.nils] [(0,1),(1,1),(2,1),(3,1),(4,1),(5,1)] [(3,0),(9,1),(24,2),(3,3),(3,4),(35,5)]
theorem jRB :TyOk Tryd.prog 36 ty36:=oSt Tryd.underlying36
def ty37 :Ty:=tSt 6 [.pv (.int .i64) 0,.pv .str [],.nils,.pv (.int .i64) 0,.pv (.int .i64) 0,.nils] [(0,1),(1,1),(2,1),(3,1),(4,1),(5,1)] [(3,0),(9,1),(24,2),(3,3),(3,4),(35,5)]
theorem jA1 :TyOk Tryd.prog 37 ty37:=oSt Tryd.underlying37
def ty38 :Ty:=tSt 7 [.pv .str [],.pv (.int .i64) 0,.pv .str [],.nils,.pv (.int .i64) 0,.pv (.int .i64) 0,.nils] [(0,1),(1,6)] [(9,0),(37,1)]
theorem jBk :TyOk Tryd.prog 38 ty38:=oSt Tryd.underlying38
def ty39 :Ty:=tSt 7 [.pv .str [],.pv (.int .i64) 0,.pv .str [],.nils,.pv (.int .i64) 0,.pv (.int .i64) 0,.nils] [(0,1),(1,6)] [(9,0),(37,1)]
theorem jBJ :TyOk Tryd.prog 39 ty39:=oSt Tryd.underlying39
def ty42 :Ty:=tPt (.nilp)
theorem jAG :TyOk Tryd.prog 42 ty42:=oPt Tryd.underlying42
def ty46 :Ty:=⟨false,1,[.dead],none,[],false,false,none,none,some (9,4,.str,.bool),false,[],some (9,4,.str,.bool,false)⟩
theorem jl4 :TyOk Tryd.prog 46 ty46:=⟨⟨_,Tryd.underlying46,rfl⟩,⟨_,_,rfl,rfl,rfl,rfl,fun c=>⟨⟨True.intro,rfl⟩,True.intro⟩⟩,nofun,fun h=>absurd rfl h,nofun,nofun,nofun,nofun,fun K V kt vt h=>by cases h;exact⟨Tryd.underlying46,Tryd.underlying9,_,_,rfl,rfl,rfl⟩,nofun,fun h=>absurd rfl h,fun K V kt vt agg h=>by cases h;exact⟨Tryd.underlying46,Tryd.underlying9,rfl,(fun h=>by first|rfl|cases h),_,_,rfl,rfl,rfl⟩⟩
def ty53 :Ty:=tSt 2 [.nils,.pv .str []] [(0,1),(1,1)] [(24,0),(9,1)]
theorem jpI :TyOk Tryd.prog 53 ty53:=oSt Tryd.underlying53
def ty54 :Ty:=tSt 2 [.nils,.pv .str []] [(0,1),(1,1)] [(24,0),(9,1)]
theorem joI :TyOk Tryd.prog 54 ty54:=oSt Tryd.underlying54
def ty57 :Ty:=tSt 2 [.nils,.pv (.int .i64) 0] [(0,1),(1,1)] [(22,0),(3,1)]
theorem jL3 :TyOk Tryd.prog 57 ty57:=oSt Tryd.underlying57
def ty58 :Ty:=tSt 2 [.nils,.pv (.int .i64) 0] [(0,1),(1,1)] [(22,0),(3,1)]
theorem jMU :TyOk Tryd.prog 58 ty58:=oSt Tryd.underlying58
def ty62 :Ty:=tSl (.nils) 66 (.pair .str (.int .i64)) 24
theorem jDo :TyOk Tryd.prog 62 ty62:=oSl Tryd.underlying62
def ty65 :Ty:=tSt 2 [.pv .str [],.pv (.int .i64) 0] [(0,1),(1,1)] [(9,0),(3,1)]
theorem jQs :TyOk Tryd.prog 65 ty65:=oSt Tryd.underlying65
def ty66 :Ty:=⟨true,2,[.pv .str [],.pv (.int .i64) 0],none,[(0,1),(1,1)],false,false,none,some (.pair .str (.int .i64)),none,false,[(9,0),(3,1)],none⟩
theorem jA3 :TyOk Tryd.prog 66 ty66:=⟨⟨_,Tryd.underlying66,rfl⟩,⟨_,_,rfl,rfl,rfl,rfl,fun c=>⟨⟨⟨_,rfl,Rep.str _⟩,rfl⟩,⟨⟨_,rfl,Rep.int _ _⟩,rfl⟩,True.intro⟩⟩,nofun,fun _=>⟨_,Tryd.underlying66,by kernel_rfl⟩,nofun,nofun,nofun,fun r h=>by cases h;exact eqs_of _ rfl (by kernel_rfl) (by kernel_rfl) (by kernel_rfl) [(false,9,0),(false,3,1)] (by kernel_rfl) (fun x y=>⟨⟨rfl,rfl,Tryd.underlying9⟩,⟨⟨rfl,rfl,⟨rfl,_,Tryd.underlying3⟩⟩,True.intro⟩⟩),nofun,nofun,fun _=>⟨_,Tryd.underlying66,by kernel_rfl⟩,nofun⟩
def ty73 :Ty:=tSl (.nils) 3 (.int .i64) 8
theorem jMn :TyOk Tryd.prog 73 ty73:=oSl Tryd.underlying73
def ty74 :Ty:=tSl (.nils) 77 (.pair .str (.pair (.int .i64) (.pair (.int .i64) (.int .i64)))) 40
theorem jEW :TyOk Tryd.prog 74 ty74:=oSl Tryd.underlying74
def ty76 :Ty:=tSt 4 [.pv .str [],.pv (.int .i64) 0,.pv (.int .i64) 0,.pv (.int .i64) 0] [(0,1),(1,1),(2,1),(3,1)] [(9,0),(3,1),(3,2),(3,3)]
theorem jFP :TyOk Tryd.prog 76 ty76:=oSt Tryd.underlying76
def ty77 :Ty:=⟨true,4,[.pv .str [],.pv (.int .i64) 0,.pv (.int .i64) 0,.pv (.int .i64) 0],none,[(0,1),(1,1),(2,1),(3,1)],false,false,none,some (.pair .str (.pair (.int .i64) (.pair (.int .i64) (.int .i64)))),none,false,[(9,0),(3,1),(3,2),(3,3)],none⟩
theorem jk4 :TyOk Tryd.prog 77 ty77:=⟨⟨_,Tryd.underlying77,rfl⟩,⟨_,_,rfl,rfl,rfl,rfl,fun c=>⟨⟨⟨_,rfl,Rep.str _⟩,rfl⟩,⟨⟨_,rfl,Rep.int _ _⟩,rfl⟩,⟨⟨_,rfl,Rep.int _ _⟩,rfl⟩,⟨⟨_,rfl,Rep.int _ _⟩,rfl⟩,True.intro⟩⟩,nofun,fun _=>⟨_,Tryd.underlying77,by kernel_rfl⟩,nofun,nofun,nofun,fun r h=>by cases h;exact eqs_of _ rfl (by kernel_rfl) (by kernel_rfl) (by kernel_rfl) [(false,9,0),(false,3,1),(false,3,2),(false,3,3)] (by kernel_rfl) (fun x y=>⟨⟨rfl,rfl,Tryd.underlying9⟩,⟨⟨rfl,rfl,⟨rfl,_,Tryd.underlying3⟩⟩,⟨⟨rfl,rfl,⟨rfl,_,Tryd.underlying3⟩⟩,⟨⟨rfl,rfl,⟨rfl,_,Tryd.underlying3⟩⟩,True.intro⟩⟩⟩⟩),nofun,nofun,fun _=>⟨_,Tryd.underlying77,by kernel_rfl⟩,nofun⟩
def ty78 :Ty:=tPt (.nilp)
theorem jm0 :TyOk Tryd.prog 78 ty78:=oPt Tryd.underlying78
def ty80 :Ty:=tPt (.nilp)
theorem jHv :TyOk Tryd.prog 80 ty80:=oPt Tryd.underlying80
def ty81 :Ty:=tSt 2 [.nilp,.nils] [(0,1),(1,1)] [(80,0),(22,1)]
theorem jWC :TyOk Tryd.prog 81 ty81:=oSt Tryd.underlying81
def ty82 :Ty:=tSt 2 [.nilp,.nils] [(0,1),(1,1)] [(80,0),(22,1)]
theorem jWt :TyOk Tryd.prog 82 ty82:=oSt Tryd.underlying82
def ty91 :Ty:=tIn .u64
theorem joR :TyOk Tryd.prog 91 ty91:=oIn Tryd.underlying91
def ty94 :Ty:=tSt 8 [.pv .bool false,.pv (.int .i64) 0,.pv (.int .i64) 0,.pv (.int .i64) 0,.pv (.int .i64) 0,.pv .bool false,.pv (.int .i64) 0,.pv (.int .i64) 0] [(0,1),(1,1),(2,1),(3,1),(4,1),(5,1),(6,1),(7,1)] [(4,0),(3,1),(3,2),(3,3),(3,4),(4,5),(3,6),(3,7)]
theorem jHc :TyOk Tryd.prog 94 ty94:=oSt Tryd.underlying94
def ty95 :Ty:=⟨true,8,[.pv .bool false,.pv (.int .i64) 0,.pv (.int .i64) 0,.pv (.int .i64) 0,.pv (.int .i64) 0,.pv .bool false,.pv (.int .i64) 0,.pv (.int .i64) 0],none,[(0,1),(1,1),(2,1),(3,1),(4,1),(5,1),(6,1),(7,1)],false,false,none,some (.pair .bool (.pair (.int .i64) (.pair (.int .i64) (.pair (.int .i64) (.pair (.int .i64) (.pair .bool (.pair (.int .i64) (.int .i64)))))))),none,false,[(4,0),(3,1),(3,2),(3,3),(3,4),(4,5),(3,6),(3,7)],none⟩
theorem jOl :TyOk Tryd.prog 95 ty95:=⟨⟨_,Tryd.underlying95,rfl⟩,⟨_,_,rfl,rfl,rfl,rfl,fun c=>⟨⟨⟨_,rfl,Rep.bool _⟩,rfl⟩,⟨⟨_,rfl,Rep.int _ _⟩,rfl⟩,⟨⟨_,rfl,Rep.int _ _⟩,rfl⟩,⟨⟨_,rfl,Rep.int _ _⟩,rfl⟩,⟨⟨_,rfl,Rep.int _ _⟩,rfl⟩,⟨⟨_,rfl,Rep.bool _⟩,rfl⟩,⟨⟨_,rfl,Rep.int _ _⟩,rfl⟩,⟨⟨_,rfl,Rep.int _ _⟩,rfl⟩,True.intro⟩⟩,nofun,fun _=>⟨_,Tryd.underlying95,by kernel_rfl⟩,nofun,nofun,nofun,fun r h=>by cases h;exact eqs_of _ rfl (by kernel_rfl) (by kernel_rfl) (by kernel_rfl) [(false,4,0),(false,3,1),(false,3,2),(false,3,3),(false,3,4),(false,4,5),(false,3,6),(false,3,7)] (by kernel_rfl) (fun x y=>⟨⟨rfl,rfl,Tryd.underlying4⟩,⟨⟨rfl,rfl,⟨rfl,_,Tryd.underlying3⟩⟩,⟨⟨rfl,rfl,⟨rfl,_,Tryd.underlying3⟩⟩,⟨⟨rfl,rfl,⟨rfl,_,Tryd.underlying3⟩⟩,⟨⟨rfl,rfl,⟨rfl,_,Tryd.underlying3⟩⟩,⟨⟨rfl,rfl,Tryd.underlying4⟩,⟨⟨rfl,rfl,⟨rfl,_,Tryd.underlying3⟩⟩,⟨⟨rfl,rfl,⟨rfl,_,Tryd.underlying3⟩⟩,True.intro⟩⟩⟩⟩⟩⟩⟩⟩),nofun,nofun,fun _=>⟨_,Tryd.underlying95,by kernel_rfl⟩,nofun⟩
def ty97 :Ty:=⟨false,1,[.dead],none,[],false,false,none,none,none,false,[],some (3,95,.int .i64,.pair .bool (.pair (.int .i64) (.pair (.int .i64) (.pair (.int .i64) (.pair (.int .i64) (.pair .bool (.pair (.int .i64) (.int .i64))))))),true)⟩
theorem jtz :TyOk Tryd.prog 97 ty97:=⟨⟨_,Tryd.underlying97,rfl⟩,⟨_,_,rfl,rfl,rfl,rfl,fun c=>⟨⟨True.intro,rfl⟩,True.intro⟩⟩,nofun,fun h=>absurd rfl h,nofun,nofun,nofun,nofun,nofun,nofun,fun h=>absurd rfl h,fun K V kt vt agg h=>by cases h;exact⟨Tryd.underlying97,Tryd.underlying3,rfl,(fun h=>by first|rfl|cases h),_,_,rfl,rfl,rfl⟩⟩
def jNk :Ty:=tIn .i64
theorem jNH :TyOk Tryd.prog 102 jNk:=oIn Tryd.underlying102
def jGW :Ty:=tIn .u32
theorem jG5 :TyOk Tryd.prog 110 jGW:=oIn Tryd.underlying110
def jWs :Ty:=tIn .u64
theorem jWu :TyOk Tryd.prog 112 jWs:=oIn Tryd.underlying112
def jKM :Ty:=tIn .u64
theorem jLB :TyOk Tryd.prog 117 jKM:=oIn Tryd.underlying117
def jQ0 :Ty:=tPt (.nilp)
theorem jRC :TyOk Tryd.prog 121 jQ0:=oPt Tryd.underlying121
def jiF :Ty:=tPt (.nilp)
theorem joS :TyOk Tryd.prog 125 jiF:=oPt Tryd.underlying125
def jcH :List (Nat×Ty)->Nat->Option Ty
 | [],_=>none
 |(k,y)::l,t=>bif Nat.beq t k then some y else jcH l t
def jc4 (P:Program):List (Nat×Ty)->Prop
 | []=>True
 |(k,y)::l=>TyOk P k y/\jc4 P l
theorem jeo {P:Program}:∀ {l:List (Nat×Ty)},jc4 P l->∀t y,jcH l t=some y->TyOk P t y
 | [],_,t,y,h=>by cases h
 |(k,z)::l,hl,t,y,h=>by
  simp only[jcH]at h
  cases e:Nat.beq t k with
  |true=>rw[e]at h;cases h;rw[zby e];exact hl.1
  |false=>rw[e]at h;exact jeo hl.2 t y h
def tyL :List (Nat×Ty):=[(2,ty2),(3,ty3),(4,ty4),(5,ty5),(6,ty6),(7,ty7),(9,ty9),(12,ty12),(13,ty13),(22,ty22),(23,ty23),(24,ty24),(25,ty25),(26,ty26),(27,ty27),(35,ty35),(36,ty36),(37,ty37),(38,ty38),(39,ty39),(42,ty42),(46,ty46),(53,ty53),(54,ty54),(57,ty57),(58,ty58),(62,ty62),(65,ty65),(66,ty66),(73,ty73),(74,ty74),(76,ty76),(77,ty77),(78,ty78),(80,ty80),(81,ty81),(82,ty82),(91,ty91),(94,ty94),(95,ty95),(97,ty97),(102,jNk),(110,jGW),(112,jWs),(117,jKM),(121,jQ0),(125,jiF)]
theorem jnJ :jc4 Tryd.prog tyL:=⟨jnr,jkV,jsX,joh,jDG,jCK,jlm,jFS,jGM,jkf,jlb,jo8,jtq,jmW,jtj,jGr,jRB,jA1,jBk,jBJ,jAG,jl4,jpI,joI,jL3,jMU,jDo,jQs,jA3,jMn,jEW,jFP,jk4,jm0,jHv,jWC,jWt,joR,jHc,jOl,jtz,jNH,jG5,jWu,jLB,jRC,joS,True.intro⟩
def ja1 :List (Nat×Model)->Nat->List Model
 | [],_=>[]
 |(k,m)::l,f=>bif Nat.beq f k then m::ja1 l f else ja1 l f
def jR (P:Program):List (Nat×Model)->Prop
 | []=>True
 |(k,m)::l=>ModelOk P k m/\jR P l
theorem jef {P:Program}:∀ {l:List (Nat×Model)},jR P l->∀f m,m∈ja1 l f->ModelOk P f m
 | [],_,f,m,h=>by cases h
 |(k,x)::l,hl,f,m,h=>by
  simp only[ja1]at h
  cases e:Nat.beq f k with
  |true=>
   rw[e]at h
   rcases zp.1 h with h|h
   .subst h;rw[zby e];exact hl.1
   .exact jef hl.2 f m h
  |false=>rw[e]at h;exact jef hl.2 f m h
theorem ja {P:Program}:jR P []:=True.intro
theorem jsH {P:Program} {k:Nat} {m:Model} {l:List (Nat×Model)} (h:ModelOk P k m) (hl:jR P l):jR P ((k,m)::l):=And.intro h hl
def memB :List Nat->Nat->Bool
 | [],_=>false
 |k::l,j=>bif Nat.beq j k then true else memB l j
noncomputable def jbC (l:List (Nat×Model)) (wr res:List Nat) (dw:List Nat:=[]):Env:=⟨Tryd.prog,jcH tyL,ja1 l,memB wr,memB res,memB dw⟩
theorem jtQ {l:List (Nat×Model)} (h:jR Tryd.prog l) (wr res:List Nat) (dw:List Nat:=[]):EnvOk (jbC l wr res dw):=⟨by kernel_rfl,jeo jnJ,jef h⟩
end Go.Proofs.YtbjikaianmpngaaDoor
