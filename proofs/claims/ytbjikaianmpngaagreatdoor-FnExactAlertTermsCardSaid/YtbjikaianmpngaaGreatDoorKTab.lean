/- The table of types, by program. -/
import Derived.Test.YtbjikaianmpngaaGreatDoorKX
import Derived.Test.YtbjikaianmpngaaGreatDoorProg
import Derived.KernelRfl
set_option linter.unusedSimpArgs false
set_option linter.unusedVariables false
namespace Go.Proofs.YtbjikaianmpngaaGreatDoor
open Go.RowKit
set_option maxRecDepth 100000
abbrev jEt (P:Program) (k n:Nat) (z:List AV):Prop:=∃i y,P.info? k=some i/\i.size=n/\i.zero=some y/\y.cells.size=n/\∀c,All2 (V1c c) z y.cells.toList
abbrev tSl (z:AV) (e:TypeId) (r:Tp) (b:Nat):Ty:=⟨false,1,[z],some (e,r,b),[],false,false,none,none,none,false,[],none⟩
theorem oSl {P:Program} {k e:TypeId} {r:Tp} {b:Nat} {z:AV} (h:P.underlying k=some (.slice e)) (hi:jEt P k 1 [z]:=by exact⟨_,_,rfl,rfl,rfl,rfl,fun c=>⟨⟨rfl,rfl⟩,True.intro⟩⟩)
  (he:0<r.w/\∃ie z,P.info? e=some ie/\ie.size=r.w/\ie.bytes=b/\ie.zero=some z/\z.cells.size=r.w:=by exact⟨by decide,_,_,rfl,rfl,rfl,rfl,rfl⟩):TyOk P k (tSl z e r b):=
 ⟨⟨_,h,rfl⟩,hi,fun _ _ _ g=>by cases g;exact⟨h,he⟩,fun h=>absurd rfl h,nofun,nofun,nofun,nofun,nofun,nofun,fun h=>absurd rfl h,nofun⟩
abbrev tSt (n:Nat) (z:List AV) (o f:List (Nat×Nat)):Ty:=⟨true,n,z,none,o,false,false,none,none,none,false,f,none⟩
theorem oSt {P:Program} {k n:Nat} {z:List AV} {o f:List (Nat×Nat)} {fs:Array Field} (h:P.underlying k=some (.struct fs))
  (hi:jEt P k n z:=by exact⟨_,_,rfl,rfl,rfl,rfl,fun c=>by repeat' first|exact True.intro|exact⟨⟨_,rfl,Rep.int _ _⟩,rfl⟩|exact⟨⟨_,rfl,Rep.str _⟩,rfl⟩|exact⟨⟨_,rfl,Rep.bool _⟩,rfl⟩|exact⟨rfl,rfl⟩|exact⟨True.intro,rfl⟩|refine⟨?_,?_⟩⟩)
  (ho:fs.toList.mapM (fun f=>(P.info? f.type).map fun i=>(f.offset,i.size))=some o:=by kernel_rfl) (hf:fs.toList.map (fun f=>(f.type,f.offset))=f:=by kernel_rfl):TyOk P k (tSt n z o f):=
 ⟨⟨_,h,rfl⟩,hi,nofun,fun _=>⟨_,h,ho⟩,nofun,nofun,nofun,nofun,nofun,nofun,fun _=>⟨_,h,hf⟩,nofun⟩
abbrev tIn (i:IntKind):Ty:=⟨false,1,[.pv (.int i) (0:Int)],none,[],false,false,some i,none,none,false,[],none⟩
abbrev tPt (z:AV):Ty:=⟨false,1,[z],none,[],false,false,none,none,none,true,[],none⟩
theorem oIn {P:Program} {k:Nat} {i:IntKind} (h:P.underlying k=some (.int i)) (hi:jEt P k 1 [.pv (.int i) (0:Int)]:=by exact⟨_,_,rfl,rfl,rfl,rfl,fun c=>⟨⟨⟨_,rfl,Rep.int _ _⟩,rfl⟩,True.intro⟩⟩):TyOk P k (tIn i):=
 ⟨⟨_,h,rfl⟩,hi,nofun,fun h=>absurd rfl h,nofun,nofun,fun _ g=>by cases g;exact h,nofun,nofun,nofun,fun h=>absurd rfl h,nofun⟩
theorem oPt {P:Program} {k u:Nat} {z:AV} (h:P.underlying k=some (.pointer u)) (hi:jEt P k 1 [z]:=by exact⟨_,_,rfl,rfl,rfl,rfl,fun c=>⟨⟨rfl,rfl⟩,True.intro⟩⟩):TyOk P k (tPt z):=
 ⟨⟨_,h,rfl⟩,hi,nofun,fun h=>absurd rfl h,nofun,nofun,nofun,nofun,nofun,fun _=>⟨_,h⟩,fun h=>absurd rfl h,nofun⟩
def ty2 :Ty:=tIn .i64
theorem jnr :TyOk Tryz.prog 2 ty2:=oIn Tryz.underlying2
def ty3 :Ty:=tIn .i64
theorem jkV :TyOk Tryz.prog 3 ty3:=oIn Tryz.underlying3
def ty4 :Ty:=⟨false,1,[.pv .bool false],none,[],false,true,none,none,none,false,[],none⟩
theorem jsX :TyOk Tryz.prog 4 ty4:=⟨⟨_,Tryz.underlying4,rfl⟩,⟨_,_,rfl,rfl,rfl,rfl,fun c=>⟨⟨⟨_,rfl,Rep.bool _⟩,rfl⟩,True.intro⟩⟩,nofun,fun h=>absurd rfl h,nofun,fun _=>Tryz.underlying4,nofun,nofun,nofun,nofun,fun h=>absurd rfl h,nofun⟩
def ty5 :Ty:=tIn .u8
theorem joh :TyOk Tryz.prog 5 ty5:=oIn Tryz.underlying5
def ty6 :Ty:=tIn .u8
theorem jDG :TyOk Tryz.prog 6 ty6:=oIn Tryz.underlying6
def ty7 :Ty:=tSt 4 [.pv (.int .i64) 0,.pv (.int .i64) 0,.pv .bool false,.pv (.int .u8) 0] [(0,1),(1,1),(2,1),(3,1)] [(2,0),(3,1),(4,2),(6,3)]
theorem jCK :TyOk Tryz.prog 7 ty7:=oSt Tryz.underlying7
def ty9 :Ty:=⟨false,1,[.pv .str []],none,[],true,false,none,none,none,false,[],none⟩
theorem jlm :TyOk Tryz.prog 9 ty9:=⟨⟨_,Tryz.underlying9,rfl⟩,⟨_,_,rfl,rfl,rfl,rfl,fun c=>⟨⟨⟨_,rfl,Rep.str _⟩,rfl⟩,True.intro⟩⟩,nofun,fun h=>absurd rfl h,fun _=>Tryz.underlying9,nofun,nofun,nofun,nofun,nofun,fun h=>absurd rfl h,nofun⟩
def ty22 :Ty:=tSl (.nils) 48 (.pair .str .q) 104
theorem jkf :TyOk Tryz.prog 22 ty22:=oSl Tryz.underlying22
def ty23 :Ty:=tSl (.nils) 9 .str 16
theorem jlb :TyOk Tryz.prog 23 ty23:=oSl Tryz.underlying23
def ty24 :Ty:=tSl (.nils) 73 (.pair (.sl .str) .str) 40
theorem jo8 :TyOk Tryz.prog 24 ty24:=oSl Tryz.underlying24
def ty25 :Ty:=tSt 2 [.nils,.nils] [(0,1),(1,1)] [(23,0),(24,1)]
theorem jtq :TyOk Tryz.prog 25 ty25:=oSt Tryz.underlying25
def ty26 :Ty:=tSt 2 [.nils,.nils] [(0,1),(1,1)] [(23,0),(24,1)]
theorem jmW :TyOk Tryz.prog 26 ty26:=oSt Tryz.underlying26
def ty30 :Ty:=tSl (.nils) 57 (.pair .str .q) 104
theorem jlj :TyOk Tryz.prog 30 ty30:=oSl Tryz.underlying30
def ty32 :Ty:=tSl (.nils) 76 (.pair (.sl .str) .str) 40
theorem jB5 :TyOk Tryz.prog 32 ty32:=oSl Tryz.underlying32
def ty33 :Ty:=tSt 2 [.nils,.nils] [(0,1),(1,1)] [(23,0),(32,1)]
theorem jM8 :TyOk Tryz.prog 33 ty33:=oSt Tryz.underlying33
def ty34 :Ty:=tSt 2 [.nils,.nils] [(0,1),(1,1)] [(23,0),(32,1)]
theorem jLW :TyOk Tryz.prog 34 ty34:=oSt Tryz.underlying34
def ty44 :Ty:=tSl (.nils) 46 .q 88
theorem jrr :TyOk Tryz.prog 44 ty44:=oSl Tryz.underlying44
def ty45 :Ty:=tSt 6 [.pv (.int .i64) 0,.pv .str [],.nils,.pv (.int .i64) 0,.pv (.int .i64) 0,.nils] [(0,1),(1,1),(2,1),(3,1),(4,1),(5,1)] [(3,0),(9,1),(23,2),(3,3),(3,4),(44,5)]
theorem joX :TyOk Tryz.prog 45 ty45:=oSt Tryz.underlying45
def ty46 :Ty:=tSt 6 [.pv (.int .i64) 0,.pv .str [],.nils,.pv (.int .i64) 0,.pv (.int .i64) 0,.nils] [(0,1),(1,1),(2,1),(3,1),(4,1),(5,1)] [(3,0),(9,1),(23,2),(3,3),(3,4),(44,5)]
theorem jl4 :TyOk Tryz.prog 46 ty46:=oSt Tryz.underlying46
def ty47 :Ty:=tSt 7 [.pv .str [],.pv (.int .i64) 0,.pv .str [],.nils,.pv (.int .i64) 0,.pv (.int .i64) 0,.nils] [(0,1),(1,6)] [(9,0),(46,1)]
theorem jwu :TyOk Tryz.prog 47 ty47:=oSt Tryz.underlying47
def ty48 :Ty:=tSt 7 [.pv .str [],.pv (.int .i64) 0,.pv .str [],.nils,.pv (.int .i64) 0,.pv (.int .i64) 0,.nils] [(0,1),(1,6)] [(9,0),(46,1)]
theorem jwS :TyOk Tryz.prog 48 ty48:=oSt Tryz.underlying48
def ty53 :Ty:=tSl (.nils) 55 .q 88
theorem jpI :TyOk Tryz.prog 53 ty53:=oSl Tryz.underlying53
def ty54 :Ty:=tSt 6 [.pv (.int .i64) 0,.pv .str [],.nils,.pv (.int .i64) 0,.pv (.int .i64) 0,.nils] [(0,1),(1,1),(2,1),(3,1),(4,1),(5,1)] [(3,0),(9,1),(23,2),(3,3),(3,4),(53,5)]
theorem joI :TyOk Tryz.prog 54 ty54:=oSt Tryz.underlying54
def ty55 :Ty:=tSt 6 [.pv (.int .i64) 0,.pv .str [],.nils,.pv (.int .i64) 0,.pv (.int .i64) 0,.nils] [(0,1),(1,1),(2,1),(3,1),(4,1),(5,1)] [(3,0),(9,1),(23,2),(3,3),(3,4),(53,5)]
theorem jlw :TyOk Tryz.prog 55 ty55:=oSt Tryz.underlying55
def ty56 :Ty:=tSt 7 [.pv .str [],.pv (.int .i64) 0,.pv .str [],.nils,.pv (.int .i64) 0,.pv (.int .i64) 0,.nils] [(0,1),(1,6)] [(9,0),(55,1)]
theorem jnN :TyOk Tryz.prog 56 ty56:=oSt Tryz.underlying56
def ty57 :Ty:=tSt 7 [.pv .str [],.pv (.int .i64) 0,.pv .str [],.nils,.pv (.int .i64) 0,.pv (.int .i64) 0,.nils] [(0,1),(1,6)] [(9,0),(55,1)]
theorem jL3 :TyOk Tryz.prog 57 ty57:=oSt Tryz.underlying57
def ty62 :Ty:=⟨false,1,[.dead],none,[],false,false,none,none,some (9,4,.str,.bool),false,[],some (9,4,.str,.bool,false)⟩
theorem jDo :TyOk Tryz.prog 62 ty62:=⟨⟨_,Tryz.underlying62,rfl⟩,⟨_,_,rfl,rfl,rfl,rfl,fun c=>⟨⟨True.intro,rfl⟩,True.intro⟩⟩,nofun,fun h=>absurd rfl h,nofun,nofun,nofun,nofun,fun K V kt vt h=>by cases h;exact⟨Tryz.underlying62,Tryz.underlying9,_,_,rfl,rfl,rfl⟩,nofun,fun h=>absurd rfl h,fun K V kt vt agg h=>by cases h;exact⟨Tryz.underlying62,Tryz.underlying9,rfl,(fun h=>by first|rfl|cases h),_,_,rfl,rfl,rfl⟩⟩
def ty72 :Ty:=tSt 2 [.nils,.pv .str []] [(0,1),(1,1)] [(23,0),(9,1)]
theorem jGo :TyOk Tryz.prog 72 ty72:=oSt Tryz.underlying72
def ty73 :Ty:=tSt 2 [.nils,.pv .str []] [(0,1),(1,1)] [(23,0),(9,1)]
theorem jMn :TyOk Tryz.prog 73 ty73:=oSt Tryz.underlying73
def ty76 :Ty:=tSt 2 [.nils,.pv .str []] [(0,1),(1,1)] [(23,0),(9,1)]
theorem jFP :TyOk Tryz.prog 76 ty76:=oSt Tryz.underlying76
def ty80 :Ty:=tSl (.nils) 84 (.pair .str (.int .i64)) 24
theorem jHv :TyOk Tryz.prog 80 ty80:=oSl Tryz.underlying80
def ty83 :Ty:=tSt 2 [.pv .str [],.pv (.int .i64) 0] [(0,1),(1,1)] [(9,0),(3,1)]
theorem jWj :TyOk Tryz.prog 83 ty83:=oSt Tryz.underlying83
def ty84 :Ty:=⟨true,2,[.pv .str [],.pv (.int .i64) 0],none,[(0,1),(1,1)],false,false,none,some (.pair .str (.int .i64)),none,false,[(9,0),(3,1)],none⟩
theorem jOf :TyOk Tryz.prog 84 ty84:=⟨⟨_,Tryz.underlying84,rfl⟩,⟨_,_,rfl,rfl,rfl,rfl,fun c=>⟨⟨⟨_,rfl,Rep.str _⟩,rfl⟩,⟨⟨_,rfl,Rep.int _ _⟩,rfl⟩,True.intro⟩⟩,nofun,fun _=>⟨_,Tryz.underlying84,by kernel_rfl⟩,nofun,nofun,nofun,fun r h=>by cases h;exact eqs_of _ rfl (by kernel_rfl) (by kernel_rfl) (by kernel_rfl) [(false,9,0),(false,3,1)] (by kernel_rfl) (fun x y=>⟨⟨rfl,rfl,Tryz.underlying9⟩,⟨⟨rfl,rfl,⟨rfl,_,Tryz.underlying3⟩⟩,True.intro⟩⟩),nofun,nofun,fun _=>⟨_,Tryz.underlying84,by kernel_rfl⟩,nofun⟩
def ty91 :Ty:=tSl (.nils) 5 (.int .u8) 1
theorem joR :TyOk Tryz.prog 91 ty91:=oSl Tryz.underlying91
def jHW :Ty:=tSl (.nils) 103 (.pair .str (.pair (.int .i64) (.pair (.int .i64) (.int .i64)))) 40
theorem jIL :TyOk Tryz.prog 100 jHW:=oSl Tryz.underlying100
def jNk :Ty:=tSt 4 [.pv .str [],.pv (.int .i64) 0,.pv (.int .i64) 0,.pv (.int .i64) 0] [(0,1),(1,1),(2,1),(3,1)] [(9,0),(3,1),(3,2),(3,3)]
theorem jNH :TyOk Tryz.prog 102 jNk:=oSt Tryz.underlying102
def jNG :Ty:=⟨true,4,[.pv .str [],.pv (.int .i64) 0,.pv (.int .i64) 0,.pv (.int .i64) 0],none,[(0,1),(1,1),(2,1),(3,1)],false,false,none,some (.pair .str (.pair (.int .i64) (.pair (.int .i64) (.int .i64)))),none,false,[(9,0),(3,1),(3,2),(3,3)],none⟩
theorem jN2 :TyOk Tryz.prog 103 jNG:=⟨⟨_,Tryz.underlying103,rfl⟩,⟨_,_,rfl,rfl,rfl,rfl,fun c=>⟨⟨⟨_,rfl,Rep.str _⟩,rfl⟩,⟨⟨_,rfl,Rep.int _ _⟩,rfl⟩,⟨⟨_,rfl,Rep.int _ _⟩,rfl⟩,⟨⟨_,rfl,Rep.int _ _⟩,rfl⟩,True.intro⟩⟩,nofun,fun _=>⟨_,Tryz.underlying103,by kernel_rfl⟩,nofun,nofun,nofun,fun r h=>by cases h;exact eqs_of _ rfl (by kernel_rfl) (by kernel_rfl) (by kernel_rfl) [(false,9,0),(false,3,1),(false,3,2),(false,3,3)] (by kernel_rfl) (fun x y=>⟨⟨rfl,rfl,Tryz.underlying9⟩,⟨⟨rfl,rfl,⟨rfl,_,Tryz.underlying3⟩⟩,⟨⟨rfl,rfl,⟨rfl,_,Tryz.underlying3⟩⟩,⟨⟨rfl,rfl,⟨rfl,_,Tryz.underlying3⟩⟩,True.intro⟩⟩⟩⟩),nofun,nofun,fun _=>⟨_,Tryz.underlying103,by kernel_rfl⟩,nofun⟩
def jKG :Ty:=tPt (.nilp)
theorem jMo :TyOk Tryz.prog 104 jKG:=oPt Tryz.underlying104
def jKs :Ty:=tPt (.nilp)
theorem jLm :TyOk Tryz.prog 106 jKs:=oPt Tryz.underlying106
def jNE :Ty:=tSt 2 [.nilp,.nils] [(0,1),(1,1)] [(106,0),(91,1)]
theorem jNW :TyOk Tryz.prog 107 jNE:=oSt Tryz.underlying107
def jNm :Ty:=tSt 2 [.nilp,.nils] [(0,1),(1,1)] [(106,0),(91,1)]
theorem jN3 :TyOk Tryz.prog 108 jNm:=oSt Tryz.underlying108
def jKM :Ty:=tIn .u64
theorem jLB :TyOk Tryz.prog 117 jKM:=oIn Tryz.underlying117
def jQ0 :Ty:=tSt 8 [.pv .bool false,.pv (.int .i64) 0,.pv (.int .i64) 0,.pv (.int .i64) 0,.pv (.int .i64) 0,.pv .bool false,.pv (.int .i64) 0,.pv (.int .i64) 0] [(0,1),(1,1),(2,1),(3,1),(4,1),(5,1),(6,1),(7,1)] [(4,0),(3,1),(3,2),(3,3),(3,4),(4,5),(3,6),(3,7)]
theorem jRC :TyOk Tryz.prog 121 jQ0:=oSt Tryz.underlying121
def jus :Ty:=⟨true,8,[.pv .bool false,.pv (.int .i64) 0,.pv (.int .i64) 0,.pv (.int .i64) 0,.pv (.int .i64) 0,.pv .bool false,.pv (.int .i64) 0,.pv (.int .i64) 0],none,[(0,1),(1,1),(2,1),(3,1),(4,1),(5,1),(6,1),(7,1)],false,false,none,some (.pair .bool (.pair (.int .i64) (.pair (.int .i64) (.pair (.int .i64) (.pair (.int .i64) (.pair .bool (.pair (.int .i64) (.int .i64)))))))),none,false,[(4,0),(3,1),(3,2),(3,3),(3,4),(4,5),(3,6),(3,7)],none⟩
theorem ju6 :TyOk Tryz.prog 122 jus:=⟨⟨_,Tryz.underlying122,rfl⟩,⟨_,_,rfl,rfl,rfl,rfl,fun c=>⟨⟨⟨_,rfl,Rep.bool _⟩,rfl⟩,⟨⟨_,rfl,Rep.int _ _⟩,rfl⟩,⟨⟨_,rfl,Rep.int _ _⟩,rfl⟩,⟨⟨_,rfl,Rep.int _ _⟩,rfl⟩,⟨⟨_,rfl,Rep.int _ _⟩,rfl⟩,⟨⟨_,rfl,Rep.bool _⟩,rfl⟩,⟨⟨_,rfl,Rep.int _ _⟩,rfl⟩,⟨⟨_,rfl,Rep.int _ _⟩,rfl⟩,True.intro⟩⟩,nofun,fun _=>⟨_,Tryz.underlying122,by kernel_rfl⟩,nofun,nofun,nofun,fun r h=>by cases h;exact eqs_of _ rfl (by kernel_rfl) (by kernel_rfl) (by kernel_rfl) [(false,4,0),(false,3,1),(false,3,2),(false,3,3),(false,3,4),(false,4,5),(false,3,6),(false,3,7)] (by kernel_rfl) (fun x y=>⟨⟨rfl,rfl,Tryz.underlying4⟩,⟨⟨rfl,rfl,⟨rfl,_,Tryz.underlying3⟩⟩,⟨⟨rfl,rfl,⟨rfl,_,Tryz.underlying3⟩⟩,⟨⟨rfl,rfl,⟨rfl,_,Tryz.underlying3⟩⟩,⟨⟨rfl,rfl,⟨rfl,_,Tryz.underlying3⟩⟩,⟨⟨rfl,rfl,Tryz.underlying4⟩,⟨⟨rfl,rfl,⟨rfl,_,Tryz.underlying3⟩⟩,⟨⟨rfl,rfl,⟨rfl,_,Tryz.underlying3⟩⟩,True.intro⟩⟩⟩⟩⟩⟩⟩⟩),nofun,nofun,fun _=>⟨_,Tryz.underlying122,by kernel_rfl⟩,nofun⟩
def jAv :Ty:=⟨false,1,[.dead],none,[],false,false,none,none,none,false,[],some (3,122,.int .i64,.pair .bool (.pair (.int .i64) (.pair (.int .i64) (.pair (.int .i64) (.pair (.int .i64) (.pair .bool (.pair (.int .i64) (.int .i64))))))),true)⟩
theorem jCH :TyOk Tryz.prog 124 jAv:=⟨⟨_,Tryz.underlying124,rfl⟩,⟨_,_,rfl,rfl,rfl,rfl,fun c=>⟨⟨True.intro,rfl⟩,True.intro⟩⟩,nofun,fun h=>absurd rfl h,nofun,nofun,nofun,nofun,nofun,nofun,fun h=>absurd rfl h,fun K V kt vt agg h=>by cases h;exact⟨Tryz.underlying124,Tryz.underlying3,rfl,(fun h=>by first|rfl|cases h),_,_,rfl,rfl,rfl⟩⟩
def jzj :Ty:=tIn .i64
theorem jDH :TyOk Tryz.prog 127 jzj:=oIn Tryz.underlying127
def jzO :Ty:=tIn .u32
theorem jBv :TyOk Tryz.prog 135 jzO:=oIn Tryz.underlying135
def jeD :Ty:=tIn .u64
theorem jlt :TyOk Tryz.prog 137 jeD:=oIn Tryz.underlying137
def jem :Ty:=tIn .u64
theorem joF :TyOk Tryz.prog 143 jem:=oIn Tryz.underlying143
def jUZ :Ty:=tPt (.nilp)
theorem jV1 :TyOk Tryz.prog 147 jUZ:=oPt Tryz.underlying147
def jKx :Ty:=tPt (.nilp)
theorem jMI :TyOk Tryz.prog 149 jKx:=oPt Tryz.underlying149
def jcH :List (Nat×Ty)->Nat->Option Ty
 | [],_=>none
 |(k,y)::l,t=>bif Nat.beq t k then some y else jcH l t
def jc4 (P:Program):List (Nat×Ty)->Prop
 | []=>True
 |(k,y)::l=>TyOk P k y/\jc4 P l
theorem jeo {P:Program}:∀ {l:List (Nat×Ty)},jc4 P l->∀t y,jcH l t=some y->TyOk P t y
 | [],_,t,y,h=>by cases h
 |(k,z)::l,hl,t,y,h=>by
  simp only[jcH]at h
  cases e:Nat.beq t k with
  |true=>rw[e]at h;cases h;rw[zby e];exact hl.1
  |false=>rw[e]at h;exact jeo hl.2 t y h
def tyL :List (Nat×Ty):=[(2,ty2),(3,ty3),(4,ty4),(5,ty5),(6,ty6),(7,ty7),(9,ty9),(22,ty22),(23,ty23),(24,ty24),(25,ty25),(26,ty26),(30,ty30),(32,ty32),(33,ty33),(34,ty34),(44,ty44),(45,ty45),(46,ty46),(47,ty47),(48,ty48),(53,ty53),(54,ty54),(55,ty55),(56,ty56),(57,ty57),(62,ty62),(72,ty72),(73,ty73),(76,ty76),(80,ty80),(83,ty83),(84,ty84),(91,ty91),(100,jHW),(102,jNk),(103,jNG),(104,jKG),(106,jKs),(107,jNE),(108,jNm),(117,jKM),(121,jQ0),(122,jus),(124,jAv),(127,jzj),(135,jzO),(137,jeD),(143,jem),(147,jUZ),(149,jKx)]
theorem jnJ :jc4 Tryz.prog tyL:=⟨jnr,jkV,jsX,joh,jDG,jCK,jlm,jkf,jlb,jo8,jtq,jmW,jlj,jB5,jM8,jLW,jrr,joX,jl4,jwu,jwS,jpI,joI,jlw,jnN,jL3,jDo,jGo,jMn,jFP,jHv,jWj,jOf,joR,jIL,jNH,jN2,jMo,jLm,jNW,jN3,jLB,jRC,ju6,jCH,jDH,jBv,jlt,joF,jV1,jMI,True.intro⟩
def ja1 :List (Nat×Model)->Nat->List Model
 | [],_=>[]
 |(k,m)::l,f=>bif Nat.beq f k then m::ja1 l f else ja1 l f
def jR (P:Program):List (Nat×Model)->Prop
 | []=>True
 |(k,m)::l=>ModelOk P k m/\jR P l
theorem jef {P:Program}:∀ {l:List (Nat×Model)},jR P l->∀f m,m∈ja1 l f->ModelOk P f m
 | [],_,f,m,h=>by cases h
 |(k,x)::l,hl,f,m,h=>by
  simp only[ja1]at h
  cases e:Nat.beq f k with
  |true=>
   rw[e]at h
   rcases zp.1 h with h|h
   .subst h;rw[zby e];exact hl.1
   .exact jef hl.2 f m h
  |false=>rw[e]at h;exact jef hl.2 f m h
theorem ja {P:Program}:jR P []:=True.intro
theorem jsH {P:Program} {k:Nat} {m:Model} {l:List (Nat×Model)} (h:ModelOk P k m) (hl:jR P l):jR P ((k,m)::l):=And.intro h hl
def memB :List Nat->Nat->Bool
 | [],_=>false
 |k::l,j=>bif Nat.beq j k then true else memB l j
noncomputable def jbC (l:List (Nat×Model)) (wr res:List Nat) (dw:List Nat:=[]):Env:=⟨Tryz.prog,jcH tyL,ja1 l,memB wr,memB res,memB dw⟩
theorem jtQ {l:List (Nat×Model)} (h:jR Tryz.prog l) (wr res:List Nat) (dw:List Nat:=[]):EnvOk (jbC l wr res dw):=⟨by kernel_rfl,jeo jnJ,jef h⟩
end Go.Proofs.YtbjikaianmpngaaGreatDoor
