/- The table of types, by program. -/
import Derived.Test.YtnkagklajgimlaaGreatDoorKX
import Derived.Test.YtnkagklajgimlaaGreatDoorProg
import Derived.KernelRfl
set_option linter.unusedSimpArgs false
set_option linter.unusedVariables false
namespace Go.Proofs.YtnkagklajgimlaaGreatDoor
open Go.RowKit
set_option maxRecDepth 100000
abbrev BF (P:Program) (k n:Nat) (z:List au):Prop:=∃i y,P.info? k=some i/\i.size=n/\i.zero=some y/\y.cells.size=n/\∀c,bx (ed c) z y.cells.toList
abbrev iV (z:au) (e:TypeId) (r:aJ) (b:Nat):bt:=⟨false,1,[z],some (e,r,b),[],false,false,none,none,none,false,[],none⟩
theorem jj {P:Program} {k e:TypeId} {r:aJ} {b:Nat} {z:au} (h:P.underlying k=some (.slice e)) (hi:BF P k 1 [z]:=by exact⟨_,_,rfl,rfl,rfl,rfl,fun c=>⟨⟨rfl,rfl⟩,True.intro⟩⟩)
  (he:0<r.w/\∃a z,P.info? e=some a/\a.size=r.w/\a.bytes=b/\a.zero=some z/\z.cells.size=r.w:=by exact⟨by decide,_,_,rfl,rfl,rfl,rfl,rfl⟩):bQ P k (iV z e r b):=
 ⟨⟨_,h,rfl⟩,hi,fun _ _ _ g=>by cases g;exact⟨h,he⟩,fun h=>absurd rfl h,nofun,nofun,nofun,nofun,nofun,nofun,fun h=>absurd rfl h,nofun⟩
abbrev eC (n:Nat) (z:List au) (o f:List (Nat×Nat)):bt:=⟨true,n,z,none,o,false,false,none,none,none,false,f,none⟩
theorem eL {P:Program} {k n:Nat} {z:List au} {o f:List (Nat×Nat)} {a:Array Field} (h:P.underlying k=some (.struct a))
  (hi:BF P k n z:=by exact⟨_,_,rfl,rfl,rfl,rfl,fun c=>by repeat' first|exact True.intro|exact⟨⟨_,rfl,bs.int _ _⟩,rfl⟩|exact⟨⟨_,rfl,bs.str _⟩,rfl⟩|exact⟨⟨_,rfl,bs.bool _⟩,rfl⟩|exact⟨rfl,rfl⟩|exact⟨True.intro,rfl⟩|refine⟨?_,?_⟩⟩)
  (b:a.toList.mapM (fun f=>(P.info? f.type).map fun i=>(f.offset,i.size))=some o:=by kernel_rfl) (d:a.toList.map (fun f=>(f.type,f.offset))=f:=by kernel_rfl):bQ P k (eC n z o f):=
 ⟨⟨_,h,rfl⟩,hi,nofun,fun _=>⟨_,h,b⟩,nofun,nofun,nofun,nofun,nofun,nofun,fun _=>⟨_,h,d⟩,nofun⟩
abbrev nT (i:IntKind):bt:=⟨false,1,[.af (.int i) (0:Int)],none,[],false,false,some i,none,none,false,[],none⟩
abbrev o8 (z:au):bt:=⟨false,1,[z],none,[],false,false,none,none,none,true,[],none⟩
theorem oS {P:Program} {k:Nat} {i:IntKind} (h:P.underlying k=some (.int i)) (hi:BF P k 1 [.af (.int i) (0:Int)]:=by exact⟨_,_,rfl,rfl,rfl,rfl,fun c=>⟨⟨⟨_,rfl,bs.int _ _⟩,rfl⟩,True.intro⟩⟩):bQ P k (nT i):=
 ⟨⟨_,h,rfl⟩,hi,nofun,fun h=>absurd rfl h,nofun,nofun,fun _ g=>by cases g;exact h,nofun,nofun,nofun,fun h=>absurd rfl h,nofun⟩
theorem pW {P:Program} {k u:Nat} {z:au} (h:P.underlying k=some (.pointer u)) (hi:BF P k 1 [z]:=by exact⟨_,_,rfl,rfl,rfl,rfl,fun c=>⟨⟨rfl,rfl⟩,True.intro⟩⟩):bQ P k (o8 z):=
 ⟨⟨_,h,rfl⟩,hi,nofun,fun h=>absurd rfl h,nofun,nofun,nofun,nofun,nofun,fun _=>⟨_,h⟩,fun h=>absurd rfl h,nofun⟩
def UW :bt:=nT .i64
theorem akb :bQ Tryz.prog 2 UW:=oS Tryz.underlying2
def U5 :bt:=nT .i64
theorem aiM :bQ Tryz.prog 3 U5:=oS Tryz.underlying3
def Vc :bt:=⟨false,1,[.af .bool false],none,[],false,true,none,none,none,false,[],none⟩
theorem alP :bQ Tryz.prog 4 Vc:=⟨⟨_,Tryz.underlying4,rfl⟩,⟨_,_,rfl,rfl,rfl,rfl,fun c=>⟨⟨⟨_,rfl,bs.bool _⟩,rfl⟩,True.intro⟩⟩,nofun,fun h=>absurd rfl h,nofun,fun _=>Tryz.underlying4,nofun,nofun,nofun,nofun,fun h=>absurd rfl h,nofun⟩
def Ve :bt:=nT .u8
theorem akv :bQ Tryz.prog 5 Ve:=oS Tryz.underlying5
def Vk :bt:=nT .u8
theorem aeD :bQ Tryz.prog 6 Vk:=oS Tryz.underlying6
def Vp :bt:=eC 4 [.af (.int .i64) 0,.af (.int .i64) 0,.af .bool false,.af (.int .u8) 0] [(0,1),(1,1),(2,1),(3,1)] [(2,0),(3,1),(4,2),(6,3)]
theorem ad3 :bQ Tryz.prog 7 Vp:=eL Tryz.underlying7
def Vv :bt:=⟨false,1,[.af .str []],none,[],true,false,none,none,none,false,[],none⟩
theorem ajl :bQ Tryz.prog 9 Vv:=⟨⟨_,Tryz.underlying9,rfl⟩,⟨_,_,rfl,rfl,rfl,rfl,fun c=>⟨⟨⟨_,rfl,bs.str _⟩,rfl⟩,True.intro⟩⟩,nofun,fun h=>absurd rfl h,fun _=>Tryz.underlying9,nofun,nofun,nofun,nofun,nofun,fun h=>absurd rfl h,nofun⟩
def US :bt:=nT .u64
theorem afh :bQ Tryz.prog 12 US:=oS Tryz.underlying12
def UT :bt:=eC 2 [.af .str [],.af (.int .u64) 0] [(0,1),(1,1)] [(9,0),(12,1)]
theorem afm :bQ Tryz.prog 13 UT:=eL Tryz.underlying13
def UU :bt:=o8 (.eQ)
theorem amq :bQ Tryz.prog 16 UU:=pW Tryz.underlying16
def UX :bt:=iV (.aT) 5 (.int .u8) 1
theorem aiR :bQ Tryz.prog 22 UX:=jj Tryz.underlying22
def UY :bt:=iV (.aT) 83 (.pair .str .str) 32
theorem ajf :bQ Tryz.prog 23 UY:=jj Tryz.underlying23
def UZ :bt:=eC 1 [.aT] [(0,1)] [(23,0)]
theorem akj :bQ Tryz.prog 24 UZ:=eL Tryz.underlying24
def U0 :bt:=eC 1 [.aT] [(0,1)] [(23,0)]
theorem amh :bQ Tryz.prog 25 U0:=eL Tryz.underlying25
def U1 :bt:=iV (.aT) 9 .str 16
theorem ajB :bQ Tryz.prog 26 U1:=jj Tryz.underlying26
def U2 :bt:=iV (.aT) 158 (.pair (.ar .str) .str) 40
theorem amd :bQ Tryz.prog 27 U2:=jj Tryz.underlying27
def U3 :bt:=eC 2 [.aT,.aT] [(0,1),(1,1)] [(26,0),(27,1)]
theorem jmp :bQ Tryz.prog 28 U3:=eL Tryz.underlying28
def U4 :bt:=eC 2 [.aT,.aT] [(0,1),(1,1)] [(26,0),(27,1)]
theorem alR :bQ Tryz.prog 29 U4:=eL Tryz.underlying29
def U6 :bt:=iV (.aT) 80 (.pair (.pair (.ar (.pair (.int .i64) (.pair (.ar (.pair .str .str)) (.ar (.pair .str (.int .i64)))))) (.ar (.pair .str (.pair .str (.ar (.pair (.int .i64) (.ar (.int .i64)))))))) (.ar (.int .i64))) 72
theorem ajj :bQ Tryz.prog 30 U6:=jj Tryz.underlying30
def U7 :bt:=eC 3 [.aT,.aT,.aT] [(0,2),(2,1)] [(29,0),(30,2)]
theorem aer :bQ Tryz.prog 31 U7:=eL Tryz.underlying31
def U8 :bt:=eC 3 [.aT,.aT,.aT] [(0,2),(2,1)] [(29,0),(30,2)]
theorem adn :bQ Tryz.prog 32 U8:=eL Tryz.underlying32
def U9 :bt:=iV (.aT) 37 .q 88
theorem afr :bQ Tryz.prog 35 U9:=jj Tryz.underlying35
def Va :bt:=eC 6 [.af (.int .i64) 0,.af .str [],.aT,.af (.int .i64) 0,.af (.int .i64) 0,.aT] [(0,1),(1,1),(2,1),(3,1),(4,1),(5,1)] [(3,0),(9,1),(26,2),(3,3),(3,4),(35,5)]
theorem ahy :bQ Tryz.prog 36 Va:=eL Tryz.underlying36
def Vb :bt:=eC 6 [.af (.int .i64) 0,.af .str [],.aT,.af (.int .i64) 0,.af (.int .i64) 0,.aT] [(0,1),(1,1),(2,1),(3,1),(4,1),(5,1)] [(3,0),(9,1),(26,2),(3,3),(3,4),(35,5)]
theorem ac6 :bQ Tryz.prog 37 Vb:=eL Tryz.underlying37
def Vd :bt:=iV (.aT) 98 (.pair (.int .i64) (.int .i64)) 16
theorem ai0 :bQ Tryz.prog 46 Vd:=jj Tryz.underlying46
def Vf :bt:=iV (.aT) 109 (.pair (.int .i64) (.pair (.ar (.pair .str .str)) (.ar (.pair .str (.int .i64))))) 56
theorem ajZ :bQ Tryz.prog 51 Vf:=jj Tryz.underlying51
def Vg :bt:=iV (.aT) 119 (.pair .str (.pair .str (.ar (.pair (.int .i64) (.ar (.int .i64)))))) 56
theorem aku :bQ Tryz.prog 52 Vg:=jj Tryz.underlying52
def Vh :bt:=eC 2 [.aT,.aT] [(0,1),(1,1)] [(51,0),(52,1)]
theorem akH :bQ Tryz.prog 53 Vh:=eL Tryz.underlying53
def Vi :bt:=eC 2 [.aT,.aT] [(0,1),(1,1)] [(51,0),(52,1)]
theorem akn :bQ Tryz.prog 54 Vi:=eL Tryz.underlying54
def Vj :bt:=iV (.aT) 46 (.ar (.pair (.int .i64) (.int .i64))) 24
theorem agF :bQ Tryz.prog 57 Vj:=jj Tryz.underlying57
def Vl :bt:=iV (.aT) 207 (.pair .str (.ar (.pair (.int .i64) (.int .i64)))) 40
theorem agS :bQ Tryz.prog 60 Vl:=jj Tryz.underlying60
def Vm :bt:=eC 3 [.af (.int .i64) 0,.af (.int .i64) 0,.aT] [(0,1),(1,1),(2,1)] [(3,0),(3,1),(60,2)]
theorem afn :bQ Tryz.prog 61 Vm:=eL Tryz.underlying61
def Vn :bt:=eC 3 [.af (.int .i64) 0,.af (.int .i64) 0,.aT] [(0,1),(1,1),(2,1)] [(3,0),(3,1),(60,2)]
theorem aeY :bQ Tryz.prog 62 Vn:=eL Tryz.underlying62
def Vo :bt:=o8 (.eQ)
theorem afe :bQ Tryz.prog 67 Vo:=pW Tryz.underlying67
def Vq :bt:=iV (.aT) 3 (.int .i64) 8
theorem afq :bQ Tryz.prog 72 Vq:=jj Tryz.underlying72
def Vr :bt:=eC 3 [.aT,.aT,.aT] [(0,2),(2,1)] [(54,0),(72,2)]
theorem ajs :bQ Tryz.prog 79 Vr:=eL Tryz.underlying79
def Vs :bt:=eC 3 [.aT,.aT,.aT] [(0,2),(2,1)] [(54,0),(72,2)]
theorem afA :bQ Tryz.prog 80 Vs:=eL Tryz.underlying80
def Vt :bt:=eC 2 [.af .str [],.af .str []] [(0,1),(1,1)] [(9,0),(9,1)]
theorem ahD :bQ Tryz.prog 82 Vt:=eL Tryz.underlying82
def Vu :bt:=⟨true,2,[.af .str [],.af .str []],none,[(0,1),(1,1)],false,false,none,some (.pair .str .str),none,false,[(9,0),(9,1)],none⟩
theorem ahC :bQ Tryz.prog 83 Vu:=⟨⟨_,Tryz.underlying83,rfl⟩,⟨_,_,rfl,rfl,rfl,rfl,fun c=>⟨⟨⟨_,rfl,bs.str _⟩,rfl⟩,⟨⟨_,rfl,bs.str _⟩,rfl⟩,True.intro⟩⟩,nofun,fun _=>⟨_,Tryz.underlying83,by kernel_rfl⟩,nofun,nofun,nofun,fun r h=>by cases h;exact qK _ rfl (by kernel_rfl) (by kernel_rfl) (by kernel_rfl) [(false,9,0),(false,9,1)] (by kernel_rfl) (fun x y=>⟨⟨rfl,rfl,Tryz.underlying9⟩,⟨⟨rfl,rfl,Tryz.underlying9⟩,True.intro⟩⟩),nofun,nofun,fun _=>⟨_,Tryz.underlying83,by kernel_rfl⟩,nofun⟩
def Vw :bt:=eC 2 [.af (.int .i64) 0,.af (.int .i64) 0] [(0,1),(1,1)] [(3,0),(3,1)]
theorem amo :bQ Tryz.prog 97 Vw:=eL Tryz.underlying97
def Vx :bt:=⟨true,2,[.af (.int .i64) 0,.af (.int .i64) 0],none,[(0,1),(1,1)],false,false,none,some (.pair (.int .i64) (.int .i64)),none,false,[(3,0),(3,1)],none⟩
theorem ako :bQ Tryz.prog 98 Vx:=⟨⟨_,Tryz.underlying98,rfl⟩,⟨_,_,rfl,rfl,rfl,rfl,fun c=>⟨⟨⟨_,rfl,bs.int _ _⟩,rfl⟩,⟨⟨_,rfl,bs.int _ _⟩,rfl⟩,True.intro⟩⟩,nofun,fun _=>⟨_,Tryz.underlying98,by kernel_rfl⟩,nofun,nofun,nofun,fun r h=>by cases h;exact qK _ rfl (by kernel_rfl) (by kernel_rfl) (by kernel_rfl) [(false,3,0),(false,3,1)] (by kernel_rfl) (fun x y=>⟨⟨rfl,rfl,⟨rfl,_,Tryz.underlying3⟩⟩,⟨⟨rfl,rfl,⟨rfl,_,Tryz.underlying3⟩⟩,True.intro⟩⟩),nofun,nofun,fun _=>⟨_,Tryz.underlying98,by kernel_rfl⟩,nofun⟩
def PJ :bt:=iV (.aT) 110 (.pair .str .str) 32
theorem agN :bQ Tryz.prog 106 PJ:=jj Tryz.underlying106
def PO :bt:=iV (.aT) 221 (.pair .str (.int .i64)) 24
theorem ag5 :bQ Tryz.prog 107 PO:=jj Tryz.underlying107
def PS :bt:=eC 3 [.af (.int .i64) 0,.aT,.aT] [(0,1),(1,1),(2,1)] [(3,0),(106,1),(107,2)]
theorem agW :bQ Tryz.prog 108 PS:=eL Tryz.underlying108
def OV :bt:=eC 3 [.af (.int .i64) 0,.aT,.aT] [(0,1),(1,1),(2,1)] [(3,0),(106,1),(107,2)]
theorem acF :bQ Tryz.prog 109 OV:=eL Tryz.underlying109
def Pv :bt:=⟨true,2,[.af .str [],.af .str []],none,[(0,1),(1,1)],false,false,none,some (.pair .str .str),none,false,[(9,0),(9,1)],none⟩
theorem afj :bQ Tryz.prog 110 Pv:=⟨⟨_,Tryz.underlying110,rfl⟩,⟨_,_,rfl,rfl,rfl,rfl,fun c=>⟨⟨⟨_,rfl,bs.str _⟩,rfl⟩,⟨⟨_,rfl,bs.str _⟩,rfl⟩,True.intro⟩⟩,nofun,fun _=>⟨_,Tryz.underlying110,by kernel_rfl⟩,nofun,nofun,nofun,fun r h=>by cases h;exact qK _ rfl (by kernel_rfl) (by kernel_rfl) (by kernel_rfl) [(false,9,0),(false,9,1)] (by kernel_rfl) (fun x y=>⟨⟨rfl,rfl,Tryz.underlying9⟩,⟨⟨rfl,rfl,Tryz.underlying9⟩,True.intro⟩⟩),nofun,nofun,fun _=>⟨_,Tryz.underlying110,by kernel_rfl⟩,nofun⟩
def Pu :bt:=iV (.aT) 114 (.pair .str (.int .i64)) 24
theorem afw :bQ Tryz.prog 111 Pu:=jj Tryz.underlying111
def Qi :bt:=eC 2 [.af .str [],.af (.int .i64) 0] [(0,1),(1,1)] [(9,0),(3,1)]
theorem ail :bQ Tryz.prog 113 Qi:=eL Tryz.underlying113
def PQ :bt:=⟨true,2,[.af .str [],.af (.int .i64) 0],none,[(0,1),(1,1)],false,false,none,some (.pair .str (.int .i64)),none,false,[(9,0),(3,1)],none⟩
theorem ahm :bQ Tryz.prog 114 PQ:=⟨⟨_,Tryz.underlying114,rfl⟩,⟨_,_,rfl,rfl,rfl,rfl,fun c=>⟨⟨⟨_,rfl,bs.str _⟩,rfl⟩,⟨⟨_,rfl,bs.int _ _⟩,rfl⟩,True.intro⟩⟩,nofun,fun _=>⟨_,Tryz.underlying114,by kernel_rfl⟩,nofun,nofun,nofun,fun r h=>by cases h;exact qK _ rfl (by kernel_rfl) (by kernel_rfl) (by kernel_rfl) [(false,9,0),(false,3,1)] (by kernel_rfl) (fun x y=>⟨⟨rfl,rfl,Tryz.underlying9⟩,⟨⟨rfl,rfl,⟨rfl,_,Tryz.underlying3⟩⟩,True.intro⟩⟩),nofun,nofun,fun _=>⟨_,Tryz.underlying114,by kernel_rfl⟩,nofun⟩
def PI :bt:=iV (.aT) 197 (.pair (.int .i64) (.ar (.int .i64))) 32
theorem agH :bQ Tryz.prog 117 PI:=jj Tryz.underlying117
def O9 :bt:=eC 3 [.af .str [],.af .str [],.aT] [(0,1),(1,1),(2,1)] [(9,0),(9,1),(117,2)]
theorem acO :bQ Tryz.prog 118 O9:=eL Tryz.underlying118
def RM :bt:=eC 3 [.af .str [],.af .str [],.aT] [(0,1),(1,1),(2,1)] [(9,0),(9,1),(117,2)]
theorem ads :bQ Tryz.prog 119 RM:=eL Tryz.underlying119
def Qe :bt:=eC 2 [.aT,.af (.int .i64) 0] [(0,1),(1,1)] [(22,0),(3,1)]
theorem ahX :bQ Tryz.prog 132 Qe:=eL Tryz.underlying132
def OX :bt:=eC 2 [.aT,.af (.int .i64) 0] [(0,1),(1,1)] [(22,0),(3,1)]
theorem acN :bQ Tryz.prog 133 OX:=eL Tryz.underlying133
def Qq :bt:=nT .u32
theorem ajv :bQ Tryz.prog 141 Qq:=oS Tryz.underlying141
def QR :bt:=nT .u64
theorem akP :bQ Tryz.prog 142 QR:=oS Tryz.underlying142
def Qr :bt:=o8 (.eQ)
theorem akl :bQ Tryz.prog 143 Qr:=pW Tryz.underlying143
def P4 :bt:=eC 2 [.aT,.af .str []] [(0,1),(1,1)] [(26,0),(9,1)]
theorem ahA :bQ Tryz.prog 157 P4:=eL Tryz.underlying157
def O1 :bt:=eC 2 [.aT,.af .str []] [(0,1),(1,1)] [(26,0),(9,1)]
theorem acW :bQ Tryz.prog 158 O1:=eL Tryz.underlying158
def PU :bt:=eC 8 [.af .bool false,.af (.int .i64) 0,.af (.int .i64) 0,.af (.int .i64) 0,.af (.int .i64) 0,.af .bool false,.af (.int .i64) 0,.af (.int .i64) 0] [(0,1),(1,1),(2,1),(3,1),(4,1),(5,1),(6,1),(7,1)] [(4,0),(3,1),(3,2),(3,3),(3,4),(4,5),(3,6),(3,7)]
theorem ag4 :bQ Tryz.prog 182 PU:=eL Tryz.underlying182
def Rx :bt:=⟨true,8,[.af .bool false,.af (.int .i64) 0,.af (.int .i64) 0,.af (.int .i64) 0,.af (.int .i64) 0,.af .bool false,.af (.int .i64) 0,.af (.int .i64) 0],none,[(0,1),(1,1),(2,1),(3,1),(4,1),(5,1),(6,1),(7,1)],false,false,none,some (.pair .bool (.pair (.int .i64) (.pair (.int .i64) (.pair (.int .i64) (.pair (.int .i64) (.pair .bool (.pair (.int .i64) (.int .i64)))))))),none,false,[(4,0),(3,1),(3,2),(3,3),(3,4),(4,5),(3,6),(3,7)],none⟩
theorem ae0 :bQ Tryz.prog 183 Rx:=⟨⟨_,Tryz.underlying183,rfl⟩,⟨_,_,rfl,rfl,rfl,rfl,fun c=>⟨⟨⟨_,rfl,bs.bool _⟩,rfl⟩,⟨⟨_,rfl,bs.int _ _⟩,rfl⟩,⟨⟨_,rfl,bs.int _ _⟩,rfl⟩,⟨⟨_,rfl,bs.int _ _⟩,rfl⟩,⟨⟨_,rfl,bs.int _ _⟩,rfl⟩,⟨⟨_,rfl,bs.bool _⟩,rfl⟩,⟨⟨_,rfl,bs.int _ _⟩,rfl⟩,⟨⟨_,rfl,bs.int _ _⟩,rfl⟩,True.intro⟩⟩,nofun,fun _=>⟨_,Tryz.underlying183,by kernel_rfl⟩,nofun,nofun,nofun,fun r h=>by cases h;exact qK _ rfl (by kernel_rfl) (by kernel_rfl) (by kernel_rfl) [(false,4,0),(false,3,1),(false,3,2),(false,3,3),(false,3,4),(false,4,5),(false,3,6),(false,3,7)] (by kernel_rfl) (fun x y=>⟨⟨rfl,rfl,Tryz.underlying4⟩,⟨⟨rfl,rfl,⟨rfl,_,Tryz.underlying3⟩⟩,⟨⟨rfl,rfl,⟨rfl,_,Tryz.underlying3⟩⟩,⟨⟨rfl,rfl,⟨rfl,_,Tryz.underlying3⟩⟩,⟨⟨rfl,rfl,⟨rfl,_,Tryz.underlying3⟩⟩,⟨⟨rfl,rfl,Tryz.underlying4⟩,⟨⟨rfl,rfl,⟨rfl,_,Tryz.underlying3⟩⟩,⟨⟨rfl,rfl,⟨rfl,_,Tryz.underlying3⟩⟩,True.intro⟩⟩⟩⟩⟩⟩⟩⟩),nofun,nofun,fun _=>⟨_,Tryz.underlying183,by kernel_rfl⟩,nofun⟩
def Rn :bt:=⟨false,1,[.dead],none,[],false,false,none,none,none,false,[],some (3,183,.int .i64,.pair .bool (.pair (.int .i64) (.pair (.int .i64) (.pair (.int .i64) (.pair (.int .i64) (.pair .bool (.pair (.int .i64) (.int .i64))))))),true)⟩
theorem ael :bQ Tryz.prog 185 Rn:=⟨⟨_,Tryz.underlying185,rfl⟩,⟨_,_,rfl,rfl,rfl,rfl,fun c=>⟨⟨True.intro,rfl⟩,True.intro⟩⟩,nofun,fun h=>absurd rfl h,nofun,nofun,nofun,nofun,nofun,nofun,fun h=>absurd rfl h,fun K V a b agg h=>by cases h;exact⟨Tryz.underlying185,Tryz.underlying3,rfl,(fun h=>by first|rfl|cases h),_,_,rfl,rfl,rfl⟩⟩
def RD :bt:=iV (.aT) 189 (.pair .str (.pair (.int .i64) (.pair (.int .i64) (.int .i64)))) 40
theorem afc :bQ Tryz.prog 186 RD:=jj Tryz.underlying186
def PW :bt:=eC 4 [.af .str [],.af (.int .i64) 0,.af (.int .i64) 0,.af (.int .i64) 0] [(0,1),(1,1),(2,1),(3,1)] [(9,0),(3,1),(3,2),(3,3)]
theorem ahp :bQ Tryz.prog 188 PW:=eL Tryz.underlying188
def PV :bt:=⟨true,4,[.af .str [],.af (.int .i64) 0,.af (.int .i64) 0,.af (.int .i64) 0],none,[(0,1),(1,1),(2,1),(3,1)],false,false,none,some (.pair .str (.pair (.int .i64) (.pair (.int .i64) (.int .i64)))),none,false,[(9,0),(3,1),(3,2),(3,3)],none⟩
theorem agU :bQ Tryz.prog 189 PV:=⟨⟨_,Tryz.underlying189,rfl⟩,⟨_,_,rfl,rfl,rfl,rfl,fun c=>⟨⟨⟨_,rfl,bs.str _⟩,rfl⟩,⟨⟨_,rfl,bs.int _ _⟩,rfl⟩,⟨⟨_,rfl,bs.int _ _⟩,rfl⟩,⟨⟨_,rfl,bs.int _ _⟩,rfl⟩,True.intro⟩⟩,nofun,fun _=>⟨_,Tryz.underlying189,by kernel_rfl⟩,nofun,nofun,nofun,fun r h=>by cases h;exact qK _ rfl (by kernel_rfl) (by kernel_rfl) (by kernel_rfl) [(false,9,0),(false,3,1),(false,3,2),(false,3,3)] (by kernel_rfl) (fun x y=>⟨⟨rfl,rfl,Tryz.underlying9⟩,⟨⟨rfl,rfl,⟨rfl,_,Tryz.underlying3⟩⟩,⟨⟨rfl,rfl,⟨rfl,_,Tryz.underlying3⟩⟩,⟨⟨rfl,rfl,⟨rfl,_,Tryz.underlying3⟩⟩,True.intro⟩⟩⟩⟩),nofun,nofun,fun _=>⟨_,Tryz.underlying189,by kernel_rfl⟩,nofun⟩
def OZ :bt:=o8 (.eQ)
theorem acQ :bQ Tryz.prog 190 OZ:=pW Tryz.underlying190
def Q2 :bt:=o8 (.eQ)
theorem alD :bQ Tryz.prog 192 Q2:=pW Tryz.underlying192
def PR :bt:=eC 2 [.af (.int .i64) 0,.aT] [(0,1),(1,1)] [(3,0),(72,1)]
theorem agY :bQ Tryz.prog 196 PR:=eL Tryz.underlying196
def Pw :bt:=eC 2 [.af (.int .i64) 0,.aT] [(0,1),(1,1)] [(3,0),(72,1)]
theorem afx :bQ Tryz.prog 197 Pw:=eL Tryz.underlying197
def Qf :bt:=o8 (.eQ)
theorem aik :bQ Tryz.prog 200 Qf:=pW Tryz.underlying200
def Ow :bt:=eC 4 [.aT,.aT,.aT,.aT] [(0,2),(2,2)] [(29,0),(54,2)]
theorem acu :bQ Tryz.prog 201 Ow:=eL Tryz.underlying201
def OW :bt:=eC 4 [.aT,.aT,.aT,.aT] [(0,2),(2,2)] [(29,0),(54,2)]
theorem acU :bQ Tryz.prog 202 OW:=eL Tryz.underlying202
def RR :bt:=eC 2 [.af .str [],.aT] [(0,1),(1,1)] [(9,0),(46,1)]
theorem adY :bQ Tryz.prog 206 RR:=eL Tryz.underlying206
def PT :bt:=eC 2 [.af .str [],.aT] [(0,1),(1,1)] [(9,0),(46,1)]
theorem agV :bQ Tryz.prog 207 PT:=eL Tryz.underlying207
def Rl :bt:=eC 2 [.af .str [],.af (.int .i64) 0] [(0,1),(1,1)] [(9,0),(3,1)]
theorem aed :bQ Tryz.prog 220 Rl:=eL Tryz.underlying220
def Ps :bt:=⟨true,2,[.af .str [],.af (.int .i64) 0],none,[(0,1),(1,1)],false,false,none,some (.pair .str (.int .i64)),none,false,[(9,0),(3,1)],none⟩
theorem afp :bQ Tryz.prog 221 Ps:=⟨⟨_,Tryz.underlying221,rfl⟩,⟨_,_,rfl,rfl,rfl,rfl,fun c=>⟨⟨⟨_,rfl,bs.str _⟩,rfl⟩,⟨⟨_,rfl,bs.int _ _⟩,rfl⟩,True.intro⟩⟩,nofun,fun _=>⟨_,Tryz.underlying221,by kernel_rfl⟩,nofun,nofun,nofun,fun r h=>by cases h;exact qK _ rfl (by kernel_rfl) (by kernel_rfl) (by kernel_rfl) [(false,9,0),(false,3,1)] (by kernel_rfl) (fun x y=>⟨⟨rfl,rfl,Tryz.underlying9⟩,⟨⟨rfl,rfl,⟨rfl,_,Tryz.underlying3⟩⟩,True.intro⟩⟩),nofun,nofun,fun _=>⟨_,Tryz.underlying221,by kernel_rfl⟩,nofun⟩
def Rq :bt:=nT .i64
theorem aei :bQ Tryz.prog 246 Rq:=oS Tryz.underlying246
def RH :bt:=nT .u64
theorem aem :bQ Tryz.prog 255 RH:=oS Tryz.underlying255
def PA :bt:=⟨false,1,[.dead],none,[],false,false,none,none,some (3,9,.int .i64,.str),false,[],some (3,9,.int .i64,.str,false)⟩
theorem afM :bQ Tryz.prog 261 PA:=⟨⟨_,Tryz.underlying261,rfl⟩,⟨_,_,rfl,rfl,rfl,rfl,fun c=>⟨⟨True.intro,rfl⟩,True.intro⟩⟩,nofun,fun h=>absurd rfl h,nofun,nofun,nofun,nofun,fun K V a b h=>by cases h;exact⟨Tryz.underlying261,Tryz.underlying3,_,_,rfl,rfl,rfl⟩,nofun,fun h=>absurd rfl h,fun K V a b agg h=>by cases h;exact⟨Tryz.underlying261,Tryz.underlying3,rfl,(fun h=>by first|rfl|cases h),_,_,rfl,rfl,rfl⟩⟩
def Pa :bt:=eC 2 [.af (.int .i64) 0,.af (.int .i64) 0] [(0,1),(1,1)] [(3,0),(3,1)]
theorem acY :bQ Tryz.prog 291 Pa:=eL Tryz.underlying291
def O8 :bt:=⟨true,2,[.af (.int .i64) 0,.af (.int .i64) 0],none,[(0,1),(1,1)],false,false,none,some (.pair (.int .i64) (.int .i64)),none,false,[(3,0),(3,1)],none⟩
theorem acR :bQ Tryz.prog 292 O8:=⟨⟨_,Tryz.underlying292,rfl⟩,⟨_,_,rfl,rfl,rfl,rfl,fun c=>⟨⟨⟨_,rfl,bs.int _ _⟩,rfl⟩,⟨⟨_,rfl,bs.int _ _⟩,rfl⟩,True.intro⟩⟩,nofun,fun _=>⟨_,Tryz.underlying292,by kernel_rfl⟩,nofun,nofun,nofun,fun r h=>by cases h;exact qK _ rfl (by kernel_rfl) (by kernel_rfl) (by kernel_rfl) [(false,3,0),(false,3,1)] (by kernel_rfl) (fun x y=>⟨⟨rfl,rfl,⟨rfl,_,Tryz.underlying3⟩⟩,⟨⟨rfl,rfl,⟨rfl,_,Tryz.underlying3⟩⟩,True.intro⟩⟩),nofun,nofun,fun _=>⟨_,Tryz.underlying292,by kernel_rfl⟩,nofun⟩
def O6 :bt:=iV (.aT) 72 (.ar (.int .i64)) 24
theorem acT :bQ Tryz.prog 297 O6:=jj Tryz.underlying297
def Pt :bt:=nT .u64
theorem aff :bQ Tryz.prog 303 Pt:=oS Tryz.underlying303
def P3 :bt:=o8 (.eQ)
theorem ahB :bQ Tryz.prog 307 P3:=pW Tryz.underlying307
def O3 :bt:=o8 (.eQ)
theorem ac1 :bQ Tryz.prog 319 O3:=pW Tryz.underlying319
def OY :bt:=eC 2 [.eQ,.aT] [(0,1),(1,1)] [(319,0),(22,1)]
theorem acP :bQ Tryz.prog 320 OY:=eL Tryz.underlying320
def O0 :bt:=eC 2 [.eQ,.aT] [(0,1),(1,1)] [(319,0),(22,1)]
theorem acM :bQ Tryz.prog 321 O0:=eL Tryz.underlying321
def OO :bt:=o8 (.eQ)
theorem acG :bQ Tryz.prog 342 OO:=pW Tryz.underlying342
def O7 :bt:=⟨true,0,[],none,[],false,false,none,none,none,false,[],none⟩
theorem acK :bQ Tryz.prog 372 O7:=⟨⟨_,Tryz.underlying372,rfl⟩,⟨_,_,rfl,rfl,rfl,rfl,fun c=>True.intro⟩,nofun,fun h=>absurd rfl h,nofun,nofun,nofun,nofun,nofun,nofun,fun h=>absurd rfl h,nofun⟩
def P2 :bt:=⟨true,0,[],none,[],false,false,none,none,none,false,[],none⟩
theorem ahx :bQ Tryz.prog 373 P2:=⟨⟨_,Tryz.underlying373,rfl⟩,⟨_,_,rfl,rfl,rfl,rfl,fun c=>True.intro⟩,nofun,fun h=>absurd rfl h,nofun,nofun,nofun,nofun,nofun,nofun,fun h=>absurd rfl h,nofun⟩
def B8 :List (Nat×bt)->Nat->Option bt
 | [],_=>none
 |(k,y)::l,t=>bif Nat.beq t k then some y else B8 l t
def H7 (P:Program):List (Nat×bt)->Prop
 | []=>True
 |(k,y)::l=>bQ P k y/\H7 P l
theorem Qs {P:Program}:∀ {l:List (Nat×bt)},H7 P l->∀t y,B8 l t=some y->bQ P t y
 | [],_,t,y,h=>by cases h
 |(k,z)::l,a,t,y,h=>by
  simp only[B8]at h
  cases e:Nat.beq t k with
  |true=>rw[e]at h;cases h;rw[zu e];exact a.1
  |false=>rw[e]at h;exact Qs a.2 t y h
def Vy :List (Nat×bt):=[(2,UW),(3,U5),(4,Vc),(5,Ve),(6,Vk),(7,Vp),(9,Vv),(12,US),(13,UT),(16,UU),(22,UX),(23,UY),(24,UZ),(25,U0),(26,U1),(27,U2),(28,U3),(29,U4),(30,U6),(31,U7),(32,U8),(35,U9),(36,Va),(37,Vb),(46,Vd),(51,Vf),(52,Vg),(53,Vh),(54,Vi),(57,Vj),(60,Vl),(61,Vm),(62,Vn),(67,Vo),(72,Vq),(79,Vr),(80,Vs),(82,Vt),(83,Vu),(97,Vw),(98,Vx),(106,PJ),(107,PO),(108,PS),(109,OV),(110,Pv),(111,Pu),(113,Qi),(114,PQ),(117,PI),(118,O9),(119,RM),(132,Qe),(133,OX),(141,Qq),(142,QR),(143,Qr),(157,P4),(158,O1),(182,PU),(183,Rx),(185,Rn),(186,RD),(188,PW),(189,PV),(190,OZ),(192,Q2),(196,PR),(197,Pw),(200,Qf),(201,Ow),(202,OW),(206,RR),(207,PT),(220,Rl),(221,Ps),(246,Rq),(255,RH),(261,PA),(291,Pa),(292,O8),(297,O6),(303,Pt),(307,P3),(319,O3),(320,OY),(321,O0),(342,OO),(372,O7),(373,P2)]
theorem ajT :H7 Tryz.prog Vy:=⟨akb,aiM,alP,akv,aeD,ad3,ajl,afh,afm,amq,aiR,ajf,akj,amh,ajB,amd,jmp,alR,ajj,aer,adn,afr,ahy,ac6,ai0,ajZ,aku,akH,akn,agF,agS,afn,aeY,afe,afq,ajs,afA,ahD,ahC,amo,ako,agN,ag5,agW,acF,afj,afw,ail,ahm,agH,acO,ads,ahX,acN,ajv,akP,akl,ahA,acW,ag4,ae0,ael,afc,ahp,agU,acQ,alD,agY,afx,aik,acu,acU,adY,agV,aed,afp,aei,aem,afM,acY,acR,acT,aff,ahB,ac1,acP,acM,acG,acK,ahx,True.intro⟩
def x3 :List (Nat×Model)->Nat->List Model
 | [],_=>[]
 |(k,m)::l,f=>bif Nat.beq f k then m::x3 l f else x3 l f
def pM (P:Program):List (Nat×Model)->Prop
 | []=>True
 |(k,m)::l=>ig P k m/\pM P l
theorem It {P:Program}:∀ {l:List (Nat×Model)},pM P l->∀f m,m∈x3 l f->ig P f m
 | [],_,f,m,h=>by cases h
 |(k,x)::l,a,f,m,h=>by
  simp only[x3]at h
  cases e:Nat.beq f k with
  |true=>
   rw[e]at h
   rcases bn.1 h with h|h
   .subst h;rw[zu e];exact a.1
   .exact It a.2 f m h
  |false=>rw[e]at h;exact It a.2 f m h
theorem aA {P:Program}:pM P []:=True.intro
theorem alL {P:Program} {k:Nat} {m:Model} {l:List (Nat×Model)} (h:ig P k m) (a:pM P l):pM P ((k,m)::l):=And.intro h a
def Dn :List Nat->Nat->Bool
 | [],_=>false
 |k::l,j=>bif Nat.beq j k then true else Dn l j
noncomputable def BZ (l:List (Nat×Model)) (wr res:List Nat) (dw:List Nat:=[]):Env:=⟨Tryz.prog,B8 Vy,x3 l,Dn wr,Dn res,Dn dw⟩
theorem al7 {l:List (Nat×Model)} (h:pM Tryz.prog l) (wr res:List Nat) (dw:List Nat:=[]):eG (BZ l wr res dw):=⟨by kernel_rfl,Qs ajT,It h⟩
end Go.Proofs.YtnkagklajgimlaaGreatDoor
