/- The table of types, by program. -/
import Derived.Test.YtnkagklajgimlaaGreatDoorKX
import Derived.Test.YtnkagklajgimlaaGreatDoorProg
import Derived.KernelRfl
set_option linter.unusedSimpArgs false
set_option linter.unusedVariables false
namespace Go.Proofs.YtnkagklajgimlaaGreatDoor
open Go.RowKit
set_option maxRecDepth 100000
abbrev At (P:Program) (k n:Nat) (z:List ar):Prop:=∃i y,P.info? k=some i/\i.size=n/\i.zero=some y/\y.cells.size=n/\∀c,bs (ee c) z y.cells.toList
abbrev jr (z:ar) (e:TypeId) (r:aH) (b:Nat):bw:=⟨false,1,[z],some (e,r,b),[],false,false,none,none,none,false,[],none⟩
theorem jQ {P:Program} {k e:TypeId} {r:aH} {b:Nat} {z:ar} (h:P.underlying k=some (.slice e)) (hi:At P k 1 [z]:=by exact⟨_,_,rfl,rfl,rfl,rfl,fun c=>⟨⟨rfl,rfl⟩,True.intro⟩⟩)
  (he:0<r.w/\∃a z,P.info? e=some a/\a.size=r.w/\a.bytes=b/\a.zero=some z/\z.cells.size=r.w:=by exact⟨by decide,_,_,rfl,rfl,rfl,rfl,rfl⟩):bU P k (jr z e r b):=
 ⟨⟨_,h,rfl⟩,hi,fun _ _ _ g=>by cases g;exact⟨h,he⟩,fun h=>absurd rfl h,nofun,nofun,nofun,nofun,nofun,nofun,fun h=>absurd rfl h,nofun⟩
abbrev eQ (n:Nat) (z:List ar) (o f:List (Nat×Nat)):bw:=⟨true,n,z,none,o,false,false,none,none,none,false,f,none⟩
theorem eX {P:Program} {k n:Nat} {z:List ar} {o f:List (Nat×Nat)} {a:Array Field} (h:P.underlying k=some (.struct a))
  (hi:At P k n z:=by exact⟨_,_,rfl,rfl,rfl,rfl,fun c=>by repeat' first|exact True.intro|exact⟨⟨_,rfl,bq.int _ _⟩,rfl⟩|exact⟨⟨_,rfl,bq.str _⟩,rfl⟩|exact⟨⟨_,rfl,bq.bool _⟩,rfl⟩|exact⟨rfl,rfl⟩|exact⟨True.intro,rfl⟩|refine⟨?_,?_⟩⟩)
  (b:a.toList.mapM (fun f=>(P.info? f.type).map fun i=>(f.offset,i.size))=some o:=by kernel_rfl) (d:a.toList.map (fun f=>(f.type,f.offset))=f:=by kernel_rfl):bU P k (eQ n z o f):=
 ⟨⟨_,h,rfl⟩,hi,nofun,fun _=>⟨_,h,b⟩,nofun,nofun,nofun,nofun,nofun,nofun,fun _=>⟨_,h,d⟩,nofun⟩
abbrev nf (i:IntKind):bw:=⟨false,1,[.ag (.int i) (0:Int)],none,[],false,false,some i,none,none,false,[],none⟩
abbrev oj (z:ar):bw:=⟨false,1,[z],none,[],false,false,none,none,none,true,[],none⟩
theorem n3 {P:Program} {k:Nat} {i:IntKind} (h:P.underlying k=some (.int i)) (hi:At P k 1 [.ag (.int i) (0:Int)]:=by exact⟨_,_,rfl,rfl,rfl,rfl,fun c=>⟨⟨⟨_,rfl,bq.int _ _⟩,rfl⟩,True.intro⟩⟩):bU P k (nf i):=
 ⟨⟨_,h,rfl⟩,hi,nofun,fun h=>absurd rfl h,nofun,nofun,fun _ g=>by cases g;exact h,nofun,nofun,nofun,fun h=>absurd rfl h,nofun⟩
theorem pb {P:Program} {k u:Nat} {z:ar} (h:P.underlying k=some (.pointer u)) (hi:At P k 1 [z]:=by exact⟨_,_,rfl,rfl,rfl,rfl,fun c=>⟨⟨rfl,rfl⟩,True.intro⟩⟩):bU P k (oj z):=
 ⟨⟨_,h,rfl⟩,hi,nofun,fun h=>absurd rfl h,nofun,nofun,nofun,nofun,nofun,fun _=>⟨_,h⟩,fun h=>absurd rfl h,nofun⟩
def SA :bw:=nf .i64
theorem agI :bU Tryz.prog 2 SA:=n3 Tryz.underlying2
def SJ :bw:=nf .i64
theorem afo :bU Tryz.prog 3 SJ:=n3 Tryz.underlying3
def SQ :bw:=⟨false,1,[.ag .bool false],none,[],false,true,none,none,none,false,[],none⟩
theorem aij :bU Tryz.prog 4 SQ:=⟨⟨_,Tryz.underlying4,rfl⟩,⟨_,_,rfl,rfl,rfl,rfl,fun c=>⟨⟨⟨_,rfl,bq.bool _⟩,rfl⟩,True.intro⟩⟩,nofun,fun h=>absurd rfl h,nofun,fun _=>Tryz.underlying4,nofun,nofun,nofun,nofun,fun h=>absurd rfl h,nofun⟩
def SS :bw:=nf .u8
theorem ag3 :bU Tryz.prog 5 SS:=n3 Tryz.underlying5
def SY :bw:=nf .u8
theorem abH :bU Tryz.prog 6 SY:=n3 Tryz.underlying6
def S0 :bw:=eQ 4 [.ag (.int .i64) 0,.ag (.int .i64) 0,.ag .bool false,.ag (.int .u8) 0] [(0,1),(1,1),(2,1),(3,1)] [(2,0),(3,1),(4,2),(6,3)]
theorem abg :bU Tryz.prog 7 S0:=eX Tryz.underlying7
def S3 :bw:=eQ 4 [.ag (.int .i64) 0,.ag (.int .i64) 0,.ag .bool false,.ag (.int .u8) 0] [(0,1),(1,1),(2,1),(3,1)] [(2,0),(3,1),(4,2),(6,3)]
theorem aex :bU Tryz.prog 8 S3:=eX Tryz.underlying8
def S7 :bw:=⟨false,1,[.ag .str []],none,[],true,false,none,none,none,false,[],none⟩
theorem afV :bU Tryz.prog 9 S7:=⟨⟨_,Tryz.underlying9,rfl⟩,⟨_,_,rfl,rfl,rfl,rfl,fun c=>⟨⟨⟨_,rfl,bq.str _⟩,rfl⟩,True.intro⟩⟩,nofun,fun h=>absurd rfl h,fun _=>Tryz.underlying9,nofun,nofun,nofun,nofun,nofun,fun h=>absurd rfl h,nofun⟩
def Sx :bw:=nf .u64
theorem ab6 :bU Tryz.prog 12 Sx:=n3 Tryz.underlying12
def Sy :bw:=eQ 2 [.ag .str [],.ag (.int .u64) 0] [(0,1),(1,1)] [(9,0),(12,1)]
theorem acb :bU Tryz.prog 13 Sy:=eX Tryz.underlying13
def Sz :bw:=oj (.eK)
theorem aiQ :bU Tryz.prog 16 Sz:=pb Tryz.underlying16
def SB :bw:=jr (.aQ) 5 (.int .u8) 1
theorem afs :bU Tryz.prog 22 SB:=jQ Tryz.underlying22
def SC :bw:=jr (.aQ) 83 (.pair .str .str) 32
theorem afQ :bU Tryz.prog 23 SC:=jQ Tryz.underlying23
def SD :bw:=eQ 1 [.aQ] [(0,1)] [(23,0)]
theorem agQ :bU Tryz.prog 24 SD:=eX Tryz.underlying24
def SE :bw:=eQ 1 [.aQ] [(0,1)] [(23,0)]
theorem aiH :bU Tryz.prog 25 SE:=eX Tryz.underlying25
def SF :bw:=jr (.aQ) 9 .str 16
theorem aga :bU Tryz.prog 26 SF:=jQ Tryz.underlying26
def SG :bw:=jr (.aQ) 158 (.pair (.av .str) .str) 40
theorem aiE :bU Tryz.prog 27 SG:=jQ Tryz.underlying27
def SH :bw:=eQ 2 [.aQ,.aQ] [(0,1),(1,1)] [(26,0),(27,1)]
theorem jmp :bU Tryz.prog 28 SH:=eX Tryz.underlying28
def SI :bw:=eQ 2 [.aQ,.aQ] [(0,1),(1,1)] [(26,0),(27,1)]
theorem ail :bU Tryz.prog 29 SI:=eX Tryz.underlying29
def SK :bw:=jr (.aQ) 80 (.pair (.pair (.av (.pair (.int .i64) (.pair (.av (.pair .str .str)) (.av (.pair .str (.int .i64)))))) (.av (.pair .str (.pair .str (.av (.pair (.int .i64) (.av (.int .i64)))))))) (.av (.int .i64))) 72
theorem afT :bU Tryz.prog 30 SK:=jQ Tryz.underlying30
def SL :bw:=eQ 3 [.aQ,.aQ,.aQ] [(0,2),(2,1)] [(29,0),(30,2)]
theorem abx :bU Tryz.prog 31 SL:=eX Tryz.underlying31
def SM :bw:=eQ 3 [.aQ,.aQ,.aQ] [(0,2),(2,1)] [(29,0),(30,2)]
theorem aaP :bU Tryz.prog 32 SM:=eX Tryz.underlying32
def SN :bw:=jr (.aQ) 37 .q 88
theorem acg :bU Tryz.prog 35 SN:=jQ Tryz.underlying35
def SO :bw:=eQ 6 [.ag (.int .i64) 0,.ag .str [],.aQ,.ag (.int .i64) 0,.ag (.int .i64) 0,.aQ] [(0,1),(1,1),(2,1),(3,1),(4,1),(5,1)] [(3,0),(9,1),(26,2),(3,3),(3,4),(35,5)]
theorem ad0 :bU Tryz.prog 36 SO:=eX Tryz.underlying36
def SP :bw:=eQ 6 [.ag (.int .i64) 0,.ag .str [],.aQ,.ag (.int .i64) 0,.ag (.int .i64) 0,.aQ] [(0,1),(1,1),(2,1),(3,1),(4,1),(5,1)] [(3,0),(9,1),(26,2),(3,3),(3,4),(35,5)]
theorem aaF :bU Tryz.prog 37 SP:=eX Tryz.underlying37
def SR :bw:=jr (.aQ) 98 (.pair (.int .i64) (.int .i64)) 16
theorem afB :bU Tryz.prog 46 SR:=jQ Tryz.underlying46
def SU :bw:=jr (.aQ) 109 (.pair (.int .i64) (.pair (.av (.pair .str .str)) (.av (.pair .str (.int .i64))))) 56
theorem agx :bU Tryz.prog 51 SU:=jQ Tryz.underlying51
def SV :bw:=jr (.aQ) 119 (.pair .str (.pair .str (.av (.pair (.int .i64) (.av (.int .i64)))))) 56
theorem ag2 :bU Tryz.prog 52 SV:=jQ Tryz.underlying52
def SW :bw:=eQ 2 [.aQ,.aQ] [(0,1),(1,1)] [(51,0),(52,1)]
theorem ahf :bU Tryz.prog 53 SW:=eX Tryz.underlying53
def SX :bw:=eQ 2 [.aQ,.aQ] [(0,1),(1,1)] [(51,0),(52,1)]
theorem agV :bU Tryz.prog 54 SX:=eX Tryz.underlying54
def SZ :bw:=oj (.eK)
theorem ab3 :bU Tryz.prog 67 SZ:=pb Tryz.underlying67
def S1 :bw:=jr (.aQ) 3 (.int .i64) 8
theorem acf :bU Tryz.prog 72 S1:=jQ Tryz.underlying72
def S2 :bw:=eQ 3 [.aQ,.aQ,.aQ] [(0,2),(2,1)] [(54,0),(72,2)]
theorem af2 :bU Tryz.prog 79 S2:=eX Tryz.underlying79
def S4 :bw:=eQ 3 [.aQ,.aQ,.aQ] [(0,2),(2,1)] [(54,0),(72,2)]
theorem aco :bU Tryz.prog 80 S4:=eX Tryz.underlying80
def S5 :bw:=eQ 2 [.ag .str [],.ag .str []] [(0,1),(1,1)] [(9,0),(9,1)]
theorem ad5 :bU Tryz.prog 82 S5:=eX Tryz.underlying82
def S6 :bw:=⟨true,2,[.ag .str [],.ag .str []],none,[(0,1),(1,1)],false,false,none,some (.pair .str .str),none,false,[(9,0),(9,1)],none⟩
theorem ad4 :bU Tryz.prog 83 S6:=⟨⟨_,Tryz.underlying83,rfl⟩,⟨_,_,rfl,rfl,rfl,rfl,fun c=>⟨⟨⟨_,rfl,bq.str _⟩,rfl⟩,⟨⟨_,rfl,bq.str _⟩,rfl⟩,True.intro⟩⟩,nofun,fun _=>⟨_,Tryz.underlying83,by kernel_rfl⟩,nofun,nofun,nofun,fun r h=>by cases h;exact p1 _ rfl (by kernel_rfl) (by kernel_rfl) (by kernel_rfl) [(false,9,0),(false,9,1)] (by kernel_rfl) (fun x y=>⟨⟨rfl,rfl,Tryz.underlying9⟩,⟨⟨rfl,rfl,Tryz.underlying9⟩,True.intro⟩⟩),nofun,nofun,fun _=>⟨_,Tryz.underlying83,by kernel_rfl⟩,nofun⟩
def S8 :bw:=eQ 2 [.ag (.int .i64) 0,.ag (.int .i64) 0] [(0,1),(1,1)] [(3,0),(3,1)]
theorem aiO :bU Tryz.prog 97 S8:=eX Tryz.underlying97
def S9 :bw:=⟨true,2,[.ag (.int .i64) 0,.ag (.int .i64) 0],none,[(0,1),(1,1)],false,false,none,some (.pair (.int .i64) (.int .i64)),none,false,[(3,0),(3,1)],none⟩
theorem agW :bU Tryz.prog 98 S9:=⟨⟨_,Tryz.underlying98,rfl⟩,⟨_,_,rfl,rfl,rfl,rfl,fun c=>⟨⟨⟨_,rfl,bq.int _ _⟩,rfl⟩,⟨⟨_,rfl,bq.int _ _⟩,rfl⟩,True.intro⟩⟩,nofun,fun _=>⟨_,Tryz.underlying98,by kernel_rfl⟩,nofun,nofun,nofun,fun r h=>by cases h;exact p1 _ rfl (by kernel_rfl) (by kernel_rfl) (by kernel_rfl) [(false,3,0),(false,3,1)] (by kernel_rfl) (fun x y=>⟨⟨rfl,rfl,⟨rfl,_,Tryz.underlying3⟩⟩,⟨⟨rfl,rfl,⟨rfl,_,Tryz.underlying3⟩⟩,True.intro⟩⟩),nofun,nofun,fun _=>⟨_,Tryz.underlying98,by kernel_rfl⟩,nofun⟩
def NL :bw:=jr (.aQ) 110 (.pair .str .str) 32
theorem adz :bU Tryz.prog 106 NL:=jQ Tryz.underlying106
def NQ :bw:=jr (.aQ) 221 (.pair .str (.int .i64)) 24
theorem adM :bU Tryz.prog 107 NQ:=jQ Tryz.underlying107
def NV :bw:=eQ 3 [.ag (.int .i64) 0,.aQ,.aQ] [(0,1),(1,1),(2,1)] [(3,0),(106,1),(107,2)]
theorem adG :bU Tryz.prog 108 NV:=eX Tryz.underlying108
def M0 :bw:=eQ 3 [.ag (.int .i64) 0,.aQ,.aQ] [(0,1),(1,1),(2,1)] [(3,0),(106,1),(107,2)]
theorem aan :bU Tryz.prog 109 M0:=eX Tryz.underlying109
def Nx :bw:=⟨true,2,[.ag .str [],.ag .str []],none,[(0,1),(1,1)],false,false,none,some (.pair .str .str),none,false,[(9,0),(9,1)],none⟩
theorem ab8 :bU Tryz.prog 110 Nx:=⟨⟨_,Tryz.underlying110,rfl⟩,⟨_,_,rfl,rfl,rfl,rfl,fun c=>⟨⟨⟨_,rfl,bq.str _⟩,rfl⟩,⟨⟨_,rfl,bq.str _⟩,rfl⟩,True.intro⟩⟩,nofun,fun _=>⟨_,Tryz.underlying110,by kernel_rfl⟩,nofun,nofun,nofun,fun r h=>by cases h;exact p1 _ rfl (by kernel_rfl) (by kernel_rfl) (by kernel_rfl) [(false,9,0),(false,9,1)] (by kernel_rfl) (fun x y=>⟨⟨rfl,rfl,Tryz.underlying9⟩,⟨⟨rfl,rfl,Tryz.underlying9⟩,True.intro⟩⟩),nofun,nofun,fun _=>⟨_,Tryz.underlying110,by kernel_rfl⟩,nofun⟩
def Nw :bw:=jr (.aQ) 114 (.pair .str (.int .i64)) 24
theorem acm :bU Tryz.prog 111 Nw:=jQ Tryz.underlying111
def Of :bw:=eQ 2 [.ag .str [],.ag (.int .i64) 0] [(0,1),(1,1)] [(9,0),(3,1)]
theorem aeY :bU Tryz.prog 113 Of:=eX Tryz.underlying113
def NT :bw:=⟨true,2,[.ag .str [],.ag (.int .i64) 0],none,[(0,1),(1,1)],false,false,none,some (.pair .str (.int .i64)),none,false,[(9,0),(3,1)],none⟩
theorem adS :bU Tryz.prog 114 NT:=⟨⟨_,Tryz.underlying114,rfl⟩,⟨_,_,rfl,rfl,rfl,rfl,fun c=>⟨⟨⟨_,rfl,bq.str _⟩,rfl⟩,⟨⟨_,rfl,bq.int _ _⟩,rfl⟩,True.intro⟩⟩,nofun,fun _=>⟨_,Tryz.underlying114,by kernel_rfl⟩,nofun,nofun,nofun,fun r h=>by cases h;exact p1 _ rfl (by kernel_rfl) (by kernel_rfl) (by kernel_rfl) [(false,9,0),(false,3,1)] (by kernel_rfl) (fun x y=>⟨⟨rfl,rfl,Tryz.underlying9⟩,⟨⟨rfl,rfl,⟨rfl,_,Tryz.underlying3⟩⟩,True.intro⟩⟩),nofun,nofun,fun _=>⟨_,Tryz.underlying114,by kernel_rfl⟩,nofun⟩
def NK :bw:=jr (.aQ) 197 (.pair (.int .i64) (.av (.int .i64))) 32
theorem adt :bU Tryz.prog 117 NK:=jQ Tryz.underlying117
def Nd :bw:=eQ 3 [.ag .str [],.ag .str [],.aQ] [(0,1),(1,1),(2,1)] [(9,0),(9,1),(117,2)]
theorem aas :bU Tryz.prog 118 Nd:=eX Tryz.underlying118
def PJ :bw:=eQ 3 [.ag .str [],.ag .str [],.aQ] [(0,1),(1,1),(2,1)] [(9,0),(9,1),(117,2)]
theorem aaU :bU Tryz.prog 119 PJ:=eX Tryz.underlying119
def Ob :bw:=eQ 2 [.aQ,.ag (.int .i64) 0] [(0,1),(1,1)] [(22,0),(3,1)]
theorem aeu :bU Tryz.prog 132 Ob:=eX Tryz.underlying132
def M4 :bw:=eQ 2 [.aQ,.ag (.int .i64) 0] [(0,1),(1,1)] [(22,0),(3,1)]
theorem aar :bU Tryz.prog 133 M4:=eX Tryz.underlying133
def Om :bw:=nf .u32
theorem af4 :bU Tryz.prog 141 Om:=n3 Tryz.underlying141
def OQ :bw:=nf .u64
theorem ahn :bU Tryz.prog 142 OQ:=n3 Tryz.underlying142
def On :bw:=oj (.eK)
theorem agT :bU Tryz.prog 143 On:=pb Tryz.underlying143
def N1 :bw:=eQ 2 [.aQ,.ag .str []] [(0,1),(1,1)] [(26,0),(9,1)]
theorem ad2 :bU Tryz.prog 157 N1:=eX Tryz.underlying157
def M8 :bw:=eQ 2 [.aQ,.ag .str []] [(0,1),(1,1)] [(26,0),(9,1)]
theorem aaz :bU Tryz.prog 158 M8:=eX Tryz.underlying158
def NW :bw:=eQ 8 [.ag .bool false,.ag (.int .i64) 0,.ag (.int .i64) 0,.ag (.int .i64) 0,.ag (.int .i64) 0,.ag .bool false,.ag (.int .i64) 0,.ag (.int .i64) 0] [(0,1),(1,1),(2,1),(3,1),(4,1),(5,1),(6,1),(7,1)] [(4,0),(3,1),(3,2),(3,3),(3,4),(4,5),(3,6),(3,7)]
theorem adL :bU Tryz.prog 182 NW:=eX Tryz.underlying182
def Pw :bw:=⟨true,8,[.ag .bool false,.ag (.int .i64) 0,.ag (.int .i64) 0,.ag (.int .i64) 0,.ag (.int .i64) 0,.ag .bool false,.ag (.int .i64) 0,.ag (.int .i64) 0],none,[(0,1),(1,1),(2,1),(3,1),(4,1),(5,1),(6,1),(7,1)],false,false,none,some (.pair .bool (.pair (.int .i64) (.pair (.int .i64) (.pair (.int .i64) (.pair (.int .i64) (.pair .bool (.pair (.int .i64) (.int .i64)))))))),none,false,[(4,0),(3,1),(3,2),(3,3),(3,4),(4,5),(3,6),(3,7)],none⟩
theorem abW :bU Tryz.prog 183 Pw:=⟨⟨_,Tryz.underlying183,rfl⟩,⟨_,_,rfl,rfl,rfl,rfl,fun c=>⟨⟨⟨_,rfl,bq.bool _⟩,rfl⟩,⟨⟨_,rfl,bq.int _ _⟩,rfl⟩,⟨⟨_,rfl,bq.int _ _⟩,rfl⟩,⟨⟨_,rfl,bq.int _ _⟩,rfl⟩,⟨⟨_,rfl,bq.int _ _⟩,rfl⟩,⟨⟨_,rfl,bq.bool _⟩,rfl⟩,⟨⟨_,rfl,bq.int _ _⟩,rfl⟩,⟨⟨_,rfl,bq.int _ _⟩,rfl⟩,True.intro⟩⟩,nofun,fun _=>⟨_,Tryz.underlying183,by kernel_rfl⟩,nofun,nofun,nofun,fun r h=>by cases h;exact p1 _ rfl (by kernel_rfl) (by kernel_rfl) (by kernel_rfl) [(false,4,0),(false,3,1),(false,3,2),(false,3,3),(false,3,4),(false,4,5),(false,3,6),(false,3,7)] (by kernel_rfl) (fun x y=>⟨⟨rfl,rfl,Tryz.underlying4⟩,⟨⟨rfl,rfl,⟨rfl,_,Tryz.underlying3⟩⟩,⟨⟨rfl,rfl,⟨rfl,_,Tryz.underlying3⟩⟩,⟨⟨rfl,rfl,⟨rfl,_,Tryz.underlying3⟩⟩,⟨⟨rfl,rfl,⟨rfl,_,Tryz.underlying3⟩⟩,⟨⟨rfl,rfl,Tryz.underlying4⟩,⟨⟨rfl,rfl,⟨rfl,_,Tryz.underlying3⟩⟩,⟨⟨rfl,rfl,⟨rfl,_,Tryz.underlying3⟩⟩,True.intro⟩⟩⟩⟩⟩⟩⟩⟩),nofun,nofun,fun _=>⟨_,Tryz.underlying183,by kernel_rfl⟩,nofun⟩
def Pn :bw:=⟨false,1,[.dead],none,[],false,false,none,none,none,false,[],some (3,183,.int .i64,.pair .bool (.pair (.int .i64) (.pair (.int .i64) (.pair (.int .i64) (.pair (.int .i64) (.pair .bool (.pair (.int .i64) (.int .i64))))))),true)⟩
theorem abt :bU Tryz.prog 185 Pn:=⟨⟨_,Tryz.underlying185,rfl⟩,⟨_,_,rfl,rfl,rfl,rfl,fun c=>⟨⟨True.intro,rfl⟩,True.intro⟩⟩,nofun,fun h=>absurd rfl h,nofun,nofun,nofun,nofun,nofun,nofun,fun h=>absurd rfl h,fun K V a b agg h=>by cases h;exact⟨Tryz.underlying185,Tryz.underlying3,rfl,(fun h=>by first|rfl|cases h),_,_,rfl,rfl,rfl⟩⟩
def PB :bw:=jr (.aQ) 189 (.pair .str (.pair (.int .i64) (.pair (.int .i64) (.int .i64)))) 40
theorem ab1 :bU Tryz.prog 186 PB:=jQ Tryz.underlying186
def NY :bw:=eQ 4 [.ag .str [],.ag (.int .i64) 0,.ag (.int .i64) 0,.ag (.int .i64) 0] [(0,1),(1,1),(2,1),(3,1)] [(9,0),(3,1),(3,2),(3,3)]
theorem adV :bU Tryz.prog 188 NY:=eX Tryz.underlying188
def NX :bw:=⟨true,4,[.ag .str [],.ag (.int .i64) 0,.ag (.int .i64) 0,.ag (.int .i64) 0],none,[(0,1),(1,1),(2,1),(3,1)],false,false,none,some (.pair .str (.pair (.int .i64) (.pair (.int .i64) (.int .i64)))),none,false,[(9,0),(3,1),(3,2),(3,3)],none⟩
theorem adF :bU Tryz.prog 189 NX:=⟨⟨_,Tryz.underlying189,rfl⟩,⟨_,_,rfl,rfl,rfl,rfl,fun c=>⟨⟨⟨_,rfl,bq.str _⟩,rfl⟩,⟨⟨_,rfl,bq.int _ _⟩,rfl⟩,⟨⟨_,rfl,bq.int _ _⟩,rfl⟩,⟨⟨_,rfl,bq.int _ _⟩,rfl⟩,True.intro⟩⟩,nofun,fun _=>⟨_,Tryz.underlying189,by kernel_rfl⟩,nofun,nofun,nofun,fun r h=>by cases h;exact p1 _ rfl (by kernel_rfl) (by kernel_rfl) (by kernel_rfl) [(false,9,0),(false,3,1),(false,3,2),(false,3,3)] (by kernel_rfl) (fun x y=>⟨⟨rfl,rfl,Tryz.underlying9⟩,⟨⟨rfl,rfl,⟨rfl,_,Tryz.underlying3⟩⟩,⟨⟨rfl,rfl,⟨rfl,_,Tryz.underlying3⟩⟩,⟨⟨rfl,rfl,⟨rfl,_,Tryz.underlying3⟩⟩,True.intro⟩⟩⟩⟩),nofun,nofun,fun _=>⟨_,Tryz.underlying189,by kernel_rfl⟩,nofun⟩
def M6 :bw:=oj (.eK)
theorem aav :bU Tryz.prog 190 M6:=pb Tryz.underlying190
def O2 :bw:=oj (.eK)
theorem ah7 :bU Tryz.prog 192 O2:=pb Tryz.underlying192
def NU :bw:=eQ 2 [.ag (.int .i64) 0,.aQ] [(0,1),(1,1)] [(3,0),(72,1)]
theorem adH :bU Tryz.prog 196 NU:=eX Tryz.underlying196
def Ny :bw:=eQ 2 [.ag (.int .i64) 0,.aQ] [(0,1),(1,1)] [(3,0),(72,1)]
theorem acn :bU Tryz.prog 197 Ny:=eX Tryz.underlying197
def Oc :bw:=oj (.eK)
theorem aeX :bU Tryz.prog 200 Oc:=pb Tryz.underlying200
def MK :bw:=eQ 4 [.aQ,.aQ,.aQ,.aQ] [(0,2),(2,2)] [(29,0),(54,2)]
theorem aab :bU Tryz.prog 201 MK:=eX Tryz.underlying201
def M3 :bw:=eQ 4 [.aQ,.aQ,.aQ,.aQ] [(0,2),(2,2)] [(29,0),(54,2)]
theorem aay :bU Tryz.prog 202 M3:=eX Tryz.underlying202
def Pk :bw:=eQ 2 [.ag .str [],.ag (.int .i64) 0] [(0,1),(1,1)] [(9,0),(3,1)]
theorem abo :bU Tryz.prog 220 Pk:=eX Tryz.underlying220
def Nu :bw:=⟨true,2,[.ag .str [],.ag (.int .i64) 0],none,[(0,1),(1,1)],false,false,none,some (.pair .str (.int .i64)),none,false,[(9,0),(3,1)],none⟩
theorem ace :bU Tryz.prog 221 Nu:=⟨⟨_,Tryz.underlying221,rfl⟩,⟨_,_,rfl,rfl,rfl,rfl,fun c=>⟨⟨⟨_,rfl,bq.str _⟩,rfl⟩,⟨⟨_,rfl,bq.int _ _⟩,rfl⟩,True.intro⟩⟩,nofun,fun _=>⟨_,Tryz.underlying221,by kernel_rfl⟩,nofun,nofun,nofun,fun r h=>by cases h;exact p1 _ rfl (by kernel_rfl) (by kernel_rfl) (by kernel_rfl) [(false,9,0),(false,3,1)] (by kernel_rfl) (fun x y=>⟨⟨rfl,rfl,Tryz.underlying9⟩,⟨⟨rfl,rfl,⟨rfl,_,Tryz.underlying3⟩⟩,True.intro⟩⟩),nofun,nofun,fun _=>⟨_,Tryz.underlying221,by kernel_rfl⟩,nofun⟩
def Pq :bw:=nf .i64
theorem abq :bU Tryz.prog 246 Pq:=n3 Tryz.underlying246
def PF :bw:=nf .u64
theorem abu :bU Tryz.prog 255 PF:=n3 Tryz.underlying255
def Nf :bw:=eQ 2 [.ag (.int .i64) 0,.ag (.int .i64) 0] [(0,1),(1,1)] [(3,0),(3,1)]
theorem aaA :bU Tryz.prog 291 Nf:=eX Tryz.underlying291
def Nc :bw:=⟨true,2,[.ag (.int .i64) 0,.ag (.int .i64) 0],none,[(0,1),(1,1)],false,false,none,some (.pair (.int .i64) (.int .i64)),none,false,[(3,0),(3,1)],none⟩
theorem aaw :bU Tryz.prog 292 Nc:=⟨⟨_,Tryz.underlying292,rfl⟩,⟨_,_,rfl,rfl,rfl,rfl,fun c=>⟨⟨⟨_,rfl,bq.int _ _⟩,rfl⟩,⟨⟨_,rfl,bq.int _ _⟩,rfl⟩,True.intro⟩⟩,nofun,fun _=>⟨_,Tryz.underlying292,by kernel_rfl⟩,nofun,nofun,nofun,fun r h=>by cases h;exact p1 _ rfl (by kernel_rfl) (by kernel_rfl) (by kernel_rfl) [(false,3,0),(false,3,1)] (by kernel_rfl) (fun x y=>⟨⟨rfl,rfl,⟨rfl,_,Tryz.underlying3⟩⟩,⟨⟨rfl,rfl,⟨rfl,_,Tryz.underlying3⟩⟩,True.intro⟩⟩),nofun,nofun,fun _=>⟨_,Tryz.underlying292,by kernel_rfl⟩,nofun⟩
def Na :bw:=jr (.aQ) 72 (.av (.int .i64)) 24
theorem aax :bU Tryz.prog 297 Na:=jQ Tryz.underlying297
def Nv :bw:=nf .u64
theorem ab4 :bU Tryz.prog 303 Nv:=n3 Tryz.underlying303
def N0 :bw:=oj (.eK)
theorem ad3 :bU Tryz.prog 307 N0:=pb Tryz.underlying307
def M9 :bw:=oj (.eK)
theorem aaB :bU Tryz.prog 319 M9:=pb Tryz.underlying319
def M5 :bw:=eQ 2 [.eK,.aQ] [(0,1),(1,1)] [(319,0),(22,1)]
theorem aat :bU Tryz.prog 320 M5:=eX Tryz.underlying320
def M7 :bw:=eQ 2 [.eK,.aQ] [(0,1),(1,1)] [(319,0),(22,1)]
theorem aaq :bU Tryz.prog 321 M7:=eX Tryz.underlying321
def MW :bw:=oj (.eK)
theorem aao :bU Tryz.prog 342 MW:=pb Tryz.underlying342
def Nb :bw:=⟨true,0,[],none,[],false,false,none,none,none,false,[],none⟩
theorem aap :bU Tryz.prog 372 Nb:=⟨⟨_,Tryz.underlying372,rfl⟩,⟨_,_,rfl,rfl,rfl,rfl,fun c=>True.intro⟩,nofun,fun h=>absurd rfl h,nofun,nofun,nofun,nofun,nofun,nofun,fun h=>absurd rfl h,nofun⟩
def NZ :bw:=⟨true,0,[],none,[],false,false,none,none,none,false,[],none⟩
theorem adZ :bU Tryz.prog 373 NZ:=⟨⟨_,Tryz.underlying373,rfl⟩,⟨_,_,rfl,rfl,rfl,rfl,fun c=>True.intro⟩,nofun,fun h=>absurd rfl h,nofun,nofun,nofun,nofun,nofun,nofun,fun h=>absurd rfl h,nofun⟩
def A1 :List (Nat×bw)->Nat->Option bw
 | [],_=>none
 |(k,y)::l,t=>bif Nat.beq t k then some y else A1 l t
def Gs (P:Program):List (Nat×bw)->Prop
 | []=>True
 |(k,y)::l=>bU P k y/\Gs P l
theorem Oo {P:Program}:∀ {l:List (Nat×bw)},Gs P l->∀t y,A1 l t=some y->bU P t y
 | [],_,t,y,h=>by cases h
 |(k,z)::l,a,t,y,h=>by
  simp only[A1]at h
  cases e:Nat.beq t k with
  |true=>rw[e]at h;cases h;rw[yl e];exact a.1
  |false=>rw[e]at h;exact Oo a.2 t y h
def Ta :List (Nat×bw):=[(2,SA),(3,SJ),(4,SQ),(5,SS),(6,SY),(7,S0),(8,S3),(9,S7),(12,Sx),(13,Sy),(16,Sz),(22,SB),(23,SC),(24,SD),(25,SE),(26,SF),(27,SG),(28,SH),(29,SI),(30,SK),(31,SL),(32,SM),(35,SN),(36,SO),(37,SP),(46,SR),(51,SU),(52,SV),(53,SW),(54,SX),(67,SZ),(72,S1),(79,S2),(80,S4),(82,S5),(83,S6),(97,S8),(98,S9),(106,NL),(107,NQ),(108,NV),(109,M0),(110,Nx),(111,Nw),(113,Of),(114,NT),(117,NK),(118,Nd),(119,PJ),(132,Ob),(133,M4),(141,Om),(142,OQ),(143,On),(157,N1),(158,M8),(182,NW),(183,Pw),(185,Pn),(186,PB),(188,NY),(189,NX),(190,M6),(192,O2),(196,NU),(197,Ny),(200,Oc),(201,MK),(202,M3),(220,Pk),(221,Nu),(246,Pq),(255,PF),(291,Nf),(292,Nc),(297,Na),(303,Nv),(307,N0),(319,M9),(320,M5),(321,M7),(342,MW),(372,Nb),(373,NZ)]
theorem agr :Gs Tryz.prog Ta:=⟨agI,afo,aij,ag3,abH,abg,aex,afV,ab6,acb,aiQ,afs,afQ,agQ,aiH,aga,aiE,jmp,ail,afT,abx,aaP,acg,ad0,aaF,afB,agx,ag2,ahf,agV,ab3,acf,af2,aco,ad5,ad4,aiO,agW,adz,adM,adG,aan,ab8,acm,aeY,adS,adt,aas,aaU,aeu,aar,af4,ahn,agT,ad2,aaz,adL,abW,abt,ab1,adV,adF,aav,ah7,adH,acn,aeX,aab,aay,abo,ace,abq,abu,aaA,aaw,aax,ab4,ad3,aaB,aat,aaq,aao,aap,adZ,True.intro⟩
def w3 :List (Nat×Model)->Nat->List Model
 | [],_=>[]
 |(k,m)::l,f=>bif Nat.beq f k then m::w3 l f else w3 l f
def o0 (P:Program):List (Nat×Model)->Prop
 | []=>True
 |(k,m)::l=>hW P k m/\o0 P l
theorem GN {P:Program}:∀ {l:List (Nat×Model)},o0 P l->∀f m,m∈w3 l f->hW P f m
 | [],_,f,m,h=>by cases h
 |(k,x)::l,a,f,m,h=>by
  simp only[w3]at h
  cases e:Nat.beq f k with
  |true=>
   rw[e]at h
   rcases bm.1 h with h|h
   .subst h;rw[yl e];exact a.1
   .exact GN a.2 f m h
  |false=>rw[e]at h;exact GN a.2 f m h
theorem aE {P:Program}:o0 P []:=True.intro
theorem aie {P:Program} {k:Nat} {m:Model} {l:List (Nat×Model)} (h:hW P k m) (a:o0 P l):o0 P ((k,m)::l):=And.intro h a
def B1 :List Nat->Nat->Bool
 | [],_=>false
 |k::l,j=>bif Nat.beq j k then true else B1 l j
noncomputable def AQ (l:List (Nat×Model)) (wr res:List Nat) (dw:List Nat:=[]):Env:=⟨Tryz.prog,A1 Ta,w3 l,B1 wr,B1 res,B1 dw⟩
theorem aiy {l:List (Nat×Model)} (h:o0 Tryz.prog l) (wr res:List Nat) (dw:List Nat:=[]):eA (AQ l wr res dw):=⟨by kernel_rfl,Oo agr,GN h⟩
end Go.Proofs.YtnkagklajgimlaaGreatDoor
