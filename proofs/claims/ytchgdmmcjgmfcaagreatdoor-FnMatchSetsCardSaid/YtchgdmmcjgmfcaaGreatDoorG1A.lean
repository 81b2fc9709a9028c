import Derived.Test.YtchgdmmcjgmfcaaGreatDoorSJ
import Derived.Test.YtchgdmmcjgmfcaaGreatDoorSZ
set_option linter.unusedVariables false
set_option linter.unusedSimpArgs false
namespace Go.Proofs.YtchgdmmcjgmfcaaGreatDoor
open Go.RowKit Go.Proofs.Tryz
variable (N : Nat)
open Option renaming bind -> oB
set_option maxRecDepth 1000000
abbrev Z0 :Type:=List UInt8
abbrev Z1 :Type:=Z0×Z0×(List (Int×(List Int)))
abbrev Z2 :Type:=Int×(List (Z0×Z0))×(List (Z0×Int))
abbrev Z3 :Type:=List (Int×(List Int))
abbrev Z4 :Type:=(List Z0)×Z0
abbrev Z6 :Type:=List (Z0×Int)
abbrev Z7 :Type:=List (Z0×Int)
abbrev Z8 :Type:=Option (Bool)
abbrev Z9 :Type:=Z0×Int×Int×Int
abbrev Z10 :Type:=((List Z0)×(List Z4))×(List Z2)×(List Z1)
abbrev Z11 :Type:=List (Z0×Z0)
abbrev Z12 :Type:=(List Int)×Int×Int×Int×Int
abbrev Z13 :Type:=Option (Int)
abbrev Z14 :Type:=List (Z0×Z0)
abbrev Z15 :Type:=Option ((List Int))
abbrev Z16 :Type:=List (Int×(List Int))
abbrev Z17 :Type:=List (List Int)
abbrev Z19 :Type:=Z0×Z0×(List Int)×Int×Int×Int
abbrev Z20 :Type:=Int×Int×Z0×(List Z0)×Int×Int×(List DQ)×Bool×Int×Int×Int×Int×Bool×Int×Int
abbrev bX (a r:List VS) (f:HD (Sh.codes ⟨a,[]⟩)->Option (HD (Sh.codes ⟨r,[]⟩))):Model:=⟨⟨a,[]⟩,⟨r,[]⟩,f⟩
abbrev mK :=ModelOk Tryz.prog
theorem mO {l:List (Nat×Model)} (hl:jR Tryz.prog l) {f:FuncId} {fn:Func} {c:Code} (hf:Tryz.prog.funcs[f]? =some fn) (hbody:fn.body=some c) (N:Nat) (h:Hint) (m:Model) (wr rs dw:List Nat:=[])
  (hname:(fn.name== "runtime.NumGoroutine")=false:=by kernel_rfl) (hres:m.arg.names.all (jbC l wr rs dw).res=true:=by kernel_rfl) (hlen:Nat.ble m.arg.vals.length fn.ntmps=true:=by kernel_rfl)
  (hrun:∀a,m.run a=runF N (jbC l wr rs dw) okDraw fn c h m.arg m.ret a:=by intro a;kernel_rfl):ModelOk Tryz.prog f m:=modelOk_of (E:=jbC l wr rs dw) (jtQ hl wr rs dw) hf hname hbody N h m hres hlen hrun
theorem fC {k:Nat} {m:Model} {l:List (Nat×Model)} (h:ModelOk Tryz.prog k m) (hl:jR Tryz.prog l):jR Tryz.prog ((k,m)::l):=jsH h hl
abbrev pI :VS:=.pv (.int .i64)
abbrev pS :VS:=.pv .str
abbrev pB :VS:=.pv .bool
abbrev tI :Tp:=.int .i64
abbrev c1A {Y Z:Type} (f:Y->Z) (a:Y):Z:=f a
abbrev c2A {α0 α1 Z:Type} (f:α0->α1->Z) (a:α0×α1):Z:=f a.1 a.2
abbrev c3A {α0 α1 α2 Z:Type} (f:α0->α1->α2->Z) (a:α0×α1×α2):Z:=f a.1 a.2.1 a.2.2
abbrev c4A {α0 α1 α2 α3 Z:Type} (f:α0->α1->α2->α3->Z) (a:α0×α1×α2×α3):Z:=f a.1 a.2.1 a.2.2.1 a.2.2.2
abbrev c5A {α0 α1 α2 α3 α4 Z:Type} (f:α0->α1->α2->α3->α4->Z) (a:α0×α1×α2×α3×α4):Z:=f a.1 a.2.1 a.2.2.1 a.2.2.2.1 a.2.2.2.2
abbrev c6A {α0 α1 α2 α3 α4 α5 Z:Type} (f:α0->α1->α2->α3->α4->α5->Z) (a:α0×α1×α2×α3×α4×α5):Z:=f a.1 a.2.1 a.2.2.1 a.2.2.2.1 a.2.2.2.2.1 a.2.2.2.2.2
abbrev c7A {α0 α1 α2 α3 α4 α5 α6 Z:Type} (f:α0->α1->α2->α3->α4->α5->α6->Z) (a:α0×α1×α2×α3×α4×α5×α6):Z:=f a.1 a.2.1 a.2.2.1 a.2.2.2.1 a.2.2.2.2.1 a.2.2.2.2.2.1 a.2.2.2.2.2.2
abbrev c9A {α0 α1 α2 α3 α4 α5 α6 α7 α8 Z:Type} (f:α0->α1->α2->α3->α4->α5->α6->α7->α8->Z) (a:α0×α1×α2×α3×α4×α5×α6×α7×α8):Z:=f a.1 a.2.1 a.2.2.1 a.2.2.2.1 a.2.2.2.2.1 a.2.2.2.2.2.1 a.2.2.2.2.2.2.1 a.2.2.2.2.2.2.2.1 a.2.2.2.2.2.2.2.2
abbrev c10A {α0 α1 α2 α3 α4 α5 α6 α7 α8 α9 Z:Type} (f:α0->α1->α2->α3->α4->α5->α6->α7->α8->α9->Z) (a:α0×α1×α2×α3×α4×α5×α6×α7×α8×α9):Z:=f a.1 a.2.1 a.2.2.1 a.2.2.2.1 a.2.2.2.2.1 a.2.2.2.2.2.1 a.2.2.2.2.2.2.1 a.2.2.2.2.2.2.2.1 a.2.2.2.2.2.2.2.2.1 a.2.2.2.2.2.2.2.2.2
abbrev c11A {α0 α1 α2 α3 α4 α5 α6 α7 α8 α9 α10 Z:Type} (f:α0->α1->α2->α3->α4->α5->α6->α7->α8->α9->α10->Z) (a:α0×α1×α2×α3×α4×α5×α6×α7×α8×α9×α10):Z:=f a.1 a.2.1 a.2.2.1 a.2.2.2.1 a.2.2.2.2.1 a.2.2.2.2.2.1 a.2.2.2.2.2.2.1 a.2.2.2.2.2.2.2.1 a.2.2.2.2.2.2.2.2.1 a.2.2.2.2.2.2.2.2.2.1 a.2.2.2.2.2.2.2.2.2.2
def dz :Nat->List VS->List VS
 |0,l=>l
 |n+1,l=>.dead::dz n l
abbrev Y20 :Tp:=.sl tI
abbrev Y19 :Tp:=.pair .str .str
abbrev Y18 :Tp:=.sl (.pair .str .str)
abbrev Y17 :Tp:=.pair (.sl .str) .str
abbrev Y16 :Tp:=.pair .str tI
abbrev Y15 :Tp:=.sl (.pair (.sl .str) .str)
abbrev Y14 :Tp:=.sl (.pair .str tI)
abbrev Y13 :Tp:=.pair tI tI
abbrev Y12 :Tp:=.pair tI (.sl tI)
abbrev Y11 :Tp:=.sl (.pair tI (.sl tI))
abbrev Y6 :Tp:=.pair .str (.pair tI (.pair tI tI))
abbrev Y5 :Tp:=.pair .str (.pair .str (.sl (.pair tI (.sl tI))))
abbrev Y4 :Tp:=.sl (.pair .str (.pair .str (.sl (.pair tI (.sl tI)))))
abbrev Y3 :Tp:=.pair tI (.pair (.sl (.pair .str .str)) (.sl (.pair .str tI)))
abbrev Y2 :Tp:=.sl (.pair tI (.pair (.sl (.pair .str .str)) (.sl (.pair .str tI))))
abbrev Y1 :Tp:=.pair (.sl (.pair tI (.pair (.sl (.pair .str .str)) (.sl (.pair .str tI))))) (.sl (.pair .str (.pair .str (.sl (.pair tI (.sl tI))))))
abbrev Y0 :Tp:=.pair (.pair (.sl .str) (.sl (.pair (.sl .str) .str))) (.pair (.sl (.pair tI (.pair (.sl (.pair .str .str)) (.sl (.pair .str tI))))) (.sl (.pair .str (.pair .str (.sl (.pair tI (.sl tI)))))))
def jt0 (N:Nat) (a:List Int):Option ((List Int)×Int):=
 (bif decide ((2000:Int)<a.length)then oB (cut a 0 2000) fun b=>(some (b,0))else some (a,0))
theorem juQ :mK 50 ⟨⟨[.pv (.sl (.int .u8))],[]⟩,⟨[.box 10 0],[(10,false,[.pv (.sl (.int .u8)),pI])]⟩,c1A (jt0 N)⟩:=
 mO ja func50 rfl N .no _
def jtW (N:Nat) (e:Int) (b:List Int) (a:Int):Option (Int×(List Int)×Int):=
 (if fits (a+1)then bif decide (e<1)then some (0,b,(a+1))else(bif decide ((b.length:Int)=0)then some (0,b,(a+1))else if fits ((a+1)-1)then bif decide (((a+1)-1)<(b.length:Int))then oB (idx b ((a+1)-1)) fun f=>(if e≠0 then some (((IntKind.i64.wrap f).tmod e),b,(a+1))else none)else(if(b.length:Int)≠0 then oB (idx b (((a+1)-1).tmod (b.length:Int))) fun d=>(if fits ((IntKind.i64.wrap d)*131)then if fits (((a+1)-1)*7)then if fits ((((a+1)-1)*7)+3)then if(b.length:Int)≠0 then oB (idx b (((((a+1)-1)*7)+3).tmod (b.length:Int))) fun c=>(if fits ((IntKind.i64.wrap c)*1117)then if fits (((IntKind.i64.wrap d)*131)+((IntKind.i64.wrap c)*1117))then if fits (((a+1)-1)*29)then if fits ((((IntKind.i64.wrap d)*131)+((IntKind.i64.wrap c)*1117))+(((a+1)-1)*29))then if(b.length:Int)≠0 then if fits (((a+1)-1).tdiv (b.length:Int))then if fits ((((a+1)-1).tdiv (b.length:Int))*53)then if fits (((((IntKind.i64.wrap d)*131)+((IntKind.i64.wrap c)*1117))+(((a+1)-1)*29))+((((a+1)-1).tdiv (b.length:Int))*53))then if 64≠0 then if fits ((((((IntKind.i64.wrap d)*131)+((IntKind.i64.wrap c)*1117))+(((a+1)-1)*29))+((((a+1)-1).tdiv (b.length:Int))*53)).tdiv 64)then if e≠0 then some (((bitsI .xor .i64 (((((IntKind.i64.wrap d)*131)+((IntKind.i64.wrap c)*1117))+(((a+1)-1)*29))+((((a+1)-1).tdiv (b.length:Int))*53)) ((((((IntKind.i64.wrap d)*131)+((IntKind.i64.wrap c)*1117))+(((a+1)-1)*29))+((((a+1)-1).tdiv (b.length:Int))*53)).tdiv 64)).tmod e),b,(a+1))else none else none else none else none else none else none else none else none else none else none else none)else none else none else none else none)else none)else none)else none)
theorem jtX :mK 98 ⟨⟨[.box 900000 0,pI],[(900000,false,[.pv (.sl (.int .u8)),pI])]⟩,⟨[pI],[(900000,false,[.pv (.sl (.int .u8)),pI])]⟩,c3A (jtW N)⟩:=
 mO ja func98 rfl N .no _ (rs:=[900000])
def juL :Sh:=⟨.box 900000 0:: .dead:: .box 2 0:: .box 3 0::dz 30 [],[(2,false,[.nils,.nils]),(3,false,[.own 13 .str 9 true,.nils]),(900000,false,[.pv (.sl (.int .u8)),pI])]⟩
def juw :Sh:=⟨.box 900000 0:: .dead:: .box 2 0:: .box 3 0::dz 30 [],[(2,false,[.nils,.nils]),(3,false,[.own 8 .str 9 true,.nils]),(900000,false,[.pv (.sl (.int .u8)),pI])]⟩
def s_l30Conf_m (l:List Int) (n:Int):Option ((List Z0)×(List Z4)×(List Int)×Int):=
 (meet (fun(e:(List Z0)×(List Int)×Int)=>match e with|(k,m,o)=>meet (fun(e:(List Z0)×(List Int)×Int)=>match e with|(d,j,i)=>oB (jtW N 4 j i) fun a=>bif decide (a.1=0)then some (d,([(([([110,101,119]:List UInt8),([121,111,114,107]:List UInt8)]:List Z0),([110,121]:List UInt8))]:List Z4),a.2.1,a.2.2)else bif decide (a.1=1)then some (d,([(([([98,105,103]:List UInt8)]:List Z0),([108,97,114,103]:List UInt8)),(([([98,105,103]:List UInt8),([114,101,100]:List UInt8),([102,111,120]:List UInt8)]:List Z0),([102,111,120]:List UInt8)),(([([110,101,119]:List UInt8),([121,111,114,107]:List UInt8)]:List Z0),([110,121]:List UInt8))]:List Z4),a.2.1,a.2.2)else some (d,([]:List Z4),a.2.1,a.2.2)) fun h=>oB (jtW N 4 m o) fun c=>bif decide (c.1=0)then h (([([100,111,103]:List UInt8),([116,104,101]:List UInt8)]:List Z0),c.2.1,c.2.2)else h (k,c.2.1,c.2.2)) fun f=>oB (jtW N 3 l n) fun b=>bif decide ((0:Int)<b.1)then f (([([116,104,101]:List UInt8)]:List Z0),b.2.1,b.2.2)else f (([]:List Z0),b.2.1,b.2.2))
theorem jva :mK 137 ⟨⟨[.box 900000 0],[(900000,false,[.pv (.sl (.int .u8)),pI])]⟩,⟨[.agg [.own 1 .str 9 true,.own 2 Y17 117 true]],[(900000,false,[.pv (.sl (.int .u8)),pI])]⟩,c2A (s_l30Conf_m N)⟩:=
 mO (fC (jtX N) ja) func137 rfl N (.seq .no (.seq .no (.meet juw .no (.meet juL .no .no)))) _ (rs:=[900000])
def jt (N:Nat) (a:Int):Z13:=
 (bif decide ((65:Int)<=a)then bif decide (a<=90)then some (IntKind.u8.wrap (a+32))else(bif decide ((97:Int)<=a)then bif decide (a<=122)then some a else(bif decide ((48:Int)<=a)then bif decide (a<=57)then some a else(some 0)else some 0)else bif decide ((48:Int)<=a)then bif decide (a<=57)then some a else(some 0)else some 0)else bif decide ((97:Int)<=a)then bif decide (a<=122)then some a else(bif decide ((48:Int)<=a)then bif decide (a<=57)then some a else(some 0)else some 0)else bif decide ((48:Int)<=a)then bif decide (a<=57)then some a else(some 0)else some 0)
theorem jfG :mK 197 (bX [.pv (.int .u8)] [.pv (.int .u8)] (c1A (jt N))):=
 mO ja func197 rfl N .no _
def jJ (N:Nat) (a:Int) (b:Int) (c:Int):Z8:=
 (bif decide (b<=a)then some (decide (a<=c))else some false)
theorem jcL :mK 71 (bX [pI,pI,pI] [pB] (c3A (jJ N))):=
 mO ja func71 rfl N .no _
def jr5 :Sh:=⟨pS:: .dead:: .dead::pI::dz 23 [],[]⟩
def jT (f:List UInt8):Z8:=
 (iter (fun k (a,b)=>bif decide (b<(a.length:Int))then oB (idx a b) fun e=>(oB (jt N (e.toNat:Int)) fun d=>oB (idx a b) fun i=>bif !decide (d=(i.toNat:Int))then some false else oB (idx a b) fun c=>bif decide ((c.toNat:Int)=0)then some false else if fits (b+1)then k (a,(b+1))else none)else oB (jJ N (a.length:Int) 1 12) fun h=>some h) N (f,(0:Int)))
theorem jgp :mK 142 (bX [pS] [pB] (c1A (jT N))):=
 mO (fC (jfG N) (fC (jcL N) ja)) func142 rfl N (.seq .no (.seq (.seq .no (.block (.loop jr5 .no))) .no)) _
def jdI (N:Nat):Option ((List Z0)):=
 (some ([([105,110,103]:List UInt8),([101,100]:List UInt8),([101,115]:List UInt8),([108,121]:List UInt8),([115]:List UInt8)]:List Z0))
theorem jkj :mK 264 ⟨⟨[],[]⟩,⟨[.own 1 .str 9 true],[]⟩,fun a=>jdI N⟩:=
 mO ja func264 rfl N .no _
def jl2 :Sh:=⟨pS:: .dead:: .dead::pI::dz 30 [],[]⟩
def ja6 (i:List UInt8):Option (Z0):=
 (iter (fun d (a,b)=>oB (jdI N) fun f=>bif decide (b<(f.length:Int))then oB (jdI N) fun j=>(oB (idx j b) fun c=>if fits ((a.length:Int)-(c.length:Int))then bif decide ((3:Int)<=((a.length:Int)-(c.length:Int)))then oB (cut a ((a.length:Int)-(c.length:Int)) (a.length:Int)) fun e=>(bif decide (e=c)then oB (cut a 0 ((a.length:Int)-(c.length:Int))) fun h=>(some h)else if fits (b+1)then d (a,(b+1))else none)else(if fits (b+1)then d (a,(b+1))else none)else none)else some a) N (i,(0:Int)))
theorem jtL :mK 198 (bX [pS] [pS] (c1A (ja6 N))):=
 mO (fC (jkj N) ja) func198 rfl N (.seq .no (.seq (.seq .no (.block (.loop jl2 .no))) .no)) _
def jto :Sh:=⟨pS::dz 9 [],[]⟩
def jaq (d:List UInt8):Option (Z0):=
 (iter (fun c (b:Z0)=>let s2:=b;(oB (ja6 N s2) fun a=>bif !decide (a=s2)then oB (ja6 N s2) fun e=>(c e)else some s2)) N d)
theorem jfZ :mK 143 (bX [pS] [pS] (c1A (jaq N))):=
 mO (fC (jtL N) ja) func143 rfl N (.seq .no (.seq (.block (.loop jto .no)) .no)) _
def jlY :Sh:=⟨.pv (.sl .str)::pS::dz 3 (pI::dz 12 []),[]⟩
def jap (e:List Z0) (d:List UInt8):Z8:=
 (iter (fun i (b,c,a)=>bif decide (a<(b.length:Int))then oB (idx b a) fun f=>(bif decide (f=c)then some true else if fits (a+1)then i (b,c,(a+1))else none)else some false) N (e,d,(0:Int)))
theorem jhP :mK 144 (bX [.pv (.sl .str),pS] [pB] (c2A (jap N))):=
 mO ja func144 rfl N (.seq .no (.seq (.seq .no (.block (.loop jlY .no))) .no)) _
def jrs :Sh:=⟨.dead:: .box 1 0:: .dead::pI::dz 114 [],[(1,false,[.pv (.sl .str),.pv Y15])]⟩
def js0 :Sh:=⟨.dead:: .box 1 0:: .dead:: .dead::pI::dz 113 [],[(1,false,[.pv (.sl .str),.pv Y15])]⟩
def jrc :Sh:=⟨.dead:: .box 1 0:: .dead:: .dead::pI:: .box 5 0::pI::dz 111 [],[(1,false,[.pv (.sl .str),.pv Y15]),(5,false,[.pv (.sl .str),pS])]⟩
def jcw (w:List Z0) (y:List Z4):Z8:=
 (iter (fun o (a,b,i)=>bif decide (a<(b.length:Int))then oB (idx b a) fun I=>(oB (jT N I) fun E=>bif !E then some false else bif decide ((0:Int)<a)then oB (idx b a) fun n=>(if fits (a-1)then oB (idx b (a-1)) fun m=>(bif Op.bytesLess n m||decide (n=m)then some false else if fits (a+1)then o ((a+1),b,i)else none)else none)else if fits (a+1)then o ((a+1),b,i)else none)else iter (fun z (l,p,f)=>bif decide (l<(f.length:Int))then oB (idx f l) fun r=>(iter (fun u (k,d,j,q,c,h)=>bif decide (d<(c.length:Int))then oB (idx c d) fun t=>(oB (jT N t) fun G=>bif !G then some false else oB (idx c d) fun B=>oB (jaq N B) fun A=>oB (idx c d) fun H=>bif !decide (A=H)then some false else oB (idx c d) fun x=>oB (jap N j x) fun v=>bif v then some false else if fits (d+1)then u (k,(d+1),j,q,c,h)else none)else oB (jJ N (c.length:Int) 1 3) fun K=>bif !K then some false else oB (jT N h) fun C=>bif !C then some false else oB (jaq N h) fun D=>bif !decide (D=h)then some false else if fits (k+1)then z ((k+1),j,q)else none) N (l,(0:Int),p,f,r.1,r.2))else bif decide ((p.length:Int)<=6)then some (decide ((f.length:Int)<=4))else some false) N ((0:Int),b,i)) N ((0:Int),w,y))
theorem jtf :mK 82 (bX [.agg [.pv (.sl .str),.pv Y15]] [pB] (c2A (jcw N))):=
 mO (fC (jgp N) (fC (jfZ N) (fC (jhP N) (fC (jcL N) ja)))) func82 rfl N (.seq .no (.seq (.seq .no (.block (.loop jrs .no))) (.seq (.seq .no (.block (.loop js0 (.seq .no (.seq (.block (.seq .no (.seq (.seq .no (.block (.loop jrc .no))) .no))) .no))))) .no))) _
def jot :Sh:=⟨pS:: .dead:: .dead::pI::dz 19 [],[]⟩
def jcu (d:List UInt8):Z8:=
 (iter (fun h (a,b)=>bif decide (b<(a.length:Int))then oB (idx a b) fun c=>(bif decide ((c.toNat:Int)<32)then some false else oB (idx a b) fun e=>bif decide ((126:Int)<(e.toNat:Int))then some false else if fits (b+1)then h (a,(b+1))else none)else some (decide ((a.length:Int)<=160))) N (d,(0:Int)))
theorem jpZ :mK 145 (bX [pS] [pB] (c1A (jcu N))):=
 mO ja func145 rfl N (.seq .no (.seq (.seq .no (.block (.loop jot .no))) .no)) _
def jp0 :Sh:=⟨.dead:: .box 1 0:: .dead::pI::dz 100 [],[(1,false,[pI,.pv Y18,.pv Y14])]⟩
def jtP :Sh:=⟨.dead:: .box 1 0::dz 3 (pI::dz 98 []),[(1,false,[pI,.pv Y18,.pv Y14])]⟩
def jcb (r:Int) (u:Z14) (B:Z7):Z8:=
 (iter (fun o (b,k,d,h)=>bif decide (b<(d.length:Int))then oB (idx d b) fun e=>(oB (jT N e.1) fun x=>bif !x then some false else oB (jcu N e.2) fun y=>bif !y then some false else bif decide ((0:Int)<b)then if fits (b-1)then oB (idx d (b-1)) fun n=>(bif Op.bytesLess e.1 n.1||decide (e.1=n.1)then some false else if fits (b+1)then o ((b+1),k,d,h)else none)else none else if fits (b+1)then o ((b+1),k,d,h)else none)else iter (fun m (a,f,i,c)=>bif decide (a<(c.length:Int))then oB (idx c a) fun t=>(oB (jT N t.1) fun v=>bif !v then some false else oB (idx c a) fun z=>oB (jJ N z.2 0 999999999) fun q=>bif !q then some false else bif decide ((0:Int)<a)then oB (idx c a) fun l=>(if fits (a-1)then oB (idx c (a-1)) fun p=>(bif Op.bytesLess l.1 p.1||decide (l.1=p.1)then some false else if fits (a+1)then m ((a+1),f,i,c)else none)else none)else if fits (a+1)then m ((a+1),f,i,c)else none)else oB (jJ N f 1 9999) fun A=>bif A then oB (jJ N (i.length:Int) 0 3) fun w=>(bif w then some (decide ((c.length:Int)<=3))else some false)else some false) N ((0:Int),k,d,h)) N ((0:Int),r,u,B))
theorem jpD :mK 83 (bX [.agg [pI,.pv Y18,.pv Y14]] [pB] (c3A (jcb N))):=
 mO (fC (jgp N) (fC (jpZ N) (fC (jcL N) ja))) func83 rfl N (.seq .no (.seq (.seq .no (.block (.loop jp0 .no))) (.seq (.seq .no (.block (.loop jtP .no))) .no))) _
def jkS :Sh:=⟨.pv Y2:: .dead:: .dead::pI::dz 33 [],[]⟩
def jbU (h:List Z2):Z8:=
 (iter (fun d (b,a)=>bif decide (a<(b.length:Int))then oB (idx b a) fun c=>(oB (jcb N c.1 c.2.1 c.2.2) fun f=>bif !f then some false else bif decide ((0:Int)<a)then oB (idx b a) fun e=>(if fits (a-1)then oB (idx b (a-1)) fun i=>(bif decide (e.1<=i.1)then some false else if fits (a+1)then d (b,(a+1))else none)else none)else if fits (a+1)then d (b,(a+1))else none)else some (decide ((b.length:Int)<=16))) N (h,(0:Int)))
theorem jpx :mK 57 (bX [.pv Y2] [pB] (c1A (jbU N))):=
 mO (fC (jpD N) ja) func57 rfl N (.seq .no (.seq (.seq .no (.block (.loop jkS .no))) .no)) _
def jl5 :Sh:=⟨.pv (.sl .str)::pS::dz 3 (pI::dz 42 []),[]⟩
def s_l7Put_m (r:List Z0) (q:List UInt8):Option ((List Z0)):=
 (iter (fun p (a,b,c)=>bif decide (c<(a.length:Int))then oB (idx a c) fun t=>(bif Op.bytesLess t b then if fits (c+1)then p (a,b,(c+1))else none else bif decide (c<(a.length:Int))then oB (idx a c) fun n=>(bif decide (n=b)then some a else oB (cut a 0 c) fun h=>if room ([]:List Z0).length h.length 16 then if room (([]:List Z0)++h).length ([b]:List Z0).length 16 then oB (cut a c (a.length:Int)) fun k=>(if room ((([]:List Z0)++h)++([b]:List Z0)).length k.length 16 then some (((([]:List Z0)++h)++([b]:List Z0))++k)else none)else none else none)else oB (cut a 0 c) fun f=>if room ([]:List Z0).length f.length 16 then if room (([]:List Z0)++f).length ([b]:List Z0).length 16 then oB (cut a c (a.length:Int)) fun i=>(if room ((([]:List Z0)++f)++([b]:List Z0)).length i.length 16 then some (((([]:List Z0)++f)++([b]:List Z0))++i)else none)else none else none)else bif decide (c<(a.length:Int))then oB (idx a c) fun m=>(bif decide (m=b)then some a else oB (cut a 0 c) fun d=>if room ([]:List Z0).length d.length 16 then if room (([]:List Z0)++d).length ([b]:List Z0).length 16 then oB (cut a c (a.length:Int)) fun l=>(if room ((([]:List Z0)++d)++([b]:List Z0)).length l.length 16 then some (((([]:List Z0)++d)++([b]:List Z0))++l)else none)else none else none)else oB (cut a 0 c) fun e=>if room ([]:List Z0).length e.length 16 then if room (([]:List Z0)++e).length ([b]:List Z0).length 16 then oB (cut a c (a.length:Int)) fun j=>(if room ((([]:List Z0)++e)++([b]:List Z0)).length j.length 16 then some (((([]:List Z0)++e)++([b]:List Z0))++j)else none)else none else none) N (r,q,(0:Int)))
theorem jgt :mK 180 (bX [.pv (.sl .str),pS] [.pv (.sl .str)] (c2A (s_l7Put_m N))):=
 mO ja func180 rfl N (.seq .no (.seq .no (.seq (.block (.loop jl5 .no)) .no))) _
def joT :Sh:=⟨.pv Y2:: .dead:: .dead:: .pv (.sl .str)::pI::dz 30 [],[]⟩
def jkn :Sh:=⟨.pv Y2:: .dead:: .dead:: .pv (.sl .str)::pI::pI::dz 29 [],[]⟩
def s_l7Names_m (n:List Z2):Option ((List Z0)):=
 (iter (fun p (i,e,h)=>bif decide (h<(i.length:Int))then iter (fun m (c,f,a,b)=>oB (idx c a) fun o=>bif decide (b<(o.2.1.length:Int))then oB (idx c a) fun j=>(oB (idx j.2.1 b) fun l=>oB (s_l7Put_m N f l.1) fun k=>if fits (b+1)then m (c,k,a,(b+1))else none)else if fits (a+1)then p (c,f,(a+1))else none) N (i,e,h,(0:Int))else some e) N (n,([]:List Z0),(0:Int)))
theorem jlz :mK 124 (bX [.pv Y2] [.pv (.sl .str)] (c1A (s_l7Names_m N))):=
 mO (fC (jgt N) ja) func124 rfl N (.seq .no (.seq .no (.seq (.seq .no (.block (.loop joT (.seq .no (.seq (.block (.seq .no (.block (.loop jkn .no)))) .no))))) .no))) _
def jl8 :Sh:=⟨.dead::pS:: .box 2 0:: .dead:: .dead::pI::dz 21 [],[(2,false,[pI,.pv Y18,.pv Y14])]⟩
def s_l6Field_m (h:Int) (i:Z14) (n:Z7) (j:List UInt8):Option (Z0):=
 (iter (fun m (c,a,l,b,e)=>bif decide (a<(b.length:Int))then oB (idx b a) fun d=>(bif decide (d.1=c)then oB (idx b a) fun k=>(some k.2)else if fits (a+1)then m (c,(a+1),l,b,e)else none)else some ([]:List UInt8)) N (j,(0:Int),h,i,n))
theorem jhA :mK 182 (bX [.agg [pI,.pv Y18,.pv Y14],pS] [pS] (c4A (s_l6Field_m N))):=
 mO ja func182 rfl N (.seq .no (.seq (.seq .no (.block (.loop jl8 .no))) .no)) _
def jo3 :Sh:=⟨pS:: .dead:: .dead:: .own 600003 Y6 196 true::pI::dz 50 [],[]⟩
def jm6 :Sh:=⟨pS:: .dead:: .dead:: .own 600003 Y6 196 true::pI:: .own 600005 (.int .u8) 5 true::pI::dz 48 [],[]⟩
def jtK :Sh:=⟨pS:: .dead:: .dead:: .own 600003 Y6 196 true::pI:: .pv (.sl (.int .u8))::pI::dz 48 [],[]⟩
def jb3 (G:List UInt8):Option ((List Z9)):=
 (iter (fun l (v,p,n)=>bif decide (n<(v.length:Int))then iter (fun B (b,h,a,c,i)=>bif decide (a<(b.length:Int))then oB (idx b a) fun z=>(oB (jt N (z.toNat:Int)) fun D=>bif !decide (D=0)then oB (idx b a) fun A=>(oB (jt N (A.toNat:Int)) fun u=>if room c.length ([u]:List Int).length 1 then if fits (a+1)then B (b,h,(a+1),(c++([u]:List Int)),i)else none else none)else meet (fun(d:Z0×(List Z9)×Int×(List Int)×Int)=>match d with|(w,k,e,o,r)=>bif decide ((0:Int)<o.length)then if room k.length ([((bytesOf o),(k.length:Int),r,e)]:List Z9).length 40 then if fits (e+1)then l (w,(k++([((bytesOf o),(k.length:Int),r,e)]:List Z9)),(e+1))else none else none else if fits (e+1)then l (w,k,(e+1))else none) fun q=>bif decide ((12:Int)<c.length)then oB (cut c 0 12) fun C=>(q (b,h,a,C,i))else q (b,h,a,c,i))else meet (fun(d:Z0×(List Z9)×Int×(List Int)×Int)=>match d with|(t,j,f,m,x)=>bif decide ((0:Int)<m.length)then if room j.length ([((bytesOf m),(j.length:Int),x,f)]:List Z9).length 40 then if fits (f+1)then l (t,(j++([((bytesOf m),(j.length:Int),x,f)]:List Z9)),(f+1))else none else none else if fits (f+1)then l (t,j,(f+1))else none) fun y=>bif decide ((12:Int)<c.length)then oB (cut c 0 12) fun E=>(y (b,h,a,E,i))else y (b,h,a,c,i)) N (v,p,n,([]:List Int),n)else some p) N (G,([]:List Z9),(0:Int)))
theorem jsr :mK 289 (bX [pS] [.own 1 Y6 196 true] (c1A (jb3 N))):=
 mO (fC (jfG N) ja) func289 rfl N (.seq .no (.seq .no (.seq (.seq .no (.block (.loop jo3 (.seq .no (.seq (.block (.seq .no (.seq .no (.seq (.block (.loop jm6 .no)) (.meet jtK .no .no))))) .no))))) .no))) _
def jmf :Sh:=⟨.dead:: .dead:: .box 2 0:: .dead:: .dead:: .own 600005 Y16 126 true:: .own 600006 Y6 196 true::pI::dz 43 [],[(2,false,[.pv (.sl .str),.pv Y15])]⟩
def jbY (k:List Z0) (l:List Z4) (q:List UInt8):Option (Z6):=
 (oB (jb3 N q) fun p=>iter (fun f (c,b,a,d,e)=>bif decide (a<(b.length:Int))then oB (idx b a) fun r=>(oB (jaq N r.1) fun h=>oB (idx b a) fun n=>oB (jap N d n.1) fun m=>bif !m then oB (jap N d h) fun j=>(bif !j then oB (idx b a) fun i=>(if room c.length ([(h,i.2.1)]:Z7).length 24 then if fits (a+1)then f ((c++([(h,i.2.1)]:Z7)),b,(a+1),d,e)else none else none)else if fits (a+1)then f (c,b,(a+1),d,e)else none)else if fits (a+1)then f (c,b,(a+1),d,e)else none)else some c) N (([]:Z7),p,(0:Int),k,l))
theorem jrk :mK 243 (bX [.agg [.pv (.sl .str),.pv Y15],pS] [.own 1 Y16 126 true] (c3A (jbY N))):=
 mO (fC (jsr N) (fC (jfZ N) (fC (jhP N) ja))) func243 rfl N (.seq .no (.seq .no (.seq .no (.seq (.seq .no (.block (.loop jmf .no))) .no)))) _
def jrL :Sh:=⟨.pv Y14:: .pv (.sl .str)::dz 3 (pI::dz 36 []),[]⟩
def jcC (f:Z7) (l:List Z0):Z8:=
 (iter (fun k (b,c,a)=>bif decide (a<(c.length:Int))then bif decide ((b.length:Int)<=a)then some false else(oB (idx b a) fun i=>oB (idx c a) fun e=>bif !decide (i.1=e)then some false else oB (idx b a) fun h=>oB (idx b 0) fun d=>if fits (d.2+a)then bif !decide (h.2=(d.2+a))then some false else(if fits (a+1)then k (b,c,(a+1))else none)else none)else some true) N (f,l,(0:Int)))
theorem jtg :mK 290 (bX [.pv Y14,.pv (.sl .str)] [pB] (c2A (jcC N))):=
 mO ja func290 rfl N (.seq .no (.seq (.seq .no (.block (.loop jrL .no))) .no)) _
def jlL :Sh:=⟨.dead:: .pv Y14:: .box 2 0:: .dead:: .dead::pI::pI::dz 38 [],[(2,false,[.pv (.sl .str),.pv Y15])]⟩
def jcJ (j:List Z0) (m:List Z4) (k:Z7):Z13:=
 (iter (fun f (d,c,a,e,b)=>bif decide (a<(b.length:Int))then oB (idx b a) fun n=>(oB (jcC N d n.1) fun i=>bif i then bif decide (c<0)then if fits (a+1)then f (d,a,(a+1),e,b)else none else(oB (idx b a) fun h=>oB (idx b c) fun l=>bif decide ((l.1.length:Int)<(h.1.length:Int))then if fits (a+1)then f (d,a,(a+1),e,b)else none else if fits (a+1)then f (d,c,(a+1),e,b)else none)else if fits (a+1)then f (d,c,(a+1),e,b)else none)else some c) N (k,((-1):Int),(0:Int),j,m))
theorem jqp :mK 244 (bX [.agg [.pv (.sl .str),.pv Y15],.pv Y14] [pI] (c3A (jcJ N))):=
 mO (fC (jtg N) ja) func244 rfl N (.seq .no (.seq .no (.seq (.seq .no (.block (.loop jlL .no))) .no))) _
def jnK :Sh:=⟨.dead:: .dead:: .box 2 0:: .dead:: .dead:: .own 600005 Y16 126 true:: .pv Y14::dz 45 [],[(2,false,[.pv (.sl .str),.pv Y15])]⟩
def ja5 (f:List Z0) (i:List Z4) (q:List UInt8):Option (Z6):=
 (oB (jbY N f i q) fun o=>iter (fun k (b,a,d,c)=>bif decide ((0:Int)<a.length)then oB (jcJ N d c a) fun e=>(bif decide (e<0)then oB (idx a 0) fun l=>(if room b.length ([l]:Z7).length 24 then oB (cut a 1 (a.length:Int)) fun n=>(k ((b++([l]:Z7)),n,d,c))else none)else oB (idx c e) fun j=>oB (idx a 0) fun h=>if room b.length ([(j.2,h.2)]:Z7).length 24 then oB (idx c e) fun r=>(oB (cut a (r.1.length:Int) (a.length:Int)) fun p=>k ((b++([(j.2,h.2)]:Z7)),p,d,c))else none)else some b) N (([]:Z7),o,f,i))
theorem jiO :mK 181 (bX [.agg [.pv (.sl .str),.pv Y15],pS] [.own 1 Y16 126 true] (c3A (ja5 N))):=
 mO (fC (jrk N) (fC (jqp N) ja)) func181 rfl N (.seq .no (.seq .no (.seq .no (.seq (.block (.loop jnK .no)) .no)))) _
def jn9 :Sh:=⟨.dead:: .pv Y2::pS:: .box 3 0::dz 3 (.pv (.sl .str)::pI::dz 31 []),[(3,false,[.pv (.sl .str),.pv Y15])]⟩
def jrT :Sh:=⟨.dead:: .pv Y2::pS:: .box 3 0::dz 3 (.pv (.sl .str)::pI:: .own 600009 Y16 126 true::pI::dz 29 []),[(3,false,[.pv (.sl .str),.pv Y15])]⟩
def s_l7Terms_m (r:List Z0) (t:List Z4) (B:List Z2) (y:List UInt8):Option ((List Z0)):=
 (iter (fun x (e,p,i,b,l,k)=>bif decide (b<(e.length:Int))then oB (idx e b) fun f=>(oB (s_l6Field_m N f.1 f.2.1 f.2.2 p) fun z=>oB (ja5 N l k z) fun A=>iter (fun u (o,n,j,h,d,a,q,m)=>bif decide (a<(d.length:Int))then oB (idx d a) fun w=>(oB (s_l7Put_m N j w.1) fun v=>if fits (a+1)then u (o,n,v,h,d,(a+1),q,m)else none)else if fits (h+1)then x (o,n,j,(h+1),q,m)else none) N (e,p,i,b,A,(0:Int),l,k))else some i) N (B,y,([]:List Z0),(0:Int),r,t))
theorem jqQ :mK 125 (bX [.agg [.pv (.sl .str),.pv Y15],.pv Y2,pS] [.pv (.sl .str)] (c4A (s_l7Terms_m N))):=
 mO (fC (jhA N) (fC (jiO N) (fC (jgt N) ja))) func125 rfl N (.seq .no (.seq .no (.seq (.seq .no (.block (.loop jn9 (.seq .no (.seq (.block (.seq .no (.seq .no (.block (.loop jrT .no))))) .no))))) .no))) _
def jnY :Sh:=⟨dz 3 (pS::dz 5 (.own 600009 tI 3 true:: .own 600010 Y16 126 true::pI::dz 28 [])),[]⟩
def s_l7Post_m (i:List Z0) (j:List Z4) (h:Int) (k:Z14) (r:Z7) (m:List UInt8) (n:List UInt8):Z15:=
 (oB (s_l6Field_m N h k r m) fun o=>oB (ja5 N i j o) fun p=>iter (fun f (d,c,b,a)=>bif decide (a<(b.length:Int))then oB (idx b a) fun q=>(bif decide (q.1=d)then oB (idx b a) fun e=>(if room c.length ([e.2]:List Int).length 8 then if fits (a+1)then f (d,(c++([e.2]:List Int)),b,(a+1))else none else none)else if fits (a+1)then f (d,c,b,(a+1))else none)else some c) N (n,([]:List Int),p,(0:Int)))
theorem js6 :mK 183 (bX [.agg [.pv (.sl .str),.pv Y15],.agg [pI,.pv Y18,.pv Y14],pS,pS] [.own 1 tI 3 true] (c7A (s_l7Post_m N))):=
 mO (fC (jhA N) (fC (jiO N) ja)) func183 rfl N (.seq .no (.seq .no (.seq .no (.seq (.seq .no (.block (.loop jnY .no))) .no)))) _
def jkw :Sh:=⟨.dead:: .pv Y2::pS::pS:: .box 4 0::dz 3 (.box 8 0:: .box 9 0::pI::dz 34 []),[(4,false,[.pv (.sl .str),.pv Y15]),(8,false,[pS,pS,.nils]),(9,false,[pS,pS,.own 700902 Y12 204 true])]⟩
def s_l7Entry_m (t:List Z0) (u:List Z4) (w:List Z2) (p:List UInt8) (q:List UInt8):Option Z1:=
 (iter (fun o (b,i,f,a,e,d,r,n,k,h,c)=>bif decide (a<(b.length:Int))then oB (idx b a) fun l=>(oB (s_l7Post_m N e d l.1 l.2.1 l.2.2 i f) fun j=>bif decide ((0:Int)<j.length)then oB (idx b a) fun m=>(if room c.length ([(m.1,j)]:Z3).length 32 then if fits (a+1)then o (b,i,f,(a+1),e,d,r,n,k,h,(c++([(m.1,j)]:Z3)))else none else none)else if fits (a+1)then o (b,i,f,(a+1),e,d,r,n,k,h,c)else none)else some (k,h,c)) N (w,p,q,(0:Int),t,u,([]:List UInt8),([]:List UInt8),p,q,([]:Z3)))
theorem jtr :mK 126 (bX [.agg [.pv (.sl .str),.pv Y15],.pv Y2,pS,pS] [.agg [pS,pS,.own 1 Y12 204 true]] (c5A (s_l7Entry_m N))):=
 mO (fC (js6 N) ja) func126 rfl N (.seq .no (.seq .no (.seq (.seq .no (.block (.loop jkw .no))) .no))) _
def s_l7CopyDoc_m (N:Nat) (c:Int) (a:Z14) (b:Z7):Option Z2:=
 (if room ([]:Z14).length a.length 32 then if room ([]:Z7).length b.length 24 then some (c,(([]:Z14)++a),(([]:Z7)++b))else none else none)
theorem jtC :mK 127 (bX [.agg [pI,.pv Y18,.pv Y14]] [.agg [pI,.own 1 Y19 120 true,.own 2 Y16 122 true]] (c3A (s_l7CopyDoc_m N))):=
 mO ja func127 rfl N .no _
def jn8 :Sh:=⟨.dead:: .pv Y2:: .box 2 0:: .dead:: .box 4 0:: .box 5 0:: .pv (.sl .str)::pI::dz 58 [],[(2,false,[.pv (.sl .str),.pv Y15]),(4,false,[.nils,.nils]),(5,false,[.nils,.own 700501 Y5 131 true])]⟩
def jpr :Sh:=⟨.dead:: .pv Y2:: .box 2 0:: .dead:: .box 4 0:: .box 5 0:: .pv (.sl .str)::pI:: .pv (.sl .str)::pI::dz 56 [],[(2,false,[.pv (.sl .str),.pv Y15]),(4,false,[.nils,.nils]),(5,false,[.nils,.own 700501 Y5 131 true])]⟩
def jn0 :Sh:=⟨.dead:: .pv Y2:: .dead:: .dead:: .box 4 0:: .box 5 0::dz 4 (pI::dz 55 []),[(4,false,[.nils,.nils]),(5,false,[.own 700500 Y3 51 true,.own 700501 Y5 131 true])]⟩
def s_l7Of_m (A:List Z0) (C:List Z4) (y:List Z2):Option ((List Z2)×(List Z1)):=
 (oB (s_l7Names_m N y) fun H=>iter (fun G (o,e,f,u,r,w)=>bif decide (f<(e.length:Int))then oB (idx e f) fun K=>(oB (s_l7Terms_m N u r o K) fun I=>iter (fun D (k,l,c,p,b,m,h,n)=>bif decide (b<(p.length:Int))then oB (idx l c) fun E=>(oB (idx p b) fun B=>oB (s_l7Entry_m N m h k E B) fun v=>if room n.length ([v]:List Z1).length 56 then if fits (b+1)then D (k,l,c,p,(b+1),m,h,(n++([v]:List Z1)))else none else none)else if fits (c+1)then G (k,l,(c+1),m,h,n)else none) N (o,e,f,I,(0:Int),u,r,w))else iter (fun z (j,d,i,x)=>bif decide (d<(j.length:Int))then oB (idx j d) fun q=>(oB (s_l7CopyDoc_m N q.1 q.2.1 q.2.2) fun t=>if room i.length ([t]:List Z2).length 56 then if fits (d+1)then z (j,(d+1),(i++([t]:List Z2)),x)else none else none)else some (i,x)) N (o,(0:Int),([]:List Z2),w)) N (y,H,(0:Int),A,C,([]:List Z1)))
theorem jmU :mK 61 (bX [.agg [.pv (.sl .str),.pv Y15],.pv Y2] [.agg [.own 1 Y3 51 true,.own 2 Y5 131 true]] (c3A (s_l7Of_m N))):=
 mO (fC (jlz N) (fC (jqQ N) (fC (jtr N) (fC (jtC N) ja)))) func61 rfl N (.seq .no (.seq .no (.seq .no (.seq (.seq .no (.block (.loop jn8 (.seq .no (.seq (.block (.seq .no (.seq .no (.block (.loop jpr .no))))) .no))))) (.seq (.seq .no (.block (.loop jn0 .no))) .no))))) _
def jnI :Sh:=⟨.pv Y20:: .pv Y20::dz 3 (pI::dz 20 []),[]⟩
def jb1 (c:List Int) (d:List Int):Z8:=
 (bif !decide ((c.length:Int)=(d.length:Int))then some false else iter (fun i (b,e,a)=>bif decide (a<(b.length:Int))then oB (idx b a) fun h=>(oB (idx e a) fun j=>bif !decide (h=j)then some false else if fits (a+1)then i (b,e,(a+1))else none)else some true) N (c,d,(0:Int)))
theorem jlH :mK 221 (bX [.pv Y20,.pv Y20] [pB] (c2A (jb1 N))):=
 mO ja func221 rfl N (.seq .no (.seq .no (.seq (.seq .no (.block (.loop jnI .no))) .no))) _
def jnx :Sh:=⟨.dead:: .dead:: .box 2 0:: .box 3 0:: .dead::pI::dz 57 [],[(2,false,[pS,pS,.pv Y11]),(3,false,[pS,pS,.pv Y11])]⟩
def jbQ (e:List UInt8) (f:List UInt8) (d:Z3) (i:List UInt8) (h:List UInt8) (j:Z3):Z8:=
 (bif !decide (e=i)then some false else bif !decide (f=h)then some false else bif !decide ((d.length:Int)=(j.length:Int))then some false else iter (fun o (a,m,r,b,p,q,c)=>bif decide (a<(b.length:Int))then oB (idx b a) fun u=>(oB (idx c a) fun l=>bif !decide (u.1=l.1)then some false else oB (idx b a) fun k=>oB (idx c a) fun v=>oB (jb1 N k.2 v.2) fun t=>bif !t then some false else if fits (a+1)then o ((a+1),m,r,b,p,q,c)else none)else some true) N ((0:Int),e,f,d,i,h,j))
theorem jtG :mK 164 (bX [.agg [pS,pS,.pv Y11],.agg [pS,pS,.pv Y11]] [pB] (c6A (jbQ N))):=
 mO (fC (jlH N) ja) func164 rfl N (.seq .no (.seq .no (.seq (.seq .no (.block (.loop jnx .no))) .no))) _
def jrW :Sh:=⟨dz 3 (.box 3 0:: .dead:: .box 5 0::pI::dz 39 []),[(3,false,[.pv Y2,.pv Y4]),(5,false,[.own 700500 Y3 51 true,.own 700501 Y5 131 true])]⟩
def s_l7Ok_m (h:List Z0) (i:List Z4) (e:List Z2) (j:List Z1):Z8:=
 (oB (jcw N h i) fun p=>bif !p then some false else oB (jbU N e) fun q=>bif !q then some false else oB (s_l7Of_m N h i e) fun c=>bif !decide ((c.2.length:Int)=(j.length:Int))then some false else iter (fun o (a,m,k,r,b)=>bif decide (a<(b.length:Int))then oB (idx b a) fun f=>(oB (idx k a) fun d=>oB (jbQ N f.1 f.2.1 f.2.2 d.1 d.2.1 d.2.2) fun l=>bif !l then some false else if fits (a+1)then o ((a+1),m,k,r,b)else none)else some true) N ((0:Int),e,j,c.1,c.2))
theorem jpm :mK 100 (bX [.agg [.pv (.sl .str),.pv Y15],.agg [.pv Y2,.pv Y4]] [pB] (c4A (s_l7Ok_m N))):=
 mO (fC (jtf N) (fC (jpx N) (fC (jmU N) (fC (jtG N) ja)))) func100 rfl N (.seq .no (.seq .no (.seq .no (.seq .no (.seq (.seq .no (.block (.loop jrW .no))) .no))))) _
def jCI :Sh:=⟨.pv Y20:: .dead:: .dead::pI::dz 31 [],[]⟩
def jx3 (f:List Int):Z8:=
 (iter (fun c (b,a)=>bif decide (a<(b.length:Int))then oB (idx b a) fun i=>(oB (jJ N i 0 999999999) fun e=>bif !e then some false else bif decide ((0:Int)<a)then oB (idx b a) fun d=>(if fits (a-1)then oB (idx b (a-1)) fun h=>(bif decide (d<=h)then some false else if fits (a+1)then c (b,(a+1))else none)else none)else if fits (a+1)then c (b,(a+1))else none)else some (decide ((b.length:Int)<=60))) N (f,(0:Int)))
theorem jC9 :mK 118 (bX [.pv Y20] [pB] (c1A (jx3 N))):=
 mO (fC (jcL N) ja) func118 rfl N (.seq .no (.seq (.seq .no (.block (.loop jCI .no))) .no)) _
def jA0 :Sh:=⟨.dead::pI:: .box 2 0:: .dead:: .box 4 0::pI::dz 21 [],[(2,false,[.pv Y2,.pv Y4]),(4,false,[pI,.nils,.nils])]⟩
def jyv (h:List Z2) (i:List Z1) (f:Int):Option Z2:=
 (iter (fun m (d,a,b,k,j)=>bif decide (a<(b.length:Int))then oB (idx b a) fun l=>(bif decide (l.1=d)then oB (idx b a) fun c=>(some (c.1,c.2.1,c.2.2))else if fits (a+1)then m (d,(a+1),b,k,j)else none)else some (0,([]:Z14),([]:Z7))) N (f,(0:Int),h,i,(0:Int)))
theorem jDn :mK 119 (bX [.agg [.pv Y2,.pv Y4],pI] [.agg [pI,.pv Y18,.pv Y14]] (c3A (jyv N))):=
 mO ja func119 rfl N (.seq .no (.seq (.seq .no (.block (.loop jA0 .no))) .no)) _
def s_l30Rd_of_m (b:List Z0) (c:List Int) (d:Int):Option (Z0×(List Int)×Int):=
 (oB (jtW N (b.length:Int) c d) fun a=>oB (idx b a.1) fun e=>some (e,a.2.1,a.2.2))
theorem jt3 :mK 141 ⟨⟨[.box 900000 0,.pv (.sl .str)],[(900000,false,[.pv (.sl (.int .u8)),pI])]⟩,⟨[pS],[(900000,false,[.pv (.sl (.int .u8)),pI])]⟩,c3A (s_l30Rd_of_m N)⟩:=
 mO (fC (jtX N) ja) func141 rfl N .no _ (rs:=[900000])
def jt1 (b:List Int) (c:Int):Option (Z0×(List Int)×Int):=
 (oB (s_l30Rd_of_m N ([([99,97,116]:List UInt8),([67,97,116,115]:List UInt8),([100,111,103]:List UInt8),([100,111,103,115]:List UInt8),([114,117,110]:List UInt8),([82,85,78,78,73,78,71]:List UInt8),([116,104,101]:List UInt8),([114,101,100]:List UInt8),([98,105,103]:List UInt8),([110,101,119,32,121,111,114,107]:List UInt8),([78,101,119,32,32,89,111,114,107]:List UInt8),([110,121]:List UInt8),([102,111,120]:List UInt8),([112,97,115,115,101,100]:List UInt8),([120,49]:List UInt8),([97,118,101,114,121,118,101,114,121,108,111,110,103,119,111,114,100]:List UInt8)]:List Z0) b c) fun a=>some (a.1,a.2.1,a.2.2))
theorem jvg :mK 256 ⟨⟨[.box 900000 0],[(900000,false,[.pv (.sl (.int .u8)),pI])]⟩,⟨[pS],[(900000,false,[.pv (.sl (.int .u8)),pI])]⟩,c2A (jt1 N)⟩:=
 mO (fC (jt3 N) ja) func256 rfl N .no _ (rs:=[900000])
def juP :Sh:=⟨.box 900000 0:: .dead:: .dead::pS::pI::dz 15 [],[(900000,false,[.pv (.sl (.int .u8)),pI])]⟩
def jtZ (i:List Int) (j:Int):Option (Z0×(List Int)×Int):=
 (oB (jtW N 9 i j) fun d=>iter (fun l (b,e,f,h)=>bif decide ((0:Int)<e)then oB (jt1 N f h) fun a=>(if b.length+a.1.length<=9223372036854775807 then oB (s_l30Rd_of_m N ([([32]:List UInt8),([32]:List UInt8),([44,32]:List UInt8),([45]:List UInt8),([46,32]:List UInt8)]:List Z0) a.2.1 a.2.2) fun c=>(if(b++a.1).length+c.1.length<=9223372036854775807 then if fits (e-1)then l (((b++a.1)++c.1),(e-1),c.2.1,c.2.2)else none else none)else none)else some (b,f,h)) N (([]:List UInt8),d.1,d.2.1,d.2.2))
theorem juT :mK 189 ⟨⟨[.box 900000 0],[(900000,false,[.pv (.sl (.int .u8)),pI])]⟩,⟨[pS],[(900000,false,[.pv (.sl (.int .u8)),pI])]⟩,c2A (jtZ N)⟩:=
 mO (fC (jtX N) (fC (jvg N) (fC (jt3 N) ja))) func189 rfl N (.seq .no (.seq .no (.seq (.seq .no (.block (.loop juP .no))) .no))) _ (rs:=[900000])
def juy :Sh:=⟨.box 900000 0::dz 3 (.box 4 0:: .box 5 0::dz 48 []),[(4,false,[pI,.nils,.nils]),(5,false,[pI,.own 28 Y19 120 true,.own 39 Y16 122 true]),(900000,false,[.pv (.sl (.int .u8)),pI])]⟩
def juX :Sh:=⟨.box 900000 0::dz 3 (.box 4 0:: .box 5 0::dz 48 []),[(4,false,[pI,.nils,.nils]),(5,false,[pI,.own 28 Y19 120 true,.nils]),(900000,false,[.pv (.sl (.int .u8)),pI])]⟩
def jvb :Sh:=⟨.box 900000 0::dz 3 (.box 4 0:: .box 5 0::dz 48 []),[(4,false,[pI,.nils,.nils]),(5,false,[pI,.own 17 Y19 120 true,.nils]),(900000,false,[.pv (.sl (.int .u8)),pI])]⟩
def s_l30Doc_m (o:Int) (E:List Int) (A:Int):Option (Int×Z11×Z6×(List Int)×Int):=
 (meet (fun(b:Int×Int×Z11×(List Int)×Int)=>match b with|(u,p,l,B,D)=>meet (fun(b:Int×Int×Z11×(List Int)×Int)=>match b with|(m,x,v,z,G)=>meet (fun(b:Int×Int×Z11×Z6×(List Int)×Int)=>match b with|(H,r,q,k,C,y)=>oB (jtW N 3 C y) fun c=>bif decide (c.1=0)then oB (jtW N 30 c.2.1 c.2.2) fun e=>(if fits (2000+e.1)then if room k.length ([(([121,101,97,114]:List UInt8),(2000+e.1))]:Z7).length 24 then some (r,q,(k++([(([121,101,97,114]:List UInt8),(2000+e.1))]:Z7)),e.2.1,e.2.2)else none else none)else some (r,q,k,c.2.1,c.2.2)) fun t=>oB (jtW N 3 z G) fun f=>bif decide ((0:Int)<f.1)then oB (jtW N 4 f.2.1 f.2.2) fun i=>(if room ([]:Z7).length ([(([114,97,116,101]:List UInt8),i.1)]:Z7).length 24 then t (m,x,v,(([]:Z7)++([(([114,97,116,101]:List UInt8),i.1)]:Z7)),i.2.1,i.2.2)else none)else t (m,x,v,([]:Z7),f.2.1,f.2.2)) fun w=>oB (jtW N 3 B D) fun a=>bif decide (a.1=0)then oB (jtZ N a.2.1 a.2.2) fun h=>(if room l.length ([(([116,105,116,108,101]:List UInt8),h.1)]:Z14).length 32 then w (u,p,(l++([(([116,105,116,108,101]:List UInt8),h.1)]:Z14)),h.2.1,h.2.2)else none)else w (u,p,l,a.2.1,a.2.2)) fun n=>oB (jtW N 6 E A) fun d=>bif decide ((0:Int)<d.1)then oB (jtZ N d.2.1 d.2.2) fun j=>(if room ([]:Z14).length ([(([98,111,100,121]:List UInt8),j.1)]:Z14).length 32 then n (0,o,(([]:Z14)++([(([98,111,100,121]:List UInt8),j.1)]:Z14)),j.2.1,j.2.2)else none)else n (0,o,([]:Z14),d.2.1,d.2.2))
theorem jvf :mK 138 ⟨⟨[.box 900000 0,pI],[(900000,false,[.pv (.sl (.int .u8)),pI])]⟩,⟨[.agg [pI,.own 1 Y19 120 true,.own 2 Y16 122 true]],[(900000,false,[.pv (.sl (.int .u8)),pI])]⟩,c3A (s_l30Doc_m N)⟩:=
 mO (fC (jtX N) (fC (juT N) ja)) func138 rfl N (.seq .no (.seq .no (.meet jvb .no (.meet juX .no (.meet juy .no .no))))) _ (rs:=[900000])
def juU :Sh:=⟨.box 900000 0:: .dead:: .dead:: .own 600003 Y3 51 true::pI::pI::dz 19 [],[(900000,false,[.pv (.sl (.int .u8)),pI])]⟩
def s_l30Docs_m (j:List Int) (k:Int):Option ((List Z2)×(List Int)×Int):=
 (oB (jtW N 6 j k) fun e=>iter (fun m (d,c,f,h,i)=>bif decide ((0:Int)<f)then if fits (c+1)then oB (jtW N 3 h i) fun b=>(if fits ((c+1)+b.1)then oB (s_l30Doc_m N ((c+1)+b.1) b.2.1 b.2.2) fun a=>(if room d.length ([(a.1,a.2.1,a.2.2.1)]:List Z2).length 56 then if fits (f-1)then m ((d++([(a.1,a.2.1,a.2.2.1)]:List Z2)),((c+1)+b.1),(f-1),a.2.2.2.1,a.2.2.2.2)else none else none)else none)else none else some (d,h,i)) N (([]:List Z2),(0:Int),e.1,e.2.1,e.2.2))
theorem juO :mK 115 ⟨⟨[.box 900000 0],[(900000,false,[.pv (.sl (.int .u8)),pI])]⟩,⟨[.own 1 Y3 51 true],[(900000,false,[.pv (.sl (.int .u8)),pI])]⟩,c2A (s_l30Docs_m N)⟩:=
 mO (fC (jtX N) (fC (jvf N) ja)) func115 rfl N (.seq .no (.seq .no (.seq .no (.seq (.seq .no (.block (.loop juU .no))) .no)))) _ (rs:=[900000])
def s_l30Rd_one_m (b:List Int) (c:List Int) (d:Int):Option (Int×(List Int)×Int):=
 (oB (jtW N (b.length:Int) c d) fun a=>oB (idx b a.1) fun e=>some (e,a.2.1,a.2.2))
theorem juA :mK 69 ⟨⟨[.box 900000 0,.pv Y20],[(900000,false,[.pv (.sl (.int .u8)),pI])]⟩,⟨[pI],[(900000,false,[.pv (.sl (.int .u8)),pI])]⟩,c3A (s_l30Rd_one_m N)⟩:=
 mO (fC (jtX N) ja) func69 rfl N .no _ (rs:=[900000])
def jaw (N:Nat) (a:Int):Z8:=
 (bif decide ((97:Int)<=a)then bif decide (a<=122)then some true else(bif decide ((48:Int)<=a)then some (decide (a<=57))else some false)else bif decide ((48:Int)<=a)then some (decide (a<=57))else some false)
theorem jeK :mK 153 (bX [.pv (.int .u8)] [pB] (c1A (jaw N))):=
 mO ja func153 rfl N .no _
def jm (N:Nat) (a:Int) (b:Int) (c:Int):Z8:=
 (bif decide (b<=a)then some (decide (a<=c))else some false)
theorem jY :mK 67 (bX [pI,pI,pI] [pB] (c3A (jm N))):=
 mO ja func67 rfl N .no _
def jqW :Sh:=⟨pS::dz 4 (pI::pI::dz 11 []),[]⟩
def jO (d:List UInt8):Z8:=
 (iter (fun j (b,c,a)=>bif decide (a<c)then oB (idx b a) fun f=>(oB (jaw N (f.toNat:Int)) fun e=>bif !e then some false else if fits (a+1)then j (b,c,(a+1))else none)else oB (jm N (b.length:Int) 1 12) fun h=>some h) N (d,(d.length:Int),(0:Int)))
theorem jcM :mK 85 (bX [pS] [pB] (c1A (jO N))):=
 mO (fC (jeK N) (fC (jY N) ja)) func85 rfl N (.seq .no (.seq (.seq .no (.block (.loop jqW .no))) .no)) _
def jmc :Sh:=⟨.pv (.sl .str)::dz 4 (.pv (.sl .str)::pI::pI::dz 21 []),[]⟩
def jb2 (c:List Z0):Z8:=
 (iter (fun h (e,b,d,a)=>bif decide (a<d)then oB (idx b a) fun f=>(oB (jO N f) fun i=>bif !i then some false else bif decide ((0:Int)<a)then if fits (a-1)then oB (idx e (a-1)) fun k=>(bif !Op.bytesLess k f then some false else if fits (a+1)then h (e,b,d,(a+1))else none)else none else if fits (a+1)then h (e,b,d,(a+1))else none)else some true) N (c,c,(c.length:Int),(0:Int)))
theorem jtw :mK 86 (bX [.pv (.sl .str)] [pB] (c1A (jb2 N))):=
 mO (fC (jcM N) ja) func86 rfl N (.seq .no (.seq (.seq .no (.block (.loop jmc .no))) .no)) _
def jdF (N:Nat) (a:List UInt8) (b:List UInt8):Z8:=
 (bif decide ((b.length:Int)<=(a.length:Int))then if fits ((a.length:Int)-(b.length:Int))then oB (cut a ((a.length:Int)-(b.length:Int)) (a.length:Int)) fun c=>(some (decide (c=b)))else none else some false)
theorem jpU :mK 209 (bX [pS,pS] [pB] (c2A (jdF N))):=
 mO ja func209 rfl N .no _
def jcN (b:List UInt8) (a:List UInt8):Z8:=
 (oB (jdF N b a) fun c=>some c)
theorem jsu :mK 154 (bX [pS,pS] [pB] (c2A (jcN N))):=
 mO (fC (jpU N) ja) func154 rfl N .no _
def jod :Sh:=⟨pS:: .dead:: .dead::pB::dz 32 [],[]⟩
def jnf :Sh:=⟨pS:: .dead:: .dead::pB::dz 6 (.own 600010 .str 9 true::pI::pI::dz 23 []),[]⟩
def jaB (i:List UInt8):Option (Z0):=
 (oB (jO N i) fun o=>bif !o then some ([]:List UInt8)else iter (fun l (j,m)=>bif m then iter (fun k (a,d,e,h,b)=>bif decide (b<h)then oB (idx e b) fun c=>(oB (jcN N a c) fun p=>bif p then if fits ((a.length:Int)-(c.length:Int))then bif decide ((3:Int)<=((a.length:Int)-(c.length:Int)))then if fits ((a.length:Int)-(c.length:Int))then oB (cut a 0 ((a.length:Int)-(c.length:Int))) fun n=>(l (n,true))else none else(if fits (b+1)then k (a,d,e,h,(b+1))else none)else none else if fits (b+1)then k (a,d,e,h,(b+1))else none)else l (a,d)) N (j,false,([([105,110,103]:List UInt8),([101,100]:List UInt8),([101,115]:List UInt8),([108,121]:List UInt8),([115]:List UInt8)]:List Z0),(([([105,110,103]:List UInt8),([101,100]:List UInt8),([101,115]:List UInt8),([108,121]:List UInt8),([115]:List UInt8)]:List Z0).length:Int),(0:Int))else some j) N (i,true))
theorem jio :mK 87 (bX [pS] [pS] (c1A (jaB N))):=
 mO (fC (jcM N) (fC (jsu N) ja)) func87 rfl N (.seq .no (.seq .no (.seq (.seq .no (.block (.loop jod (.seq .no (.block (.seq .no (.seq .no (.block (.loop jnf .no))))))))) .no))) _
def jkJ :Sh:=⟨.pv (.sl .str)::pS::dz 5 (pI::pI::dz 10 []),[]⟩
def jdH (c:List Z0) (f:List UInt8):Z13:=
 (iter (fun j (d,e,b,a)=>bif decide (a<b)then oB (idx d a) fun h=>(bif decide (e=h)then some a else if fits (a+1)then j (d,e,b,(a+1))else none)else some (-1)) N (c,f,(c.length:Int),(0:Int)))
theorem jkZ :mK 155 (bX [.pv (.sl .str),pS] [pI] (c2A (jdH N))):=
 mO ja func155 rfl N (.seq .no (.seq (.seq .no (.block (.loop jkJ .no))) .no)) _
def jao (a:List Z0) (c:List UInt8):Z8:=
 (oB (jdH N a c) fun b=>some (decide ((0:Int)<=b)))
theorem jh5 :mK 88 (bX [.pv (.sl .str),pS] [pB] (c2A (jao N))):=
 mO (fC (jkZ N) ja) func88 rfl N .no _
def jmj :Sh:=⟨.dead:: .box 1 0::dz 22 (.pv Y15::pI::pI::dz 46 []),[(1,false,[.pv (.sl .str),.pv Y15])]⟩
def jrC :Sh:=⟨.dead:: .box 1 0::dz 22 (.pv Y15::pI::pI::dz 12 (pB::dz 7 (pB:: .dead:: .dead:: .pv (.sl .str)::pI::pI::dz 20 []))),[(1,false,[.pv (.sl .str),.pv Y15])]⟩
def jaj (f:List Z0) (b:List Z4):Z8:=
 (bif decide ((6:Int)<f.length)then some false else oB (jb2 N f) fun C=>bif !C then some false else bif decide ((4:Int)<b.length)then some false else iter (fun y (r,l,h,v,u)=>bif decide (h<l)then oB (idx r h) fun a=>(oB (jm N (a.1.length:Int) 1 3) fun D=>bif !D then some false else oB (jO N a.2) fun m=>bif !m then some false else oB (jaB N a.2) fun k=>bif !decide (k=a.2)then some false else iter (fun x (p,q,e,w,z,t,n,d,j,o)=>bif decide (d<n)then oB (idx t d) fun c=>(oB (jO N c) fun E=>bif !E then some false else oB (jaB N c) fun A=>bif !decide (A=c)then some false else oB (jao N j c) fun B=>bif B then some false else if fits (d+1)then x (p,q,e,w,z,t,n,(d+1),j,o)else none)else if fits (e+1)then y (p,q,(e+1),j,o)else none) N (r,l,h,(!m),(!decide (k=a.2)),a.1,(a.1.length:Int),(0:Int),v,u))else some true) N (b,(b.length:Int),(0:Int),f,b))
theorem jdX :mK 29 (bX [.agg [.pv (.sl .str),.pv Y15]] [pB] (c2A (jaj N))):=
 mO (fC (jtw N) (fC (jY N) (fC (jcM N) (fC (jio N) (fC (jh5 N) ja))))) func29 rfl N (.seq .no (.seq .no (.seq (.seq .no (.block (.loop jmj (.seq .no (.seq .no (.seq (.block (.seq .no (.seq .no (.seq .no (.block (.loop jrC .no)))))) .no)))))) .no))) _
def jtd :Sh:=⟨pS::dz 4 (pI::pI::dz 16 []),[]⟩
def jaF (d:List UInt8):Z8:=
 (iter (fun i (b,c,a)=>bif decide (a<c)then oB (idx b a) fun e=>(bif decide ((e.toNat:Int)<32)then some false else oB (idx b a) fun f=>bif decide ((126:Int)<(f.toNat:Int))then some false else if fits (a+1)then i (b,c,(a+1))else none)else some (decide ((b.length:Int)<=160))) N (d,(d.length:Int),(0:Int)))
theorem jdK :mK 89 (bX [pS] [pB] (c1A (jaF N))):=
 mO ja func89 rfl N (.seq .no (.seq (.seq .no (.block (.loop jtd .no))) .no)) _
def jlC :Sh:=⟨.dead:: .box 1 0::dz 22 (.pv Y18::pI::pI::dz 66 []),[(1,false,[pI,.pv Y18,.pv Y14])]⟩
def jpt :Sh:=⟨.dead:: .box 1 0::dz 57 (.pv Y14::pI::pI::dz 31 []),[(1,false,[pI,.pv Y18,.pv Y14])]⟩
def jbx (q:Int) (d:Z14) (v:Z7):Z8:=
 (oB (jm N q 1 9999) fun z=>bif !z then some false else bif decide ((3:Int)<d.length)then some false else bif decide ((3:Int)<v.length)then some false else iter (fun u (k,f,b,o,e,c)=>bif decide (b<f)then oB (idx k b) fun n=>(oB (jO N n.1) fun A=>bif !A then some false else oB (jaF N n.2) fun x=>bif !x then some false else bif decide ((0:Int)<b)then if fits (b-1)then oB (idx e (b-1)) fun y=>(bif !Op.bytesLess y.1 n.1 then some false else if fits (b+1)then u (k,f,(b+1),o,e,c)else none)else none else if fits (b+1)then u (k,f,(b+1),o,e,c)else none)else iter (fun t (l,m,a,p,r,h)=>bif decide (a<m)then oB (idx l a) fun i=>(oB (jO N i.1) fun w=>bif !w then some false else oB (jm N i.2 0 999999999) fun C=>bif !C then some false else bif decide ((0:Int)<a)then if fits (a-1)then oB (idx h (a-1)) fun B=>(bif !Op.bytesLess B.1 i.1 then some false else if fits (a+1)then t (l,m,(a+1),p,r,h)else none)else none else if fits (a+1)then t (l,m,(a+1),p,r,h)else none)else some true) N (c,(c.length:Int),(0:Int),o,e,c)) N (d,(d.length:Int),(0:Int),q,d,v))
theorem jh0 :mK 30 (bX [.agg [pI,.pv Y18,.pv Y14]] [pB] (c3A (jbx N))):=
 mO (fC (jY N) (fC (jcM N) (fC (jdK N) ja))) func30 rfl N (.seq .no (.seq .no (.seq (.seq .no (.block (.loop jlC .no))) (.seq (.seq .no (.block (.loop jpt .no))) .no)))) _
def jpj :Sh:=⟨.pv Y2::dz 4 (.pv Y2::pI::pI::dz 26 []),[]⟩
def jbf (e:List Z2):Z8:=
 (iter (fun h (c,d,f,a)=>bif decide (a<f)then oB (idx d a) fun b=>(oB (jbx N b.1 b.2.1 b.2.2) fun i=>bif !i then some false else bif decide ((0:Int)<a)then if fits (a-1)then oB (idx c (a-1)) fun k=>(bif decide (b.1<=k.1)then some false else if fits (a+1)then h (c,d,f,(a+1))else none)else none else if fits (a+1)then h (c,d,f,(a+1))else none)else some (decide ((c.length:Int)<=16))) N (e,e,(e.length:Int),(0:Int)))
theorem jjU :mK 31 (bX [.pv Y2] [pB] (c1A (jbf N))):=
 mO (fC (jh0 N) ja) func31 rfl N (.seq .no (.seq (.seq .no (.block (.loop jpj .no))) .no)) _
def jbO (N:Nat) (c:Int) (a:Z14) (b:Z7):Option Z2:=
 (if room ([]:Z14).length a.length 32 then if room ([]:Z7).length b.length 24 then some (c,(([]:Z14)++a),(([]:Z7)++b))else none else none)
theorem jrI :mK 129 (bX [.agg [pI,.pv Y18,.pv Y14]] [.agg [pI,.own 1 Y19 120 true,.own 2 Y16 122 true]] (c3A (jbO N))):=
 mO ja func129 rfl N .no _
def joW :Sh:=⟨dz 3 (.own 600003 Y3 51 true::dz 3 (.pv Y2::pI::pI::dz 10 [])),[]⟩
def jbV (h:List Z2):Option ((List Z2)):=
 (iter (fun j (b,e,d,a)=>bif decide (a<d)then oB (idx e a) fun c=>(oB (jbO N c.1 c.2.1 c.2.2) fun f=>if room b.length ([f]:List Z2).length 56 then if fits (a+1)then j ((b++([f]:List Z2)),e,d,(a+1))else none else none)else some b) N (([]:List Z2),h,(h.length:Int),(0:Int)))
theorem joC :mK 65 (bX [.pv Y2] [.own 1 Y3 51 true] (c1A (jbV N))):=
 mO (fC (jrI N) ja) func65 rfl N (.seq .no (.seq .no (.seq (.seq .no (.block (.loop joW .no))) .no))) _
def jI (N:Nat) (a:Int):Z13:=
 (bif decide ((65:Int)<=a)then bif decide (a<=90)then some (IntKind.u8.wrap ((IntKind.u8.wrap (a+97))-65))else(some a)else some a)
theorem jmu :mK 210 (bX [.pv (.int .u8)] [.pv (.int .u8)] (c1A (jI N))):=
 mO ja func210 rfl N .no _
def jpB :Sh:=⟨pS:: .dead:: .dead:: .own 600003 Y6 196 true::pI::dz 57 [],[]⟩
def jo6 :Sh:=⟨pS:: .dead:: .dead:: .own 600003 Y6 196 true::pI:: .box 5 0:: .own 600006 (.int .u8) 5 true::dz 55 [],[(5,false,[pS,pI,pI,pI])]⟩
def jct (p:List UInt8):Option ((List Z9)):=
 (oB (jaF N p) fun x=>bif !x then some ([]:List Z9)else iter (fun l (j,i,f)=>bif decide (f<(j.length:Int))then oB (idx j f) fun u=>(oB (jI N (u.toNat:Int)) fun y=>oB (jaw N y) fun w=>bif !w then if fits (f+1)then l (j,i,(f+1))else none else iter (fun m (c,e,a,b,q,h,d,o)=>bif decide (a<(c.length:Int))then oB (idx c a) fun v=>(oB (jI N (v.toNat:Int)) fun r=>oB (jaw N r) fun z=>bif z then bif decide ((b.length:Int)<12)then oB (idx c a) fun t=>(oB (jI N (t.toNat:Int)) fun n=>if room b.length ([n]:List Int).length 1 then if fits (a+1)then m (c,e,(a+1),(b++([n]:List Int)),q,h,d,o)else none else none)else(if fits (a+1)then m (c,e,(a+1),b,q,h,d,o)else none)else if room e.length ([((bytesOf b),h,d,a)]:List Z9).length 40 then l (c,(e++([((bytesOf b),h,d,a)]:List Z9)),a)else none)else if room e.length ([((bytesOf b),h,d,a)]:List Z9).length 40 then l (c,(e++([((bytesOf b),h,d,a)]:List Z9)),a)else none) N (j,i,f,([]:List Int),([]:List UInt8),(i.length:Int),f,(0:Int)))else some i) N (p,([]:List Z9),(0:Int)))
theorem jqc :mK 156 (bX [pS] [.own 1 Y6 196 true] (c1A (jct N))):=
 mO (fC (jdK N) (fC (jmu N) (fC (jeK N) ja))) func156 rfl N (.seq .no (.seq .no (.seq .no (.seq (.seq .no (.block (.loop jpB (.seq .no (.block (.seq .no (.seq .no (.seq .no (.seq (.block (.loop jo6 .no)) .no))))))))) .no)))) _
def jty :Sh:=⟨.dead:: .pv Y14::pI:: .box 3 0::dz 3 (.pv (.opt Y17)::dz 8 (pI::pI::dz 73 [])),[(3,false,[.pv (.sl .str),.pv Y15])]⟩
def jss :Sh:=⟨.dead:: .pv Y14::pI:: .box 3 0::dz 3 (.pv (.opt Y17):: .dead:: .ptr Y17::pB::dz 5 (pI::pI::dz 31 (pB::dz 4 (.pv (.sl .str)::pI::pI::dz 34 [])))),[(3,false,[.pv (.sl .str),.pv Y15])]⟩
def jbH (c:List Z0) (c2:List Z4) (terms:Z7) (at0:Int):Option ((Option Z4)):=
 (iter (fun go (terms2,at02,best,t16,t17,c3,c4)=>bif decide (t17<t16)then oB (idx c4 t17) fun e=>(if fits ((terms2.length:Int)-at02)then bif decide (((terms2.length:Int)-at02)<(e.1.length:Int))then if fits (t17+1)then go (terms2,at02,best,t16,(t17+1),c3,c4)else none else(bif !(Option.isNone best)then oB best fun p=>(bif decide ((e.1.length:Int)<=(p.1.length:Int))then if fits (t17+1)then go (terms2,at02,best,t16,(t17+1),c3,c4)else none else iter (fun go2 (terms3,at03,best2,r,fits0,t162,t172,t49,t54,t55,t56,c5,c6)=>bif decide (t56<t55)then oB (idx t54 t56) fun e2=>(if fits (at03+t56)then oB (idx terms3 (at03+t56)) fun e3=>(bif fits0 then bif decide (e3.1=e2)then oB (idx terms3 at03) fun e4=>(if fits (e4.2+t56)then if fits (t56+1)then go2 (terms3,at03,best2,r,(decide (e3.2=(e4.2+t56))),t162,t172,t49,t54,t55,(t56+1),c5,c6)else none else none)else(if fits (t56+1)then go2 (terms3,at03,best2,r,false,t162,t172,t49,t54,t55,(t56+1),c5,c6)else none)else if fits (t56+1)then go2 (terms3,at03,best2,r,false,t162,t172,t49,t54,t55,(t56+1),c5,c6)else none)else none)else bif fits0 then if fits (t172+1)then go (terms3,at03,(some r),t162,(t172+1),c5,c6)else none else if fits (t172+1)then go (terms3,at03,best2,t162,(t172+1),c5,c6)else none) N (terms2,at02,best,e,true,t16,t17,(decide ((e.1.length:Int)<=(p.1.length:Int))),e.1,(e.1.length:Int),(0:Int),c3,c4))else iter (fun go3 (terms4,at04,best3,r2,fits02,t163,t173,t492,t542,t552,t562,c7,c8)=>bif decide (t562<t552)then oB (idx t542 t562) fun e5=>(if fits (at04+t562)then oB (idx terms4 (at04+t562)) fun e6=>(bif fits02 then bif decide (e6.1=e5)then oB (idx terms4 at04) fun e7=>(if fits (e7.2+t562)then if fits (t562+1)then go3 (terms4,at04,best3,r2,(decide (e6.2=(e7.2+t562))),t163,t173,t492,t542,t552,(t562+1),c7,c8)else none else none)else(if fits (t562+1)then go3 (terms4,at04,best3,r2,false,t163,t173,t492,t542,t552,(t562+1),c7,c8)else none)else if fits (t562+1)then go3 (terms4,at04,best3,r2,false,t163,t173,t492,t542,t552,(t562+1),c7,c8)else none)else none)else bif fits02 then if fits (t173+1)then go (terms4,at04,(some r2),t163,(t173+1),c7,c8)else none else if fits (t173+1)then go (terms4,at04,best3,t163,(t173+1),c7,c8)else none) N (terms2,at02,best,e,true,t16,t17,false,e.1,(e.1.length:Int),(0:Int),c3,c4))else none)else some best) N (terms,at0,(none:Option Z4),(c2.length:Int),(0:Int),c,c2))
theorem jtv :mK 157 (bX [.agg [.pv (.sl .str),.pv Y15],.pv Y14,pI] [.pv (.opt Y17)] (c4A (jbH N))):=
 mO ja func157 rfl N (.seq .no (.seq .no (.seq (.seq .no (.block (.loop jty (.seq .no (.seq .no (.seq (.block (.seq .no (.seq .no (.seq .no (.seq .no (.seq (.seq .no (.block (.loop jss .no))) .no)))))) .no)))))) .no))) _
def jlW :Sh:=⟨.dead:: .dead:: .box 2 0:: .dead:: .dead:: .own 600005 Y16 126 true:: .own 600006 Y16 126 true::dz 17 (.own 600024 Y6 196 true::pI::pI::dz 67 []),[(2,false,[.pv (.sl .str),.pv Y15])]⟩
def jnt :Sh:=⟨.dead:: .dead:: .box 2 0:: .dead:: .dead:: .own 600005 Y16 126 true:: .own 600006 Y16 126 true::dz 3 (pI::dz 83 []),[(2,false,[.pv (.sl .str),.pv Y15])]⟩
def jbw (u:List Z0) (w:List Z4) (B:List UInt8):Option (Z6):=
 (oB (jaj N u w) fun D=>bif !D then some ([]:Z7)else oB (jaF N B) fun E=>bif !E then some ([]:Z7)else oB (jct N B) fun x=>iter (fun p (h,f,k,j,a,c,i)=>bif decide (a<j)then oB (idx k a) fun l=>(oB (jaB N l.1) fun m=>oB (jao N c l.1) fun G=>bif !G then oB (jao N c m) fun C=>(bif !C then if room f.length ([(m,l.2.1)]:Z7).length 24 then if fits (a+1)then p (h,(f++([(m,l.2.1)]:Z7)),k,j,(a+1),c,i)else none else none else if fits (a+1)then p (h,f,k,j,(a+1),c,i)else none)else if fits (a+1)then p (h,f,k,j,(a+1),c,i)else none)else iter (fun y (e,d,b,r,n)=>bif decide (b<(d.length:Int))then oB (jbH N r n d b) fun q=>(bif Option.isNone q then oB (idx d b) fun z=>(if room e.length ([z]:Z7).length 24 then if fits (b+1)then y ((e++([z]:Z7)),d,(b+1),r,n)else none else none)else oB q fun A=>oB (idx d b) fun v=>if room e.length ([(A.2,v.2)]:Z7).length 24 then oB q fun t=>(if fits (b+(t.1.length:Int))then y ((e++([(A.2,v.2)]:Z7)),d,(b+(t.1.length:Int)),r,n)else none)else none)else some e) N (h,f,(0:Int),c,i)) N (([]:Z7),([]:Z7),x,(x.length:Int),(0:Int),u,w))
theorem jgO :mK 90 (bX [.agg [.pv (.sl .str),.pv Y15],pS] [.own 1 Y16 126 true] (c3A (jbw N))):=
 mO (fC (jdX N) (fC (jdK N) (fC (jqc N) (fC (jio N) (fC (jh5 N) (fC (jtv N) ja)))))) func90 rfl N (.seq .no (.seq .no (.seq .no (.seq .no (.seq (.seq .no (.block (.loop jlW .no))) (.seq (.seq .no (.block (.loop jnt .no))) .no)))))) _
def k__loop_example_fossick_impl_Seg_put_1_m (N:Nat) (c:List UInt8) (d:List UInt8) (e:Z3) (b:List UInt8) (a:Z0×Int):Z8:=
 (bif decide (c=b)then some (decide (d=a.1))else some false)
theorem jmw :mK 159 (bX [.agg [pS,pS,.pv Y11],.ptr .str,.ptr Y16] [pB] (c5A (k__loop_example_fossick_impl_Seg_put_1_m N))):=
 mO ja func159 rfl N .no _
def jnc :Sh:=⟨.pv Y4:: .clo 159 [.ptr .str,.ptr Y16]::dz 5 (pI::pI::dz 10 []),[]⟩
def k_slices_IndexFunc_146_m (e:List Z1) (i:Z0×Z0×Int):Z13:=
 (iter (fun k (f,b,d,a)=>bif decide (a<d)then oB (idx f a) fun c=>(oB (k__loop_example_fossick_impl_Seg_put_1_m N c.1 c.2.1 c.2.2 b.1 b.2) fun h=>bif h then some a else if fits (a+1)then k (f,b,d,(a+1))else none)else some (-1)) N (e,i,(e.length:Int),(0:Int)))
theorem jrl :mK 158 (bX [.pv Y4,.clo 159 [.ptr .str,.ptr Y16]] [pI] (c2A (k_slices_IndexFunc_146_m N))):=
 mO (fC (jmw N) ja) func158 rfl N (.seq .no (.seq (.seq .no (.block (.loop jnc .no))) .no)) _
def i_Seg_put_m (f:List UInt8) (h:List UInt8) (i:Int) (e:Int) (q:List Z2) (a:List Z1):Option ((List Z2)×(List Z1)):=
 (oB (k_slices_IndexFunc_146_m N a (f,h,i)) fun d=>bif decide (d<0)then if room a.length ([(f,h,([]:Z3))]:List Z1).length 56 then if 0<=(a.length:Int)/\(a.length:Int)<((a++([(f,h,([]:Z3))]:List Z1)).length:Int)then oB ((a++([(f,h,([]:Z3))]:List Z1))[(a.length:Int).toNat]?) fun c=>(if fits ((c.2.2.length:Int)-1)then bif decide (((c.2.2.length:Int)-1)<0)then oB ((a++([(f,h,([]:Z3))]:List Z1))[(a.length:Int).toNat]?) fun T=>(if(a.length:Int).toNat=(a.length:Int).toNat then if room c.2.2.length ([(e,([]:List Int))]:Z3).length 32 then if(a.length:Int).toNat=(a.length:Int).toNat then oB ((a++([(f,h,([]:Z3))]:List Z1))[(a.length:Int).toNat]?) fun j=>(if fits (((c.2.2.length:Int)-1)+1)then oB (((a++([(f,h,([]:Z3))]:List Z1)).set (a.length:Int).toNat (j.1,j.2.1,(c.2.2++([(e,([]:List Int))]:Z3))))[(a.length:Int).toNat]?) fun r=>(oB (r.2.2[(((c.2.2.length:Int)-1)+1).toNat]?) fun x=>oB (((a++([(f,h,([]:Z3))]:List Z1)).set (a.length:Int).toNat (j.1,j.2.1,(c.2.2++([(e,([]:List Int))]:Z3))))[(a.length:Int).toNat]?) fun U=>if(a.length:Int).toNat=(a.length:Int).toNat then oB (((a++([(f,h,([]:Z3))]:List Z1)).set (a.length:Int).toNat (j.1,j.2.1,(c.2.2++([(e,([]:List Int))]:Z3))))[(a.length:Int).toNat]?) fun ab=>(if(a.length:Int).toNat=(a.length:Int).toNat then if 0<=(((c.2.2.length:Int)-1)+1)/\(((c.2.2.length:Int)-1)+1)<(r.2.2.length:Int)then oB (r.2.2[(((c.2.2.length:Int)-1)+1).toNat]?) fun R=>(if(((c.2.2.length:Int)-1)+1).toNat=(((c.2.2.length:Int)-1)+1).toNat then if room x.2.length ([i]:List Int).length 8 then if 0<=(((c.2.2.length:Int)-1)+1)/\(((c.2.2.length:Int)-1)+1)<(r.2.2.length:Int)then if(((c.2.2.length:Int)-1)+1).toNat=(((c.2.2.length:Int)-1)+1).toNat then oB (r.2.2[(((c.2.2.length:Int)-1)+1).toNat]?) fun K=>(some (q,(((a++([(f,h,([]:Z3))]:List Z1)).set (a.length:Int).toNat (j.1,j.2.1,(c.2.2++([(e,([]:List Int))]:Z3)))).modify ((a.length:Int).toNat) fun C=>(C.1,C.2.1,(r.2.2.set (((c.2.2.length:Int)-1)+1).toNat (K.1,(x.2++([i]:List Int))))))))else none else none else none else none)else none else none)else none)else none)else none else none else none)else(oB ((a++([(f,h,([]:Z3))]:List Z1))[(a.length:Int).toNat]?) fun ag=>if(a.length:Int).toNat=(a.length:Int).toNat then if 0<=((c.2.2.length:Int)-1)/\((c.2.2.length:Int)-1)<(c.2.2.length:Int)then oB (c.2.2[((c.2.2.length:Int)-1).toNat]?) fun I=>(bif !decide (I.1=e)then oB ((a++([(f,h,([]:Z3))]:List Z1))[(a.length:Int).toNat]?) fun ad=>(if(a.length:Int).toNat=(a.length:Int).toNat then if room c.2.2.length ([(e,([]:List Int))]:Z3).length 32 then if(a.length:Int).toNat=(a.length:Int).toNat then oB ((a++([(f,h,([]:Z3))]:List Z1))[(a.length:Int).toNat]?) fun k=>(if fits (((c.2.2.length:Int)-1)+1)then oB (((a++([(f,h,([]:Z3))]:List Z1)).set (a.length:Int).toNat (k.1,k.2.1,(c.2.2++([(e,([]:List Int))]:Z3))))[(a.length:Int).toNat]?) fun o=>(oB (o.2.2[(((c.2.2.length:Int)-1)+1).toNat]?) fun t=>oB (((a++([(f,h,([]:Z3))]:List Z1)).set (a.length:Int).toNat (k.1,k.2.1,(c.2.2++([(e,([]:List Int))]:Z3))))[(a.length:Int).toNat]?) fun ac=>if(a.length:Int).toNat=(a.length:Int).toNat then oB (((a++([(f,h,([]:Z3))]:List Z1)).set (a.length:Int).toNat (k.1,k.2.1,(c.2.2++([(e,([]:List Int))]:Z3))))[(a.length:Int).toNat]?) fun W=>(if(a.length:Int).toNat=(a.length:Int).toNat then if 0<=(((c.2.2.length:Int)-1)+1)/\(((c.2.2.length:Int)-1)+1)<(o.2.2.length:Int)then oB (o.2.2[(((c.2.2.length:Int)-1)+1).toNat]?) fun ai=>(if(((c.2.2.length:Int)-1)+1).toNat=(((c.2.2.length:Int)-1)+1).toNat then if room t.2.length ([i]:List Int).length 8 then if 0<=(((c.2.2.length:Int)-1)+1)/\(((c.2.2.length:Int)-1)+1)<(o.2.2.length:Int)then if(((c.2.2.length:Int)-1)+1).toNat=(((c.2.2.length:Int)-1)+1).toNat then oB (o.2.2[(((c.2.2.length:Int)-1)+1).toNat]?) fun O=>(some (q,(((a++([(f,h,([]:Z3))]:List Z1)).set (a.length:Int).toNat (k.1,k.2.1,(c.2.2++([(e,([]:List Int))]:Z3)))).modify ((a.length:Int).toNat) fun v=>(v.1,v.2.1,(o.2.2.set (((c.2.2.length:Int)-1)+1).toNat (O.1,(t.2++([i]:List Int))))))))else none else none else none else none)else none else none)else none)else none)else none else none else none)else if(a.length:Int).toNat=(a.length:Int).toNat then oB (c.2.2[((c.2.2.length:Int)-1).toNat]?) fun w=>(oB ((a++([(f,h,([]:Z3))]:List Z1))[(a.length:Int).toNat]?) fun ao=>if(a.length:Int).toNat=(a.length:Int).toNat then oB ((a++([(f,h,([]:Z3))]:List Z1))[(a.length:Int).toNat]?) fun ak=>(if(a.length:Int).toNat=(a.length:Int).toNat then if 0<=((c.2.2.length:Int)-1)/\((c.2.2.length:Int)-1)<(c.2.2.length:Int)then oB (c.2.2[((c.2.2.length:Int)-1).toNat]?) fun an=>(if((c.2.2.length:Int)-1).toNat=((c.2.2.length:Int)-1).toNat then if room w.2.length ([i]:List Int).length 8 then if 0<=((c.2.2.length:Int)-1)/\((c.2.2.length:Int)-1)<(c.2.2.length:Int)then if((c.2.2.length:Int)-1).toNat=((c.2.2.length:Int)-1).toNat then oB (c.2.2[((c.2.2.length:Int)-1).toNat]?) fun H=>(some (q,((a++([(f,h,([]:Z3))]:List Z1)).modify ((a.length:Int).toNat) fun u=>(u.1,u.2.1,(c.2.2.set ((c.2.2.length:Int)-1).toNat (H.1,(w.2++([i]:List Int))))))))else none else none else none else none)else none else none)else none)else none)else none else none)else none)else none else none else if 0<=d/\d<(a.length:Int)then oB (a[d.toNat]?) fun b=>(if fits ((b.2.2.length:Int)-1)then bif decide (((b.2.2.length:Int)-1)<0)then oB (a[d.toNat]?) fun ap=>(if d.toNat=d.toNat then if room b.2.2.length ([(e,([]:List Int))]:Z3).length 32 then if d.toNat=d.toNat then oB (a[d.toNat]?) fun l=>(if fits (((b.2.2.length:Int)-1)+1)then oB ((a.set d.toNat (l.1,l.2.1,(b.2.2++([(e,([]:List Int))]:Z3))))[d.toNat]?) fun p=>(oB (p.2.2[(((b.2.2.length:Int)-1)+1).toNat]?) fun z=>oB ((a.set d.toNat (l.1,l.2.1,(b.2.2++([(e,([]:List Int))]:Z3))))[d.toNat]?) fun X=>if d.toNat=d.toNat then oB ((a.set d.toNat (l.1,l.2.1,(b.2.2++([(e,([]:List Int))]:Z3))))[d.toNat]?) fun ah=>(if d.toNat=d.toNat then if 0<=(((b.2.2.length:Int)-1)+1)/\(((b.2.2.length:Int)-1)+1)<(p.2.2.length:Int)then oB (p.2.2[(((b.2.2.length:Int)-1)+1).toNat]?) fun ae=>(if(((b.2.2.length:Int)-1)+1).toNat=(((b.2.2.length:Int)-1)+1).toNat then if room z.2.length ([i]:List Int).length 8 then if 0<=(((b.2.2.length:Int)-1)+1)/\(((b.2.2.length:Int)-1)+1)<(p.2.2.length:Int)then if(((b.2.2.length:Int)-1)+1).toNat=(((b.2.2.length:Int)-1)+1).toNat then oB (p.2.2[(((b.2.2.length:Int)-1)+1).toNat]?) fun G=>(some (q,((a.set d.toNat (l.1,l.2.1,(b.2.2++([(e,([]:List Int))]:Z3)))).modify d.toNat fun y=>(y.1,y.2.1,(p.2.2.set (((b.2.2.length:Int)-1)+1).toNat (G.1,(z.2++([i]:List Int))))))))else none else none else none else none)else none else none)else none)else none)else none else none else none)else(oB (a[d.toNat]?) fun aj=>if d.toNat=d.toNat then if 0<=((b.2.2.length:Int)-1)/\((b.2.2.length:Int)-1)<(b.2.2.length:Int)then oB (b.2.2[((b.2.2.length:Int)-1).toNat]?) fun Q=>(bif !decide (Q.1=e)then oB (a[d.toNat]?) fun aa=>(if d.toNat=d.toNat then if room b.2.2.length ([(e,([]:List Int))]:Z3).length 32 then if d.toNat=d.toNat then oB (a[d.toNat]?) fun m=>(if fits (((b.2.2.length:Int)-1)+1)then oB ((a.set d.toNat (m.1,m.2.1,(b.2.2++([(e,([]:List Int))]:Z3))))[d.toNat]?) fun n=>(oB (n.2.2[(((b.2.2.length:Int)-1)+1).toNat]?) fun B=>oB ((a.set d.toNat (m.1,m.2.1,(b.2.2++([(e,([]:List Int))]:Z3))))[d.toNat]?) fun al=>if d.toNat=d.toNat then oB ((a.set d.toNat (m.1,m.2.1,(b.2.2++([(e,([]:List Int))]:Z3))))[d.toNat]?) fun S=>(if d.toNat=d.toNat then if 0<=(((b.2.2.length:Int)-1)+1)/\(((b.2.2.length:Int)-1)+1)<(n.2.2.length:Int)then oB (n.2.2[(((b.2.2.length:Int)-1)+1).toNat]?) fun am=>(if(((b.2.2.length:Int)-1)+1).toNat=(((b.2.2.length:Int)-1)+1).toNat then if room B.2.length ([i]:List Int).length 8 then if 0<=(((b.2.2.length:Int)-1)+1)/\(((b.2.2.length:Int)-1)+1)<(n.2.2.length:Int)then if(((b.2.2.length:Int)-1)+1).toNat=(((b.2.2.length:Int)-1)+1).toNat then oB (n.2.2[(((b.2.2.length:Int)-1)+1).toNat]?) fun L=>(some (q,((a.set d.toNat (m.1,m.2.1,(b.2.2++([(e,([]:List Int))]:Z3)))).modify d.toNat fun A=>(A.1,A.2.1,(n.2.2.set (((b.2.2.length:Int)-1)+1).toNat (L.1,(B.2++([i]:List Int))))))))else none else none else none else none)else none else none)else none)else none)else none else none else none)else if d.toNat=d.toNat then oB (b.2.2[((b.2.2.length:Int)-1).toNat]?) fun D=>(oB (a[d.toNat]?) fun aq=>if d.toNat=d.toNat then oB (a[d.toNat]?) fun V=>(if d.toNat=d.toNat then if 0<=((b.2.2.length:Int)-1)/\((b.2.2.length:Int)-1)<(b.2.2.length:Int)then oB (b.2.2[((b.2.2.length:Int)-1).toNat]?) fun af=>(if((b.2.2.length:Int)-1).toNat=((b.2.2.length:Int)-1).toNat then if room D.2.length ([i]:List Int).length 8 then if 0<=((b.2.2.length:Int)-1)/\((b.2.2.length:Int)-1)<(b.2.2.length:Int)then if((b.2.2.length:Int)-1).toNat=((b.2.2.length:Int)-1).toNat then oB (b.2.2[((b.2.2.length:Int)-1).toNat]?) fun P=>(some (q,(a.modify d.toNat fun E=>(E.1,E.2.1,(b.2.2.set ((b.2.2.length:Int)-1).toNat (P.1,(D.2++([i]:List Int))))))))else none else none else none else none)else none else none)else none)else none)else none else none)else none)else none)
theorem jky :mK 91 ⟨⟨[.box 900000 0,pS,.agg [pS,pI],pI],[(900000,false,[.pv Y2,.tre 850001 Y5 131])]⟩,⟨[.tup []],[(900000,false,[.pv Y2,.tre 1 Y5 131])]⟩,c6A (i_Seg_put_m N)⟩:=
 mO (fC (jrl N) ja) func91 rfl N (.seq .no (.seq .no (.seq .no (.seq .no (.seq .no (.seq .no (.touch [.out 9 [(2,79,204,10),(1,88,3,0)]]))))))) _ (wr:=[33,34,70,71,91,92]) (rs:=[900000,850001]) (dw:=[16,33,70])
def jl0 :Sh:=⟨.pv (.int .u64):: .dead::pI::dz 22 [],[]⟩
def k_math_bits_Len64_m (N:Nat) (c:Int):Z13:=
 (meet (fun(a:Int×Int)=>match a with|(d,f)=>meet (fun(a:Int×Int)=>match a with|(e,b)=>meet (fun(a:Int×Int)=>match a with|(m,h)=>oB (idx ([0,1,2,2,3,3,3,3,4,4,4,4,4,4,4,4,5,5,5,5,5,5,5,5,5,5,5,5,5,5,5,5,6,6,6,6,6,6,6,6,6,6,6,6,6,6,6,6,6,6,6,6,6,6,6,6,6,6,6,6,6,6,6,6,7,7,7,7,7,7,7,7,7,7,7,7,7,7,7,7,7,7,7,7,7,7,7,7,7,7,7,7,7,7,7,7,7,7,7,7,7,7,7,7,7,7,7,7,7,7,7,7,7,7,7,7,7,7,7,7,7,7,7,7,7,7,7,7,8,8,8,8,8,8,8,8,8,8,8,8,8,8,8,8,8,8,8,8,8,8,8,8,8,8,8,8,8,8,8,8,8,8,8,8,8,8,8,8,8,8,8,8,8,8,8,8,8,8,8,8,8,8,8,8,8,8,8,8,8,8,8,8,8,8,8,8,8,8,8,8,8,8,8,8,8,8,8,8,8,8,8,8,8,8,8,8,8,8,8,8,8,8,8,8,8,8,8,8,8,8,8,8,8,8,8,8,8,8,8,8,8,8,8,8,8,8,8,8,8,8,8,8,8,8,8,8]:List UInt8) (IntKind.u8.wrap m)) fun j=>if fits (h+(IntKind.i64.wrap (j.toNat:Int)))then some (h+(IntKind.i64.wrap (j.toNat:Int)))else none) fun l=>bif decide ((256:Int)<=e)then if 0<=(8:Int)then if fits (b+8)then l ((e.fdiv (2^(min (8:Int).toNat (IntKind.bits .u64)))),(b+8))else none else none else l (e,b)) fun k=>bif decide ((65536:Int)<=d)then if 0<=(16:Int)then if fits (f+16)then k ((d.fdiv (2^(min (16:Int).toNat (IntKind.bits .u64)))),(f+16))else none else none else k (d,f)) fun i=>bif decide ((4294967296:Int)<=c)then if 0<=(32:Int)then i ((c.fdiv (2^(min (32:Int).toNat (IntKind.bits .u64)))),32)else none else i (c,0))
theorem jrK :mK 220 (bX [.pv (.int .u64)] [pI] (c1A (k_math_bits_Len64_m N))):=
 mO ja func220 rfl N (.seq .no (.meet jl0 .no (.meet jl0 .no (.meet jl0 .no .no)))) _
def k_math_bits_Len_m (a:Int):Z13:=
 (oB (k_math_bits_Len64_m N a) fun b=>some b)
theorem jda :mK 161 (bX [.pv (.int .u64)] [pI] (c1A (k_math_bits_Len_m N))):=
 mO (fC (jrK N) ja) func161 rfl N .no _
def jbn (N:Nat) (a:List UInt8):Z8:=
 (some (!decide (a=a)))
theorem jkt :mK 162 (bX [pS] [pB] (c1A (jbn N))):=
 mO ja func162 rfl N .no _
def jam (a:List UInt8) (b:List UInt8):Z13:=
 (oB (jbn N a) fun d=>oB (jbn N b) fun c=>bif d then bif c then some 0 else(some (-1))else bif c then some 1 else bif Op.bytesLess a b then some (-1)else bif !(Op.bytesLess a b||decide (a=b))then some 1 else some 0)
theorem ji2 :mK 95 (bX [pS,pS] [pI] (c2A (jam N))):=
 mO (fC (jkt N) ja) func95 rfl N .no _
def jlp :Sh:=⟨dz 3 (pI:: .dead:: .dead:: .pv Y20::pI::pI::dz 9 []),[]⟩
def jbe (d:List Int):Z13:=
 (iter (fun i (b,e,c,a)=>bif decide (a<c)then oB (idx e a) fun f=>(bif !decide (f=b)then some f else if fits (a+1)then i (b,e,c,(a+1))else none)else some b) N ((0:Int),d,(d.length:Int),(0:Int)))
theorem jhC :mK 94 (bX [.pv Y20] [pI] (c1A (jbe N))):=
 mO ja func94 rfl N (.seq .no (.seq .no (.seq (.seq .no (.block (.loop jlp .no))) .no))) _
def je (a:List UInt8) (e:List UInt8) (i:Z3) (d:List UInt8) (h:List UInt8) (j:Z3):Z13:=
 (oB (jam N a d) fun b=>oB (jam N e h) fun c=>oB (jbe N ([b,c]:List Int)) fun f=>some f)
theorem jaf :mK 93 (bX [.agg [pS,pS,.pv Y11],.agg [pS,pS,.pv Y11]] [pI] (c6A (je N))):=
 mO (fC (ji2 N) (fC (jhC N) ja)) func93 rfl N .no _
def k_slices_nextPowerOfTwo_m (b:Int):Z13:=
 (oB (k_math_bits_Len_m N (IntKind.u64.wrap b)) fun a=>if 0<=a then some (IntKind.u64.wrap ((1:Int)*2^(min a.toNat (IntKind.bits .u64))))else none)
theorem jhv :mK 270 (bX [pI] [.pv (.int .u64)] (c1A (k_slices_nextPowerOfTwo_m N))):=
 mO (fC (jda N) ja) func270 rfl N .no _
def k__slices_xorshift_Next_m (N:Nat) (a:Int):Option (Int×Int):=
 (if 0<=(13:Int)then if 0<=(7:Int)then if 0<=(17:Int)then some ((bitsI .xor .u64 (bitsI .xor .u64 (bitsI .xor .u64 a (IntKind.u64.wrap (a*2^(min (13:Int).toNat (IntKind.bits .u64))))) ((bitsI .xor .u64 a (IntKind.u64.wrap (a*2^(min (13:Int).toNat (IntKind.bits .u64))))).fdiv (2^(min (7:Int).toNat (IntKind.bits .u64))))) (IntKind.u64.wrap ((bitsI .xor .u64 (bitsI .xor .u64 a (IntKind.u64.wrap (a*2^(min (13:Int).toNat (IntKind.bits .u64))))) ((bitsI .xor .u64 a (IntKind.u64.wrap (a*2^(min (13:Int).toNat (IntKind.bits .u64))))).fdiv (2^(min (7:Int).toNat (IntKind.bits .u64)))))*2^(min (17:Int).toNat (IntKind.bits .u64))))),(bitsI .xor .u64 (bitsI .xor .u64 (bitsI .xor .u64 a (IntKind.u64.wrap (a*2^(min (13:Int).toNat (IntKind.bits .u64))))) ((bitsI .xor .u64 a (IntKind.u64.wrap (a*2^(min (13:Int).toNat (IntKind.bits .u64))))).fdiv (2^(min (7:Int).toNat (IntKind.bits .u64))))) (IntKind.u64.wrap ((bitsI .xor .u64 (bitsI .xor .u64 a (IntKind.u64.wrap (a*2^(min (13:Int).toNat (IntKind.bits .u64))))) ((bitsI .xor .u64 a (IntKind.u64.wrap (a*2^(min (13:Int).toNat (IntKind.bits .u64))))).fdiv (2^(min (7:Int).toNat (IntKind.bits .u64)))))*2^(min (17:Int).toNat (IntKind.bits .u64))))))else none else none else none)
theorem jet :mK 271 ⟨⟨[.box 900000 0],[(900000,false,[.pv (.int .u64)])]⟩,⟨[.pv (.int .u64)],[(900000,false,[.pv (.int .u64)])]⟩,c1A (k__slices_xorshift_Next_m N)⟩:=
 mO ja func271 rfl N .no _ (rs:=[900000])
section
variable {Y γ Z : Type} (c : γ -> Y -> Y -> Option Int)
def swpG (d:List Y) (i j:Int) (k:List Y->Option Z):Option Z:=
 if 0<=j/\j<(d.length:Int)then oB (d[j.toNat]?) fun e=>if 0<=i/\i<(d.length:Int)then oB (d[i.toNat]?) fun e2=>
  if 0<=i/\i<(d.length:Int)then oB (d[i.toNat]?) fun e3=>if 0<=j/\j<((d.set i.toNat e).length:Int)then oB ((d.set i.toNat e)[j.toNat]?) fun e4=>k ((d.set i.toNat e).set j.toNat e2)
  else none else none else none else none
def cmpG (ks:γ) (d:List Y) (i j:Int) (k:Int->Option Z):Option Z:=
 if 0<=i/\i<(d.length:Int)then oB (d[i.toNat]?) fun e=>if 0<=j/\j<(d.length:Int)then oB (d[j.toNat]?) fun e2=>oB (c ks e e2) k else none else none
def cmpP (ks:γ) (d:List Y) (j:Int) (k:Int->Option Z):Option Z:=
 if 0<=j/\j<(d.length:Int)then oB (d[j.toNat]?) fun e=>if fits (j-1)then if 0<=(j-1)/\(j-1)<(d.length:Int)then oB (d[(j-1).toNat]?) fun e2=>oB (c ks e e2) k else none else none else none
def swpP (d:List Y) (j:Int) (k:List Y->Option Z):Option Z:=if fits (j-1)then if fits (j-1)then swpG d j (j-1) k else none else none
def insG (N:Nat) (d:List Y) (a b:Int) (ks:γ):Option (List Y):=
 if fits (a+1)then iter (fun go (g:List Y×Int×Int×γ×Int)=>
  match g with
  |(d2,a2,b2,ks2,i)=>
  bif decide (i<b2)then
   iter (fun go2 (g:List Y×Int×Int×γ×Int×Int)=>
    match g with
    |(d3,a3,b3,ks3,i2,j)=>
    bif decide (a3<j)then cmpP c ks3 d3 j fun r=>bif decide (r<0)then swpP d3 j fun d=>if fits (j-1)then go2 (d,a3,b3,ks3,i2,j-1)else none
     else if fits (i2+1)then go (d3,a3,b3,ks3,i2+1)else none
    else if fits (i2+1)then go (d3,a3,b3,ks3,i2+1)else none) N (d2,a2,b2,ks2,i,i)
  else some d2) N (d,a,b,ks,a+1)else none
def siftG (N:Nat) (data:List Y) (lo:Int) (hi:Int) (first:Int) (cmp:γ):Option ((List Y)):=
 (iter (fun go (g:(List Y)×Int×Int×γ×Int)=>
   match g with
   |(data2,hi2,first2,cmp2,root)=>
   (if fits (2*root)then(if fits ((2*root)+1)then(bif(decide (hi2<=((2*root)+1)))then
      (some data2)
      else
      (meet (fun(g:(List Y)×Int×Int×γ×Int×Int)=>
        match g with
        |(data3,hi3,first3,cmp3,root2,child)=>
        (if fits (first3+root2)then(if 0<=(first3+root2)/\(first3+root2)<(data3.length:Int)then
          (oB (data3[(first3+root2).toNat]?) fun e3=>
           (if fits (first3+child)then(if 0<=(first3+child)/\(first3+child)<(data3.length:Int)then
             (oB (data3[(first3+child).toNat]?) fun e4=>
              (oB (c cmp3 e3 e4) fun r2=>
               (bif(!(decide (r2<0)))then
                (some data3)
                else
                (if fits (first3+root2)then(if fits (first3+child)then(if fits (first3+child)then(if 0<=(first3+child)/\(first3+child)<(data3.length:Int)then
                    (oB (data3[(first3+child).toNat]?) fun e5=>
                     (if fits (first3+root2)then(if 0<=(first3+root2)/\(first3+root2)<(data3.length:Int)then
                       (oB (data3[(first3+root2).toNat]?) fun e6=>
                        (if 0<=(first3+root2)/\(first3+root2)<(data3.length:Int)then
                         (oB (data3[(first3+root2).toNat]?) fun e7=>
                          (if 0<=(first3+child)/\(first3+child)<((data3.set (first3+root2).toNat e5).length:Int)then
                           (oB ((data3.set (first3+root2).toNat e5)[(first3+child).toNat]?) fun e8=>
                            (go (((data3.set (first3+root2).toNat e5).set (first3+child).toNat e6),hi3,first3,cmp3,child)))
                           else none))
                         else none))
                       else none)else none))
                    else none)else none)else none)else none))))
             else none)else none))
          else none)else none)) fun J=>
       (if fits (((2*root)+1)+1)then(bif(decide ((((2*root)+1)+1)<hi2))then
         (if fits (first2+((2*root)+1))then(if 0<=(first2+((2*root)+1))/\(first2+((2*root)+1))<(data2.length:Int)then
           (oB (data2[(first2+((2*root)+1)).toNat]?) fun e=>
            (if fits (first2+((2*root)+1))then(if fits ((first2+((2*root)+1))+1)then(if 0<=((first2+((2*root)+1))+1)/\((first2+((2*root)+1))+1)<(data2.length:Int)then
               (oB (data2[((first2+((2*root)+1))+1).toNat]?) fun e2=>
                (oB (c cmp2 e e2) fun r=>
                 (bif(decide (r<0))then
                  (if fits (((2*root)+1)+1)then(J (data2,hi2,first2,cmp2,root,(((2*root)+1)+1)))else none)
                  else
                  (J (data2,hi2,first2,cmp2,root,((2*root)+1))))))
               else none)else none)else none))
           else none)else none)
         else
         (J (data2,hi2,first2,cmp2,root,((2*root)+1))))else none)))else none)else none)) N (data,hi,first,cmp,lo))
def heapG (N:Nat) (data:List Y) (a:Int) (b:Int) (cmp:γ):Option ((List Y)):=
 (if fits (b-a)then(if fits ((b-a)-1)then(if 2≠0 then
    (if fits (((b-a)-1).tdiv 2)then(iter (fun go (g:(List Y)×γ×Int×Int×Int×Int)=>
       match g with
       |(data2,cmp2,first,lo,hi,i)=>
       (bif(decide ((0:Int)<=i))then
        (oB (siftG c N data2 i hi first cmp2) fun r=>
         (if fits (i-1)then(go (r,cmp2,first,lo,hi,(i-1)))else none))
        else
        (if fits (hi-1)then(iter (fun go2 (g:(List Y)×γ×Int×Int×Int)=>
           match g with
           |(data3,cmp3,first2,lo2,i2)=>
           (bif(decide ((0:Int)<=i2))then
            (if fits (first2+i2)then(if fits (first2+i2)then swpG data3 first2 (first2+i2) fun d=>(oB (siftG c N d lo2 i2 first2 cmp3) fun r2=>
                       (if fits (i2-1)then(go2 (r2,cmp3,first2,lo2,(i2-1)))else none))else none)else none)
            else
            (some data3))) N (data2,cmp2,first,lo,(hi-1)))else none))) N (data,cmp,a,0,(b-a),(((b-a)-1).tdiv 2)))else none)
    else none)else none)else none)
def breakG (N:Nat) (data:List Y) (a:Int) (b:Int) (cmp:γ):Option (List Y):=
 (if fits (b-a)then(bif(decide ((8:Int)<=(b-a)))then
   (oB (k_slices_nextPowerOfTwo_m N (b-a)) fun r=>
    (if 4≠0 then
     (if fits ((b-a).tdiv 4)then(if fits (((b-a).tdiv 4)*2)then(if fits (a+(((b-a).tdiv 4)*2))then(if fits ((a+(((b-a).tdiv 4)*2))-1)then(iter (fun go (g:(List Y)×Int×Int×Int×Int×Int)=>
           match g with
           |(data2,a2,length,modulus,idx0,random)=>
           (if 4≠0 then
            (if fits (length.tdiv 4)then(if fits ((length.tdiv 4)*2)then(if fits (a2+((length.tdiv 4)*2))then(if fits ((a2+((length.tdiv 4)*2))+1)then(bif(decide (idx0<=((a2+((length.tdiv 4)*2))+1)))then
                 (oB (k__slices_xorshift_Next_m N random) fun r2=>
                  (meet (fun(g:(List Y)×Int×Int×Int×Int×Int×Int)=>
                    match g with
                    |(data3,a3,length2,modulus2,idx02,other,random2)=>
                    (if fits (a3+other)then(if fits (a3+other)then swpG data3 idx02 (a3+other) fun d=>(if fits (idx02+1)then(go (d,a3,length2,modulus2,(idx02+1),random2))else none)else none)else none)) fun J=>
                   (bif(decide (length<=(IntKind.i64.wrap (bitsI .and .u64 r2.1 (IntKind.u64.wrap (modulus-1))))))then
                    (if fits ((IntKind.i64.wrap (bitsI .and .u64 r2.1 (IntKind.u64.wrap (modulus-1))))-length)then(J (data2,a2,length,modulus,idx0,((IntKind.i64.wrap (bitsI .and .u64 r2.1 (IntKind.u64.wrap (modulus-1))))-length),r2.2))else none)
                    else
                    (J (data2,a2,length,modulus,idx0,(IntKind.i64.wrap (bitsI .and .u64 r2.1 (IntKind.u64.wrap (modulus-1)))),r2.2)))))
                 else
                 (some data2))else none)else none)else none)else none)
            else none)) N (data,a,(b-a),r,((a+(((b-a).tdiv 4)*2))-1),(IntKind.u64.wrap (b-a))))else none)else none)else none)else none)
     else none))
   else
   (some data))else none)
def order2G (N:Nat) (data:List Y) (a:Int) (b:Int) (cmp:γ) (b2:Int):Option (Int×Int×(List Y)×Int):=
 cmpG c cmp data b a fun r=>(bif(decide (r<0))then(if fits (b2+1)then(some (b,a,data,(b2+1)))else none)else(some (a,b,data,b2)))
def medianG (N:Nat) (data:List Y) (a:Int) (b:Int) (c0:Int) (cmp:γ) (b2:Int):Option (Int×(List Y)×Int):=
 (oB (order2G c N data a b cmp b2) fun r=>
  (oB (order2G c N r.2.2.1 r.2.1 c0 cmp r.2.2.2) fun r2=>
   (oB (order2G c N r2.2.2.1 r.1 r2.1 cmp r2.2.2.2) fun r3=>
    (some (r3.2.1,r3.2.2.1,r3.2.2.2)))))
def medianAdjacentG (N:Nat) (data:List Y) (a:Int) (cmp:γ) (b:Int):Option (Int×(List Y)×Int):=
 (if fits (a-1)then(if fits (a+1)then(oB (medianG c N data (a-1) a (a+1) cmp b) fun r=>
    (some (r.1,r.2.1,r.2.2)))else none)else none)
def choosePivotG (N:Nat) (data:List Y) (a:Int) (b:Int) (cmp:γ):Option (Int×Int×(List Y)):=
 (if fits (b-a)then(if 4≠0 then
   (if fits ((b-a).tdiv 4)then(if fits (((b-a).tdiv 4)*1)then(if fits (a+(((b-a).tdiv 4)*1))then(if 4≠0 then
       (if fits ((b-a).tdiv 4)then(if fits (((b-a).tdiv 4)*2)then(if fits (a+(((b-a).tdiv 4)*2))then(if 4≠0 then
           (if fits ((b-a).tdiv 4)then(if fits (((b-a).tdiv 4)*3)then(if fits (a+(((b-a).tdiv 4)*3))then(meet (fun(g:(List Y)×Int×Int)=>
                match g with
                |(data3,j2,swaps2)=>
                (bif(decide (swaps2=0))then
                 (some (j2,1,data3))
                 else
                 (bif(decide (swaps2=12))then
                  (some (j2,2,data3))
                  else
                  (some (j2,0,data3))))) fun J=>
               (bif(decide ((8:Int)<=(b-a)))then
                (meet (fun(g:(List Y)×γ×Int×Int×Int×Int)=>
                  match g with
                  |(data2,cmp2,i,j,k,swaps)=>
                  (oB (medianG c N data2 i j k cmp2 swaps) fun r4=>
                   (J (r4.2.1,r4.1,r4.2.2)))) fun J2=>
                 (bif(decide ((50:Int)<=(b-a)))then
                  (oB (medianAdjacentG c N data (a+(((b-a).tdiv 4)*1)) cmp 0) fun r=>
                   (oB (medianAdjacentG c N r.2.1 (a+(((b-a).tdiv 4)*2)) cmp r.2.2) fun r2=>
                    (oB (medianAdjacentG c N r2.2.1 (a+(((b-a).tdiv 4)*3)) cmp r2.2.2) fun r3=>
                     (J2 (r3.2.1,cmp,r.1,r2.1,r3.1,r3.2.2)))))
                  else
                  (J2 (data,cmp,(a+(((b-a).tdiv 4)*1)),(a+(((b-a).tdiv 4)*2)),(a+(((b-a).tdiv 4)*3)),0))))
                else
                (J (data,(a+(((b-a).tdiv 4)*2)),0))))else none)else none)else none)
           else none)else none)else none)else none)
       else none)else none)else none)else none)
   else none)else none)
def reverseRangeG (N:Nat) (data:List Y) (a:Int) (b:Int) (cmp:γ):Option ((List Y)):=
 (if fits (b-1)then(iter (fun go (g:(List Y)×Int×Int)=>
    match g with
    |(data2,i,j)=>
    (bif(decide (i<j))then swpG data2 i j fun d=>(if fits (i+1)then(if fits (j-1)then(go (d,(i+1),(j-1)))else none)else none)
     else
     (some data2))) N (data,a,(b-1)))else none)
def shDown (k:(List Y×Int×Int×γ×Int×Int)->Option Z) (N:Nat) (g:List Y×Int×Int×γ×Int×Int×Int):Option Z:=
 iter (fun go3 (g:(List Y)×Int×Int×γ×Int×Int×Int)=>
  match g with
  |(d,a,b,ks,i,j,j4)=>
  bif decide ((1:Int)<=j4)then cmpP c ks d j4 fun r=>bif !decide (r<0)then k (d,a,b,ks,i,j)else swpP d j4 fun d'=>if fits (j4-1)then go3 (d',a,b,ks,i,j,j4-1)else none
  else k (d,a,b,ks,i,j)) N g
def shUp (k:(List Y×Int×Int×γ×Int×Int)->Option Z) (N:Nat) (g:List Y×Int×Int×γ×Int×Int×Int):Option Z:=
 iter (fun go4 (g:(List Y)×Int×Int×γ×Int×Int×Int)=>
  match g with
  |(d,a,b,ks,i,j,j4)=>
  bif decide (j4<b)then cmpP c ks d j4 fun r=>bif !decide (r<0)then(if fits (j+1)then k (d,a,b,ks,i,j+1)else none)else swpP d j4 fun d'=>if fits (j4+1)then go4 (d',a,b,ks,i,j,j4+1)else none
  else if fits (j+1)then k (d,a,b,ks,i,j+1)else none) N g
def pisX (N:Nat) (go:(List Y×Int×Int×γ×Int×Int)->Option (Bool×List Y)) (d:List Y) (a b:Int) (ks:γ) (i j:Int):Option (Bool×List Y):=
 bif decide (i=b)then some (true,d)else if fits (b-a)then bif decide ((b-a)<50)then some (false,d)else
  swpP d i fun d'=>meet (fun(g:List Y×Int×Int×γ×Int×Int)=>
   match g with
   |(d5,a5,b5,ks5,i4,j5)=>
   if fits (b5-i4)then bif decide ((2:Int)<=(b5-i4))then if fits (i4+1)then shUp c go N (d5,a5,b5,ks5,i4,j5,i4+1)else none
    else(if fits (j5+1)then go (d5,a5,b5,ks5,i4,j5+1)else none)else none) fun J=>
   if fits (i-a)then bif decide ((2:Int)<=(i-a))then if fits (i-1)then shDown c J N (d',a,b,ks,i,j,i-1)else none else J (d',a,b,ks,i,j)else none
 else none
def pisG (N:Nat) (d:List Y) (a b:Int) (ks:γ):Option (Bool×List Y):=
 if fits (a+1)then iter (fun go (g:List Y×Int×Int×γ×Int×Int)=>
  match g with
  |(d2,a2,b2,ks2,i,j)=>
  bif decide (j<5)then
   iter (fun go2 (g:List Y×Int×Int×γ×Int×Int)=>
    match g with
    |(d3,a3,b3,ks3,i2,j2)=>
    bif decide (i2<b3)then cmpP c ks3 d3 i2 fun r=>bif !decide (r<0)then(if fits (i2+1)then go2 (d3,a3,b3,ks3,i2+1,j2)else none)else pisX c N go d3 a3 b3 ks3 i2 j2
    else pisX c N go d3 a3 b3 ks3 i2 j2) N (d2,a2,b2,ks2,i,j)
  else some (false,d2)) N (d,a,b,ks,a+1,0)else none
def partE (go3:(List Y×Int×γ×Int×Int)->Option (Int×Bool×List Y)) (fl:Bool) (g:List Y×Int×γ×Int×Int):Option (Int×Bool×List Y):=
 match g with
 |(d,a,ks,i,j)=>
 bif decide (j<i)then swpG d j a fun d'=>some (j,fl,d')else swpG d i j fun d'=>if fits (i+1)then if fits (j-1)then go3 (d',a,ks,i+1,j-1)else none else none
def partD (k:(List Y×Int×γ×Int×Int)->Option Z) (N:Nat) (g:List Y×Int×γ×Int×Int):Option Z:=
 iter (fun go (g:List Y×Int×γ×Int×Int)=>
  match g with
  |(d,a,ks,i,j)=>
  bif decide (i<=j)then cmpG c ks d j a fun r=>bif !decide (r<0)then(if fits (j-1)then go (d,a,ks,i,j-1)else none)else k (d,a,ks,i,j)
  else k (d,a,ks,i,j)) N g
def partU (k:(List Y×Int×γ×Int×Int)->Option Z) (N:Nat) (g:List Y×Int×γ×Int×Int):Option Z:=
 iter (fun go (g:List Y×Int×γ×Int×Int)=>
  match g with
  |(d,a,ks,i,j)=>
  bif decide (i<=j)then cmpG c ks d i a fun r=>bif decide (r<0)then(if fits (i+1)then go (d,a,ks,i+1,j)else none)else k (d,a,ks,i,j)
  else k (d,a,ks,i,j)) N g
def partG (N:Nat) (d:List Y) (a b p:Int) (ks:γ):Option (Int×Bool×List Y):=
 swpG d a p fun d=>if fits (a+1)then if fits (b-1)then
  partU c (fun g=>partD c (partE (fun g=>iter (fun go3 g=>partU c (fun g=>partD c (partE go3 false) N g) N g) N g) true) N g) N (d,a,ks,a+1,b-1)
 else none else none
def peqE (go:(List Y×Int×γ×Int×Int)->Option (Int×List Y)) (g:List Y×Int×γ×Int×Int):Option (Int×List Y):=
 match g with
 |(d,a,ks,i,j)=>
 bif decide (j<i)then some (i,d)else swpG d i j fun d'=>if fits (i+1)then if fits (j-1)then go (d',a,ks,i+1,j-1)else none else none
def peqD (k:(List Y×Int×γ×Int×Int)->Option Z) (N:Nat) (g:List Y×Int×γ×Int×Int):Option Z:=
 iter (fun go (g:List Y×Int×γ×Int×Int)=>
  match g with
  |(d,a,ks,i,j)=>
  bif decide (i<=j)then cmpG c ks d a j fun r=>bif decide (r<0)then(if fits (j-1)then go (d,a,ks,i,j-1)else none)else k (d,a,ks,i,j)
  else k (d,a,ks,i,j)) N g
def peqU (k:(List Y×Int×γ×Int×Int)->Option Z) (N:Nat) (g:List Y×Int×γ×Int×Int):Option Z:=
 iter (fun go (g:List Y×Int×γ×Int×Int)=>
  match g with
  |(d,a,ks,i,j)=>
  bif decide (i<=j)then cmpG c ks d a i fun r=>bif !decide (r<0)then(if fits (i+1)then go (d,a,ks,i+1,j)else none)else k (d,a,ks,i,j)
  else k (d,a,ks,i,j)) N g
def peqG (N:Nat) (d:List Y) (a b p:Int) (ks:γ):Option (Int×List Y):=
 swpG d a p fun d=>if fits (a+1)then if fits (b-1)then iter (fun go g=>peqU c (fun g=>peqD c (peqE go) N g) N g) N (d,a,ks,a+1,b-1)else none else none
def pdqG (hs:List Y->Int->Int->γ->Option (List Y)) (pe:List Y->Int->Int->Int->γ->Option (Int×List Y)) (N:Nat):(D:Nat)->(List Y)->Int->Int->Int->γ->Option ((List Y))
 |0,_,_,_,_,_=>none
 |D+1,data,a,b,limit,cmp=>
 (iter (fun go (g:(List Y)×Int×Int×Int×γ×Bool×Bool)=>
   match g with
   |(data2,a2,b2,limit2,cmp2,wasBalanced,wasPartitioned)=>
   (if fits (b2-a2)then(bif(decide ((b2-a2)<=12))then
     (oB (insG c N data2 a2 b2 cmp2) fun r=>
      (some r))
     else
     (bif(decide (limit2=0))then
      (oB (hs data2 a2 b2 cmp2) fun r2=>
       (some r2))
      else
      (meet (fun(g:(List Y)×Int×Int×Int×γ×Bool×Bool×Int)=>
        match g with
        |(data3,a3,b3,limit3,cmp3,wasBalanced2,wasPartitioned2,length)=>
        (oB (choosePivotG c N data3 a3 b3 cmp3) fun r4=>
         (meet (fun(g:(List Y)×Int×Int×Int×γ×Bool×Bool×Int×Int×Int)=>
           match g with
           |(data4,a4,b4,limit4,cmp4,wasBalanced3,wasPartitioned3,length2,pivot,hint)=>
           (meet (fun(g:(List Y)×Int×Int×Int×γ×Bool×Bool×Int×Int)=>
             match g with
             |(data5,a5,b5,limit5,cmp5,wasBalanced4,wasPartitioned4,length3,pivot2)=>
             (bif(decide ((0:Int)<a5))then
              (if fits (a5-1)then(if 0<=(a5-1)/\(a5-1)<(data5.length:Int)then
                (oB (data5[(a5-1).toNat]?) fun e=>
                 (if 0<=pivot2/\pivot2<(data5.length:Int)then
                  (oB (data5[pivot2.toNat]?) fun e2=>
                   (oB (c cmp5 e e2) fun r7=>
                    (bif(!(decide (r7<0)))then
                     (oB (pe data5 a5 b5 pivot2 cmp5) fun r8=>
                      (go (r8.2,r8.1,b5,limit5,cmp5,wasBalanced4,wasPartitioned4)))
                     else
                     (oB (partG c N data5 a5 b5 pivot2 cmp5) fun r9=>
                      (if fits (r9.1-a5)then(if fits (b5-r9.1)then(if 8≠0 then
                         (if fits (length3.tdiv 8)then(bif(decide ((r9.1-a5)<(b5-r9.1)))then
                           (oB (pdqG hs pe N D r9.2.2 a5 r9.1 limit5 cmp5) fun r10=>
                            (if fits (r9.1+1)then(go (r10,(r9.1+1),b5,limit5,cmp5,(decide ((length3.tdiv 8)<=(r9.1-a5))),r9.2.1))else none))
                           else
                           (if fits (r9.1+1)then(oB (pdqG hs pe N D r9.2.2 (r9.1+1) b5 limit5 cmp5) fun r11=>
                             (go (r11,a5,r9.1,limit5,cmp5,(decide ((length3.tdiv 8)<=(b5-r9.1))),r9.2.1)))else none))else none)
                         else none)else none)else none)))))
                  else none))
                else none)else none)
              else
              (oB (partG c N data5 a5 b5 pivot2 cmp5) fun r12=>
               (if fits (r12.1-a5)then(if fits (b5-r12.1)then(if 8≠0 then
                  (if fits (length3.tdiv 8)then(bif(decide ((r12.1-a5)<(b5-r12.1)))then
                    (oB (pdqG hs pe N D r12.2.2 a5 r12.1 limit5 cmp5) fun r13=>
                     (if fits (r12.1+1)then(go (r13,(r12.1+1),b5,limit5,cmp5,(decide ((length3.tdiv 8)<=(r12.1-a5))),r12.2.1))else none))
                    else
                    (if fits (r12.1+1)then(oB (pdqG hs pe N D r12.2.2 (r12.1+1) b5 limit5 cmp5) fun r14=>
                      (go (r14,a5,r12.1,limit5,cmp5,(decide ((length3.tdiv 8)<=(b5-r12.1))),r12.2.1)))else none))else none)
                  else none)else none)else none)))) fun J3=>
            (bif wasBalanced3 then
             (bif wasPartitioned3 then
              (bif(decide (hint=1))then
               (oB (pisG c N data4 a4 b4 cmp4) fun r6=>
                (bif r6.1 then
                 (some r6.2)
                 else
                 (J3 (r6.2,a4,b4,limit4,cmp4,wasBalanced3,wasPartitioned3,length2,pivot))))
               else
               (J3 (data4,a4,b4,limit4,cmp4,wasBalanced3,wasPartitioned3,length2,pivot)))
              else
              (J3 (data4,a4,b4,limit4,cmp4,wasBalanced3,wasPartitioned3,length2,pivot)))
             else
             (J3 (data4,a4,b4,limit4,cmp4,wasBalanced3,wasPartitioned3,length2,pivot))))) fun J2=>
          (bif(decide (r4.2.1=2))then
           (oB (reverseRangeG N r4.2.2 a3 b3 cmp3) fun r5=>
            (if fits (b3-1)then(if fits (r4.1-a3)then(if fits ((b3-1)-(r4.1-a3))then(J2 (r5,a3,b3,limit3,cmp3,wasBalanced2,wasPartitioned2,length,((b3-1)-(r4.1-a3)),1))else none)else none)else none))
           else
           (J2 (r4.2.2,a3,b3,limit3,cmp3,wasBalanced2,wasPartitioned2,length,r4.1,r4.2.1)))))) fun J=>
       (bif(!wasBalanced)then
        (oB (breakG N data2 a2 b2 cmp2) fun r3=>
         (if fits (limit2-1)then(J (r3,a2,b2,(limit2-1),cmp2,wasBalanced,wasPartitioned,(b2-a2)))else none))
        else
        (J (data2,a2,b2,limit2,cmp2,wasBalanced,wasPartitioned,(b2-a2)))))))else none)) N (data,a,b,limit,cmp,true,true))
end
def cmp105 (N:Nat):(Unit)->Z1->Z1->Option Int:=(fun(cmp:Unit) (e e2:Z0×Z0×Z16)=>je N e.1 e.2.1 e.2.2 e2.1 e2.2.1 e2.2.2)
def jny :Sh:=⟨.mtk 800000 Y5 131 false::pI::pI:: .clo 93 []::dz 4 (pI::dz 44 []),[]⟩
def jll :Sh:=⟨.mtk 800000 Y5 131 false::pI::pI:: .clo 93 []::dz 4 (pI::pI::dz 43 []),[]⟩
def jeC (d:List Z1) (c:Int) (a:Int) (b:Unit):Option ((List Z1)):=insG (cmp105 N) N d c a b
 
theorem jqw :mK 211 (bX [.mtk 800000 Y5 131 false,pI,pI,.clo 93 []] [.tup [],.mtk 800000 Y5 131 false] (c4A (jeC N))):=
 mO (fC (jaf N) ja) func211 rfl N (.seq .no (.block (.loop jny (.seq .no (.seq (.block (.seq .no (.block (.loop jll .no)))) .no))))) _ (rs:=[800000])
def jnV :Sh:=⟨.mtk 800000 Y5 131 false:: .dead::pI::pI:: .clo 93 []::dz 5 (pI::dz 71 []),[]⟩
def jmo :Sh:=⟨.mtk 800000 Y5 131 false:: .dead::pI::pI:: .clo 93 []::dz 5 (pI::pI::dz 70 []),[]⟩
def jdy (d:List Z1) (b:Int) (c:Int) (e:Int) (a:Unit):Option ((List Z1)):=siftG (cmp105 N) N d b c e a
 
theorem jqE :mK 269 (bX [.mtk 800000 Y5 131 false,pI,pI,pI,.clo 93 []] [.tup [],.mtk 800000 Y5 131 false] (c5A (jdy N))):=
 mO (fC (jaf N) ja) func269 rfl N (.seq .no (.block (.loop jnV (.block (.seq .no (.seq .no (.meet jmo .no .no))))))) _ (rs:=[800000])
def jmY :Sh:=⟨.mtk 800000 Y5 131 false:: .dead:: .dead:: .clo 93 []::dz 4 (pI::pI::pI::pI::dz 48 []),[]⟩
def jq3 :Sh:=⟨.mtk 800000 Y5 131 false:: .dead:: .dead:: .clo 93 []::dz 4 (pI::pI:: .dead:: .dead::pI::dz 47 []),[]⟩
def jaC (d:List Z1) (c:Int) (a:Int) (b:Unit):Option ((List Z1)):=heapG (cmp105 N) N d c a b
 
theorem jqz :mK 212 (bX [.mtk 800000 Y5 131 false,pI,pI,.clo 93 []] [.tup [],.mtk 800000 Y5 131 false] (c4A (jaC N))):=
 mO (fC (jqE N) ja) func212 rfl N (.seq .no (.seq .no (.seq .no (.seq (.seq .no (.block (.loop jmY .no))) (.seq .no (.block (.loop jq3 .no))))))) _ (rs:=[800000])
def jkH :Sh:=⟨.mtk 800000 Y5 131 false::pI::dz 6 (pI:: .box 9 0:: .pv (.int .u64)::pI::dz 55 []),[(9,false,[.pv (.int .u64)])]⟩
def jmx :Sh:=⟨.mtk 800000 Y5 131 false::pI::dz 6 (pI:: .box 9 0:: .pv (.int .u64)::pI::pI::dz 54 []),[(9,false,[.pv (.int .u64)])]⟩
def jez (d:List Z1) (c:Int) (a:Int) (b:Unit):Option ((List Z1)):=breakG N d c a b
 
theorem jlO :mK 213 (bX [.mtk 800000 Y5 131 false,pI,pI,.clo 93 []] [.tup [],.mtk 800000 Y5 131 false] (c4A (jez N))):=
 mO (fC (jhv N) (fC (jet N) ja)) func213 rfl N (.seq .no (.seq .no (.cond (.seq .no (.seq .no (.seq .no (.block (.loop jkH (.seq .no (.seq (.block (.seq .no (.meet jmx .no .no))) .no))))))) .no))) _ (rs:=[800000])
def jcG (e:List Z1) (c:Int) (a:Int) (b:Unit) (d:Int):Option (Int×Int×(List Z1)×Int):=order2G (cmp105 N) N e c a b d
 
theorem jrN :mK 303 ⟨⟨[.mtk 800000 Y5 131 false,pI,pI,.box 900003 0,.clo 93 []],[(900003,false,[pI])]⟩,⟨[.tup [pI,pI],.mtk 800000 Y5 131 false],[(900003,false,[pI])]⟩,c5A (jcG N)⟩:=
 mO (fC (jaf N) ja) func303 rfl N .no _ (rs:=[900003,800000])
def jdE (e:List Z1) (c:Int) (a:Int) (f:Int) (b:Unit) (d:Int):Option (Int×(List Z1)×Int):=medianG (cmp105 N) N e c a f b d
 
theorem jfr :mK 273 ⟨⟨[.mtk 800000 Y5 131 false,pI,pI,pI,.box 900004 0,.clo 93 []],[(900004,false,[pI])]⟩,⟨[pI,.mtk 800000 Y5 131 false],[(900004,false,[pI])]⟩,c6A (jdE N)⟩:=
 mO (fC (jrN N) ja) func273 rfl N .no _ (rs:=[900004,800000])
def jca (d:List Z1) (c:Int) (b:Unit) (a:Int):Option (Int×(List Z1)×Int):=medianAdjacentG (cmp105 N) N d c b a
 
theorem jko :mK 272 ⟨⟨[.mtk 800000 Y5 131 false,pI,.box 900002 0,.clo 93 []],[(900002,false,[pI])]⟩,⟨[pI,.mtk 800000 Y5 131 false],[(900002,false,[pI])]⟩,c4A (jca N)⟩:=
 mO (fC (jfr N) ja) func272 rfl N .no _ (rs:=[900002,800000])
def jnR :Sh:=⟨.mtk 800000 Y5 131 false:: .dead:: .dead:: .clo 93 []::dz 7 (.box 11 0::pI::pI::pI::dz 48 []),[(11,false,[pI])]⟩
def jrt :Sh:=⟨.mtk 800000 Y5 131 false::dz 10 (.box 11 0:: .dead::pI::dz 49 []),[(11,false,[pI])]⟩
def jjM (d:List Z1) (c:Int) (a:Int) (b:Unit):Option (Int×Int×(List Z1)):=choosePivotG (cmp105 N) N d c a b
 
theorem joO :mK 214 (bX [.mtk 800000 Y5 131 false,pI,pI,.clo 93 []] [.tup [pI,pI],.mtk 800000 Y5 131 false] (c4A (jjM N))):=
 mO (fC (jko N) (fC (jfr N) ja)) func214 rfl N (.seq .no (.seq .no (.seq .no (.seq .no (.seq .no (.seq .no (.meet jrt (.seq .no (.cond (.meet jnR .no .no) .no)) .no))))))) _ (rs:=[800000])
def jpl :Sh:=⟨.mtk 800000 Y5 131 false::dz 7 (pI::pI::dz 24 []),[]⟩
def jeV (d:List Z1) (c:Int) (a:Int) (b:Unit):Option ((List Z1)):=reverseRangeG N d c a b
 
theorem jma :mK 215 (bX [.mtk 800000 Y5 131 false,pI,pI,.clo 93 []] [.tup [],.mtk 800000 Y5 131 false] (c4A (jeV N))):=
 mO ja func215 rfl N (.seq .no (.seq .no (.block (.loop jpl .no)))) _ (rs:=[800000])
def jn3 :Sh:=⟨.mtk 800000 Y5 131 false::pI::pI:: .clo 93 []::dz 5 (pI::pI::dz 130 []),[]⟩
def jsj :Sh:=⟨.mtk 800000 Y5 131 false::pI::pI:: .clo 93 []::dz 5 (pI::pI::pI::dz 129 []),[]⟩
def jnQ :Sh:=⟨.mtk 800000 Y5 131 false::pI::pI:: .clo 93 []::dz 5 (pI::pI:: .dead::pI::dz 128 []),[]⟩
def jhb (d:List Z1) (c:Int) (a:Int) (b:Unit):Option (Bool×(List Z1)):=pisG (cmp105 N) N d c a b
 
theorem jnw :mK 216 (bX [.mtk 800000 Y5 131 false,pI,pI,.clo 93 []] [pB,.mtk 800000 Y5 131 false] (c4A (jhb N))):=
 mO (fC (jaf N) ja) func216 rfl N (.seq .no (.seq .no (.seq (.seq .no (.block (.loop jn3 (.seq .no (.seq (.block (.seq (.block (.loop jn3 .no)) (.seq .no (.seq .no (.seq .no (.meet jn3 (.seq .no (.cond (.seq .no (.block (.loop jsj .no))) .no)) (.seq .no (.cond (.seq .no (.block (.loop jnQ .no))) .no)))))))) .no))))) .no))) _ (rs:=[800000])
def jnv :Sh:=⟨.mtk 800000 Y5 131 false::pI:: .dead:: .dead:: .clo 93 []::dz 6 (pI::pI::dz 77 []),[]⟩
def jbG (e:List Z1) (c:Int) (a:Int) (d:Int) (b:Unit):Option (Int×(List Z1)):=peqG (cmp105 N) N e c a d b
 
theorem jp1 :mK 217 (bX [.mtk 800000 Y5 131 false,pI,pI,pI,.clo 93 []] [pI,.mtk 800000 Y5 131 false] (c5A (jbG N))):=
 mO (fC (jaf N) ja) func217 rfl N (.seq .no (.seq .no (.seq .no (.seq (.block (.loop jnv (.block (.seq (.block (.loop jnv .no)) (.seq (.block (.loop jnv .no)) .no))))) .no)))) _ (rs:=[800000])
def jru :Sh:=⟨.mtk 800000 Y5 131 false::pI:: .dead:: .dead:: .clo 93 []::dz 7 (pI::pI::dz 164 []),[]⟩
def jcT (e:List Z1) (c:Int) (a:Int) (d:Int) (b:Unit):Option (Int×Bool×(List Z1)):=partG (cmp105 N) N e c a d b
 
theorem jrO :mK 218 (bX [.mtk 800000 Y5 131 false,pI,pI,pI,.clo 93 []] [.tup [pI,pB],.mtk 800000 Y5 131 false] (c5A (jcT N))):=
 mO (fC (jaf N) ja) func218 rfl N (.seq .no (.seq .no (.seq .no (.seq (.block (.loop jru .no)) (.seq (.block (.loop jru .no)) (.seq .no (.seq .no (.seq .no (.seq .no (.seq (.block (.loop jru (.block (.seq (.block (.loop jru .no)) (.seq (.block (.loop jru .no)) .no))))) .no)))))))))) _ (rs:=[800000])
def jmM :Sh:=⟨.mtk 800000 Y5 131 false::pI::pI::pI:: .clo 93 []::dz 5 (pB::pB::dz 136 []),[]⟩
def jnd :Sh:=⟨.mtk 800000 Y5 131 false::pI::pI::pI:: .clo 93 []::dz 5 (pB::pB::pI::pI::dz 134 []),[]⟩
def jmi :Sh:=⟨.mtk 800000 Y5 131 false::pI::pI::pI:: .clo 93 []::dz 5 (pB::pB::pI::pI::pI::dz 133 []),[]⟩
def js7 :Sh:=⟨.mtk 800000 Y5 131 false::pI::pI::pI:: .clo 93 []::dz 5 (pB::pB::pI::dz 135 []),[]⟩
def jK (N D:Nat) (h:List Z1) (a b limit:Int) (e:Unit):Option ((List Z1)):=pdqG (cmp105 N) (fun c a b d=>heapG (cmp105 N) N c a b d) (fun c a b f d=>peqG (cmp105 N) N c a b f d) N D h a b limit e
 
def jcj (N D:Nat):Model:=⟨⟨[.mtk 800000 Y5 131 false,pI,pI,pI,.clo 93 []],[]⟩,⟨[.tup [],.mtk 800000 Y5 131 false],[]⟩,c5A (jK N D)⟩
theorem jrm (N D:Nat) (ih:mK 160 (jcj N D)):mK 160 (jcj N (D+1)):=
 mO (fC ih (fC (jqw N) (fC (jqz N) (fC (jlO N) (fC (joO N) (fC (jma N) (fC (jnw N) (fC (jaf N) (fC (jp1 N) (fC (jrO N) ja)))))))))) func160 rfl N (.seq .no (.seq .no (.block (.loop jmM (.block (.seq .no (.seq .no (.seq .no (.meet js7 .no (.seq .no (.meet jmi .no (.meet jnd .no .no)))))))))))) (jcj N (D+1)) (rs:=[800000])
theorem jix (N:Nat):∀D,mK 160 (jcj N D)
 |0=>modelOk_none ⟨_,func160,by decide,by kernel_rfl⟩ _ (fun a=>rfl)
 |D+1=>jrm N D (jix N D)
def k_slices_SortFunc_105_m (a:List Z1) (d:Unit):Option ((List Z1)):=
 (oB (k_math_bits_Len_m N (IntKind.u64.wrap (a.length:Int))) fun b=>oB (jK N N a 0 (a.length:Int) b ()) fun c=>some c)
theorem jtu :mK 92 (bX [.mtk 800000 Y5 131 false,.clo 93 []] [.tup [],.mtk 800000 Y5 131 false] (c2A (k_slices_SortFunc_105_m N))):=
 mO (fC (jda N) (fC (jix N N) ja)) func92 rfl N .no _ (rs:=[800000])
def jmK :Sh:=⟨.dead:: .dead:: .box 2 0:: .dead:: .box 4 0:: .box 5 0::dz 19 (.pv Y2::pI::pI::dz 32 []),[(2,false,[.pv (.sl .str),.pv Y15]),(4,false,[.nils,.nils]),(5,false,[.pv Y2,.tre 700501 Y5 131])]⟩
def jor :Sh:=⟨.dead:: .dead:: .box 2 0:: .dead:: .box 4 0:: .box 5 0:: .dead:: .box 7 0::dz 17 (.pv Y2::pI::pI::dz 4 (.pv Y18::pI::pI::dz 25 [])),[(2,false,[.pv (.sl .str),.pv Y15]),(4,false,[.nils,.nils]),(5,false,[.pv Y2,.tre 700501 Y5 131]),(7,false,[pI,.pv Y18,.pv Y14])]⟩
def jnj :Sh:=⟨.dead:: .dead:: .box 2 0:: .dead:: .box 4 0:: .box 5 0:: .dead:: .box 7 0:: .dead:: .box 9 0::dz 15 (.pv Y2::pI::pI::dz 4 (.pv Y18::pI::pI::dz 6 (.own 600041 Y16 126 true::pI::pI::dz 16 []))),[(2,false,[.pv (.sl .str),.pv Y15]),(4,false,[.nils,.nils]),(5,false,[.pv Y2,.tre 700501 Y5 131]),(7,false,[pI,.pv Y18,.pv Y14]),(9,false,[pS,pS])]⟩
def jbT (c:List Z0) (c2:List Z4) (docs:List Z2):Option ((List Z2)×(List Z1)):=
 (oB (jaj N c c2) fun r=>bif !r then some (([]:List Z2),([]:List Z1))else oB (jbf N docs) fun r2=>bif !r2 then some (([]:List Z2),([]:List Z1))else oB (jbV N docs) fun r3=>iter (fun go (t25,t26,t27,c3,c4,s,s2)=>bif decide (t27<t26)then oB (idx t25 t27) fun e=>(iter (fun go2 (t252,t262,t272,t32,t33,t34,c5,c6,s3,s4,d,d2,d3)=>bif decide (t34<t33)then oB (idx t32 t34) fun e2=>(oB (jbw N c5 c6 e2.2) fun r4=>iter (fun go3 (t253,t263,t273,t322,t332,t342,t41,t42,t43,c7,c8,s5,s6,d4,d5,d6,f,f2)=>bif decide (t43<t42)then oB (idx t41 t43) fun e3=>(oB (i_Seg_put_m N f e3.1 e3.2 d4 s5 s6) fun r5=>if fits (t43+1)then go3 (t253,t263,t273,t322,t332,t342,t41,t42,(t43+1),c7,c8,r5.1,r5.2,d4,d5,d6,f,f2)else none)else if fits (t342+1)then go2 (t253,t263,t273,t322,t332,(t342+1),c7,c8,s5,s6,d4,d5,d6)else none) N (t252,t262,t272,t32,t33,t34,r4,(r4.length:Int),(0:Int),c5,c6,s3,s4,d,d2,d3,e2.1,e2.2))else if fits (t272+1)then go (t252,t262,(t272+1),c5,c6,s3,s4)else none) N (t25,t26,t27,e.2.1,(e.2.1.length:Int),(0:Int),c3,c4,s,s2,e.1,e.2.1,e.2.2))else oB (k_slices_SortFunc_105_m N s2 ()) fun r6=>some (s,r6)) N (docs,(docs.length:Int),(0:Int),c,c2,r3,([]:List Z1)))
theorem jqC :mK 32 (bX [.agg [.pv (.sl .str),.pv Y15],.pv Y2] [.agg [.pv Y2,.own 1 Y5 131 false]] (c3A (jbT N))):=
 mO (fC (jdX N) (fC (jjU N) (fC (joC N) (fC (jgO N) (fC (jky N) (fC (jtu N) ja)))))) func32 rfl N (.seq .no (.seq .no (.seq .no (.seq (.seq .no (.block (.loop jmK (.seq .no (.seq .no (.seq (.block (.seq .no (.seq .no (.block (.loop jor (.seq .no (.seq .no (.seq (.block (.seq .no (.seq .no (.block (.loop jnj .no))))) .no)))))))) .no)))))) .no)))) _ (wr:=[23]) (dw:=[23,57])
def jtB :Sh:=⟨.pv Y20:: .pv Y20::dz 10 (pI::pI::dz 12 []),[]⟩
def jbX (b:List Int) (d:List Int):Z8:=
 (bif !decide ((b.length:Int)=(d.length:Int))then some false else iter (fun j (f,e,c,a)=>bif decide (a<c)then oB (idx f a) fun i=>(oB (idx e a) fun k=>bif !decide (i=k)then some false else if fits (a+1)then j (f,e,c,(a+1))else none)else some true) N (b,d,(b.length:Int),(0:Int)))
theorem jqi :mK 222 (bX [.pv Y20,.pv Y20] [pB] (c2A (jbX N))):=
 mO ja func222 rfl N (.seq .no (.seq .no (.seq (.seq .no (.block (.loop jtB .no))) .no))) _
def jcp (b:Int) (c:List Int) (a:Int) (d:List Int):Z8:=
 (bif decide (b=a)then oB (jbX N c d) fun e=>(some e)else some false)
theorem jth :mK 166 (bX [.agg [pI,.pv Y20],.agg [pI,.pv Y20]] [pB] (c4A (jcp N))):=
 mO (fC (jqi N) ja) func166 rfl N .no _
def jlX :Sh:=⟨.dead:: .pv Y11:: .clo 166 []::dz 12 (.pv Y11::pI::pI::dz 14 []),[]⟩
def jb6 (b:Z3) (d:Z3) (m:Unit):Z8:=
 (bif !decide ((b.length:Int)=(d.length:Int))then some false else iter (fun l (i,n,e,f,a)=>bif decide (a<f)then oB (idx e a) fun c=>(oB (idx i a) fun h=>oB (jcp N c.1 c.2 h.1 h.2) fun j=>bif !j then some false else if fits (a+1)then l (i,(),e,f,(a+1))else none)else some true) N (d,(),b,(b.length:Int),(0:Int)))
theorem jnG :mK 165 (bX [.pv Y11,.pv Y11,.clo 166 []] [pB] (c3A (jb6 N))):=
 mO (fC (jth N) ja) func165 rfl N (.seq .no (.seq .no (.seq (.seq .no (.block (.loop jlX .no))) .no))) _
def jcz (b:List UInt8) (e:List UInt8) (a:Z3) (d:List UInt8) (h:List UInt8) (f:Z3):Z8:=
 (bif decide (b=d)then bif decide (e=h)then oB (jb6 N a f ()) fun c=>(some c)else(some false)else some false)
theorem jp4 :mK 102 (bX [.agg [pS,pS,.pv Y11],.agg [pS,pS,.pv Y11]] [pB] (c6A (jcz N))):=
 mO (fC (jnG N) ja) func102 rfl N .no _
def jlD :Sh:=⟨.dead:: .pv Y4:: .clo 102 []::dz 12 (.pv Y4::pI::pI::dz 14 []),[]⟩
def jcn (d:List Z1) (e:List Z1) (m:Unit):Z8:=
 (bif !decide ((d.length:Int)=(e.length:Int))then some false else iter (fun l (i,n,f,h,a)=>bif decide (a<h)then oB (idx f a) fun b=>(oB (idx i a) fun c=>oB (jcz N b.1 b.2.1 b.2.2 c.1 c.2.1 c.2.2) fun j=>bif !j then some false else if fits (a+1)then l (i,(),f,h,(a+1))else none)else some true) N (e,(),d,(d.length:Int),(0:Int)))
theorem jsa :mK 101 (bX [.pv Y4,.pv Y4,.clo 102 []] [pB] (c3A (jcn N))):=
 mO (fC (jp4 N) ja) func101 rfl N (.seq .no (.seq .no (.seq (.seq .no (.block (.loop jlD .no))) .no))) _
def i_SegOk_m (a:List Z0) (c:List Z4) (b:List Z2) (h:List Z1):Z8:=
 (oB (jaj N a c) fun e=>bif !e then some false else oB (jbf N b) fun f=>bif !f then some false else oB (jbT N a c b) fun i=>oB (jcn N i.2 h ()) fun d=>some d)
theorem joa :mK 40 (bX [.agg [.pv (.sl .str),.pv Y15],.agg [.pv Y2,.pv Y4]] [pB] (c4A (i_SegOk_m N))):=
 mO (fC (jdX N) (fC (jjU N) (fC (jqC N) (fC (jsa N) ja)))) func40 rfl N .no _
def jDT :Sh:=⟨.pv Y20::dz 4 (.pv Y20::pI::pI::dz 24 []),[]⟩
def jx1 (d:List Int):Z8:=
 (iter (fun h (b,c,e,a)=>bif decide (a<e)then oB (idx c a) fun f=>(oB (jm N f 0 999999999) fun i=>bif !i then some false else bif decide ((0:Int)<a)then if fits (a-1)then oB (idx b (a-1)) fun k=>(bif decide (f<=k)then some false else if fits (a+1)then h (b,c,e,(a+1))else none)else none else if fits (a+1)then h (b,c,e,(a+1))else none)else some (decide ((b.length:Int)<=60))) N (d,d,(d.length:Int),(0:Int)))
theorem jAN :mK 104 (bX [.pv Y20] [pB] (c1A (jx1 N))):=
 mO (fC (jY N) ja) func104 rfl N (.seq .no (.seq (.seq .no (.block (.loop jDT .no))) .no)) _
def jqv :Sh:=⟨.dead::pI:: .dead:: .dead:: .box 4 0::dz 6 (.pv Y2::pI::pI::dz 10 []),[(4,false,[pI,.nils,.nils])]⟩
def i_Seg_doc_m (d:(List Z2)×(List Z1)) (h:Int):Option (Int×Z11×Z6×Bool):=
 (iter (fun k (c,f,e,a,i)=>bif decide (a<e)then oB (idx f a) fun b=>(bif decide (b.1=c)then some (b.1,b.2.1,b.2.2,true)else if fits (a+1)then k (c,f,e,(a+1),i)else none)else some (0,([]:Z14),([]:Z7),false)) N (h,d.1,(d.1.length:Int),(0:Int),(0:Int)))
theorem jlU :mK 136 (bX [.ptr Y1,pI] [.tup [.agg [pI,.pv Y18,.pv Y14],pB]] (c2A (i_Seg_doc_m N))):=
 mO ja func136 rfl N (.seq .no (.seq (.seq .no (.block (.loop jqv .no))) .no)) _
def jIP :Sh:=⟨.pv Y20::pI::dz 5 (pI::pI::dz 10 []),[]⟩
def jHJ (c:List Int) (f:Int):Z13:=
 (iter (fun j (d,e,b,a)=>bif decide (a<b)then oB (idx d a) fun h=>(bif decide (e=h)then some a else if fits (a+1)then j (d,e,b,(a+1))else none)else some (-1)) N (c,f,(c.length:Int),(0:Int)))
theorem jJu :mK 168 (bX [.pv Y20,pI] [pI] (c2A (jHJ N))):=
 mO ja func168 rfl N (.seq .no (.seq (.seq .no (.block (.loop jIP .no))) .no)) _
def jHG (a:List Int) (c:Int):Z8:=
 (oB (jHJ N a c) fun b=>some (decide ((0:Int)<=b)))
theorem jIT :mK 105 (bX [.pv Y20,pI] [pB] (c2A (jHG N))):=
 mO (fC (jJu N) ja) func105 rfl N .no _
def k_cmp_isNaN_538_m (N:Nat) (a:Int):Z8:=
 (some (!decide (a=a)))
theorem joK :mK 174 (bX [pI] [pB] (c1A (k_cmp_isNaN_538_m N))):=
 mO ja func174 rfl N .no _
def k_cmp_Less_67_m (a:Int) (b:Int):Z8:=
 (oB (k_cmp_isNaN_538_m N a) fun c=>bif c then oB (k_cmp_isNaN_538_m N b) fun d=>(bif !d then some true else some (decide (a<b)))else some (decide (a<b)))
theorem jA5 :mK 229 (bX [pI,pI] [pB] (c2A (k_cmp_Less_67_m N))):=
 mO (fC (joK N) ja) func229 rfl N .no _
def jMa :Sh:=⟨.mtk 800000 tI 3 true::pI::pI::dz 3 (pI::dz 42 []),[]⟩
def jMW :Sh:=⟨.mtk 800000 tI 3 true::pI::pI::dz 3 (pI::pI::dz 41 []),[]⟩
def jKD (q:List Int) (e:Int) (t:Int):Z15:=
 (if fits (e+1)then iter (fun l (m,n,k,h)=>bif decide (h<k)then iter (fun o (b,d,j,c,a)=>bif decide (d<a)then if 0<=a/\a<(b.length:Int)then oB (b[a.toNat]?) fun u=>(if fits (a-1)then if 0<=(a-1)/\(a-1)<(b.length:Int)then oB (b[(a-1).toNat]?) fun p=>(oB (k_cmp_Less_67_m N u p) fun r=>bif r then if fits (a-1)then if fits (a-1)then if 0<=(a-1)/\(a-1)<(b.length:Int)then oB (b[(a-1).toNat]?) fun f=>(if 0<=a/\a<(b.length:Int)then oB (b[a.toNat]?) fun v=>(if 0<=a/\a<(b.length:Int)then oB (b[a.toNat]?) fun w=>(if 0<=(a-1)/\(a-1)<((b.set a.toNat f).length:Int)then oB ((b.set a.toNat f)[(a-1).toNat]?) fun x=>(if fits (a-1)then o (((b.set a.toNat f).set (a-1).toNat v),d,j,c,(a-1))else none)else none)else none)else none)else none else none else none else if fits (c+1)then l (b,d,j,(c+1))else none)else none else none)else none else if fits (c+1)then l (b,d,j,(c+1))else none) N (m,n,k,h,h)else some m) N (q,e,t,(e+1))else none)
theorem jMr :mK 223 (bX [.mtk 800000 tI 3 true,pI,pI] [.tup [],.mtk 800000 tI 3 true] (c3A (jKD N))):=
 mO (fC (jA5 N) ja) func223 rfl N (.seq .no (.block (.loop jMa (.seq .no (.seq (.block (.seq .no (.block (.loop jMW .no)))) .no))))) _ (rs:=[800000])
def jLj :Sh:=⟨.mtk 800000 tI 3 true:: .dead::pI::pI::dz 4 (pI::dz 67 []),[]⟩
def jMO :Sh:=⟨.mtk 800000 tI 3 true:: .dead::pI::pI::dz 4 (pI::pI::dz 66 []),[]⟩
def jKh (r:List Int) (p:Int) (x:Int) (n:Int):Z15:=
 (iter (fun t (h,i,f,b)=>if fits (2*b)then if fits ((2*b)+1)then bif decide (i<=((2*b)+1))then some h else(meet (fun(l:Z12)=>match l with|(d,m,a,c,e)=>if fits (a+c)then if 0<=(a+c)/\(a+c)<(d.length:Int)then oB (d[(a+c).toNat]?) fun o=>(if fits (a+e)then if 0<=(a+e)/\(a+e)<(d.length:Int)then oB (d[(a+e).toNat]?) fun z=>(oB (k_cmp_Less_67_m N o z) fun w=>bif !w then some d else if fits (a+c)then if fits (a+e)then if fits (a+e)then if 0<=(a+e)/\(a+e)<(d.length:Int)then oB (d[(a+e).toNat]?) fun j=>(if fits (a+c)then if 0<=(a+c)/\(a+c)<(d.length:Int)then oB (d[(a+c).toNat]?) fun u=>(if 0<=(a+c)/\(a+c)<(d.length:Int)then oB (d[(a+c).toNat]?) fun B=>(if 0<=(a+e)/\(a+e)<((d.set (a+c).toNat j).length:Int)then oB ((d.set (a+c).toNat j)[(a+e).toNat]?) fun A=>(t (((d.set (a+c).toNat j).set (a+e).toNat u),m,a,e))else none)else none)else none else none)else none else none else none else none)else none else none)else none else none) fun k=>if fits (((2*b)+1)+1)then bif decide ((((2*b)+1)+1)<i)then if fits (f+((2*b)+1))then if 0<=(f+((2*b)+1))/\(f+((2*b)+1))<(h.length:Int)then oB (h[(f+((2*b)+1)).toNat]?) fun y=>(if fits (f+((2*b)+1))then if fits ((f+((2*b)+1))+1)then if 0<=((f+((2*b)+1))+1)/\((f+((2*b)+1))+1)<(h.length:Int)then oB (h[((f+((2*b)+1))+1).toNat]?) fun q=>(oB (k_cmp_Less_67_m N y q) fun v=>bif v then if fits (((2*b)+1)+1)then k (h,i,f,b,(((2*b)+1)+1))else none else k (h,i,f,b,((2*b)+1)))else none else none else none)else none else none else(k (h,i,f,b,((2*b)+1)))else none)else none else none) N (r,x,n,p))
theorem jMR :mK 274 (bX [.mtk 800000 tI 3 true,pI,pI,pI] [.tup [],.mtk 800000 tI 3 true] (c4A (jKh N))):=
 mO (fC (jA5 N) ja) func274 rfl N (.seq .no (.block (.loop jLj (.block (.seq .no (.seq .no (.meet jMO .no .no))))))) _ (rs:=[800000])
def jNf :Sh:=⟨.mtk 800000 tI 3 true::dz 5 (pI::pI::pI::pI::dz 46 []),[]⟩
def jNc :Sh:=⟨.mtk 800000 tI 3 true::dz 5 (pI::pI:: .dead:: .dead::pI::dz 45 []),[]⟩
def jKw (q:List Int) (d:Int) (e:Int):Z15:=
 (if fits (e-d)then if fits ((e-d)-1)then if 2≠0 then if fits (((e-d)-1).tdiv 2)then iter (fun r (n,i,l,h,f)=>bif decide ((0:Int)<=f)then oB (jKh N n f h i) fun t=>(if fits (f-1)then r (t,i,l,h,(f-1))else none)else if fits (h-1)then iter (fun o (c,a,m,b)=>bif decide ((0:Int)<=b)then if fits (a+b)then if fits (a+b)then if 0<=(a+b)/\(a+b)<(c.length:Int)then oB (c[(a+b).toNat]?) fun k=>(if 0<=a/\a<(c.length:Int)then oB (c[a.toNat]?) fun p=>(if 0<=a/\a<(c.length:Int)then oB (c[a.toNat]?) fun v=>(if 0<=(a+b)/\(a+b)<((c.set a.toNat k).length:Int)then oB ((c.set a.toNat k)[(a+b).toNat]?) fun w=>(oB (jKh N ((c.set a.toNat k).set (a+b).toNat p) m b a) fun u=>if fits (b-1)then o (u,a,m,(b-1))else none)else none)else none)else none)else none else none else none else some c) N (n,i,l,(h-1))else none) N (q,d,(0:Int),(e-d),(((e-d)-1).tdiv 2))else none else none else none else none)
theorem jLI :mK 224 (bX [.mtk 800000 tI 3 true,pI,pI] [.tup [],.mtk 800000 tI 3 true] (c3A (jKw N))):=
 mO (fC (jMR N) ja) func224 rfl N (.seq .no (.seq .no (.seq .no (.seq (.seq .no (.block (.loop jNf .no))) (.seq .no (.block (.loop jNc .no))))))) _ (rs:=[800000])
def jKY :Sh:=⟨.mtk 800000 tI 3 true::pI::dz 4 (pI:: .box 7 0:: .pv (.int .u64)::pI::dz 55 []),[(7,false,[.pv (.int .u64)])]⟩
def jMt :Sh:=⟨.mtk 800000 tI 3 true::pI::dz 4 (pI:: .box 7 0:: .pv (.int .u64)::pI::pI::dz 54 []),[(7,false,[.pv (.int .u64)])]⟩
def jKH (q:List Int) (a:Int) (e:Int):Z15:=
 (if fits (e-a)then bif decide ((8:Int)<=(e-a))then oB (k_slices_nextPowerOfTwo_m N (e-a)) fun y=>(if 4≠0 then if fits ((e-a).tdiv 4)then if fits (((e-a).tdiv 4)*2)then if fits (a+(((e-a).tdiv 4)*2))then if fits ((a+(((e-a).tdiv 4)*2))-1)then iter (fun v (n,k,d,i,l,w)=>if 4≠0 then if fits (d.tdiv 4)then if fits ((d.tdiv 4)*2)then if fits (k+((d.tdiv 4)*2))then if fits ((k+((d.tdiv 4)*2))+1)then bif decide (l<=((k+((d.tdiv 4)*2))+1))then oB (k__slices_xorshift_Next_m N w) fun j=>(meet (fun(m:(List Int)×Int×Int×Int×Int×Int×Int)=>match m with|(f,c,x,r,b,h,t)=>if fits (c+h)then if fits (c+h)then if 0<=(c+h)/\(c+h)<(f.length:Int)then oB (f[(c+h).toNat]?) fun o=>(if 0<=b/\b<(f.length:Int)then oB (f[b.toNat]?) fun u=>(if 0<=b/\b<(f.length:Int)then oB (f[b.toNat]?) fun z=>(if 0<=(c+h)/\(c+h)<((f.set b.toNat o).length:Int)then oB ((f.set b.toNat o)[(c+h).toNat]?) fun A=>(if fits (b+1)then v (((f.set b.toNat o).set (c+h).toNat u),c,x,r,(b+1),t)else none)else none)else none)else none)else none else none else none) fun p=>bif decide (d<=(IntKind.i64.wrap (bitsI .and .u64 j.1 (IntKind.u64.wrap (i-1)))))then if fits ((IntKind.i64.wrap (bitsI .and .u64 j.1 (IntKind.u64.wrap (i-1))))-d)then p (n,k,d,i,l,((IntKind.i64.wrap (bitsI .and .u64 j.1 (IntKind.u64.wrap (i-1))))-d),j.2)else none else p (n,k,d,i,l,(IntKind.i64.wrap (bitsI .and .u64 j.1 (IntKind.u64.wrap (i-1)))),j.2))else(some n)else none else none else none else none else none) N (q,a,(e-a),y,((a+(((e-a).tdiv 4)*2))-1),(IntKind.u64.wrap (e-a)))else none else none else none else none else none)else(some q)else none)
theorem jMF :mK 225 (bX [.mtk 800000 tI 3 true,pI,pI] [.tup [],.mtk 800000 tI 3 true] (c3A (jKH N))):=
 mO (fC (jhv N) (fC (jet N) ja)) func225 rfl N (.seq .no (.seq .no (.cond (.seq .no (.seq .no (.seq .no (.block (.loop jKY (.seq .no (.seq (.block (.seq .no (.meet jMt .no .no))) .no))))))) .no))) _ (rs:=[800000])
def jJ7 (a:List Int) (b:Int) (c:Int) (d:Int):Option (Int×Int×(List Int)×Int):=
 (if 0<=c/\c<(a.length:Int)then oB (a[c.toNat]?) fun e=>(if 0<=b/\b<(a.length:Int)then oB (a[b.toNat]?) fun h=>(oB (k_cmp_Less_67_m N e h) fun f=>bif f then if fits (d+1)then some (c,b,a,(d+1))else none else some (b,c,a,d))else none)else none)
theorem jLg :mK 304 ⟨⟨[.mtk 800000 tI 3 true,pI,pI,.box 900003 0],[(900003,false,[pI])]⟩,⟨[.tup [pI,pI],.mtk 800000 tI 3 true],[(900003,false,[pI])]⟩,c4A (jJ7 N)⟩:=
 mO (fC (jA5 N) ja) func304 rfl N .no _ (rs:=[900003,800000])
def jKl (i:List Int) (d:Int) (f:Int) (e:Int) (h:Int):Option (Int×(List Int)×Int):=
 (oB (jJ7 N i d f h) fun a=>oB (jJ7 N a.2.2.1 a.2.1 e a.2.2.2) fun b=>oB (jJ7 N b.2.2.1 a.1 b.1 b.2.2.2) fun c=>some (c.2.1,c.2.2.1,c.2.2.2))
theorem jKO :mK 276 ⟨⟨[.mtk 800000 tI 3 true,pI,pI,pI,.box 900004 0],[(900004,false,[pI])]⟩,⟨[pI,.mtk 800000 tI 3 true],[(900004,false,[pI])]⟩,c5A (jKl N)⟩:=
 mO (fC (jLg N) ja) func276 rfl N .no _ (rs:=[900004,800000])
def jKb (d:List Int) (a:Int) (c:Int):Option (Int×(List Int)×Int):=
 (if fits (a-1)then if fits (a+1)then oB (jKl N d (a-1) a (a+1) c) fun b=>(some (b.1,b.2.1,b.2.2))else none else none)
theorem jLb :mK 275 ⟨⟨[.mtk 800000 tI 3 true,pI,.box 900002 0],[(900002,false,[pI])]⟩,⟨[pI,.mtk 800000 tI 3 true],[(900002,false,[pI])]⟩,c3A (jKb N)⟩:=
 mO (fC (jKO N) ja) func275 rfl N .no _ (rs:=[900002,800000])
def jLc :Sh:=⟨.mtk 800000 tI 3 true::dz 8 (.box 9 0::pI::pI::pI::dz 44 []),[(9,false,[pI])]⟩
def jM6 :Sh:=⟨.mtk 800000 tI 3 true::dz 8 (.box 9 0:: .dead::pI::dz 45 []),[(9,false,[pI])]⟩
def jKT (h:List Int) (a:Int) (b:Int):Option (Int×Int×(List Int)):=
 (if fits (b-a)then if 4≠0 then if fits ((b-a).tdiv 4)then if fits (((b-a).tdiv 4)*1)then if fits (a+(((b-a).tdiv 4)*1))then if 4≠0 then if fits ((b-a).tdiv 4)then if fits (((b-a).tdiv 4)*2)then if fits (a+(((b-a).tdiv 4)*2))then if 4≠0 then if fits ((b-a).tdiv 4)then if fits (((b-a).tdiv 4)*3)then if fits (a+(((b-a).tdiv 4)*3))then meet (fun(i:(List Int)×Int×Int)=>match i with|(c,d,m)=>bif decide (m=0)then some (d,1,c)else bif decide (m=12)then some (d,2,c)else some (d,0,c)) fun l=>(bif decide ((8:Int)<=(b-a))then meet (fun(i:Z12)=>match i with|(r,q,o,t,p)=>oB (jKl N r q o t p) fun e=>l (e.2.1,e.1,e.2.2)) fun n=>(bif decide ((50:Int)<=(b-a))then oB (jKb N h (a+(((b-a).tdiv 4)*1)) 0) fun j=>(oB (jKb N j.2.1 (a+(((b-a).tdiv 4)*2)) j.2.2) fun k=>oB (jKb N k.2.1 (a+(((b-a).tdiv 4)*3)) k.2.2) fun f=>n (f.2.1,j.1,k.1,f.1,f.2.2))else n (h,(a+(((b-a).tdiv 4)*1)),(a+(((b-a).tdiv 4)*2)),(a+(((b-a).tdiv 4)*3)),0))else l (h,(a+(((b-a).tdiv 4)*2)),0))else none else none else none else none else none else none else none else none else none else none else none else none else none)
theorem jMB :mK 226 (bX [.mtk 800000 tI 3 true,pI,pI] [.tup [pI,pI],.mtk 800000 tI 3 true] (c3A (jKT N))):=
 mO (fC (jLb N) (fC (jKO N) ja)) func226 rfl N (.seq .no (.seq .no (.seq .no (.seq .no (.seq .no (.seq .no (.meet jM6 (.seq .no (.cond (.meet jLc .no .no) .no)) .no))))))) _ (rs:=[800000])
def jLt :Sh:=⟨.mtk 800000 tI 3 true::dz 5 (pI::pI::dz 24 []),[]⟩
def jKC (j:List Int) (f:Int) (e:Int):Z15:=
 (if fits (e-1)then iter (fun k (c,a,b)=>bif decide (a<b)then if 0<=b/\b<(c.length:Int)then oB (c[b.toNat]?) fun d=>(if 0<=a/\a<(c.length:Int)then oB (c[a.toNat]?) fun h=>(if 0<=a/\a<(c.length:Int)then oB (c[a.toNat]?) fun l=>(if 0<=b/\b<((c.set a.toNat d).length:Int)then oB ((c.set a.toNat d)[b.toNat]?) fun m=>(if fits (a+1)then if fits (b-1)then k (((c.set a.toNat d).set b.toNat h),(a+1),(b-1))else none else none)else none)else none)else none)else none else some c) N (j,f,(e-1))else none)
theorem jLn :mK 227 (bX [.mtk 800000 tI 3 true,pI,pI] [.tup [],.mtk 800000 tI 3 true] (c3A (jKC N))):=
 mO ja func227 rfl N (.seq .no (.seq .no (.block (.loop jLt .no)))) _ (rs:=[800000])
end Go.Proofs.YtchgdmmcjgmfcaaGreatDoor
