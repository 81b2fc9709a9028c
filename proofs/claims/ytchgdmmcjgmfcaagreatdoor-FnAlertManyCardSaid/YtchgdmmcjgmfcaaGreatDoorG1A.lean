import Derived.Test.YtchgdmmcjgmfcaaGreatDoorSJ
set_option linter.unusedVariables false
set_option linter.unusedSimpArgs false
namespace Go.Proofs.YtchgdmmcjgmfcaaGreatDoor
open Go.RowKit Go.Proofs.Tryz
variable (N : Nat)
open Option renaming bind -> oB
set_option maxRecDepth 1000000
abbrev Z0 :Type:=Int×(List ((List UInt8)×(List UInt8)))×(List ((List UInt8)×Int))
abbrev Z1 :Type:=List UInt8
abbrev Z2 :Type:=Z1×Z1×(List (Int×(List Int)))
abbrev Z3 :Type:=(List Z1)×Z1
abbrev Z4 :Type:=((List Z0)×(List Z2))×(List Int)
abbrev Z5 :Type:=List (Int×(List Int))
abbrev Z7 :Type:=List (Z1×Int)
abbrev Z8 :Type:=List (Z1×Int)
abbrev Z9 :Type:=Option (Bool)
abbrev Z10 :Type:=Z1×Int×Int×Int
abbrev Z11 :Type:=List (Z1×Z1)
abbrev Z12 :Type:=List (Z1×Z1)
abbrev Z13 :Type:=((List Z1)×(List Z3))×(List Z0)×(List Z2)
abbrev Z14 :Type:=Option (Int)
abbrev Z15 :Type:=(List Int)×Int×Int×Int×Int
abbrev Z16 :Type:=List (Int×(List Int))
abbrev Z17 :Type:=Option ((List Int))
abbrev Z18 :Type:=List (List Int)
abbrev Z20 :Type:=Option ((List Z0))
abbrev Z21 :Type:=Z1×Z1×(List Int)×Int×Int×Int
abbrev Z22 :Type:=List (Z1×DQ)
abbrev Z23 :Type:=Int×Int×Z1×(List Z1)×Int×Int×(List DQ)×Bool×Int×Int×Int×Int×Bool×Int×Int
abbrev bX (a r:List VS) (f:HD (Sh.codes ⟨a,[]⟩)->Option (HD (Sh.codes ⟨r,[]⟩))):Model:=⟨⟨a,[]⟩,⟨r,[]⟩,f⟩
abbrev mK :=ModelOk Tryz.prog
theorem mO {l:List (Nat×Model)} (hl:jR Tryz.prog l) {f:FuncId} {fn:Func} {c:Code} (hf:Tryz.prog.funcs[f]? =some fn) (hbody:fn.body=some c) (N:Nat) (h:Hint) (m:Model) (wr rs dw:List Nat:=[])
  (hname:(fn.name== "runtime.NumGoroutine")=false:=by kernel_rfl) (hres:m.arg.names.all (jbC l wr rs dw).res=true:=by kernel_rfl) (hlen:Nat.ble m.arg.vals.length fn.ntmps=true:=by kernel_rfl)
  (hrun:∀a,m.run a=runF N (jbC l wr rs dw) okDraw fn c h m.arg m.ret a:=by intro a;kernel_rfl):ModelOk Tryz.prog f m:=modelOk_of (E:=jbC l wr rs dw) (jtQ hl wr rs dw) hf hname hbody N h m hres hlen hrun
theorem fC {k:Nat} {m:Model} {l:List (Nat×Model)} (h:ModelOk Tryz.prog k m) (hl:jR Tryz.prog l):jR Tryz.prog ((k,m)::l):=jsH h hl
abbrev pI :VS:=.pv (.int .i64)
abbrev pS :VS:=.pv .str
abbrev pB :VS:=.pv .bool
abbrev tI :Tp:=.int .i64
abbrev c1A {Z ρ:Type} (f:Z->ρ) (a:Z):ρ:=f a
abbrev c2A {α0 α1 ρ:Type} (f:α0->α1->ρ) (a:α0×α1):ρ:=f a.1 a.2
abbrev c3A {α0 α1 α2 ρ:Type} (f:α0->α1->α2->ρ) (a:α0×α1×α2):ρ:=f a.1 a.2.1 a.2.2
abbrev c4A {α0 α1 α2 α3 ρ:Type} (f:α0->α1->α2->α3->ρ) (a:α0×α1×α2×α3):ρ:=f a.1 a.2.1 a.2.2.1 a.2.2.2
abbrev c5A {α0 α1 α2 α3 α4 ρ:Type} (f:α0->α1->α2->α3->α4->ρ) (a:α0×α1×α2×α3×α4):ρ:=f a.1 a.2.1 a.2.2.1 a.2.2.2.1 a.2.2.2.2
abbrev c6A {α0 α1 α2 α3 α4 α5 ρ:Type} (f:α0->α1->α2->α3->α4->α5->ρ) (a:α0×α1×α2×α3×α4×α5):ρ:=f a.1 a.2.1 a.2.2.1 a.2.2.2.1 a.2.2.2.2.1 a.2.2.2.2.2
abbrev c7A {α0 α1 α2 α3 α4 α5 α6 ρ:Type} (f:α0->α1->α2->α3->α4->α5->α6->ρ) (a:α0×α1×α2×α3×α4×α5×α6):ρ:=f a.1 a.2.1 a.2.2.1 a.2.2.2.1 a.2.2.2.2.1 a.2.2.2.2.2.1 a.2.2.2.2.2.2
abbrev c9A {α0 α1 α2 α3 α4 α5 α6 α7 α8 ρ:Type} (f:α0->α1->α2->α3->α4->α5->α6->α7->α8->ρ) (a:α0×α1×α2×α3×α4×α5×α6×α7×α8):ρ:=f a.1 a.2.1 a.2.2.1 a.2.2.2.1 a.2.2.2.2.1 a.2.2.2.2.2.1 a.2.2.2.2.2.2.1 a.2.2.2.2.2.2.2.1 a.2.2.2.2.2.2.2.2
abbrev c10A {α0 α1 α2 α3 α4 α5 α6 α7 α8 α9 ρ:Type} (f:α0->α1->α2->α3->α4->α5->α6->α7->α8->α9->ρ) (a:α0×α1×α2×α3×α4×α5×α6×α7×α8×α9):ρ:=f a.1 a.2.1 a.2.2.1 a.2.2.2.1 a.2.2.2.2.1 a.2.2.2.2.2.1 a.2.2.2.2.2.2.1 a.2.2.2.2.2.2.2.1 a.2.2.2.2.2.2.2.2.1 a.2.2.2.2.2.2.2.2.2
abbrev c11A {α0 α1 α2 α3 α4 α5 α6 α7 α8 α9 α10 ρ:Type} (f:α0->α1->α2->α3->α4->α5->α6->α7->α8->α9->α10->ρ) (a:α0×α1×α2×α3×α4×α5×α6×α7×α8×α9×α10):ρ:=f a.1 a.2.1 a.2.2.1 a.2.2.2.1 a.2.2.2.2.1 a.2.2.2.2.2.1 a.2.2.2.2.2.2.1 a.2.2.2.2.2.2.2.1 a.2.2.2.2.2.2.2.2.1 a.2.2.2.2.2.2.2.2.2.1 a.2.2.2.2.2.2.2.2.2.2
def dz :Nat->List VS->List VS
 |0,l=>l
 |n+1,l=>.dead::dz n l
abbrev Y22 :Tp:=.sl tI
abbrev Y21 :Tp:=.pair .str .str
abbrev Y20 :Tp:=.sl (.pair .str .str)
abbrev Y19 :Tp:=.pair (.sl .str) .str
abbrev Y18 :Tp:=.pair .str tI
abbrev Y17 :Tp:=.sl (.pair (.sl .str) .str)
abbrev Y16 :Tp:=.sl (.pair .str tI)
abbrev Y15 :Tp:=.pair tI tI
abbrev Y14 :Tp:=.pair tI (.sl tI)
abbrev Y13 :Tp:=.sl (.pair tI (.sl tI))
abbrev Y8 :Tp:=.pair .str (.pair tI (.pair tI tI))
abbrev Y7 :Tp:=.pair .str (.pair .str (.sl (.pair tI (.sl tI))))
abbrev Y6 :Tp:=.sl (.pair .str (.pair .str (.sl (.pair tI (.sl tI)))))
abbrev Y5 :Tp:=.pair tI (.pair (.sl (.pair .str .str)) (.sl (.pair .str tI)))
abbrev Y4 :Tp:=.sl (.pair tI (.pair (.sl (.pair .str .str)) (.sl (.pair .str tI))))
abbrev Y3 :Tp:=.pair (.sl (.pair tI (.pair (.sl (.pair .str .str)) (.sl (.pair .str tI))))) (.sl (.pair .str (.pair .str (.sl (.pair tI (.sl tI))))))
abbrev Y2 :Tp:=.pair (.pair (.sl (.pair tI (.pair (.sl (.pair .str .str)) (.sl (.pair .str tI))))) (.sl (.pair .str (.pair .str (.sl (.pair tI (.sl tI))))))) (.sl tI)
abbrev Y1 :Tp:=.sl (.pair (.pair (.sl (.pair tI (.pair (.sl (.pair .str .str)) (.sl (.pair .str tI))))) (.sl (.pair .str (.pair .str (.sl (.pair tI (.sl tI))))))) (.sl tI))
abbrev Y0 :Tp:=.pair (.pair (.sl .str) (.sl (.pair (.sl .str) .str))) (.pair (.sl (.pair tI (.pair (.sl (.pair .str .str)) (.sl (.pair .str tI))))) (.sl (.pair .str (.pair .str (.sl (.pair tI (.sl tI)))))))
def jt0 (N:Nat) (a:List Int):Option ((List Int)×Int):=
 (bif decide ((2000:Int)<a.length)then oB (cut a 0 2000) fun b=>(some (b,0))else some (a,0))
theorem juQ :mK 50 ⟨⟨[.pv (.sl (.int .u8))],[]⟩,⟨[.box 10 0],[(10,false,[.pv (.sl (.int .u8)),pI])]⟩,c1A (jt0 N)⟩:=
 mO ja func50 rfl N .no _
def jtW (N:Nat) (e:Int) (b:List Int) (a:Int):Option (Int×(List Int)×Int):=
 (if fits (a+1)then bif decide (e<1)then some (0,b,(a+1))else(bif decide ((b.length:Int)=0)then some (0,b,(a+1))else if fits ((a+1)-1)then bif decide (((a+1)-1)<(b.length:Int))then oB (idx b ((a+1)-1)) fun f=>(if e≠0 then some (((IntKind.i64.wrap f).tmod e),b,(a+1))else none)else(if(b.length:Int)≠0 then oB (idx b (((a+1)-1).tmod (b.length:Int))) fun c=>(if fits ((IntKind.i64.wrap c)*131)then if fits (((a+1)-1)*7)then if fits ((((a+1)-1)*7)+3)then if(b.length:Int)≠0 then oB (idx b (((((a+1)-1)*7)+3).tmod (b.length:Int))) fun d=>(if fits ((IntKind.i64.wrap d)*1117)then if fits (((IntKind.i64.wrap c)*131)+((IntKind.i64.wrap d)*1117))then if fits (((a+1)-1)*29)then if fits ((((IntKind.i64.wrap c)*131)+((IntKind.i64.wrap d)*1117))+(((a+1)-1)*29))then if(b.length:Int)≠0 then if fits (((a+1)-1).tdiv (b.length:Int))then if fits ((((a+1)-1).tdiv (b.length:Int))*53)then if fits (((((IntKind.i64.wrap c)*131)+((IntKind.i64.wrap d)*1117))+(((a+1)-1)*29))+((((a+1)-1).tdiv (b.length:Int))*53))then if 64≠0 then if fits ((((((IntKind.i64.wrap c)*131)+((IntKind.i64.wrap d)*1117))+(((a+1)-1)*29))+((((a+1)-1).tdiv (b.length:Int))*53)).tdiv 64)then if e≠0 then some (((bitsI .xor .i64 (((((IntKind.i64.wrap c)*131)+((IntKind.i64.wrap d)*1117))+(((a+1)-1)*29))+((((a+1)-1).tdiv (b.length:Int))*53)) ((((((IntKind.i64.wrap c)*131)+((IntKind.i64.wrap d)*1117))+(((a+1)-1)*29))+((((a+1)-1).tdiv (b.length:Int))*53)).tdiv 64)).tmod e),b,(a+1))else none else none else none else none else none else none else none else none else none else none else none)else none else none else none else none)else none)else none)else none)
theorem jtX :mK 98 ⟨⟨[.box 900000 0,pI],[(900000,false,[.pv (.sl (.int .u8)),pI])]⟩,⟨[pI],[(900000,false,[.pv (.sl (.int .u8)),pI])]⟩,c3A (jtW N)⟩:=
 mO ja func98 rfl N .no _ (rs:=[900000])
def juL :Sh:=⟨.box 900000 0:: .dead:: .box 2 0:: .box 3 0::dz 30 [],[(2,false,[.nils,.nils]),(3,false,[.own 13 .str 9 true,.nils]),(900000,false,[.pv (.sl (.int .u8)),pI])]⟩
def juw :Sh:=⟨.box 900000 0:: .dead:: .box 2 0:: .box 3 0::dz 30 [],[(2,false,[.nils,.nils]),(3,false,[.own 8 .str 9 true,.nils]),(900000,false,[.pv (.sl (.int .u8)),pI])]⟩
def s_l30Conf_m (m:List Int) (k:Int):Option ((List Z1)×(List Z3)×(List Int)×Int):=
 (meet (fun(e:(List Z1)×(List Int)×Int)=>match e with|(o,i,l)=>meet (fun(e:(List Z1)×(List Int)×Int)=>match e with|(d,n,j)=>oB (jtW N 4 n j) fun a=>bif decide (a.1=0)then some (d,([(([([110,101,119]:List UInt8),([121,111,114,107]:List UInt8)]:List Z1),([110,121]:List UInt8))]:List Z3),a.2.1,a.2.2)else bif decide (a.1=1)then some (d,([(([([98,105,103]:List UInt8)]:List Z1),([108,97,114,103]:List UInt8)),(([([98,105,103]:List UInt8),([114,101,100]:List UInt8),([102,111,120]:List UInt8)]:List Z1),([102,111,120]:List UInt8)),(([([110,101,119]:List UInt8),([121,111,114,107]:List UInt8)]:List Z1),([110,121]:List UInt8))]:List Z3),a.2.1,a.2.2)else some (d,([]:List Z3),a.2.1,a.2.2)) fun f=>oB (jtW N 4 i l) fun b=>bif decide (b.1=0)then f (([([100,111,103]:List UInt8),([116,104,101]:List UInt8)]:List Z1),b.2.1,b.2.2)else f (o,b.2.1,b.2.2)) fun h=>oB (jtW N 3 m k) fun c=>bif decide ((0:Int)<c.1)then h (([([116,104,101]:List UInt8)]:List Z1),c.2.1,c.2.2)else h (([]:List Z1),c.2.1,c.2.2))
theorem jva :mK 137 ⟨⟨[.box 900000 0],[(900000,false,[.pv (.sl (.int .u8)),pI])]⟩,⟨[.agg [.own 1 .str 9 true,.own 2 Y19 117 true]],[(900000,false,[.pv (.sl (.int .u8)),pI])]⟩,c2A (s_l30Conf_m N)⟩:=
 mO (fC (jtX N) ja) func137 rfl N (.seq .no (.seq .no (.meet juw .no (.meet juL .no .no)))) _ (rs:=[900000])
def jt (N:Nat) (a:Int):Z14:=
 (bif decide ((65:Int)<=a)then bif decide (a<=90)then some (IntKind.u8.wrap (a+32))else(bif decide ((97:Int)<=a)then bif decide (a<=122)then some a else(bif decide ((48:Int)<=a)then bif decide (a<=57)then some a else(some 0)else some 0)else bif decide ((48:Int)<=a)then bif decide (a<=57)then some a else(some 0)else some 0)else bif decide ((97:Int)<=a)then bif decide (a<=122)then some a else(bif decide ((48:Int)<=a)then bif decide (a<=57)then some a else(some 0)else some 0)else bif decide ((48:Int)<=a)then bif decide (a<=57)then some a else(some 0)else some 0)
theorem jfG :mK 197 (bX [.pv (.int .u8)] [.pv (.int .u8)] (c1A (jt N))):=
 mO ja func197 rfl N .no _
def jJ (N:Nat) (a:Int) (b:Int) (c:Int):Z9:=
 (bif decide (b<=a)then some (decide (a<=c))else some false)
theorem jcL :mK 71 (bX [pI,pI,pI] [pB] (c3A (jJ N))):=
 mO ja func71 rfl N .no _
def jr5 :Sh:=⟨pS:: .dead:: .dead::pI::dz 23 [],[]⟩
def jT (j:List UInt8):Z9:=
 (iter (fun i (b,a)=>bif decide (a<(b.length:Int))then oB (idx b a) fun k=>(oB (jt N (k.toNat:Int)) fun e=>oB (idx b a) fun d=>bif !decide (e=(d.toNat:Int))then some false else oB (idx b a) fun h=>bif decide ((h.toNat:Int)=0)then some false else if fits (a+1)then i (b,(a+1))else none)else oB (jJ N (b.length:Int) 1 12) fun c=>some c) N (j,(0:Int)))
theorem jgp :mK 142 (bX [pS] [pB] (c1A (jT N))):=
 mO (fC (jfG N) (fC (jcL N) ja)) func142 rfl N (.seq .no (.seq (.seq .no (.block (.loop jr5 .no))) .no)) _
def jdI (N:Nat):Option ((List Z1)):=
 (some ([([105,110,103]:List UInt8),([101,100]:List UInt8),([101,115]:List UInt8),([108,121]:List UInt8),([115]:List UInt8)]:List Z1))
theorem jkj :mK 264 ⟨⟨[],[]⟩,⟨[.own 1 .str 9 true],[]⟩,fun a=>jdI N⟩:=
 mO ja func264 rfl N .no _
def jl2 :Sh:=⟨pS:: .dead:: .dead::pI::dz 30 [],[]⟩
def ja6 (k:List UInt8):Option (Z1):=
 (iter (fun d (a,b)=>oB (jdI N) fun f=>bif decide (b<(f.length:Int))then oB (jdI N) fun e=>(oB (idx e b) fun c=>if fits ((a.length:Int)-(c.length:Int))then bif decide ((3:Int)<=((a.length:Int)-(c.length:Int)))then oB (cut a ((a.length:Int)-(c.length:Int)) (a.length:Int)) fun j=>(bif decide (j=c)then oB (cut a 0 ((a.length:Int)-(c.length:Int))) fun h=>(some h)else if fits (b+1)then d (a,(b+1))else none)else(if fits (b+1)then d (a,(b+1))else none)else none)else some a) N (k,(0:Int)))
theorem jtL :mK 198 (bX [pS] [pS] (c1A (ja6 N))):=
 mO (fC (jkj N) ja) func198 rfl N (.seq .no (.seq (.seq .no (.block (.loop jl2 .no))) .no)) _
def jto :Sh:=⟨pS::dz 9 [],[]⟩
def jaq (e:List UInt8):Option (Z1):=
 (iter (fun c (b:Z1)=>let s2:=b;(oB (ja6 N s2) fun d=>bif !decide (d=s2)then oB (ja6 N s2) fun a=>(c a)else some s2)) N e)
theorem jfZ :mK 143 (bX [pS] [pS] (c1A (jaq N))):=
 mO (fC (jtL N) ja) func143 rfl N (.seq .no (.seq (.block (.loop jto .no)) .no)) _
def jlY :Sh:=⟨.pv (.sl .str)::pS::dz 3 (pI::dz 12 []),[]⟩
def jap (h:List Z1) (i:List UInt8):Z9:=
 (iter (fun e (b,c,a)=>bif decide (a<(b.length:Int))then oB (idx b a) fun d=>(bif decide (d=c)then some true else if fits (a+1)then e (b,c,(a+1))else none)else some false) N (h,i,(0:Int)))
theorem jhP :mK 144 (bX [.pv (.sl .str),pS] [pB] (c2A (jap N))):=
 mO ja func144 rfl N (.seq .no (.seq (.seq .no (.block (.loop jlY .no))) .no)) _
def jrs :Sh:=⟨.dead:: .box 1 0:: .dead::pI::dz 114 [],[(1,false,[.pv (.sl .str),.pv Y17])]⟩
def js0 :Sh:=⟨.dead:: .box 1 0:: .dead:: .dead::pI::dz 113 [],[(1,false,[.pv (.sl .str),.pv Y17])]⟩
def jrc :Sh:=⟨.dead:: .box 1 0:: .dead:: .dead::pI:: .box 5 0::pI::dz 111 [],[(1,false,[.pv (.sl .str),.pv Y17]),(5,false,[.pv (.sl .str),pS])]⟩
def jcw (B:List Z1) (v:List Z3):Z9:=
 (iter (fun q (a,b,i)=>bif decide (a<(b.length:Int))then oB (idx b a) fun u=>(oB (jT N u) fun E=>bif !E then some false else bif decide ((0:Int)<a)then oB (idx b a) fun p=>(if fits (a-1)then oB (idx b (a-1)) fun m=>(bif Op.bytesLess p m||decide (p=m)then some false else if fits (a+1)then q ((a+1),b,i)else none)else none)else if fits (a+1)then q ((a+1),b,i)else none)else iter (fun C (k,n,f)=>bif decide (k<(f.length:Int))then oB (idx f k) fun r=>(iter (fun H (j,d,l,o,c,h)=>bif decide (d<(c.length:Int))then oB (idx c d) fun A=>(oB (jT N A) fun t=>bif !t then some false else oB (idx c d) fun K=>oB (jaq N K) fun I=>oB (idx c d) fun x=>bif !decide (I=x)then some false else oB (idx c d) fun y=>oB (jap N l y) fun z=>bif z then some false else if fits (d+1)then H (j,(d+1),l,o,c,h)else none)else oB (jJ N (c.length:Int) 1 3) fun G=>bif !G then some false else oB (jT N h) fun D=>bif !D then some false else oB (jaq N h) fun w=>bif !decide (w=h)then some false else if fits (j+1)then C ((j+1),l,o)else none) N (k,(0:Int),n,f,r.1,r.2))else bif decide ((n.length:Int)<=6)then some (decide ((f.length:Int)<=4))else some false) N ((0:Int),b,i)) N ((0:Int),B,v))
theorem jtf :mK 82 (bX [.agg [.pv (.sl .str),.pv Y17]] [pB] (c2A (jcw N))):=
 mO (fC (jgp N) (fC (jfZ N) (fC (jhP N) (fC (jcL N) ja)))) func82 rfl N (.seq .no (.seq (.seq .no (.block (.loop jrs .no))) (.seq (.seq .no (.block (.loop js0 (.seq .no (.seq (.block (.seq .no (.seq (.seq .no (.block (.loop jrc .no))) .no))) .no))))) .no))) _
def jot :Sh:=⟨pS:: .dead:: .dead::pI::dz 19 [],[]⟩
def jcu (f:List UInt8):Z9:=
 (iter (fun d (b,a)=>bif decide (a<(b.length:Int))then oB (idx b a) fun h=>(bif decide ((h.toNat:Int)<32)then some false else oB (idx b a) fun c=>bif decide ((126:Int)<(c.toNat:Int))then some false else if fits (a+1)then d (b,(a+1))else none)else some (decide ((b.length:Int)<=160))) N (f,(0:Int)))
theorem jpZ :mK 145 (bX [pS] [pB] (c1A (jcu N))):=
 mO ja func145 rfl N (.seq .no (.seq (.seq .no (.block (.loop jot .no))) .no)) _
def jp0 :Sh:=⟨.dead:: .box 1 0:: .dead::pI::dz 100 [],[(1,false,[pI,.pv Y20,.pv Y16])]⟩
def jtP :Sh:=⟨.dead:: .box 1 0::dz 3 (pI::dz 98 []),[(1,false,[pI,.pv Y20,.pv Y16])]⟩
def jcb (v:Int) (t:Z12) (A:Z8):Z9:=
 (iter (fun p (b,i,d,f)=>bif decide (b<(d.length:Int))then oB (idx d b) fun e=>(oB (jT N e.1) fun x=>bif !x then some false else oB (jcu N e.2) fun q=>bif !q then some false else bif decide ((0:Int)<b)then if fits (b-1)then oB (idx d (b-1)) fun n=>(bif Op.bytesLess e.1 n.1||decide (e.1=n.1)then some false else if fits (b+1)then p ((b+1),i,d,f)else none)else none else if fits (b+1)then p ((b+1),i,d,f)else none)else iter (fun m (a,j,h,c)=>bif decide (a<(c.length:Int))then oB (idx c a) fun r=>(oB (jT N r.1) fun z=>bif !z then some false else oB (idx c a) fun B=>oB (jJ N B.2 0 999999999) fun u=>bif !u then some false else bif decide ((0:Int)<a)then oB (idx c a) fun l=>(if fits (a-1)then oB (idx c (a-1)) fun o=>(bif Op.bytesLess l.1 o.1||decide (l.1=o.1)then some false else if fits (a+1)then m ((a+1),j,h,c)else none)else none)else if fits (a+1)then m ((a+1),j,h,c)else none)else oB (jJ N j 1 9999) fun y=>bif y then oB (jJ N (h.length:Int) 0 3) fun w=>(bif w then some (decide ((c.length:Int)<=3))else some false)else some false) N ((0:Int),i,d,f)) N ((0:Int),v,t,A))
theorem jpD :mK 83 (bX [.agg [pI,.pv Y20,.pv Y16]] [pB] (c3A (jcb N))):=
 mO (fC (jgp N) (fC (jpZ N) (fC (jcL N) ja))) func83 rfl N (.seq .no (.seq (.seq .no (.block (.loop jp0 .no))) (.seq (.seq .no (.block (.loop jtP .no))) .no))) _
def jl5 :Sh:=⟨.pv (.sl .str)::pS::dz 3 (pI::dz 42 []),[]⟩
def s_l7Put_m (o:List Z1) (t:List UInt8):Option ((List Z1)):=
 (iter (fun r (a,b,c)=>bif decide (c<(a.length:Int))then oB (idx a c) fun n=>(bif Op.bytesLess n b then if fits (c+1)then r (a,b,(c+1))else none else bif decide (c<(a.length:Int))then oB (idx a c) fun p=>(bif decide (p=b)then some a else oB (cut a 0 c) fun f=>if room ([]:List Z1).length f.length 16 then if room (([]:List Z1)++f).length ([b]:List Z1).length 16 then oB (cut a c (a.length:Int)) fun k=>(if room ((([]:List Z1)++f)++([b]:List Z1)).length k.length 16 then some (((([]:List Z1)++f)++([b]:List Z1))++k)else none)else none else none)else oB (cut a 0 c) fun d=>if room ([]:List Z1).length d.length 16 then if room (([]:List Z1)++d).length ([b]:List Z1).length 16 then oB (cut a c (a.length:Int)) fun j=>(if room ((([]:List Z1)++d)++([b]:List Z1)).length j.length 16 then some (((([]:List Z1)++d)++([b]:List Z1))++j)else none)else none else none)else bif decide (c<(a.length:Int))then oB (idx a c) fun m=>(bif decide (m=b)then some a else oB (cut a 0 c) fun e=>if room ([]:List Z1).length e.length 16 then if room (([]:List Z1)++e).length ([b]:List Z1).length 16 then oB (cut a c (a.length:Int)) fun l=>(if room ((([]:List Z1)++e)++([b]:List Z1)).length l.length 16 then some (((([]:List Z1)++e)++([b]:List Z1))++l)else none)else none else none)else oB (cut a 0 c) fun h=>if room ([]:List Z1).length h.length 16 then if room (([]:List Z1)++h).length ([b]:List Z1).length 16 then oB (cut a c (a.length:Int)) fun i=>(if room ((([]:List Z1)++h)++([b]:List Z1)).length i.length 16 then some (((([]:List Z1)++h)++([b]:List Z1))++i)else none)else none else none) N (o,t,(0:Int)))
theorem jgt :mK 180 (bX [.pv (.sl .str),pS] [.pv (.sl .str)] (c2A (s_l7Put_m N))):=
 mO ja func180 rfl N (.seq .no (.seq .no (.seq (.block (.loop jl5 .no)) .no))) _
def joT :Sh:=⟨.pv Y4:: .dead:: .dead:: .pv (.sl .str)::pI::dz 30 [],[]⟩
def jkn :Sh:=⟨.pv Y4:: .dead:: .dead:: .pv (.sl .str)::pI::pI::dz 29 [],[]⟩
def s_l7Names_m (o:List Z0):Option ((List Z1)):=
 (iter (fun p (h,e,f)=>bif decide (f<(h.length:Int))then iter (fun j (b,i,a,c)=>oB (idx b a) fun m=>bif decide (c<(m.2.1.length:Int))then oB (idx b a) fun k=>(oB (idx k.2.1 c) fun l=>oB (s_l7Put_m N i l.1) fun n=>if fits (c+1)then j (b,n,a,(c+1))else none)else if fits (a+1)then p (b,i,(a+1))else none) N (h,e,f,(0:Int))else some e) N (o,([]:List Z1),(0:Int)))
theorem jlz :mK 124 (bX [.pv Y4] [.pv (.sl .str)] (c1A (s_l7Names_m N))):=
 mO (fC (jgt N) ja) func124 rfl N (.seq .no (.seq .no (.seq (.seq .no (.block (.loop joT (.seq .no (.seq (.block (.seq .no (.block (.loop jkn .no)))) .no))))) .no))) _
def jl8 :Sh:=⟨.dead::pS:: .box 2 0:: .dead:: .dead::pI::dz 21 [],[(2,false,[pI,.pv Y20,.pv Y16])]⟩
def s_l6Field_m (l:Int) (d:Z12) (k:Z8) (h:List UInt8):Option (Z1):=
 (iter (fun m (c,a,n,b,i)=>bif decide (a<(b.length:Int))then oB (idx b a) fun f=>(bif decide (f.1=c)then oB (idx b a) fun e=>(some e.2)else if fits (a+1)then m (c,(a+1),n,b,i)else none)else some ([]:List UInt8)) N (h,(0:Int),l,d,k))
theorem jhA :mK 182 (bX [.agg [pI,.pv Y20,.pv Y16],pS] [pS] (c4A (s_l6Field_m N))):=
 mO ja func182 rfl N (.seq .no (.seq (.seq .no (.block (.loop jl8 .no))) .no)) _
def jo3 :Sh:=⟨pS:: .dead:: .dead:: .own 600003 Y8 196 true::pI::dz 50 [],[]⟩
def jm6 :Sh:=⟨pS:: .dead:: .dead:: .own 600003 Y8 196 true::pI:: .own 600005 (.int .u8) 5 true::pI::dz 48 [],[]⟩
def jtK :Sh:=⟨pS:: .dead:: .dead:: .own 600003 Y8 196 true::pI:: .pv (.sl (.int .u8))::pI::dz 48 [],[]⟩
def jb3 (G:List UInt8):Option ((List Z10)):=
 (iter (fun l (v,q,o)=>bif decide (o<(v.length:Int))then iter (fun C (b,i,a,c,j)=>bif decide (a<(b.length:Int))then oB (idx b a) fun B=>(oB (jt N (B.toNat:Int)) fun D=>bif !decide (D=0)then oB (idx b a) fun z=>(oB (jt N (z.toNat:Int)) fun p=>if room c.length ([p]:List Int).length 1 then if fits (a+1)then C (b,i,(a+1),(c++([p]:List Int)),j)else none else none)else meet (fun(d:Z1×(List Z10)×Int×(List Int)×Int)=>match d with|(w,h,e,n,x)=>bif decide ((0:Int)<n.length)then if room h.length ([((bytesOf n),(h.length:Int),x,e)]:List Z10).length 40 then if fits (e+1)then l (w,(h++([((bytesOf n),(h.length:Int),x,e)]:List Z10)),(e+1))else none else none else if fits (e+1)then l (w,h,(e+1))else none) fun t=>bif decide ((12:Int)<c.length)then oB (cut c 0 12) fun A=>(t (b,i,a,A,j))else t (b,i,a,c,j))else meet (fun(d:Z1×(List Z10)×Int×(List Int)×Int)=>match d with|(u,k,f,m,r)=>bif decide ((0:Int)<m.length)then if room k.length ([((bytesOf m),(k.length:Int),r,f)]:List Z10).length 40 then if fits (f+1)then l (u,(k++([((bytesOf m),(k.length:Int),r,f)]:List Z10)),(f+1))else none else none else if fits (f+1)then l (u,k,(f+1))else none) fun y=>bif decide ((12:Int)<c.length)then oB (cut c 0 12) fun E=>(y (b,i,a,E,j))else y (b,i,a,c,j)) N (v,q,o,([]:List Int),o)else some q) N (G,([]:List Z10),(0:Int)))
theorem jsr :mK 289 (bX [pS] [.own 1 Y8 196 true] (c1A (jb3 N))):=
 mO (fC (jfG N) ja) func289 rfl N (.seq .no (.seq .no (.seq (.seq .no (.block (.loop jo3 (.seq .no (.seq (.block (.seq .no (.seq .no (.seq (.block (.loop jm6 .no)) (.meet jtK .no .no))))) .no))))) .no))) _
def jmf :Sh:=⟨.dead:: .dead:: .box 2 0:: .dead:: .dead:: .own 600005 Y18 126 true:: .own 600006 Y8 196 true::pI::dz 43 [],[(2,false,[.pv (.sl .str),.pv Y17])]⟩
def jbY (m:List Z1) (k:List Z3) (r:List UInt8):Option (Z7):=
 (oB (jb3 N r) fun o=>iter (fun h (c,b,a,d,f)=>bif decide (a<(b.length:Int))then oB (idx b a) fun j=>(oB (jaq N j.1) fun e=>oB (idx b a) fun n=>oB (jap N d n.1) fun p=>bif !p then oB (jap N d e) fun l=>(bif !l then oB (idx b a) fun i=>(if room c.length ([(e,i.2.1)]:Z8).length 24 then if fits (a+1)then h ((c++([(e,i.2.1)]:Z8)),b,(a+1),d,f)else none else none)else if fits (a+1)then h (c,b,(a+1),d,f)else none)else if fits (a+1)then h (c,b,(a+1),d,f)else none)else some c) N (([]:Z8),o,(0:Int),m,k))
theorem jrk :mK 243 (bX [.agg [.pv (.sl .str),.pv Y17],pS] [.own 1 Y18 126 true] (c3A (jbY N))):=
 mO (fC (jsr N) (fC (jfZ N) (fC (jhP N) ja))) func243 rfl N (.seq .no (.seq .no (.seq .no (.seq (.seq .no (.block (.loop jmf .no))) .no)))) _
def jrL :Sh:=⟨.pv Y16:: .pv (.sl .str)::dz 3 (pI::dz 36 []),[]⟩
def jcC (l:Z8) (k:List Z1):Z9:=
 (iter (fun i (b,c,a)=>bif decide (a<(c.length:Int))then bif decide ((b.length:Int)<=a)then some false else(oB (idx b a) fun h=>oB (idx c a) fun e=>bif !decide (h.1=e)then some false else oB (idx b a) fun f=>oB (idx b 0) fun d=>if fits (d.2+a)then bif !decide (f.2=(d.2+a))then some false else(if fits (a+1)then i (b,c,(a+1))else none)else none)else some true) N (l,k,(0:Int)))
theorem jtg :mK 290 (bX [.pv Y16,.pv (.sl .str)] [pB] (c2A (jcC N))):=
 mO ja func290 rfl N (.seq .no (.seq (.seq .no (.block (.loop jrL .no))) .no)) _
def jlL :Sh:=⟨.dead:: .pv Y16:: .box 2 0:: .dead:: .dead::pI::pI::dz 38 [],[(2,false,[.pv (.sl .str),.pv Y17])]⟩
def jcJ (o:List Z1) (k:List Z3) (n:Z8):Z14:=
 (iter (fun f (c,d,a,e,b)=>bif decide (a<(b.length:Int))then oB (idx b a) fun j=>(oB (jcC N c j.1) fun l=>bif l then bif decide (d<0)then if fits (a+1)then f (c,a,(a+1),e,b)else none else(oB (idx b a) fun h=>oB (idx b d) fun i=>bif decide ((i.1.length:Int)<(h.1.length:Int))then if fits (a+1)then f (c,a,(a+1),e,b)else none else if fits (a+1)then f (c,d,(a+1),e,b)else none)else if fits (a+1)then f (c,d,(a+1),e,b)else none)else some d) N (n,((-1):Int),(0:Int),o,k))
theorem jqp :mK 244 (bX [.agg [.pv (.sl .str),.pv Y17],.pv Y16] [pI] (c3A (jcJ N))):=
 mO (fC (jtg N) ja) func244 rfl N (.seq .no (.seq .no (.seq (.seq .no (.block (.loop jlL .no))) .no))) _
def jnK :Sh:=⟨.dead:: .dead:: .box 2 0:: .dead:: .dead:: .own 600005 Y18 126 true:: .pv Y16::dz 45 [],[(2,false,[.pv (.sl .str),.pv Y17])]⟩
def ja5 (j:List Z1) (i:List Z3) (q:List UInt8):Option (Z7):=
 (oB (jbY N j i q) fun n=>iter (fun l (b,a,e,c)=>bif decide ((0:Int)<a.length)then oB (jcJ N e c a) fun d=>(bif decide (d<0)then oB (idx a 0) fun h=>(if room b.length ([h]:Z8).length 24 then oB (cut a 1 (a.length:Int)) fun m=>(l ((b++([h]:Z8)),m,e,c))else none)else oB (idx c d) fun k=>oB (idx a 0) fun f=>if room b.length ([(k.2,f.2)]:Z8).length 24 then oB (idx c d) fun r=>(oB (cut a (r.1.length:Int) (a.length:Int)) fun o=>l ((b++([(k.2,f.2)]:Z8)),o,e,c))else none)else some b) N (([]:Z8),n,j,i))
theorem jiO :mK 181 (bX [.agg [.pv (.sl .str),.pv Y17],pS] [.own 1 Y18 126 true] (c3A (ja5 N))):=
 mO (fC (jrk N) (fC (jqp N) ja)) func181 rfl N (.seq .no (.seq .no (.seq .no (.seq (.block (.loop jnK .no)) .no)))) _
def jn9 :Sh:=⟨.dead:: .pv Y4::pS:: .box 3 0::dz 3 (.pv (.sl .str)::pI::dz 31 []),[(3,false,[.pv (.sl .str),.pv Y17])]⟩
def jrT :Sh:=⟨.dead:: .pv Y4::pS:: .box 3 0::dz 3 (.pv (.sl .str)::pI:: .own 600009 Y18 126 true::pI::dz 29 []),[(3,false,[.pv (.sl .str),.pv Y17])]⟩
def s_l7Terms_m (v:List Z1) (t:List Z3) (z:List Z0) (B:List UInt8):Option ((List Z1)):=
 (iter (fun u (f,i,j,h,m,l)=>bif decide (h<(f.length:Int))then oB (idx f h) fun b=>(oB (s_l6Field_m N b.1 b.2.1 b.2.2 i) fun y=>oB (ja5 N m l y) fun r=>iter (fun w (p,n,o,d,c,a,k,q)=>bif decide (a<(c.length:Int))then oB (idx c a) fun x=>(oB (s_l7Put_m N o x.1) fun A=>if fits (a+1)then w (p,n,A,d,c,(a+1),k,q)else none)else if fits (d+1)then u (p,n,o,(d+1),k,q)else none) N (f,i,j,h,r,(0:Int),m,l))else some j) N (z,B,([]:List Z1),(0:Int),v,t))
theorem jqQ :mK 125 (bX [.agg [.pv (.sl .str),.pv Y17],.pv Y4,pS] [.pv (.sl .str)] (c4A (s_l7Terms_m N))):=
 mO (fC (jhA N) (fC (jiO N) (fC (jgt N) ja))) func125 rfl N (.seq .no (.seq .no (.seq (.seq .no (.block (.loop jn9 (.seq .no (.seq (.block (.seq .no (.seq .no (.block (.loop jrT .no))))) .no))))) .no))) _
def jnY :Sh:=⟨dz 3 (pS::dz 5 (.own 600009 tI 3 true:: .own 600010 Y18 126 true::pI::dz 28 [])),[]⟩
def s_l7Post_m (m:List Z1) (k:List Z3) (l:Int) (i:Z12) (p:Z8) (r:List UInt8) (q:List UInt8):Z17:=
 (oB (s_l6Field_m N l i p r) fun n=>oB (ja5 N m k n) fun h=>iter (fun e (d,c,b,a)=>bif decide (a<(b.length:Int))then oB (idx b a) fun j=>(bif decide (j.1=d)then oB (idx b a) fun f=>(if room c.length ([f.2]:List Int).length 8 then if fits (a+1)then e (d,(c++([f.2]:List Int)),b,(a+1))else none else none)else if fits (a+1)then e (d,c,b,(a+1))else none)else some c) N (q,([]:List Int),h,(0:Int)))
theorem js6 :mK 183 (bX [.agg [.pv (.sl .str),.pv Y17],.agg [pI,.pv Y20,.pv Y16],pS,pS] [.own 1 tI 3 true] (c7A (s_l7Post_m N))):=
 mO (fC (jhA N) (fC (jiO N) ja)) func183 rfl N (.seq .no (.seq .no (.seq .no (.seq (.seq .no (.block (.loop jnY .no))) .no)))) _
def jkw :Sh:=⟨.dead:: .pv Y4::pS::pS:: .box 4 0::dz 3 (.box 8 0:: .box 9 0::pI::dz 34 []),[(4,false,[.pv (.sl .str),.pv Y17]),(8,false,[pS,pS,.nils]),(9,false,[pS,pS,.own 700902 Y14 204 true])]⟩
def s_l7Entry_m (u:List Z1) (t:List Z3) (v:List Z0) (r:List UInt8) (p:List UInt8):Option Z2:=
 (iter (fun q (b,d,k,a,h,f,n,m,e,i,c)=>bif decide (a<(b.length:Int))then oB (idx b a) fun l=>(oB (s_l7Post_m N h f l.1 l.2.1 l.2.2 d k) fun j=>bif decide ((0:Int)<j.length)then oB (idx b a) fun o=>(if room c.length ([(o.1,j)]:Z5).length 32 then if fits (a+1)then q (b,d,k,(a+1),h,f,n,m,e,i,(c++([(o.1,j)]:Z5)))else none else none)else if fits (a+1)then q (b,d,k,(a+1),h,f,n,m,e,i,c)else none)else some (e,i,c)) N (v,r,p,(0:Int),u,t,([]:List UInt8),([]:List UInt8),r,p,([]:Z5)))
theorem jtr :mK 126 (bX [.agg [.pv (.sl .str),.pv Y17],.pv Y4,pS,pS] [.agg [pS,pS,.own 1 Y14 204 true]] (c5A (s_l7Entry_m N))):=
 mO (fC (js6 N) ja) func126 rfl N (.seq .no (.seq .no (.seq (.seq .no (.block (.loop jkw .no))) .no))) _
def s_l7CopyDoc_m (N:Nat) (c:Int) (a:Z12) (b:Z8):Option Z0:=
 (if room ([]:Z12).length a.length 32 then if room ([]:Z8).length b.length 24 then some (c,(([]:Z12)++a),(([]:Z8)++b))else none else none)
theorem jtC :mK 127 (bX [.agg [pI,.pv Y20,.pv Y16]] [.agg [pI,.own 1 Y21 120 true,.own 2 Y18 122 true]] (c3A (s_l7CopyDoc_m N))):=
 mO ja func127 rfl N .no _
def jn8 :Sh:=⟨.dead:: .pv Y4:: .box 2 0:: .dead:: .box 4 0:: .box 5 0:: .pv (.sl .str)::pI::dz 58 [],[(2,false,[.pv (.sl .str),.pv Y17]),(4,false,[.nils,.nils]),(5,false,[.nils,.own 700501 Y7 131 true])]⟩
def jpr :Sh:=⟨.dead:: .pv Y4:: .box 2 0:: .dead:: .box 4 0:: .box 5 0:: .pv (.sl .str)::pI:: .pv (.sl .str)::pI::dz 56 [],[(2,false,[.pv (.sl .str),.pv Y17]),(4,false,[.nils,.nils]),(5,false,[.nils,.own 700501 Y7 131 true])]⟩
def jn0 :Sh:=⟨.dead:: .pv Y4:: .dead:: .dead:: .box 4 0:: .box 5 0::dz 4 (pI::dz 55 []),[(4,false,[.nils,.nils]),(5,false,[.own 700500 Y5 51 true,.own 700501 Y7 131 true])]⟩
def s_l7Of_m (D:List Z1) (C:List Z3) (w:List Z0):Option ((List Z0)×(List Z2)):=
 (oB (s_l7Names_m N w) fun H=>iter (fun K (o,p,n,u,r,y)=>bif decide (n<(p.length:Int))then oB (idx p n) fun B=>(oB (s_l7Terms_m N u r o B) fun z=>iter (fun E (l,j,c,f,d,h,m,i)=>bif decide (d<(f.length:Int))then oB (idx j c) fun G=>(oB (idx f d) fun A=>oB (s_l7Entry_m N h m l G A) fun x=>if room i.length ([x]:List Z2).length 56 then if fits (d+1)then E (l,j,c,f,(d+1),h,m,(i++([x]:List Z2)))else none else none)else if fits (c+1)then K (l,j,(c+1),h,m,i)else none) N (o,p,n,z,(0:Int),u,r,y))else iter (fun I (k,b,e,v)=>bif decide (b<(k.length:Int))then oB (idx k b) fun q=>(oB (s_l7CopyDoc_m N q.1 q.2.1 q.2.2) fun t=>if room e.length ([t]:List Z0).length 56 then if fits (b+1)then I (k,(b+1),(e++([t]:List Z0)),v)else none else none)else some (e,v)) N (o,(0:Int),([]:List Z0),y)) N (w,H,(0:Int),D,C,([]:List Z2)))
theorem jmU :mK 61 (bX [.agg [.pv (.sl .str),.pv Y17],.pv Y4] [.agg [.own 1 Y5 51 true,.own 2 Y7 131 true]] (c3A (s_l7Of_m N))):=
 mO (fC (jlz N) (fC (jqQ N) (fC (jtr N) (fC (jtC N) ja)))) func61 rfl N (.seq .no (.seq .no (.seq .no (.seq (.seq .no (.block (.loop jn8 (.seq .no (.seq (.block (.seq .no (.seq .no (.block (.loop jpr .no))))) .no))))) (.seq (.seq .no (.block (.loop jn0 .no))) .no))))) _
def jCI :Sh:=⟨.pv Y22:: .dead:: .dead::pI::dz 31 [],[]⟩
def jx3 (j:List Int):Z9:=
 (iter (fun c (b,a)=>bif decide (a<(b.length:Int))then oB (idx b a) fun f=>(oB (jJ N f 0 999999999) fun h=>bif !h then some false else bif decide ((0:Int)<a)then oB (idx b a) fun d=>(if fits (a-1)then oB (idx b (a-1)) fun e=>(bif decide (d<=e)then some false else if fits (a+1)then c (b,(a+1))else none)else none)else if fits (a+1)then c (b,(a+1))else none)else some (decide ((b.length:Int)<=60))) N (j,(0:Int)))
theorem jC9 :mK 118 (bX [.pv Y22] [pB] (c1A (jx3 N))):=
 mO (fC (jcL N) ja) func118 rfl N (.seq .no (.seq (.seq .no (.block (.loop jCI .no))) .no)) _
def jA0 :Sh:=⟨.dead::pI:: .box 2 0:: .dead:: .box 4 0::pI::dz 21 [],[(2,false,[.pv Y4,.pv Y6]),(4,false,[pI,.nils,.nils])]⟩
def jyv (m:List Z0) (l:List Z2) (e:Int):Option Z0:=
 (iter (fun k (d,a,b,h,j)=>bif decide (a<(b.length:Int))then oB (idx b a) fun f=>(bif decide (f.1=d)then oB (idx b a) fun c=>(some (c.1,c.2.1,c.2.2))else if fits (a+1)then k (d,(a+1),b,h,j)else none)else some (0,([]:Z12),([]:Z8))) N (e,(0:Int),m,l,(0:Int)))
theorem jDn :mK 119 (bX [.agg [.pv Y4,.pv Y6],pI] [.agg [pI,.pv Y20,.pv Y16]] (c3A (jyv N))):=
 mO ja func119 rfl N (.seq .no (.seq (.seq .no (.block (.loop jA0 .no))) .no)) _
def s_l30Rd_of_m (b:List Z1) (c:List Int) (e:Int):Option (Z1×(List Int)×Int):=
 (oB (jtW N (b.length:Int) c e) fun a=>oB (idx b a.1) fun d=>some (d,a.2.1,a.2.2))
theorem jt3 :mK 141 ⟨⟨[.box 900000 0,.pv (.sl .str)],[(900000,false,[.pv (.sl (.int .u8)),pI])]⟩,⟨[pS],[(900000,false,[.pv (.sl (.int .u8)),pI])]⟩,c3A (s_l30Rd_of_m N)⟩:=
 mO (fC (jtX N) ja) func141 rfl N .no _ (rs:=[900000])
def jt1 (b:List Int) (c:Int):Option (Z1×(List Int)×Int):=
 (oB (s_l30Rd_of_m N ([([99,97,116]:List UInt8),([67,97,116,115]:List UInt8),([100,111,103]:List UInt8),([100,111,103,115]:List UInt8),([114,117,110]:List UInt8),([82,85,78,78,73,78,71]:List UInt8),([116,104,101]:List UInt8),([114,101,100]:List UInt8),([98,105,103]:List UInt8),([110,101,119,32,121,111,114,107]:List UInt8),([78,101,119,32,32,89,111,114,107]:List UInt8),([110,121]:List UInt8),([102,111,120]:List UInt8),([112,97,115,115,101,100]:List UInt8),([120,49]:List UInt8),([97,118,101,114,121,118,101,114,121,108,111,110,103,119,111,114,100]:List UInt8)]:List Z1) b c) fun a=>some (a.1,a.2.1,a.2.2))
theorem jvg :mK 256 ⟨⟨[.box 900000 0],[(900000,false,[.pv (.sl (.int .u8)),pI])]⟩,⟨[pS],[(900000,false,[.pv (.sl (.int .u8)),pI])]⟩,c2A (jt1 N)⟩:=
 mO (fC (jt3 N) ja) func256 rfl N .no _ (rs:=[900000])
def juP :Sh:=⟨.box 900000 0:: .dead:: .dead::pS::pI::dz 15 [],[(900000,false,[.pv (.sl (.int .u8)),pI])]⟩
def jtZ (k:List Int) (i:Int):Option (Z1×(List Int)×Int):=
 (oB (jtW N 9 k i) fun e=>iter (fun l (c,d,f,h)=>bif decide ((0:Int)<d)then oB (jt1 N f h) fun a=>(if c.length+a.1.length<=9223372036854775807 then oB (s_l30Rd_of_m N ([([32]:List UInt8),([32]:List UInt8),([44,32]:List UInt8),([45]:List UInt8),([46,32]:List UInt8)]:List Z1) a.2.1 a.2.2) fun b=>(if(c++a.1).length+b.1.length<=9223372036854775807 then if fits (d-1)then l (((c++a.1)++b.1),(d-1),b.2.1,b.2.2)else none else none)else none)else some (c,f,h)) N (([]:List UInt8),e.1,e.2.1,e.2.2))
theorem juT :mK 189 ⟨⟨[.box 900000 0],[(900000,false,[.pv (.sl (.int .u8)),pI])]⟩,⟨[pS],[(900000,false,[.pv (.sl (.int .u8)),pI])]⟩,c2A (jtZ N)⟩:=
 mO (fC (jtX N) (fC (jvg N) (fC (jt3 N) ja))) func189 rfl N (.seq .no (.seq .no (.seq (.seq .no (.block (.loop juP .no))) .no))) _ (rs:=[900000])
def juy :Sh:=⟨.box 900000 0::dz 3 (.box 4 0:: .box 5 0::dz 48 []),[(4,false,[pI,.nils,.nils]),(5,false,[pI,.own 28 Y21 120 true,.own 39 Y18 122 true]),(900000,false,[.pv (.sl (.int .u8)),pI])]⟩
def juX :Sh:=⟨.box 900000 0::dz 3 (.box 4 0:: .box 5 0::dz 48 []),[(4,false,[pI,.nils,.nils]),(5,false,[pI,.own 28 Y21 120 true,.nils]),(900000,false,[.pv (.sl (.int .u8)),pI])]⟩
def jvb :Sh:=⟨.box 900000 0::dz 3 (.box 4 0:: .box 5 0::dz 48 []),[(4,false,[pI,.nils,.nils]),(5,false,[pI,.own 17 Y21 120 true,.nils]),(900000,false,[.pv (.sl (.int .u8)),pI])]⟩
def s_l30Doc_m (r:Int) (B:List Int) (y:Int):Option (Int×Z11×Z7×(List Int)×Int):=
 (meet (fun(f:Int×Int×Z11×(List Int)×Int)=>match f with|(t,o,k,A,C)=>meet (fun(f:Int×Int×Z11×(List Int)×Int)=>match f with|(q,x,p,E,G)=>meet (fun(f:Int×Int×Z11×Z7×(List Int)×Int)=>match f with|(H,w,n,l,z,D)=>oB (jtW N 3 z D) fun a=>bif decide (a.1=0)then oB (jtW N 30 a.2.1 a.2.2) fun b=>(if fits (2000+b.1)then if room l.length ([(([121,101,97,114]:List UInt8),(2000+b.1))]:Z8).length 24 then some (w,n,(l++([(([121,101,97,114]:List UInt8),(2000+b.1))]:Z8)),b.2.1,b.2.2)else none else none)else some (w,n,l,a.2.1,a.2.2)) fun v=>oB (jtW N 3 E G) fun c=>bif decide ((0:Int)<c.1)then oB (jtW N 4 c.2.1 c.2.2) fun j=>(if room ([]:Z8).length ([(([114,97,116,101]:List UInt8),j.1)]:Z8).length 24 then v (q,x,p,(([]:Z8)++([(([114,97,116,101]:List UInt8),j.1)]:Z8)),j.2.1,j.2.2)else none)else v (q,x,p,([]:Z8),c.2.1,c.2.2)) fun u=>oB (jtW N 3 A C) fun e=>bif decide (e.1=0)then oB (jtZ N e.2.1 e.2.2) fun i=>(if room k.length ([(([116,105,116,108,101]:List UInt8),i.1)]:Z12).length 32 then u (t,o,(k++([(([116,105,116,108,101]:List UInt8),i.1)]:Z12)),i.2.1,i.2.2)else none)else u (t,o,k,e.2.1,e.2.2)) fun m=>oB (jtW N 6 B y) fun d=>bif decide ((0:Int)<d.1)then oB (jtZ N d.2.1 d.2.2) fun h=>(if room ([]:Z12).length ([(([98,111,100,121]:List UInt8),h.1)]:Z12).length 32 then m (0,r,(([]:Z12)++([(([98,111,100,121]:List UInt8),h.1)]:Z12)),h.2.1,h.2.2)else none)else m (0,r,([]:Z12),d.2.1,d.2.2))
theorem jvf :mK 138 ⟨⟨[.box 900000 0,pI],[(900000,false,[.pv (.sl (.int .u8)),pI])]⟩,⟨[.agg [pI,.own 1 Y21 120 true,.own 2 Y18 122 true]],[(900000,false,[.pv (.sl (.int .u8)),pI])]⟩,c3A (s_l30Doc_m N)⟩:=
 mO (fC (jtX N) (fC (juT N) ja)) func138 rfl N (.seq .no (.seq .no (.meet jvb .no (.meet juX .no (.meet juy .no .no))))) _ (rs:=[900000])
def juU :Sh:=⟨.box 900000 0:: .dead:: .dead:: .own 600003 Y5 51 true::pI::pI::dz 19 [],[(900000,false,[.pv (.sl (.int .u8)),pI])]⟩
def s_l30Docs_m (l:List Int) (j:Int):Option ((List Z0)×(List Int)×Int):=
 (oB (jtW N 6 l j) fun f=>iter (fun m (d,c,e,h,i)=>bif decide ((0:Int)<e)then if fits (c+1)then oB (jtW N 3 h i) fun b=>(if fits ((c+1)+b.1)then oB (s_l30Doc_m N ((c+1)+b.1) b.2.1 b.2.2) fun a=>(if room d.length ([(a.1,a.2.1,a.2.2.1)]:List Z0).length 56 then if fits (e-1)then m ((d++([(a.1,a.2.1,a.2.2.1)]:List Z0)),((c+1)+b.1),(e-1),a.2.2.2.1,a.2.2.2.2)else none else none)else none)else none else some (d,h,i)) N (([]:List Z0),(0:Int),f.1,f.2.1,f.2.2))
theorem juO :mK 115 ⟨⟨[.box 900000 0],[(900000,false,[.pv (.sl (.int .u8)),pI])]⟩,⟨[.own 1 Y5 51 true],[(900000,false,[.pv (.sl (.int .u8)),pI])]⟩,c2A (s_l30Docs_m N)⟩:=
 mO (fC (jtX N) (fC (jvf N) ja)) func115 rfl N (.seq .no (.seq .no (.seq .no (.seq (.seq .no (.block (.loop juU .no))) .no)))) _ (rs:=[900000])
def s_l30Rd_one_m (b:List Int) (c:List Int) (e:Int):Option (Int×(List Int)×Int):=
 (oB (jtW N (b.length:Int) c e) fun a=>oB (idx b a.1) fun d=>some (d,a.2.1,a.2.2))
theorem juA :mK 69 ⟨⟨[.box 900000 0,.pv Y22],[(900000,false,[.pv (.sl (.int .u8)),pI])]⟩,⟨[pI],[(900000,false,[.pv (.sl (.int .u8)),pI])]⟩,c3A (s_l30Rd_one_m N)⟩:=
 mO (fC (jtX N) ja) func69 rfl N .no _ (rs:=[900000])
def s_l30AnyText_m (d:List Int) (e:Int):Option (Z1×(List Int)×Int):=
 (oB (jtZ N d e) fun b=>oB (jtW N 12 b.2.1 b.2.2) fun a=>bif decide (a.1=0)then oB (s_l30Rd_of_m N ([([10]:List UInt8),([255]:List UInt8),([48,49,50,51,52,53,54,55,56,57,32,48,49,50,51,52,53,54,55,56,57,32,48,49,50,51,52,53,54,55,56,57,32,48,49,50,51,52,53,54,55,56,57,32,48,49,50,51,52,53,54,55,56,57,32,48,49,50,51,52,53,54,55,56,57,32,48,49,50,51,52,53,54,55,56,57,32,48,49,50,51,52,53,54,55,56,57,32,48,49,50,51,52,53,54,55,56,57,32,48,49,50,51,52,53,54,55,56,57,32,48,49,50,51,52,53,54,55,56,57,32,48,49,50,51,52,53,54,55,56,57,32,48,49,50,51,52,53,54,55,56,57,32,48,49,50,51,52,53,54,55,56,57,32,48,49,50,51,52,53,54,55]:List UInt8)]:List Z1) a.2.1 a.2.2) fun c=>(if b.1.length+c.1.length<=9223372036854775807 then some ((b.1++c.1),c.2.1,c.2.2)else none)else some (b.1,a.2.1,a.2.2))
theorem jGK :mK 139 ⟨⟨[.box 900000 0],[(900000,false,[.pv (.sl (.int .u8)),pI])]⟩,⟨[pS],[(900000,false,[.pv (.sl (.int .u8)),pI])]⟩,c2A (s_l30AnyText_m N)⟩:=
 mO (fC (juT N) (fC (jtX N) (fC (jt3 N) ja))) func139 rfl N .no _ (rs:=[900000])
def s_l30AnyDoc_m (i:List Int) (h:Int):Option (Int×Z11×Z7×(List Int)×Int):=
 (oB (jtW N 9 i h) fun d=>if fits (1+d.1)then oB (s_l30Doc_m N (1+d.1) d.2.1 d.2.2) fun a=>(oB (jtW N 14 a.2.2.2.1 a.2.2.2.2) fun b=>bif decide (b.1=0)then oB (s_l30Rd_one_m N ([0,10000,9999]:List Int) b.2.1 b.2.2) fun f=>(some (f.1,a.2.1,a.2.2.1,f.2.1,f.2.2))else bif decide (b.1=1)then if room a.2.1.length ([(([98,111,100,121]:List UInt8),([97,103,97,105,110]:List UInt8))]:Z12).length 32 then some (a.1,(a.2.1++([(([98,111,100,121]:List UInt8),([97,103,97,105,110]:List UInt8))]:Z12)),a.2.2.1,b.2.1,b.2.2)else none else bif decide (b.1=2)then oB (s_l30Rd_one_m N ([(-1),1000000000]:List Int) b.2.1 b.2.2) fun e=>(if room a.2.2.1.length ([(([122,122]:List UInt8),e.1)]:Z8).length 24 then some (a.1,a.2.1,(a.2.2.1++([(([122,122]:List UInt8),e.1)]:Z8)),e.2.1,e.2.2)else none)else bif decide (b.1=3)then oB (s_l30AnyText_m N b.2.1 b.2.2) fun c=>(if room a.2.1.length ([(([122,101,100]:List UInt8),c.1)]:Z12).length 32 then some (a.1,(a.2.1++([(([122,101,100]:List UInt8),c.1)]:Z12)),a.2.2.1,c.2.1,c.2.2)else none)else some (a.1,a.2.1,a.2.2.1,b.2.1,b.2.2))else none)
theorem jGG :mK 78 ⟨⟨[.box 900000 0],[(900000,false,[.pv (.sl (.int .u8)),pI])]⟩,⟨[.agg [pI,.own 1 Y21 120 true,.own 2 Y18 122 true]],[(900000,false,[.pv (.sl (.int .u8)),pI])]⟩,c2A (s_l30AnyDoc_m N)⟩:=
 mO (fC (jtX N) (fC (jvf N) (fC (juA N) (fC (jGK N) ja)))) func78 rfl N .no _ (rs:=[900000])
def s_l30AnyDocs_m (d:List Int) (e:Int):Option ((List Z0)×(List Int)×Int):=
 (oB (s_l30Docs_m N d e) fun c=>oB (jtW N 10 c.2.1 c.2.2) fun b=>bif decide (b.1=0)then oB (s_l30AnyDoc_m N b.2.1 b.2.2) fun a=>(if room c.1.length ([(a.1,a.2.1,a.2.2.1)]:List Z0).length 56 then some ((c.1++([(a.1,a.2.1,a.2.2.1)]:List Z0)),a.2.2.2.1,a.2.2.2.2)else none)else some (c.1,b.2.1,b.2.2))
theorem jRb :mK 52 ⟨⟨[.box 900000 0],[(900000,false,[.pv (.sl (.int .u8)),pI])]⟩,⟨[.own 1 Y5 51 true],[(900000,false,[.pv (.sl (.int .u8)),pI])]⟩,c2A (s_l30AnyDocs_m N)⟩:=
 mO (fC (juO N) (fC (jtX N) (fC (jGG N) ja))) func52 rfl N .no _ (rs:=[900000])
def jaw (N:Nat) (a:Int):Z9:=
 (bif decide ((97:Int)<=a)then bif decide (a<=122)then some true else(bif decide ((48:Int)<=a)then some (decide (a<=57))else some false)else bif decide ((48:Int)<=a)then some (decide (a<=57))else some false)
theorem jeK :mK 153 (bX [.pv (.int .u8)] [pB] (c1A (jaw N))):=
 mO ja func153 rfl N .no _
def jm (N:Nat) (a:Int) (b:Int) (c:Int):Z9:=
 (bif decide (b<=a)then some (decide (a<=c))else some false)
theorem jY :mK 67 (bX [pI,pI,pI] [pB] (c3A (jm N))):=
 mO ja func67 rfl N .no _
def jqW :Sh:=⟨pS::dz 4 (pI::pI::dz 11 []),[]⟩
def jO (d:List UInt8):Z9:=
 (iter (fun i (b,c,a)=>bif decide (a<c)then oB (idx b a) fun j=>(oB (jaw N (j.toNat:Int)) fun f=>bif !f then some false else if fits (a+1)then i (b,c,(a+1))else none)else oB (jm N (b.length:Int) 1 12) fun e=>some e) N (d,(d.length:Int),(0:Int)))
theorem jcM :mK 85 (bX [pS] [pB] (c1A (jO N))):=
 mO (fC (jeK N) (fC (jY N) ja)) func85 rfl N (.seq .no (.seq (.seq .no (.block (.loop jqW .no))) .no)) _
def jmc :Sh:=⟨.pv (.sl .str)::dz 4 (.pv (.sl .str)::pI::pI::dz 21 []),[]⟩
def jb2 (e:List Z1):Z9:=
 (iter (fun h (c,b,d,a)=>bif decide (a<d)then oB (idx b a) fun f=>(oB (jO N f) fun j=>bif !j then some false else bif decide ((0:Int)<a)then if fits (a-1)then oB (idx c (a-1)) fun i=>(bif !Op.bytesLess i f then some false else if fits (a+1)then h (c,b,d,(a+1))else none)else none else if fits (a+1)then h (c,b,d,(a+1))else none)else some true) N (e,e,(e.length:Int),(0:Int)))
theorem jtw :mK 86 (bX [.pv (.sl .str)] [pB] (c1A (jb2 N))):=
 mO (fC (jcM N) ja) func86 rfl N (.seq .no (.seq (.seq .no (.block (.loop jmc .no))) .no)) _
def jdF (N:Nat) (a:List UInt8) (b:List UInt8):Z9:=
 (bif decide ((b.length:Int)<=(a.length:Int))then if fits ((a.length:Int)-(b.length:Int))then oB (cut a ((a.length:Int)-(b.length:Int)) (a.length:Int)) fun c=>(some (decide (c=b)))else none else some false)
theorem jpU :mK 209 (bX [pS,pS] [pB] (c2A (jdF N))):=
 mO ja func209 rfl N .no _
def jcN (c:List UInt8) (a:List UInt8):Z9:=
 (oB (jdF N c a) fun b=>some b)
theorem jsu :mK 154 (bX [pS,pS] [pB] (c2A (jcN N))):=
 mO (fC (jpU N) ja) func154 rfl N .no _
def jod :Sh:=⟨pS:: .dead:: .dead::pB::dz 32 [],[]⟩
def jnf :Sh:=⟨pS:: .dead:: .dead::pB::dz 6 (.own 600010 .str 9 true::pI::pI::dz 23 []),[]⟩
def jaB (l:List UInt8):Option (Z1):=
 (oB (jO N l) fun o=>bif !o then some ([]:List UInt8)else iter (fun k (j,n)=>bif n then iter (fun i (a,h,e,d,b)=>bif decide (b<d)then oB (idx e b) fun c=>(oB (jcN N a c) fun m=>bif m then if fits ((a.length:Int)-(c.length:Int))then bif decide ((3:Int)<=((a.length:Int)-(c.length:Int)))then if fits ((a.length:Int)-(c.length:Int))then oB (cut a 0 ((a.length:Int)-(c.length:Int))) fun p=>(k (p,true))else none else(if fits (b+1)then i (a,h,e,d,(b+1))else none)else none else if fits (b+1)then i (a,h,e,d,(b+1))else none)else k (a,h)) N (j,false,([([105,110,103]:List UInt8),([101,100]:List UInt8),([101,115]:List UInt8),([108,121]:List UInt8),([115]:List UInt8)]:List Z1),(([([105,110,103]:List UInt8),([101,100]:List UInt8),([101,115]:List UInt8),([108,121]:List UInt8),([115]:List UInt8)]:List Z1).length:Int),(0:Int))else some j) N (l,true))
theorem jio :mK 87 (bX [pS] [pS] (c1A (jaB N))):=
 mO (fC (jcM N) (fC (jsu N) ja)) func87 rfl N (.seq .no (.seq .no (.seq (.seq .no (.block (.loop jod (.seq .no (.block (.seq .no (.seq .no (.block (.loop jnf .no))))))))) .no))) _
def jkJ :Sh:=⟨.pv (.sl .str)::pS::dz 5 (pI::pI::dz 10 []),[]⟩
def jdH (e:List Z1) (i:List UInt8):Z14:=
 (iter (fun j (d,b,c,a)=>bif decide (a<c)then oB (idx d a) fun f=>(bif decide (b=f)then some a else if fits (a+1)then j (d,b,c,(a+1))else none)else some (-1)) N (e,i,(e.length:Int),(0:Int)))
theorem jkZ :mK 155 (bX [.pv (.sl .str),pS] [pI] (c2A (jdH N))):=
 mO ja func155 rfl N (.seq .no (.seq (.seq .no (.block (.loop jkJ .no))) .no)) _
def jao (c:List Z1) (a:List UInt8):Z9:=
 (oB (jdH N c a) fun b=>some (decide ((0:Int)<=b)))
theorem jh5 :mK 88 (bX [.pv (.sl .str),pS] [pB] (c2A (jao N))):=
 mO (fC (jkZ N) ja) func88 rfl N .no _
def jmj :Sh:=⟨.dead:: .box 1 0::dz 22 (.pv Y17::pI::pI::dz 46 []),[(1,false,[.pv (.sl .str),.pv Y17])]⟩
def jrC :Sh:=⟨.dead:: .box 1 0::dz 22 (.pv Y17::pI::pI::dz 12 (pB::dz 7 (pB:: .dead:: .dead:: .pv (.sl .str)::pI::pI::dz 20 []))),[(1,false,[.pv (.sl .str),.pv Y17])]⟩
def jaj (h:List Z1) (b:List Z3):Z9:=
 (bif decide ((6:Int)<h.length)then some false else oB (jb2 N h) fun C=>bif !C then some false else bif decide ((4:Int)<b.length)then some false else iter (fun E (o,m,j,x,v)=>bif decide (j<m)then oB (idx o j) fun a=>(oB (jm N (a.1.length:Int) 1 3) fun u=>bif !u then some false else oB (jO N a.2) fun r=>bif !r then some false else oB (jaB N a.2) fun k=>bif !decide (k=a.2)then some false else iter (fun y (n,t,f,z,A,p,l,d,e,q)=>bif decide (d<l)then oB (idx p d) fun c=>(oB (jO N c) fun D=>bif !D then some false else oB (jaB N c) fun B=>bif !decide (B=c)then some false else oB (jao N e c) fun w=>bif w then some false else if fits (d+1)then y (n,t,f,z,A,p,l,(d+1),e,q)else none)else if fits (f+1)then E (n,t,(f+1),e,q)else none) N (o,m,j,(!r),(!decide (k=a.2)),a.1,(a.1.length:Int),(0:Int),x,v))else some true) N (b,(b.length:Int),(0:Int),h,b))
theorem jdX :mK 29 (bX [.agg [.pv (.sl .str),.pv Y17]] [pB] (c2A (jaj N))):=
 mO (fC (jtw N) (fC (jY N) (fC (jcM N) (fC (jio N) (fC (jh5 N) ja))))) func29 rfl N (.seq .no (.seq .no (.seq (.seq .no (.block (.loop jmj (.seq .no (.seq .no (.seq (.block (.seq .no (.seq .no (.seq .no (.block (.loop jrC .no)))))) .no)))))) .no))) _
def jtd :Sh:=⟨pS::dz 4 (pI::pI::dz 16 []),[]⟩
def jaF (d:List UInt8):Z9:=
 (iter (fun h (b,c,a)=>bif decide (a<c)then oB (idx b a) fun i=>(bif decide ((i.toNat:Int)<32)then some false else oB (idx b a) fun e=>bif decide ((126:Int)<(e.toNat:Int))then some false else if fits (a+1)then h (b,c,(a+1))else none)else some (decide ((b.length:Int)<=160))) N (d,(d.length:Int),(0:Int)))
theorem jdK :mK 89 (bX [pS] [pB] (c1A (jaF N))):=
 mO ja func89 rfl N (.seq .no (.seq (.seq .no (.block (.loop jtd .no))) .no)) _
def jlC :Sh:=⟨.dead:: .box 1 0::dz 22 (.pv Y20::pI::pI::dz 66 []),[(1,false,[pI,.pv Y20,.pv Y16])]⟩
def jpt :Sh:=⟨.dead:: .box 1 0::dz 57 (.pv Y16::pI::pI::dz 31 []),[(1,false,[pI,.pv Y20,.pv Y16])]⟩
def jbx (p:Int) (d:Z12) (u:Z8):Z9:=
 (oB (jm N p 1 9999) fun z=>bif !z then some false else bif decide ((3:Int)<d.length)then some false else bif decide ((3:Int)<u.length)then some false else iter (fun v (m,l,b,k,e,c)=>bif decide (b<l)then oB (idx m b) fun h=>(oB (jO N h.1) fun w=>bif !w then some false else oB (jaF N h.2) fun B=>bif !B then some false else bif decide ((0:Int)<b)then if fits (b-1)then oB (idx e (b-1)) fun y=>(bif !Op.bytesLess y.1 h.1 then some false else if fits (b+1)then v (m,l,(b+1),k,e,c)else none)else none else if fits (b+1)then v (m,l,(b+1),k,e,c)else none)else iter (fun r (j,o,a,t,q,i)=>bif decide (a<o)then oB (idx j a) fun f=>(oB (jO N f.1) fun x=>bif !x then some false else oB (jm N f.2 0 999999999) fun A=>bif !A then some false else bif decide ((0:Int)<a)then if fits (a-1)then oB (idx i (a-1)) fun C=>(bif !Op.bytesLess C.1 f.1 then some false else if fits (a+1)then r (j,o,(a+1),t,q,i)else none)else none else if fits (a+1)then r (j,o,(a+1),t,q,i)else none)else some true) N (c,(c.length:Int),(0:Int),k,e,c)) N (d,(d.length:Int),(0:Int),p,d,u))
theorem jh0 :mK 30 (bX [.agg [pI,.pv Y20,.pv Y16]] [pB] (c3A (jbx N))):=
 mO (fC (jY N) (fC (jcM N) (fC (jdK N) ja))) func30 rfl N (.seq .no (.seq .no (.seq (.seq .no (.block (.loop jlC .no))) (.seq (.seq .no (.block (.loop jpt .no))) .no)))) _
def jpj :Sh:=⟨.pv Y4::dz 4 (.pv Y4::pI::pI::dz 26 []),[]⟩
def jbf (f:List Z0):Z9:=
 (iter (fun h (c,d,e,a)=>bif decide (a<e)then oB (idx d a) fun b=>(oB (jbx N b.1 b.2.1 b.2.2) fun j=>bif !j then some false else bif decide ((0:Int)<a)then if fits (a-1)then oB (idx c (a-1)) fun i=>(bif decide (b.1<=i.1)then some false else if fits (a+1)then h (c,d,e,(a+1))else none)else none else if fits (a+1)then h (c,d,e,(a+1))else none)else some (decide ((c.length:Int)<=16))) N (f,f,(f.length:Int),(0:Int)))
theorem jjU :mK 31 (bX [.pv Y4] [pB] (c1A (jbf N))):=
 mO (fC (jh0 N) ja) func31 rfl N (.seq .no (.seq (.seq .no (.block (.loop jpj .no))) .no)) _
def jbO (N:Nat) (c:Int) (a:Z12) (b:Z8):Option Z0:=
 (if room ([]:Z12).length a.length 32 then if room ([]:Z8).length b.length 24 then some (c,(([]:Z12)++a),(([]:Z8)++b))else none else none)
theorem jrI :mK 129 (bX [.agg [pI,.pv Y20,.pv Y16]] [.agg [pI,.own 1 Y21 120 true,.own 2 Y18 122 true]] (c3A (jbO N))):=
 mO ja func129 rfl N .no _
def joW :Sh:=⟨dz 3 (.own 600003 Y5 51 true::dz 3 (.pv Y4::pI::pI::dz 10 [])),[]⟩
def jbV (h:List Z0):Z20:=
 (iter (fun j (b,e,f,a)=>bif decide (a<f)then oB (idx e a) fun c=>(oB (jbO N c.1 c.2.1 c.2.2) fun d=>if room b.length ([d]:List Z0).length 56 then if fits (a+1)then j ((b++([d]:List Z0)),e,f,(a+1))else none else none)else some b) N (([]:List Z0),h,(h.length:Int),(0:Int)))
theorem joC :mK 65 (bX [.pv Y4] [.own 1 Y5 51 true] (c1A (jbV N))):=
 mO (fC (jrI N) ja) func65 rfl N (.seq .no (.seq .no (.seq (.seq .no (.block (.loop joW .no))) .no))) _
def jI (N:Nat) (a:Int):Z14:=
 (bif decide ((65:Int)<=a)then bif decide (a<=90)then some (IntKind.u8.wrap ((IntKind.u8.wrap (a+97))-65))else(some a)else some a)
theorem jmu :mK 210 (bX [.pv (.int .u8)] [.pv (.int .u8)] (c1A (jI N))):=
 mO ja func210 rfl N .no _
def jpB :Sh:=⟨pS:: .dead:: .dead:: .own 600003 Y8 196 true::pI::dz 57 [],[]⟩
def jo6 :Sh:=⟨pS:: .dead:: .dead:: .own 600003 Y8 196 true::pI:: .box 5 0:: .own 600006 (.int .u8) 5 true::dz 55 [],[(5,false,[pS,pI,pI,pI])]⟩
def jct (q:List UInt8):Option ((List Z10)):=
 (oB (jaF N q) fun x=>bif !x then some ([]:List Z10)else iter (fun l (j,i,e)=>bif decide (e<(j.length:Int))then oB (idx j e) fun w=>(oB (jI N (w.toNat:Int)) fun r=>oB (jaw N r) fun z=>bif !z then if fits (e+1)then l (j,i,(e+1))else none else iter (fun o (c,h,a,b,n,f,d,m)=>bif decide (a<(c.length:Int))then oB (idx c a) fun t=>(oB (jI N (t.toNat:Int)) fun u=>oB (jaw N u) fun y=>bif y then bif decide ((b.length:Int)<12)then oB (idx c a) fun v=>(oB (jI N (v.toNat:Int)) fun p=>if room b.length ([p]:List Int).length 1 then if fits (a+1)then o (c,h,(a+1),(b++([p]:List Int)),n,f,d,m)else none else none)else(if fits (a+1)then o (c,h,(a+1),b,n,f,d,m)else none)else if room h.length ([((bytesOf b),f,d,a)]:List Z10).length 40 then l (c,(h++([((bytesOf b),f,d,a)]:List Z10)),a)else none)else if room h.length ([((bytesOf b),f,d,a)]:List Z10).length 40 then l (c,(h++([((bytesOf b),f,d,a)]:List Z10)),a)else none) N (j,i,e,([]:List Int),([]:List UInt8),(i.length:Int),e,(0:Int)))else some i) N (q,([]:List Z10),(0:Int)))
theorem jqc :mK 156 (bX [pS] [.own 1 Y8 196 true] (c1A (jct N))):=
 mO (fC (jdK N) (fC (jmu N) (fC (jeK N) ja))) func156 rfl N (.seq .no (.seq .no (.seq .no (.seq (.seq .no (.block (.loop jpB (.seq .no (.block (.seq .no (.seq .no (.seq .no (.seq (.block (.loop jo6 .no)) .no))))))))) .no)))) _
def jty :Sh:=⟨.dead:: .pv Y16::pI:: .box 3 0::dz 3 (.pv (.opt Y19)::dz 8 (pI::pI::dz 73 [])),[(3,false,[.pv (.sl .str),.pv Y17])]⟩
def jss :Sh:=⟨.dead:: .pv Y16::pI:: .box 3 0::dz 3 (.pv (.opt Y19):: .dead:: .ptr Y19::pB::dz 5 (pI::pI::dz 31 (pB::dz 4 (.pv (.sl .str)::pI::pI::dz 34 [])))),[(3,false,[.pv (.sl .str),.pv Y17])]⟩
def jbH (c:List Z1) (c2:List Z3) (terms:Z8) (at0:Int):Option ((Option Z3)):=
 (iter (fun go (terms2,at02,best,t16,t17,c3,c4)=>bif decide (t17<t16)then oB (idx c4 t17) fun e=>(if fits ((terms2.length:Int)-at02)then bif decide (((terms2.length:Int)-at02)<(e.1.length:Int))then if fits (t17+1)then go (terms2,at02,best,t16,(t17+1),c3,c4)else none else(bif !(Option.isNone best)then oB best fun p=>(bif decide ((e.1.length:Int)<=(p.1.length:Int))then if fits (t17+1)then go (terms2,at02,best,t16,(t17+1),c3,c4)else none else iter (fun go2 (terms3,at03,best2,r,fits0,t162,t172,t49,t54,t55,t56,c5,c6)=>bif decide (t56<t55)then oB (idx t54 t56) fun e2=>(if fits (at03+t56)then oB (idx terms3 (at03+t56)) fun e3=>(bif fits0 then bif decide (e3.1=e2)then oB (idx terms3 at03) fun e4=>(if fits (e4.2+t56)then if fits (t56+1)then go2 (terms3,at03,best2,r,(decide (e3.2=(e4.2+t56))),t162,t172,t49,t54,t55,(t56+1),c5,c6)else none else none)else(if fits (t56+1)then go2 (terms3,at03,best2,r,false,t162,t172,t49,t54,t55,(t56+1),c5,c6)else none)else if fits (t56+1)then go2 (terms3,at03,best2,r,false,t162,t172,t49,t54,t55,(t56+1),c5,c6)else none)else none)else bif fits0 then if fits (t172+1)then go (terms3,at03,(some r),t162,(t172+1),c5,c6)else none else if fits (t172+1)then go (terms3,at03,best2,t162,(t172+1),c5,c6)else none) N (terms2,at02,best,e,true,t16,t17,(decide ((e.1.length:Int)<=(p.1.length:Int))),e.1,(e.1.length:Int),(0:Int),c3,c4))else iter (fun go3 (terms4,at04,best3,r2,fits02,t163,t173,t492,t542,t552,t562,c7,c8)=>bif decide (t562<t552)then oB (idx t542 t562) fun e5=>(if fits (at04+t562)then oB (idx terms4 (at04+t562)) fun e6=>(bif fits02 then bif decide (e6.1=e5)then oB (idx terms4 at04) fun e7=>(if fits (e7.2+t562)then if fits (t562+1)then go3 (terms4,at04,best3,r2,(decide (e6.2=(e7.2+t562))),t163,t173,t492,t542,t552,(t562+1),c7,c8)else none else none)else(if fits (t562+1)then go3 (terms4,at04,best3,r2,false,t163,t173,t492,t542,t552,(t562+1),c7,c8)else none)else if fits (t562+1)then go3 (terms4,at04,best3,r2,false,t163,t173,t492,t542,t552,(t562+1),c7,c8)else none)else none)else bif fits02 then if fits (t173+1)then go (terms4,at04,(some r2),t163,(t173+1),c7,c8)else none else if fits (t173+1)then go (terms4,at04,best3,t163,(t173+1),c7,c8)else none) N (terms2,at02,best,e,true,t16,t17,false,e.1,(e.1.length:Int),(0:Int),c3,c4))else none)else some best) N (terms,at0,(none:Option Z3),(c2.length:Int),(0:Int),c,c2))
theorem jtv :mK 157 (bX [.agg [.pv (.sl .str),.pv Y17],.pv Y16,pI] [.pv (.opt Y19)] (c4A (jbH N))):=
 mO ja func157 rfl N (.seq .no (.seq .no (.seq (.seq .no (.block (.loop jty (.seq .no (.seq .no (.seq (.block (.seq .no (.seq .no (.seq .no (.seq .no (.seq (.seq .no (.block (.loop jss .no))) .no)))))) .no)))))) .no))) _
def jlW :Sh:=⟨.dead:: .dead:: .box 2 0:: .dead:: .dead:: .own 600005 Y18 126 true:: .own 600006 Y18 126 true::dz 17 (.own 600024 Y8 196 true::pI::pI::dz 67 []),[(2,false,[.pv (.sl .str),.pv Y17])]⟩
def jnt :Sh:=⟨.dead:: .dead:: .box 2 0:: .dead:: .dead:: .own 600005 Y18 126 true:: .own 600006 Y18 126 true::dz 3 (pI::dz 83 []),[(2,false,[.pv (.sl .str),.pv Y17])]⟩
def jbw (w:List Z1) (u:List Z3) (B:List UInt8):Option (Z7):=
 (oB (jaj N w u) fun E=>bif !E then some ([]:Z8)else oB (jaF N B) fun C=>bif !C then some ([]:Z8)else oB (jct N B) fun z=>iter (fun r (h,e,l,k,b,d,j)=>bif decide (b<k)then oB (idx l b) fun i=>(oB (jaB N i.1) fun o=>oB (jao N d i.1) fun G=>bif !G then oB (jao N d o) fun D=>(bif !D then if room e.length ([(o,i.2.1)]:Z8).length 24 then if fits (b+1)then r (h,(e++([(o,i.2.1)]:Z8)),l,k,(b+1),d,j)else none else none else if fits (b+1)then r (h,e,l,k,(b+1),d,j)else none)else if fits (b+1)then r (h,e,l,k,(b+1),d,j)else none)else iter (fun x (f,c,a,m,p)=>bif decide (a<(c.length:Int))then oB (jbH N m p c a) fun n=>(bif Option.isNone n then oB (idx c a) fun y=>(if room f.length ([y]:Z8).length 24 then if fits (a+1)then x ((f++([y]:Z8)),c,(a+1),m,p)else none else none)else oB n fun v=>oB (idx c a) fun t=>if room f.length ([(v.2,t.2)]:Z8).length 24 then oB n fun A=>(if fits (a+(A.1.length:Int))then x ((f++([(v.2,t.2)]:Z8)),c,(a+(A.1.length:Int)),m,p)else none)else none)else some f) N (h,e,(0:Int),d,j)) N (([]:Z8),([]:Z8),z,(z.length:Int),(0:Int),w,u))
theorem jgO :mK 90 (bX [.agg [.pv (.sl .str),.pv Y17],pS] [.own 1 Y18 126 true] (c3A (jbw N))):=
 mO (fC (jdX N) (fC (jdK N) (fC (jqc N) (fC (jio N) (fC (jh5 N) (fC (jtv N) ja)))))) func90 rfl N (.seq .no (.seq .no (.seq .no (.seq .no (.seq (.seq .no (.block (.loop jlW .no))) (.seq (.seq .no (.block (.loop jnt .no))) .no)))))) _
def k__loop_example_fossick_impl_Seg_put_1_m (N:Nat) (c:List UInt8) (a:List UInt8) (e:Z5) (d:List UInt8) (b:Z1×Int):Z9:=
 (bif decide (c=d)then some (decide (a=b.1))else some false)
theorem jmw :mK 159 (bX [.agg [pS,pS,.pv Y13],.ptr .str,.ptr Y18] [pB] (c5A (k__loop_example_fossick_impl_Seg_put_1_m N))):=
 mO ja func159 rfl N .no _
def jnc :Sh:=⟨.pv Y6:: .clo 159 [.ptr .str,.ptr Y18]::dz 5 (pI::pI::dz 10 []),[]⟩
def k_slices_IndexFunc_146_m (f:List Z2) (k:Z1×Z1×Int):Z14:=
 (iter (fun j (e,c,d,a)=>bif decide (a<d)then oB (idx e a) fun b=>(oB (k__loop_example_fossick_impl_Seg_put_1_m N b.1 b.2.1 b.2.2 c.1 c.2) fun h=>bif h then some a else if fits (a+1)then j (e,c,d,(a+1))else none)else some (-1)) N (f,k,(f.length:Int),(0:Int)))
theorem jrl :mK 158 (bX [.pv Y6,.clo 159 [.ptr .str,.ptr Y18]] [pI] (c2A (k_slices_IndexFunc_146_m N))):=
 mO (fC (jmw N) ja) func158 rfl N (.seq .no (.seq (.seq .no (.block (.loop jnc .no))) .no)) _
def i_Seg_put_m (h:List UInt8) (f:List UInt8) (i:Int) (e:Int) (p:List Z0) (a:List Z2):Option ((List Z0)×(List Z2)):=
 (oB (k_slices_IndexFunc_146_m N a (h,f,i)) fun d=>bif decide (d<0)then if room a.length ([(h,f,([]:Z5))]:List Z2).length 56 then if 0<=(a.length:Int)/\(a.length:Int)<((a++([(h,f,([]:Z5))]:List Z2)).length:Int)then oB ((a++([(h,f,([]:Z5))]:List Z2))[(a.length:Int).toNat]?) fun c=>(if fits ((c.2.2.length:Int)-1)then bif decide (((c.2.2.length:Int)-1)<0)then oB ((a++([(h,f,([]:Z5))]:List Z2))[(a.length:Int).toNat]?) fun ab=>(if(a.length:Int).toNat=(a.length:Int).toNat then if room c.2.2.length ([(e,([]:List Int))]:Z5).length 32 then if(a.length:Int).toNat=(a.length:Int).toNat then oB ((a++([(h,f,([]:Z5))]:List Z2))[(a.length:Int).toNat]?) fun j=>(if fits (((c.2.2.length:Int)-1)+1)then oB (((a++([(h,f,([]:Z5))]:List Z2)).set (a.length:Int).toNat (j.1,j.2.1,(c.2.2++([(e,([]:List Int))]:Z5))))[(a.length:Int).toNat]?) fun r=>(oB (r.2.2[(((c.2.2.length:Int)-1)+1).toNat]?) fun C=>oB (((a++([(h,f,([]:Z5))]:List Z2)).set (a.length:Int).toNat (j.1,j.2.1,(c.2.2++([(e,([]:List Int))]:Z5))))[(a.length:Int).toNat]?) fun ae=>if(a.length:Int).toNat=(a.length:Int).toNat then oB (((a++([(h,f,([]:Z5))]:List Z2)).set (a.length:Int).toNat (j.1,j.2.1,(c.2.2++([(e,([]:List Int))]:Z5))))[(a.length:Int).toNat]?) fun X=>(if(a.length:Int).toNat=(a.length:Int).toNat then if 0<=(((c.2.2.length:Int)-1)+1)/\(((c.2.2.length:Int)-1)+1)<(r.2.2.length:Int)then oB (r.2.2[(((c.2.2.length:Int)-1)+1).toNat]?) fun aa=>(if(((c.2.2.length:Int)-1)+1).toNat=(((c.2.2.length:Int)-1)+1).toNat then if room C.2.length ([i]:List Int).length 8 then if 0<=(((c.2.2.length:Int)-1)+1)/\(((c.2.2.length:Int)-1)+1)<(r.2.2.length:Int)then if(((c.2.2.length:Int)-1)+1).toNat=(((c.2.2.length:Int)-1)+1).toNat then oB (r.2.2[(((c.2.2.length:Int)-1)+1).toNat]?) fun Q=>(some (p,(((a++([(h,f,([]:Z5))]:List Z2)).set (a.length:Int).toNat (j.1,j.2.1,(c.2.2++([(e,([]:List Int))]:Z5)))).modify ((a.length:Int).toNat) fun w=>(w.1,w.2.1,(r.2.2.set (((c.2.2.length:Int)-1)+1).toNat (Q.1,(C.2++([i]:List Int))))))))else none else none else none else none)else none else none)else none)else none)else none else none else none)else(oB ((a++([(h,f,([]:Z5))]:List Z2))[(a.length:Int).toNat]?) fun R=>if(a.length:Int).toNat=(a.length:Int).toNat then if 0<=((c.2.2.length:Int)-1)/\((c.2.2.length:Int)-1)<(c.2.2.length:Int)then oB (c.2.2[((c.2.2.length:Int)-1).toNat]?) fun H=>(bif !decide (H.1=e)then oB ((a++([(h,f,([]:Z5))]:List Z2))[(a.length:Int).toNat]?) fun am=>(if(a.length:Int).toNat=(a.length:Int).toNat then if room c.2.2.length ([(e,([]:List Int))]:Z5).length 32 then if(a.length:Int).toNat=(a.length:Int).toNat then oB ((a++([(h,f,([]:Z5))]:List Z2))[(a.length:Int).toNat]?) fun k=>(if fits (((c.2.2.length:Int)-1)+1)then oB (((a++([(h,f,([]:Z5))]:List Z2)).set (a.length:Int).toNat (k.1,k.2.1,(c.2.2++([(e,([]:List Int))]:Z5))))[(a.length:Int).toNat]?) fun o=>(oB (o.2.2[(((c.2.2.length:Int)-1)+1).toNat]?) fun B=>oB (((a++([(h,f,([]:Z5))]:List Z2)).set (a.length:Int).toNat (k.1,k.2.1,(c.2.2++([(e,([]:List Int))]:Z5))))[(a.length:Int).toNat]?) fun al=>if(a.length:Int).toNat=(a.length:Int).toNat then oB (((a++([(h,f,([]:Z5))]:List Z2)).set (a.length:Int).toNat (k.1,k.2.1,(c.2.2++([(e,([]:List Int))]:Z5))))[(a.length:Int).toNat]?) fun aq=>(if(a.length:Int).toNat=(a.length:Int).toNat then if 0<=(((c.2.2.length:Int)-1)+1)/\(((c.2.2.length:Int)-1)+1)<(o.2.2.length:Int)then oB (o.2.2[(((c.2.2.length:Int)-1)+1).toNat]?) fun U=>(if(((c.2.2.length:Int)-1)+1).toNat=(((c.2.2.length:Int)-1)+1).toNat then if room B.2.length ([i]:List Int).length 8 then if 0<=(((c.2.2.length:Int)-1)+1)/\(((c.2.2.length:Int)-1)+1)<(o.2.2.length:Int)then if(((c.2.2.length:Int)-1)+1).toNat=(((c.2.2.length:Int)-1)+1).toNat then oB (o.2.2[(((c.2.2.length:Int)-1)+1).toNat]?) fun P=>(some (p,(((a++([(h,f,([]:Z5))]:List Z2)).set (a.length:Int).toNat (k.1,k.2.1,(c.2.2++([(e,([]:List Int))]:Z5)))).modify ((a.length:Int).toNat) fun y=>(y.1,y.2.1,(o.2.2.set (((c.2.2.length:Int)-1)+1).toNat (P.1,(B.2++([i]:List Int))))))))else none else none else none else none)else none else none)else none)else none)else none else none else none)else if(a.length:Int).toNat=(a.length:Int).toNat then oB (c.2.2[((c.2.2.length:Int)-1).toNat]?) fun x=>(oB ((a++([(h,f,([]:Z5))]:List Z2))[(a.length:Int).toNat]?) fun ac=>if(a.length:Int).toNat=(a.length:Int).toNat then oB ((a++([(h,f,([]:Z5))]:List Z2))[(a.length:Int).toNat]?) fun W=>(if(a.length:Int).toNat=(a.length:Int).toNat then if 0<=((c.2.2.length:Int)-1)/\((c.2.2.length:Int)-1)<(c.2.2.length:Int)then oB (c.2.2[((c.2.2.length:Int)-1).toNat]?) fun aj=>(if((c.2.2.length:Int)-1).toNat=((c.2.2.length:Int)-1).toNat then if room x.2.length ([i]:List Int).length 8 then if 0<=((c.2.2.length:Int)-1)/\((c.2.2.length:Int)-1)<(c.2.2.length:Int)then if((c.2.2.length:Int)-1).toNat=((c.2.2.length:Int)-1).toNat then oB (c.2.2[((c.2.2.length:Int)-1).toNat]?) fun L=>(some (p,((a++([(h,f,([]:Z5))]:List Z2)).modify ((a.length:Int).toNat) fun t=>(t.1,t.2.1,(c.2.2.set ((c.2.2.length:Int)-1).toNat (L.1,(x.2++([i]:List Int))))))))else none else none else none else none)else none else none)else none)else none)else none else none)else none)else none else none else if 0<=d/\d<(a.length:Int)then oB (a[d.toNat]?) fun b=>(if fits ((b.2.2.length:Int)-1)then bif decide (((b.2.2.length:Int)-1)<0)then oB (a[d.toNat]?) fun V=>(if d.toNat=d.toNat then if room b.2.2.length ([(e,([]:List Int))]:Z5).length 32 then if d.toNat=d.toNat then oB (a[d.toNat]?) fun l=>(if fits (((b.2.2.length:Int)-1)+1)then oB ((a.set d.toNat (l.1,l.2.1,(b.2.2++([(e,([]:List Int))]:Z5))))[d.toNat]?) fun n=>(oB (n.2.2[(((b.2.2.length:Int)-1)+1).toNat]?) fun E=>oB ((a.set d.toNat (l.1,l.2.1,(b.2.2++([(e,([]:List Int))]:Z5))))[d.toNat]?) fun ad=>if d.toNat=d.toNat then oB ((a.set d.toNat (l.1,l.2.1,(b.2.2++([(e,([]:List Int))]:Z5))))[d.toNat]?) fun ak=>(if d.toNat=d.toNat then if 0<=(((b.2.2.length:Int)-1)+1)/\(((b.2.2.length:Int)-1)+1)<(n.2.2.length:Int)then oB (n.2.2[(((b.2.2.length:Int)-1)+1).toNat]?) fun ao=>(if(((b.2.2.length:Int)-1)+1).toNat=(((b.2.2.length:Int)-1)+1).toNat then if room E.2.length ([i]:List Int).length 8 then if 0<=(((b.2.2.length:Int)-1)+1)/\(((b.2.2.length:Int)-1)+1)<(n.2.2.length:Int)then if(((b.2.2.length:Int)-1)+1).toNat=(((b.2.2.length:Int)-1)+1).toNat then oB (n.2.2[(((b.2.2.length:Int)-1)+1).toNat]?) fun O=>(some (p,((a.set d.toNat (l.1,l.2.1,(b.2.2++([(e,([]:List Int))]:Z5)))).modify d.toNat fun u=>(u.1,u.2.1,(n.2.2.set (((b.2.2.length:Int)-1)+1).toNat (O.1,(E.2++([i]:List Int))))))))else none else none else none else none)else none else none)else none)else none)else none else none else none)else(oB (a[d.toNat]?) fun an=>if d.toNat=d.toNat then if 0<=((b.2.2.length:Int)-1)/\((b.2.2.length:Int)-1)<(b.2.2.length:Int)then oB (b.2.2[((b.2.2.length:Int)-1).toNat]?) fun I=>(bif !decide (I.1=e)then oB (a[d.toNat]?) fun ai=>(if d.toNat=d.toNat then if room b.2.2.length ([(e,([]:List Int))]:Z5).length 32 then if d.toNat=d.toNat then oB (a[d.toNat]?) fun m=>(if fits (((b.2.2.length:Int)-1)+1)then oB ((a.set d.toNat (m.1,m.2.1,(b.2.2++([(e,([]:List Int))]:Z5))))[d.toNat]?) fun q=>(oB (q.2.2[(((b.2.2.length:Int)-1)+1).toNat]?) fun D=>oB ((a.set d.toNat (m.1,m.2.1,(b.2.2++([(e,([]:List Int))]:Z5))))[d.toNat]?) fun af=>if d.toNat=d.toNat then oB ((a.set d.toNat (m.1,m.2.1,(b.2.2++([(e,([]:List Int))]:Z5))))[d.toNat]?) fun ag=>(if d.toNat=d.toNat then if 0<=(((b.2.2.length:Int)-1)+1)/\(((b.2.2.length:Int)-1)+1)<(q.2.2.length:Int)then oB (q.2.2[(((b.2.2.length:Int)-1)+1).toNat]?) fun T=>(if(((b.2.2.length:Int)-1)+1).toNat=(((b.2.2.length:Int)-1)+1).toNat then if room D.2.length ([i]:List Int).length 8 then if 0<=(((b.2.2.length:Int)-1)+1)/\(((b.2.2.length:Int)-1)+1)<(q.2.2.length:Int)then if(((b.2.2.length:Int)-1)+1).toNat=(((b.2.2.length:Int)-1)+1).toNat then oB (q.2.2[(((b.2.2.length:Int)-1)+1).toNat]?) fun G=>(some (p,((a.set d.toNat (m.1,m.2.1,(b.2.2++([(e,([]:List Int))]:Z5)))).modify d.toNat fun v=>(v.1,v.2.1,(q.2.2.set (((b.2.2.length:Int)-1)+1).toNat (G.1,(D.2++([i]:List Int))))))))else none else none else none else none)else none else none)else none)else none)else none else none else none)else if d.toNat=d.toNat then oB (b.2.2[((b.2.2.length:Int)-1).toNat]?) fun A=>(oB (a[d.toNat]?) fun ap=>if d.toNat=d.toNat then oB (a[d.toNat]?) fun ah=>(if d.toNat=d.toNat then if 0<=((b.2.2.length:Int)-1)/\((b.2.2.length:Int)-1)<(b.2.2.length:Int)then oB (b.2.2[((b.2.2.length:Int)-1).toNat]?) fun S=>(if((b.2.2.length:Int)-1).toNat=((b.2.2.length:Int)-1).toNat then if room A.2.length ([i]:List Int).length 8 then if 0<=((b.2.2.length:Int)-1)/\((b.2.2.length:Int)-1)<(b.2.2.length:Int)then if((b.2.2.length:Int)-1).toNat=((b.2.2.length:Int)-1).toNat then oB (b.2.2[((b.2.2.length:Int)-1).toNat]?) fun K=>(some (p,(a.modify d.toNat fun z=>(z.1,z.2.1,(b.2.2.set ((b.2.2.length:Int)-1).toNat (K.1,(A.2++([i]:List Int))))))))else none else none else none else none)else none else none)else none)else none)else none else none)else none)else none)
theorem jky :mK 91 ⟨⟨[.box 900000 0,pS,.agg [pS,pI],pI],[(900000,false,[.pv Y4,.tre 850001 Y7 131])]⟩,⟨[.tup []],[(900000,false,[.pv Y4,.tre 1 Y7 131])]⟩,c6A (i_Seg_put_m N)⟩:=
 mO (fC (jrl N) ja) func91 rfl N (.seq .no (.seq .no (.seq .no (.seq .no (.seq .no (.seq .no (.touch [.out 9 [(2,79,204,10),(1,88,3,0)]]))))))) _ (wr:=[33,34,70,71,91,92]) (rs:=[900000,850001]) (dw:=[16,33,70])
def jl0 :Sh:=⟨.pv (.int .u64):: .dead::pI::dz 22 [],[]⟩
def k_math_bits_Len64_m (N:Nat) (b:Int):Z14:=
 (meet (fun(a:Int×Int)=>match a with|(e,c)=>meet (fun(a:Int×Int)=>match a with|(d,f)=>meet (fun(a:Int×Int)=>match a with|(m,k)=>oB (idx ([0,1,2,2,3,3,3,3,4,4,4,4,4,4,4,4,5,5,5,5,5,5,5,5,5,5,5,5,5,5,5,5,6,6,6,6,6,6,6,6,6,6,6,6,6,6,6,6,6,6,6,6,6,6,6,6,6,6,6,6,6,6,6,6,7,7,7,7,7,7,7,7,7,7,7,7,7,7,7,7,7,7,7,7,7,7,7,7,7,7,7,7,7,7,7,7,7,7,7,7,7,7,7,7,7,7,7,7,7,7,7,7,7,7,7,7,7,7,7,7,7,7,7,7,7,7,7,7,8,8,8,8,8,8,8,8,8,8,8,8,8,8,8,8,8,8,8,8,8,8,8,8,8,8,8,8,8,8,8,8,8,8,8,8,8,8,8,8,8,8,8,8,8,8,8,8,8,8,8,8,8,8,8,8,8,8,8,8,8,8,8,8,8,8,8,8,8,8,8,8,8,8,8,8,8,8,8,8,8,8,8,8,8,8,8,8,8,8,8,8,8,8,8,8,8,8,8,8,8,8,8,8,8,8,8,8,8,8,8,8,8,8,8,8,8,8,8,8,8,8,8,8,8,8,8,8]:List UInt8) (IntKind.u8.wrap m)) fun l=>if fits (k+(IntKind.i64.wrap (l.toNat:Int)))then some (k+(IntKind.i64.wrap (l.toNat:Int)))else none) fun j=>bif decide ((256:Int)<=d)then if 0<=(8:Int)then if fits (f+8)then j ((d.fdiv (2^(min (8:Int).toNat (IntKind.bits .u64)))),(f+8))else none else none else j (d,f)) fun h=>bif decide ((65536:Int)<=e)then if 0<=(16:Int)then if fits (c+16)then h ((e.fdiv (2^(min (16:Int).toNat (IntKind.bits .u64)))),(c+16))else none else none else h (e,c)) fun i=>bif decide ((4294967296:Int)<=b)then if 0<=(32:Int)then i ((b.fdiv (2^(min (32:Int).toNat (IntKind.bits .u64)))),32)else none else i (b,0))
theorem jrK :mK 220 (bX [.pv (.int .u64)] [pI] (c1A (k_math_bits_Len64_m N))):=
 mO ja func220 rfl N (.seq .no (.meet jl0 .no (.meet jl0 .no (.meet jl0 .no .no)))) _
def k_math_bits_Len_m (a:Int):Z14:=
 (oB (k_math_bits_Len64_m N a) fun b=>some b)
theorem jda :mK 161 (bX [.pv (.int .u64)] [pI] (c1A (k_math_bits_Len_m N))):=
 mO (fC (jrK N) ja) func161 rfl N .no _
def jbn (N:Nat) (a:List UInt8):Z9:=
 (some (!decide (a=a)))
theorem jkt :mK 162 (bX [pS] [pB] (c1A (jbn N))):=
 mO ja func162 rfl N .no _
def jam (a:List UInt8) (b:List UInt8):Z14:=
 (oB (jbn N a) fun d=>oB (jbn N b) fun c=>bif d then bif c then some 0 else(some (-1))else bif c then some 1 else bif Op.bytesLess a b then some (-1)else bif !(Op.bytesLess a b||decide (a=b))then some 1 else some 0)
theorem ji2 :mK 95 (bX [pS,pS] [pI] (c2A (jam N))):=
 mO (fC (jkt N) ja) func95 rfl N .no _
def jlp :Sh:=⟨dz 3 (pI:: .dead:: .dead:: .pv Y22::pI::pI::dz 9 []),[]⟩
def jbe (d:List Int):Z14:=
 (iter (fun i (b,f,e,a)=>bif decide (a<e)then oB (idx f a) fun c=>(bif !decide (c=b)then some c else if fits (a+1)then i (b,f,e,(a+1))else none)else some b) N ((0:Int),d,(d.length:Int),(0:Int)))
theorem jhC :mK 94 (bX [.pv Y22] [pI] (c1A (jbe N))):=
 mO ja func94 rfl N (.seq .no (.seq .no (.seq (.seq .no (.block (.loop jlp .no))) .no))) _
def je (f:List UInt8) (b:List UInt8) (j:Z5) (h:List UInt8) (c:List UInt8) (i:Z5):Z14:=
 (oB (jam N f h) fun d=>oB (jam N b c) fun a=>oB (jbe N ([d,a]:List Int)) fun e=>some e)
theorem jaf :mK 93 (bX [.agg [pS,pS,.pv Y13],.agg [pS,pS,.pv Y13]] [pI] (c6A (je N))):=
 mO (fC (ji2 N) (fC (jhC N) ja)) func93 rfl N .no _
def k_slices_nextPowerOfTwo_m (b:Int):Z14:=
 (oB (k_math_bits_Len_m N (IntKind.u64.wrap b)) fun a=>if 0<=a then some (IntKind.u64.wrap ((1:Int)*2^(min a.toNat (IntKind.bits .u64))))else none)
theorem jhv :mK 270 (bX [pI] [.pv (.int .u64)] (c1A (k_slices_nextPowerOfTwo_m N))):=
 mO (fC (jda N) ja) func270 rfl N .no _
def k__slices_xorshift_Next_m (N:Nat) (a:Int):Option (Int×Int):=
 (if 0<=(13:Int)then if 0<=(7:Int)then if 0<=(17:Int)then some ((bitsI .xor .u64 (bitsI .xor .u64 (bitsI .xor .u64 a (IntKind.u64.wrap (a*2^(min (13:Int).toNat (IntKind.bits .u64))))) ((bitsI .xor .u64 a (IntKind.u64.wrap (a*2^(min (13:Int).toNat (IntKind.bits .u64))))).fdiv (2^(min (7:Int).toNat (IntKind.bits .u64))))) (IntKind.u64.wrap ((bitsI .xor .u64 (bitsI .xor .u64 a (IntKind.u64.wrap (a*2^(min (13:Int).toNat (IntKind.bits .u64))))) ((bitsI .xor .u64 a (IntKind.u64.wrap (a*2^(min (13:Int).toNat (IntKind.bits .u64))))).fdiv (2^(min (7:Int).toNat (IntKind.bits .u64)))))*2^(min (17:Int).toNat (IntKind.bits .u64))))),(bitsI .xor .u64 (bitsI .xor .u64 (bitsI .xor .u64 a (IntKind.u64.wrap (a*2^(min (13:Int).toNat (IntKind.bits .u64))))) ((bitsI .xor .u64 a (IntKind.u64.wrap (a*2^(min (13:Int).toNat (IntKind.bits .u64))))).fdiv (2^(min (7:Int).toNat (IntKind.bits .u64))))) (IntKind.u64.wrap ((bitsI .xor .u64 (bitsI .xor .u64 a (IntKind.u64.wrap (a*2^(min (13:Int).toNat (IntKind.bits .u64))))) ((bitsI .xor .u64 a (IntKind.u64.wrap (a*2^(min (13:Int).toNat (IntKind.bits .u64))))).fdiv (2^(min (7:Int).toNat (IntKind.bits .u64)))))*2^(min (17:Int).toNat (IntKind.bits .u64))))))else none else none else none)
theorem jet :mK 271 ⟨⟨[.box 900000 0],[(900000,false,[.pv (.int .u64)])]⟩,⟨[.pv (.int .u64)],[(900000,false,[.pv (.int .u64)])]⟩,c1A (k__slices_xorshift_Next_m N)⟩:=
 mO ja func271 rfl N .no _ (rs:=[900000])
section
variable {Z γ ρ : Type} (c : γ -> Z -> Z -> Option Int)
def swpG (d:List Z) (i j:Int) (k:List Z->Option ρ):Option ρ:=
 if 0<=j/\j<(d.length:Int)then oB (d[j.toNat]?) fun e=>if 0<=i/\i<(d.length:Int)then oB (d[i.toNat]?) fun e2=>
  if 0<=i/\i<(d.length:Int)then oB (d[i.toNat]?) fun e3=>if 0<=j/\j<((d.set i.toNat e).length:Int)then oB ((d.set i.toNat e)[j.toNat]?) fun e4=>k ((d.set i.toNat e).set j.toNat e2)
  else none else none else none else none
def cmpG (ks:γ) (d:List Z) (i j:Int) (k:Int->Option ρ):Option ρ:=
 if 0<=i/\i<(d.length:Int)then oB (d[i.toNat]?) fun e=>if 0<=j/\j<(d.length:Int)then oB (d[j.toNat]?) fun e2=>oB (c ks e e2) k else none else none
def cmpP (ks:γ) (d:List Z) (j:Int) (k:Int->Option ρ):Option ρ:=
 if 0<=j/\j<(d.length:Int)then oB (d[j.toNat]?) fun e=>if fits (j-1)then if 0<=(j-1)/\(j-1)<(d.length:Int)then oB (d[(j-1).toNat]?) fun e2=>oB (c ks e e2) k else none else none else none
def swpP (d:List Z) (j:Int) (k:List Z->Option ρ):Option ρ:=if fits (j-1)then if fits (j-1)then swpG d j (j-1) k else none else none
def insG (N:Nat) (d:List Z) (a b:Int) (ks:γ):Option (List Z):=
 if fits (a+1)then iter (fun go (g:List Z×Int×Int×γ×Int)=>
  match g with
  |(d2,a2,b2,ks2,i)=>
  bif decide (i<b2)then
   iter (fun go2 (g:List Z×Int×Int×γ×Int×Int)=>
    match g with
    |(d3,a3,b3,ks3,i2,j)=>
    bif decide (a3<j)then cmpP c ks3 d3 j fun r=>bif decide (r<0)then swpP d3 j fun d=>if fits (j-1)then go2 (d,a3,b3,ks3,i2,j-1)else none
     else if fits (i2+1)then go (d3,a3,b3,ks3,i2+1)else none
    else if fits (i2+1)then go (d3,a3,b3,ks3,i2+1)else none) N (d2,a2,b2,ks2,i,i)
  else some d2) N (d,a,b,ks,a+1)else none
def siftG (N:Nat) (data:List Z) (lo:Int) (hi:Int) (first:Int) (cmp:γ):Option ((List Z)):=
 (iter (fun go (g:(List Z)×Int×Int×γ×Int)=>
   match g with
   |(data2,hi2,first2,cmp2,root)=>
   (if fits (2*root)then(if fits ((2*root)+1)then(bif(decide (hi2<=((2*root)+1)))then
      (some data2)
      else
      (meet (fun(g:(List Z)×Int×Int×γ×Int×Int)=>
        match g with
        |(data3,hi3,first3,cmp3,root2,child)=>
        (if fits (first3+root2)then(if 0<=(first3+root2)/\(first3+root2)<(data3.length:Int)then
          (oB (data3[(first3+root2).toNat]?) fun e3=>
           (if fits (first3+child)then(if 0<=(first3+child)/\(first3+child)<(data3.length:Int)then
             (oB (data3[(first3+child).toNat]?) fun e4=>
              (oB (c cmp3 e3 e4) fun r2=>
               (bif(!(decide (r2<0)))then
                (some data3)
                else
                (if fits (first3+root2)then(if fits (first3+child)then(if fits (first3+child)then(if 0<=(first3+child)/\(first3+child)<(data3.length:Int)then
                    (oB (data3[(first3+child).toNat]?) fun e5=>
                     (if fits (first3+root2)then(if 0<=(first3+root2)/\(first3+root2)<(data3.length:Int)then
                       (oB (data3[(first3+root2).toNat]?) fun e6=>
                        (if 0<=(first3+root2)/\(first3+root2)<(data3.length:Int)then
                         (oB (data3[(first3+root2).toNat]?) fun e7=>
                          (if 0<=(first3+child)/\(first3+child)<((data3.set (first3+root2).toNat e5).length:Int)then
                           (oB ((data3.set (first3+root2).toNat e5)[(first3+child).toNat]?) fun e8=>
                            (go (((data3.set (first3+root2).toNat e5).set (first3+child).toNat e6),hi3,first3,cmp3,child)))
                           else none))
                         else none))
                       else none)else none))
                    else none)else none)else none)else none))))
             else none)else none))
          else none)else none)) fun J=>
       (if fits (((2*root)+1)+1)then(bif(decide ((((2*root)+1)+1)<hi2))then
         (if fits (first2+((2*root)+1))then(if 0<=(first2+((2*root)+1))/\(first2+((2*root)+1))<(data2.length:Int)then
           (oB (data2[(first2+((2*root)+1)).toNat]?) fun e=>
            (if fits (first2+((2*root)+1))then(if fits ((first2+((2*root)+1))+1)then(if 0<=((first2+((2*root)+1))+1)/\((first2+((2*root)+1))+1)<(data2.length:Int)then
               (oB (data2[((first2+((2*root)+1))+1).toNat]?) fun e2=>
                (oB (c cmp2 e e2) fun r=>
                 (bif(decide (r<0))then
                  (if fits (((2*root)+1)+1)then(J (data2,hi2,first2,cmp2,root,(((2*root)+1)+1)))else none)
                  else
                  (J (data2,hi2,first2,cmp2,root,((2*root)+1))))))
               else none)else none)else none))
           else none)else none)
         else
         (J (data2,hi2,first2,cmp2,root,((2*root)+1))))else none)))else none)else none)) N (data,hi,first,cmp,lo))
def heapG (N:Nat) (data:List Z) (a:Int) (b:Int) (cmp:γ):Option ((List Z)):=
 (if fits (b-a)then(if fits ((b-a)-1)then(if 2≠0 then
    (if fits (((b-a)-1).tdiv 2)then(iter (fun go (g:(List Z)×γ×Int×Int×Int×Int)=>
       match g with
       |(data2,cmp2,first,lo,hi,i)=>
       (bif(decide ((0:Int)<=i))then
        (oB (siftG c N data2 i hi first cmp2) fun r=>
         (if fits (i-1)then(go (r,cmp2,first,lo,hi,(i-1)))else none))
        else
        (if fits (hi-1)then(iter (fun go2 (g:(List Z)×γ×Int×Int×Int)=>
           match g with
           |(data3,cmp3,first2,lo2,i2)=>
           (bif(decide ((0:Int)<=i2))then
            (if fits (first2+i2)then(if fits (first2+i2)then swpG data3 first2 (first2+i2) fun d=>(oB (siftG c N d lo2 i2 first2 cmp3) fun r2=>
                       (if fits (i2-1)then(go2 (r2,cmp3,first2,lo2,(i2-1)))else none))else none)else none)
            else
            (some data3))) N (data2,cmp2,first,lo,(hi-1)))else none))) N (data,cmp,a,0,(b-a),(((b-a)-1).tdiv 2)))else none)
    else none)else none)else none)
def breakG (N:Nat) (data:List Z) (a:Int) (b:Int) (cmp:γ):Option (List Z):=
 (if fits (b-a)then(bif(decide ((8:Int)<=(b-a)))then
   (oB (k_slices_nextPowerOfTwo_m N (b-a)) fun r=>
    (if 4≠0 then
     (if fits ((b-a).tdiv 4)then(if fits (((b-a).tdiv 4)*2)then(if fits (a+(((b-a).tdiv 4)*2))then(if fits ((a+(((b-a).tdiv 4)*2))-1)then(iter (fun go (g:(List Z)×Int×Int×Int×Int×Int)=>
           match g with
           |(data2,a2,length,modulus,idx0,random)=>
           (if 4≠0 then
            (if fits (length.tdiv 4)then(if fits ((length.tdiv 4)*2)then(if fits (a2+((length.tdiv 4)*2))then(if fits ((a2+((length.tdiv 4)*2))+1)then(bif(decide (idx0<=((a2+((length.tdiv 4)*2))+1)))then
                 (oB (k__slices_xorshift_Next_m N random) fun r2=>
                  (meet (fun(g:(List Z)×Int×Int×Int×Int×Int×Int)=>
                    match g with
                    |(data3,a3,length2,modulus2,idx02,other,random2)=>
                    (if fits (a3+other)then(if fits (a3+other)then swpG data3 idx02 (a3+other) fun d=>(if fits (idx02+1)then(go (d,a3,length2,modulus2,(idx02+1),random2))else none)else none)else none)) fun J=>
                   (bif(decide (length<=(IntKind.i64.wrap (bitsI .and .u64 r2.1 (IntKind.u64.wrap (modulus-1))))))then
                    (if fits ((IntKind.i64.wrap (bitsI .and .u64 r2.1 (IntKind.u64.wrap (modulus-1))))-length)then(J (data2,a2,length,modulus,idx0,((IntKind.i64.wrap (bitsI .and .u64 r2.1 (IntKind.u64.wrap (modulus-1))))-length),r2.2))else none)
                    else
                    (J (data2,a2,length,modulus,idx0,(IntKind.i64.wrap (bitsI .and .u64 r2.1 (IntKind.u64.wrap (modulus-1)))),r2.2)))))
                 else
                 (some data2))else none)else none)else none)else none)
            else none)) N (data,a,(b-a),r,((a+(((b-a).tdiv 4)*2))-1),(IntKind.u64.wrap (b-a))))else none)else none)else none)else none)
     else none))
   else
   (some data))else none)
def order2G (N:Nat) (data:List Z) (a:Int) (b:Int) (cmp:γ) (b2:Int):Option (Int×Int×(List Z)×Int):=
 cmpG c cmp data b a fun r=>(bif(decide (r<0))then(if fits (b2+1)then(some (b,a,data,(b2+1)))else none)else(some (a,b,data,b2)))
def medianG (N:Nat) (data:List Z) (a:Int) (b:Int) (c0:Int) (cmp:γ) (b2:Int):Option (Int×(List Z)×Int):=
 (oB (order2G c N data a b cmp b2) fun r=>
  (oB (order2G c N r.2.2.1 r.2.1 c0 cmp r.2.2.2) fun r2=>
   (oB (order2G c N r2.2.2.1 r.1 r2.1 cmp r2.2.2.2) fun r3=>
    (some (r3.2.1,r3.2.2.1,r3.2.2.2)))))
def medianAdjacentG (N:Nat) (data:List Z) (a:Int) (cmp:γ) (b:Int):Option (Int×(List Z)×Int):=
 (if fits (a-1)then(if fits (a+1)then(oB (medianG c N data (a-1) a (a+1) cmp b) fun r=>
    (some (r.1,r.2.1,r.2.2)))else none)else none)
def choosePivotG (N:Nat) (data:List Z) (a:Int) (b:Int) (cmp:γ):Option (Int×Int×(List Z)):=
 (if fits (b-a)then(if 4≠0 then
   (if fits ((b-a).tdiv 4)then(if fits (((b-a).tdiv 4)*1)then(if fits (a+(((b-a).tdiv 4)*1))then(if 4≠0 then
       (if fits ((b-a).tdiv 4)then(if fits (((b-a).tdiv 4)*2)then(if fits (a+(((b-a).tdiv 4)*2))then(if 4≠0 then
           (if fits ((b-a).tdiv 4)then(if fits (((b-a).tdiv 4)*3)then(if fits (a+(((b-a).tdiv 4)*3))then(meet (fun(g:(List Z)×Int×Int)=>
                match g with
                |(data3,j2,swaps2)=>
                (bif(decide (swaps2=0))then
                 (some (j2,1,data3))
                 else
                 (bif(decide (swaps2=12))then
                  (some (j2,2,data3))
                  else
                  (some (j2,0,data3))))) fun J=>
               (bif(decide ((8:Int)<=(b-a)))then
                (meet (fun(g:(List Z)×γ×Int×Int×Int×Int)=>
                  match g with
                  |(data2,cmp2,i,j,k,swaps)=>
                  (oB (medianG c N data2 i j k cmp2 swaps) fun r4=>
                   (J (r4.2.1,r4.1,r4.2.2)))) fun J2=>
                 (bif(decide ((50:Int)<=(b-a)))then
                  (oB (medianAdjacentG c N data (a+(((b-a).tdiv 4)*1)) cmp 0) fun r=>
                   (oB (medianAdjacentG c N r.2.1 (a+(((b-a).tdiv 4)*2)) cmp r.2.2) fun r2=>
                    (oB (medianAdjacentG c N r2.2.1 (a+(((b-a).tdiv 4)*3)) cmp r2.2.2) fun r3=>
                     (J2 (r3.2.1,cmp,r.1,r2.1,r3.1,r3.2.2)))))
                  else
                  (J2 (data,cmp,(a+(((b-a).tdiv 4)*1)),(a+(((b-a).tdiv 4)*2)),(a+(((b-a).tdiv 4)*3)),0))))
                else
                (J (data,(a+(((b-a).tdiv 4)*2)),0))))else none)else none)else none)
           else none)else none)else none)else none)
       else none)else none)else none)else none)
   else none)else none)
def reverseRangeG (N:Nat) (data:List Z) (a:Int) (b:Int) (cmp:γ):Option ((List Z)):=
 (if fits (b-1)then(iter (fun go (g:(List Z)×Int×Int)=>
    match g with
    |(data2,i,j)=>
    (bif(decide (i<j))then swpG data2 i j fun d=>(if fits (i+1)then(if fits (j-1)then(go (d,(i+1),(j-1)))else none)else none)
     else
     (some data2))) N (data,a,(b-1)))else none)
def shDown (k:(List Z×Int×Int×γ×Int×Int)->Option ρ) (N:Nat) (g:List Z×Int×Int×γ×Int×Int×Int):Option ρ:=
 iter (fun go3 (g:(List Z)×Int×Int×γ×Int×Int×Int)=>
  match g with
  |(d,a,b,ks,i,j,j4)=>
  bif decide ((1:Int)<=j4)then cmpP c ks d j4 fun r=>bif !decide (r<0)then k (d,a,b,ks,i,j)else swpP d j4 fun d'=>if fits (j4-1)then go3 (d',a,b,ks,i,j,j4-1)else none
  else k (d,a,b,ks,i,j)) N g
def shUp (k:(List Z×Int×Int×γ×Int×Int)->Option ρ) (N:Nat) (g:List Z×Int×Int×γ×Int×Int×Int):Option ρ:=
 iter (fun go4 (g:(List Z)×Int×Int×γ×Int×Int×Int)=>
  match g with
  |(d,a,b,ks,i,j,j4)=>
  bif decide (j4<b)then cmpP c ks d j4 fun r=>bif !decide (r<0)then(if fits (j+1)then k (d,a,b,ks,i,j+1)else none)else swpP d j4 fun d'=>if fits (j4+1)then go4 (d',a,b,ks,i,j,j4+1)else none
  else if fits (j+1)then k (d,a,b,ks,i,j+1)else none) N g
def pisX (N:Nat) (go:(List Z×Int×Int×γ×Int×Int)->Option (Bool×List Z)) (d:List Z) (a b:Int) (ks:γ) (i j:Int):Option (Bool×List Z):=
 bif decide (i=b)then some (true,d)else if fits (b-a)then bif decide ((b-a)<50)then some (false,d)else
  swpP d i fun d'=>meet (fun(g:List Z×Int×Int×γ×Int×Int)=>
   match g with
   |(d5,a5,b5,ks5,i4,j5)=>
   if fits (b5-i4)then bif decide ((2:Int)<=(b5-i4))then if fits (i4+1)then shUp c go N (d5,a5,b5,ks5,i4,j5,i4+1)else none
    else(if fits (j5+1)then go (d5,a5,b5,ks5,i4,j5+1)else none)else none) fun J=>
   if fits (i-a)then bif decide ((2:Int)<=(i-a))then if fits (i-1)then shDown c J N (d',a,b,ks,i,j,i-1)else none else J (d',a,b,ks,i,j)else none
 else none
def pisG (N:Nat) (d:List Z) (a b:Int) (ks:γ):Option (Bool×List Z):=
 if fits (a+1)then iter (fun go (g:List Z×Int×Int×γ×Int×Int)=>
  match g with
  |(d2,a2,b2,ks2,i,j)=>
  bif decide (j<5)then
   iter (fun go2 (g:List Z×Int×Int×γ×Int×Int)=>
    match g with
    |(d3,a3,b3,ks3,i2,j2)=>
    bif decide (i2<b3)then cmpP c ks3 d3 i2 fun r=>bif !decide (r<0)then(if fits (i2+1)then go2 (d3,a3,b3,ks3,i2+1,j2)else none)else pisX c N go d3 a3 b3 ks3 i2 j2
    else pisX c N go d3 a3 b3 ks3 i2 j2) N (d2,a2,b2,ks2,i,j)
  else some (false,d2)) N (d,a,b,ks,a+1,0)else none
def partE (go3:(List Z×Int×γ×Int×Int)->Option (Int×Bool×List Z)) (fl:Bool) (g:List Z×Int×γ×Int×Int):Option (Int×Bool×List Z):=
 match g with
 |(d,a,ks,i,j)=>
 bif decide (j<i)then swpG d j a fun d'=>some (j,fl,d')else swpG d i j fun d'=>if fits (i+1)then if fits (j-1)then go3 (d',a,ks,i+1,j-1)else none else none
def partD (k:(List Z×Int×γ×Int×Int)->Option ρ) (N:Nat) (g:List Z×Int×γ×Int×Int):Option ρ:=
 iter (fun go (g:List Z×Int×γ×Int×Int)=>
  match g with
  |(d,a,ks,i,j)=>
  bif decide (i<=j)then cmpG c ks d j a fun r=>bif !decide (r<0)then(if fits (j-1)then go (d,a,ks,i,j-1)else none)else k (d,a,ks,i,j)
  else k (d,a,ks,i,j)) N g
def partU (k:(List Z×Int×γ×Int×Int)->Option ρ) (N:Nat) (g:List Z×Int×γ×Int×Int):Option ρ:=
 iter (fun go (g:List Z×Int×γ×Int×Int)=>
  match g with
  |(d,a,ks,i,j)=>
  bif decide (i<=j)then cmpG c ks d i a fun r=>bif decide (r<0)then(if fits (i+1)then go (d,a,ks,i+1,j)else none)else k (d,a,ks,i,j)
  else k (d,a,ks,i,j)) N g
def partG (N:Nat) (d:List Z) (a b p:Int) (ks:γ):Option (Int×Bool×List Z):=
 swpG d a p fun d=>if fits (a+1)then if fits (b-1)then
  partU c (fun g=>partD c (partE (fun g=>iter (fun go3 g=>partU c (fun g=>partD c (partE go3 false) N g) N g) N g) true) N g) N (d,a,ks,a+1,b-1)
 else none else none
def peqE (go:(List Z×Int×γ×Int×Int)->Option (Int×List Z)) (g:List Z×Int×γ×Int×Int):Option (Int×List Z):=
 match g with
 |(d,a,ks,i,j)=>
 bif decide (j<i)then some (i,d)else swpG d i j fun d'=>if fits (i+1)then if fits (j-1)then go (d',a,ks,i+1,j-1)else none else none
def peqD (k:(List Z×Int×γ×Int×Int)->Option ρ) (N:Nat) (g:List Z×Int×γ×Int×Int):Option ρ:=
 iter (fun go (g:List Z×Int×γ×Int×Int)=>
  match g with
  |(d,a,ks,i,j)=>
  bif decide (i<=j)then cmpG c ks d a j fun r=>bif decide (r<0)then(if fits (j-1)then go (d,a,ks,i,j-1)else none)else k (d,a,ks,i,j)
  else k (d,a,ks,i,j)) N g
def peqU (k:(List Z×Int×γ×Int×Int)->Option ρ) (N:Nat) (g:List Z×Int×γ×Int×Int):Option ρ:=
 iter (fun go (g:List Z×Int×γ×Int×Int)=>
  match g with
  |(d,a,ks,i,j)=>
  bif decide (i<=j)then cmpG c ks d a i fun r=>bif !decide (r<0)then(if fits (i+1)then go (d,a,ks,i+1,j)else none)else k (d,a,ks,i,j)
  else k (d,a,ks,i,j)) N g
def peqG (N:Nat) (d:List Z) (a b p:Int) (ks:γ):Option (Int×List Z):=
 swpG d a p fun d=>if fits (a+1)then if fits (b-1)then iter (fun go g=>peqU c (fun g=>peqD c (peqE go) N g) N g) N (d,a,ks,a+1,b-1)else none else none
def pdqG (hs:List Z->Int->Int->γ->Option (List Z)) (pe:List Z->Int->Int->Int->γ->Option (Int×List Z)) (N:Nat):(D:Nat)->(List Z)->Int->Int->Int->γ->Option ((List Z))
 |0,_,_,_,_,_=>none
 |D+1,data,a,b,limit,cmp=>
 (iter (fun go (g:(List Z)×Int×Int×Int×γ×Bool×Bool)=>
   match g with
   |(data2,a2,b2,limit2,cmp2,wasBalanced,wasPartitioned)=>
   (if fits (b2-a2)then(bif(decide ((b2-a2)<=12))then
     (oB (insG c N data2 a2 b2 cmp2) fun r=>
      (some r))
     else
     (bif(decide (limit2=0))then
      (oB (hs data2 a2 b2 cmp2) fun r2=>
       (some r2))
      else
      (meet (fun(g:(List Z)×Int×Int×Int×γ×Bool×Bool×Int)=>
        match g with
        |(data3,a3,b3,limit3,cmp3,wasBalanced2,wasPartitioned2,length)=>
        (oB (choosePivotG c N data3 a3 b3 cmp3) fun r4=>
         (meet (fun(g:(List Z)×Int×Int×Int×γ×Bool×Bool×Int×Int×Int)=>
           match g with
           |(data4,a4,b4,limit4,cmp4,wasBalanced3,wasPartitioned3,length2,pivot,hint)=>
           (meet (fun(g:(List Z)×Int×Int×Int×γ×Bool×Bool×Int×Int)=>
             match g with
             |(data5,a5,b5,limit5,cmp5,wasBalanced4,wasPartitioned4,length3,pivot2)=>
             (bif(decide ((0:Int)<a5))then
              (if fits (a5-1)then(if 0<=(a5-1)/\(a5-1)<(data5.length:Int)then
                (oB (data5[(a5-1).toNat]?) fun e=>
                 (if 0<=pivot2/\pivot2<(data5.length:Int)then
                  (oB (data5[pivot2.toNat]?) fun e2=>
                   (oB (c cmp5 e e2) fun r7=>
                    (bif(!(decide (r7<0)))then
                     (oB (pe data5 a5 b5 pivot2 cmp5) fun r8=>
                      (go (r8.2,r8.1,b5,limit5,cmp5,wasBalanced4,wasPartitioned4)))
                     else
                     (oB (partG c N data5 a5 b5 pivot2 cmp5) fun r9=>
                      (if fits (r9.1-a5)then(if fits (b5-r9.1)then(if 8≠0 then
                         (if fits (length3.tdiv 8)then(bif(decide ((r9.1-a5)<(b5-r9.1)))then
                           (oB (pdqG hs pe N D r9.2.2 a5 r9.1 limit5 cmp5) fun r10=>
                            (if fits (r9.1+1)then(go (r10,(r9.1+1),b5,limit5,cmp5,(decide ((length3.tdiv 8)<=(r9.1-a5))),r9.2.1))else none))
                           else
                           (if fits (r9.1+1)then(oB (pdqG hs pe N D r9.2.2 (r9.1+1) b5 limit5 cmp5) fun r11=>
                             (go (r11,a5,r9.1,limit5,cmp5,(decide ((length3.tdiv 8)<=(b5-r9.1))),r9.2.1)))else none))else none)
                         else none)else none)else none)))))
                  else none))
                else none)else none)
              else
              (oB (partG c N data5 a5 b5 pivot2 cmp5) fun r12=>
               (if fits (r12.1-a5)then(if fits (b5-r12.1)then(if 8≠0 then
                  (if fits (length3.tdiv 8)then(bif(decide ((r12.1-a5)<(b5-r12.1)))then
                    (oB (pdqG hs pe N D r12.2.2 a5 r12.1 limit5 cmp5) fun r13=>
                     (if fits (r12.1+1)then(go (r13,(r12.1+1),b5,limit5,cmp5,(decide ((length3.tdiv 8)<=(r12.1-a5))),r12.2.1))else none))
                    else
                    (if fits (r12.1+1)then(oB (pdqG hs pe N D r12.2.2 (r12.1+1) b5 limit5 cmp5) fun r14=>
                      (go (r14,a5,r12.1,limit5,cmp5,(decide ((length3.tdiv 8)<=(b5-r12.1))),r12.2.1)))else none))else none)
                  else none)else none)else none)))) fun J3=>
            (bif wasBalanced3 then
             (bif wasPartitioned3 then
              (bif(decide (hint=1))then
               (oB (pisG c N data4 a4 b4 cmp4) fun r6=>
                (bif r6.1 then
                 (some r6.2)
                 else
                 (J3 (r6.2,a4,b4,limit4,cmp4,wasBalanced3,wasPartitioned3,length2,pivot))))
               else
               (J3 (data4,a4,b4,limit4,cmp4,wasBalanced3,wasPartitioned3,length2,pivot)))
              else
              (J3 (data4,a4,b4,limit4,cmp4,wasBalanced3,wasPartitioned3,length2,pivot)))
             else
             (J3 (data4,a4,b4,limit4,cmp4,wasBalanced3,wasPartitioned3,length2,pivot))))) fun J2=>
          (bif(decide (r4.2.1=2))then
           (oB (reverseRangeG N r4.2.2 a3 b3 cmp3) fun r5=>
            (if fits (b3-1)then(if fits (r4.1-a3)then(if fits ((b3-1)-(r4.1-a3))then(J2 (r5,a3,b3,limit3,cmp3,wasBalanced2,wasPartitioned2,length,((b3-1)-(r4.1-a3)),1))else none)else none)else none))
           else
           (J2 (r4.2.2,a3,b3,limit3,cmp3,wasBalanced2,wasPartitioned2,length,r4.1,r4.2.1)))))) fun J=>
       (bif(!wasBalanced)then
        (oB (breakG N data2 a2 b2 cmp2) fun r3=>
         (if fits (limit2-1)then(J (r3,a2,b2,(limit2-1),cmp2,wasBalanced,wasPartitioned,(b2-a2)))else none))
        else
        (J (data2,a2,b2,limit2,cmp2,wasBalanced,wasPartitioned,(b2-a2)))))))else none)) N (data,a,b,limit,cmp,true,true))
end
def cmp105 (N:Nat):(Unit)->Z2->Z2->Option Int:=(fun(cmp:Unit) (e e2:Z1×Z1×Z16)=>je N e.1 e.2.1 e.2.2 e2.1 e2.2.1 e2.2.2)
def jny :Sh:=⟨.mtk 800000 Y7 131 false::pI::pI:: .clo 93 []::dz 4 (pI::dz 44 []),[]⟩
def jll :Sh:=⟨.mtk 800000 Y7 131 false::pI::pI:: .clo 93 []::dz 4 (pI::pI::dz 43 []),[]⟩
def jeC (c:List Z2) (b:Int) (a:Int) (d:Unit):Option ((List Z2)):=insG (cmp105 N) N c b a d
 
theorem jqw :mK 211 (bX [.mtk 800000 Y7 131 false,pI,pI,.clo 93 []] [.tup [],.mtk 800000 Y7 131 false] (c4A (jeC N))):=
 mO (fC (jaf N) ja) func211 rfl N (.seq .no (.block (.loop jny (.seq .no (.seq (.block (.seq .no (.block (.loop jll .no)))) .no))))) _ (rs:=[800000])
def jnV :Sh:=⟨.mtk 800000 Y7 131 false:: .dead::pI::pI:: .clo 93 []::dz 5 (pI::dz 71 []),[]⟩
def jmo :Sh:=⟨.mtk 800000 Y7 131 false:: .dead::pI::pI:: .clo 93 []::dz 5 (pI::pI::dz 70 []),[]⟩
def jdy (c:List Z2) (d:Int) (b:Int) (a:Int) (e:Unit):Option ((List Z2)):=siftG (cmp105 N) N c d b a e
 
theorem jqE :mK 269 (bX [.mtk 800000 Y7 131 false,pI,pI,pI,.clo 93 []] [.tup [],.mtk 800000 Y7 131 false] (c5A (jdy N))):=
 mO (fC (jaf N) ja) func269 rfl N (.seq .no (.block (.loop jnV (.block (.seq .no (.seq .no (.meet jmo .no .no))))))) _ (rs:=[800000])
def jmY :Sh:=⟨.mtk 800000 Y7 131 false:: .dead:: .dead:: .clo 93 []::dz 4 (pI::pI::pI::pI::dz 48 []),[]⟩
def jq3 :Sh:=⟨.mtk 800000 Y7 131 false:: .dead:: .dead:: .clo 93 []::dz 4 (pI::pI:: .dead:: .dead::pI::dz 47 []),[]⟩
def jaC (c:List Z2) (b:Int) (a:Int) (d:Unit):Option ((List Z2)):=heapG (cmp105 N) N c b a d
 
theorem jqz :mK 212 (bX [.mtk 800000 Y7 131 false,pI,pI,.clo 93 []] [.tup [],.mtk 800000 Y7 131 false] (c4A (jaC N))):=
 mO (fC (jqE N) ja) func212 rfl N (.seq .no (.seq .no (.seq .no (.seq (.seq .no (.block (.loop jmY .no))) (.seq .no (.block (.loop jq3 .no))))))) _ (rs:=[800000])
def jkH :Sh:=⟨.mtk 800000 Y7 131 false::pI::dz 6 (pI:: .box 9 0:: .pv (.int .u64)::pI::dz 55 []),[(9,false,[.pv (.int .u64)])]⟩
def jmx :Sh:=⟨.mtk 800000 Y7 131 false::pI::dz 6 (pI:: .box 9 0:: .pv (.int .u64)::pI::pI::dz 54 []),[(9,false,[.pv (.int .u64)])]⟩
def jez (c:List Z2) (b:Int) (a:Int) (d:Unit):Option ((List Z2)):=breakG N c b a d
 
theorem jlO :mK 213 (bX [.mtk 800000 Y7 131 false,pI,pI,.clo 93 []] [.tup [],.mtk 800000 Y7 131 false] (c4A (jez N))):=
 mO (fC (jhv N) (fC (jet N) ja)) func213 rfl N (.seq .no (.seq .no (.cond (.seq .no (.seq .no (.seq .no (.block (.loop jkH (.seq .no (.seq (.block (.seq .no (.meet jmx .no .no))) .no))))))) .no))) _ (rs:=[800000])
def jcG (d:List Z2) (b:Int) (a:Int) (e:Unit) (c:Int):Option (Int×Int×(List Z2)×Int):=order2G (cmp105 N) N d b a e c
 
theorem jrN :mK 303 ⟨⟨[.mtk 800000 Y7 131 false,pI,pI,.box 900003 0,.clo 93 []],[(900003,false,[pI])]⟩,⟨[.tup [pI,pI],.mtk 800000 Y7 131 false],[(900003,false,[pI])]⟩,c5A (jcG N)⟩:=
 mO (fC (jaf N) ja) func303 rfl N .no _ (rs:=[900003,800000])
def jdE (d:List Z2) (b:Int) (a:Int) (e:Int) (f:Unit) (c:Int):Option (Int×(List Z2)×Int):=medianG (cmp105 N) N d b a e f c
 
theorem jfr :mK 273 ⟨⟨[.mtk 800000 Y7 131 false,pI,pI,pI,.box 900004 0,.clo 93 []],[(900004,false,[pI])]⟩,⟨[pI,.mtk 800000 Y7 131 false],[(900004,false,[pI])]⟩,c6A (jdE N)⟩:=
 mO (fC (jrN N) ja) func273 rfl N .no _ (rs:=[900004,800000])
def jca (c:List Z2) (b:Int) (d:Unit) (a:Int):Option (Int×(List Z2)×Int):=medianAdjacentG (cmp105 N) N c b d a
 
theorem jko :mK 272 ⟨⟨[.mtk 800000 Y7 131 false,pI,.box 900002 0,.clo 93 []],[(900002,false,[pI])]⟩,⟨[pI,.mtk 800000 Y7 131 false],[(900002,false,[pI])]⟩,c4A (jca N)⟩:=
 mO (fC (jfr N) ja) func272 rfl N .no _ (rs:=[900002,800000])
def jnR :Sh:=⟨.mtk 800000 Y7 131 false:: .dead:: .dead:: .clo 93 []::dz 7 (.box 11 0::pI::pI::pI::dz 48 []),[(11,false,[pI])]⟩
def jrt :Sh:=⟨.mtk 800000 Y7 131 false::dz 10 (.box 11 0:: .dead::pI::dz 49 []),[(11,false,[pI])]⟩
def jjM (c:List Z2) (b:Int) (a:Int) (d:Unit):Option (Int×Int×(List Z2)):=choosePivotG (cmp105 N) N c b a d
 
theorem joO :mK 214 (bX [.mtk 800000 Y7 131 false,pI,pI,.clo 93 []] [.tup [pI,pI],.mtk 800000 Y7 131 false] (c4A (jjM N))):=
 mO (fC (jko N) (fC (jfr N) ja)) func214 rfl N (.seq .no (.seq .no (.seq .no (.seq .no (.seq .no (.seq .no (.meet jrt (.seq .no (.cond (.meet jnR .no .no) .no)) .no))))))) _ (rs:=[800000])
def jpl :Sh:=⟨.mtk 800000 Y7 131 false::dz 7 (pI::pI::dz 24 []),[]⟩
def jeV (c:List Z2) (b:Int) (a:Int) (d:Unit):Option ((List Z2)):=reverseRangeG N c b a d
 
theorem jma :mK 215 (bX [.mtk 800000 Y7 131 false,pI,pI,.clo 93 []] [.tup [],.mtk 800000 Y7 131 false] (c4A (jeV N))):=
 mO ja func215 rfl N (.seq .no (.seq .no (.block (.loop jpl .no)))) _ (rs:=[800000])
def jn3 :Sh:=⟨.mtk 800000 Y7 131 false::pI::pI:: .clo 93 []::dz 5 (pI::pI::dz 130 []),[]⟩
def jsj :Sh:=⟨.mtk 800000 Y7 131 false::pI::pI:: .clo 93 []::dz 5 (pI::pI::pI::dz 129 []),[]⟩
def jnQ :Sh:=⟨.mtk 800000 Y7 131 false::pI::pI:: .clo 93 []::dz 5 (pI::pI:: .dead::pI::dz 128 []),[]⟩
def jhb (c:List Z2) (b:Int) (a:Int) (d:Unit):Option (Bool×(List Z2)):=pisG (cmp105 N) N c b a d
 
theorem jnw :mK 216 (bX [.mtk 800000 Y7 131 false,pI,pI,.clo 93 []] [pB,.mtk 800000 Y7 131 false] (c4A (jhb N))):=
 mO (fC (jaf N) ja) func216 rfl N (.seq .no (.seq .no (.seq (.seq .no (.block (.loop jn3 (.seq .no (.seq (.block (.seq (.block (.loop jn3 .no)) (.seq .no (.seq .no (.seq .no (.meet jn3 (.seq .no (.cond (.seq .no (.block (.loop jsj .no))) .no)) (.seq .no (.cond (.seq .no (.block (.loop jnQ .no))) .no)))))))) .no))))) .no))) _ (rs:=[800000])
def jnv :Sh:=⟨.mtk 800000 Y7 131 false::pI:: .dead:: .dead:: .clo 93 []::dz 6 (pI::pI::dz 77 []),[]⟩
def jbG (d:List Z2) (b:Int) (a:Int) (c:Int) (e:Unit):Option (Int×(List Z2)):=peqG (cmp105 N) N d b a c e
 
theorem jp1 :mK 217 (bX [.mtk 800000 Y7 131 false,pI,pI,pI,.clo 93 []] [pI,.mtk 800000 Y7 131 false] (c5A (jbG N))):=
 mO (fC (jaf N) ja) func217 rfl N (.seq .no (.seq .no (.seq .no (.seq (.block (.loop jnv (.block (.seq (.block (.loop jnv .no)) (.seq (.block (.loop jnv .no)) .no))))) .no)))) _ (rs:=[800000])
def jru :Sh:=⟨.mtk 800000 Y7 131 false::pI:: .dead:: .dead:: .clo 93 []::dz 7 (pI::pI::dz 164 []),[]⟩
def jcT (d:List Z2) (b:Int) (a:Int) (c:Int) (e:Unit):Option (Int×Bool×(List Z2)):=partG (cmp105 N) N d b a c e
 
theorem jrO :mK 218 (bX [.mtk 800000 Y7 131 false,pI,pI,pI,.clo 93 []] [.tup [pI,pB],.mtk 800000 Y7 131 false] (c5A (jcT N))):=
 mO (fC (jaf N) ja) func218 rfl N (.seq .no (.seq .no (.seq .no (.seq (.block (.loop jru .no)) (.seq (.block (.loop jru .no)) (.seq .no (.seq .no (.seq .no (.seq .no (.seq (.block (.loop jru (.block (.seq (.block (.loop jru .no)) (.seq (.block (.loop jru .no)) .no))))) .no)))))))))) _ (rs:=[800000])
def jmM :Sh:=⟨.mtk 800000 Y7 131 false::pI::pI::pI:: .clo 93 []::dz 5 (pB::pB::dz 136 []),[]⟩
def jnd :Sh:=⟨.mtk 800000 Y7 131 false::pI::pI::pI:: .clo 93 []::dz 5 (pB::pB::pI::pI::dz 134 []),[]⟩
def jmi :Sh:=⟨.mtk 800000 Y7 131 false::pI::pI::pI:: .clo 93 []::dz 5 (pB::pB::pI::pI::pI::dz 133 []),[]⟩
def js7 :Sh:=⟨.mtk 800000 Y7 131 false::pI::pI::pI:: .clo 93 []::dz 5 (pB::pB::pI::dz 135 []),[]⟩
def jK (N D:Nat) (e:List Z2) (a b limit:Int) (h:Unit):Option ((List Z2)):=pdqG (cmp105 N) (fun c a b d=>heapG (cmp105 N) N c a b d) (fun c a b f d=>peqG (cmp105 N) N c a b f d) N D e a b limit h
 
def jcj (N D:Nat):Model:=⟨⟨[.mtk 800000 Y7 131 false,pI,pI,pI,.clo 93 []],[]⟩,⟨[.tup [],.mtk 800000 Y7 131 false],[]⟩,c5A (jK N D)⟩
theorem jrm (N D:Nat) (ih:mK 160 (jcj N D)):mK 160 (jcj N (D+1)):=
 mO (fC ih (fC (jqw N) (fC (jqz N) (fC (jlO N) (fC (joO N) (fC (jma N) (fC (jnw N) (fC (jaf N) (fC (jp1 N) (fC (jrO N) ja)))))))))) func160 rfl N (.seq .no (.seq .no (.block (.loop jmM (.block (.seq .no (.seq .no (.seq .no (.meet js7 .no (.seq .no (.meet jmi .no (.meet jnd .no .no)))))))))))) (jcj N (D+1)) (rs:=[800000])
theorem jix (N:Nat):∀D,mK 160 (jcj N D)
 |0=>modelOk_none ⟨_,func160,by decide,by kernel_rfl⟩ _ (fun a=>rfl)
 |D+1=>jrm N D (jix N D)
def k_slices_SortFunc_105_m (a:List Z2) (d:Unit):Option ((List Z2)):=
 (oB (k_math_bits_Len_m N (IntKind.u64.wrap (a.length:Int))) fun c=>oB (jK N N a 0 (a.length:Int) c ()) fun b=>some b)
theorem jtu :mK 92 (bX [.mtk 800000 Y7 131 false,.clo 93 []] [.tup [],.mtk 800000 Y7 131 false] (c2A (k_slices_SortFunc_105_m N))):=
 mO (fC (jda N) (fC (jix N N) ja)) func92 rfl N .no _ (rs:=[800000])
def jmK :Sh:=⟨.dead:: .dead:: .box 2 0:: .dead:: .box 4 0:: .box 5 0::dz 19 (.pv Y4::pI::pI::dz 32 []),[(2,false,[.pv (.sl .str),.pv Y17]),(4,false,[.nils,.nils]),(5,false,[.pv Y4,.tre 700501 Y7 131])]⟩
def jor :Sh:=⟨.dead:: .dead:: .box 2 0:: .dead:: .box 4 0:: .box 5 0:: .dead:: .box 7 0::dz 17 (.pv Y4::pI::pI::dz 4 (.pv Y20::pI::pI::dz 25 [])),[(2,false,[.pv (.sl .str),.pv Y17]),(4,false,[.nils,.nils]),(5,false,[.pv Y4,.tre 700501 Y7 131]),(7,false,[pI,.pv Y20,.pv Y16])]⟩
def jnj :Sh:=⟨.dead:: .dead:: .box 2 0:: .dead:: .box 4 0:: .box 5 0:: .dead:: .box 7 0:: .dead:: .box 9 0::dz 15 (.pv Y4::pI::pI::dz 4 (.pv Y20::pI::pI::dz 6 (.own 600041 Y18 126 true::pI::pI::dz 16 []))),[(2,false,[.pv (.sl .str),.pv Y17]),(4,false,[.nils,.nils]),(5,false,[.pv Y4,.tre 700501 Y7 131]),(7,false,[pI,.pv Y20,.pv Y16]),(9,false,[pS,pS])]⟩
def i_SegOf_m (c:List Z1) (c2:List Z3) (docs:List Z0):Option ((List Z0)×(List Z2)):=
 (oB (jaj N c c2) fun r=>bif !r then some (([]:List Z0),([]:List Z2))else oB (jbf N docs) fun r2=>bif !r2 then some (([]:List Z0),([]:List Z2))else oB (jbV N docs) fun r3=>iter (fun go (t25,t26,t27,c3,c4,s,s2)=>bif decide (t27<t26)then oB (idx t25 t27) fun e=>(iter (fun go2 (t252,t262,t272,t32,t33,t34,c5,c6,s3,s4,d,d2,d3)=>bif decide (t34<t33)then oB (idx t32 t34) fun e2=>(oB (jbw N c5 c6 e2.2) fun r4=>iter (fun go3 (t253,t263,t273,t322,t332,t342,t41,t42,t43,c7,c8,s5,s6,d4,d5,d6,f,f2)=>bif decide (t43<t42)then oB (idx t41 t43) fun e3=>(oB (i_Seg_put_m N f e3.1 e3.2 d4 s5 s6) fun r5=>if fits (t43+1)then go3 (t253,t263,t273,t322,t332,t342,t41,t42,(t43+1),c7,c8,r5.1,r5.2,d4,d5,d6,f,f2)else none)else if fits (t342+1)then go2 (t253,t263,t273,t322,t332,(t342+1),c7,c8,s5,s6,d4,d5,d6)else none) N (t252,t262,t272,t32,t33,t34,r4,(r4.length:Int),(0:Int),c5,c6,s3,s4,d,d2,d3,e2.1,e2.2))else if fits (t272+1)then go (t252,t262,(t272+1),c5,c6,s3,s4)else none) N (t25,t26,t27,e.2.1,(e.2.1.length:Int),(0:Int),c3,c4,s,s2,e.1,e.2.1,e.2.2))else oB (k_slices_SortFunc_105_m N s2 ()) fun r6=>some (s,r6)) N (docs,(docs.length:Int),(0:Int),c,c2,r3,([]:List Z2)))
theorem jqC :mK 32 (bX [.agg [.pv (.sl .str),.pv Y17],.pv Y4] [.agg [.pv Y4,.own 1 Y7 131 false]] (c3A (i_SegOf_m N))):=
 mO (fC (jdX N) (fC (jjU N) (fC (joC N) (fC (jgO N) (fC (jky N) (fC (jtu N) ja)))))) func32 rfl N (.seq .no (.seq .no (.seq .no (.seq (.seq .no (.block (.loop jmK (.seq .no (.seq .no (.seq (.block (.seq .no (.seq .no (.block (.loop jor (.seq .no (.seq .no (.seq (.block (.seq .no (.seq .no (.block (.loop jnj .no))))) .no)))))))) .no)))))) .no)))) _ (wr:=[23]) (dw:=[23,57])
def jtB :Sh:=⟨.pv Y22:: .pv Y22::dz 10 (pI::pI::dz 12 []),[]⟩
def jbX (b:List Int) (f:List Int):Z9:=
 (bif !decide ((b.length:Int)=(f.length:Int))then some false else iter (fun k (c,e,d,a)=>bif decide (a<d)then oB (idx c a) fun i=>(oB (idx e a) fun h=>bif !decide (i=h)then some false else if fits (a+1)then k (c,e,d,(a+1))else none)else some true) N (b,f,(b.length:Int),(0:Int)))
theorem jqi :mK 222 (bX [.pv Y22,.pv Y22] [pB] (c2A (jbX N))):=
 mO ja func222 rfl N (.seq .no (.seq .no (.seq (.seq .no (.block (.loop jtB .no))) .no))) _
def jcp (b:Int) (a:List Int) (c:Int) (d:List Int):Z9:=
 (bif decide (b=c)then oB (jbX N a d) fun e=>(some e)else some false)
theorem jth :mK 166 (bX [.agg [pI,.pv Y22],.agg [pI,.pv Y22]] [pB] (c4A (jcp N))):=
 mO (fC (jqi N) ja) func166 rfl N .no _
def jlX :Sh:=⟨.dead:: .pv Y13:: .clo 166 []::dz 12 (.pv Y13::pI::pI::dz 14 []),[]⟩
def jb6 (b:Z5) (i:Z5) (n:Unit):Z9:=
 (bif !decide ((b.length:Int)=(i.length:Int))then some false else iter (fun l (f,m,h,e,a)=>bif decide (a<e)then oB (idx h a) fun d=>(oB (idx f a) fun c=>oB (jcp N d.1 d.2 c.1 c.2) fun j=>bif !j then some false else if fits (a+1)then l (f,(),h,e,(a+1))else none)else some true) N (i,(),b,(b.length:Int),(0:Int)))
theorem jnG :mK 165 (bX [.pv Y13,.pv Y13,.clo 166 []] [pB] (c3A (jb6 N))):=
 mO (fC (jth N) ja) func165 rfl N (.seq .no (.seq .no (.seq (.seq .no (.block (.loop jlX .no))) .no))) _
def jcz (f:List UInt8) (a:List UInt8) (c:Z5) (h:List UInt8) (d:List UInt8) (b:Z5):Z9:=
 (bif decide (f=h)then bif decide (a=d)then oB (jb6 N c b ()) fun e=>(some e)else(some false)else some false)
theorem jp4 :mK 102 (bX [.agg [pS,pS,.pv Y13],.agg [pS,pS,.pv Y13]] [pB] (c6A (jcz N))):=
 mO (fC (jnG N) ja) func102 rfl N .no _
def jlD :Sh:=⟨.dead:: .pv Y6:: .clo 102 []::dz 12 (.pv Y6::pI::pI::dz 14 []),[]⟩
def jcn (d:List Z2) (i:List Z2) (n:Unit):Z9:=
 (bif !decide ((d.length:Int)=(i.length:Int))then some false else iter (fun l (f,m,h,e,a)=>bif decide (a<e)then oB (idx h a) fun c=>(oB (idx f a) fun b=>oB (jcz N c.1 c.2.1 c.2.2 b.1 b.2.1 b.2.2) fun j=>bif !j then some false else if fits (a+1)then l (f,(),h,e,(a+1))else none)else some true) N (i,(),d,(d.length:Int),(0:Int)))
theorem jsa :mK 101 (bX [.pv Y6,.pv Y6,.clo 102 []] [pB] (c3A (jcn N))):=
 mO (fC (jp4 N) ja) func101 rfl N (.seq .no (.seq .no (.seq (.seq .no (.block (.loop jlD .no))) .no))) _
def i_SegOk_m (c:List Z1) (a:List Z3) (b:List Z0) (i:List Z2):Z9:=
 (oB (jaj N c a) fun e=>bif !e then some false else oB (jbf N b) fun d=>bif !d then some false else oB (i_SegOf_m N c a b) fun f=>oB (jcn N f.2 i ()) fun h=>some h)
theorem joa :mK 40 (bX [.agg [.pv (.sl .str),.pv Y17],.agg [.pv Y4,.pv Y6]] [pB] (c4A (i_SegOk_m N))):=
 mO (fC (jdX N) (fC (jjU N) (fC (jqC N) (fC (jsa N) ja)))) func40 rfl N .no _
def jDT :Sh:=⟨.pv Y22::dz 4 (.pv Y22::pI::pI::dz 24 []),[]⟩
def jx1 (e:List Int):Z9:=
 (iter (fun h (b,c,d,a)=>bif decide (a<d)then oB (idx c a) fun f=>(oB (jm N f 0 999999999) fun j=>bif !j then some false else bif decide ((0:Int)<a)then if fits (a-1)then oB (idx b (a-1)) fun i=>(bif decide (f<=i)then some false else if fits (a+1)then h (b,c,d,(a+1))else none)else none else if fits (a+1)then h (b,c,d,(a+1))else none)else some (decide ((b.length:Int)<=60))) N (e,e,(e.length:Int),(0:Int)))
theorem jAN :mK 104 (bX [.pv Y22] [pB] (c1A (jx1 N))):=
 mO (fC (jY N) ja) func104 rfl N (.seq .no (.seq (.seq .no (.block (.loop jDT .no))) .no)) _
def jqv :Sh:=⟨.dead::pI:: .dead:: .dead:: .box 4 0::dz 6 (.pv Y4::pI::pI::dz 10 []),[(4,false,[pI,.nils,.nils])]⟩
def i_Seg_doc_m (f:(List Z0)×(List Z2)) (h:Int):Option (Int×Z11×Z7×Bool):=
 (iter (fun k (e,c,d,b,j)=>bif decide (b<d)then oB (idx c b) fun a=>(bif decide (a.1=e)then some (a.1,a.2.1,a.2.2,true)else if fits (b+1)then k (e,c,d,(b+1),j)else none)else some (0,([]:Z12),([]:Z8),false)) N (h,f.1,(f.1.length:Int),(0:Int),(0:Int)))
theorem jlU :mK 136 (bX [.ptr Y3,pI] [.tup [.agg [pI,.pv Y20,.pv Y16],pB]] (c2A (i_Seg_doc_m N))):=
 mO ja func136 rfl N (.seq .no (.seq (.seq .no (.block (.loop jqv .no))) .no)) _
def jIP :Sh:=⟨.pv Y22::pI::dz 5 (pI::pI::dz 10 []),[]⟩
def jHJ (e:List Int) (i:Int):Z14:=
 (iter (fun j (d,b,c,a)=>bif decide (a<c)then oB (idx d a) fun f=>(bif decide (b=f)then some a else if fits (a+1)then j (d,b,c,(a+1))else none)else some (-1)) N (e,i,(e.length:Int),(0:Int)))
theorem jJu :mK 168 (bX [.pv Y22,pI] [pI] (c2A (jHJ N))):=
 mO ja func168 rfl N (.seq .no (.seq (.seq .no (.block (.loop jIP .no))) .no)) _
def jHG (c:List Int) (a:Int):Z9:=
 (oB (jHJ N c a) fun b=>some (decide ((0:Int)<=b)))
theorem jIT :mK 105 (bX [.pv Y22,pI] [pB] (c2A (jHG N))):=
 mO (fC (jJu N) ja) func105 rfl N .no _
def jIi :Sh:=⟨.dead:: .box 1 0:: .dead:: .own 600003 Y5 51 false::dz 5 (.pv Y4::pI::pI::dz 15 []),[(1,false,[.pv Y4,.pv Y6,.pv Y22])]⟩
def jHE (e:List Z0) (l:List Z2) (m:List Int):Z20:=
 (iter (fun k (b,f,d,a,j,i,h)=>bif decide (a<d)then oB (idx f a) fun c=>(oB (jHG N h c.1) fun n=>bif !n then if room b.length ([c]:List Z0).length 56 then if fits (a+1)then k ((b++([c]:List Z0)),f,d,(a+1),j,i,h)else none else none else if fits (a+1)then k (b,f,d,(a+1),j,i,h)else none)else some b) N (([]:List Z0),e,(e.length:Int),(0:Int),e,l,m))
theorem jH4 :mK 117 (bX [.agg [.pv Y4,.pv Y6,.pv Y22]] [.own 1 Y5 51 false] (c3A (jHE N))):=
 mO (fC (jIT N) ja) func117 rfl N (.seq .no (.seq .no (.seq (.seq .no (.block (.loop jIi .no))) .no))) _
def jIO :Sh:=⟨dz 3 (.box 3 0::dz 17 (.pv Y22::pI::pI::dz 16 [])),[(3,true,[.pv Y4,.pv Y6,.pv Y22])]⟩
def jHI (o:List Z1) (m:List Z3) (i:List Z0) (h:List Z2) (a:List Int):Z9:=
 (oB (i_SegOk_m N o m i h) fun p=>bif !p then some false else oB (jx1 N a) fun k=>bif !k then some false else iter (fun t (j,e,b,d,c,f)=>bif decide (b<e)then oB (idx j b) fun l=>(oB (i_Seg_doc_m N (d,c) l) fun q=>bif !q.2.2.2 then some false else if fits (b+1)then t (j,e,(b+1),d,c,f)else none)else oB (jHE N d c f) fun n=>some (decide ((0:Int)<n.length))) N (a,(a.length:Int),(0:Int),i,h,a))
theorem jJD :mK 74 (bX [.agg [.pv (.sl .str),.pv Y17],.agg [.pv Y4,.pv Y6,.pv Y22]] [pB] (c5A (jHI N))):=
 mO (fC (joa N) (fC (jAN N) (fC (jlU N) (fC (jH4 N) ja)))) func74 rfl N (.seq .no (.seq .no (.seq (.seq .no (.block (.loop jIO .no))) .no))) _
def k_cmp_isNaN_538_m (N:Nat) (a:Int):Z9:=
 (some (!decide (a=a)))
theorem joK :mK 174 (bX [pI] [pB] (c1A (k_cmp_isNaN_538_m N))):=
 mO ja func174 rfl N .no _
def jxY (a:Int) (b:Int):Z14:=
 (oB (k_cmp_isNaN_538_m N a) fun d=>oB (k_cmp_isNaN_538_m N b) fun c=>bif d then bif c then some 0 else(some (-1))else bif c then some 1 else bif decide (a<b)then some (-1)else bif decide (b<a)then some 1 else some 0)
theorem jpP :mK 113 (bX [pI,pI] [pI] (c2A (jxY N))):=
 mO (fC (joK N) ja) func113 rfl N .no _
def i_allAlive_1_m (b:Int) (d:Z12) (f:Z8) (c:Int) (h:Z12) (e:Z8):Z14:=
 (oB (jxY N b c) fun a=>some a)
theorem jHC :mK 131 (bX [.agg [pI,.pv Y20,.pv Y16],.agg [pI,.pv Y20,.pv Y16]] [pI] (c6A (i_allAlive_1_m N))):=
 mO (fC (jpP N) ja) func131 rfl N .no _
def cmp669 (N:Nat):(Unit)->Z0->Z0->Option Int:=(fun(cmp:Unit) (e e2:Int×Z11×Z7)=>i_allAlive_1_m N e.1 e.2.1 e.2.2 e2.1 e2.2.1 e2.2.2)
def jIw :Sh:=⟨.mtk 800000 Y5 51 false::pI::pI:: .clo 131 []::dz 4 (pI::dz 44 []),[]⟩
def jJn :Sh:=⟨.mtk 800000 Y5 51 false::pI::pI:: .clo 131 []::dz 4 (pI::pI::dz 43 []),[]⟩
def jJk (c:List Z0) (b:Int) (a:Int) (d:Unit):Z20:=insG (cmp669 N) N c b a d
 
theorem jIC :mK 245 (bX [.mtk 800000 Y5 51 false,pI,pI,.clo 131 []] [.tup [],.mtk 800000 Y5 51 false] (c4A (jJk N))):=
 mO (fC (jHC N) ja) func245 rfl N (.seq .no (.block (.loop jIw (.seq .no (.seq (.block (.seq .no (.block (.loop jJn .no)))) .no))))) _ (rs:=[800000])
def jI7 :Sh:=⟨.mtk 800000 Y5 51 false:: .dead::pI::pI:: .clo 131 []::dz 5 (pI::dz 71 []),[]⟩
def jJE :Sh:=⟨.mtk 800000 Y5 51 false:: .dead::pI::pI:: .clo 131 []::dz 5 (pI::pI::dz 70 []),[]⟩
def jJr (c:List Z0) (d:Int) (b:Int) (a:Int) (e:Unit):Z20:=siftG (cmp669 N) N c d b a e
 
theorem jIA :mK 291 (bX [.mtk 800000 Y5 51 false,pI,pI,pI,.clo 131 []] [.tup [],.mtk 800000 Y5 51 false] (c5A (jJr N))):=
 mO (fC (jHC N) ja) func291 rfl N (.seq .no (.block (.loop jI7 (.block (.seq .no (.seq .no (.meet jJE .no .no))))))) _ (rs:=[800000])
def jH9 :Sh:=⟨.mtk 800000 Y5 51 false:: .dead:: .dead:: .clo 131 []::dz 4 (pI::pI::pI::pI::dz 48 []),[]⟩
def jIK :Sh:=⟨.mtk 800000 Y5 51 false:: .dead:: .dead:: .clo 131 []::dz 4 (pI::pI:: .dead:: .dead::pI::dz 47 []),[]⟩
def jIj (c:List Z0) (b:Int) (a:Int) (d:Unit):Z20:=heapG (cmp669 N) N c b a d
 
theorem jJa :mK 246 (bX [.mtk 800000 Y5 51 false,pI,pI,.clo 131 []] [.tup [],.mtk 800000 Y5 51 false] (c4A (jIj N))):=
 mO (fC (jIA N) ja) func246 rfl N (.seq .no (.seq .no (.seq .no (.seq (.seq .no (.block (.loop jH9 .no))) (.seq .no (.block (.loop jIK .no))))))) _ (rs:=[800000])
def jH6 :Sh:=⟨.mtk 800000 Y5 51 false::pI::dz 6 (pI:: .box 9 0:: .pv (.int .u64)::pI::dz 55 []),[(9,false,[.pv (.int .u64)])]⟩
def jJm :Sh:=⟨.mtk 800000 Y5 51 false::pI::dz 6 (pI:: .box 9 0:: .pv (.int .u64)::pI::pI::dz 54 []),[(9,false,[.pv (.int .u64)])]⟩
def jI4 (c:List Z0) (b:Int) (a:Int) (d:Unit):Z20:=breakG N c b a d
 
theorem jIs :mK 247 (bX [.mtk 800000 Y5 51 false,pI,pI,.clo 131 []] [.tup [],.mtk 800000 Y5 51 false] (c4A (jI4 N))):=
 mO (fC (jhv N) (fC (jet N) ja)) func247 rfl N (.seq .no (.seq .no (.cond (.seq .no (.seq .no (.seq .no (.block (.loop jH6 (.seq .no (.seq (.block (.seq .no (.meet jJm .no .no))) .no))))))) .no))) _ (rs:=[800000])
def jJC (d:List Z0) (b:Int) (a:Int) (e:Unit) (c:Int):Option (Int×Int×(List Z0)×Int):=order2G (cmp669 N) N d b a e c
 
theorem jIo :mK 309 ⟨⟨[.mtk 800000 Y5 51 false,pI,pI,.box 900003 0,.clo 131 []],[(900003,false,[pI])]⟩,⟨[.tup [pI,pI],.mtk 800000 Y5 51 false],[(900003,false,[pI])]⟩,c5A (jJC N)⟩:=
 mO (fC (jHC N) ja) func309 rfl N .no _ (rs:=[900003,800000])
def jII (d:List Z0) (b:Int) (a:Int) (e:Int) (f:Unit) (c:Int):Option (Int×(List Z0)×Int):=medianG (cmp669 N) N d b a e f c
 
theorem jHQ :mK 293 ⟨⟨[.mtk 800000 Y5 51 false,pI,pI,pI,.box 900004 0,.clo 131 []],[(900004,false,[pI])]⟩,⟨[pI,.mtk 800000 Y5 51 false],[(900004,false,[pI])]⟩,c6A (jII N)⟩:=
 mO (fC (jIo N) ja) func293 rfl N .no _ (rs:=[900004,800000])
def jIn (c:List Z0) (b:Int) (d:Unit) (a:Int):Option (Int×(List Z0)×Int):=medianAdjacentG (cmp669 N) N c b d a
 
theorem jI9 :mK 292 ⟨⟨[.mtk 800000 Y5 51 false,pI,.box 900002 0,.clo 131 []],[(900002,false,[pI])]⟩,⟨[pI,.mtk 800000 Y5 51 false],[(900002,false,[pI])]⟩,c4A (jIn N)⟩:=
 mO (fC (jHQ N) ja) func292 rfl N .no _ (rs:=[900002,800000])
def jJw :Sh:=⟨.mtk 800000 Y5 51 false:: .dead:: .dead:: .clo 131 []::dz 7 (.box 11 0::pI::pI::pI::dz 48 []),[(11,false,[pI])]⟩
def jI6 :Sh:=⟨.mtk 800000 Y5 51 false::dz 10 (.box 11 0:: .dead::pI::dz 49 []),[(11,false,[pI])]⟩
def jIq (c:List Z0) (b:Int) (a:Int) (d:Unit):Option (Int×Int×(List Z0)):=choosePivotG (cmp669 N) N c b a d
 
theorem jJz :mK 248 (bX [.mtk 800000 Y5 51 false,pI,pI,.clo 131 []] [.tup [pI,pI],.mtk 800000 Y5 51 false] (c4A (jIq N))):=
 mO (fC (jI9 N) (fC (jHQ N) ja)) func248 rfl N (.seq .no (.seq .no (.seq .no (.seq .no (.seq .no (.seq .no (.meet jI6 (.seq .no (.cond (.meet jJw .no .no) .no)) .no))))))) _ (rs:=[800000])
def jJB :Sh:=⟨.mtk 800000 Y5 51 false::dz 7 (pI::pI::dz 24 []),[]⟩
def jJs (c:List Z0) (b:Int) (a:Int) (d:Unit):Z20:=reverseRangeG N c b a d
 
theorem jIk :mK 249 (bX [.mtk 800000 Y5 51 false,pI,pI,.clo 131 []] [.tup [],.mtk 800000 Y5 51 false] (c4A (jJs N))):=
 mO ja func249 rfl N (.seq .no (.seq .no (.block (.loop jJB .no)))) _ (rs:=[800000])
def jHL :Sh:=⟨.mtk 800000 Y5 51 false::pI::pI:: .clo 131 []::dz 5 (pI::pI::dz 130 []),[]⟩
def jJh :Sh:=⟨.mtk 800000 Y5 51 false::pI::pI:: .clo 131 []::dz 5 (pI::pI::pI::dz 129 []),[]⟩
def jIF :Sh:=⟨.mtk 800000 Y5 51 false::pI::pI:: .clo 131 []::dz 5 (pI::pI:: .dead::pI::dz 128 []),[]⟩
def jIx (c:List Z0) (b:Int) (a:Int) (d:Unit):Option (Bool×(List Z0)):=pisG (cmp669 N) N c b a d
 
theorem jI1 :mK 250 (bX [.mtk 800000 Y5 51 false,pI,pI,.clo 131 []] [pB,.mtk 800000 Y5 51 false] (c4A (jIx N))):=
 mO (fC (jHC N) ja) func250 rfl N (.seq .no (.seq .no (.seq (.seq .no (.block (.loop jHL (.seq .no (.seq (.block (.seq (.block (.loop jHL .no)) (.seq .no (.seq .no (.seq .no (.meet jHL (.seq .no (.cond (.seq .no (.block (.loop jJh .no))) .no)) (.seq .no (.cond (.seq .no (.block (.loop jIF .no))) .no)))))))) .no))))) .no))) _ (rs:=[800000])
def jHK :Sh:=⟨.mtk 800000 Y5 51 false::pI:: .dead:: .dead:: .clo 131 []::dz 6 (pI::pI::dz 77 []),[]⟩
def jIh (d:List Z0) (b:Int) (a:Int) (c:Int) (e:Unit):Option (Int×(List Z0)):=peqG (cmp669 N) N d b a c e
 
theorem jH7 :mK 251 (bX [.mtk 800000 Y5 51 false,pI,pI,pI,.clo 131 []] [pI,.mtk 800000 Y5 51 false] (c5A (jIh N))):=
 mO (fC (jHC N) ja) func251 rfl N (.seq .no (.seq .no (.seq .no (.seq (.block (.loop jHK (.block (.seq (.block (.loop jHK .no)) (.seq (.block (.loop jHK .no)) .no))))) .no)))) _ (rs:=[800000])
def jHD :Sh:=⟨.mtk 800000 Y5 51 false::pI:: .dead:: .dead:: .clo 131 []::dz 7 (pI::pI::dz 164 []),[]⟩
def jIZ (d:List Z0) (b:Int) (a:Int) (c:Int) (e:Unit):Option (Int×Bool×(List Z0)):=partG (cmp669 N) N d b a c e
 
theorem jJc :mK 252 (bX [.mtk 800000 Y5 51 false,pI,pI,pI,.clo 131 []] [.tup [pI,pB],.mtk 800000 Y5 51 false] (c5A (jIZ N))):=
 mO (fC (jHC N) ja) func252 rfl N (.seq .no (.seq .no (.seq .no (.seq (.block (.loop jHD .no)) (.seq (.block (.loop jHD .no)) (.seq .no (.seq .no (.seq .no (.seq .no (.seq (.block (.loop jHD (.block (.seq (.block (.loop jHD .no)) (.seq (.block (.loop jHD .no)) .no))))) .no)))))))))) _ (rs:=[800000])
def jIv :Sh:=⟨.mtk 800000 Y5 51 false::pI::pI::pI:: .clo 131 []::dz 5 (pB::pB::dz 136 []),[]⟩
def jIt :Sh:=⟨.mtk 800000 Y5 51 false::pI::pI::pI:: .clo 131 []::dz 5 (pB::pB::pI::pI::dz 134 []),[]⟩
def jIU :Sh:=⟨.mtk 800000 Y5 51 false::pI::pI::pI:: .clo 131 []::dz 5 (pB::pB::pI::pI::pI::dz 133 []),[]⟩
def jID :Sh:=⟨.mtk 800000 Y5 51 false::pI::pI::pI:: .clo 131 []::dz 5 (pB::pB::pI::dz 135 []),[]⟩
def jHN (N D:Nat) (e:List Z0) (a b limit:Int) (h:Unit):Z20:=pdqG (cmp669 N) (fun c a b d=>heapG (cmp669 N) N c a b d) (fun c a b f d=>peqG (cmp669 N) N c a b f d) N D e a b limit h
 
def jHF (N D:Nat):Model:=⟨⟨[.mtk 800000 Y5 51 false,pI,pI,pI,.clo 131 []],[]⟩,⟨[.tup [],.mtk 800000 Y5 51 false],[]⟩,c5A (jHN N D)⟩
theorem jJo (N D:Nat) (ih:mK 185 (jHF N D)):mK 185 (jHF N (D+1)):=
 mO (fC ih (fC (jIC N) (fC (jJa N) (fC (jIs N) (fC (jJz N) (fC (jIk N) (fC (jI1 N) (fC (jHC N) (fC (jH7 N) (fC (jJc N) ja)))))))))) func185 rfl N (.seq .no (.seq .no (.block (.loop jIv (.block (.seq .no (.seq .no (.seq .no (.meet jID .no (.seq .no (.meet jIU .no (.meet jIt .no .no)))))))))))) (jHF N (D+1)) (rs:=[800000])
theorem jHV (N:Nat):∀D,mK 185 (jHF N D)
 |0=>modelOk_none ⟨_,func185,by decide,by kernel_rfl⟩ _ (fun a=>rfl)
 |D+1=>jJo N D (jHV N D)
def k_slices_SortFunc_669_m (a:List Z0) (d:Unit):Z20:=
 (oB (k_math_bits_Len_m N (IntKind.u64.wrap (a.length:Int))) fun c=>oB (jHN N N a 0 (a.length:Int) c ()) fun b=>some b)
theorem jIu :mK 130 (bX [.mtk 800000 Y5 51 false,.clo 131 []] [.tup [],.mtk 800000 Y5 51 false] (c2A (k_slices_SortFunc_669_m N))):=
 mO (fC (jda N) (fC (jHV N N) ja)) func130 rfl N .no _ (rs:=[800000])
def jH5 :Sh:=⟨dz 3 (.mtk 600003 Y5 51 false::dz 3 (.pv Y1::pI::pI::dz 11 [])),[]⟩
def i_allAlive_m (h:List Z4):Z20:=
 (iter (fun k (b,e,f,a)=>bif decide (a<f)then oB (idx e a) fun c=>(oB (jHE N c.1.1 c.1.2 c.2) fun d=>if room b.length d.length 56 then if fits (a+1)then k ((b++d),e,f,(a+1))else none else none)else oB (k_slices_SortFunc_669_m N b ()) fun i=>some i) N (([]:List Z0),h,(h.length:Int),(0:Int)))
theorem jHR :mK 66 (bX [.pv Y1] [.own 1 Y5 51 false] (c1A (i_allAlive_m N))):=
 mO (fC (jH4 N) (fC (jIu N) ja)) func66 rfl N (.seq .no (.seq .no (.seq (.seq .no (.block (.loop jH5 .no))) .no))) _ (wr:=[6,16])
def jIf :Sh:=⟨.dead:: .box 1 0::dz 14 (.pv Y1::pI::pI::dz 13 []),[(1,false,[.pv (.sl .str),.pv Y17,.pv Y1])]⟩
def i_IndexOk_m (d:List Z1) (i:List Z3) (a:List Z4):Z9:=
 (oB (jaj N d i) fun m=>bif !m then some false else bif decide ((5:Int)<a.length)then some false else iter (fun q (e,f,b,h,j,k)=>bif decide (b<f)then oB (idx e b) fun c=>(oB (jHI N h j c.1.1 c.1.2 c.2) fun l=>bif !l then some false else if fits (b+1)then q (e,f,(b+1),h,j,k)else none)else oB (i_allAlive_m N k) fun n=>oB (jbf N n) fun p=>some p) N (a,(a.length:Int),(0:Int),d,i,a))
theorem jIr :mK 19 (bX [.agg [.pv (.sl .str),.pv Y17,.pv Y1]] [pB] (c3A (i_IndexOk_m N))):=
 mO (fC (jdX N) (fC (jJD N) (fC (jHR N) (fC (jjU N) ja)))) func19 rfl N (.seq .no (.seq .no (.seq (.seq .no (.block (.loop jIf .no))) .no))) _
def jM7 :Sh:=⟨.dead:: .dead:: .box 2 0:: .box 3 0::dz 9 (.pv Y17::pI::pI::dz 17 []),[(2,false,[.nils,.nils]),(3,false,[.own 700300 .str 9 true,.own 700301 Y19 117 true])]⟩
def i_cloneConf_m (i:List Z1) (e:List Z3):Option ((List Z1)×(List Z3)):=
 (if room ([]:List Z1).length i.length 16 then iter (fun k (h,f,b,d,c)=>bif decide (b<f)then oB (idx h b) fun a=>(if room ([]:List Z1).length a.1.length 16 then if room c.length ([((([]:List Z1)++a.1),a.2)]:List Z3).length 40 then if fits (b+1)then k (h,f,(b+1),d,(c++([((([]:List Z1)++a.1),a.2)]:List Z3)))else none else none else none)else some (d,c)) N (e,(e.length:Int),(0:Int),(([]:List Z1)++i),([]:List Z3))else none)
theorem jLo :mK 75 (bX [.agg [.pv (.sl .str),.pv Y17]] [.agg [.own 1 .str 9 true,.own 2 Y19 117 true]] (c2A (i_cloneConf_m N))):=
 mO ja func75 rfl N (.seq .no (.seq .no (.seq (.seq .no (.block (.loop jM7 .no))) .no))) _
def jLd :Sh:=⟨.dead:: .dead:: .box 2 0:: .box 3 0::dz 18 (.pv Y6::pI::pI::dz 37 []),[(2,false,[.nils,.nils,.nils]),(3,false,[.own 700300 Y5 51 true,.own 700301 Y7 131 true,.own 700302 tI 3 true])]⟩
def jMw :Sh:=⟨.dead:: .dead:: .box 2 0:: .box 3 0:: .dead:: .box 5 0:: .own 600006 Y14 204 true::dz 15 (.pv Y6::pI::pI::dz 5 (.pv Y13::pI::pI::dz 29 [])),[(2,false,[.nils,.nils,.nils]),(3,false,[.own 700300 Y5 51 true,.own 700301 Y7 131 true,.own 700302 tI 3 true]),(5,false,[pS,pS,.pv Y13])]⟩
def i_cloneLive_m (B:List Z0) (u:List Z2) (v:List Int):Option ((List Z0)×(List Z2)×(List Int)):=
 (oB (jbV N B) fun A=>if room ([]:List Int).length v.length 8 then iter (fun C (o,x,j,m,q,l)=>bif decide (j<x)then oB (idx o j) fun a=>(iter (fun z (c,p,y,h,n,w,d,r,f,t,i,e,D)=>bif decide (d<w)then oB (idx n d) fun b=>(if room ([]:List Int).length b.2.length 8 then if room c.length ([(b.1,(([]:List Int)++b.2))]:Z5).length 32 then if fits (d+1)then z ((c++([(b.1,(([]:List Int)++b.2))]:Z5)),p,y,h,n,w,(d+1),r,f,t,i,e,D)else none else none else none)else if room f.length ([(i,e,c)]:List Z2).length 56 then if fits (h+1)then C (p,y,(h+1),r,(f++([(i,e,c)]:List Z2)),t)else none else none) N (([]:Z5),o,x,j,a.2.2,(a.2.2.length:Int),(0:Int),m,q,l,a.1,a.2.1,a.2.2))else some (m,q,l)) N (u,(u.length:Int),(0:Int),A,([]:List Z2),(([]:List Int)++v))else none)
theorem jLF :mK 116 (bX [.agg [.pv Y4,.pv Y6,.pv Y22]] [.agg [.own 1 Y5 51 true,.own 2 Y7 131 true,.own 3 tI 3 true]] (c3A (i_cloneLive_m N))):=
 mO (fC (joC N) ja) func116 rfl N (.seq .no (.seq .no (.seq (.seq .no (.block (.loop jLd (.seq .no (.seq .no (.seq (.block (.seq .no (.seq .no (.seq (.seq .no (.block (.loop jMw .no))) .no)))) .no)))))) .no))) _
def jM3 :Sh:=⟨.dead:: .dead:: .box 2 0:: .box 3 0::dz 8 (.pv Y1::pI::pI::dz 12 []),[(2,false,[.nils,.nils,.nils]),(3,false,[.own 700300 .str 9 true,.own 700301 Y19 117 true,.own 700302 Y2 99 true])]⟩
def i_cloneIndex_m (l:List Z1) (m:List Z3) (h:List Z4):Option ((List Z1)×(List Z3)×(List Z4)):=
 (oB (i_cloneConf_m N l m) fun i=>iter (fun o (f,j,b,e,k,c)=>bif decide (b<j)then oB (idx f b) fun d=>(oB (i_cloneLive_m N d.1.1 d.1.2 d.2) fun a=>if room c.length ([((a.1,a.2.1),a.2.2)]:List Z4).length 72 then if fits (b+1)then o (f,j,(b+1),e,k,(c++([((a.1,a.2.1),a.2.2)]:List Z4)))else none else none)else some (e,k,c)) N (h,(h.length:Int),(0:Int),i.1,i.2,([]:List Z4)))
theorem jLT :mK 53 (bX [.agg [.pv (.sl .str),.pv Y17,.pv Y1]] [.agg [.own 1 .str 9 true,.own 2 Y19 117 true,.own 3 Y2 99 true]] (c3A (i_cloneIndex_m N))):=
 mO (fC (jLo N) (fC (jLF N) ja)) func53 rfl N (.seq .no (.seq .no (.seq (.seq .no (.block (.loop jM3 .no))) .no))) _
def jRw :Sh:=⟨dz 3 (.own 600003 tI 3 true::dz 3 (.pv Y4::pI::pI::dz 10 [])),[]⟩
def i_idsOf_m (d:List Z0):Z17:=
 (iter (fun i (b,e,f,a)=>bif decide (a<f)then oB (idx e a) fun c=>(if room b.length ([c.1]:List Int).length 8 then if fits (a+1)then i ((b++([c.1]:List Int)),e,f,(a+1))else none else none)else some b) N (([]:List Int),d,(d.length:Int),(0:Int)))
theorem jQ8 :mK 55 (bX [.pv Y4] [.own 1 tI 3 true] (c1A (i_idsOf_m N))):=
 mO ja func55 rfl N (.seq .no (.seq .no (.seq (.seq .no (.block (.loop jRw .no))) .no))) _
def jLs :Sh:=⟨.mtk 800000 tI 3 true::pI::dz 5 (pI::pI::dz 10 []),[]⟩
def k_slices_Index_484_v2_m (e:List Int) (i:Int):Option (Int×(List Int)):=
 (iter (fun j (b,c,d,a)=>bif decide (a<d)then if 0<=a/\a<(b.length:Int)then oB (b[a.toNat]?) fun f=>(bif decide (c=f)then some (a,b)else if fits (a+1)then j (b,c,d,(a+1))else none)else none else some ((-1),b)) N (e,i,(e.length:Int),(0:Int)))
theorem jLH :mK 168 (bX [.mtk 800000 tI 3 true,pI] [pI,.mtk 800000 tI 3 true] (c2A (k_slices_Index_484_v2_m N))):=
 mO ja func168 rfl N (.seq .no (.seq (.seq .no (.block (.loop jLs .no))) .no)) _ (rs:=[800000])
def k_slices_Contains_735_v2_m (c:List Int) (b:Int):Option (Bool×(List Int)):=
 (oB (k_slices_Index_484_v2_m N c b) fun a=>some ((decide ((0:Int)<=a.1)),a.2))
theorem jLe :mK 105 (bX [.mtk 800000 tI 3 true,pI] [pB,.mtk 800000 tI 3 true] (c2A (k_slices_Contains_735_v2_m N))):=
 mO (fC (jLH N) ja) func105 rfl N .no _ (rs:=[800000])
def jMu :Sh:=⟨.dead:: .box 1 0:: .dead:: .own 600003 Y5 51 false::dz 5 (.pv Y4::pI::pI::dz 15 []),[(1,false,[.pv Y4,.pv Y6,.mtk 800002 tI 3 true])]⟩
def i_Live_alive_v2_m (f:List Z0) (m:List Z2) (n:List Int):Option ((List Z0)×(List Int)):=
 (iter (fun k (b,h,d,a,j,i,l)=>bif decide (a<d)then oB (idx h a) fun c=>(oB (k_slices_Contains_735_v2_m N l c.1) fun e=>bif !e.1 then if room b.length ([c]:List Z0).length 56 then if fits (a+1)then k ((b++([c]:List Z0)),h,d,(a+1),j,i,e.2)else none else none else if fits (a+1)then k (b,h,d,(a+1),j,i,e.2)else none)else some (b,l)) N (([]:List Z0),f,(f.length:Int),(0:Int),f,m,n))
theorem jLZ :mK 117 (bX [.agg [.pv Y4,.pv Y6,.mtk 800002 tI 3 true]] [.own 1 Y5 51 false,.mtk 800002 tI 3 true] (c3A (i_Live_alive_v2_m N))):=
 mO (fC (jLe N) ja) func117 rfl N (.seq .no (.seq .no (.seq (.seq .no (.block (.loop jMu .no))) .no))) _ (rs:=[800002])
def k_cmp_Less_67_m (a:Int) (b:Int):Z9:=
 (oB (k_cmp_isNaN_538_m N a) fun d=>bif d then oB (k_cmp_isNaN_538_m N b) fun c=>(bif !c then some true else some (decide (a<b)))else some (decide (a<b)))
theorem jA5 :mK 229 (bX [pI,pI] [pB] (c2A (k_cmp_Less_67_m N))):=
 mO (fC (joK N) ja) func229 rfl N .no _
def jMa :Sh:=⟨.mtk 800000 tI 3 true::pI::pI::dz 3 (pI::dz 42 []),[]⟩
def jMW :Sh:=⟨.mtk 800000 tI 3 true::pI::pI::dz 3 (pI::pI::dz 41 []),[]⟩
def jKD (o:List Int) (f:Int) (p:Int):Z17:=
 (if fits (f+1)then iter (fun l (m,t,k,j)=>bif decide (j<k)then iter (fun q (b,d,h,c,a)=>bif decide (d<a)then if 0<=a/\a<(b.length:Int)then oB (b[a.toNat]?) fun n=>(if fits (a-1)then if 0<=(a-1)/\(a-1)<(b.length:Int)then oB (b[(a-1).toNat]?) fun r=>(oB (k_cmp_Less_67_m N n r) fun u=>bif u then if fits (a-1)then if fits (a-1)then if 0<=(a-1)/\(a-1)<(b.length:Int)then oB (b[(a-1).toNat]?) fun e=>(if 0<=a/\a<(b.length:Int)then oB (b[a.toNat]?) fun v=>(if 0<=a/\a<(b.length:Int)then oB (b[a.toNat]?) fun w=>(if 0<=(a-1)/\(a-1)<((b.set a.toNat e).length:Int)then oB ((b.set a.toNat e)[(a-1).toNat]?) fun x=>(if fits (a-1)then q (((b.set a.toNat e).set (a-1).toNat v),d,h,c,(a-1))else none)else none)else none)else none)else none else none else none else if fits (c+1)then l (b,d,h,(c+1))else none)else none else none)else none else if fits (c+1)then l (b,d,h,(c+1))else none) N (m,t,k,j,j)else some m) N (o,f,p,(f+1))else none)
theorem jMr :mK 223 (bX [.mtk 800000 tI 3 true,pI,pI] [.tup [],.mtk 800000 tI 3 true] (c3A (jKD N))):=
 mO (fC (jA5 N) ja) func223 rfl N (.seq .no (.block (.loop jMa (.seq .no (.seq (.block (.seq .no (.block (.loop jMW .no)))) .no))))) _ (rs:=[800000])
def jLj :Sh:=⟨.mtk 800000 tI 3 true:: .dead::pI::pI::dz 4 (pI::dz 67 []),[]⟩
def jMO :Sh:=⟨.mtk 800000 tI 3 true:: .dead::pI::pI::dz 4 (pI::pI::dz 66 []),[]⟩
def jKh (p:List Int) (q:Int) (u:Int) (r:Int):Z17:=
 (iter (fun x (h,i,f,b)=>if fits (2*b)then if fits ((2*b)+1)then bif decide (i<=((2*b)+1))then some h else(meet (fun(l:Z15)=>match l with|(e,y,a,c,d)=>if fits (a+c)then if 0<=(a+c)/\(a+c)<(e.length:Int)then oB (e[(a+c).toNat]?) fun n=>(if fits (a+d)then if 0<=(a+d)/\(a+d)<(e.length:Int)then oB (e[(a+d).toNat]?) fun z=>(oB (k_cmp_Less_67_m N n z) fun m=>bif !m then some e else if fits (a+c)then if fits (a+d)then if fits (a+d)then if 0<=(a+d)/\(a+d)<(e.length:Int)then oB (e[(a+d).toNat]?) fun k=>(if fits (a+c)then if 0<=(a+c)/\(a+c)<(e.length:Int)then oB (e[(a+c).toNat]?) fun w=>(if 0<=(a+c)/\(a+c)<(e.length:Int)then oB (e[(a+c).toNat]?) fun A=>(if 0<=(a+d)/\(a+d)<((e.set (a+c).toNat k).length:Int)then oB ((e.set (a+c).toNat k)[(a+d).toNat]?) fun B=>(x (((e.set (a+c).toNat k).set (a+d).toNat w),y,a,d))else none)else none)else none else none)else none else none else none else none)else none else none)else none else none) fun j=>if fits (((2*b)+1)+1)then bif decide ((((2*b)+1)+1)<i)then if fits (f+((2*b)+1))then if 0<=(f+((2*b)+1))/\(f+((2*b)+1))<(h.length:Int)then oB (h[(f+((2*b)+1)).toNat]?) fun o=>(if fits (f+((2*b)+1))then if fits ((f+((2*b)+1))+1)then if 0<=((f+((2*b)+1))+1)/\((f+((2*b)+1))+1)<(h.length:Int)then oB (h[((f+((2*b)+1))+1).toNat]?) fun t=>(oB (k_cmp_Less_67_m N o t) fun v=>bif v then if fits (((2*b)+1)+1)then j (h,i,f,b,(((2*b)+1)+1))else none else j (h,i,f,b,((2*b)+1)))else none else none else none)else none else none else(j (h,i,f,b,((2*b)+1)))else none)else none else none) N (p,u,r,q))
theorem jMR :mK 274 (bX [.mtk 800000 tI 3 true,pI,pI,pI] [.tup [],.mtk 800000 tI 3 true] (c4A (jKh N))):=
 mO (fC (jA5 N) ja) func274 rfl N (.seq .no (.block (.loop jLj (.block (.seq .no (.seq .no (.meet jMO .no .no))))))) _ (rs:=[800000])
def jNf :Sh:=⟨.mtk 800000 tI 3 true::dz 5 (pI::pI::pI::pI::dz 46 []),[]⟩
def jNc :Sh:=⟨.mtk 800000 tI 3 true::dz 5 (pI::pI:: .dead:: .dead::pI::dz 45 []),[]⟩
def jKw (p:List Int) (d:Int) (e:Int):Z17:=
 (if fits (e-d)then if fits ((e-d)-1)then if 2≠0 then if fits (((e-d)-1).tdiv 2)then iter (fun q (n,j,l,f,h)=>bif decide ((0:Int)<=h)then oB (jKh N n h f j) fun u=>(if fits (h-1)then q (u,j,l,f,(h-1))else none)else if fits (f-1)then iter (fun r (c,a,m,b)=>bif decide ((0:Int)<=b)then if fits (a+b)then if fits (a+b)then if 0<=(a+b)/\(a+b)<(c.length:Int)then oB (c[(a+b).toNat]?) fun i=>(if 0<=a/\a<(c.length:Int)then oB (c[a.toNat]?) fun t=>(if 0<=a/\a<(c.length:Int)then oB (c[a.toNat]?) fun v=>(if 0<=(a+b)/\(a+b)<((c.set a.toNat i).length:Int)then oB ((c.set a.toNat i)[(a+b).toNat]?) fun w=>(oB (jKh N ((c.set a.toNat i).set (a+b).toNat t) m b a) fun o=>if fits (b-1)then r (o,a,m,(b-1))else none)else none)else none)else none)else none else none else none else some c) N (n,j,l,(f-1))else none) N (p,d,(0:Int),(e-d),(((e-d)-1).tdiv 2))else none else none else none else none)
theorem jLI :mK 224 (bX [.mtk 800000 tI 3 true,pI,pI] [.tup [],.mtk 800000 tI 3 true] (c3A (jKw N))):=
 mO (fC (jMR N) ja) func224 rfl N (.seq .no (.seq .no (.seq .no (.seq (.seq .no (.block (.loop jNf .no))) (.seq .no (.block (.loop jNc .no))))))) _ (rs:=[800000])
def jKY :Sh:=⟨.mtk 800000 tI 3 true::pI::dz 4 (pI:: .box 7 0:: .pv (.int .u64)::pI::dz 55 []),[(7,false,[.pv (.int .u64)])]⟩
def jMt :Sh:=⟨.mtk 800000 tI 3 true::pI::dz 4 (pI:: .box 7 0:: .pv (.int .u64)::pI::pI::dz 54 []),[(7,false,[.pv (.int .u64)])]⟩
def jKH (q:List Int) (a:Int) (d:Int):Z17:=
 (if fits (d-a)then bif decide ((8:Int)<=(d-a))then oB (k_slices_nextPowerOfTwo_m N (d-a)) fun w=>(if 4≠0 then if fits ((d-a).tdiv 4)then if fits (((d-a).tdiv 4)*2)then if fits (a+(((d-a).tdiv 4)*2))then if fits ((a+(((d-a).tdiv 4)*2))-1)then iter (fun x (m,k,e,j,n,t)=>if 4≠0 then if fits (e.tdiv 4)then if fits ((e.tdiv 4)*2)then if fits (k+((e.tdiv 4)*2))then if fits ((k+((e.tdiv 4)*2))+1)then bif decide (n<=((k+((e.tdiv 4)*2))+1))then oB (k__slices_xorshift_Next_m N t) fun i=>(meet (fun(o:(List Int)×Int×Int×Int×Int×Int×Int)=>match o with|(h,c,y,r,b,f,v)=>if fits (c+f)then if fits (c+f)then if 0<=(c+f)/\(c+f)<(h.length:Int)then oB (h[(c+f).toNat]?) fun l=>(if 0<=b/\b<(h.length:Int)then oB (h[b.toNat]?) fun u=>(if 0<=b/\b<(h.length:Int)then oB (h[b.toNat]?) fun z=>(if 0<=(c+f)/\(c+f)<((h.set b.toNat l).length:Int)then oB ((h.set b.toNat l)[(c+f).toNat]?) fun A=>(if fits (b+1)then x (((h.set b.toNat l).set (c+f).toNat u),c,y,r,(b+1),v)else none)else none)else none)else none)else none else none else none) fun p=>bif decide (e<=(IntKind.i64.wrap (bitsI .and .u64 i.1 (IntKind.u64.wrap (j-1)))))then if fits ((IntKind.i64.wrap (bitsI .and .u64 i.1 (IntKind.u64.wrap (j-1))))-e)then p (m,k,e,j,n,((IntKind.i64.wrap (bitsI .and .u64 i.1 (IntKind.u64.wrap (j-1))))-e),i.2)else none else p (m,k,e,j,n,(IntKind.i64.wrap (bitsI .and .u64 i.1 (IntKind.u64.wrap (j-1)))),i.2))else(some m)else none else none else none else none else none) N (q,a,(d-a),w,((a+(((d-a).tdiv 4)*2))-1),(IntKind.u64.wrap (d-a)))else none else none else none else none else none)else(some q)else none)
theorem jMF :mK 225 (bX [.mtk 800000 tI 3 true,pI,pI] [.tup [],.mtk 800000 tI 3 true] (c3A (jKH N))):=
 mO (fC (jhv N) (fC (jet N) ja)) func225 rfl N (.seq .no (.seq .no (.cond (.seq .no (.seq .no (.seq .no (.block (.loop jKY (.seq .no (.seq (.block (.seq .no (.meet jMt .no .no))) .no))))))) .no))) _ (rs:=[800000])
def jJ7 (a:List Int) (c:Int) (b:Int) (d:Int):Option (Int×Int×(List Int)×Int):=
 (if 0<=b/\b<(a.length:Int)then oB (a[b.toNat]?) fun f=>(if 0<=c/\c<(a.length:Int)then oB (a[c.toNat]?) fun e=>(oB (k_cmp_Less_67_m N f e) fun h=>bif h then if fits (d+1)then some (b,c,a,(d+1))else none else some (c,b,a,d))else none)else none)
theorem jLg :mK 304 ⟨⟨[.mtk 800000 tI 3 true,pI,pI,.box 900003 0],[(900003,false,[pI])]⟩,⟨[.tup [pI,pI],.mtk 800000 tI 3 true],[(900003,false,[pI])]⟩,c4A (jJ7 N)⟩:=
 mO (fC (jA5 N) ja) func304 rfl N .no _ (rs:=[900003,800000])
end Go.Proofs.YtchgdmmcjgmfcaaGreatDoor
