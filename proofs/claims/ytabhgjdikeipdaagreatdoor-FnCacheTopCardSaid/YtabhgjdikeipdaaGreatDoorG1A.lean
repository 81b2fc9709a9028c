import Derived.Test.YtabhgjdikeipdaaGreatDoorSJ
import Derived.Test.YtabhgjdikeipdaaGreatDoorSN
set_option linter.unusedVariables false
set_option linter.unusedSimpArgs false
namespace Go.Proofs.YtabhgjdikeipdaaGreatDoor
open Go.RowKit Go.Proofs.Tryz
variable (N : Nat)
open Option renaming bind -> oB
set_option maxRecDepth 1000000
abbrev Z0 :Type:=Int×(List ((List UInt8)×(List UInt8)))×(List ((List UInt8)×Int))
abbrev Z1 :Type:=(List UInt8)×(List UInt8)×(List (Int×(List Int)))
abbrev Z2 :Type:=List UInt8
abbrev Z3 :Type:=((List Z0)×(List Z1))×(List Int)
abbrev Z4 :Type:=Z2×(List (Int×Int))
abbrev Z5 :Type:=(List Z2)×Z2
abbrev Z6 :Type:=List (Int×Int)
abbrev Z7 :Type:=List (Int×(List Int))
abbrev Z8 :Type:=List (Z2×Int)
abbrev Z9 :Type:=Option (Bool)
abbrev Z10 :Type:=List (Z2×Int)
abbrev Z11 :Type:=List (Int×Int)
abbrev Z12 :Type:=Z2×Int×Int×Int
abbrev Z13 :Type:=List (Z2×Z2)
abbrev Z14 :Type:=Option (Int)
abbrev Z15 :Type:=((List Z2)×(List Z5))×(List Z0)×(List Z1)
abbrev Z16 :Type:=List (Z2×Z2)
abbrev Z17 :Type:=List (Int×(List Int))
abbrev Z18 :Type:=List (List Int)
abbrev Z19 :Type:=Option ((List Z0))
abbrev Z20 :Type:=Option ((List Z2)×(List Z5)×(List Z3)×Bool)
abbrev Z21 :Type:=Option (Int×Int×(List Z4)×Z11×Bool)
abbrev Z22 :Type:=Z2×Z2×(List Int)×Int×Int×Int
abbrev Z23 :Type:=Int×Int×Z2×(List Z2)×Int×Int×(List DQ)×Bool×Int×Int×Int×Int×Bool×Int×Int
abbrev bX (a r:List VS) (f:HD (Sh.codes ⟨a,[]⟩)->Option (HD (Sh.codes ⟨r,[]⟩))):Model:=⟨⟨a,[]⟩,⟨r,[]⟩,f⟩
abbrev mK :=ModelOk Tryz.prog
theorem mO {l:List (Nat×Model)} (hl:jR Tryz.prog l) {f:FuncId} {fn:Func} {c:Code} (hf:Tryz.prog.funcs[f]? =some fn) (hbody:fn.body=some c) (N:Nat) (h:Hint) (m:Model) (wr rs dw:List Nat:=[])
  (hname:(fn.name== "runtime.NumGoroutine")=false:=by kernel_rfl) (hres:m.arg.names.all (jbC l wr rs dw).res=true:=by kernel_rfl) (hlen:Nat.ble m.arg.vals.length fn.ntmps=true:=by kernel_rfl)
  (hrun:∀a,m.run a=runF N (jbC l wr rs dw) okDraw fn c h m.arg m.ret a:=by intro a;kernel_rfl):ModelOk Tryz.prog f m:=modelOk_of (E:=jbC l wr rs dw) (jtQ hl wr rs dw) hf hname hbody N h m hres hlen hrun
theorem fC {k:Nat} {m:Model} {l:List (Nat×Model)} (h:ModelOk Tryz.prog k m) (hl:jR Tryz.prog l):jR Tryz.prog ((k,m)::l):=jsH h hl
abbrev pI :VS:=.pv (.int .i64)
abbrev pS :VS:=.pv .str
abbrev pB :VS:=.pv .bool
abbrev tI :Tp:=.int .i64
abbrev c1A {α ρ:Type} (f:α->ρ) (a:α):ρ:=f a
abbrev c2A {α0 α1 ρ:Type} (f:α0->α1->ρ) (a:α0×α1):ρ:=f a.1 a.2
abbrev c3A {α0 α1 α2 ρ:Type} (f:α0->α1->α2->ρ) (a:α0×α1×α2):ρ:=f a.1 a.2.1 a.2.2
abbrev c4A {α0 α1 α2 α3 ρ:Type} (f:α0->α1->α2->α3->ρ) (a:α0×α1×α2×α3):ρ:=f a.1 a.2.1 a.2.2.1 a.2.2.2
abbrev c5A {α0 α1 α2 α3 α4 ρ:Type} (f:α0->α1->α2->α3->α4->ρ) (a:α0×α1×α2×α3×α4):ρ:=f a.1 a.2.1 a.2.2.1 a.2.2.2.1 a.2.2.2.2
abbrev c6A {α0 α1 α2 α3 α4 α5 ρ:Type} (f:α0->α1->α2->α3->α4->α5->ρ) (a:α0×α1×α2×α3×α4×α5):ρ:=f a.1 a.2.1 a.2.2.1 a.2.2.2.1 a.2.2.2.2.1 a.2.2.2.2.2
abbrev c7A {α0 α1 α2 α3 α4 α5 α6 ρ:Type} (f:α0->α1->α2->α3->α4->α5->α6->ρ) (a:α0×α1×α2×α3×α4×α5×α6):ρ:=f a.1 a.2.1 a.2.2.1 a.2.2.2.1 a.2.2.2.2.1 a.2.2.2.2.2.1 a.2.2.2.2.2.2
abbrev c9A {α0 α1 α2 α3 α4 α5 α6 α7 α8 ρ:Type} (f:α0->α1->α2->α3->α4->α5->α6->α7->α8->ρ) (a:α0×α1×α2×α3×α4×α5×α6×α7×α8):ρ:=f a.1 a.2.1 a.2.2.1 a.2.2.2.1 a.2.2.2.2.1 a.2.2.2.2.2.1 a.2.2.2.2.2.2.1 a.2.2.2.2.2.2.2.1 a.2.2.2.2.2.2.2.2
abbrev c10A {α0 α1 α2 α3 α4 α5 α6 α7 α8 α9 ρ:Type} (f:α0->α1->α2->α3->α4->α5->α6->α7->α8->α9->ρ) (a:α0×α1×α2×α3×α4×α5×α6×α7×α8×α9):ρ:=f a.1 a.2.1 a.2.2.1 a.2.2.2.1 a.2.2.2.2.1 a.2.2.2.2.2.1 a.2.2.2.2.2.2.1 a.2.2.2.2.2.2.2.1 a.2.2.2.2.2.2.2.2.1 a.2.2.2.2.2.2.2.2.2
abbrev c11A {α0 α1 α2 α3 α4 α5 α6 α7 α8 α9 α10 ρ:Type} (f:α0->α1->α2->α3->α4->α5->α6->α7->α8->α9->α10->ρ) (a:α0×α1×α2×α3×α4×α5×α6×α7×α8×α9×α10):ρ:=f a.1 a.2.1 a.2.2.1 a.2.2.2.1 a.2.2.2.2.1 a.2.2.2.2.2.1 a.2.2.2.2.2.2.1 a.2.2.2.2.2.2.2.1 a.2.2.2.2.2.2.2.2.1 a.2.2.2.2.2.2.2.2.2.1 a.2.2.2.2.2.2.2.2.2.2
abbrev c13A {α0 α1 α2 α3 α4 α5 α6 α7 α8 α9 α10 α11 α12 ρ:Type} (f:α0->α1->α2->α3->α4->α5->α6->α7->α8->α9->α10->α11->α12->ρ) (a:α0×α1×α2×α3×α4×α5×α6×α7×α8×α9×α10×α11×α12):ρ:=f a.1 a.2.1 a.2.2.1 a.2.2.2.1 a.2.2.2.2.1 a.2.2.2.2.2.1 a.2.2.2.2.2.2.1 a.2.2.2.2.2.2.2.1 a.2.2.2.2.2.2.2.2.1 a.2.2.2.2.2.2.2.2.2.1 a.2.2.2.2.2.2.2.2.2.2.1 a.2.2.2.2.2.2.2.2.2.2.2.1 a.2.2.2.2.2.2.2.2.2.2.2.2
def dz :Nat->List VS->List VS
 |0,l=>l
 |n+1,l=>.dead::dz n l
abbrev Y25 :Tp:=.sl tI
abbrev Y24 :Tp:=.pair .str .str
abbrev Y23 :Tp:=.sl (.pair .str .str)
abbrev Y22 :Tp:=.pair (.sl .str) .str
abbrev Y21 :Tp:=.pair .str tI
abbrev Y20 :Tp:=.sl (.pair (.sl .str) .str)
abbrev Y19 :Tp:=.sl (.pair .str tI)
abbrev Y18 :Tp:=.pair tI tI
abbrev Y17 :Tp:=.sl (.pair tI tI)
abbrev Y16 :Tp:=.pair tI (.sl tI)
abbrev Y15 :Tp:=.sl (.pair tI (.sl tI))
abbrev Y13 :Tp:=.pair .str (.sl (.pair tI tI))
abbrev Y11 :Tp:=.sl (.pair .str (.sl (.pair tI tI)))
abbrev Y8 :Tp:=.pair .str (.pair tI (.pair tI tI))
abbrev Y7 :Tp:=.pair .str (.pair .str (.sl (.pair tI (.sl tI))))
abbrev Y6 :Tp:=.sl (.pair .str (.pair .str (.sl (.pair tI (.sl tI)))))
abbrev Y5 :Tp:=.pair tI (.pair (.sl (.pair .str .str)) (.sl (.pair .str tI)))
abbrev Y4 :Tp:=.sl (.pair tI (.pair (.sl (.pair .str .str)) (.sl (.pair .str tI))))
abbrev Y3 :Tp:=.pair (.sl (.pair tI (.pair (.sl (.pair .str .str)) (.sl (.pair .str tI))))) (.sl (.pair .str (.pair .str (.sl (.pair tI (.sl tI))))))
abbrev Y2 :Tp:=.pair (.pair (.sl (.pair tI (.pair (.sl (.pair .str .str)) (.sl (.pair .str tI))))) (.sl (.pair .str (.pair .str (.sl (.pair tI (.sl tI))))))) (.sl tI)
abbrev Y1 :Tp:=.sl (.pair (.pair (.sl (.pair tI (.pair (.sl (.pair .str .str)) (.sl (.pair .str tI))))) (.sl (.pair .str (.pair .str (.sl (.pair tI (.sl tI))))))) (.sl tI))
abbrev Y0 :Tp:=.pair (.pair (.sl .str) (.sl (.pair (.sl .str) .str))) (.pair (.sl (.pair tI (.pair (.sl (.pair .str .str)) (.sl (.pair .str tI))))) (.sl (.pair .str (.pair .str (.sl (.pair tI (.sl tI)))))))
def jt0 (N:Nat) (a:List Int):Option ((List Int)×Int):=
 (bif decide ((2000:Int)<a.length)then oB (cut a 0 2000) fun b=>(some (b,0))else some (a,0))
theorem juQ :mK 38 ⟨⟨[.pv (.sl (.int .u8))],[]⟩,⟨[.box 10 0],[(10,false,[.pv (.sl (.int .u8)),pI])]⟩,c1A (jt0 N)⟩:=
 mO ja func38 rfl N .no _
def jtW (N:Nat) (e:Int) (b:List Int) (a:Int):Option (Int×(List Int)×Int):=
 (if fits (a+1)then bif decide (e<1)then some (0,b,(a+1))else(bif decide ((b.length:Int)=0)then some (0,b,(a+1))else if fits ((a+1)-1)then bif decide (((a+1)-1)<(b.length:Int))then oB (idx b ((a+1)-1)) fun f=>(if e≠0 then some (((IntKind.i64.wrap f).tmod e),b,(a+1))else none)else(if(b.length:Int)≠0 then oB (idx b (((a+1)-1).tmod (b.length:Int))) fun d=>(if fits ((IntKind.i64.wrap d)*131)then if fits (((a+1)-1)*7)then if fits ((((a+1)-1)*7)+3)then if(b.length:Int)≠0 then oB (idx b (((((a+1)-1)*7)+3).tmod (b.length:Int))) fun c=>(if fits ((IntKind.i64.wrap c)*1117)then if fits (((IntKind.i64.wrap d)*131)+((IntKind.i64.wrap c)*1117))then if fits (((a+1)-1)*29)then if fits ((((IntKind.i64.wrap d)*131)+((IntKind.i64.wrap c)*1117))+(((a+1)-1)*29))then if(b.length:Int)≠0 then if fits (((a+1)-1).tdiv (b.length:Int))then if fits ((((a+1)-1).tdiv (b.length:Int))*53)then if fits (((((IntKind.i64.wrap d)*131)+((IntKind.i64.wrap c)*1117))+(((a+1)-1)*29))+((((a+1)-1).tdiv (b.length:Int))*53))then if 64≠0 then if fits ((((((IntKind.i64.wrap d)*131)+((IntKind.i64.wrap c)*1117))+(((a+1)-1)*29))+((((a+1)-1).tdiv (b.length:Int))*53)).tdiv 64)then if e≠0 then some (((bitsI .xor .i64 (((((IntKind.i64.wrap d)*131)+((IntKind.i64.wrap c)*1117))+(((a+1)-1)*29))+((((a+1)-1).tdiv (b.length:Int))*53)) ((((((IntKind.i64.wrap d)*131)+((IntKind.i64.wrap c)*1117))+(((a+1)-1)*29))+((((a+1)-1).tdiv (b.length:Int))*53)).tdiv 64)).tmod e),b,(a+1))else none else none else none else none else none else none else none else none else none else none else none)else none else none else none else none)else none)else none)else none)
theorem jtX :mK 63 ⟨⟨[.box 900000 0,pI],[(900000,false,[.pv (.sl (.int .u8)),pI])]⟩,⟨[pI],[(900000,false,[.pv (.sl (.int .u8)),pI])]⟩,c3A (jtW N)⟩:=
 mO ja func63 rfl N .no _ (rs:=[900000])
def s_l1In_m (N:Nat) (a:Int) (b:Int) (c:Int):Z9:=
 (bif decide (b<=a)then some (decide (a<=c))else some false)
theorem jcL :mK 46 (bX [pI,pI,pI] [pB] (c3A (s_l1In_m N))):=
 mO ja func46 rfl N .no _
def s_CacheNew_m (a:Int):Option (Int×Int):=
 (oB (s_l1In_m N a 1 5) fun b=>bif !b then some (0,0)else some (a,0))
theorem jOV :mK 62 (bX [pI] [.agg [pI,pI,.nils]] (c1A (s_CacheNew_m N))):=
 mO (fC (jcL N) ja) func62 rfl N .no _
def juL :Sh:=⟨.box 900000 0:: .dead:: .box 2 0:: .box 3 0::dz 30 [],[(2,false,[.nils,.nils]),(3,false,[.own 13 .str 9 true,.nils]),(900000,false,[.pv (.sl (.int .u8)),pI])]⟩
def juw :Sh:=⟨.box 900000 0:: .dead:: .box 2 0:: .box 3 0::dz 30 [],[(2,false,[.nils,.nils]),(3,false,[.own 8 .str 9 true,.nils]),(900000,false,[.pv (.sl (.int .u8)),pI])]⟩
def s_l30Conf_m (o:List Int) (l:Int):Option ((List Z2)×(List Z5)×(List Int)×Int):=
 (meet (fun(d:(List Z2)×(List Int)×Int)=>match d with|(j,k,n)=>meet (fun(d:(List Z2)×(List Int)×Int)=>match d with|(e,m,i)=>oB (jtW N 4 m i) fun a=>bif decide (a.1=0)then some (e,([(([([110,101,119]:List UInt8),([121,111,114,107]:List UInt8)]:List Z2),([110,121]:List UInt8))]:List Z5),a.2.1,a.2.2)else bif decide (a.1=1)then some (e,([(([([98,105,103]:List UInt8)]:List Z2),([108,97,114,103]:List UInt8)),(([([98,105,103]:List UInt8),([114,101,100]:List UInt8),([102,111,120]:List UInt8)]:List Z2),([102,111,120]:List UInt8)),(([([110,101,119]:List UInt8),([121,111,114,107]:List UInt8)]:List Z2),([110,121]:List UInt8))]:List Z5),a.2.1,a.2.2)else some (e,([]:List Z5),a.2.1,a.2.2)) fun h=>oB (jtW N 4 k n) fun b=>bif decide (b.1=0)then h (([([100,111,103]:List UInt8),([116,104,101]:List UInt8)]:List Z2),b.2.1,b.2.2)else h (j,b.2.1,b.2.2)) fun f=>oB (jtW N 3 o l) fun c=>bif decide ((0:Int)<c.1)then f (([([116,104,101]:List UInt8)]:List Z2),c.2.1,c.2.2)else f (([]:List Z2),c.2.1,c.2.2))
theorem jva :mK 165 ⟨⟨[.box 900000 0],[(900000,false,[.pv (.sl (.int .u8)),pI])]⟩,⟨[.agg [.own 1 .str 9 true,.own 2 Y22 172 true]],[(900000,false,[.pv (.sl (.int .u8)),pI])]⟩,c2A (s_l30Conf_m N)⟩:=
 mO (fC (jtX N) ja) func165 rfl N (.seq .no (.seq .no (.meet juw .no (.meet juL .no .no)))) _ (rs:=[900000])
def jt (N:Nat) (a:Int):Z14:=
 (bif decide ((65:Int)<=a)then bif decide (a<=90)then some (IntKind.u8.wrap (a+32))else(bif decide ((97:Int)<=a)then bif decide (a<=122)then some a else(bif decide ((48:Int)<=a)then bif decide (a<=57)then some a else(some 0)else some 0)else bif decide ((48:Int)<=a)then bif decide (a<=57)then some a else(some 0)else some 0)else bif decide ((97:Int)<=a)then bif decide (a<=122)then some a else(bif decide ((48:Int)<=a)then bif decide (a<=57)then some a else(some 0)else some 0)else bif decide ((48:Int)<=a)then bif decide (a<=57)then some a else(some 0)else some 0)
theorem jfG :mK 251 (bX [.pv (.int .u8)] [.pv (.int .u8)] (c1A (jt N))):=
 mO ja func251 rfl N .no _
def jr5 :Sh:=⟨pS:: .dead:: .dead::pI::dz 23 [],[]⟩
def jT (h:List UInt8):Z9:=
 (iter (fun i (b,a)=>bif decide (a<(b.length:Int))then oB (idx b a) fun d=>(oB (jt N (d.toNat:Int)) fun e=>oB (idx b a) fun k=>bif !decide (e=(k.toNat:Int))then some false else oB (idx b a) fun j=>bif decide ((j.toNat:Int)=0)then some false else if fits (a+1)then i (b,(a+1))else none)else oB (s_l1In_m N (b.length:Int) 1 12) fun c=>some c) N (h,(0:Int)))
theorem jgp :mK 174 (bX [pS] [pB] (c1A (jT N))):=
 mO (fC (jfG N) (fC (jcL N) ja)) func174 rfl N (.seq .no (.seq (.seq .no (.block (.loop jr5 .no))) .no)) _
def jdI (N:Nat):Option ((List Z2)):=
 (some ([([105,110,103]:List UInt8),([101,100]:List UInt8),([101,115]:List UInt8),([108,121]:List UInt8),([115]:List UInt8)]:List Z2))
theorem jkj :mK 306 ⟨⟨[],[]⟩,⟨[.own 1 .str 9 true],[]⟩,fun a=>jdI N⟩:=
 mO ja func306 rfl N .no _
def jl2 :Sh:=⟨pS:: .dead:: .dead::pI::dz 30 [],[]⟩
def ja6 (k:List UInt8):Option (Z2):=
 (iter (fun d (a,b)=>oB (jdI N) fun h=>bif decide (b<(h.length:Int))then oB (jdI N) fun e=>(oB (idx e b) fun c=>if fits ((a.length:Int)-(c.length:Int))then bif decide ((3:Int)<=((a.length:Int)-(c.length:Int)))then oB (cut a ((a.length:Int)-(c.length:Int)) (a.length:Int)) fun f=>(bif decide (f=c)then oB (cut a 0 ((a.length:Int)-(c.length:Int))) fun i=>(some i)else if fits (b+1)then d (a,(b+1))else none)else(if fits (b+1)then d (a,(b+1))else none)else none)else some a) N (k,(0:Int)))
theorem jtL :mK 252 (bX [pS] [pS] (c1A (ja6 N))):=
 mO (fC (jkj N) ja) func252 rfl N (.seq .no (.seq (.seq .no (.block (.loop jl2 .no))) .no)) _
def jto :Sh:=⟨pS::dz 9 [],[]⟩
def jaq (e:List UInt8):Option (Z2):=
 (iter (fun a (d:Z2)=>let s2:=d;(oB (ja6 N s2) fun c=>bif !decide (c=s2)then oB (ja6 N s2) fun b=>(a b)else some s2)) N e)
theorem jfZ :mK 175 (bX [pS] [pS] (c1A (jaq N))):=
 mO (fC (jtL N) ja) func175 rfl N (.seq .no (.seq (.block (.loop jto .no)) .no)) _
def jlY :Sh:=⟨.pv (.sl .str)::pS::dz 3 (pI::dz 12 []),[]⟩
def jap (d:List Z2) (f:List UInt8):Z9:=
 (iter (fun h (b,c,a)=>bif decide (a<(b.length:Int))then oB (idx b a) fun i=>(bif decide (i=c)then some true else if fits (a+1)then h (b,c,(a+1))else none)else some false) N (d,f,(0:Int)))
theorem jhP :mK 176 (bX [.pv (.sl .str),pS] [pB] (c2A (jap N))):=
 mO ja func176 rfl N (.seq .no (.seq (.seq .no (.block (.loop jlY .no))) .no)) _
def jrs :Sh:=⟨.dead:: .box 1 0:: .dead::pI::dz 114 [],[(1,false,[.pv (.sl .str),.pv Y20])]⟩
def js0 :Sh:=⟨.dead:: .box 1 0:: .dead:: .dead::pI::dz 113 [],[(1,false,[.pv (.sl .str),.pv Y20])]⟩
def jrc :Sh:=⟨.dead:: .box 1 0:: .dead:: .dead::pI:: .box 5 0::pI::dz 111 [],[(1,false,[.pv (.sl .str),.pv Y20]),(5,false,[.pv (.sl .str),pS])]⟩
def jcw (E:List Z2) (y:List Z5):Z9:=
 (iter (fun q (a,c,k)=>bif decide (a<(c.length:Int))then oB (idx c a) fun A=>(oB (jT N A) fun G=>bif !G then some false else bif decide ((0:Int)<a)then oB (idx c a) fun r=>(if fits (a-1)then oB (idx c (a-1)) fun m=>(bif Op.bytesLess r m||decide (r=m)then some false else if fits (a+1)then q ((a+1),c,k)else none)else none)else if fits (a+1)then q ((a+1),c,k)else none)else iter (fun C (i,o,h)=>bif decide (i<(h.length:Int))then oB (idx h i) fun p=>(iter (fun t (l,d,j,n,b,f)=>bif decide (d<(b.length:Int))then oB (idx b d) fun H=>(oB (jT N H) fun D=>bif !D then some false else oB (idx b d) fun u=>oB (jaq N u) fun z=>oB (idx b d) fun K=>bif !decide (z=K)then some false else oB (idx b d) fun v=>oB (jap N j v) fun x=>bif x then some false else if fits (d+1)then t (l,(d+1),j,n,b,f)else none)else oB (s_l1In_m N (b.length:Int) 1 3) fun B=>bif !B then some false else oB (jT N f) fun w=>bif !w then some false else oB (jaq N f) fun I=>bif !decide (I=f)then some false else if fits (l+1)then C ((l+1),j,n)else none) N (i,(0:Int),o,h,p.1,p.2))else bif decide ((o.length:Int)<=6)then some (decide ((h.length:Int)<=4))else some false) N ((0:Int),c,k)) N ((0:Int),E,y))
theorem jtf :mK 108 (bX [.agg [.pv (.sl .str),.pv Y20]] [pB] (c2A (jcw N))):=
 mO (fC (jgp N) (fC (jfZ N) (fC (jhP N) (fC (jcL N) ja)))) func108 rfl N (.seq .no (.seq (.seq .no (.block (.loop jrs .no))) (.seq (.seq .no (.block (.loop js0 (.seq .no (.seq (.block (.seq .no (.seq (.seq .no (.block (.loop jrc .no))) .no))) .no))))) .no))) _
def jMA :Sh:=⟨.dead:: .box 1 0:: .box 2 0:: .box 3 0::pI::dz 33 [],[(1,false,[.pv (.sl .str),.pv Y20]),(2,false,[.nils,.nils]),(3,false,[.own 700300 .str 9 true,.own 700301 Y22 172 true])]⟩
def s_l18CopyConf_m (c:List Z2) (l:List Z5):Option ((List Z2)×(List Z5)):=
 (if room ([]:List Z2).length c.length 16 then iter (fun j (a,k,b,f,d)=>bif decide (a<(b.length:Int))then oB (idx b a) fun e=>(if room ([]:List Z2).length e.1.length 16 then oB (idx b a) fun h=>(if room d.length ([((([]:List Z2)++e.1),h.2)]:List Z5).length 40 then if fits (a+1)then j ((a+1),k,b,f,(d++([((([]:List Z2)++e.1),h.2)]:List Z5)))else none else none)else none)else some (f,d)) N ((0:Int),c,l,(([]:List Z2)++c),([]:List Z5))else none)
theorem jMp :mK 162 (bX [.agg [.pv (.sl .str),.pv Y20]] [.agg [.own 1 .str 9 true,.own 2 Y22 172 true]] (c2A (s_l18CopyConf_m N))):=
 mO ja func162 rfl N (.seq .no (.seq .no (.seq (.seq .no (.block (.loop jMA .no))) .no))) _
def s_IndexNew_m (b:List Z2) (c:List Z5):Option ((List Z2)×(List Z5)):=
 (oB (jcw N b c) fun d=>bif !d then some (([]:List Z2),([]:List Z5))else oB (s_l18CopyConf_m N b c) fun a=>some (a.1,a.2))
theorem jOh :mK 164 (bX [.agg [.pv (.sl .str),.pv Y20]] [.agg [.own 1 .str 9 true,.own 2 Y22 172 true,.nils]] (c2A (s_IndexNew_m N))):=
 mO (fC (jtf N) (fC (jMp N) ja)) func164 rfl N .no _
def jot :Sh:=⟨pS:: .dead:: .dead::pI::dz 19 [],[]⟩
def jcu (e:List UInt8):Z9:=
 (iter (fun f (b,a)=>bif decide (a<(b.length:Int))then oB (idx b a) fun c=>(bif decide ((c.toNat:Int)<32)then some false else oB (idx b a) fun h=>bif decide ((126:Int)<(h.toNat:Int))then some false else if fits (a+1)then f (b,(a+1))else none)else some (decide ((b.length:Int)<=160))) N (e,(0:Int)))
theorem jpZ :mK 253 (bX [pS] [pB] (c1A (jcu N))):=
 mO ja func253 rfl N (.seq .no (.seq (.seq .no (.block (.loop jot .no))) .no)) _
def jp0 :Sh:=⟨.dead:: .box 1 0:: .dead::pI::dz 100 [],[(1,false,[pI,.pv Y23,.pv Y19])]⟩
def jtP :Sh:=⟨.dead:: .box 1 0::dz 3 (pI::dz 98 []),[(1,false,[pI,.pv Y23,.pv Y19])]⟩
def jcb (z:Int) (r:Z16) (B:Z10):Z9:=
 (iter (fun o (b,h,d,f)=>bif decide (b<(d.length:Int))then oB (idx d b) fun e=>(oB (jT N e.1) fun A=>bif !A then some false else oB (jcu N e.2) fun y=>bif !y then some false else bif decide ((0:Int)<b)then if fits (b-1)then oB (idx d (b-1)) fun p=>(bif Op.bytesLess e.1 p.1||decide (e.1=p.1)then some false else if fits (b+1)then o ((b+1),h,d,f)else none)else none else if fits (b+1)then o ((b+1),h,d,f)else none)else iter (fun m (a,i,k,c)=>bif decide (a<(c.length:Int))then oB (idx c a) fun q=>(oB (jT N q.1) fun w=>bif !w then some false else oB (idx c a) fun u=>oB (s_l1In_m N u.2 0 999999999) fun v=>bif !v then some false else bif decide ((0:Int)<a)then oB (idx c a) fun n=>(if fits (a-1)then oB (idx c (a-1)) fun l=>(bif Op.bytesLess n.1 l.1||decide (n.1=l.1)then some false else if fits (a+1)then m ((a+1),i,k,c)else none)else none)else if fits (a+1)then m ((a+1),i,k,c)else none)else oB (s_l1In_m N i 1 9999) fun x=>bif x then oB (s_l1In_m N (k.length:Int) 0 3) fun t=>(bif t then some (decide ((c.length:Int)<=3))else some false)else some false) N ((0:Int),h,d,f)) N ((0:Int),z,r,B))
theorem jpD :mK 177 (bX [.agg [pI,.pv Y23,.pv Y19]] [pB] (c3A (jcb N))):=
 mO (fC (jgp N) (fC (jpZ N) (fC (jcL N) ja))) func177 rfl N (.seq .no (.seq (.seq .no (.block (.loop jp0 .no))) (.seq (.seq .no (.block (.loop jtP .no))) .no))) _
def jkS :Sh:=⟨.pv Y4:: .dead:: .dead::pI::dz 33 [],[]⟩
def jbU (h:List Z0):Z9:=
 (iter (fun d (b,a)=>bif decide (a<(b.length:Int))then oB (idx b a) fun c=>(oB (jcb N c.1 c.2.1 c.2.2) fun f=>bif !f then some false else bif decide ((0:Int)<a)then oB (idx b a) fun j=>(if fits (a-1)then oB (idx b (a-1)) fun e=>(bif decide (j.1<=e.1)then some false else if fits (a+1)then d (b,(a+1))else none)else none)else if fits (a+1)then d (b,(a+1))else none)else some (decide ((b.length:Int)<=16))) N (h,(0:Int)))
theorem jpx :mK 109 (bX [.pv Y4] [pB] (c1A (jbU N))):=
 mO (fC (jpD N) ja) func109 rfl N (.seq .no (.seq (.seq .no (.block (.loop jkS .no))) .no)) _
def jl5 :Sh:=⟨.pv (.sl .str)::pS::dz 3 (pI::dz 42 []),[]⟩
def s_l7Put_m (o:List Z2) (q:List UInt8):Option ((List Z2)):=
 (iter (fun r (a,b,c)=>bif decide (c<(a.length:Int))then oB (idx a c) fun n=>(bif Op.bytesLess n b then if fits (c+1)then r (a,b,(c+1))else none else bif decide (c<(a.length:Int))then oB (idx a c) fun t=>(bif decide (t=b)then some a else oB (cut a 0 c) fun d=>if room ([]:List Z2).length d.length 16 then if room (([]:List Z2)++d).length ([b]:List Z2).length 16 then oB (cut a c (a.length:Int)) fun j=>(if room ((([]:List Z2)++d)++([b]:List Z2)).length j.length 16 then some (((([]:List Z2)++d)++([b]:List Z2))++j)else none)else none else none)else oB (cut a 0 c) fun h=>if room ([]:List Z2).length h.length 16 then if room (([]:List Z2)++h).length ([b]:List Z2).length 16 then oB (cut a c (a.length:Int)) fun i=>(if room ((([]:List Z2)++h)++([b]:List Z2)).length i.length 16 then some (((([]:List Z2)++h)++([b]:List Z2))++i)else none)else none else none)else bif decide (c<(a.length:Int))then oB (idx a c) fun m=>(bif decide (m=b)then some a else oB (cut a 0 c) fun f=>if room ([]:List Z2).length f.length 16 then if room (([]:List Z2)++f).length ([b]:List Z2).length 16 then oB (cut a c (a.length:Int)) fun l=>(if room ((([]:List Z2)++f)++([b]:List Z2)).length l.length 16 then some (((([]:List Z2)++f)++([b]:List Z2))++l)else none)else none else none)else oB (cut a 0 c) fun e=>if room ([]:List Z2).length e.length 16 then if room (([]:List Z2)++e).length ([b]:List Z2).length 16 then oB (cut a c (a.length:Int)) fun k=>(if room ((([]:List Z2)++e)++([b]:List Z2)).length k.length 16 then some (((([]:List Z2)++e)++([b]:List Z2))++k)else none)else none else none) N (o,q,(0:Int)))
theorem jgt :mK 187 (bX [.pv (.sl .str),pS] [.pv (.sl .str)] (c2A (s_l7Put_m N))):=
 mO ja func187 rfl N (.seq .no (.seq .no (.seq (.block (.loop jl5 .no)) .no))) _
def joT :Sh:=⟨.pv Y4:: .dead:: .dead:: .pv (.sl .str)::pI::dz 30 [],[]⟩
def jkn :Sh:=⟨.pv Y4:: .dead:: .dead:: .pv (.sl .str)::pI::pI::dz 29 [],[]⟩
def s_l7Names_m (o:List Z0):Option ((List Z2)):=
 (iter (fun m (e,i,h)=>bif decide (h<(e.length:Int))then iter (fun j (c,f,a,b)=>oB (idx c a) fun p=>bif decide (b<(p.2.1.length:Int))then oB (idx c a) fun n=>(oB (idx n.2.1 b) fun k=>oB (s_l7Put_m N f k.1) fun l=>if fits (b+1)then j (c,l,a,(b+1))else none)else if fits (a+1)then m (c,f,(a+1))else none) N (e,i,h,(0:Int))else some i) N (o,([]:List Z2),(0:Int)))
theorem jlz :mK 113 (bX [.pv Y4] [.pv (.sl .str)] (c1A (s_l7Names_m N))):=
 mO (fC (jgt N) ja) func113 rfl N (.seq .no (.seq .no (.seq (.seq .no (.block (.loop joT (.seq .no (.seq (.block (.seq .no (.block (.loop jkn .no)))) .no))))) .no))) _
def jl8 :Sh:=⟨.dead::pS:: .box 2 0:: .dead:: .dead::pI::dz 21 [],[(2,false,[pI,.pv Y23,.pv Y19])]⟩
def s_l6Field_m (d:Int) (e:Z16) (i:Z10) (l:List UInt8):Option (Z2):=
 (iter (fun j (c,a,m,b,h)=>bif decide (a<(b.length:Int))then oB (idx b a) fun n=>(bif decide (n.1=c)then oB (idx b a) fun k=>(some k.2)else if fits (a+1)then j (c,(a+1),m,b,h)else none)else some ([]:List UInt8)) N (l,(0:Int),d,e,i))
theorem jhA :mK 189 (bX [.agg [pI,.pv Y23,.pv Y19],pS] [pS] (c4A (s_l6Field_m N))):=
 mO ja func189 rfl N (.seq .no (.seq (.seq .no (.block (.loop jl8 .no))) .no)) _
def jo3 :Sh:=⟨pS:: .dead:: .dead:: .own 600003 Y8 188 true::pI::dz 50 [],[]⟩
def jm6 :Sh:=⟨pS:: .dead:: .dead:: .own 600003 Y8 188 true::pI:: .own 600005 (.int .u8) 5 true::pI::dz 48 [],[]⟩
def jtK :Sh:=⟨pS:: .dead:: .dead:: .own 600003 Y8 188 true::pI:: .pv (.sl (.int .u8))::pI::dz 48 [],[]⟩
def jb3 (G:List UInt8):Option ((List Z12)):=
 (iter (fun l (p,t,n)=>bif decide (n<(p.length:Int))then iter (fun B (b,k,a,c,i)=>bif decide (a<(b.length:Int))then oB (idx b a) fun C=>(oB (jt N (C.toNat:Int)) fun D=>bif !decide (D=0)then oB (idx b a) fun A=>(oB (jt N (A.toNat:Int)) fun u=>if room c.length ([u]:List Int).length 1 then if fits (a+1)then B (b,k,(a+1),(c++([u]:List Int)),i)else none else none)else meet (fun(d:Z2×(List Z12)×Int×(List Int)×Int)=>match d with|(y,h,f,m,r)=>bif decide ((0:Int)<m.length)then if room h.length ([((bytesOf m),(h.length:Int),r,f)]:List Z12).length 40 then if fits (f+1)then l (y,(h++([((bytesOf m),(h.length:Int),r,f)]:List Z12)),(f+1))else none else none else if fits (f+1)then l (y,h,(f+1))else none) fun q=>bif decide ((12:Int)<c.length)then oB (cut c 0 12) fun z=>(q (b,k,a,z,i))else q (b,k,a,c,i))else meet (fun(d:Z2×(List Z12)×Int×(List Int)×Int)=>match d with|(v,j,e,o,w)=>bif decide ((0:Int)<o.length)then if room j.length ([((bytesOf o),(j.length:Int),w,e)]:List Z12).length 40 then if fits (e+1)then l (v,(j++([((bytesOf o),(j.length:Int),w,e)]:List Z12)),(e+1))else none else none else if fits (e+1)then l (v,j,(e+1))else none) fun x=>bif decide ((12:Int)<c.length)then oB (cut c 0 12) fun E=>(x (b,k,a,E,i))else x (b,k,a,c,i)) N (p,t,n,([]:List Int),n)else some t) N (G,([]:List Z12),(0:Int)))
theorem jsr :mK 311 (bX [pS] [.own 1 Y8 188 true] (c1A (jb3 N))):=
 mO (fC (jfG N) ja) func311 rfl N (.seq .no (.seq .no (.seq (.seq .no (.block (.loop jo3 (.seq .no (.seq (.block (.seq .no (.seq .no (.seq (.block (.loop jm6 .no)) (.meet jtK .no .no))))) .no))))) .no))) _
def jmf :Sh:=⟨.dead:: .dead:: .box 2 0:: .dead:: .dead:: .own 600005 Y21 111 true:: .own 600006 Y8 188 true::pI::dz 43 [],[(2,false,[.pv (.sl .str),.pv Y20])]⟩
def jbY (n:List Z2) (k:List Z5) (q:List UInt8):Option (Z8):=
 (oB (jb3 N q) fun o=>iter (fun h (c,b,a,d,f)=>bif decide (a<(b.length:Int))then oB (idx b a) fun m=>(oB (jaq N m.1) fun e=>oB (idx b a) fun r=>oB (jap N d r.1) fun l=>bif !l then oB (jap N d e) fun j=>(bif !j then oB (idx b a) fun i=>(if room c.length ([(e,i.2.1)]:Z10).length 24 then if fits (a+1)then h ((c++([(e,i.2.1)]:Z10)),b,(a+1),d,f)else none else none)else if fits (a+1)then h (c,b,(a+1),d,f)else none)else if fits (a+1)then h (c,b,(a+1),d,f)else none)else some c) N (([]:Z10),o,(0:Int),n,k))
theorem jrk :mK 266 (bX [.agg [.pv (.sl .str),.pv Y20],pS] [.own 1 Y21 111 true] (c3A (jbY N))):=
 mO (fC (jsr N) (fC (jfZ N) (fC (jhP N) ja))) func266 rfl N (.seq .no (.seq .no (.seq .no (.seq (.seq .no (.block (.loop jmf .no))) .no)))) _
def jrL :Sh:=⟨.pv Y19:: .pv (.sl .str)::dz 3 (pI::dz 36 []),[]⟩
def jcC (f:Z10) (k:List Z2):Z9:=
 (iter (fun i (b,c,a)=>bif decide (a<(c.length:Int))then bif decide ((b.length:Int)<=a)then some false else(oB (idx b a) fun l=>oB (idx c a) fun j=>bif !decide (l.1=j)then some false else oB (idx b a) fun e=>oB (idx b 0) fun d=>if fits (d.2+a)then bif !decide (e.2=(d.2+a))then some false else(if fits (a+1)then i (b,c,(a+1))else none)else none)else some true) N (f,k,(0:Int)))
theorem jtg :mK 312 (bX [.pv Y19,.pv (.sl .str)] [pB] (c2A (jcC N))):=
 mO ja func312 rfl N (.seq .no (.seq (.seq .no (.block (.loop jrL .no))) .no)) _
def jlL :Sh:=⟨.dead:: .pv Y19:: .box 2 0:: .dead:: .dead::pI::pI::dz 38 [],[(2,false,[.pv (.sl .str),.pv Y20])]⟩
def jcJ (i:List Z2) (n:List Z5) (k:Z10):Z14:=
 (iter (fun e (c,d,a,f,b)=>bif decide (a<(b.length:Int))then oB (idx b a) fun o=>(oB (jcC N c o.1) fun j=>bif j then bif decide (d<0)then if fits (a+1)then e (c,a,(a+1),f,b)else none else(oB (idx b a) fun m=>oB (idx b d) fun h=>bif decide ((h.1.length:Int)<(m.1.length:Int))then if fits (a+1)then e (c,a,(a+1),f,b)else none else if fits (a+1)then e (c,d,(a+1),f,b)else none)else if fits (a+1)then e (c,d,(a+1),f,b)else none)else some d) N (k,((-1):Int),(0:Int),i,n))
theorem jqp :mK 267 (bX [.agg [.pv (.sl .str),.pv Y20],.pv Y19] [pI] (c3A (jcJ N))):=
 mO (fC (jtg N) ja) func267 rfl N (.seq .no (.seq .no (.seq (.seq .no (.block (.loop jlL .no))) .no))) _
def jnK :Sh:=⟨.dead:: .dead:: .box 2 0:: .dead:: .dead:: .own 600005 Y21 111 true:: .pv Y19::dz 45 [],[(2,false,[.pv (.sl .str),.pv Y20])]⟩
def ja5 (j:List Z2) (h:List Z5) (r:List UInt8):Option (Z8):=
 (oB (jbY N j h r) fun o=>iter (fun k (b,a,d,c)=>bif decide ((0:Int)<a.length)then oB (jcJ N d c a) fun e=>(bif decide (e<0)then oB (idx a 0) fun i=>(if room b.length ([i]:Z10).length 24 then oB (cut a 1 (a.length:Int)) fun m=>(k ((b++([i]:Z10)),m,d,c))else none)else oB (idx c e) fun l=>oB (idx a 0) fun f=>if room b.length ([(l.2,f.2)]:Z10).length 24 then oB (idx c e) fun n=>(oB (cut a (n.1.length:Int) (a.length:Int)) fun p=>k ((b++([(l.2,f.2)]:Z10)),p,d,c))else none)else some b) N (([]:Z10),o,j,h))
theorem jiO :mK 188 (bX [.agg [.pv (.sl .str),.pv Y20],pS] [.own 1 Y21 111 true] (c3A (ja5 N))):=
 mO (fC (jrk N) (fC (jqp N) ja)) func188 rfl N (.seq .no (.seq .no (.seq .no (.seq (.block (.loop jnK .no)) .no)))) _
def jn9 :Sh:=⟨.dead:: .pv Y4::pS:: .box 3 0::dz 3 (.pv (.sl .str)::pI::dz 31 []),[(3,false,[.pv (.sl .str),.pv Y20])]⟩
def jrT :Sh:=⟨.dead:: .pv Y4::pS:: .box 3 0::dz 3 (.pv (.sl .str)::pI:: .own 600009 Y21 111 true::pI::dz 29 []),[(3,false,[.pv (.sl .str),.pv Y20])]⟩
def s_l7Terms_m (x:List Z2) (r:List Z5) (t:List Z0) (z:List UInt8):Option ((List Z2)):=
 (iter (fun A (b,l,j,e,k,p)=>bif decide (e<(b.length:Int))then oB (idx b e) fun d=>(oB (s_l6Field_m N d.1 d.2.1 d.2.2 l) fun y=>oB (ja5 N k p y) fun w=>iter (fun v (n,m,o,c,f,a,i,q)=>bif decide (a<(f.length:Int))then oB (idx f a) fun B=>(oB (s_l7Put_m N o B.1) fun u=>if fits (a+1)then v (n,m,u,c,f,(a+1),i,q)else none)else if fits (c+1)then A (n,m,o,(c+1),i,q)else none) N (b,l,j,e,w,(0:Int),k,p))else some j) N (t,z,([]:List Z2),(0:Int),x,r))
theorem jqQ :mK 114 (bX [.agg [.pv (.sl .str),.pv Y20],.pv Y4,pS] [.pv (.sl .str)] (c4A (s_l7Terms_m N))):=
 mO (fC (jhA N) (fC (jiO N) (fC (jgt N) ja))) func114 rfl N (.seq .no (.seq .no (.seq (.seq .no (.block (.loop jn9 (.seq .no (.seq (.block (.seq .no (.seq .no (.block (.loop jrT .no))))) .no))))) .no))) _
def jnY :Sh:=⟨dz 3 (pS::dz 5 (.own 600009 tI 3 true:: .own 600010 Y21 111 true::pI::dz 28 [])),[]⟩
def s_l7Post_m (m:List Z2) (i:List Z5) (l:Int) (h:Z16) (p:Z10) (q:List UInt8) (r:List UInt8):Option ((List Int)):=
 (oB (s_l6Field_m N l h p q) fun n=>oB (ja5 N m i n) fun k=>iter (fun e (d,c,b,a)=>bif decide (a<(b.length:Int))then oB (idx b a) fun j=>(bif decide (j.1=d)then oB (idx b a) fun f=>(if room c.length ([f.2]:List Int).length 8 then if fits (a+1)then e (d,(c++([f.2]:List Int)),b,(a+1))else none else none)else if fits (a+1)then e (d,c,b,(a+1))else none)else some c) N (r,([]:List Int),k,(0:Int)))
theorem js6 :mK 190 (bX [.agg [.pv (.sl .str),.pv Y20],.agg [pI,.pv Y23,.pv Y19],pS,pS] [.own 1 tI 3 true] (c7A (s_l7Post_m N))):=
 mO (fC (jhA N) (fC (jiO N) ja)) func190 rfl N (.seq .no (.seq .no (.seq .no (.seq (.seq .no (.block (.loop jnY .no))) .no)))) _
def jkw :Sh:=⟨.dead:: .pv Y4::pS::pS:: .box 4 0::dz 3 (.box 8 0:: .box 9 0::pI::dz 34 []),[(4,false,[.pv (.sl .str),.pv Y20]),(8,false,[pS,pS,.nils]),(9,false,[pS,pS,.own 700902 Y16 196 true])]⟩
def s_l7Entry_m (v:List Z2) (t:List Z5) (u:List Z0) (o:List UInt8) (q:List UInt8):Option Z1:=
 (iter (fun p (b,f,i,a,e,k,r,m,h,l,c)=>bif decide (a<(b.length:Int))then oB (idx b a) fun d=>(oB (s_l7Post_m N e k d.1 d.2.1 d.2.2 f i) fun j=>bif decide ((0:Int)<j.length)then oB (idx b a) fun n=>(if room c.length ([(n.1,j)]:Z7).length 32 then if fits (a+1)then p (b,f,i,(a+1),e,k,r,m,h,l,(c++([(n.1,j)]:Z7)))else none else none)else if fits (a+1)then p (b,f,i,(a+1),e,k,r,m,h,l,c)else none)else some (h,l,c)) N (u,o,q,(0:Int),v,t,([]:List UInt8),([]:List UInt8),o,q,([]:Z7)))
theorem jtr :mK 115 (bX [.agg [.pv (.sl .str),.pv Y20],.pv Y4,pS,pS] [.agg [pS,pS,.own 1 Y16 196 true]] (c5A (s_l7Entry_m N))):=
 mO (fC (js6 N) ja) func115 rfl N (.seq .no (.seq .no (.seq (.seq .no (.block (.loop jkw .no))) .no))) _
def s_l7CopyDoc_m (N:Nat) (c:Int) (b:Z16) (a:Z10):Option Z0:=
 (if room ([]:Z16).length b.length 32 then if room ([]:Z10).length a.length 24 then some (c,(([]:Z16)++b),(([]:Z10)++a))else none else none)
theorem jtC :mK 116 (bX [.agg [pI,.pv Y23,.pv Y19]] [.agg [pI,.own 1 Y24 107 true,.own 2 Y21 258 true]] (c3A (s_l7CopyDoc_m N))):=
 mO ja func116 rfl N .no _
def jn8 :Sh:=⟨.dead:: .pv Y4:: .box 2 0:: .dead:: .box 4 0:: .box 5 0:: .pv (.sl .str)::pI::dz 58 [],[(2,false,[.pv (.sl .str),.pv Y20]),(4,false,[.nils,.nils]),(5,false,[.nils,.own 700501 Y7 116 true])]⟩
def jpr :Sh:=⟨.dead:: .pv Y4:: .box 2 0:: .dead:: .box 4 0:: .box 5 0:: .pv (.sl .str)::pI:: .pv (.sl .str)::pI::dz 56 [],[(2,false,[.pv (.sl .str),.pv Y20]),(4,false,[.nils,.nils]),(5,false,[.nils,.own 700501 Y7 116 true])]⟩
def jn0 :Sh:=⟨.dead:: .pv Y4:: .dead:: .dead:: .box 4 0:: .box 5 0::dz 4 (pI::dz 55 []),[(4,false,[.nils,.nils]),(5,false,[.own 700500 Y5 105 true,.own 700501 Y7 116 true])]⟩
def s_l7Of_m (G:List Z2) (B:List Z5) (u:List Z0):Option ((List Z0)×(List Z1)):=
 (oB (s_l7Names_m N u) fun H=>iter (fun I (e,i,o,t,w,x)=>bif decide (o<(i.length:Int))then oB (idx i o) fun C=>(oB (s_l7Terms_m N t w e C) fun E=>iter (fun D (m,l,b,j,c,f,q,h)=>bif decide (c<(j.length:Int))then oB (idx l b) fun K=>(oB (idx j c) fun z=>oB (s_l7Entry_m N f q m K z) fun v=>if room h.length ([v]:List Z1).length 56 then if fits (c+1)then D (m,l,b,j,(c+1),f,q,(h++([v]:List Z1)))else none else none)else if fits (b+1)then I (m,l,(b+1),f,q,h)else none) N (e,i,o,E,(0:Int),t,w,x))else iter (fun A (p,d,n,y)=>bif decide (d<(p.length:Int))then oB (idx p d) fun k=>(oB (s_l7CopyDoc_m N k.1 k.2.1 k.2.2) fun r=>if room n.length ([r]:List Z0).length 56 then if fits (d+1)then A (p,(d+1),(n++([r]:List Z0)),y)else none else none)else some (n,y)) N (e,(0:Int),([]:List Z0),x)) N (u,H,(0:Int),G,B,([]:List Z1)))
theorem jmU :mK 48 (bX [.agg [.pv (.sl .str),.pv Y20],.pv Y4] [.agg [.own 1 Y5 105 true,.own 2 Y7 116 true]] (c3A (s_l7Of_m N))):=
 mO (fC (jlz N) (fC (jqQ N) (fC (jtr N) (fC (jtC N) ja)))) func48 rfl N (.seq .no (.seq .no (.seq .no (.seq (.seq .no (.block (.loop jn8 (.seq .no (.seq (.block (.seq .no (.seq .no (.block (.loop jpr .no))))) .no))))) (.seq (.seq .no (.block (.loop jn0 .no))) .no))))) _
def jnI :Sh:=⟨.pv Y25:: .pv Y25::dz 3 (pI::dz 20 []),[]⟩
def jb1 (c:List Int) (e:List Int):Z9:=
 (bif !decide ((c.length:Int)=(e.length:Int))then some false else iter (fun h (b,d,a)=>bif decide (a<(b.length:Int))then oB (idx b a) fun j=>(oB (idx d a) fun i=>bif !decide (j=i)then some false else if fits (a+1)then h (b,d,(a+1))else none)else some true) N (c,e,(0:Int)))
theorem jlH :mK 250 (bX [.pv Y25,.pv Y25] [pB] (c2A (jb1 N))):=
 mO ja func250 rfl N (.seq .no (.seq .no (.seq (.seq .no (.block (.loop jnI .no))) .no))) _
def jnx :Sh:=⟨.dead:: .dead:: .box 2 0:: .box 3 0:: .dead::pI::dz 57 [],[(2,false,[pS,pS,.pv Y15]),(3,false,[pS,pS,.pv Y15])]⟩
def jbQ (h:List UInt8) (i:List UInt8) (e:Z7) (j:List UInt8) (f:List UInt8) (d:Z7):Z9:=
 (bif !decide (h=j)then some false else bif !decide (i=f)then some false else bif !decide ((e.length:Int)=(d.length:Int))then some false else iter (fun t (a,n,m,b,u,r,c)=>bif decide (a<(b.length:Int))then oB (idx b a) fun o=>(oB (idx c a) fun v=>bif !decide (o.1=v.1)then some false else oB (idx b a) fun k=>oB (idx c a) fun l=>oB (jb1 N k.2 l.2) fun p=>bif !p then some false else if fits (a+1)then t ((a+1),n,m,b,u,r,c)else none)else some true) N ((0:Int),h,i,e,j,f,d))
theorem jtG :mK 173 (bX [.agg [pS,pS,.pv Y15],.agg [pS,pS,.pv Y15]] [pB] (c6A (jbQ N))):=
 mO (fC (jlH N) ja) func173 rfl N (.seq .no (.seq .no (.seq (.seq .no (.block (.loop jnx .no))) .no))) _
def jrW :Sh:=⟨dz 3 (.box 3 0:: .dead:: .box 5 0::pI::dz 39 []),[(3,false,[.pv Y4,.pv Y6]),(5,false,[.own 700500 Y5 105 true,.own 700501 Y7 116 true])]⟩
def jcR (j:List Z2) (i:List Z5) (e:List Z0) (h:List Z1):Z9:=
 (oB (jcw N j i) fun p=>bif !p then some false else oB (jbU N e) fun n=>bif !n then some false else oB (s_l7Of_m N j i e) fun c=>bif !decide ((c.2.length:Int)=(h.length:Int))then some false else iter (fun r (a,o,k,m,b)=>bif decide (a<(b.length:Int))then oB (idx b a) fun d=>(oB (idx k a) fun f=>oB (jbQ N d.1 d.2.1 d.2.2 f.1 f.2.1 f.2.2) fun l=>bif !l then some false else if fits (a+1)then r ((a+1),o,k,m,b)else none)else some true) N ((0:Int),e,h,c.1,c.2))
theorem jpm :mK 105 (bX [.agg [.pv (.sl .str),.pv Y20],.agg [.pv Y4,.pv Y6]] [pB] (c4A (jcR N))):=
 mO (fC (jtf N) (fC (jpx N) (fC (jmU N) (fC (jtG N) ja)))) func105 rfl N (.seq .no (.seq .no (.seq .no (.seq .no (.seq (.seq .no (.block (.loop jrW .no))) .no))))) _
def jCI :Sh:=⟨.pv Y25:: .dead:: .dead::pI::dz 31 [],[]⟩
def jx3 (f:List Int):Z9:=
 (iter (fun c (b,a)=>bif decide (a<(b.length:Int))then oB (idx b a) fun j=>(oB (s_l1In_m N j 0 999999999) fun e=>bif !e then some false else bif decide ((0:Int)<a)then oB (idx b a) fun i=>(if fits (a-1)then oB (idx b (a-1)) fun d=>(bif decide (i<=d)then some false else if fits (a+1)then c (b,(a+1))else none)else none)else if fits (a+1)then c (b,(a+1))else none)else some (decide ((b.length:Int)<=60))) N (f,(0:Int)))
theorem jC9 :mK 106 (bX [.pv Y25] [pB] (c1A (jx3 N))):=
 mO (fC (jcL N) ja) func106 rfl N (.seq .no (.seq (.seq .no (.block (.loop jCI .no))) .no)) _
def jA0 :Sh:=⟨.dead::pI:: .box 2 0:: .dead:: .box 4 0::pI::dz 21 [],[(2,false,[.pv Y4,.pv Y6]),(4,false,[pI,.nils,.nils])]⟩
def jyv (i:List Z0) (f:List Z1) (e:Int):Option Z0:=
 (iter (fun j (d,a,b,l,k)=>bif decide (a<(b.length:Int))then oB (idx b a) fun m=>(bif decide (m.1=d)then oB (idx b a) fun c=>(some (c.1,c.2.1,c.2.2))else if fits (a+1)then j (d,(a+1),b,l,k)else none)else some (0,([]:Z16),([]:Z10))) N (e,(0:Int),i,f,(0:Int)))
theorem jDn :mK 107 (bX [.agg [.pv Y4,.pv Y6],pI] [.agg [pI,.pv Y23,.pv Y19]] (c3A (jyv N))):=
 mO ja func107 rfl N (.seq .no (.seq (.seq .no (.block (.loop jA0 .no))) .no)) _
def jJe :Sh:=⟨.pv Y25::pI::dz 3 (pI::dz 12 []),[]⟩
def jHH (e:List Int) (d:Int):Z9:=
 (iter (fun h (b,c,a)=>bif decide (a<(b.length:Int))then oB (idx b a) fun i=>(bif decide (i=c)then some true else if fits (a+1)then h (b,c,(a+1))else none)else some false) N (e,d,(0:Int)))
theorem jIb :mK 191 (bX [.pv Y25,pI] [pB] (c2A (jHH N))):=
 mO ja func191 rfl N (.seq .no (.seq (.seq .no (.block (.loop jJe .no))) .no)) _
def s_l18Dead_m (d:List Z0) (e:List Z1) (b:List Int) (a:Int):Z9:=
 (oB (jHH N b a) fun c=>some c)
theorem jIy :mK 117 (bX [.agg [.pv Y4,.pv Y6,.pv Y25],pI] [pB] (c4A (s_l18Dead_m N))):=
 mO (fC (jIb N) ja) func117 rfl N .no _
def jIl :Sh:=⟨.pv Y4:: .dead:: .dead:: .box 3 0:: .dead::pI::dz 32 [],[(3,false,[pI,.pv Y23,.pv Y19])]⟩
def s_l18Put_m (p:List Z0) (o:Int) (m:Z16) (r:Z10):Z19:=
 (iter (fun t (a,b,d,j,f)=>bif decide (b<(a.length:Int))then oB (idx a b) fun n=>(bif decide (n.1<d)then if fits (b+1)then t (a,(b+1),d,j,f)else none else oB (cut a 0 b) fun c=>if room ([]:List Z0).length c.length 56 then oB (s_l7CopyDoc_m N d j f) fun i=>(if room (([]:List Z0)++c).length ([i]:List Z0).length 56 then oB (cut a b (a.length:Int)) fun l=>(if room ((([]:List Z0)++c)++([i]:List Z0)).length l.length 56 then some (((([]:List Z0)++c)++([i]:List Z0))++l)else none)else none)else none)else oB (cut a 0 b) fun e=>if room ([]:List Z0).length e.length 56 then oB (s_l7CopyDoc_m N d j f) fun h=>(if room (([]:List Z0)++e).length ([h]:List Z0).length 56 then oB (cut a b (a.length:Int)) fun k=>(if room ((([]:List Z0)++e)++([h]:List Z0)).length k.length 56 then some (((([]:List Z0)++e)++([h]:List Z0))++k)else none)else none)else none) N (p,(0:Int),o,m,r))
theorem jJy :mK 118 (bX [.pv Y4,.agg [pI,.pv Y23,.pv Y19]] [.own 1 Y5 105 false] (c4A (s_l18Put_m N))):=
 mO (fC (jtC N) ja) func118 rfl N (.seq .no (.seq .no (.seq (.block (.loop jIl .no)) .no))) _
def jI2 :Sh:=⟨.dead:: .box 1 0:: .dead:: .own 600003 Y5 105 false::pI::dz 45 [],[(1,false,[.pv (.sl .str),.pv Y20,.pv Y1])]⟩
def jJx :Sh:=⟨.dead:: .box 1 0:: .dead:: .own 600003 Y5 105 false::pI::pI::dz 44 [],[(1,false,[.pv (.sl .str),.pv Y20,.pv Y1])]⟩
def s_l18Docs_m (t:List Z2) (o:List Z5) (q:List Z3):Z19:=
 (iter (fun x (k,n,w,p,m)=>bif decide (n<(m.length:Int))then iter (fun l (i,a,c,e,h,b)=>oB (idx b a) fun r=>bif decide (c<(r.1.1.length:Int))then oB (idx b a) fun y=>(oB (idx y.1.1 c) fun d=>oB (idx b a) fun f=>oB (s_l18Dead_m N f.1.1 f.1.2 f.2 d.1) fun v=>bif !v then oB (s_l18Put_m N i d.1 d.2.1 d.2.2) fun u=>(if fits (c+1)then l (u,a,(c+1),e,h,b)else none)else if fits (c+1)then l (i,a,(c+1),e,h,b)else none)else if fits (a+1)then x (i,(a+1),e,h,b)else none) N (k,n,(0:Int),w,p,m)else some k) N (([]:List Z0),(0:Int),t,o,q))
theorem jH3 :mK 49 (bX [.agg [.pv (.sl .str),.pv Y20,.pv Y1]] [.own 1 Y5 105 false] (c3A (s_l18Docs_m N))):=
 mO (fC (jIy N) (fC (jJy N) ja)) func49 rfl N (.seq .no (.seq .no (.seq (.seq .no (.block (.loop jI2 (.seq .no (.seq (.block (.seq .no (.block (.loop jJx .no)))) .no))))) .no))) _
def jIz :Sh:=⟨.dead:: .box 1 0:: .dead::pI::dz 67 [],[(1,false,[.pv (.sl .str),.pv Y20,.pv Y1])]⟩
def jJd :Sh:=⟨.dead:: .box 1 0:: .dead::pI:: .box 4 0::pI::dz 22 (pB::dz 9 (pB::dz 32 [])),[(1,false,[.pv (.sl .str),.pv Y20,.pv Y1]),(4,false,[.pv Y4,.pv Y6,.pv Y25])]⟩
def s_l18Ok_m (A:List Z2) (q:List Z5) (v:List Z3):Z9:=
 (iter (fun C (i,e,c,b)=>bif decide (i<(b.length:Int))then oB (idx b i) fun a=>(oB (jcR N e c a.1.1 a.1.2) fun B=>bif !B then some false else oB (jx3 N a.2) fun n=>bif !n then some false else bif decide ((a.1.1.length:Int)<=(a.2.length:Int))then some false else iter (fun y (h,d,z,r,k,o,l,p,m,f)=>bif decide (d<(f.length:Int))then oB (idx f d) fun D=>(oB (jyv N p m D) fun w=>bif decide (w.1=0)then some false else if fits (d+1)then y (h,(d+1),z,r,k,o,l,p,m,f)else none)else if fits (h+1)then C ((h+1),k,o,l)else none) N (i,(0:Int),(!n),(decide ((a.1.1.length:Int)<=(a.2.length:Int))),e,c,b,a.1.1,a.1.2,a.2))else oB (jcw N e c) fun u=>bif u then bif decide ((b.length:Int)<=5)then oB (s_l18Docs_m N e c b) fun x=>(oB (jbU N x) fun t=>some t)else(some false)else some false) N ((0:Int),A,q,v))
theorem jIW :mK 44 (bX [.agg [.pv (.sl .str),.pv Y20,.pv Y1]] [pB] (c3A (s_l18Ok_m N))):=
 mO (fC (jpm N) (fC (jC9 N) (fC (jDn N) (fC (jtf N) (fC (jH3 N) (fC (jpx N) ja)))))) func44 rfl N (.seq .no (.seq (.seq .no (.block (.loop jIz (.seq .no (.seq (.block (.seq .no (.seq .no (.seq .no (.block (.loop jJd .no)))))) .no))))) .no)) _
def jMc :Sh:=⟨.pv Y15:: .dead:: .dead:: .own 600003 Y16 196 true::pI::dz 24 [],[]⟩
def s_l7CopyPosts_m (f:Z7):Option (Z17):=
 (iter (fun i (b,c,a)=>bif decide (a<(b.length:Int))then oB (idx b a) fun e=>(oB (idx b a) fun d=>if room ([]:List Int).length d.2.length 8 then if room c.length ([(e.1,(([]:List Int)++d.2))]:Z7).length 32 then if fits (a+1)then i (b,(c++([(e.1,(([]:List Int)++d.2))]:Z7)),(a+1))else none else none else none)else some c) N (f,([]:Z7),(0:Int)))
theorem jLV :mK 237 (bX [.pv Y15] [.own 1 Y16 196 true] (c1A (s_l7CopyPosts_m N))):=
 mO ja func237 rfl N (.seq .no (.seq .no (.seq (.seq .no (.block (.loop jMc .no))) .no))) _
def jLx :Sh:=⟨.dead:: .box 1 0:: .box 2 0:: .box 3 0::pI::dz 47 [],[(1,false,[.pv Y4,.pv Y6]),(2,false,[.nils,.nils]),(3,false,[.own 700300 Y5 105 true,.nils])]⟩
def jKX :Sh:=⟨.dead:: .box 1 0:: .box 2 0:: .box 3 0:: .dead::pI::dz 46 [],[(1,false,[.pv Y4,.pv Y6]),(2,false,[.nils,.nils]),(3,false,[.own 700300 Y5 105 true,.own 700301 Y7 116 true])]⟩
def s_l18CopySeg_m (r:List Z0) (o:List Z1):Option ((List Z0)×(List Z1)):=
 (iter (fun t (d,c,n,f)=>bif decide (d<(c.length:Int))then oB (idx c d) fun i=>(oB (s_l7CopyDoc_m N i.1 i.2.1 i.2.2) fun l=>if room f.length ([l]:List Z0).length 56 then if fits (d+1)then t ((d+1),c,n,(f++([l]:List Z0)))else none else none)else iter (fun p (b,q,h,m,e)=>bif decide (b<(h.length:Int))then oB (idx h b) fun a=>(oB (s_l7CopyPosts_m N a.2.2) fun k=>if room e.length ([(a.1,a.2.1,k)]:List Z1).length 56 then if fits (b+1)then p ((b+1),q,h,m,(e++([(a.1,a.2.1,k)]:List Z1)))else none else none)else some (m,e)) N ((0:Int),c,n,f,([]:List Z1))) N ((0:Int),r,o,([]:List Z0)))
theorem jK3 :mK 163 (bX [.agg [.pv Y4,.pv Y6]] [.agg [.own 1 Y5 105 true,.own 2 Y7 116 true]] (c2A (s_l18CopySeg_m N))):=
 mO (fC (jtC N) (fC (jLV N) ja)) func163 rfl N (.seq .no (.seq .no (.seq (.seq .no (.block (.loop jLx .no))) (.seq (.seq .no (.block (.loop jKX .no))) .no)))) _
def jMK :Sh:=⟨.dead:: .box 1 0:: .box 2 0:: .box 3 0::pI::dz 33 [],[(1,false,[.pv (.sl .str),.pv Y20,.pv Y1]),(2,false,[.nils,.nils,.nils]),(3,false,[.own 700300 .str 9 true,.own 700301 Y22 172 true,.own 700302 Y2 96 true])]⟩
def s_l18Copy_m (e:List Z2) (h:List Z5) (q:List Z3):Option ((List Z2)×(List Z5)×(List Z3)):=
 (oB (s_l18CopyConf_m N e h) fun i=>iter (fun o (a,n,p,b,k,j,c)=>bif decide (a<(b.length:Int))then oB (idx b a) fun l=>(oB (s_l18CopySeg_m N l.1.1 l.1.2) fun f=>oB (idx b a) fun d=>if room ([]:List Int).length d.2.length 8 then if room c.length ([(f,(([]:List Int)++d.2))]:List Z3).length 72 then if fits (a+1)then o ((a+1),n,p,b,k,j,(c++([(f,(([]:List Int)++d.2))]:List Z3)))else none else none else none)else some (k,j,c)) N ((0:Int),e,h,q,i.1,i.2,([]:List Z3)))
theorem jL0 :mK 99 (bX [.agg [.pv (.sl .str),.pv Y20,.pv Y1]] [.agg [.own 1 .str 9 true,.own 2 Y22 172 true,.own 3 Y2 96 true]] (c3A (s_l18Copy_m N))):=
 mO (fC (jMp N) (fC (jK3 N) ja)) func99 rfl N (.seq .no (.seq .no (.seq (.seq .no (.block (.loop jMK .no))) .no))) _
def jLU :Sh:=⟨.pv Y25::pI::dz 3 (pI::dz 42 []),[]⟩
def s_l8Put_m (p:List Int) (n:Int):Option ((List Int)):=
 (iter (fun r (a,c,b)=>bif decide (b<(a.length:Int))then oB (idx a b) fun o=>(bif decide (o<c)then if fits (b+1)then r (a,c,(b+1))else none else bif decide (b<(a.length:Int))then oB (idx a b) fun t=>(bif decide (t=c)then some a else oB (cut a 0 b) fun d=>if room ([]:List Int).length d.length 8 then if room (([]:List Int)++d).length ([c]:List Int).length 8 then oB (cut a b (a.length:Int)) fun j=>(if room ((([]:List Int)++d)++([c]:List Int)).length j.length 8 then some (((([]:List Int)++d)++([c]:List Int))++j)else none)else none else none)else oB (cut a 0 b) fun h=>if room ([]:List Int).length h.length 8 then if room (([]:List Int)++h).length ([c]:List Int).length 8 then oB (cut a b (a.length:Int)) fun i=>(if room ((([]:List Int)++h)++([c]:List Int)).length i.length 8 then some (((([]:List Int)++h)++([c]:List Int))++i)else none)else none else none)else bif decide (b<(a.length:Int))then oB (idx a b) fun m=>(bif decide (m=c)then some a else oB (cut a 0 b) fun f=>if room ([]:List Int).length f.length 8 then if room (([]:List Int)++f).length ([c]:List Int).length 8 then oB (cut a b (a.length:Int)) fun l=>(if room ((([]:List Int)++f)++([c]:List Int)).length l.length 8 then some (((([]:List Int)++f)++([c]:List Int))++l)else none)else none else none)else oB (cut a 0 b) fun e=>if room ([]:List Int).length e.length 8 then if room (([]:List Int)++e).length ([c]:List Int).length 8 then oB (cut a b (a.length:Int)) fun k=>(if room ((([]:List Int)++e)++([c]:List Int)).length k.length 8 then some (((([]:List Int)++e)++([c]:List Int))++k)else none)else none else none) N (p,n,(0:Int)))
theorem jLS :mK 301 (bX [.pv Y25,pI] [.pv Y25] (c2A (s_l8Put_m N))):=
 mO ja func301 rfl N (.seq .no (.seq .no (.seq (.block (.loop jLU .no)) .no))) _
def jL4 :Sh:=⟨.dead::pI:: .box 2 0:: .dead:: .box 4 0:: .dead:: .box 6 0::pB::pI::dz 43 [],[(2,false,[.pv (.sl .str),.pv Y20,.pv Y1]),(4,false,[.nils,.nils,.nils]),(6,false,[.pv (.sl .str),.pv Y20,.own 700602 Y2 96 false])]⟩
def jLD :Sh:=⟨.dead::pI:: .box 2 0:: .dead:: .box 4 0:: .dead:: .box 6 0::pB::pI:: .box 9 0::dz 42 [],[(2,false,[.pv (.sl .str),.pv Y20,.pv Y1]),(4,false,[.nils,.nils,.nils]),(6,false,[.pv (.sl .str),.pv Y20,.own 700602 Y2 96 false]),(9,false,[.pv Y4,.pv Y6,.pv Y25])]⟩
def s_l18Gone_m (r:List Z2) (n:List Z5) (y:List Z3) (v:Int):Z20:=
 (iter (fun H (b,k,d,m,j,c,f,h,e)=>bif decide (d<(c.length:Int))then oB (idx c d) fun a=>(meet (fun(l:Int×Bool×Int×(List Z2)×(List Z5)×(List Z3)×(List Z2)×(List Z5)×(List Z3)×(List Z0)×(List Z1)×(List Int))=>match l with|(I,A,q,w,E,x,B,G,t,u,o,p)=>if room t.length ([((u,o),p)]:List Z3).length 72 then if fits (q+1)then H (I,A,(q+1),w,E,x,B,G,(t++([((u,o),p)]:List Z3)))else none else none) fun i=>oB (jyv N a.1.1 a.1.2 b) fun D=>bif !decide (D.1=0)then oB (s_l18Dead_m N a.1.1 a.1.2 a.2 b) fun C=>(bif !C then if room ([]:List Int).length a.2.length 8 then oB (s_l8Put_m N (([]:List Int)++a.2) b) fun z=>(i (b,true,d,m,j,c,f,h,e,a.1.1,a.1.2,z))else none else i (b,k,d,m,j,c,f,h,e,a.1.1,a.1.2,a.2))else i (b,k,d,m,j,c,f,h,e,a.1.1,a.1.2,a.2))else some (f,h,e,k)) N (v,false,(0:Int),r,n,y,r,n,([]:List Z3)))
theorem jLr :mK 238 (bX [.agg [.pv (.sl .str),.pv Y20,.pv Y1],pI] [.tup [.agg [.pv (.sl .str),.pv Y20,.own 1 Y2 96 false],pB]] (c4A (s_l18Gone_m N))):=
 mO (fC (jDn N) (fC (jIy N) (fC (jLS N) ja))) func238 rfl N (.seq .no (.seq .no (.seq .no (.seq (.seq .no (.block (.loop jL4 (.seq .no (.seq (.block (.seq .no (.meet jLD .no .no))) .no))))) .no)))) _
def jL1 :Sh:=⟨.dead:: .box 1 0:: .box 2 0:: .box 3 0::pI::dz 37 [],[(1,false,[.pv (.sl .str),.pv Y20,.pv Y1]),(2,false,[.nils,.nils,.nils]),(3,false,[.pv (.sl .str),.pv Y20,.own 700302 Y2 96 false])]⟩
def s_l18Full_m (h:List Z2) (i:List Z5) (o:List Z3):Option ((List Z2)×(List Z5)×(List Z3)):=
 (iter (fun k (a,j,l,b,e,d,c)=>bif decide (a<(b.length:Int))then oB (idx b a) fun p=>(oB (idx b a) fun n=>bif decide ((p.2.length:Int)<(n.1.1.length:Int))then oB (idx b a) fun f=>(if room c.length ([f]:List Z3).length 72 then if fits (a+1)then k ((a+1),j,l,b,e,d,(c++([f]:List Z3)))else none else none)else if fits (a+1)then k ((a+1),j,l,b,e,d,c)else none)else some (e,d,c)) N ((0:Int),h,i,o,h,i,([]:List Z3)))
theorem jM5 :mK 239 (bX [.agg [.pv (.sl .str),.pv Y20,.pv Y1]] [.agg [.pv (.sl .str),.pv Y20,.own 1 Y2 96 false]] (c3A (s_l18Full_m N))):=
 mO ja func239 rfl N (.seq .no (.seq .no (.seq (.seq .no (.block (.loop jL1 .no))) .no))) _
def s_IndexDrop_m (d:List Z2) (e:List Z5) (f:List Z3) (h:Int):Z20:=
 (oB (s_l18Ok_m N d e f) fun i=>bif !i then some (([]:List Z2),([]:List Z5),([]:List Z3),false)else oB (s_l18Copy_m N d e f) fun b=>oB (s_l18Gone_m N b.1 b.2.1 b.2.2 h) fun a=>oB (s_l18Full_m N a.1 a.2.1 a.2.2.1) fun c=>some (c.1,c.2.1,c.2.2,a.2.2.2))
theorem jLL :mK 166 (bX [.agg [.pv (.sl .str),.pv Y20,.pv Y1],pI] [.tup [.agg [.pv (.sl .str),.pv Y20,.own 1 Y2 96 false],pB]] (c4A (s_IndexDrop_m N))):=
 mO (fC (jIW N) (fC (jL0 N) (fC (jLr N) (fC (jM5 N) ja)))) func166 rfl N .no _
def s_IndexMerge_m (d:List Z2) (e:List Z5) (b:List Z3) (a:Int):Z20:=
 (oB (s_l18Ok_m N d e b) fun m=>bif !m then some (([]:List Z2),([]:List Z5),([]:List Z3),false)else if fits ((b.length:Int)-2)then oB (s_l1In_m N a 0 ((b.length:Int)-2)) fun k=>(bif !k then oB (s_l18Copy_m N d e b) fun i=>(some (i.1,i.2.1,i.2.2,false))else if fits (a+2)then oB (cut b a (a+2)) fun l=>(oB (s_l18Docs_m N ([]:List Z2) ([]:List Z5) l) fun n=>oB (s_l18Copy_m N d e b) fun c=>oB (cut c.2.2 0 a) fun f=>if room ([]:List Z3).length f.length 72 then oB (s_l7Of_m N d e n) fun h=>(if room (([]:List Z3)++f).length ([(h,([]:List Int))]:List Z3).length 72 then if fits (a+2)then oB (cut c.2.2 (a+2) (c.2.2.length:Int)) fun j=>(if room ((([]:List Z3)++f)++([(h,([]:List Int))]:List Z3)).length j.length 72 then some (c.1,c.2.1,(((([]:List Z3)++f)++([(h,([]:List Int))]:List Z3))++j),true)else none)else none else none)else none)else none)else none)
theorem jNO :mK 167 (bX [.agg [.pv (.sl .str),.pv Y20,.pv Y1],pI] [.tup [.agg [.own 1 .str 9 true,.own 2 Y22 172 true,.own 3 Y2 96 false],pB]] (c4A (s_IndexMerge_m N))):=
 mO (fC (jIW N) (fC (jcL N) (fC (jL0 N) (fC (jH3 N) (fC (jmU N) ja))))) func167 rfl N .no _
def jtY (b:List Z2) (c:List Int) (d:Int):Option (Z2×(List Int)×Int):=
 (oB (jtW N (b.length:Int) c d) fun a=>oB (idx b a.1) fun e=>some (e,a.2.1,a.2.2))
theorem jt3 :mK 139 ⟨⟨[.box 900000 0,.pv (.sl .str)],[(900000,false,[.pv (.sl (.int .u8)),pI])]⟩,⟨[pS],[(900000,false,[.pv (.sl (.int .u8)),pI])]⟩,c3A (jtY N)⟩:=
 mO (fC (jtX N) ja) func139 rfl N .no _ (rs:=[900000])
def jt1 (b:List Int) (c:Int):Option (Z2×(List Int)×Int):=
 (oB (jtY N ([([99,97,116]:List UInt8),([67,97,116,115]:List UInt8),([100,111,103]:List UInt8),([100,111,103,115]:List UInt8),([114,117,110]:List UInt8),([82,85,78,78,73,78,71]:List UInt8),([116,104,101]:List UInt8),([114,101,100]:List UInt8),([98,105,103]:List UInt8),([110,101,119,32,121,111,114,107]:List UInt8),([78,101,119,32,32,89,111,114,107]:List UInt8),([110,121]:List UInt8),([102,111,120]:List UInt8),([112,97,115,115,101,100]:List UInt8),([120,49]:List UInt8),([97,118,101,114,121,118,101,114,121,108,111,110,103,119,111,114,100]:List UInt8)]:List Z2) b c) fun a=>some (a.1,a.2.1,a.2.2))
theorem jvg :mK 335 ⟨⟨[.box 900000 0],[(900000,false,[.pv (.sl (.int .u8)),pI])]⟩,⟨[pS],[(900000,false,[.pv (.sl (.int .u8)),pI])]⟩,c2A (jt1 N)⟩:=
 mO (fC (jt3 N) ja) func335 rfl N .no _ (rs:=[900000])
def juP :Sh:=⟨.box 900000 0:: .dead:: .dead::pS::pI::dz 15 [],[(900000,false,[.pv (.sl (.int .u8)),pI])]⟩
def jtZ (l:List Int) (i:Int):Option (Z2×(List Int)×Int):=
 (oB (jtW N 9 l i) fun e=>iter (fun k (b,d,f,h)=>bif decide ((0:Int)<d)then oB (jt1 N f h) fun a=>(if b.length+a.1.length<=9223372036854775807 then oB (jtY N ([([32]:List UInt8),([32]:List UInt8),([44,32]:List UInt8),([45]:List UInt8),([46,32]:List UInt8)]:List Z2) a.2.1 a.2.2) fun c=>(if(b++a.1).length+c.1.length<=9223372036854775807 then if fits (d-1)then k (((b++a.1)++c.1),(d-1),c.2.1,c.2.2)else none else none)else none)else some (b,f,h)) N (([]:List UInt8),e.1,e.2.1,e.2.2))
theorem juT :mK 302 ⟨⟨[.box 900000 0],[(900000,false,[.pv (.sl (.int .u8)),pI])]⟩,⟨[pS],[(900000,false,[.pv (.sl (.int .u8)),pI])]⟩,c2A (jtZ N)⟩:=
 mO (fC (jtX N) (fC (jvg N) (fC (jt3 N) ja))) func302 rfl N (.seq .no (.seq .no (.seq (.seq .no (.block (.loop juP .no))) .no))) _ (rs:=[900000])
def juy :Sh:=⟨.box 900000 0::dz 3 (.box 4 0:: .box 5 0::dz 48 []),[(4,false,[pI,.nils,.nils]),(5,false,[pI,.own 28 Y24 107 true,.own 39 Y21 258 true]),(900000,false,[.pv (.sl (.int .u8)),pI])]⟩
def juX :Sh:=⟨.box 900000 0::dz 3 (.box 4 0:: .box 5 0::dz 48 []),[(4,false,[pI,.nils,.nils]),(5,false,[pI,.own 28 Y24 107 true,.nils]),(900000,false,[.pv (.sl (.int .u8)),pI])]⟩
def jvb :Sh:=⟨.box 900000 0::dz 3 (.box 4 0:: .box 5 0::dz 48 []),[(4,false,[pI,.nils,.nils]),(5,false,[pI,.own 17 Y24 107 true,.nils]),(900000,false,[.pv (.sl (.int .u8)),pI])]⟩
def s_l30Doc_m (m:Int) (G:List Int) (A:Int):Option (Int×Z13×Z8×(List Int)×Int):=
 (meet (fun(f:Int×Int×Z13×(List Int)×Int)=>match f with|(n,u,k,D,C)=>meet (fun(f:Int×Int×Z13×(List Int)×Int)=>match f with|(t,v,q,E,B)=>meet (fun(f:Int×Int×Z13×Z8×(List Int)×Int)=>match f with|(H,w,p,l,z,y)=>oB (jtW N 3 z y) fun d=>bif decide (d.1=0)then oB (jtW N 30 d.2.1 d.2.2) fun e=>(if fits (2000+e.1)then if room l.length ([(([121,101,97,114]:List UInt8),(2000+e.1))]:Z10).length 24 then some (w,p,(l++([(([121,101,97,114]:List UInt8),(2000+e.1))]:Z10)),e.2.1,e.2.2)else none else none)else some (w,p,l,d.2.1,d.2.2)) fun r=>oB (jtW N 3 E B) fun b=>bif decide ((0:Int)<b.1)then oB (jtW N 4 b.2.1 b.2.2) fun h=>(if room ([]:Z10).length ([(([114,97,116,101]:List UInt8),h.1)]:Z10).length 24 then r (t,v,q,(([]:Z10)++([(([114,97,116,101]:List UInt8),h.1)]:Z10)),h.2.1,h.2.2)else none)else r (t,v,q,([]:Z10),b.2.1,b.2.2)) fun x=>oB (jtW N 3 D C) fun a=>bif decide (a.1=0)then oB (jtZ N a.2.1 a.2.2) fun i=>(if room k.length ([(([116,105,116,108,101]:List UInt8),i.1)]:Z16).length 32 then x (n,u,(k++([(([116,105,116,108,101]:List UInt8),i.1)]:Z16)),i.2.1,i.2.2)else none)else x (n,u,k,a.2.1,a.2.2)) fun o=>oB (jtW N 6 G A) fun c=>bif decide ((0:Int)<c.1)then oB (jtZ N c.2.1 c.2.2) fun j=>(if room ([]:Z16).length ([(([98,111,100,121]:List UInt8),j.1)]:Z16).length 32 then o (0,m,(([]:Z16)++([(([98,111,100,121]:List UInt8),j.1)]:Z16)),j.2.1,j.2.2)else none)else o (0,m,([]:Z16),c.2.1,c.2.2))
theorem jvf :mK 240 ⟨⟨[.box 900000 0,pI],[(900000,false,[.pv (.sl (.int .u8)),pI])]⟩,⟨[.agg [pI,.own 1 Y24 107 true,.own 2 Y21 258 true]],[(900000,false,[.pv (.sl (.int .u8)),pI])]⟩,c3A (s_l30Doc_m N)⟩:=
 mO (fC (jtX N) (fC (juT N) ja)) func240 rfl N (.seq .no (.seq .no (.meet jvb .no (.meet juX .no (.meet juy .no .no))))) _ (rs:=[900000])
def juU :Sh:=⟨.box 900000 0:: .dead:: .dead:: .own 600003 Y5 105 true::pI::pI::dz 19 [],[(900000,false,[.pv (.sl (.int .u8)),pI])]⟩
def s_l30Docs_m (m:List Int) (j:Int):Option ((List Z0)×(List Int)×Int):=
 (oB (jtW N 6 m j) fun e=>iter (fun l (f,c,d,h,i)=>bif decide ((0:Int)<d)then if fits (c+1)then oB (jtW N 3 h i) fun b=>(if fits ((c+1)+b.1)then oB (s_l30Doc_m N ((c+1)+b.1) b.2.1 b.2.2) fun a=>(if room f.length ([(a.1,a.2.1,a.2.2.1)]:List Z0).length 56 then if fits (d-1)then l ((f++([(a.1,a.2.1,a.2.2.1)]:List Z0)),((c+1)+b.1),(d-1),a.2.2.2.1,a.2.2.2.2)else none else none)else none)else none else some (f,h,i)) N (([]:List Z0),(0:Int),e.1,e.2.1,e.2.2))
theorem juO :mK 169 ⟨⟨[.box 900000 0],[(900000,false,[.pv (.sl (.int .u8)),pI])]⟩,⟨[.own 1 Y5 105 true],[(900000,false,[.pv (.sl (.int .u8)),pI])]⟩,c2A (s_l30Docs_m N)⟩:=
 mO (fC (jtX N) (fC (jvf N) ja)) func169 rfl N (.seq .no (.seq .no (.seq .no (.seq (.seq .no (.block (.loop juU .no))) .no)))) _ (rs:=[900000])
def jNS :Sh:=⟨.dead:: .pv Y4:: .box 2 0:: .dead:: .box 4 0:: .dead:: .box 6 0::pI::dz 53 [],[(2,false,[.pv (.sl .str),.pv Y20,.pv Y1]),(4,false,[.nils,.nils,.nils]),(6,false,[.pv (.sl .str),.pv Y20,.own 700602 Y2 96 false])]⟩
def s_IndexAdd_m (d:List Z2) (b:List Z5) (c:List Z3) (k:List Z0):Z20:=
 (oB (s_l18Ok_m N d b c) fun y=>bif !y then some (([]:List Z2),([]:List Z5),([]:List Z3),false)else oB (jbU N k) fun w=>bif !w then oB (s_l18Copy_m N d b c) fun m=>(some (m.1,m.2.1,m.2.2,false))else bif decide ((k.length:Int)=0)then oB (s_l18Copy_m N d b c) fun i=>(some (i.1,i.2.1,i.2.2,false))else oB (s_l18Copy_m N d b c) fun n=>iter (fun A (e,f,p,l,t,r,u,q)=>bif decide (f<(e.length:Int))then oB (idx e f) fun v=>(oB (s_l18Gone_m N r u q v.1) fun h=>if fits (f+1)then A (e,(f+1),p,l,t,h.1,h.2.1,h.2.2.1)else none)else oB (s_l18Full_m N r u q) fun a=>oB (s_l7Of_m N p l e) fun o=>if room a.2.2.length ([(o,([]:List Int))]:List Z3).length 72 then oB (s_l18Ok_m N a.1 a.2.1 (a.2.2++([(o,([]:List Int))]:List Z3))) fun x=>(bif !x then oB (s_l18Copy_m N p l t) fun j=>(some (j.1,j.2.1,j.2.2,false))else some (a.1,a.2.1,(a.2.2++([(o,([]:List Int))]:List Z3)),true))else none) N (k,(0:Int),d,b,c,n.1,n.2.1,n.2.2))
theorem jNM :mK 168 (bX [.agg [.pv (.sl .str),.pv Y20,.pv Y1],.pv Y4] [.tup [.agg [.pv (.sl .str),.pv Y20,.own 1 Y2 96 false],pB]] (c4A (s_IndexAdd_m N))):=
 mO (fC (jIW N) (fC (jpx N) (fC (jL0 N) (fC (jLr N) (fC (jM5 N) (fC (jmU N) ja)))))) func168 rfl N (.seq .no (.seq .no (.seq .no (.seq .no (.seq (.seq .no (.block (.loop jNS .no))) .no))))) _
def jOd :Sh:=⟨.box 900000 0:: .dead:: .box 2 0:: .box 3 0::pI::dz 47 [],[(2,false,[.nils,.nils,.nils]),(3,false,[.pv (.sl .str),.pv Y20,.own 700302 Y2 96 false]),(900000,false,[.pv (.sl (.int .u8)),pI])]⟩
def s_l30Index_m (v:List Int) (t:Int):Option ((List Z2)×(List Z5)×(List Z3)×(List Int)×Int):=
 (oB (s_l30Conf_m N v t) fun h=>oB (s_IndexNew_m N h.1 h.2.1) fun q=>oB (jtW N 7 h.2.2.1 h.2.2.2) fun k=>iter (fun o (b,f,c,d,p,r)=>bif decide ((0:Int)<b)then oB (jtW N 5 p r) fun a=>(bif decide (a.1=0)then oB (jtW N 8 a.2.1 a.2.2) fun e=>(if fits (1+e.1)then oB (s_IndexDrop_m N f c d (1+e.1)) fun i=>(if fits (b-1)then o ((b-1),i.1,i.2.1,i.2.2.1,e.2.1,e.2.2)else none)else none)else bif decide (a.1=1)then oB (jtW N 3 a.2.1 a.2.2) fun m=>(oB (s_IndexMerge_m N f c d m.1) fun n=>if fits (b-1)then o ((b-1),n.1,n.2.1,n.2.2.1,m.2.1,m.2.2)else none)else oB (s_l30Docs_m N a.2.1 a.2.2) fun l=>oB (s_IndexAdd_m N f c d l.1) fun j=>if fits (b-1)then o ((b-1),j.1,j.2.1,j.2.2.1,l.2.1,l.2.2)else none)else some (f,c,d,p,r)) N (k.1,q.1,q.2,([]:List Z3),k.2.1,k.2.2))
theorem jNR :mK 100 ⟨⟨[.box 900000 0],[(900000,false,[.pv (.sl (.int .u8)),pI])]⟩,⟨[.agg [.pv (.sl .str),.pv Y20,.own 1 Y2 96 false]],[(900000,false,[.pv (.sl (.int .u8)),pI])]⟩,c2A (s_l30Index_m N)⟩:=
 mO (fC (jva N) (fC (jOh N) (fC (jtX N) (fC (jLL N) (fC (jNO N) (fC (juO N) (fC (jNM N) ja))))))) func100 rfl N (.seq .no (.seq .no (.seq (.seq .no (.block (.loop jOd .no))) .no))) _ (rs:=[900000])
def s_l30Rd_one_m (b:List Int) (c:List Int) (d:Int):Option (Int×(List Int)×Int):=
 (oB (jtW N (b.length:Int) c d) fun a=>oB (idx b a.1) fun e=>some (e,a.2.1,a.2.2))
theorem juA :mK 41 ⟨⟨[.box 900000 0,.pv Y25],[(900000,false,[.pv (.sl (.int .u8)),pI])]⟩,⟨[pI],[(900000,false,[.pv (.sl (.int .u8)),pI])]⟩,c3A (s_l30Rd_one_m N)⟩:=
 mO (fC (jtX N) ja) func41 rfl N .no _ (rs:=[900000])
def s_l30AnyIndex_m (m:List Int) (l:Int):Option ((List Z2)×(List Z5)×(List Z3)×(List Int)×Int):=
 (oB (s_l30Index_m N m l) fun d=>oB (s_l18Copy_m N d.1 d.2.1 d.2.2.1) fun a=>bif decide ((0:Int)<a.2.2.length)then oB (jtW N (a.2.2.length:Int) d.2.2.2.1 d.2.2.2.2) fun b=>(oB (jtW N 16 b.2.1 b.2.2) fun c=>bif decide (c.1=0)then oB (a.2.2[b.1.toNat]?) fun j=>(if 0<=b.1/\b.1<(a.2.2.length:Int)then oB (a.2.2[b.1.toNat]?) fun o=>(if b.1.toNat=b.1.toNat then oB (s_l30Rd_one_m N ([1,77]:List Int) c.2.1 c.2.2) fun e=>(if room j.2.length ([e.1]:List Int).length 8 then if 0<=b.1/\b.1<(a.2.2.length:Int)then if b.1.toNat=b.1.toNat then oB (a.2.2[b.1.toNat]?) fun k=>(some (a.1,a.2.1,(a.2.2.set b.1.toNat (k.1,(j.2++([e.1]:List Int)))),e.2.1,e.2.2))else none else none else none)else none)else none)else bif decide (c.1=1)then if 0<=b.1/\b.1<(a.2.2.length:Int)then oB (a.2.2[b.1.toNat]?) fun h=>(if room a.2.2.length ([h]:List Z3).length 72 then some (a.1,a.2.1,(a.2.2++([h]:List Z3)),c.2.1,c.2.2)else none)else none else bif decide (c.1=2)then oB (a.2.2[b.1.toNat]?) fun f=>(if 0<=b.1/\b.1<(a.2.2.length:Int)then oB (a.2.2[b.1.toNat]?) fun n=>(if b.1.toNat=b.1.toNat then if room f.1.2.length ([(([]:List UInt8),([]:List UInt8),([]:Z7))]:List Z1).length 56 then if 0<=b.1/\b.1<(a.2.2.length:Int)then if b.1.toNat=b.1.toNat then oB (a.2.2[b.1.toNat]?) fun i=>(some (a.1,a.2.1,(a.2.2.set b.1.toNat ((i.1.1,(f.1.2++([(([]:List UInt8),([]:List UInt8),([]:Z7))]:List Z1))),i.2)),c.2.1,c.2.2))else none else none else none else none)else none)else some (a.1,a.2.1,a.2.2,c.2.1,c.2.2))else some (a.1,a.2.1,a.2.2,d.2.2.2.1,d.2.2.2.2))
theorem jNZ :mK 39 ⟨⟨[.box 900000 0],[(900000,false,[.pv (.sl (.int .u8)),pI])]⟩,⟨[.agg [.own 1 .str 9 true,.own 2 Y22 172 true,.own 3 Y2 96 false]],[(900000,false,[.pv (.sl (.int .u8)),pI])]⟩,c2A (s_l30AnyIndex_m N)⟩:=
 mO (fC (jNR N) (fC (jL0 N) (fC (jtX N) (fC (juA N) ja)))) func39 rfl N (.seq .no (.seq .no (.seq (.seq .no (.cond (.seq .no (.seq .no (.block (.seq .no (.cond (.touch [.outs 9 4 [(2,200,3)]]) (.seq .no (.cond (.touch [.thaw 3 2]) (.seq .no (.cond (.touch [.outs 9 4 [(1,201,116)]]) .no))))))))) .no)) .no))) _ (wr:=[34,47,62,63]) (rs:=[900000]) (dw:=[7,62])
def s_l30Known_m (N:Nat):Option ((List Z2)):=
 (some ([([99,97,116]:List UInt8),([99,97,116,115]:List UInt8),([100,111,103]:List UInt8),([100,111,103,115]:List UInt8),([114,117,110]:List UInt8),([114,117,110,110,105,110,103]:List UInt8),([116,104,101]:List UInt8),([114,101,100]:List UInt8),([98,105,103]:List UInt8),([110,101,119]:List UInt8),([121,111,114,107]:List UInt8),([110,121]:List UInt8),([102,111,120]:List UInt8)]:List Z2))
theorem jGd :mK 140 ⟨⟨[],[]⟩,⟨[.own 1 .str 9 true],[]⟩,fun a=>s_l30Known_m N⟩:=
 mO ja func140 rfl N .no _
def s_l30Leaf_m (o:List Int) (n:Int):Option (Int×Z2×(List Z2)×Int×Int×(List Int)×Int):=
 (oB (jtY N ([([98,111,100,121]:List UInt8),([98,111,100,121]:List UInt8),([116,105,116,108,101]:List UInt8)]:List Z2) o n) fun b=>oB (jtW N 9 b.2.1 b.2.2) fun a=>bif decide (a.1=0)then some (1,([]:List UInt8),([]:List Z2),0,0,a.2.1,a.2.2)else bif decide (a.1=1)then oB (s_l30Known_m N) fun p=>(oB (jtY N p a.2.1 a.2.2) fun k=>oB (s_l30Known_m N) fun q=>oB (jtY N q k.2.1 k.2.2) fun i=>oB (jtW N 3 i.2.1 i.2.2) fun f=>some (3,b.1,([k.1,i.1]:List Z2),f.1,0,f.2.1,f.2.2))else bif decide (a.1=2)then oB (jtY N ([([99,111,116]:List UInt8),([100,117,103]:List UInt8),([114,110]:List UInt8),([102,111,103]:List UInt8)]:List Z2) a.2.1 a.2.2) fun h=>(oB (jtW N 2 h.2.1 h.2.2) fun d=>if fits (1+d.1)then some (4,b.1,([h.1]:List Z2),(1+d.1),0,d.2.1,d.2.2)else none)else bif decide (a.1=3)then oB (jtY N ([([99,42]:List UInt8),([63,111,63]:List UInt8),([42,110]:List UInt8),([42]:List UInt8)]:List Z2) a.2.1 a.2.2) fun l=>(some (5,b.1,([l.1]:List Z2),0,0,l.2.1,l.2.2))else bif decide (a.1=4)then oB (jtW N 4 a.2.1 a.2.2) fun c=>(oB (jtW N 3 c.2.1 c.2.2) fun e=>if fits (c.1+e.1)then some (6,([114,97,116,101]:List UInt8),([]:List Z2),c.1,(c.1+e.1),e.2.1,e.2.2)else none)else oB (s_l30Known_m N) fun m=>oB (jtY N m a.2.1 a.2.2) fun j=>some (2,b.1,([j.1]:List Z2),0,0,j.2.1,j.2.2))
theorem jGD :mK 64 ⟨⟨[.box 900000 0],[(900000,false,[.pv (.sl (.int .u8)),pI])]⟩,⟨[.agg [pI,pS,.own 1 .str 9 true,pI,pI,.nils]],[(900000,false,[.pv (.sl (.int .u8)),pI])]⟩,c2A (s_l30Leaf_m N)⟩:=
 mO (fC (jt3 N) (fC (jtX N) (fC (jGd N) ja))) func64 rfl N .no _ (rs:=[900000])
def s_l1Dec_m (N:Nat):(D:Nat)->Int->Option (Z2)
 |0,_=>none
 |D+1,n=>
 bif decide (n<(-9223372036854775807))then
 some ([45,57,50,50,51,51,55,50,48,51,54,56,53,52,55,55,53,56,48,56]:List UInt8)
 else
 bif decide (n<0)then
 if fits (0-n)then oB (s_l1Dec_m N D (0-n)) fun r=>
 (if([45]:List UInt8).length+r.length<=9223372036854775807 then
 some (([45]:List UInt8)++r)
 else none)else none
 else
 bif decide (n<10)then
 if fits (48+n)then some (bytesOf ([(IntKind.u8.wrap (48+n))]:List Int))else none
 else
 if 10≠0 then
 if fits (n.tdiv 10)then oB (s_l1Dec_m N D (n.tdiv 10)) fun r2=>
 (if 10≠0 then
 if fits (48+(n.tmod 10))then if r2.length+(bytesOf ([(IntKind.u8.wrap (48+(n.tmod 10)))]:List Int)).length<=9223372036854775807 then
 some (r2++(bytesOf ([(IntKind.u8.wrap (48+(n.tmod 10)))]:List Int)))
 else none else none
 else none)else none
 else none
def jOp (N D:Nat):Model:=⟨⟨[pI],[]⟩,⟨[pS],[]⟩,c1A (s_l1Dec_m N D)⟩
theorem jPg (N D:Nat) (ih:mK 142 (jOp N D)):mK 142 (jOp N (D+1)):=
 mO (fC ih ja) func142 rfl N .no (jOp N (D+1))
theorem jOx (N:Nat):∀D,mK 142 (jOp N D)
 |0=>modelOk_none ⟨_,func142,by decide,by kernel_rfl⟩ _ (fun a=>rfl)
 |D+1=>jPg N D (jOx N D)
def jAu :Sh:=⟨.pv (.sl .str)::pS::dz 3 (pS::pI::dz 18 []),[]⟩
def jxS (m:List Z2) (l:List UInt8):Option (Z2):=
 (iter (fun n (f,a,c,b)=>bif decide (b<(f.length:Int))then meet (fun(d:(List Z2)×Z2×Z2×Int)=>match d with|(h,o,i,e)=>oB (idx h e) fun k=>if i.length+k.length<=9223372036854775807 then if fits (e+1)then n (h,o,(i++k),(e+1))else none else none) fun j=>(bif decide ((0:Int)<b)then if c.length+a.length<=9223372036854775807 then j (f,a,(c++a),b)else none else j (f,a,c,b))else some c) N (m,l,([]:List UInt8),(0:Int)))
theorem jAy :mK 143 (bX [.pv (.sl .str),pS] [pS] (c2A (jxS N))):=
 mO ja func143 rfl N (.seq .no (.seq .no (.seq (.seq .no (.block (.loop jAu (.seq .no (.seq (.block (.meet jAu .no .no)) .no))))) .no))) _
def jOX :Sh:=⟨.dead:: .box 1 0:: .dead:: .own 10 .str 9 true::dz 8 (pI:: .dead:: .dead::pB::dz 77 []),[(1,false,[pI,pS,.pv (.sl .str),pI,pI,.pv (.sl .q)])]⟩
def jPo :Sh:=⟨.dead:: .box 1 0:: .dead:: .dead::pS::pI::dz 87 [],[(1,false,[pI,pS,.pv (.sl .str),pI,pI,.pv (.sl .q)])]⟩
def s_l11Put_m (N:Nat):(D:Nat)->Int->Z2->(List Z2)->Int->Int->(List DQ)->Option (Z2)
 |0,_,_,_,_,_,_=>none
 |D+1,q,q2,q3,q4,q5,q6=>
 oB (s_l1Dec_m N N q4) fun r=>
 if([116,105,109,101,115,32]:List UInt8).length+r.length<=9223372036854775807 then
 bif decide (q=1)then
 some ([97,108,108]:List UInt8)
 else
 (meet (fun(g:(List Z2)×Int×Bool×Int×Z2×(List Z2)×Int×Int×(List DQ))=>
 match g with
 |(heads,t12,t15,q7,q8,q9,q10,q11,q12)=>
 bif t15 then
 if q8.length+([58]:List UInt8).length<=9223372036854775807 then
 oB (idx q9 0) fun e=>
 (if(q8++([58]:List UInt8)).length+e.length<=9223372036854775807 then
 some ((q8++([58]:List UInt8))++e)
 else none)
 else none
 else
 bif decide (t12=3)then
 if q8.length+([58]:List UInt8).length<=9223372036854775807 then
 oB (jxS N q9 ([43]:List UInt8)) fun r2=>
 (if(q8++([58]:List UInt8)).length+r2.length<=9223372036854775807 then
 if((q8++([58]:List UInt8))++r2).length+([126]:List UInt8).length<=9223372036854775807 then
 oB (s_l1Dec_m N N q10) fun r3=>
 (if(((q8++([58]:List UInt8))++r2)++([126]:List UInt8)).length+r3.length<=9223372036854775807 then
 some ((((q8++([58]:List UInt8))++r2)++([126]:List UInt8))++r3)
 else none)
 else none
 else none)
 else none
 else
 bif decide (t12=4)then
 if q8.length+([58]:List UInt8).length<=9223372036854775807 then
 oB (idx q9 0) fun e2=>
 (if(q8++([58]:List UInt8)).length+e2.length<=9223372036854775807 then
 if((q8++([58]:List UInt8))++e2).length+([37]:List UInt8).length<=9223372036854775807 then
 oB (s_l1Dec_m N N q10) fun r4=>
 (if(((q8++([58]:List UInt8))++e2)++([37]:List UInt8)).length+r4.length<=9223372036854775807 then
 some ((((q8++([58]:List UInt8))++e2)++([37]:List UInt8))++r4)
 else none)
 else none
 else none)
 else none
 else
 bif decide (t12=6)then
 if q8.length+([61]:List UInt8).length<=9223372036854775807 then
 oB (s_l1Dec_m N N q10) fun r5=>
 (if(q8++([61]:List UInt8)).length+r5.length<=9223372036854775807 then
 if((q8++([61]:List UInt8))++r5).length+([46,46]:List UInt8).length<=9223372036854775807 then
 oB (s_l1Dec_m N N q11) fun r6=>
 (if(((q8++([61]:List UInt8))++r5)++([46,46]:List UInt8)).length+r6.length<=9223372036854775807 then
 some ((((q8++([61]:List UInt8))++r5)++([46,46]:List UInt8))++r6)
 else none)
 else none
 else none)
 else none
 else
 oB (idx heads q7) fun e3=>
 if([40]:List UInt8).length+e3.length<=9223372036854775807 then
 iter (fun go (g:Z2×Int×Int×Z2×(List Z2)×Int×Int×(List DQ))=>
 match g with
 |(out,i,q13,q14,q15,q16,q17,q18)=>
 bif decide (i<(q18.length:Int))then
 if out.length+([32]:List UInt8).length<=9223372036854775807 then
 oB (idx q18 i) fun e4=>
 (oB (s_l11Put_m N D e4.kind e4.field e4.words e4.lo e4.hi e4.kids) fun r7=>
 if(out++([32]:List UInt8)).length+r7.length<=9223372036854775807 then
 if fits (i+1)then go (((out++([32]:List UInt8))++r7),(i+1),q13,q14,q15,q16,q17,q18)else none
 else none)
 else none
 else
 if out.length+([41]:List UInt8).length<=9223372036854775807 then
 some (out++([41]:List UInt8))
 else none) N ((([40]:List UInt8)++e3),0,q7,q8,q9,q10,q11,q12)
 else none) fun J=>
 bif decide (q=2)then
 J (([([]:List UInt8),([]:List UInt8),([]:List UInt8),([]:List UInt8),([]:List UInt8),([]:List UInt8),([]:List UInt8),([97,110,100]:List UInt8),([111,114]:List UInt8),([108,101,115,115]:List UInt8),(([116,105,109,101,115,32]:List UInt8)++r)]:List Z2),q,true,q,q2,q3,q4,q5,q6)
 else
 J (([([]:List UInt8),([]:List UInt8),([]:List UInt8),([]:List UInt8),([]:List UInt8),([]:List UInt8),([]:List UInt8),([97,110,100]:List UInt8),([111,114]:List UInt8),([108,101,115,115]:List UInt8),(([116,105,109,101,115,32]:List UInt8)++r)]:List Z2),q,(decide (q=5)),q,q2,q3,q4,q5,q6))
 else none
def jOs (N D:Nat):Model:=⟨⟨[.agg [pI,pS,.pv (.sl .str),pI,pI,.pv (.sl .q)]],[]⟩,⟨[pS],[]⟩,c6A (s_l11Put_m N D)⟩
theorem jPl (N D:Nat) (ih:mK 66 (jOs N D)):mK 66 (jOs N (D+1)):=
 mO (fC ih (fC (jOx N N) (fC (jAy N) ja))) func66 rfl N (.seq .no (.seq .no (.seq (.seq .no (.block (.seq .no (.cond .no (.meet jOX .no .no))))) (.seq .no (.seq (.seq .no (.block (.loop jPo .no))) .no))))) (jOs N (D+1))
theorem jOu (N:Nat):∀D,mK 66 (jOs N D)
 |0=>modelOk_none ⟨_,func66,by decide,by kernel_rfl⟩ _ (fun a=>rfl)
 |D+1=>jPl N D (jOu N D)
def jyC (a:List Z2) (c:List Z5) (b:List UInt8):Option (Z2):=
 (oB (jcw N a c) fun f=>bif !f then some ([]:List UInt8)else oB (jT N b) fun e=>bif !e then some ([]:List UInt8)else oB (ja5 N a c b) fun d=>bif decide ((d.length:Int)=0)then some ([]:List UInt8)else oB (idx d 0) fun h=>some h.1)
theorem jCy :mK 180 (bX [.agg [.pv (.sl .str),.pv Y20],pS] [pS] (c3A (jyC N))):=
 mO (fC (jtf N) (fC (jgp N) (fC (jiO N) ja))) func180 rfl N .no _
def jtm :Sh:=⟨.dead::pS::pS:: .box 3 0::dz 3 (pI::dz 31 []),[(3,false,[.pv Y4,.pv Y6])]⟩
def s_l7Posts_m (k:List Z0) (i:List Z1) (l:List UInt8) (n:List UInt8):Option (Z17):=
 (iter (fun f (d,c,a,e,b)=>bif decide (a<(b.length:Int))then oB (idx b a) fun o=>(bif decide (o.1=d)then oB (idx b a) fun m=>(bif decide (m.2.1=c)then oB (idx b a) fun h=>(some h.2.2)else if fits (a+1)then f (d,c,(a+1),e,b)else none)else if fits (a+1)then f (d,c,(a+1),e,b)else none)else some ([]:Z7)) N (l,n,(0:Int),k,i))
theorem jh6 :mK 261 (bX [.agg [.pv Y4,.pv Y6],pS,pS] [.pv Y15] (c4A (s_l7Posts_m N))):=
 mO ja func261 rfl N (.seq .no (.seq (.seq .no (.block (.loop jtm .no))) .no)) _
def jst :Sh:=⟨dz 3 (pI::dz 5 (.pv Y15::pI::dz 22 [])),[]⟩
def s_l12At_m (i:List Z0) (f:List Z1) (j:List UInt8) (m:List UInt8) (d:Int):Option ((List Int)):=
 (oB (s_l7Posts_m N i f j m) fun e=>iter (fun k (c,b,a)=>bif decide (a<(b.length:Int))then oB (idx b a) fun n=>(bif decide (n.1=c)then oB (idx b a) fun l=>(some l.2)else if fits (a+1)then k (c,b,(a+1))else none)else some ([]:List Int)) N (d,e,(0:Int)))
theorem jn1 :mK 257 (bX [.agg [.pv Y4,.pv Y6],pS,pS,pI] [.pv Y25] (c5A (s_l12At_m N))):=
 mO (fC (jh6 N) ja) func257 rfl N (.seq .no (.seq .no (.seq (.seq .no (.block (.loop jst .no))) .no))) _
def jqS :Sh:=⟨.dead::pS::pI:: .box 3 0::dz 3 (pI::pI::dz 55 []),[(3,false,[.pv Y4,.pv Y6])]⟩
def jm7 :Sh:=⟨.dead::pS::pI:: .box 3 0::dz 3 (pI::pI::pI::dz 54 []),[(3,false,[.pv Y4,.pv Y6])]⟩
def s_l7Long_m (z:List Z0) (t:List Z1) (A:List UInt8) (q:Int):Z14:=
 (iter (fun n (v,r,k,m,x,o)=>bif decide (m<(o.length:Int))then iter (fun l (d,f,e,a,c,h,b)=>oB (idx b a) fun w=>bif decide (c<(w.2.2.length:Int))then oB (idx b a) fun B=>(bif decide (B.1=d)then oB (idx b a) fun p=>(oB (idx p.2.2 c) fun u=>bif decide (u.1=f)then oB (idx b a) fun y=>(oB (idx y.2.2 c) fun j=>if fits (e+(j.2.length:Int))then if fits (c+1)then l (d,f,(e+(j.2.length:Int)),a,(c+1),h,b)else none else none)else if fits (c+1)then l (d,f,e,a,(c+1),h,b)else none)else if fits (a+1)then n (d,f,e,(a+1),h,b)else none)else if fits (a+1)then n (d,f,e,(a+1),h,b)else none) N (v,r,k,m,(0:Int),x,o)else some k) N (A,q,(0:Int),(0:Int),z,t))
theorem jrY :mK 259 (bX [.agg [.pv Y4,.pv Y6],pS,pI] [pI] (c4A (s_l7Long_m N))):=
 mO ja func259 rfl N (.seq .no (.seq .no (.seq (.seq .no (.block (.loop jqS (.seq .no (.seq (.block (.seq .no (.block (.loop jm7 .no)))) .no))))) .no))) _
def jsB :Sh:=⟨.dead::pS:: .box 2 0:: .dead:: .dead::pI::pI::dz 43 [],[(2,false,[.pv Y4,.pv Y6])]⟩
def jnl :Sh:=⟨.dead::pS:: .box 2 0:: .dead:: .dead::pI::pI::pI::dz 42 [],[(2,false,[.pv Y4,.pv Y6])]⟩
def s_l12Total_m (u:List Z0) (o:List Z1) (v:List UInt8):Z14:=
 (iter (fun l (p,i,k,t,m)=>bif decide (k<(m.length:Int))then iter (fun r (c,e,a,d,f,b)=>oB (idx b a) fun q=>bif decide (d<(q.2.2.length:Int))then oB (idx b a) fun w=>(bif decide (w.1=c)then oB (idx b a) fun n=>(oB (idx n.2.2 d) fun j=>if fits (e+(j.2.length:Int))then if fits (d+1)then r (c,(e+(j.2.length:Int)),a,(d+1),f,b)else none else none)else if fits (a+1)then l (c,e,(a+1),f,b)else none)else if fits (a+1)then l (c,e,(a+1),f,b)else none) N (p,i,k,(0:Int),t,m)else some i) N (v,(0:Int),(0:Int),u,o))
theorem jn2 :mK 260 (bX [.agg [.pv Y4,.pv Y6],pS] [pI] (c3A (s_l12Total_m N))):=
 mO ja func260 rfl N (.seq .no (.seq .no (.seq (.seq .no (.block (.loop jsB (.seq .no (.seq (.block (.seq .no (.block (.loop jnl .no)))) .no))))) .no))) _
def jsx :Sh:=⟨pI::pI::dz 3 (pI::dz 13 []),[]⟩
def jbz (d:Int) (h:Int):Z14:=
 (iter (fun f (a,c,b)=>bif decide ((0:Int)<a)then if fits (a*2)then bif decide ((a*2)<=c)then if fits (a*2)then if fits (b+1)then f ((a*2),c,(b+1))else none else none else(some b)else none else some b) N (d,h,(0:Int)))
theorem jkd :mK 308 (bX [pI,pI] [pI] (c2A (jbz N))):=
 mO ja func308 rfl N (.seq .no (.seq .no (.seq (.block (.loop jsx .no)) .no))) _
def jkC :Sh:=⟨pI::pI::dz 15 [],[]⟩
def jaY (N:Nat):(D:Nat)->Int->Int->Z14
 |0,_,_=>none
 |D+1,a,b=>
 meet (fun(g:Int×Int)=>
 match g with
 |(a2,b2)=>
 bif decide (b2=0)then
 some a2
 else
 if b2≠0 then
 oB (jaY N D b2 (a2.tmod b2)) fun r=>
 (some r)
 else none) fun J=>
 bif decide (a<0)then
 if fits (0-a)then J ((0-a),b)else none
 else
 J (a,b)
def jcQ (N D:Nat):Model:=⟨⟨[pI,pI],[]⟩,⟨[pI],[]⟩,c2A (jaY N D)⟩
theorem jlI (N D:Nat) (ih:mK 337 (jcQ N D)):mK 337 (jcQ N (D+1)):=
 mO (fC ih ja) func337 rfl N (.seq .no (.meet jkC .no .no)) (jcQ N (D+1))
theorem jeF (N:Nat):∀D,mK 337 (jcQ N D)
 |0=>modelOk_none ⟨_,func337,by decide,by kernel_rfl⟩ _ (fun a=>rfl)
 |D+1=>jlI N D (jeF N D)
def jlg :Sh:=⟨pI::pI:: .dead:: .dead:: .box 4 0::dz 17 [],[(4,false,[pI,pI])]⟩
def jcf (c:Int) (b:Int):Option (Int×Int):=
 (meet (fun(h:Int×Int×Int×Int)=>match h with|(e,d,i,j)=>oB (jaY N N e d) fun a=>if a≠0 then if fits (e.tdiv a)then if a≠0 then if fits (d.tdiv a)then some ((e.tdiv a),(d.tdiv a))else none else none else none else none) fun f=>bif decide (b<0)then if fits (0-c)then if fits (0-b)then f ((0-c),(0-b),0,0)else none else none else f (c,b,0,0))
theorem jn4 :mK 307 (bX [pI,pI] [.agg [pI,pI]] (c2A (jcf N))):=
 mO (fC (jeF N N) ja) func307 rfl N (.seq .no (.meet jlg .no .no)) _
def jqT :Sh:=⟨pI:: .dead:: .dead::pI::pI::dz 5 (.box 10 0::pI::dz 21 []),[(10,false,[pI,pI])]⟩
def s_l12Term_m (f:Int) (d:Int) (e:Int) (b:Int) (h:Int):Option (Int×Int):=
 (meet (fun(m:Int×Int×Int×Int×Int×Int)=>match m with|(a,l,n,j,p,o)=>oB (jbz N n l) fun c=>if fits (1+c)then if fits ((1+c)*22)then if fits (((1+c)*22)*a)then if fits (10*a)then if fits ((10*a)+3)then if fits (((10*a)+3)+j)then oB (jcf N (((1+c)*22)*a) (((10*a)+3)+j)) fun i=>(some (i.1,i.2))else none else none else none else none else none else none) fun k=>bif decide ((0:Int)<e)then if fits (d*b)then if fits ((d*b)*9)then if e≠0 then if fits (((d*b)*9).tdiv e)then k (f,b,h,(((d*b)*9).tdiv e),0,0)else none else none else none else none else k (f,b,h,1,0,0))
theorem jtF :mK 258 (bX [pI,pI,pI,pI,pI] [.agg [pI,pI]] (c5A (s_l12Term_m N))):=
 mO (fC (jkd N) (fC (jn4 N) ja)) func258 rfl N (.seq .no (.seq .no (.meet jqT .no .no))) _
def s_l12Points_m (b:List Z0) (c:List Z1) (d:List UInt8) (h:List UInt8) (e:Int):Z14:=
 (oB (s_l12At_m N b c d h e) fun f=>bif decide ((f.length:Int)=0)then some 0 else oB (s_l7Long_m N b c d e) fun i=>oB (s_l12Total_m N b c d) fun k=>oB (s_l7Posts_m N b c d h) fun j=>oB (s_l12Term_m N (f.length:Int) i k (b.length:Int) (j.length:Int)) fun a=>if fits (a.1*1000)then if a.2≠0 then if fits ((a.1*1000).tdiv a.2)then some ((a.1*1000).tdiv a.2)else none else none else none)
theorem jrZ :mK 179 (bX [.agg [.pv Y4,.pv Y6],pS,pS,pI] [pI] (c5A (s_l12Points_m N))):=
 mO (fC (jn1 N) (fC (jrY N) (fC (jn2 N) (fC (jh6 N) (fC (jtF N) ja))))) func179 rfl N .no _
def jB2 :Sh:=⟨dz 3 (pI:: .dead:: .box 5 0:: .box 6 0:: .dead:: .dead:: .own 600009 Y25 89 true:: .own 600010 Y21 111 true::pI::dz 65 []),[(5,false,[.pv Y4,.pv Y6]),(6,false,[pI,pS,.pv (.sl .str),pI,pI,.pv (.sl .q)])]⟩
def jCf :Sh:=⟨dz 3 (pI:: .dead:: .box 5 0:: .box 6 0:: .dead:: .dead:: .own 600009 Y25 89 true:: .own 600010 Y21 111 true::pI::pI:: .pv Y25:: .own 600014 tI 3 true::pI::dz 61 []),[(5,false,[.pv Y4,.pv Y6]),(6,false,[pI,pS,.pv (.sl .str),pI,pI,.pv (.sl .q)])]⟩
def jyf (c:List Z2) (c2:List Z5) (s:List Z0) (s2:List Z1) (q:Int) (q2:List UInt8) (q3:List Z2) (q4:Int) (q5:Int) (q6:List DQ) (id:Int):Option (Z18):=
 (oB (jxS N q3 ([32]:List UInt8)) fun r=>oB (ja5 N c c2 r) fun r2=>iter (fun go (id2,out,terms,i,s3,s4,q7,q8,q9,q10,q11,q12)=>bif decide (i<(terms.length:Int))then oB (idx terms i) fun e=>(oB (idx terms 0) fun e2=>if fits (e.2-e2.2)then if fits ((e.2-e2.2)-i)then oB (idx terms i) fun e3=>(oB (s_l12At_m N s3 s4 q8 e3.1 id2) fun r3=>iter (fun go2 (id3,out2,terms2,i2,shift,at0,list,k,s5,s6,q13,q14,q15,q16,q17,q18)=>bif decide (k<(at0.length:Int))then oB (idx at0 k) fun e4=>(bif decide (shift<=e4)then oB (idx at0 k) fun e5=>(if fits (e5-shift)then if room list.length ([(e5-shift)]:List Int).length 8 then if fits (k+1)then go2 (id3,out2,terms2,i2,shift,at0,(list++([(e5-shift)]:List Int)),(k+1),s5,s6,q13,q14,q15,q16,q17,q18)else none else none else none)else if fits (k+1)then go2 (id3,out2,terms2,i2,shift,at0,list,(k+1),s5,s6,q13,q14,q15,q16,q17,q18)else none)else if room out2.length ([list]:List (List Int)).length 24 then if fits (i2+1)then go (id3,(out2++([list]:List (List Int))),terms2,(i2+1),s5,s6,q13,q14,q15,q16,q17,q18)else none else none) N (id2,out,terms,i,((e.2-e2.2)-i),r3,([]:List Int),(0:Int),s3,s4,q7,q8,q9,q10,q11,q12))else none else none)else some out) N (id,([]:List (List Int)),r2,(0:Int),s,s2,q,q2,q3,q4,q5,q6))
theorem jCm :mK 262 (bX [.agg [.pv (.sl .str),.pv Y20],.agg [.pv Y4,.pv Y6],.agg [pI,pS,.pv (.sl .str),pI,pI,.pv (.sl .q)],pI] [.own 1 Y25 89 true] (c11A (jyf N))):=
 mO (fC (jAy N) (fC (jiO N) (fC (jn1 N) ja))) func262 rfl N (.seq .no (.seq .no (.seq .no (.seq (.seq .no (.block (.loop jB2 (.seq .no (.seq (.block (.seq .no (.seq .no (.seq .no (.seq (.seq .no (.block (.loop jCf .no))) .no))))) .no))))) .no)))) _
def jBI :Sh:=⟨.pv (.sl Y25)::pI::pI::pI::pI::dz 6 (pI::dz 46 []),[]⟩
def jxJ (N:Nat):(D:Nat)->Z18->Int->Int->Int->Int->Z9
 |0,_,_,_,_,_=>none
 |D+1,lists,k,last,start,slop=>
 bif decide (k=(lists.length:Int))then
 if fits (last-start)then if fits ((lists.length:Int)-1)then if fits ((last-start)-((lists.length:Int)-1))then some (decide (((last-start)-((lists.length:Int)-1))<=slop))else none else none else none
 else
 iter (fun go (g:Z18×Int×Int×Int×Int×Int)=>
 match g with
 |(lists2,k2,last2,start2,slop2,i)=>
 oB (idx lists2 k2) fun e=>
 bif decide (i<(e.length:Int))then
 oB (idx lists2 k2) fun e2=>
 (oB (idx e2 i) fun e3=>
 bif decide (last2<e3)then
 if fits (k2+1)then oB (idx lists2 k2) fun e4=>
 (oB (idx e4 i) fun e5=>
 oB (jxJ N D lists2 (k2+1) e5 start2 slop2) fun r=>
 bif r then
 some true
 else
 if fits (i+1)then go (lists2,k2,last2,start2,slop2,(i+1))else none)else none
 else
 if fits (i+1)then go (lists2,k2,last2,start2,slop2,(i+1))else none)
 else
 some false) N (lists,k,last,start,slop,0)
def jyj (N D:Nat):Model:=⟨⟨[.pv (.sl Y25),pI,pI,pI,pI],[]⟩,⟨[pB],[]⟩,c5A (jxJ N D)⟩
theorem jD8 (N D:Nat) (ih:mK 309 (jyj N D)):mK 309 (jyj N (D+1)):=
 mO (fC ih ja) func309 rfl N (.seq .no (.seq .no (.seq (.seq .no (.block (.loop jBI .no))) .no))) (jyj N (D+1))
theorem jzt (N:Nat):∀D,mK 309 (jyj N D)
 |0=>modelOk_none ⟨_,func309,by decide,by kernel_rfl⟩ _ (fun a=>rfl)
 |D+1=>jD8 N D (jzt N D)
def jCF :Sh:=⟨.pv (.sl Y25)::pI::dz 3 (.own 600005 tI 3 true::pI::dz 56 []),[]⟩
def jBd :Sh:=⟨.pv (.sl Y25)::pI::dz 3 (.own 600005 tI 3 true:: .dead::pI::dz 55 []),[]⟩
def jyb (w:List (List Int)) (A:Int):Option ((List Int)):=
 (iter (fun x (c,h,k,d)=>bif decide (d<(c.length:Int))then oB (idx c d) fun r=>(oB (jx3 N r) fun u=>bif !u then some ([]:List Int)else if fits (d+1)then x (c,h,k,(d+1))else none)else oB (s_l1In_m N (c.length:Int) 1 6) fun t=>bif !t then some ([]:List Int)else oB (s_l1In_m N h 0 5) fun q=>bif !q then some ([]:List Int)else iter (fun l (b,f,e,a)=>oB (idx b 0) fun z=>bif decide (a<(z.length:Int))then oB (idx b 0) fun m=>(oB (idx m a) fun o=>oB (idx b 0) fun v=>oB (idx v a) fun n=>oB (jxJ N N b 1 o n f) fun p=>bif p then oB (idx b 0) fun y=>(oB (idx y a) fun j=>if room e.length ([j]:List Int).length 8 then if fits (a+1)then l (b,f,(e++([j]:List Int)),(a+1))else none else none)else if fits (a+1)then l (b,f,e,(a+1))else none)else some e) N (c,h,k,(0:Int))) N (w,A,([]:List Int),(0:Int)))
theorem jAW :mK 263 (bX [.pv (.sl Y25),pI] [.own 1 tI 3 true] (c2A (jyb N))):=
 mO (fC (jC9 N) (fC (jcL N) (fC (jzt N N) ja))) func263 rfl N (.seq .no (.seq .no (.seq (.seq .no (.block (.loop jCF .no))) (.seq .no (.seq (.seq .no (.block (.loop jBd .no))) .no))))) _
def jCQ :Sh:=⟨dz 3 (pI:: .dead:: .box 5 0:: .box 6 0::dz 3 (pI::pI:: .own 600012 Y21 111 true::pI::dz 41 [])),[(5,false,[.pv Y4,.pv Y6]),(6,false,[pI,pS,.pv (.sl .str),pI,pI,.pv (.sl .q)])]⟩
def jCS :Sh:=⟨dz 3 (pI:: .box 4 0:: .box 5 0:: .box 6 0::dz 3 (pI::dz 44 [])),[(4,false,[.pv (.sl .str),.pv Y20]),(5,false,[.pv Y4,.pv Y6]),(6,false,[pI,pS,.pv (.sl .str),pI,pI,.pv (.sl .q)])]⟩
def jx2 (o:List Z2) (n:List Z5) (k:List Z0) (f:List Z1) (q:Int) (m:List UInt8) (l:List Z2) (c:Int) (p:Int) (e:List DQ) (d:Int):Z14:=
 (oB (jyf N o n k f q m l c p e d) fun v=>bif decide ((v.length:Int)=0)then some 0 else oB (jyb N v c) fun u=>meet (fun(j:Int×Int×(List Z2)×(List Z5)×(List Z0)×(List Z1)×Int×Z2×(List Z2)×Int×Int×(List DQ))=>match j with|(R,U,D,X,H,P,I,B,z,S,Q,K)=>oB (jxS N z ([32]:List UInt8)) fun V=>oB (ja5 N D X V) fun C=>iter (fun aa (x,i,b,h,a,w,r,E,t,T,O,L,G)=>bif decide (a<(h.length:Int))then oB (idx h a) fun W=>(oB (s_l12Points_m N w r t W.1 x) fun A=>if fits (b+A)then if fits (a+1)then aa (x,i,(b+A),h,(a+1),w,r,E,t,T,O,L,G)else none else none)else if fits (b*i)then some (b*i)else none) N (R,U,(0:Int),C,(0:Int),H,P,I,B,z,S,Q,K)) fun y=>bif decide ((3:Int)<u.length)then y (d,3,o,n,k,f,q,m,l,c,p,e)else y (d,(u.length:Int),o,n,k,f,q,m,l,c,p,e))
theorem jAL :mK 181 (bX [.agg [.pv (.sl .str),.pv Y20],.agg [.pv Y4,.pv Y6],.agg [pI,pS,.pv (.sl .str),pI,pI,.pv (.sl .q)],pI] [pI] (c11A (jx2 N))):=
 mO (fC (jCm N) (fC (jAW N) (fC (jAy N) (fC (jiO N) (fC (jrZ N) ja))))) func181 rfl N (.seq .no (.seq .no (.seq .no (.seq .no (.meet jCS .no (.seq .no (.seq .no (.seq (.seq .no (.block (.loop jCQ .no))) .no)))))))) _
def s_l5Min_m (N:Nat) (b:Int) (a:Int):Z14:=
 (bif decide (b<a)then some b else some a)
theorem jDQ :mK 310 (bX [pI,pI] [pI] (c2A (s_l5Min_m N))):=
 mO ja func310 rfl N .no _
def jCw :Sh:=⟨pS::pS::dz 3 (.mtk 600005 tI 3 true::pI::dz 74 []),[]⟩
def jDJ :Sh:=⟨pS::pS::dz 3 (.mtk 600005 tI 3 true:: .dead::pI::dz 73 []),[]⟩
def jDM :Sh:=⟨pS::pS::dz 3 (.mtk 600005 tI 3 true:: .dead::pI::pI::pI::dz 71 []),[]⟩
def jBZ :Sh:=⟨pS::pS::dz 3 (.mtk 600005 tI 3 true:: .dead::pI:: .dead::pI::pI::dz 70 []),[]⟩
def s_l5Far_m (K:List UInt8) (d:List UInt8):Z14:=
 (if fits ((d.length:Int)+1)then if((d.length:Int)+1)=((d.length:Int)+1)/\0<=((d.length:Int)+1)/\((d.length:Int)+1)*8<=140737488355328/\((d.length:Int)+1)<=140737488355328 then iter (fun L (v,o,n,c)=>bif decide (c<=(o.length:Int))then if 0<=c/\c<(n.length:Int)then oB (n[c.toNat]?) fun S=>(if fits (c+1)then L (v,o,(n.set c.toNat c),(c+1))else none)else none else iter (fun H (t,j,f,m)=>bif decide (m<(t.length:Int))then if 0<=(0:Int)/\(0:Int)<f.length then oB (f[(0:Int).toNat]?) fun O=>(if fits (m+1)then if 0<=(0:Int)/\(0:Int)<f.length then oB (f[(0:Int).toNat]?) fun R=>(iter (fun w (l,i,p,h,q,k)=>bif decide (k<(i.length:Int))then meet (fun(e:Z22)=>match e with|(E,C,b,P,a,D)=>if fits (a+1)then if 0<=(a+1)/\(a+1)<(b.length:Int)then oB (b[(a+1).toNat]?) fun z=>(if fits (a+1)then if 0<=a/\a<(b.length:Int)then oB (b[a.toNat]?) fun B=>(if fits (a+1)then if 0<=(a+1)/\(a+1)<(b.length:Int)then oB (b[(a+1).toNat]?) fun x=>(oB (s_l5Min_m N B x) fun r=>if fits (r+1)then oB (s_l5Min_m N D (r+1)) fun A=>(if 0<=(a+1)/\(a+1)<(b.length:Int)then oB (b[(a+1).toNat]?) fun Q=>(if fits (a+1)then w (E,C,(b.set (a+1).toNat A),P,z,(a+1))else none)else none)else none)else none else none)else none else none)else none else none) fun u=>(oB (idx l h) fun I=>oB (idx i k) fun G=>bif !decide ((I.toNat:Int)=(G.toNat:Int))then if fits (q+1)then u (l,i,p,h,k,(q+1))else none else u (l,i,p,h,k,q))else if fits (h+1)then H (l,i,p,(h+1))else none) N (t,j,(f.set (0:Int).toNat (m+1)),m,O,(0:Int)))else none else none)else none else if 0<=(j.length:Int)/\(j.length:Int)<(f.length:Int)then oB (f[(j.length:Int).toNat]?) fun y=>(some y)else none) N (v,o,n,(0:Int))) N (K,d,(List.replicate ((d.length:Int)+1).toNat 0),(0:Int))else none else none)
theorem jBt :mK 264 (bX [pS,pS] [pI] (c2A (s_l5Far_m N))):=
 mO (fC (jDQ N) ja) func264 rfl N (.seq .no (.seq .no (.seq (.seq .no (.block (.loop jCw .no))) (.seq (.seq .no (.block (.loop jDJ (.seq .no (.seq (.block (.seq .no (.seq .no (.seq .no (.block (.loop jDM (.seq .no (.seq (.block (.seq .no (.meet jBZ .no .no))) .no)))))))) .no))))) .no)))) _ (wr:=[14])
def jC5 :Sh:=⟨.dead:: .dead::pI:: .box 3 0:: .box 4 0:: .dead:: .dead::pI::pI::dz 49 [],[(3,false,[.pv Y4,.pv Y6]),(4,false,[pI,pS,.pv (.sl .str),pI,pI,.pv (.sl .q)])]⟩
def jx5 (y:List Z0) (u:List Z1) (B:Int) (v:List UInt8) (r:List Z2) (w:Int) (A:Int) (t:List DQ) (q:Int):Z14:=
 (iter (fun o (e,h,a,j,b,m,c,i,f,k,n)=>bif decide (a<(b.length:Int))then oB (idx b a) fun p=>(oB (idx i 0) fun z=>oB (s_l5Far_m N p.2.1 z) fun d=>bif !decide (p.1=c)then if fits (a+1)then o (e,h,(a+1),j,b,m,c,i,f,k,n)else none else bif decide (f<d)then if fits (a+1)then o (e,h,(a+1),j,b,m,c,i,f,k,n)else none else oB (s_l12Points_m N j b c p.2.1 e) fun l=>if fits (3-d)then if fits (l*(3-d))then if 3≠0 then if fits ((l*(3-d)).tdiv 3)then bif decide (h<((l*(3-d)).tdiv 3))then if fits (a+1)then o (e,((l*(3-d)).tdiv 3),(a+1),j,b,m,c,i,f,k,n)else none else(if fits (a+1)then o (e,h,(a+1),j,b,m,c,i,f,k,n)else none)else none else none else none else none)else some h) N (q,(0:Int),(0:Int),y,u,B,v,r,w,A,t))
theorem jCb :mK 182 (bX [.agg [.pv Y4,.pv Y6],.agg [pI,pS,.pv (.sl .str),pI,pI,.pv (.sl .q)],pI] [pI] (c9A (jx5 N))):=
 mO (fC (jBt N) (fC (jrZ N) ja)) func182 rfl N (.seq .no (.seq .no (.seq (.seq .no (.block (.loop jC5 .no))) .no))) _
def jxB (N:Nat):(D:Nat)->Z2->Z2->Z9
 |0,_,_=>none
 |D+1,p,s=>
 bif decide (p=([]:List UInt8))then
 some (decide (s=([]:List UInt8)))
 else
 oB (idx p 0) fun c=>
 bif decide ((c.toNat:Int)=42)then
 oB (cut p 1 (p.length:Int)) fun y=>
 (oB (jxB N D y s) fun r=>
 bif r then
 some true
 else
 bif !decide (s=([]:List UInt8))then
 oB (cut s 1 (s.length:Int)) fun y2=>
 (oB (jxB N D p y2) fun r2=>
 some r2)
 else
 some false)
 else
 bif !decide (s=([]:List UInt8))then
 oB (idx p 0) fun c2=>
 (bif decide ((c2.toNat:Int)=63)then
 oB (cut p 1 (p.length:Int)) fun y3=>
 (oB (cut s 1 (s.length:Int)) fun y4=>
 oB (jxB N D y3 y4) fun r3=>
 some r3)
 else
 oB (idx p 0) fun c3=>
 oB (idx s 0) fun c4=>
 bif decide ((c3.toNat:Int)=(c4.toNat:Int))then
 oB (cut p 1 (p.length:Int)) fun y5=>
 (oB (cut s 1 (s.length:Int)) fun y6=>
 oB (jxB N D y5 y6) fun r4=>
 some r4)
 else
 some false)
 else
 some false
def jyr (N D:Nat):Model:=⟨⟨[pS,pS],[]⟩,⟨[pB],[]⟩,c2A (jxB N D)⟩
theorem jDg (N D:Nat) (ih:mK 265 (jyr N D)):mK 265 (jyr N (D+1)):=
 mO (fC ih ja) func265 rfl N .no (jyr N (D+1))
theorem jzM (N:Nat):∀D,mK 265 (jyr N D)
 |0=>modelOk_none ⟨_,func265,by decide,by kernel_rfl⟩ _ (fun a=>rfl)
 |D+1=>jDg N D (jzM N D)
def jBi :Sh:=⟨.dead:: .dead::pI:: .box 3 0:: .box 4 0:: .dead:: .dead::pI::dz 38 [],[(3,false,[.pv Y4,.pv Y6]),(4,false,[pI,pS,.pv (.sl .str),pI,pI,.pv (.sl .q)])]⟩
def jyd (x:List Z0) (q:List Z1) (A:Int) (r:List UInt8) (o:List Z2) (u:Int) (z:Int) (p:List DQ) (n:Int):Z9:=
 (iter (fun m (d,a,f,b,k,c,e,i,h,l)=>bif decide (a<(b.length:Int))then oB (idx b a) fun j=>(bif decide (j.1=c)then oB (idx e 0) fun y=>(oB (jxB N N y j.2.1) fun v=>bif v then oB (s_l12At_m N f b c j.2.1 d) fun t=>(bif decide ((0:Int)<t.length)then some true else if fits (a+1)then m (d,(a+1),f,b,k,c,e,i,h,l)else none)else if fits (a+1)then m (d,(a+1),f,b,k,c,e,i,h,l)else none)else if fits (a+1)then m (d,(a+1),f,b,k,c,e,i,h,l)else none)else some false) N (n,(0:Int),x,q,A,r,o,u,z,p))
theorem jCi :mK 184 (bX [.agg [.pv Y4,.pv Y6],.agg [pI,pS,.pv (.sl .str),pI,pI,.pv (.sl .q)],pI] [pB] (c9A (jyd N))):=
 mO (fC (jzM N N) (fC (jn1 N) ja)) func184 rfl N (.seq .no (.seq (.seq .no (.block (.loop jBi .no))) .no)) _
def jyV (N:Nat) (a:Bool):Z14:=
 (bif a then some 100 else some 0)
theorem jCo :mK 183 (bX [pB] [pI] (c1A (jyV N))):=
 mO ja func183 rfl N .no _
def jym (d:Int) (e:Z16) (h:Z10) (l:List UInt8):Z14:=
 (iter (fun j (c,a,m,i,b)=>bif decide (a<(b.length:Int))then oB (idx b a) fun n=>(bif decide (n.1=c)then oB (idx b a) fun k=>(some k.2)else if fits (a+1)then j (c,(a+1),m,i,b)else none)else some (-1)) N (l,(0:Int),d,e,h))
theorem jDS :mK 185 (bX [.agg [pI,.pv Y23,.pv Y19],pS] [pI] (c4A (jym N))):=
 mO ja func185 rfl N (.seq .no (.seq (.seq .no (.block (.loop jl8 .no))) .no)) _
def jDX :Sh:=⟨dz 3 (pI:: .box 4 0:: .box 5 0:: .box 6 0:: .dead:: .dead::pI::pI::dz 111 []),[(4,false,[.pv (.sl .str),.pv Y20]),(5,false,[.pv Y4,.pv Y6]),(6,false,[pI,pS,.pv (.sl .str),pI,pI,.pv (.sl .q)])]⟩
def s_l12Score_m (N:Nat):(D:Nat)->(List Z2)->(List Z5)->(List Z0)->(List Z1)->Int->Z2->(List Z2)->Int->Int->(List DQ)->Int->Z14
 |0,_,_,_,_,_,_,_,_,_,_,_=>none
 |D+1,c,c2,s,s2,q,q2,q3,q4,q5,q6,id=>
 bif decide (q=1)then
 some 100
 else
 bif decide (q=2)then
 oB (idx q3 0) fun e=>
 (oB (jyC N c c2 e) fun r=>
 oB (s_l12Points_m N s s2 q2 r id) fun r2=>
 some r2)
 else
 bif decide (q=3)then
 oB (jx2 N c c2 s s2 q q2 q3 q4 q5 q6 id) fun r3=>
 (some r3)
 else
 bif decide (q=4)then
 oB (jx5 N s s2 q q2 q3 q4 q5 q6 id) fun r4=>
 (some r4)
 else
 bif decide (q=5)then
 oB (jyd N s s2 q q2 q3 q4 q5 q6 id) fun r5=>
 (oB (jyV N r5) fun r6=>
 some r6)
 else
 bif decide (q=6)then
 oB (jyv N s s2 id) fun r7=>
 (oB (jym N r7.1 r7.2.1 r7.2.2 q2) fun r8=>
 oB (s_l1In_m N r8 q4 q5) fun r9=>
 oB (jyV N r9) fun r10=>
 some r10)
 else
 bif decide (q=10)then
 oB (idx q6 0) fun e2=>
 (oB (s_l12Score_m N D c c2 s s2 e2.kind e2.field e2.words e2.lo e2.hi e2.kids id) fun r11=>
 if fits (q4*r11)then some (q4*r11)else none)
 else
 bif decide (q=9)then
 oB (idx q6 1) fun e3=>
 (oB (s_l12Score_m N D c c2 s s2 e3.kind e3.field e3.words e3.lo e3.hi e3.kids id) fun r12=>
 bif decide ((0:Int)<r12)then
 some 0
 else
 oB (idx q6 0) fun e4=>
 oB (s_l12Score_m N D c c2 s s2 e4.kind e4.field e4.words e4.lo e4.hi e4.kids id) fun r13=>
 some r13)
 else
 iter (fun go (g:Int×Int×Int×(List Z2)×(List Z5)×(List Z0)×(List Z1)×Int×Z2×(List Z2)×Int×Int×(List DQ))=>
 match g with
 |(id2,sum,i,c3,c4,s3,s4,q7,q8,q9,q10,q11,q12)=>
 bif decide (i<(q12.length:Int))then
 oB (idx q12 i) fun e5=>
 (oB (s_l12Score_m N D c3 c4 s3 s4 e5.kind e5.field e5.words e5.lo e5.hi e5.kids id2) fun r14=>
 bif decide (r14=0)then
 bif decide (q7=7)then
 some 0
 else
 (if fits (sum+r14)then if fits (i+1)then go (id2,(sum+r14),(i+1),c3,c4,s3,s4,q7,q8,q9,q10,q11,q12)else none else none)
 else
 if fits (sum+r14)then if fits (i+1)then go (id2,(sum+r14),(i+1),c3,c4,s3,s4,q7,q8,q9,q10,q11,q12)else none else none)
 else
 some sum) N (id,0,0,c,c2,s,s2,q,q2,q3,q4,q5,q6)
def jyz (N D:Nat):Model:=⟨⟨[.agg [.pv (.sl .str),.pv Y20],.agg [.pv Y4,.pv Y6],.agg [pI,pS,.pv (.sl .str),pI,pI,.pv (.sl .q)],pI],[]⟩,⟨[pI],[]⟩,c11A (s_l12Score_m N D)⟩
theorem jBH (N D:Nat) (ih:mK 111 (jyz N D)):mK 111 (jyz N (D+1)):=
 mO (fC ih (fC (jCy N) (fC (jrZ N) (fC (jAL N) (fC (jCb N) (fC (jCi N) (fC (jCo N) (fC (jDn N) (fC (jDS N) (fC (jcL N) ja)))))))))) func111 rfl N (.seq .no (.seq .no (.seq .no (.seq (.seq .no (.block (.loop jDX .no))) .no)))) (jyz N (D+1))
theorem jz7 (N:Nat):∀D,mK 111 (jyz N D)
 |0=>modelOk_none ⟨_,func111,by decide,by kernel_rfl⟩ _ (fun a=>rfl)
 |D+1=>jBH N D (jz7 N D)
def s_l13Less_m (N:Nat) (c:Int) (a:Int) (d:Int) (b:Int):Z9:=
 (bif decide (b<a)then some true else bif decide (a=b)then some (decide (c<d))else some false)
theorem jw8 :mK 186 (bX [.agg [pI,pI],.agg [pI,pI]] [pB] (c4A (s_l13Less_m N))):=
 mO ja func186 rfl N .no _
def jwc :Sh:=⟨.pv Y17:: .dead::pI:: .dead:: .box 4 0:: .dead:: .dead::pI::dz 37 [],[(4,false,[pI,pI])]⟩
def s_l13Push_m (p:Z6) (l:Int) (u:Int) (m:Int):Option (Z11):=
 (iter (fun r (c,h,d,a,b)=>bif decide (d<(c.length:Int))then oB (idx c d) fun k=>(oB (s_l13Less_m N k.1 k.2 a b) fun n=>bif n then if fits (d+1)then r (c,h,(d+1),a,b)else none else oB (cut c 0 d) fun f=>if room ([]:Z6).length f.length 16 then if room (([]:Z6)++f).length ([(a,b)]:Z6).length 16 then oB (cut c d (c.length:Int)) fun j=>(if room ((([]:Z6)++f)++([(a,b)]:Z6)).length j.length 16 then bif decide (h<((((([]:Z6)++f)++([(a,b)]:Z6))++j).length:Int))then oB (cut (((([]:Z6)++f)++([(a,b)]:Z6))++j) 0 h) fun o=>(some o)else(some (((([]:Z6)++f)++([(a,b)]:Z6))++j))else none)else none else none)else oB (cut c 0 d) fun e=>if room ([]:Z6).length e.length 16 then if room (([]:Z6)++e).length ([(a,b)]:Z6).length 16 then oB (cut c d (c.length:Int)) fun i=>(if room ((([]:Z6)++e)++([(a,b)]:Z6)).length i.length 16 then bif decide (h<((((([]:Z6)++e)++([(a,b)]:Z6))++i).length:Int))then oB (cut (((([]:Z6)++e)++([(a,b)]:Z6))++i) 0 h) fun t=>(some t)else(some (((([]:Z6)++e)++([(a,b)]:Z6))++i))else none)else none else none) N (p,m,(0:Int),l,u))
theorem jwx :mK 112 (bX [.pv Y17,.agg [pI,pI],pI] [.own 1 Y18 93 true] (c4A (s_l13Push_m N))):=
 mO (fC (jw8 N) ja) func112 rfl N (.seq .no (.seq .no (.seq (.block (.loop jwc .no)) .no))) _ (wr:=[23,26,27,30,31,35,36,43])
def jCE :Sh:=⟨dz 3 (pI:: .box 4 0:: .box 5 0:: .box 6 0:: .dead:: .dead:: .own 600009 Y18 93 true::pI::dz 33 []),[(4,false,[.pv (.sl .str),.pv Y20]),(5,false,[.pv Y4,.pv Y6]),(6,false,[pI,pS,.pv (.sl .str),pI,pI,.pv (.sl .q)])]⟩
def s_l13Top_m (z:List Z2) (w:List Z5) (B:List Z0) (t:List Z1) (G:Int) (v:List UInt8) (q:List Z2) (A:Int) (E:Int) (r:List DQ) (u:Int):Option (Z11):=
 (iter (fun p (l,e,a,h,k,b,n,j,f,i,d,c,m)=>bif decide (a<(b.length:Int))then oB (idx b a) fun x=>(oB (s_l12Score_m N N h k b n j f i d c m x.1) fun o=>bif decide ((0:Int)<o)then oB (idx b a) fun D=>(oB (s_l13Push_m N e D.1 o l) fun y=>if fits (a+1)then p (l,y,(a+1),h,k,b,n,j,f,i,d,c,m)else none)else if fits (a+1)then p (l,e,(a+1),h,k,b,n,j,f,i,d,c,m)else none)else some e) N (u,([]:Z6),(0:Int),z,w,B,t,G,v,q,A,E,r))
theorem jBA :mK 47 (bX [.agg [.pv (.sl .str),.pv Y20],.agg [.pv Y4,.pv Y6],.agg [pI,pS,.pv (.sl .str),pI,pI,.pv (.sl .q)],pI] [.own 1 Y18 93 true] (c11A (s_l13Top_m N))):=
 mO (fC (jz7 N N) (fC (jwx N) ja)) func47 rfl N (.seq .no (.seq .no (.seq (.seq .no (.block (.loop jCE .no))) .no))) _
def jOZ :Sh:=⟨.pv Y17:: .dead:: .dead::pI::dz 58 [],[]⟩
def jO4 :Sh:=⟨.pv Y17:: .dead:: .dead::pI::pI::dz 19 (pB::dz 16 (pB::dz 20 [])),[]⟩
def s_l13Ok_m (z:Z6):Z9:=
 (iter (fun o (b,a)=>bif decide (a<(b.length:Int))then oB (idx b a) fun u=>(oB (s_l1In_m N u.1 1 9999) fun w=>bif !w then some false else oB (idx b a) fun k=>bif decide (k.2<1)then some false else bif decide ((0:Int)<a)then if fits (a-1)then oB (idx b (a-1)) fun l=>(oB (idx b a) fun m=>oB (s_l13Less_m N l.1 l.2 m.1 m.2) fun n=>bif !n then some false else iter (fun v (f,c,j,t,C)=>bif decide (j<c)then oB (idx f j) fun x=>(oB (idx f c) fun p=>bif decide (x.1=p.1)then some false else if fits (j+1)then v (f,c,(j+1),t,C)else none)else if fits (c+1)then o (f,(c+1))else none) N (b,a,(0:Int),(decide (k.2<1)),(!n)))else none else iter (fun q (h,e,i,B,y)=>bif decide (i<e)then oB (idx h i) fun A=>(oB (idx h e) fun r=>bif decide (A.1=r.1)then some false else if fits (i+1)then q (h,e,(i+1),B,y)else none)else if fits (e+1)then o (h,(e+1))else none) N (b,a,(0:Int),(decide (k.2<1)),false))else some (decide ((b.length:Int)<=16))) N (z,(0:Int)))
theorem jOE :mK 141 (bX [.pv Y17] [pB] (c1A (s_l13Ok_m N))):=
 mO (fC (jcL N) (fC (jw8 N) ja)) func141 rfl N (.seq .no (.seq (.seq .no (.block (.loop jOZ (.seq .no (.seq (.block (.seq .no (.seq .no (.block (.loop jO4 .no))))) .no))))) .no)) _
def jPf :Sh:=⟨.dead:: .box 1 0:: .dead::pI::dz 59 [],[(1,false,[pI,pI,.pv Y11])]⟩
def jPh :Sh:=⟨.dead:: .box 1 0:: .dead::pI::pI::dz 22 (pB::dz 35 []),[(1,false,[pI,pI,.pv Y11])]⟩
def s_l24Ok_m (v:Int) (p:Int) (o:List Z4):Z9:=
 (iter (fun w (e,f,j,b)=>bif decide (e<(b.length:Int))then oB (idx b e) fun r=>(bif decide (r.1=([]:List UInt8))then some false else oB (idx b e) fun x=>oB (s_l13Ok_m N x.2) fun k=>bif !k then some false else iter (fun t (a,d,y,l,i,c)=>bif decide (d<a)then oB (idx c d) fun m=>(oB (idx c a) fun n=>bif decide (m.1=n.1)then some false else if fits (d+1)then t (a,(d+1),y,l,i,c)else none)else if fits (a+1)then w ((a+1),l,i,c)else none) N (e,(0:Int),(!k),f,j,b))else oB (s_l1In_m N f 1 5) fun u=>bif u then bif decide ((b.length:Int)<=f)then oB (s_l1In_m N j 0 999999999) fun q=>(some q)else(some false)else some false) N ((0:Int),v,p,o))
theorem jOt :mK 69 (bX [.agg [pI,pI,.pv Y11]] [pB] (c3A (s_l24Ok_m N))):=
 mO (fC (jOE N) (fC (jcL N) ja)) func69 rfl N (.seq .no (.seq (.seq .no (.block (.loop jPf (.seq .no (.seq (.block (.seq .no (.seq .no (.block (.loop jPh .no))))) .no))))) .no)) _
def jOO :Sh:=⟨.dead:: .box 1 0:: .box 2 0:: .box 3 0::pI::dz 33 [],[(1,false,[pI,pI,.pv Y11]),(2,false,[pI,pI,.nils]),(3,false,[pI,pI,.own 700302 Y13 128 true])]⟩
def s_l24Copy_m (i:Int) (f:Int) (m:List Z4):Option (Int×Int×(List Z4)):=
 (iter (fun p (a,n,k,b,q,l,e,j,c)=>bif decide (a<(b.length:Int))then oB (idx b a) fun h=>(oB (idx b a) fun d=>if room ([]:Z6).length d.2.length 16 then if room c.length ([(h.1,(([]:Z6)++d.2))]:List Z4).length 40 then if fits (a+1)then p ((a+1),n,k,b,q,l,e,j,(c++([(h.1,(([]:Z6)++d.2))]:List Z4)))else none else none else none)else some (e,j,c)) N ((0:Int),i,f,m,(0:Int),(0:Int),i,f,([]:List Z4)))
theorem jOv :mK 67 (bX [.agg [pI,pI,.pv Y11]] [.agg [pI,pI,.own 1 Y13 128 true]] (c3A (s_l24Copy_m N))):=
 mO ja func67 rfl N (.seq .no (.seq .no (.seq (.seq .no (.block (.loop jOO .no))) .no))) _
def jPr :Sh:=⟨.dead::pS::pI:: .dead:: .box 4 0::dz 3 (.box 8 0:: .box 9 0:: .box 10 0::pI::dz 70 []),[(4,false,[pI,pI,.pv Y11]),(8,false,[pI,pI,.nils]),(9,false,[pI,pI,.own 700902 Y13 128 false]),(10,false,[pI,pI,.own 701002 Y13 128 true])]⟩
def s_CachePut_m (b:Int) (e:Int) (d:List Z4) (u:List UInt8) (l:Int) (o:Z6):Option (Int×Int×(List Z4)):=
 (oB (s_l24Ok_m N b e d) fun G=>bif !G then some (0,0,([]:List Z4))else bif decide (u=([]:List UInt8))then oB (s_l24Copy_m N b e d) fun q=>(some (q.1,q.2.1,q.2.2))else oB (s_l13Ok_m N o) fun C=>bif !C then oB (s_l24Copy_m N b e d) fun n=>(some (n.1,n.2.1,n.2.2))else oB (s_l1In_m N l 0 999999999) fun E=>bif !E then oB (s_l24Copy_m N b e d) fun m=>(some (m.1,m.2.1,m.2.2))else if room ([]:Z6).length o.length 16 then oB (s_l24Copy_m N b e d) fun r=>(iter (fun y (p,j,c,t,k,B,A,v,h,i,a,w,x,f)=>bif decide (c<(f.length:Int))then bif decide (j=k)then bif decide ((a.length:Int)<t)then oB (idx f c) fun D=>(bif !decide (D.1=p)then oB (idx f c) fun z=>(if room a.length ([z]:List Z4).length 40 then if fits (c+1)then y (p,j,(c+1),t,k,B,A,v,h,i,(a++([z]:List Z4)),w,x,f)else none else none)else if fits (c+1)then y (p,j,(c+1),t,k,B,A,v,h,i,a,w,x,f)else none)else(some (h,i,a))else(some (h,i,a))else some (h,i,a)) N (u,l,(0:Int),b,e,d,(0:Int),(0:Int),b,l,([(u,(([]:Z6)++o))]:List Z4),r.1,r.2.1,r.2.2))else none)
theorem jOw :mK 65 (bX [.agg [pI,pI,.pv Y11],pS,pI,.pv Y17] [.agg [pI,pI,.own 1 Y13 128 false]] (c6A (s_CachePut_m N))):=
 mO (fC (jOt N) (fC (jOv N) (fC (jOE N) (fC (jcL N) ja)))) func65 rfl N (.seq .no (.seq .no (.seq .no (.seq .no (.seq .no (.seq (.seq .no (.block (.loop jPr .no))) .no)))))) _
def jPc :Sh:=⟨.dead:: .dead:: .box 2 0:: .box 3 0:: .dead:: .box 5 0:: .box 12010 0:: .box 7 0:: .box 8 0:: .box 9 0::dz 37 [],[(2,false,[pI,pI,.nils]),(3,false,[.nils,.nils,.nils]),(5,false,[pI,pS,.nils,pI,pI,.nils]),(7,false,[pI,pI,.own 40001 Y13 128 false]),(8,false,[.own 18001 .str 9 true,.own 18002 Y22 172 true,.own 18003 Y2 96 false]),(9,false,[pI,pS,.own 20001 .str 9 true,pI,pI,.nils]),(12010,false,[.pv (.sl (.int .u8)),pI])]⟩
def s_DrawCacheTop_m (y:List Int):Option (Int×Int×(List Z4)×(List Z2)×(List Z5)×(List Z3)×Int×Int×Z2×(List Z2)×Int×Int):=
 (oB (jt0 N y) fun j=>oB (jtW N 3 j.1 j.2) fun e=>if fits (1+e.1)then oB (s_CacheNew_m N (1+e.1)) fun d=>(oB (s_l30AnyIndex_m N e.2.1 e.2.2) fun b=>oB (s_l30Leaf_m N b.2.2.2.1 b.2.2.2.2) fun a=>meet (fun(r:Int×Int×Int×Z2×Int×Int×Int×Int×(List Z4)×(List Z2)×(List Z5)×(List Z3)×Int×Z2×(List Z2)×Int×Int×(List Int)×Int)=>match r with|(K,I,H,O,L,P,C,x,m,o,l,n,G,w,v,B,E,t,z)=>oB (s_l24Copy_m N C x m) fun i=>oB (s_l30Rd_one_m N ([0,0,1]:List Int) t z) fun D=>some (i.1,i.2.1,i.2.2,o,l,n,D.1,G,w,v,B,E)) fun h=>oB (jtW N 2 a.2.2.2.2.2.1 a.2.2.2.2.2.2) fun c=>bif decide (c.1=0)then oB (s_l18Ok_m N b.1 b.2.1 b.2.2.1) fun p=>(bif p then oB (s_l11Put_m N N a.1 a.2.1 a.2.2.1 a.2.2.2.1 a.2.2.2.2.1 ([]:List DQ)) fun q=>(oB (s_l18Docs_m N b.1 b.2.1 b.2.2.1) fun A=>oB (s_l7Of_m N b.1 b.2.1 A) fun k=>oB (s_l13Top_m N b.1 b.2.1 k.1 k.2 a.1 a.2.1 a.2.2.1 a.2.2.2.1 a.2.2.2.2.1 ([]:List DQ) 16) fun u=>oB (s_CachePut_m N d.1 d.2 ([]:List Z4) q 0 u) fun f=>h (0,0,0,([]:List UInt8),0,0,f.1,f.2.1,f.2.2,b.1,b.2.1,b.2.2.1,a.1,a.2.1,a.2.2.1,a.2.2.2.1,a.2.2.2.2.1,c.2.1,c.2.2))else h (0,0,0,([]:List UInt8),0,0,d.1,d.2,([]:List Z4),b.1,b.2.1,b.2.2.1,a.1,a.2.1,a.2.2.1,a.2.2.2.1,a.2.2.2.2.1,c.2.1,c.2.2))else h (0,0,0,([]:List UInt8),0,0,d.1,d.2,([]:List Z4),b.1,b.2.1,b.2.2.1,a.1,a.2.1,a.2.2.1,a.2.2.2.1,a.2.2.2.2.1,c.2.1,c.2.2))else none)
theorem jOQ :mK 14 (bX [.pv (.sl (.int .u8))] [.tup [.agg [pI,pI,.own 1 Y13 128 true],.agg [.own 2 .str 9 true,.own 3 Y22 172 true,.own 4 Y2 96 false],pI,.agg [pI,pS,.own 5 .str 9 true,pI,pI,.nils]]] (c1A (s_DrawCacheTop_m N))):=
 mO (fC (juQ N) (fC (jtX N) (fC (jOV N) (fC (jNZ N) (fC (jGD N) (fC (jIW N) (fC (jOu N N) (fC (jH3 N) (fC (jmU N) (fC (jBA N) (fC (jOw N) (fC (jOv N) (fC (juA N) ja))))))))))))) func14 rfl N (.seq .no (.seq .no (.seq .no (.seq .no (.seq .no (.meet jPc .no .no)))))) _
def i_within_m (N:Nat) (a:Int) (b:Int) (c:Int):Z9:=
 (bif decide (b<=a)then some (decide (a<=c))else some false)
theorem jY :mK 42 (bX [pI,pI,pI] [pB] (c3A (i_within_m N))):=
 mO ja func42 rfl N .no _
def i_hasDoc_1_m (N:Nat) (a:Int) (c:Int) (b:Int):Z9:=
 (some (decide (a=b)))
theorem jwE :mK 218 (bX [.agg [pI,pI],.ptr tI] [pB] (c3A (i_hasDoc_1_m N))):=
 mO ja func218 rfl N .no _
def jwa :Sh:=⟨.pv Y17:: .clo 218 [.ptr tI]::dz 5 (pI::pI::dz 10 []),[]⟩
def k_slices_IndexFunc_200_m (d:Z6) (i:Int):Z14:=
 (iter (fun k (c,b,e,a)=>bif decide (a<e)then oB (idx c a) fun f=>(oB (i_hasDoc_1_m N f.1 f.2 b) fun h=>bif h then some a else if fits (a+1)then k (c,b,e,(a+1))else none)else some (-1)) N (d,i,(d.length:Int),(0:Int)))
theorem jwl :mK 290 (bX [.pv Y17,.clo 218 [.ptr tI]] [pI] (c2A (k_slices_IndexFunc_200_m N))):=
 mO (fC (jwE N) ja) func290 rfl N (.seq .no (.seq (.seq .no (.block (.loop jwa .no))) .no)) _
def k_slices_ContainsFunc_50_m (c:Z6) (b:Int):Z9:=
 (oB (k_slices_IndexFunc_200_m N c b) fun a=>some (decide ((0:Int)<=a)))
theorem jwg :mK 217 (bX [.pv Y17,.clo 218 [.ptr tI]] [pB] (c2A (k_slices_ContainsFunc_50_m N))):=
 mO (fC (jwl N) ja) func217 rfl N .no _
def i_hasDoc_m (c:Z6) (a:Int):Z9:=
 (oB (k_slices_ContainsFunc_50_m N c a) fun b=>some b)
theorem jwB :mK 145 (bX [.pv Y17,pI] [pB] (c2A (i_hasDoc_m N))):=
 mO (fC (jwg N) ja) func145 rfl N .no _
def k_cmp_isNaN_538_m (N:Nat) (a:Int):Z9:=
 (some (!decide (a=a)))
theorem joK :mK 172 (bX [pI] [pB] (c1A (k_cmp_isNaN_538_m N))):=
 mO ja func172 rfl N .no _
def k_cmp_Compare_992_m (a:Int) (b:Int):Z14:=
 (oB (k_cmp_isNaN_538_m N a) fun d=>oB (k_cmp_isNaN_538_m N b) fun c=>bif d then bif c then some 0 else(some (-1))else bif c then some 1 else bif decide (a<b)then some (-1)else bif decide (b<a)then some 1 else some 0)
theorem jpP :mK 104 (bX [pI,pI] [pI] (c2A (k_cmp_Compare_992_m N))):=
 mO (fC (joK N) ja) func104 rfl N .no _
def jlp :Sh:=⟨dz 3 (pI:: .dead:: .dead:: .pv Y25::pI::pI::dz 9 []),[]⟩
def k_cmp_Or_892_m (d:List Int):Z14:=
 (iter (fun i (b,c,e,a)=>bif decide (a<e)then oB (idx c a) fun f=>(bif !decide (f=b)then some f else if fits (a+1)then i (b,c,e,(a+1))else none)else some b) N ((0:Int),d,(d.length:Int),(0:Int)))
theorem jhC :mK 60 (bX [.pv Y25] [pI] (c1A (k_cmp_Or_892_m N))):=
 mO ja func60 rfl N (.seq .no (.seq .no (.seq (.seq .no (.block (.loop jlp .no))) .no))) _
def i_hitOrder_m (c:Int) (e:Int) (f:Int) (d:Int):Z14:=
 (oB (k_cmp_Compare_992_m N d e) fun b=>oB (k_cmp_Compare_992_m N c f) fun a=>oB (k_cmp_Or_892_m N ([b,a]:List Int)) fun h=>some h)
theorem jvi :mK 128 (bX [.agg [pI,pI],.agg [pI,pI]] [pI] (c4A (i_hitOrder_m N))):=
 mO (fC (jpP N) (fC (jhC N) ja)) func128 rfl N .no _
def jw3 :Sh:=⟨.pv Y17::dz 4 (.pv Y17::pI::pI::dz 39 []),[]⟩
def i_HitsOk_m (e:Z6):Z9:=
 (iter (fun h (b,d,f,a)=>bif decide (a<f)then oB (idx d a) fun c=>(oB (i_within_m N c.1 1 9999) fun l=>bif !l then some false else bif decide (c.2<1)then some false else oB (cut b 0 a) fun k=>oB (i_hasDoc_m N k c.1) fun j=>bif j then some false else bif decide ((0:Int)<a)then if fits (a-1)then oB (idx b (a-1)) fun i=>(oB (i_hitOrder_m N i.1 i.2 c.1 c.2) fun n=>bif decide ((0:Int)<=n)then some false else if fits (a+1)then h (b,d,f,(a+1))else none)else none else if fits (a+1)then h (b,d,f,(a+1))else none)else some (decide ((b.length:Int)<=16))) N (e,e,(e.length:Int),(0:Int)))
theorem jwk :mK 73 (bX [.pv Y17] [pB] (c1A (i_HitsOk_m N))):=
 mO (fC (jY N) (fC (jwB N) (fC (jvi N) ja))) func73 rfl N (.seq .no (.seq (.seq .no (.block (.loop jw3 .no))) .no)) _
def jOJ :Sh:=⟨.dead::pS::dz 6 (.pv Y11::pI::pI::dz 10 []),[]⟩
def i_Cache_find_m (k:Int) (l:Int) (d:List Z4) (i:List UInt8):Z14:=
 (iter (fun h (e,c,b,a)=>bif decide (a<b)then oB (idx c a) fun j=>(bif decide (j.1=e)then some a else if fits (a+1)then h (e,c,b,(a+1))else none)else some (-1)) N (i,d,(d.length:Int),(0:Int)))
theorem jOF :mK 74 (bX [.agg [pI,pI,.pv Y11],pS] [pI] (c4A (i_Cache_find_m N))):=
 mO ja func74 rfl N (.seq .no (.seq (.seq .no (.block (.loop jOJ .no))) .no)) _
def jO3 :Sh:=⟨.dead:: .box 1 0::dz 22 (.pv Y11::pI::pI::dz 22 []),[(1,false,[pI,pI,.pv Y11])]⟩
def i_CacheOk_m (c:Int) (j:Int) (b:List Z4):Z9:=
 (oB (i_within_m N c 1 5) fun m=>bif !m then some false else oB (i_within_m N j 0 999999999) fun l=>bif !l then some false else bif decide (c<(b.length:Int))then some false else iter (fun o (e,i,a,h,f,k)=>bif decide (a<i)then oB (idx e a) fun d=>(bif decide (d.1=([]:List UInt8))then some false else oB (i_HitsOk_m N d.2) fun q=>bif !q then some false else oB (i_Cache_find_m N h f k d.1) fun p=>bif !decide (p=a)then some false else if fits (a+1)then o (e,i,(a+1),h,f,k)else none)else some true) N (b,(b.length:Int),(0:Int),c,j,b))
theorem jOo :mK 19 (bX [.agg [pI,pI,.pv Y11]] [pB] (c3A (i_CacheOk_m N))):=
 mO (fC (jY N) (fC (jwk N) (fC (jOF N) ja))) func19 rfl N (.seq .no (.seq .no (.seq (.seq .no (.block (.loop jO3 .no))) .no))) _
def jaw (N:Nat) (a:Int):Z9:=
 (bif decide ((97:Int)<=a)then bif decide (a<=122)then some true else(bif decide ((48:Int)<=a)then some (decide (a<=57))else some false)else bif decide ((48:Int)<=a)then some (decide (a<=57))else some false)
theorem jeK :mK 192 (bX [.pv (.int .u8)] [pB] (c1A (jaw N))):=
 mO ja func192 rfl N .no _
def jqW :Sh:=⟨pS::dz 4 (pI::pI::dz 11 []),[]⟩
def jO (d:List UInt8):Z9:=
 (iter (fun j (b,c,a)=>bif decide (a<c)then oB (idx b a) fun f=>(oB (jaw N (f.toNat:Int)) fun h=>bif !h then some false else if fits (a+1)then j (b,c,(a+1))else none)else oB (i_within_m N (b.length:Int) 1 12) fun e=>some e) N (d,(d.length:Int),(0:Int)))
theorem jcM :mK 120 (bX [pS] [pB] (c1A (jO N))):=
 mO (fC (jeK N) (fC (jY N) ja)) func120 rfl N (.seq .no (.seq (.seq .no (.block (.loop jqW .no))) .no)) _
def jmc :Sh:=⟨.pv (.sl .str)::dz 4 (.pv (.sl .str)::pI::pI::dz 21 []),[]⟩
def jb2 (c:List Z2):Z9:=
 (iter (fun f (e,b,d,a)=>bif decide (a<d)then oB (idx b a) fun h=>(oB (jO N h) fun i=>bif !i then some false else bif decide ((0:Int)<a)then if fits (a-1)then oB (idx e (a-1)) fun k=>(bif !Op.bytesLess k h then some false else if fits (a+1)then f (e,b,d,(a+1))else none)else none else if fits (a+1)then f (e,b,d,(a+1))else none)else some true) N (c,c,(c.length:Int),(0:Int)))
theorem jtw :mK 119 (bX [.pv (.sl .str)] [pB] (c1A (jb2 N))):=
 mO (fC (jcM N) ja) func119 rfl N (.seq .no (.seq (.seq .no (.block (.loop jmc .no))) .no)) _
def jdF (N:Nat) (a:List UInt8) (b:List UInt8):Z9:=
 (bif decide ((b.length:Int)<=(a.length:Int))then if fits ((a.length:Int)-(b.length:Int))then oB (cut a ((a.length:Int)-(b.length:Int)) (a.length:Int)) fun c=>(some (decide (c=b)))else none else some false)
theorem jpU :mK 268 (bX [pS,pS] [pB] (c2A (jdF N))):=
 mO ja func268 rfl N .no _
def jcN (c:List UInt8) (b:List UInt8):Z9:=
 (oB (jdF N c b) fun a=>some a)
theorem jsu :mK 193 (bX [pS,pS] [pB] (c2A (jcN N))):=
 mO (fC (jpU N) ja) func193 rfl N .no _
def jod :Sh:=⟨pS:: .dead:: .dead::pB::dz 32 [],[]⟩
def jnf :Sh:=⟨pS:: .dead:: .dead::pB::dz 6 (.own 600010 .str 9 true::pI::pI::dz 23 []),[]⟩
def jaB (k:List UInt8):Option (Z2):=
 (oB (jO N k) fun o=>bif !o then some ([]:List UInt8)else iter (fun l (j,p)=>bif p then iter (fun i (a,h,d,e,b)=>bif decide (b<e)then oB (idx d b) fun c=>(oB (jcN N a c) fun m=>bif m then if fits ((a.length:Int)-(c.length:Int))then bif decide ((3:Int)<=((a.length:Int)-(c.length:Int)))then if fits ((a.length:Int)-(c.length:Int))then oB (cut a 0 ((a.length:Int)-(c.length:Int))) fun n=>(l (n,true))else none else(if fits (b+1)then i (a,h,d,e,(b+1))else none)else none else if fits (b+1)then i (a,h,d,e,(b+1))else none)else l (a,h)) N (j,false,([([105,110,103]:List UInt8),([101,100]:List UInt8),([101,115]:List UInt8),([108,121]:List UInt8),([115]:List UInt8)]:List Z2),(([([105,110,103]:List UInt8),([101,100]:List UInt8),([101,115]:List UInt8),([108,121]:List UInt8),([115]:List UInt8)]:List Z2).length:Int),(0:Int))else some j) N (k,true))
theorem jio :mK 121 (bX [pS] [pS] (c1A (jaB N))):=
 mO (fC (jcM N) (fC (jsu N) ja)) func121 rfl N (.seq .no (.seq .no (.seq (.seq .no (.block (.loop jod (.seq .no (.block (.seq .no (.seq .no (.block (.loop jnf .no))))))))) .no))) _
def jkJ :Sh:=⟨.pv (.sl .str)::pS::dz 5 (pI::pI::dz 10 []),[]⟩
def jdH (c:List Z2) (f:List UInt8):Z14:=
 (iter (fun i (b,d,e,a)=>bif decide (a<e)then oB (idx b a) fun j=>(bif decide (d=j)then some a else if fits (a+1)then i (b,d,e,(a+1))else none)else some (-1)) N (c,f,(c.length:Int),(0:Int)))
theorem jkZ :mK 194 (bX [.pv (.sl .str),pS] [pI] (c2A (jdH N))):=
 mO ja func194 rfl N (.seq .no (.seq (.seq .no (.block (.loop jkJ .no))) .no)) _
def jao (c:List Z2) (a:List UInt8):Z9:=
 (oB (jdH N c a) fun b=>some (decide ((0:Int)<=b)))
theorem jh5 :mK 122 (bX [.pv (.sl .str),pS] [pB] (c2A (jao N))):=
 mO (fC (jkZ N) ja) func122 rfl N .no _
def jmj :Sh:=⟨.dead:: .box 1 0::dz 22 (.pv Y20::pI::pI::dz 46 []),[(1,false,[.pv (.sl .str),.pv Y20])]⟩
def jrC :Sh:=⟨.dead:: .box 1 0::dz 22 (.pv Y20::pI::pI::dz 12 (pB::dz 7 (pB:: .dead:: .dead:: .pv (.sl .str)::pI::pI::dz 20 []))),[(1,false,[.pv (.sl .str),.pv Y20])]⟩
def jaj (h:List Z2) (b:List Z5):Z9:=
 (bif decide ((6:Int)<h.length)then some false else oB (jb2 N h) fun A=>bif !A then some false else bif decide ((4:Int)<b.length)then some false else iter (fun D (k,l,j,w,C)=>bif decide (j<l)then oB (idx k j) fun a=>(oB (i_within_m N (a.1.length:Int) 1 3) fun z=>bif !z then some false else oB (jO N a.2) fun p=>bif !p then some false else oB (jaB N a.2) fun o=>bif !decide (o=a.2)then some false else iter (fun y (r,n,e,E,u,q,m,c,f,t)=>bif decide (c<m)then oB (idx q c) fun d=>(oB (jO N d) fun x=>bif !x then some false else oB (jaB N d) fun v=>bif !decide (v=d)then some false else oB (jao N f d) fun B=>bif B then some false else if fits (c+1)then y (r,n,e,E,u,q,m,(c+1),f,t)else none)else if fits (e+1)then D (r,n,(e+1),f,t)else none) N (k,l,j,(!p),(!decide (o=a.2)),a.1,(a.1.length:Int),(0:Int),w,C))else some true) N (b,(b.length:Int),(0:Int),h,b))
theorem jdX :mK 50 (bX [.agg [.pv (.sl .str),.pv Y20]] [pB] (c2A (jaj N))):=
 mO (fC (jtw N) (fC (jY N) (fC (jcM N) (fC (jio N) (fC (jh5 N) ja))))) func50 rfl N (.seq .no (.seq .no (.seq (.seq .no (.block (.loop jmj (.seq .no (.seq .no (.seq (.block (.seq .no (.seq .no (.seq .no (.block (.loop jrC .no)))))) .no)))))) .no))) _
def jtd :Sh:=⟨pS::dz 4 (pI::pI::dz 16 []),[]⟩
def jaF (d:List UInt8):Z9:=
 (iter (fun h (b,c,a)=>bif decide (a<c)then oB (idx b a) fun e=>(bif decide ((e.toNat:Int)<32)then some false else oB (idx b a) fun i=>bif decide ((126:Int)<(i.toNat:Int))then some false else if fits (a+1)then h (b,c,(a+1))else none)else some (decide ((b.length:Int)<=160))) N (d,(d.length:Int),(0:Int)))
theorem jdK :mK 131 (bX [pS] [pB] (c1A (jaF N))):=
 mO ja func131 rfl N (.seq .no (.seq (.seq .no (.block (.loop jtd .no))) .no)) _
def jlC :Sh:=⟨.dead:: .box 1 0::dz 22 (.pv Y23::pI::pI::dz 66 []),[(1,false,[pI,.pv Y23,.pv Y19])]⟩
def jpt :Sh:=⟨.dead:: .box 1 0::dz 57 (.pv Y19::pI::pI::dz 31 []),[(1,false,[pI,.pv Y23,.pv Y19])]⟩
def jbx (q:Int) (d:Z16) (t:Z10):Z9:=
 (oB (i_within_m N q 1 9999) fun B=>bif !B then some false else bif decide ((3:Int)<d.length)then some false else bif decide ((3:Int)<t.length)then some false else iter (fun u (h,i,b,k,e,c)=>bif decide (b<i)then oB (idx h b) fun m=>(oB (jO N m.1) fun A=>bif !A then some false else oB (jaF N m.2) fun y=>bif !y then some false else bif decide ((0:Int)<b)then if fits (b-1)then oB (idx e (b-1)) fun C=>(bif !Op.bytesLess C.1 m.1 then some false else if fits (b+1)then u (h,i,(b+1),k,e,c)else none)else none else if fits (b+1)then u (h,i,(b+1),k,e,c)else none)else iter (fun p (l,o,a,r,v,j)=>bif decide (a<o)then oB (idx l a) fun f=>(oB (jO N f.1) fun x=>bif !x then some false else oB (i_within_m N f.2 0 999999999) fun z=>bif !z then some false else bif decide ((0:Int)<a)then if fits (a-1)then oB (idx j (a-1)) fun w=>(bif !Op.bytesLess w.1 f.1 then some false else if fits (a+1)then p (l,o,(a+1),r,v,j)else none)else none else if fits (a+1)then p (l,o,(a+1),r,v,j)else none)else some true) N (c,(c.length:Int),(0:Int),k,e,c)) N (d,(d.length:Int),(0:Int),q,d,t))
theorem jh0 :mK 126 (bX [.agg [pI,.pv Y23,.pv Y19]] [pB] (c3A (jbx N))):=
 mO (fC (jY N) (fC (jcM N) (fC (jdK N) ja))) func126 rfl N (.seq .no (.seq .no (.seq (.seq .no (.block (.loop jlC .no))) (.seq (.seq .no (.block (.loop jpt .no))) .no)))) _
def jpj :Sh:=⟨.pv Y4::dz 4 (.pv Y4::pI::pI::dz 26 []),[]⟩
def jbf (e:List Z0):Z9:=
 (iter (fun h (b,d,f,a)=>bif decide (a<f)then oB (idx d a) fun c=>(oB (jbx N c.1 c.2.1 c.2.2) fun i=>bif !i then some false else bif decide ((0:Int)<a)then if fits (a-1)then oB (idx b (a-1)) fun k=>(bif decide (c.1<=k.1)then some false else if fits (a+1)then h (b,d,f,(a+1))else none)else none else if fits (a+1)then h (b,d,f,(a+1))else none)else some (decide ((b.length:Int)<=16))) N (e,e,(e.length:Int),(0:Int)))
theorem jjU :mK 52 (bX [.pv Y4] [pB] (c1A (jbf N))):=
 mO (fC (jh0 N) ja) func52 rfl N (.seq .no (.seq (.seq .no (.block (.loop jpj .no))) .no)) _
def jbO (N:Nat) (c:Int) (b:Z16) (a:Z10):Option Z0:=
 (if room ([]:Z16).length b.length 32 then if room ([]:Z10).length a.length 24 then some (c,(([]:Z16)++b),(([]:Z10)++a))else none else none)
theorem jrI :mK 130 (bX [.agg [pI,.pv Y23,.pv Y19]] [.agg [pI,.own 1 Y24 107 true,.own 2 Y21 258 true]] (c3A (jbO N))):=
 mO ja func130 rfl N .no _
def joW :Sh:=⟨dz 3 (.own 600003 Y5 105 true::dz 3 (.pv Y4::pI::pI::dz 10 [])),[]⟩
def jbV (e:List Z0):Z19:=
 (iter (fun j (b,h,f,a)=>bif decide (a<f)then oB (idx h a) fun c=>(oB (jbO N c.1 c.2.1 c.2.2) fun d=>if room b.length ([d]:List Z0).length 56 then if fits (a+1)then j ((b++([d]:List Z0)),h,f,(a+1))else none else none)else some b) N (([]:List Z0),e,(e.length:Int),(0:Int)))
theorem joC :mK 55 (bX [.pv Y4] [.own 1 Y5 105 true] (c1A (jbV N))):=
 mO (fC (jrI N) ja) func55 rfl N (.seq .no (.seq .no (.seq (.seq .no (.block (.loop joW .no))) .no))) _
def jI (N:Nat) (a:Int):Z14:=
 (bif decide ((65:Int)<=a)then bif decide (a<=90)then some (IntKind.u8.wrap ((IntKind.u8.wrap (a+97))-65))else(some a)else some a)
theorem jmu :mK 206 (bX [.pv (.int .u8)] [.pv (.int .u8)] (c1A (jI N))):=
 mO ja func206 rfl N .no _
def jpB :Sh:=⟨pS:: .dead:: .dead:: .own 600003 Y8 188 true::pI::dz 57 [],[]⟩
def jo6 :Sh:=⟨pS:: .dead:: .dead:: .own 600003 Y8 188 true::pI:: .box 5 0:: .own 600006 (.int .u8) 5 true::dz 55 [],[(5,false,[pS,pI,pI,pI])]⟩
def jct (p:List UInt8):Option ((List Z12)):=
 (oB (jaF N p) fun z=>bif !z then some ([]:List Z12)else iter (fun l (i,j,d)=>bif decide (d<(i.length:Int))then oB (idx i d) fun y=>(oB (jI N (y.toNat:Int)) fun x=>oB (jaw N x) fun v=>bif !v then if fits (d+1)then l (i,j,(d+1))else none else iter (fun n (c,f,a,b,q,e,h,o)=>bif decide (a<(c.length:Int))then oB (idx c a) fun u=>(oB (jI N (u.toNat:Int)) fun r=>oB (jaw N r) fun w=>bif w then bif decide ((b.length:Int)<12)then oB (idx c a) fun t=>(oB (jI N (t.toNat:Int)) fun m=>if room b.length ([m]:List Int).length 1 then if fits (a+1)then n (c,f,(a+1),(b++([m]:List Int)),q,e,h,o)else none else none)else(if fits (a+1)then n (c,f,(a+1),b,q,e,h,o)else none)else if room f.length ([((bytesOf b),e,h,a)]:List Z12).length 40 then l (c,(f++([((bytesOf b),e,h,a)]:List Z12)),a)else none)else if room f.length ([((bytesOf b),e,h,a)]:List Z12).length 40 then l (c,(f++([((bytesOf b),e,h,a)]:List Z12)),a)else none) N (i,j,d,([]:List Int),([]:List UInt8),(j.length:Int),d,(0:Int)))else some j) N (p,([]:List Z12),(0:Int)))
theorem jqc :mK 132 (bX [pS] [.own 1 Y8 188 true] (c1A (jct N))):=
 mO (fC (jdK N) (fC (jmu N) (fC (jeK N) ja))) func132 rfl N (.seq .no (.seq .no (.seq .no (.seq (.seq .no (.block (.loop jpB (.seq .no (.block (.seq .no (.seq .no (.seq .no (.seq (.block (.loop jo6 .no)) .no))))))))) .no)))) _
def jty :Sh:=⟨.dead:: .pv Y19::pI:: .box 3 0::dz 3 (.pv (.opt Y22)::dz 8 (pI::pI::dz 73 [])),[(3,false,[.pv (.sl .str),.pv Y20])]⟩
def jss :Sh:=⟨.dead:: .pv Y19::pI:: .box 3 0::dz 3 (.pv (.opt Y22):: .dead:: .ptr Y22::pB::dz 5 (pI::pI::dz 31 (pB::dz 4 (.pv (.sl .str)::pI::pI::dz 34 [])))),[(3,false,[.pv (.sl .str),.pv Y20])]⟩
def jbH (c:List Z2) (c2:List Z5) (terms:Z10) (at0:Int):Option ((Option Z5)):=
 (iter (fun go (terms2,at02,best,t16,t17,c3,c4)=>bif decide (t17<t16)then oB (idx c4 t17) fun e=>(if fits ((terms2.length:Int)-at02)then bif decide (((terms2.length:Int)-at02)<(e.1.length:Int))then if fits (t17+1)then go (terms2,at02,best,t16,(t17+1),c3,c4)else none else(bif !(Option.isNone best)then oB best fun p=>(bif decide ((e.1.length:Int)<=(p.1.length:Int))then if fits (t17+1)then go (terms2,at02,best,t16,(t17+1),c3,c4)else none else iter (fun go2 (terms3,at03,best2,r,fits0,t162,t172,t49,t54,t55,t56,c5,c6)=>bif decide (t56<t55)then oB (idx t54 t56) fun e2=>(if fits (at03+t56)then oB (idx terms3 (at03+t56)) fun e3=>(bif fits0 then bif decide (e3.1=e2)then oB (idx terms3 at03) fun e4=>(if fits (e4.2+t56)then if fits (t56+1)then go2 (terms3,at03,best2,r,(decide (e3.2=(e4.2+t56))),t162,t172,t49,t54,t55,(t56+1),c5,c6)else none else none)else(if fits (t56+1)then go2 (terms3,at03,best2,r,false,t162,t172,t49,t54,t55,(t56+1),c5,c6)else none)else if fits (t56+1)then go2 (terms3,at03,best2,r,false,t162,t172,t49,t54,t55,(t56+1),c5,c6)else none)else none)else bif fits0 then if fits (t172+1)then go (terms3,at03,(some r),t162,(t172+1),c5,c6)else none else if fits (t172+1)then go (terms3,at03,best2,t162,(t172+1),c5,c6)else none) N (terms2,at02,best,e,true,t16,t17,(decide ((e.1.length:Int)<=(p.1.length:Int))),e.1,(e.1.length:Int),(0:Int),c3,c4))else iter (fun go3 (terms4,at04,best3,r2,fits02,t163,t173,t492,t542,t552,t562,c7,c8)=>bif decide (t562<t552)then oB (idx t542 t562) fun e5=>(if fits (at04+t562)then oB (idx terms4 (at04+t562)) fun e6=>(bif fits02 then bif decide (e6.1=e5)then oB (idx terms4 at04) fun e7=>(if fits (e7.2+t562)then if fits (t562+1)then go3 (terms4,at04,best3,r2,(decide (e6.2=(e7.2+t562))),t163,t173,t492,t542,t552,(t562+1),c7,c8)else none else none)else(if fits (t562+1)then go3 (terms4,at04,best3,r2,false,t163,t173,t492,t542,t552,(t562+1),c7,c8)else none)else if fits (t562+1)then go3 (terms4,at04,best3,r2,false,t163,t173,t492,t542,t552,(t562+1),c7,c8)else none)else none)else bif fits02 then if fits (t173+1)then go (terms4,at04,(some r2),t163,(t173+1),c7,c8)else none else if fits (t173+1)then go (terms4,at04,best3,t163,(t173+1),c7,c8)else none) N (terms2,at02,best,e,true,t16,t17,false,e.1,(e.1.length:Int),(0:Int),c3,c4))else none)else some best) N (terms,at0,(none:Option Z5),(c2.length:Int),(0:Int),c,c2))
theorem jtv :mK 133 (bX [.agg [.pv (.sl .str),.pv Y20],.pv Y19,pI] [.pv (.opt Y22)] (c4A (jbH N))):=
 mO ja func133 rfl N (.seq .no (.seq .no (.seq (.seq .no (.block (.loop jty (.seq .no (.seq .no (.seq (.block (.seq .no (.seq .no (.seq .no (.seq .no (.seq (.seq .no (.block (.loop jss .no))) .no)))))) .no)))))) .no))) _
def jlW :Sh:=⟨.dead:: .dead:: .box 2 0:: .dead:: .dead:: .own 600005 Y21 111 true:: .own 600006 Y21 111 true::dz 17 (.own 600024 Y8 188 true::pI::pI::dz 67 []),[(2,false,[.pv (.sl .str),.pv Y20])]⟩
def jnt :Sh:=⟨.dead:: .dead:: .box 2 0:: .dead:: .dead:: .own 600005 Y21 111 true:: .own 600006 Y21 111 true::dz 3 (pI::dz 83 []),[(2,false,[.pv (.sl .str),.pv Y20])]⟩
def jbw (x:List Z2) (u:List Z5) (A:List UInt8):Option (Z8):=
 (oB (jaj N x u) fun G=>bif !G then some ([]:Z10)else oB (jaF N A) fun E=>bif !E then some ([]:Z10)else oB (jct N A) fun v=>iter (fun q (j,e,h,i,b,d,l)=>bif decide (b<i)then oB (idx h b) fun k=>(oB (jaB N k.1) fun n=>oB (jao N d k.1) fun D=>bif !D then oB (jao N d n) fun C=>(bif !C then if room e.length ([(n,k.2.1)]:Z10).length 24 then if fits (b+1)then q (j,(e++([(n,k.2.1)]:Z10)),h,i,(b+1),d,l)else none else none else if fits (b+1)then q (j,e,h,i,(b+1),d,l)else none)else if fits (b+1)then q (j,e,h,i,(b+1),d,l)else none)else iter (fun w (f,c,a,m,r)=>bif decide (a<(c.length:Int))then oB (jbH N m r c a) fun o=>(bif Option.isNone o then oB (idx c a) fun B=>(if room f.length ([B]:Z10).length 24 then if fits (a+1)then w ((f++([B]:Z10)),c,(a+1),m,r)else none else none)else oB o fun z=>oB (idx c a) fun t=>if room f.length ([(z.2,t.2)]:Z10).length 24 then oB o fun y=>(if fits (a+(y.1.length:Int))then w ((f++([(z.2,t.2)]:Z10)),c,(a+(y.1.length:Int)),m,r)else none)else none)else some f) N (j,e,(0:Int),d,l)) N (([]:Z10),([]:Z10),v,(v.length:Int),(0:Int),x,u))
theorem jgO :mK 56 (bX [.agg [.pv (.sl .str),.pv Y20],pS] [.own 1 Y21 111 true] (c3A (jbw N))):=
 mO (fC (jdX N) (fC (jdK N) (fC (jqc N) (fC (jio N) (fC (jh5 N) (fC (jtv N) ja)))))) func56 rfl N (.seq .no (.seq .no (.seq .no (.seq .no (.seq (.seq .no (.block (.loop jlW .no))) (.seq (.seq .no (.block (.loop jnt .no))) .no)))))) _
def k__loop_example_fossick_impl_Seg_put_1_m (N:Nat) (d:List UInt8) (c:List UInt8) (e:Z7) (b:List UInt8) (a:Z2×Int):Z9:=
 (bif decide (d=b)then some (decide (c=a.1))else some false)
theorem jmw :mK 135 (bX [.agg [pS,pS,.pv Y15],.ptr .str,.ptr Y21] [pB] (c5A (k__loop_example_fossick_impl_Seg_put_1_m N))):=
 mO ja func135 rfl N .no _
def jnc :Sh:=⟨.pv Y6:: .clo 135 [.ptr .str,.ptr Y21]::dz 5 (pI::pI::dz 10 []),[]⟩
def k_slices_IndexFunc_146_m (e:List Z1) (i:Z2×Z2×Int):Z14:=
 (iter (fun k (d,b,f,a)=>bif decide (a<f)then oB (idx d a) fun c=>(oB (k__loop_example_fossick_impl_Seg_put_1_m N c.1 c.2.1 c.2.2 b.1 b.2) fun h=>bif h then some a else if fits (a+1)then k (d,b,f,(a+1))else none)else some (-1)) N (e,i,(e.length:Int),(0:Int)))
theorem jrl :mK 134 (bX [.pv Y6,.clo 135 [.ptr .str,.ptr Y21]] [pI] (c2A (k_slices_IndexFunc_146_m N))):=
 mO (fC (jmw N) ja) func134 rfl N (.seq .no (.seq (.seq .no (.block (.loop jnc .no))) .no)) _
def i_Seg_put_m (f:List UInt8) (h:List UInt8) (i:Int) (e:Int) (r:List Z0) (a:List Z1):Option ((List Z0)×(List Z1)):=
 (oB (k_slices_IndexFunc_146_m N a (f,h,i)) fun d=>bif decide (d<0)then if room a.length ([(f,h,([]:Z7))]:List Z1).length 56 then if 0<=(a.length:Int)/\(a.length:Int)<((a++([(f,h,([]:Z7))]:List Z1)).length:Int)then oB ((a++([(f,h,([]:Z7))]:List Z1))[(a.length:Int).toNat]?) fun c=>(if fits ((c.2.2.length:Int)-1)then bif decide (((c.2.2.length:Int)-1)<0)then oB ((a++([(f,h,([]:Z7))]:List Z1))[(a.length:Int).toNat]?) fun an=>(if(a.length:Int).toNat=(a.length:Int).toNat then if room c.2.2.length ([(e,([]:List Int))]:Z7).length 32 then if(a.length:Int).toNat=(a.length:Int).toNat then oB ((a++([(f,h,([]:Z7))]:List Z1))[(a.length:Int).toNat]?) fun k=>(if fits (((c.2.2.length:Int)-1)+1)then oB (((a++([(f,h,([]:Z7))]:List Z1)).set (a.length:Int).toNat (k.1,k.2.1,(c.2.2++([(e,([]:List Int))]:Z7))))[(a.length:Int).toNat]?) fun o=>(oB (o.2.2[(((c.2.2.length:Int)-1)+1).toNat]?) fun w=>oB (((a++([(f,h,([]:Z7))]:List Z1)).set (a.length:Int).toNat (k.1,k.2.1,(c.2.2++([(e,([]:List Int))]:Z7))))[(a.length:Int).toNat]?) fun R=>if(a.length:Int).toNat=(a.length:Int).toNat then oB (((a++([(f,h,([]:Z7))]:List Z1)).set (a.length:Int).toNat (k.1,k.2.1,(c.2.2++([(e,([]:List Int))]:Z7))))[(a.length:Int).toNat]?) fun ab=>(if(a.length:Int).toNat=(a.length:Int).toNat then if 0<=(((c.2.2.length:Int)-1)+1)/\(((c.2.2.length:Int)-1)+1)<(o.2.2.length:Int)then oB (o.2.2[(((c.2.2.length:Int)-1)+1).toNat]?) fun S=>(if(((c.2.2.length:Int)-1)+1).toNat=(((c.2.2.length:Int)-1)+1).toNat then if room w.2.length ([i]:List Int).length 8 then if 0<=(((c.2.2.length:Int)-1)+1)/\(((c.2.2.length:Int)-1)+1)<(o.2.2.length:Int)then if(((c.2.2.length:Int)-1)+1).toNat=(((c.2.2.length:Int)-1)+1).toNat then oB (o.2.2[(((c.2.2.length:Int)-1)+1).toNat]?) fun O=>(some (r,(((a++([(f,h,([]:Z7))]:List Z1)).set (a.length:Int).toNat (k.1,k.2.1,(c.2.2++([(e,([]:List Int))]:Z7)))).modify ((a.length:Int).toNat) fun B=>(B.1,B.2.1,(o.2.2.set (((c.2.2.length:Int)-1)+1).toNat (O.1,(w.2++([i]:List Int))))))))else none else none else none else none)else none else none)else none)else none)else none else none else none)else(oB ((a++([(f,h,([]:Z7))]:List Z1))[(a.length:Int).toNat]?) fun ag=>if(a.length:Int).toNat=(a.length:Int).toNat then if 0<=((c.2.2.length:Int)-1)/\((c.2.2.length:Int)-1)<(c.2.2.length:Int)then oB (c.2.2[((c.2.2.length:Int)-1).toNat]?) fun I=>(bif !decide (I.1=e)then oB ((a++([(f,h,([]:Z7))]:List Z1))[(a.length:Int).toNat]?) fun ac=>(if(a.length:Int).toNat=(a.length:Int).toNat then if room c.2.2.length ([(e,([]:List Int))]:Z7).length 32 then if(a.length:Int).toNat=(a.length:Int).toNat then oB ((a++([(f,h,([]:Z7))]:List Z1))[(a.length:Int).toNat]?) fun l=>(if fits (((c.2.2.length:Int)-1)+1)then oB (((a++([(f,h,([]:Z7))]:List Z1)).set (a.length:Int).toNat (l.1,l.2.1,(c.2.2++([(e,([]:List Int))]:Z7))))[(a.length:Int).toNat]?) fun q=>(oB (q.2.2[(((c.2.2.length:Int)-1)+1).toNat]?) fun E=>oB (((a++([(f,h,([]:Z7))]:List Z1)).set (a.length:Int).toNat (l.1,l.2.1,(c.2.2++([(e,([]:List Int))]:Z7))))[(a.length:Int).toNat]?) fun ah=>if(a.length:Int).toNat=(a.length:Int).toNat then oB (((a++([(f,h,([]:Z7))]:List Z1)).set (a.length:Int).toNat (l.1,l.2.1,(c.2.2++([(e,([]:List Int))]:Z7))))[(a.length:Int).toNat]?) fun aq=>(if(a.length:Int).toNat=(a.length:Int).toNat then if 0<=(((c.2.2.length:Int)-1)+1)/\(((c.2.2.length:Int)-1)+1)<(q.2.2.length:Int)then oB (q.2.2[(((c.2.2.length:Int)-1)+1).toNat]?) fun V=>(if(((c.2.2.length:Int)-1)+1).toNat=(((c.2.2.length:Int)-1)+1).toNat then if room E.2.length ([i]:List Int).length 8 then if 0<=(((c.2.2.length:Int)-1)+1)/\(((c.2.2.length:Int)-1)+1)<(q.2.2.length:Int)then if(((c.2.2.length:Int)-1)+1).toNat=(((c.2.2.length:Int)-1)+1).toNat then oB (q.2.2[(((c.2.2.length:Int)-1)+1).toNat]?) fun H=>(some (r,(((a++([(f,h,([]:Z7))]:List Z1)).set (a.length:Int).toNat (l.1,l.2.1,(c.2.2++([(e,([]:List Int))]:Z7)))).modify ((a.length:Int).toNat) fun x=>(x.1,x.2.1,(q.2.2.set (((c.2.2.length:Int)-1)+1).toNat (H.1,(E.2++([i]:List Int))))))))else none else none else none else none)else none else none)else none)else none)else none else none else none)else if(a.length:Int).toNat=(a.length:Int).toNat then oB (c.2.2[((c.2.2.length:Int)-1).toNat]?) fun C=>(oB ((a++([(f,h,([]:Z7))]:List Z1))[(a.length:Int).toNat]?) fun aj=>if(a.length:Int).toNat=(a.length:Int).toNat then oB ((a++([(f,h,([]:Z7))]:List Z1))[(a.length:Int).toNat]?) fun al=>(if(a.length:Int).toNat=(a.length:Int).toNat then if 0<=((c.2.2.length:Int)-1)/\((c.2.2.length:Int)-1)<(c.2.2.length:Int)then oB (c.2.2[((c.2.2.length:Int)-1).toNat]?) fun ai=>(if((c.2.2.length:Int)-1).toNat=((c.2.2.length:Int)-1).toNat then if room C.2.length ([i]:List Int).length 8 then if 0<=((c.2.2.length:Int)-1)/\((c.2.2.length:Int)-1)<(c.2.2.length:Int)then if((c.2.2.length:Int)-1).toNat=((c.2.2.length:Int)-1).toNat then oB (c.2.2[((c.2.2.length:Int)-1).toNat]?) fun P=>(some (r,((a++([(f,h,([]:Z7))]:List Z1)).modify ((a.length:Int).toNat) fun D=>(D.1,D.2.1,(c.2.2.set ((c.2.2.length:Int)-1).toNat (P.1,(C.2++([i]:List Int))))))))else none else none else none else none)else none else none)else none)else none)else none else none)else none)else none else none else if 0<=d/\d<(a.length:Int)then oB (a[d.toNat]?) fun b=>(if fits ((b.2.2.length:Int)-1)then bif decide (((b.2.2.length:Int)-1)<0)then oB (a[d.toNat]?) fun ak=>(if d.toNat=d.toNat then if room b.2.2.length ([(e,([]:List Int))]:Z7).length 32 then if d.toNat=d.toNat then oB (a[d.toNat]?) fun m=>(if fits (((b.2.2.length:Int)-1)+1)then oB ((a.set d.toNat (m.1,m.2.1,(b.2.2++([(e,([]:List Int))]:Z7))))[d.toNat]?) fun n=>(oB (n.2.2[(((b.2.2.length:Int)-1)+1).toNat]?) fun u=>oB ((a.set d.toNat (m.1,m.2.1,(b.2.2++([(e,([]:List Int))]:Z7))))[d.toNat]?) fun ad=>if d.toNat=d.toNat then oB ((a.set d.toNat (m.1,m.2.1,(b.2.2++([(e,([]:List Int))]:Z7))))[d.toNat]?) fun X=>(if d.toNat=d.toNat then if 0<=(((b.2.2.length:Int)-1)+1)/\(((b.2.2.length:Int)-1)+1)<(n.2.2.length:Int)then oB (n.2.2[(((b.2.2.length:Int)-1)+1).toNat]?) fun af=>(if(((b.2.2.length:Int)-1)+1).toNat=(((b.2.2.length:Int)-1)+1).toNat then if room u.2.length ([i]:List Int).length 8 then if 0<=(((b.2.2.length:Int)-1)+1)/\(((b.2.2.length:Int)-1)+1)<(n.2.2.length:Int)then if(((b.2.2.length:Int)-1)+1).toNat=(((b.2.2.length:Int)-1)+1).toNat then oB (n.2.2[(((b.2.2.length:Int)-1)+1).toNat]?) fun Q=>(some (r,((a.set d.toNat (m.1,m.2.1,(b.2.2++([(e,([]:List Int))]:Z7)))).modify d.toNat fun A=>(A.1,A.2.1,(n.2.2.set (((b.2.2.length:Int)-1)+1).toNat (Q.1,(u.2++([i]:List Int))))))))else none else none else none else none)else none else none)else none)else none)else none else none else none)else(oB (a[d.toNat]?) fun ae=>if d.toNat=d.toNat then if 0<=((b.2.2.length:Int)-1)/\((b.2.2.length:Int)-1)<(b.2.2.length:Int)then oB (b.2.2[((b.2.2.length:Int)-1).toNat]?) fun K=>(bif !decide (K.1=e)then oB (a[d.toNat]?) fun ao=>(if d.toNat=d.toNat then if room b.2.2.length ([(e,([]:List Int))]:Z7).length 32 then if d.toNat=d.toNat then oB (a[d.toNat]?) fun j=>(if fits (((b.2.2.length:Int)-1)+1)then oB ((a.set d.toNat (j.1,j.2.1,(b.2.2++([(e,([]:List Int))]:Z7))))[d.toNat]?) fun p=>(oB (p.2.2[(((b.2.2.length:Int)-1)+1).toNat]?) fun t=>oB ((a.set d.toNat (j.1,j.2.1,(b.2.2++([(e,([]:List Int))]:Z7))))[d.toNat]?) fun W=>if d.toNat=d.toNat then oB ((a.set d.toNat (j.1,j.2.1,(b.2.2++([(e,([]:List Int))]:Z7))))[d.toNat]?) fun am=>(if d.toNat=d.toNat then if 0<=(((b.2.2.length:Int)-1)+1)/\(((b.2.2.length:Int)-1)+1)<(p.2.2.length:Int)then oB (p.2.2[(((b.2.2.length:Int)-1)+1).toNat]?) fun T=>(if(((b.2.2.length:Int)-1)+1).toNat=(((b.2.2.length:Int)-1)+1).toNat then if room t.2.length ([i]:List Int).length 8 then if 0<=(((b.2.2.length:Int)-1)+1)/\(((b.2.2.length:Int)-1)+1)<(p.2.2.length:Int)then if(((b.2.2.length:Int)-1)+1).toNat=(((b.2.2.length:Int)-1)+1).toNat then oB (p.2.2[(((b.2.2.length:Int)-1)+1).toNat]?) fun L=>(some (r,((a.set d.toNat (j.1,j.2.1,(b.2.2++([(e,([]:List Int))]:Z7)))).modify d.toNat fun v=>(v.1,v.2.1,(p.2.2.set (((b.2.2.length:Int)-1)+1).toNat (L.1,(t.2++([i]:List Int))))))))else none else none else none else none)else none else none)else none)else none)else none else none else none)else if d.toNat=d.toNat then oB (b.2.2[((b.2.2.length:Int)-1).toNat]?) fun y=>(oB (a[d.toNat]?) fun ap=>if d.toNat=d.toNat then oB (a[d.toNat]?) fun U=>(if d.toNat=d.toNat then if 0<=((b.2.2.length:Int)-1)/\((b.2.2.length:Int)-1)<(b.2.2.length:Int)then oB (b.2.2[((b.2.2.length:Int)-1).toNat]?) fun aa=>(if((b.2.2.length:Int)-1).toNat=((b.2.2.length:Int)-1).toNat then if room y.2.length ([i]:List Int).length 8 then if 0<=((b.2.2.length:Int)-1)/\((b.2.2.length:Int)-1)<(b.2.2.length:Int)then if((b.2.2.length:Int)-1).toNat=((b.2.2.length:Int)-1).toNat then oB (b.2.2[((b.2.2.length:Int)-1).toNat]?) fun G=>(some (r,(a.modify d.toNat fun z=>(z.1,z.2.1,(b.2.2.set ((b.2.2.length:Int)-1).toNat (G.1,(y.2++([i]:List Int))))))))else none else none else none else none)else none else none)else none)else none)else none else none)else none)else none)
theorem jky :mK 57 ⟨⟨[.box 900000 0,pS,.agg [pS,pI],pI],[(900000,false,[.pv Y4,.tre 850001 Y7 116])]⟩,⟨[.tup []],[(900000,false,[.pv Y4,.tre 1 Y7 116])]⟩,c6A (i_Seg_put_m N)⟩:=
 mO (fC (jrl N) ja) func57 rfl N (.seq .no (.seq .no (.seq .no (.seq .no (.seq .no (.seq .no (.touch [.out 9 [(2,79,196,10),(1,88,3,0)]]))))))) _ (wr:=[33,34,70,71,91,92]) (rs:=[900000,850001]) (dw:=[16,33,70])
end Go.Proofs.YtabhgjdikeipdaaGreatDoor
