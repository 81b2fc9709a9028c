import Derived.Test.YtchgdmmcjgmfcaaGreatDoorSJ
set_option linter.unusedVariables false
set_option linter.unusedSimpArgs false
namespace Go.Proofs.YtchgdmmcjgmfcaaGreatDoor
open Go.RowKit Go.Proofs.Tryz
variable (N : Nat)
open Option renaming bind -> oB
set_option maxRecDepth 1000000
abbrev Z0 :Type:=Int×(List ((List UInt8)×(List UInt8)))×(List ((List UInt8)×Int))
abbrev Z1 :Type:=(List UInt8)×(List UInt8)×(List (Int×(List Int)))
abbrev Z2 :Type:=List UInt8
abbrev Z3 :Type:=((List Z0)×(List Z1))×(List Int)
abbrev Z4 :Type:=(List Z2)×Z2
abbrev Z5 :Type:=List (Int×(List Int))
abbrev Z7 :Type:=List (Int×Int)
abbrev Z8 :Type:=List (Z2×Int)
abbrev Z9 :Type:=Option (Bool)
abbrev Z10 :Type:=List (Z2×Int)
abbrev Z11 :Type:=Z2×Int×Int×Int
abbrev Z12 :Type:=List (Z2×Z2)
abbrev Z13 :Type:=List (Int×Int)
abbrev Z14 :Type:=List (Int×(List Int))
abbrev Z15 :Type:=List (Z2×Z2)
abbrev Z16 :Type:=((List Z2)×(List Z4))×(List Z0)×(List Z1)
abbrev Z17 :Type:=Option (Int)
abbrev Z18 :Type:=(List Int)×Int×Int×Int×Int
abbrev Z19 :Type:=Option ((List Int))
abbrev Z20 :Type:=Option ((List Z2)×(List Z4)×(List Z3)×Bool)
abbrev Z21 :Type:=List (List Int)
abbrev Z22 :Type:=Option ((List Z0))
abbrev Z25 :Type:=Z2×Z2×(List Int)×Int×Int×Int
abbrev Z26 :Type:=Int×Int×Z2×(List Z2)×Int×Int×(List DQ)×Bool×Int×Int×Int×Int×Bool×Int×Int
abbrev bX (a r:List VS) (f:HD (Sh.codes ⟨a,[]⟩)->Option (HD (Sh.codes ⟨r,[]⟩))):Model:=⟨⟨a,[]⟩,⟨r,[]⟩,f⟩
abbrev mK :=ModelOk Tryz.prog
theorem mO {l:List (Nat×Model)} (hl:jR Tryz.prog l) {f:FuncId} {fn:Func} {c:Code} (hf:Tryz.prog.funcs[f]? =some fn) (hbody:fn.body=some c) (N:Nat) (h:Hint) (m:Model) (wr rs dw:List Nat:=[])
  (hname:(fn.name== "runtime.NumGoroutine")=false:=by kernel_rfl) (hres:m.arg.names.all (jbC l wr rs dw).res=true:=by kernel_rfl) (hlen:Nat.ble m.arg.vals.length fn.ntmps=true:=by kernel_rfl)
  (hrun:∀a,m.run a=runF N (jbC l wr rs dw) okDraw fn c h m.arg m.ret a:=by intro a;kernel_rfl):ModelOk Tryz.prog f m:=modelOk_of (E:=jbC l wr rs dw) (jtQ hl wr rs dw) hf hname hbody N h m hres hlen hrun
theorem fC {k:Nat} {m:Model} {l:List (Nat×Model)} (h:ModelOk Tryz.prog k m) (hl:jR Tryz.prog l):jR Tryz.prog ((k,m)::l):=jsH h hl
abbrev pI :VS:=.pv (.int .i64)
abbrev pS :VS:=.pv .str
abbrev pB :VS:=.pv .bool
abbrev tI :Tp:=.int .i64
abbrev c1A {Y Z:Type} (f:Y->Z) (a:Y):Z:=f a
abbrev c2A {α0 α1 Z:Type} (f:α0->α1->Z) (a:α0×α1):Z:=f a.1 a.2
abbrev c3A {α0 α1 α2 Z:Type} (f:α0->α1->α2->Z) (a:α0×α1×α2):Z:=f a.1 a.2.1 a.2.2
abbrev c4A {α0 α1 α2 α3 Z:Type} (f:α0->α1->α2->α3->Z) (a:α0×α1×α2×α3):Z:=f a.1 a.2.1 a.2.2.1 a.2.2.2
abbrev c5A {α0 α1 α2 α3 α4 Z:Type} (f:α0->α1->α2->α3->α4->Z) (a:α0×α1×α2×α3×α4):Z:=f a.1 a.2.1 a.2.2.1 a.2.2.2.1 a.2.2.2.2
abbrev c6A {α0 α1 α2 α3 α4 α5 Z:Type} (f:α0->α1->α2->α3->α4->α5->Z) (a:α0×α1×α2×α3×α4×α5):Z:=f a.1 a.2.1 a.2.2.1 a.2.2.2.1 a.2.2.2.2.1 a.2.2.2.2.2
abbrev c7A {α0 α1 α2 α3 α4 α5 α6 Z:Type} (f:α0->α1->α2->α3->α4->α5->α6->Z) (a:α0×α1×α2×α3×α4×α5×α6):Z:=f a.1 a.2.1 a.2.2.1 a.2.2.2.1 a.2.2.2.2.1 a.2.2.2.2.2.1 a.2.2.2.2.2.2
abbrev c10A {α0 α1 α2 α3 α4 α5 α6 α7 α8 α9 Z:Type} (f:α0->α1->α2->α3->α4->α5->α6->α7->α8->α9->Z) (a:α0×α1×α2×α3×α4×α5×α6×α7×α8×α9):Z:=f a.1 a.2.1 a.2.2.1 a.2.2.2.1 a.2.2.2.2.1 a.2.2.2.2.2.1 a.2.2.2.2.2.2.1 a.2.2.2.2.2.2.2.1 a.2.2.2.2.2.2.2.2.1 a.2.2.2.2.2.2.2.2.2
abbrev c11A {α0 α1 α2 α3 α4 α5 α6 α7 α8 α9 α10 Z:Type} (f:α0->α1->α2->α3->α4->α5->α6->α7->α8->α9->α10->Z) (a:α0×α1×α2×α3×α4×α5×α6×α7×α8×α9×α10):Z:=f a.1 a.2.1 a.2.2.1 a.2.2.2.1 a.2.2.2.2.1 a.2.2.2.2.2.1 a.2.2.2.2.2.2.1 a.2.2.2.2.2.2.2.1 a.2.2.2.2.2.2.2.2.1 a.2.2.2.2.2.2.2.2.2.1 a.2.2.2.2.2.2.2.2.2.2
def dz :Nat->List VS->List VS
 |0,l=>l
 |n+1,l=>.dead::dz n l
abbrev Y22 :Tp:=.sl tI
abbrev Y21 :Tp:=.pair .str .str
abbrev Y20 :Tp:=.sl (.pair .str .str)
abbrev Y19 :Tp:=.pair (.sl .str) .str
abbrev Y18 :Tp:=.pair .str tI
abbrev Y17 :Tp:=.sl (.pair (.sl .str) .str)
abbrev Y16 :Tp:=.sl (.pair .str tI)
abbrev Y15 :Tp:=.pair tI tI
abbrev Y14 :Tp:=.pair tI (.sl tI)
abbrev Y13 :Tp:=.sl (.pair tI (.sl tI))
abbrev Y8 :Tp:=.pair .str (.pair tI (.pair tI tI))
abbrev Y7 :Tp:=.pair .str (.pair .str (.sl (.pair tI (.sl tI))))
abbrev Y6 :Tp:=.sl (.pair .str (.pair .str (.sl (.pair tI (.sl tI)))))
abbrev Y5 :Tp:=.pair tI (.pair (.sl (.pair .str .str)) (.sl (.pair .str tI)))
abbrev Y4 :Tp:=.sl (.pair tI (.pair (.sl (.pair .str .str)) (.sl (.pair .str tI))))
abbrev Y3 :Tp:=.pair (.sl (.pair tI (.pair (.sl (.pair .str .str)) (.sl (.pair .str tI))))) (.sl (.pair .str (.pair .str (.sl (.pair tI (.sl tI))))))
abbrev Y2 :Tp:=.pair (.pair (.sl (.pair tI (.pair (.sl (.pair .str .str)) (.sl (.pair .str tI))))) (.sl (.pair .str (.pair .str (.sl (.pair tI (.sl tI))))))) (.sl tI)
abbrev Y1 :Tp:=.sl (.pair (.pair (.sl (.pair tI (.pair (.sl (.pair .str .str)) (.sl (.pair .str tI))))) (.sl (.pair .str (.pair .str (.sl (.pair tI (.sl tI))))))) (.sl tI))
abbrev Y0 :Tp:=.pair (.pair (.sl .str) (.sl (.pair (.sl .str) .str))) (.pair (.sl (.pair tI (.pair (.sl (.pair .str .str)) (.sl (.pair .str tI))))) (.sl (.pair .str (.pair .str (.sl (.pair tI (.sl tI)))))))
def jt0 (N:Nat) (a:List Int):Option ((List Int)×Int):=
 (bif decide ((2000:Int)<a.length)then oB (cut a 0 2000) fun b=>(some (b,0))else some (a,0))
theorem juQ :mK 50 ⟨⟨[.pv (.sl (.int .u8))],[]⟩,⟨[.box 10 0],[(10,false,[.pv (.sl (.int .u8)),pI])]⟩,c1A (jt0 N)⟩:=
 mO ja func50 rfl N .no _
def jtW (N:Nat) (e:Int) (b:List Int) (a:Int):Option (Int×(List Int)×Int):=
 (if fits (a+1)then bif decide (e<1)then some (0,b,(a+1))else(bif decide ((b.length:Int)=0)then some (0,b,(a+1))else if fits ((a+1)-1)then bif decide (((a+1)-1)<(b.length:Int))then oB (idx b ((a+1)-1)) fun f=>(if e≠0 then some (((IntKind.i64.wrap f).tmod e),b,(a+1))else none)else(if(b.length:Int)≠0 then oB (idx b (((a+1)-1).tmod (b.length:Int))) fun c=>(if fits ((IntKind.i64.wrap c)*131)then if fits (((a+1)-1)*7)then if fits ((((a+1)-1)*7)+3)then if(b.length:Int)≠0 then oB (idx b (((((a+1)-1)*7)+3).tmod (b.length:Int))) fun d=>(if fits ((IntKind.i64.wrap d)*1117)then if fits (((IntKind.i64.wrap c)*131)+((IntKind.i64.wrap d)*1117))then if fits (((a+1)-1)*29)then if fits ((((IntKind.i64.wrap c)*131)+((IntKind.i64.wrap d)*1117))+(((a+1)-1)*29))then if(b.length:Int)≠0 then if fits (((a+1)-1).tdiv (b.length:Int))then if fits ((((a+1)-1).tdiv (b.length:Int))*53)then if fits (((((IntKind.i64.wrap c)*131)+((IntKind.i64.wrap d)*1117))+(((a+1)-1)*29))+((((a+1)-1).tdiv (b.length:Int))*53))then if 64≠0 then if fits ((((((IntKind.i64.wrap c)*131)+((IntKind.i64.wrap d)*1117))+(((a+1)-1)*29))+((((a+1)-1).tdiv (b.length:Int))*53)).tdiv 64)then if e≠0 then some (((bitsI .xor .i64 (((((IntKind.i64.wrap c)*131)+((IntKind.i64.wrap d)*1117))+(((a+1)-1)*29))+((((a+1)-1).tdiv (b.length:Int))*53)) ((((((IntKind.i64.wrap c)*131)+((IntKind.i64.wrap d)*1117))+(((a+1)-1)*29))+((((a+1)-1).tdiv (b.length:Int))*53)).tdiv 64)).tmod e),b,(a+1))else none else none else none else none else none else none else none else none else none else none else none)else none else none else none else none)else none)else none)else none)
theorem jtX :mK 98 ⟨⟨[.box 900000 0,pI],[(900000,false,[.pv (.sl (.int .u8)),pI])]⟩,⟨[pI],[(900000,false,[.pv (.sl (.int .u8)),pI])]⟩,c3A (jtW N)⟩:=
 mO ja func98 rfl N .no _ (rs:=[900000])
def juL :Sh:=⟨.box 900000 0:: .dead:: .box 2 0:: .box 3 0::dz 30 [],[(2,false,[.nils,.nils]),(3,false,[.own 13 .str 9 true,.nils]),(900000,false,[.pv (.sl (.int .u8)),pI])]⟩
def juw :Sh:=⟨.box 900000 0:: .dead:: .box 2 0:: .box 3 0::dz 30 [],[(2,false,[.nils,.nils]),(3,false,[.own 8 .str 9 true,.nils]),(900000,false,[.pv (.sl (.int .u8)),pI])]⟩
def s_l30Conf_m (i:List Int) (j:Int):Option ((List Z2)×(List Z4)×(List Int)×Int):=
 (meet (fun(e:(List Z2)×(List Int)×Int)=>match e with|(l,o,n)=>meet (fun(e:(List Z2)×(List Int)×Int)=>match e with|(d,k,m)=>oB (jtW N 4 k m) fun a=>bif decide (a.1=0)then some (d,([(([([110,101,119]:List UInt8),([121,111,114,107]:List UInt8)]:List Z2),([110,121]:List UInt8))]:List Z4),a.2.1,a.2.2)else bif decide (a.1=1)then some (d,([(([([98,105,103]:List UInt8)]:List Z2),([108,97,114,103]:List UInt8)),(([([98,105,103]:List UInt8),([114,101,100]:List UInt8),([102,111,120]:List UInt8)]:List Z2),([102,111,120]:List UInt8)),(([([110,101,119]:List UInt8),([121,111,114,107]:List UInt8)]:List Z2),([110,121]:List UInt8))]:List Z4),a.2.1,a.2.2)else some (d,([]:List Z4),a.2.1,a.2.2)) fun h=>oB (jtW N 4 o n) fun b=>bif decide (b.1=0)then h (([([100,111,103]:List UInt8),([116,104,101]:List UInt8)]:List Z2),b.2.1,b.2.2)else h (l,b.2.1,b.2.2)) fun f=>oB (jtW N 3 i j) fun c=>bif decide ((0:Int)<c.1)then f (([([116,104,101]:List UInt8)]:List Z2),c.2.1,c.2.2)else f (([]:List Z2),c.2.1,c.2.2))
theorem jva :mK 137 ⟨⟨[.box 900000 0],[(900000,false,[.pv (.sl (.int .u8)),pI])]⟩,⟨[.agg [.own 1 .str 9 true,.own 2 Y19 117 true]],[(900000,false,[.pv (.sl (.int .u8)),pI])]⟩,c2A (s_l30Conf_m N)⟩:=
 mO (fC (jtX N) ja) func137 rfl N (.seq .no (.seq .no (.meet juw .no (.meet juL .no .no)))) _ (rs:=[900000])
def jt (N:Nat) (a:Int):Z17:=
 (bif decide ((65:Int)<=a)then bif decide (a<=90)then some (IntKind.u8.wrap (a+32))else(bif decide ((97:Int)<=a)then bif decide (a<=122)then some a else(bif decide ((48:Int)<=a)then bif decide (a<=57)then some a else(some 0)else some 0)else bif decide ((48:Int)<=a)then bif decide (a<=57)then some a else(some 0)else some 0)else bif decide ((97:Int)<=a)then bif decide (a<=122)then some a else(bif decide ((48:Int)<=a)then bif decide (a<=57)then some a else(some 0)else some 0)else bif decide ((48:Int)<=a)then bif decide (a<=57)then some a else(some 0)else some 0)
theorem jfG :mK 197 (bX [.pv (.int .u8)] [.pv (.int .u8)] (c1A (jt N))):=
 mO ja func197 rfl N .no _
def jJ (N:Nat) (a:Int) (b:Int) (c:Int):Z9:=
 (bif decide (b<=a)then some (decide (a<=c))else some false)
theorem jcL :mK 71 (bX [pI,pI,pI] [pB] (c3A (jJ N))):=
 mO ja func71 rfl N .no _
def jr5 :Sh:=⟨pS:: .dead:: .dead::pI::dz 23 [],[]⟩
def jT (j:List UInt8):Z9:=
 (iter (fun e (a,b)=>bif decide (b<(a.length:Int))then oB (idx a b) fun i=>(oB (jt N (i.toNat:Int)) fun f=>oB (idx a b) fun h=>bif !decide (f=(h.toNat:Int))then some false else oB (idx a b) fun d=>bif decide ((d.toNat:Int)=0)then some false else if fits (b+1)then e (a,(b+1))else none)else oB (jJ N (a.length:Int) 1 12) fun c=>some c) N (j,(0:Int)))
theorem jgp :mK 142 (bX [pS] [pB] (c1A (jT N))):=
 mO (fC (jfG N) (fC (jcL N) ja)) func142 rfl N (.seq .no (.seq (.seq .no (.block (.loop jr5 .no))) .no)) _
def jdI (N:Nat):Option ((List Z2)):=
 (some ([([105,110,103]:List UInt8),([101,100]:List UInt8),([101,115]:List UInt8),([108,121]:List UInt8),([115]:List UInt8)]:List Z2))
theorem jkj :mK 264 ⟨⟨[],[]⟩,⟨[.own 1 .str 9 true],[]⟩,fun a=>jdI N⟩:=
 mO ja func264 rfl N .no _
def jl2 :Sh:=⟨pS:: .dead:: .dead::pI::dz 30 [],[]⟩
def ja6 (j:List UInt8):Option (Z2):=
 (iter (fun d (a,b)=>oB (jdI N) fun i=>bif decide (b<(i.length:Int))then oB (jdI N) fun e=>(oB (idx e b) fun c=>if fits ((a.length:Int)-(c.length:Int))then bif decide ((3:Int)<=((a.length:Int)-(c.length:Int)))then oB (cut a ((a.length:Int)-(c.length:Int)) (a.length:Int)) fun f=>(bif decide (f=c)then oB (cut a 0 ((a.length:Int)-(c.length:Int))) fun h=>(some h)else if fits (b+1)then d (a,(b+1))else none)else(if fits (b+1)then d (a,(b+1))else none)else none)else some a) N (j,(0:Int)))
theorem jtL :mK 198 (bX [pS] [pS] (c1A (ja6 N))):=
 mO (fC (jkj N) ja) func198 rfl N (.seq .no (.seq (.seq .no (.block (.loop jl2 .no))) .no)) _
def jto :Sh:=⟨pS::dz 9 [],[]⟩
def jaq (c:List UInt8):Option (Z2):=
 (iter (fun b (d:Z2)=>let s2:=d;(oB (ja6 N s2) fun e=>bif !decide (e=s2)then oB (ja6 N s2) fun a=>(b a)else some s2)) N c)
theorem jfZ :mK 143 (bX [pS] [pS] (c1A (jaq N))):=
 mO (fC (jtL N) ja) func143 rfl N (.seq .no (.seq (.block (.loop jto .no)) .no)) _
def jlY :Sh:=⟨.pv (.sl .str)::pS::dz 3 (pI::dz 12 []),[]⟩
def jap (d:List Z2) (h:List UInt8):Z9:=
 (iter (fun f (b,c,a)=>bif decide (a<(b.length:Int))then oB (idx b a) fun e=>(bif decide (e=c)then some true else if fits (a+1)then f (b,c,(a+1))else none)else some false) N (d,h,(0:Int)))
theorem jhP :mK 144 (bX [.pv (.sl .str),pS] [pB] (c2A (jap N))):=
 mO ja func144 rfl N (.seq .no (.seq (.seq .no (.block (.loop jlY .no))) .no)) _
def jrs :Sh:=⟨.dead:: .box 1 0:: .dead::pI::dz 114 [],[(1,false,[.pv (.sl .str),.pv Y17])]⟩
def js0 :Sh:=⟨.dead:: .box 1 0:: .dead:: .dead::pI::dz 113 [],[(1,false,[.pv (.sl .str),.pv Y17])]⟩
def jrc :Sh:=⟨.dead:: .box 1 0:: .dead:: .dead::pI:: .box 5 0::pI::dz 111 [],[(1,false,[.pv (.sl .str),.pv Y17]),(5,false,[.pv (.sl .str),pS])]⟩
def jcw (G:List Z2) (H:List Z4):Z9:=
 (iter (fun p (a,d,i)=>bif decide (a<(d.length:Int))then oB (idx d a) fun x=>(oB (jT N x) fun E=>bif !E then some false else bif decide ((0:Int)<a)then oB (idx d a) fun o=>(if fits (a-1)then oB (idx d (a-1)) fun r=>(bif Op.bytesLess o r||decide (o=r)then some false else if fits (a+1)then p ((a+1),d,i)else none)else none)else if fits (a+1)then p ((a+1),d,i)else none)else iter (fun y (k,m,h)=>bif decide (k<(h.length:Int))then oB (idx h k) fun q=>(iter (fun C (l,b,j,n,c,f)=>bif decide (b<(c.length:Int))then oB (idx c b) fun B=>(oB (jT N B) fun t=>bif !t then some false else oB (idx c b) fun u=>oB (jaq N u) fun z=>oB (idx c b) fun A=>bif !decide (z=A)then some false else oB (idx c b) fun v=>oB (jap N j v) fun I=>bif I then some false else if fits (b+1)then C (l,(b+1),j,n,c,f)else none)else oB (jJ N (c.length:Int) 1 3) fun w=>bif !w then some false else oB (jT N f) fun D=>bif !D then some false else oB (jaq N f) fun K=>bif !decide (K=f)then some false else if fits (l+1)then y ((l+1),j,n)else none) N (k,(0:Int),m,h,q.1,q.2))else bif decide ((m.length:Int)<=6)then some (decide ((h.length:Int)<=4))else some false) N ((0:Int),d,i)) N ((0:Int),G,H))
theorem jtf :mK 82 (bX [.agg [.pv (.sl .str),.pv Y17]] [pB] (c2A (jcw N))):=
 mO (fC (jgp N) (fC (jfZ N) (fC (jhP N) (fC (jcL N) ja)))) func82 rfl N (.seq .no (.seq (.seq .no (.block (.loop jrs .no))) (.seq (.seq .no (.block (.loop js0 (.seq .no (.seq (.block (.seq .no (.seq (.seq .no (.block (.loop jrc .no))) .no))) .no))))) .no))) _
def jMA :Sh:=⟨.dead:: .box 1 0:: .box 2 0:: .box 3 0::pI::dz 33 [],[(1,false,[.pv (.sl .str),.pv Y17]),(2,false,[.nils,.nils]),(3,false,[.own 700300 .str 9 true,.own 700301 Y19 117 true])]⟩
def s_l18CopyConf_m (d:List Z2) (k:List Z4):Option ((List Z2)×(List Z4)):=
 (if room ([]:List Z2).length d.length 16 then iter (fun j (a,i,b,f,e)=>bif decide (a<(b.length:Int))then oB (idx b a) fun c=>(if room ([]:List Z2).length c.1.length 16 then oB (idx b a) fun h=>(if room e.length ([((([]:List Z2)++c.1),h.2)]:List Z4).length 40 then if fits (a+1)then j ((a+1),i,b,f,(e++([((([]:List Z2)++c.1),h.2)]:List Z4)))else none else none)else none)else some (f,e)) N ((0:Int),d,k,(([]:List Z2)++d),([]:List Z4))else none)
theorem jMp :mK 120 (bX [.agg [.pv (.sl .str),.pv Y17]] [.agg [.own 1 .str 9 true,.own 2 Y19 117 true]] (c2A (s_l18CopyConf_m N))):=
 mO ja func120 rfl N (.seq .no (.seq .no (.seq (.seq .no (.block (.loop jMA .no))) .no))) _
def s_IndexNew_m (b:List Z2) (c:List Z4):Option ((List Z2)×(List Z4)):=
 (oB (jcw N b c) fun d=>bif !d then some (([]:List Z2),([]:List Z4))else oB (s_l18CopyConf_m N b c) fun a=>some (a.1,a.2))
theorem jOh :mK 175 (bX [.agg [.pv (.sl .str),.pv Y17]] [.agg [.own 1 .str 9 true,.own 2 Y19 117 true,.nils]] (c2A (s_IndexNew_m N))):=
 mO (fC (jtf N) (fC (jMp N) ja)) func175 rfl N .no _
def jot :Sh:=⟨pS:: .dead:: .dead::pI::dz 19 [],[]⟩
def jcu (f:List UInt8):Z9:=
 (iter (fun c (a,b)=>bif decide (b<(a.length:Int))then oB (idx a b) fun d=>(bif decide ((d.toNat:Int)<32)then some false else oB (idx a b) fun e=>bif decide ((126:Int)<(e.toNat:Int))then some false else if fits (b+1)then c (a,(b+1))else none)else some (decide ((a.length:Int)<=160))) N (f,(0:Int)))
theorem jpZ :mK 145 (bX [pS] [pB] (c1A (jcu N))):=
 mO ja func145 rfl N (.seq .no (.seq (.seq .no (.block (.loop jot .no))) .no)) _
def jp0 :Sh:=⟨.dead:: .box 1 0:: .dead::pI::dz 100 [],[(1,false,[pI,.pv Y20,.pv Y16])]⟩
def jtP :Sh:=⟨.dead:: .box 1 0::dz 3 (pI::dz 98 []),[(1,false,[pI,.pv Y20,.pv Y16])]⟩
def jcb (x:Int) (A:Z15) (r:Z10):Z9:=
 (iter (fun p (b,i,d,h)=>bif decide (b<(d.length:Int))then oB (idx d b) fun e=>(oB (jT N e.1) fun w=>bif !w then some false else oB (jcu N e.2) fun q=>bif !q then some false else bif decide ((0:Int)<b)then if fits (b-1)then oB (idx d (b-1)) fun m=>(bif Op.bytesLess e.1 m.1||decide (e.1=m.1)then some false else if fits (b+1)then p ((b+1),i,d,h)else none)else none else if fits (b+1)then p ((b+1),i,d,h)else none)else iter (fun n (a,j,k,c)=>bif decide (a<(c.length:Int))then oB (idx c a) fun y=>(oB (jT N y.1) fun u=>bif !u then some false else oB (idx c a) fun B=>oB (jJ N B.2 0 999999999) fun z=>bif !z then some false else bif decide ((0:Int)<a)then oB (idx c a) fun o=>(if fits (a-1)then oB (idx c (a-1)) fun l=>(bif Op.bytesLess o.1 l.1||decide (o.1=l.1)then some false else if fits (a+1)then n ((a+1),j,k,c)else none)else none)else if fits (a+1)then n ((a+1),j,k,c)else none)else oB (jJ N j 1 9999) fun t=>bif t then oB (jJ N (k.length:Int) 0 3) fun v=>(bif v then some (decide ((c.length:Int)<=3))else some false)else some false) N ((0:Int),i,d,h)) N ((0:Int),x,A,r))
theorem jpD :mK 83 (bX [.agg [pI,.pv Y20,.pv Y16]] [pB] (c3A (jcb N))):=
 mO (fC (jgp N) (fC (jpZ N) (fC (jcL N) ja))) func83 rfl N (.seq .no (.seq (.seq .no (.block (.loop jp0 .no))) (.seq (.seq .no (.block (.loop jtP .no))) .no))) _
def jkS :Sh:=⟨.pv Y4:: .dead:: .dead::pI::dz 33 [],[]⟩
def jbU (e:List Z0):Z9:=
 (iter (fun d (b,a)=>bif decide (a<(b.length:Int))then oB (idx b a) fun c=>(oB (jcb N c.1 c.2.1 c.2.2) fun f=>bif !f then some false else bif decide ((0:Int)<a)then oB (idx b a) fun h=>(if fits (a-1)then oB (idx b (a-1)) fun i=>(bif decide (h.1<=i.1)then some false else if fits (a+1)then d (b,(a+1))else none)else none)else if fits (a+1)then d (b,(a+1))else none)else some (decide ((b.length:Int)<=16))) N (e,(0:Int)))
theorem jpx :mK 57 (bX [.pv Y4] [pB] (c1A (jbU N))):=
 mO (fC (jpD N) ja) func57 rfl N (.seq .no (.seq (.seq .no (.block (.loop jkS .no))) .no)) _
def jl5 :Sh:=⟨.pv (.sl .str)::pS::dz 3 (pI::dz 42 []),[]⟩
def s_l7Put_m (p:List Z2) (n:List UInt8):Option ((List Z2)):=
 (iter (fun q (a,b,c)=>bif decide (c<(a.length:Int))then oB (idx a c) fun m=>(bif Op.bytesLess m b then if fits (c+1)then q (a,b,(c+1))else none else bif decide (c<(a.length:Int))then oB (idx a c) fun o=>(bif decide (o=b)then some a else oB (cut a 0 c) fun f=>if room ([]:List Z2).length f.length 16 then if room (([]:List Z2)++f).length ([b]:List Z2).length 16 then oB (cut a c (a.length:Int)) fun l=>(if room ((([]:List Z2)++f)++([b]:List Z2)).length l.length 16 then some (((([]:List Z2)++f)++([b]:List Z2))++l)else none)else none else none)else oB (cut a 0 c) fun d=>if room ([]:List Z2).length d.length 16 then if room (([]:List Z2)++d).length ([b]:List Z2).length 16 then oB (cut a c (a.length:Int)) fun k=>(if room ((([]:List Z2)++d)++([b]:List Z2)).length k.length 16 then some (((([]:List Z2)++d)++([b]:List Z2))++k)else none)else none else none)else bif decide (c<(a.length:Int))then oB (idx a c) fun r=>(bif decide (r=b)then some a else oB (cut a 0 c) fun h=>if room ([]:List Z2).length h.length 16 then if room (([]:List Z2)++h).length ([b]:List Z2).length 16 then oB (cut a c (a.length:Int)) fun j=>(if room ((([]:List Z2)++h)++([b]:List Z2)).length j.length 16 then some (((([]:List Z2)++h)++([b]:List Z2))++j)else none)else none else none)else oB (cut a 0 c) fun e=>if room ([]:List Z2).length e.length 16 then if room (([]:List Z2)++e).length ([b]:List Z2).length 16 then oB (cut a c (a.length:Int)) fun i=>(if room ((([]:List Z2)++e)++([b]:List Z2)).length i.length 16 then some (((([]:List Z2)++e)++([b]:List Z2))++i)else none)else none else none) N (p,n,(0:Int)))
theorem jgt :mK 180 (bX [.pv (.sl .str),pS] [.pv (.sl .str)] (c2A (s_l7Put_m N))):=
 mO ja func180 rfl N (.seq .no (.seq .no (.seq (.block (.loop jl5 .no)) .no))) _
def joT :Sh:=⟨.pv Y4:: .dead:: .dead:: .pv (.sl .str)::pI::dz 30 [],[]⟩
def jkn :Sh:=⟨.pv Y4:: .dead:: .dead:: .pv (.sl .str)::pI::pI::dz 29 [],[]⟩
def s_l7Names_m (j:List Z0):Option ((List Z2)):=
 (iter (fun m (f,e,i)=>bif decide (i<(f.length:Int))then iter (fun o (c,h,a,b)=>oB (idx c a) fun l=>bif decide (b<(l.2.1.length:Int))then oB (idx c a) fun n=>(oB (idx n.2.1 b) fun p=>oB (s_l7Put_m N h p.1) fun k=>if fits (b+1)then o (c,k,a,(b+1))else none)else if fits (a+1)then m (c,h,(a+1))else none) N (f,e,i,(0:Int))else some e) N (j,([]:List Z2),(0:Int)))
theorem jlz :mK 124 (bX [.pv Y4] [.pv (.sl .str)] (c1A (s_l7Names_m N))):=
 mO (fC (jgt N) ja) func124 rfl N (.seq .no (.seq .no (.seq (.seq .no (.block (.loop joT (.seq .no (.seq (.block (.seq .no (.block (.loop jkn .no)))) .no))))) .no))) _
def jl8 :Sh:=⟨.dead::pS:: .box 2 0:: .dead:: .dead::pI::dz 21 [],[(2,false,[pI,.pv Y20,.pv Y16])]⟩
def s_l6Field_m (i:Int) (m:Z15) (d:Z10) (e:List UInt8):Option (Z2):=
 (iter (fun h (c,a,l,b,j)=>bif decide (a<(b.length:Int))then oB (idx b a) fun f=>(bif decide (f.1=c)then oB (idx b a) fun k=>(some k.2)else if fits (a+1)then h (c,(a+1),l,b,j)else none)else some ([]:List UInt8)) N (e,(0:Int),i,m,d))
theorem jhA :mK 182 (bX [.agg [pI,.pv Y20,.pv Y16],pS] [pS] (c4A (s_l6Field_m N))):=
 mO ja func182 rfl N (.seq .no (.seq (.seq .no (.block (.loop jl8 .no))) .no)) _
def jo3 :Sh:=⟨pS:: .dead:: .dead:: .own 600003 Y8 196 true::pI::dz 50 [],[]⟩
def jm6 :Sh:=⟨pS:: .dead:: .dead:: .own 600003 Y8 196 true::pI:: .own 600005 (.int .u8) 5 true::pI::dz 48 [],[]⟩
def jtK :Sh:=⟨pS:: .dead:: .dead:: .own 600003 Y8 196 true::pI:: .pv (.sl (.int .u8))::pI::dz 48 [],[]⟩
def jb3 (z:List UInt8):Option ((List Z11)):=
 (iter (fun l (t,x,o)=>bif decide (o<(t.length:Int))then iter (fun A (b,i,a,c,h)=>bif decide (a<(b.length:Int))then oB (idx b a) fun G=>(oB (jt N (G.toNat:Int)) fun D=>bif !decide (D=0)then oB (idx b a) fun E=>(oB (jt N (E.toNat:Int)) fun p=>if room c.length ([p]:List Int).length 1 then if fits (a+1)then A (b,i,(a+1),(c++([p]:List Int)),h)else none else none)else meet (fun(d:Z2×(List Z11)×Int×(List Int)×Int)=>match d with|(y,j,f,n,u)=>bif decide ((0:Int)<n.length)then if room j.length ([((bytesOf n),(j.length:Int),u,f)]:List Z11).length 40 then if fits (f+1)then l (y,(j++([((bytesOf n),(j.length:Int),u,f)]:List Z11)),(f+1))else none else none else if fits (f+1)then l (y,j,(f+1))else none) fun q=>bif decide ((12:Int)<c.length)then oB (cut c 0 12) fun B=>(q (b,i,a,B,h))else q (b,i,a,c,h))else meet (fun(d:Z2×(List Z11)×Int×(List Int)×Int)=>match d with|(r,k,e,m,w)=>bif decide ((0:Int)<m.length)then if room k.length ([((bytesOf m),(k.length:Int),w,e)]:List Z11).length 40 then if fits (e+1)then l (r,(k++([((bytesOf m),(k.length:Int),w,e)]:List Z11)),(e+1))else none else none else if fits (e+1)then l (r,k,(e+1))else none) fun v=>bif decide ((12:Int)<c.length)then oB (cut c 0 12) fun C=>(v (b,i,a,C,h))else v (b,i,a,c,h)) N (t,x,o,([]:List Int),o)else some x) N (z,([]:List Z11),(0:Int)))
theorem jsr :mK 289 (bX [pS] [.own 1 Y8 196 true] (c1A (jb3 N))):=
 mO (fC (jfG N) ja) func289 rfl N (.seq .no (.seq .no (.seq (.seq .no (.block (.loop jo3 (.seq .no (.seq (.block (.seq .no (.seq .no (.seq (.block (.loop jm6 .no)) (.meet jtK .no .no))))) .no))))) .no))) _
def jmf :Sh:=⟨.dead:: .dead:: .box 2 0:: .dead:: .dead:: .own 600005 Y18 126 true:: .own 600006 Y8 196 true::pI::dz 43 [],[(2,false,[.pv (.sl .str),.pv Y17])]⟩
def jbY (o:List Z2) (p:List Z4) (k:List UInt8):Option (Z8):=
 (oB (jb3 N k) fun n=>iter (fun h (d,b,a,c,f)=>bif decide (a<(b.length:Int))then oB (idx b a) fun j=>(oB (jaq N j.1) fun e=>oB (idx b a) fun l=>oB (jap N c l.1) fun m=>bif !m then oB (jap N c e) fun q=>(bif !q then oB (idx b a) fun i=>(if room d.length ([(e,i.2.1)]:Z10).length 24 then if fits (a+1)then h ((d++([(e,i.2.1)]:Z10)),b,(a+1),c,f)else none else none)else if fits (a+1)then h (d,b,(a+1),c,f)else none)else if fits (a+1)then h (d,b,(a+1),c,f)else none)else some d) N (([]:Z10),n,(0:Int),o,p))
theorem jrk :mK 243 (bX [.agg [.pv (.sl .str),.pv Y17],pS] [.own 1 Y18 126 true] (c3A (jbY N))):=
 mO (fC (jsr N) (fC (jfZ N) (fC (jhP N) ja))) func243 rfl N (.seq .no (.seq .no (.seq .no (.seq (.seq .no (.block (.loop jmf .no))) .no)))) _
def jrL :Sh:=⟨.pv Y16:: .pv (.sl .str)::dz 3 (pI::dz 36 []),[]⟩
def jcC (e:Z10) (l:List Z2):Z9:=
 (iter (fun i (b,c,a)=>bif decide (a<(c.length:Int))then bif decide ((b.length:Int)<=a)then some false else(oB (idx b a) fun h=>oB (idx c a) fun j=>bif !decide (h.1=j)then some false else oB (idx b a) fun k=>oB (idx b 0) fun d=>if fits (d.2+a)then bif !decide (k.2=(d.2+a))then some false else(if fits (a+1)then i (b,c,(a+1))else none)else none)else some true) N (e,l,(0:Int)))
theorem jtg :mK 290 (bX [.pv Y16,.pv (.sl .str)] [pB] (c2A (jcC N))):=
 mO ja func290 rfl N (.seq .no (.seq (.seq .no (.block (.loop jrL .no))) .no)) _
def jlL :Sh:=⟨.dead:: .pv Y16:: .box 2 0:: .dead:: .dead::pI::pI::dz 38 [],[(2,false,[.pv (.sl .str),.pv Y17])]⟩
def jcJ (k:List Z2) (l:List Z4) (h:Z10):Z17:=
 (iter (fun f (c,d,a,e,b)=>bif decide (a<(b.length:Int))then oB (idx b a) fun i=>(oB (jcC N c i.1) fun j=>bif j then bif decide (d<0)then if fits (a+1)then f (c,a,(a+1),e,b)else none else(oB (idx b a) fun m=>oB (idx b d) fun n=>bif decide ((n.1.length:Int)<(m.1.length:Int))then if fits (a+1)then f (c,a,(a+1),e,b)else none else if fits (a+1)then f (c,d,(a+1),e,b)else none)else if fits (a+1)then f (c,d,(a+1),e,b)else none)else some d) N (h,((-1):Int),(0:Int),k,l))
theorem jqp :mK 244 (bX [.agg [.pv (.sl .str),.pv Y17],.pv Y16] [pI] (c3A (jcJ N))):=
 mO (fC (jtg N) ja) func244 rfl N (.seq .no (.seq .no (.seq (.seq .no (.block (.loop jlL .no))) .no))) _
def jnK :Sh:=⟨.dead:: .dead:: .box 2 0:: .dead:: .dead:: .own 600005 Y18 126 true:: .pv Y16::dz 45 [],[(2,false,[.pv (.sl .str),.pv Y17])]⟩
def ja5 (j:List Z2) (k:List Z4) (n:List UInt8):Option (Z8):=
 (oB (jbY N j k n) fun q=>iter (fun i (c,a,e,b)=>bif decide ((0:Int)<a.length)then oB (jcJ N e b a) fun d=>(bif decide (d<0)then oB (idx a 0) fun f=>(if room c.length ([f]:Z10).length 24 then oB (cut a 1 (a.length:Int)) fun o=>(i ((c++([f]:Z10)),o,e,b))else none)else oB (idx b d) fun h=>oB (idx a 0) fun l=>if room c.length ([(h.2,l.2)]:Z10).length 24 then oB (idx b d) fun r=>(oB (cut a (r.1.length:Int) (a.length:Int)) fun p=>i ((c++([(h.2,l.2)]:Z10)),p,e,b))else none)else some c) N (([]:Z10),q,j,k))
theorem jiO :mK 181 (bX [.agg [.pv (.sl .str),.pv Y17],pS] [.own 1 Y18 126 true] (c3A (ja5 N))):=
 mO (fC (jrk N) (fC (jqp N) ja)) func181 rfl N (.seq .no (.seq .no (.seq .no (.seq (.block (.loop jnK .no)) .no)))) _
def jn9 :Sh:=⟨.dead:: .pv Y4::pS:: .box 3 0::dz 3 (.pv (.sl .str)::pI::dz 31 []),[(3,false,[.pv (.sl .str),.pv Y17])]⟩
def jrT :Sh:=⟨.dead:: .pv Y4::pS:: .box 3 0::dz 3 (.pv (.sl .str)::pI:: .own 600009 Y18 126 true::pI::dz 29 []),[(3,false,[.pv (.sl .str),.pv Y17])]⟩
def s_l7Terms_m (A:List Z2) (B:List Z4) (t:List Z0) (x:List UInt8):Option ((List Z2)):=
 (iter (fun y (c,n,o,f,m,j)=>bif decide (f<(c.length:Int))then oB (idx c f) fun b=>(oB (s_l6Field_m N b.1 b.2.1 b.2.2 n) fun z=>oB (ja5 N m j z) fun r=>iter (fun u (i,k,l,e,d,a,q,p)=>bif decide (a<(d.length:Int))then oB (idx d a) fun v=>(oB (s_l7Put_m N l v.1) fun w=>if fits (a+1)then u (i,k,w,e,d,(a+1),q,p)else none)else if fits (e+1)then y (i,k,l,(e+1),q,p)else none) N (c,n,o,f,r,(0:Int),m,j))else some o) N (t,x,([]:List Z2),(0:Int),A,B))
theorem jqQ :mK 125 (bX [.agg [.pv (.sl .str),.pv Y17],.pv Y4,pS] [.pv (.sl .str)] (c4A (s_l7Terms_m N))):=
 mO (fC (jhA N) (fC (jiO N) (fC (jgt N) ja))) func125 rfl N (.seq .no (.seq .no (.seq (.seq .no (.block (.loop jn9 (.seq .no (.seq (.block (.seq .no (.seq .no (.block (.loop jrT .no))))) .no))))) .no))) _
def jnY :Sh:=⟨dz 3 (pS::dz 5 (.own 600009 tI 3 true:: .own 600010 Y18 126 true::pI::dz 28 [])),[]⟩
def s_l7Post_m (p:List Z2) (q:List Z4) (o:Int) (n:Z15) (i:Z10) (l:List UInt8) (k:List UInt8):Z19:=
 (oB (s_l6Field_m N o n i l) fun m=>oB (ja5 N p q m) fun h=>iter (fun f (d,c,b,a)=>bif decide (a<(b.length:Int))then oB (idx b a) fun j=>(bif decide (j.1=d)then oB (idx b a) fun e=>(if room c.length ([e.2]:List Int).length 8 then if fits (a+1)then f (d,(c++([e.2]:List Int)),b,(a+1))else none else none)else if fits (a+1)then f (d,c,b,(a+1))else none)else some c) N (k,([]:List Int),h,(0:Int)))
theorem js6 :mK 183 (bX [.agg [.pv (.sl .str),.pv Y17],.agg [pI,.pv Y20,.pv Y16],pS,pS] [.own 1 tI 3 true] (c7A (s_l7Post_m N))):=
 mO (fC (jhA N) (fC (jiO N) ja)) func183 rfl N (.seq .no (.seq .no (.seq .no (.seq (.seq .no (.block (.loop jnY .no))) .no)))) _
def jkw :Sh:=⟨.dead:: .pv Y4::pS::pS:: .box 4 0::dz 3 (.box 8 0:: .box 9 0::pI::dz 34 []),[(4,false,[.pv (.sl .str),.pv Y17]),(8,false,[pS,pS,.nils]),(9,false,[pS,pS,.own 700902 Y14 204 true])]⟩
def s_l7Entry_m (v:List Z2) (w:List Z4) (t:List Z0) (q:List UInt8) (p:List UInt8):Option Z1:=
 (iter (fun r (b,j,d,a,i,e,o,m,f,h,c)=>bif decide (a<(b.length:Int))then oB (idx b a) fun l=>(oB (s_l7Post_m N i e l.1 l.2.1 l.2.2 j d) fun k=>bif decide ((0:Int)<k.length)then oB (idx b a) fun n=>(if room c.length ([(n.1,k)]:Z5).length 32 then if fits (a+1)then r (b,j,d,(a+1),i,e,o,m,f,h,(c++([(n.1,k)]:Z5)))else none else none)else if fits (a+1)then r (b,j,d,(a+1),i,e,o,m,f,h,c)else none)else some (f,h,c)) N (t,q,p,(0:Int),v,w,([]:List UInt8),([]:List UInt8),q,p,([]:Z5)))
theorem jtr :mK 126 (bX [.agg [.pv (.sl .str),.pv Y17],.pv Y4,pS,pS] [.agg [pS,pS,.own 1 Y14 204 true]] (c5A (s_l7Entry_m N))):=
 mO (fC (js6 N) ja) func126 rfl N (.seq .no (.seq .no (.seq (.seq .no (.block (.loop jkw .no))) .no))) _
def s_l7CopyDoc_m (N:Nat) (c:Int) (b:Z15) (a:Z10):Option Z0:=
 (if room ([]:Z15).length b.length 32 then if room ([]:Z10).length a.length 24 then some (c,(([]:Z15)++b),(([]:Z10)++a))else none else none)
theorem jtC :mK 127 (bX [.agg [pI,.pv Y20,.pv Y16]] [.agg [pI,.own 1 Y21 120 true,.own 2 Y18 122 true]] (c3A (s_l7CopyDoc_m N))):=
 mO ja func127 rfl N .no _
def jn8 :Sh:=⟨.dead:: .pv Y4:: .box 2 0:: .dead:: .box 4 0:: .box 5 0:: .pv (.sl .str)::pI::dz 58 [],[(2,false,[.pv (.sl .str),.pv Y17]),(4,false,[.nils,.nils]),(5,false,[.nils,.own 700501 Y7 131 true])]⟩
def jpr :Sh:=⟨.dead:: .pv Y4:: .box 2 0:: .dead:: .box 4 0:: .box 5 0:: .pv (.sl .str)::pI:: .pv (.sl .str)::pI::dz 56 [],[(2,false,[.pv (.sl .str),.pv Y17]),(4,false,[.nils,.nils]),(5,false,[.nils,.own 700501 Y7 131 true])]⟩
def jn0 :Sh:=⟨.dead:: .pv Y4:: .dead:: .dead:: .box 4 0:: .box 5 0::dz 4 (pI::dz 55 []),[(4,false,[.nils,.nils]),(5,false,[.own 700500 Y5 51 true,.own 700501 Y7 131 true])]⟩
def s_l7Of_m (H:List Z2) (I:List Z4) (r:List Z0):Option ((List Z0)×(List Z1)):=
 (oB (s_l7Names_m N r) fun G=>iter (fun E (i,l,o,w,t,u)=>bif decide (o<(l.length:Int))then oB (idx l o) fun A=>(oB (s_l7Terms_m N w t i A) fun z=>iter (fun B (e,p,c,k,b,h,m,f)=>bif decide (b<(k.length:Int))then oB (idx p c) fun C=>(oB (idx k b) fun K=>oB (s_l7Entry_m N h m e C K) fun v=>if room f.length ([v]:List Z1).length 56 then if fits (b+1)then B (e,p,c,k,(b+1),h,m,(f++([v]:List Z1)))else none else none)else if fits (c+1)then E (e,p,(c+1),h,m,f)else none) N (i,l,o,z,(0:Int),w,t,u))else iter (fun D (n,d,j,x)=>bif decide (d<(n.length:Int))then oB (idx n d) fun q=>(oB (s_l7CopyDoc_m N q.1 q.2.1 q.2.2) fun y=>if room j.length ([y]:List Z0).length 56 then if fits (d+1)then D (n,(d+1),(j++([y]:List Z0)),x)else none else none)else some (j,x)) N (i,(0:Int),([]:List Z0),u)) N (r,G,(0:Int),H,I,([]:List Z1)))
theorem jmU :mK 61 (bX [.agg [.pv (.sl .str),.pv Y17],.pv Y4] [.agg [.own 1 Y5 51 true,.own 2 Y7 131 true]] (c3A (s_l7Of_m N))):=
 mO (fC (jlz N) (fC (jqQ N) (fC (jtr N) (fC (jtC N) ja)))) func61 rfl N (.seq .no (.seq .no (.seq .no (.seq (.seq .no (.block (.loop jn8 (.seq .no (.seq (.block (.seq .no (.seq .no (.block (.loop jpr .no))))) .no))))) (.seq (.seq .no (.block (.loop jn0 .no))) .no))))) _
def jnI :Sh:=⟨.pv Y22:: .pv Y22::dz 3 (pI::dz 20 []),[]⟩
def jb1 (e:List Int) (c:List Int):Z9:=
 (bif !decide ((e.length:Int)=(c.length:Int))then some false else iter (fun h (b,d,a)=>bif decide (a<(b.length:Int))then oB (idx b a) fun f=>(oB (idx d a) fun i=>bif !decide (f=i)then some false else if fits (a+1)then h (b,d,(a+1))else none)else some true) N (e,c,(0:Int)))
theorem jlH :mK 221 (bX [.pv Y22,.pv Y22] [pB] (c2A (jb1 N))):=
 mO ja func221 rfl N (.seq .no (.seq .no (.seq (.seq .no (.block (.loop jnI .no))) .no))) _
def jnx :Sh:=⟨.dead:: .dead:: .box 2 0:: .box 3 0:: .dead::pI::dz 57 [],[(2,false,[pS,pS,.pv Y13]),(3,false,[pS,pS,.pv Y13])]⟩
def jbQ (e:List UInt8) (h:List UInt8) (j:Z5) (i:List UInt8) (d:List UInt8) (f:Z5):Z9:=
 (bif !decide (e=i)then some false else bif !decide (h=d)then some false else bif !decide ((j.length:Int)=(f.length:Int))then some false else iter (fun r (a,p,o,b,t,m,c)=>bif decide (a<(b.length:Int))then oB (idx b a) fun l=>(oB (idx c a) fun n=>bif !decide (l.1=n.1)then some false else oB (idx b a) fun u=>oB (idx c a) fun v=>oB (jb1 N u.2 v.2) fun q=>bif !q then some false else if fits (a+1)then r ((a+1),p,o,b,t,m,c)else none)else some true) N ((0:Int),e,h,j,i,d,f))
theorem jtG :mK 164 (bX [.agg [pS,pS,.pv Y13],.agg [pS,pS,.pv Y13]] [pB] (c6A (jbQ N))):=
 mO (fC (jlH N) ja) func164 rfl N (.seq .no (.seq .no (.seq (.seq .no (.block (.loop jnx .no))) .no))) _
def jrW :Sh:=⟨dz 3 (.box 3 0:: .dead:: .box 5 0::pI::dz 39 []),[(3,false,[.pv Y4,.pv Y6]),(5,false,[.own 700500 Y5 51 true,.own 700501 Y7 131 true])]⟩
def jcR (i:List Z2) (j:List Z4) (c:List Z0) (h:List Z1):Z9:=
 (oB (jcw N i j) fun o=>bif !o then some false else oB (jbU N c) fun l=>bif !l then some false else oB (s_l7Of_m N i j c) fun e=>bif !decide ((e.2.length:Int)=(h.length:Int))then some false else iter (fun p (a,n,k,m,f)=>bif decide (a<(f.length:Int))then oB (idx f a) fun b=>(oB (idx k a) fun d=>oB (jbQ N b.1 b.2.1 b.2.2 d.1 d.2.1 d.2.2) fun q=>bif !q then some false else if fits (a+1)then p ((a+1),n,k,m,f)else none)else some true) N ((0:Int),c,h,e.1,e.2))
theorem jpm :mK 100 (bX [.agg [.pv (.sl .str),.pv Y17],.agg [.pv Y4,.pv Y6]] [pB] (c4A (jcR N))):=
 mO (fC (jtf N) (fC (jpx N) (fC (jmU N) (fC (jtG N) ja)))) func100 rfl N (.seq .no (.seq .no (.seq .no (.seq .no (.seq (.seq .no (.block (.loop jrW .no))) .no))))) _
def jCI :Sh:=⟨.pv Y22:: .dead:: .dead::pI::dz 31 [],[]⟩
def jx3 (d:List Int):Z9:=
 (iter (fun c (b,a)=>bif decide (a<(b.length:Int))then oB (idx b a) fun e=>(oB (jJ N e 0 999999999) fun f=>bif !f then some false else bif decide ((0:Int)<a)then oB (idx b a) fun h=>(if fits (a-1)then oB (idx b (a-1)) fun i=>(bif decide (h<=i)then some false else if fits (a+1)then c (b,(a+1))else none)else none)else if fits (a+1)then c (b,(a+1))else none)else some (decide ((b.length:Int)<=60))) N (d,(0:Int)))
theorem jC9 :mK 118 (bX [.pv Y22] [pB] (c1A (jx3 N))):=
 mO (fC (jcL N) ja) func118 rfl N (.seq .no (.seq (.seq .no (.block (.loop jCI .no))) .no)) _
def jA0 :Sh:=⟨.dead::pI:: .box 2 0:: .dead:: .box 4 0::pI::dz 21 [],[(2,false,[.pv Y4,.pv Y6]),(4,false,[pI,.nils,.nils])]⟩
def jyv (l:List Z0) (h:List Z1) (e:Int):Option Z0:=
 (iter (fun j (d,a,b,k,f)=>bif decide (a<(b.length:Int))then oB (idx b a) fun i=>(bif decide (i.1=d)then oB (idx b a) fun c=>(some (c.1,c.2.1,c.2.2))else if fits (a+1)then j (d,(a+1),b,k,f)else none)else some (0,([]:Z15),([]:Z10))) N (e,(0:Int),l,h,(0:Int)))
theorem jDn :mK 119 (bX [.agg [.pv Y4,.pv Y6],pI] [.agg [pI,.pv Y20,.pv Y16]] (c3A (jyv N))):=
 mO ja func119 rfl N (.seq .no (.seq (.seq .no (.block (.loop jA0 .no))) .no)) _
def jJe :Sh:=⟨.pv Y22::pI::dz 3 (pI::dz 12 []),[]⟩
def jHH (d:List Int) (e:Int):Z9:=
 (iter (fun h (b,c,a)=>bif decide (a<(b.length:Int))then oB (idx b a) fun f=>(bif decide (f=c)then some true else if fits (a+1)then h (b,c,(a+1))else none)else some false) N (d,e,(0:Int)))
theorem jIb :mK 179 (bX [.pv Y22,pI] [pB] (c2A (jHH N))):=
 mO ja func179 rfl N (.seq .no (.seq (.seq .no (.block (.loop jJe .no))) .no)) _
def s_l18Dead_m (e:List Z0) (d:List Z1) (b:List Int) (a:Int):Z9:=
 (oB (jHH N b a) fun c=>some c)
theorem jIy :mK 122 (bX [.agg [.pv Y4,.pv Y6,.pv Y22],pI] [pB] (c4A (s_l18Dead_m N))):=
 mO (fC (jIb N) ja) func122 rfl N .no _
def jIl :Sh:=⟨.pv Y4:: .dead:: .dead:: .box 3 0:: .dead::pI::dz 32 [],[(3,false,[pI,.pv Y20,.pv Y16])]⟩
def s_l18Put_m (o:List Z0) (r:Int) (q:Z15) (m:Z10):Z22:=
 (iter (fun p (a,b,d,h,i)=>bif decide (b<(a.length:Int))then oB (idx a b) fun n=>(bif decide (n.1<d)then if fits (b+1)then p (a,(b+1),d,h,i)else none else oB (cut a 0 b) fun e=>if room ([]:List Z0).length e.length 56 then oB (s_l7CopyDoc_m N d h i) fun j=>(if room (([]:List Z0)++e).length ([j]:List Z0).length 56 then oB (cut a b (a.length:Int)) fun l=>(if room ((([]:List Z0)++e)++([j]:List Z0)).length l.length 56 then some (((([]:List Z0)++e)++([j]:List Z0))++l)else none)else none)else none)else oB (cut a 0 b) fun c=>if room ([]:List Z0).length c.length 56 then oB (s_l7CopyDoc_m N d h i) fun f=>(if room (([]:List Z0)++c).length ([f]:List Z0).length 56 then oB (cut a b (a.length:Int)) fun k=>(if room ((([]:List Z0)++c)++([f]:List Z0)).length k.length 56 then some (((([]:List Z0)++c)++([f]:List Z0))++k)else none)else none)else none) N (o,(0:Int),r,q,m))
theorem jJy :mK 135 (bX [.pv Y4,.agg [pI,.pv Y20,.pv Y16]] [.own 1 Y5 51 false] (c4A (s_l18Put_m N))):=
 mO (fC (jtC N) ja) func135 rfl N (.seq .no (.seq .no (.seq (.block (.loop jIl .no)) .no))) _
def jI2 :Sh:=⟨.dead:: .box 1 0:: .dead:: .own 600003 Y5 51 false::pI::dz 45 [],[(1,false,[.pv (.sl .str),.pv Y17,.pv Y1])]⟩
def jJx :Sh:=⟨.dead:: .box 1 0:: .dead:: .own 600003 Y5 51 false::pI::pI::dz 44 [],[(1,false,[.pv (.sl .str),.pv Y17,.pv Y1])]⟩
def s_l18Docs_m (r:List Z2) (w:List Z4) (q:List Z3):Z22:=
 (iter (fun x (m,n,t,p,k)=>bif decide (n<(k.length:Int))then iter (fun l (i,a,b,h,f,c)=>oB (idx c a) fun u=>bif decide (b<(u.1.1.length:Int))then oB (idx c a) fun v=>(oB (idx v.1.1 b) fun d=>oB (idx c a) fun j=>oB (s_l18Dead_m N j.1.1 j.1.2 j.2 d.1) fun y=>bif !y then oB (s_l18Put_m N i d.1 d.2.1 d.2.2) fun o=>(if fits (b+1)then l (o,a,(b+1),h,f,c)else none)else if fits (b+1)then l (i,a,(b+1),h,f,c)else none)else if fits (a+1)then x (i,(a+1),h,f,c)else none) N (m,n,(0:Int),t,p,k)else some m) N (([]:List Z0),(0:Int),r,w,q))
theorem jH3 :mK 73 (bX [.agg [.pv (.sl .str),.pv Y17,.pv Y1]] [.own 1 Y5 51 false] (c3A (s_l18Docs_m N))):=
 mO (fC (jIy N) (fC (jJy N) ja)) func73 rfl N (.seq .no (.seq .no (.seq (.seq .no (.block (.loop jI2 (.seq .no (.seq (.block (.seq .no (.block (.loop jJx .no)))) .no))))) .no))) _
def jIz :Sh:=⟨.dead:: .box 1 0:: .dead::pI::dz 67 [],[(1,false,[.pv (.sl .str),.pv Y17,.pv Y1])]⟩
def jJd :Sh:=⟨.dead:: .box 1 0:: .dead::pI:: .box 4 0::pI::dz 22 (pB::dz 9 (pB::dz 32 [])),[(1,false,[.pv (.sl .str),.pv Y17,.pv Y1]),(4,false,[.pv Y4,.pv Y6,.pv Y22])]⟩
def s_l18Ok_m (u:List Z2) (z:List Z4) (q:List Z3):Z9:=
 (iter (fun C (i,e,c,b)=>bif decide (i<(b.length:Int))then oB (idx b i) fun a=>(oB (jcR N e c a.1.1 a.1.2) fun B=>bif !B then some false else oB (jx3 N a.2) fun k=>bif !k then some false else bif decide ((a.1.1.length:Int)<=(a.2.length:Int))then some false else iter (fun w (h,d,r,t,p,o,l,n,m,f)=>bif decide (d<(f.length:Int))then oB (idx f d) fun x=>(oB (jyv N n m x) fun y=>bif decide (y.1=0)then some false else if fits (d+1)then w (h,(d+1),r,t,p,o,l,n,m,f)else none)else if fits (h+1)then C ((h+1),p,o,l)else none) N (i,(0:Int),(!k),(decide ((a.1.1.length:Int)<=(a.2.length:Int))),e,c,b,a.1.1,a.1.2,a.2))else oB (jcw N e c) fun D=>bif D then bif decide ((b.length:Int)<=5)then oB (s_l18Docs_m N e c b) fun v=>(oB (jbU N v) fun A=>some A)else(some false)else some false) N ((0:Int),u,z,q))
theorem jIW :mK 56 (bX [.agg [.pv (.sl .str),.pv Y17,.pv Y1]] [pB] (c3A (s_l18Ok_m N))):=
 mO (fC (jpm N) (fC (jC9 N) (fC (jDn N) (fC (jtf N) (fC (jH3 N) (fC (jpx N) ja)))))) func56 rfl N (.seq .no (.seq (.seq .no (.block (.loop jIz (.seq .no (.seq (.block (.seq .no (.seq .no (.seq .no (.block (.loop jJd .no)))))) .no))))) .no)) _
def jMc :Sh:=⟨.pv Y13:: .dead:: .dead:: .own 600003 Y14 204 true::pI::dz 24 [],[]⟩
def s_l7CopyPosts_m (f:Z5):Option (Z14):=
 (iter (fun h (b,c,a)=>bif decide (a<(b.length:Int))then oB (idx b a) fun e=>(oB (idx b a) fun d=>if room ([]:List Int).length d.2.length 8 then if room c.length ([(e.1,(([]:List Int)++d.2))]:Z5).length 32 then if fits (a+1)then h (b,(c++([(e.1,(([]:List Int)++d.2))]:Z5)),(a+1))else none else none else none)else some c) N (f,([]:Z5),(0:Int)))
theorem jLV :mK 178 (bX [.pv Y13] [.own 1 Y14 204 true] (c1A (s_l7CopyPosts_m N))):=
 mO ja func178 rfl N (.seq .no (.seq .no (.seq (.seq .no (.block (.loop jMc .no))) .no))) _
def jLx :Sh:=⟨.dead:: .box 1 0:: .box 2 0:: .box 3 0::pI::dz 47 [],[(1,false,[.pv Y4,.pv Y6]),(2,false,[.nils,.nils]),(3,false,[.own 700300 Y5 51 true,.nils])]⟩
def jKX :Sh:=⟨.dead:: .box 1 0:: .box 2 0:: .box 3 0:: .dead::pI::dz 46 [],[(1,false,[.pv Y4,.pv Y6]),(2,false,[.nils,.nils]),(3,false,[.own 700300 Y5 51 true,.own 700301 Y7 131 true])]⟩
def s_l18CopySeg_m (q:List Z0) (p:List Z1):Option ((List Z0)×(List Z1)):=
 (iter (fun t (b,c,n,h)=>bif decide (b<(c.length:Int))then oB (idx c b) fun e=>(oB (s_l7CopyDoc_m N e.1 e.2.1 e.2.2) fun m=>if room h.length ([m]:List Z0).length 56 then if fits (b+1)then t ((b+1),c,n,(h++([m]:List Z0)))else none else none)else iter (fun r (d,o,i,l,f)=>bif decide (d<(i.length:Int))then oB (idx i d) fun a=>(oB (s_l7CopyPosts_m N a.2.2) fun k=>if room f.length ([(a.1,a.2.1,k)]:List Z1).length 56 then if fits (d+1)then r ((d+1),o,i,l,(f++([(a.1,a.2.1,k)]:List Z1)))else none else none)else some (l,f)) N ((0:Int),c,n,h,([]:List Z1))) N ((0:Int),q,p,([]:List Z0)))
theorem jK3 :mK 121 (bX [.agg [.pv Y4,.pv Y6]] [.agg [.own 1 Y5 51 true,.own 2 Y7 131 true]] (c2A (s_l18CopySeg_m N))):=
 mO (fC (jtC N) (fC (jLV N) ja)) func121 rfl N (.seq .no (.seq .no (.seq (.seq .no (.block (.loop jLx .no))) (.seq (.seq .no (.block (.loop jKX .no))) .no)))) _
def jMK :Sh:=⟨.dead:: .box 1 0:: .box 2 0:: .box 3 0::pI::dz 33 [],[(1,false,[.pv (.sl .str),.pv Y17,.pv Y1]),(2,false,[.nils,.nils,.nils]),(3,false,[.own 700300 .str 9 true,.own 700301 Y19 117 true,.own 700302 Y2 99 true])]⟩
def s_l18Copy_m (h:List Z2) (f:List Z4) (n:List Z3):Option ((List Z2)×(List Z4)×(List Z3)):=
 (oB (s_l18CopyConf_m N h f) fun j=>iter (fun p (a,o,m,b,k,l,c)=>bif decide (a<(b.length:Int))then oB (idx b a) fun i=>(oB (s_l18CopySeg_m N i.1.1 i.1.2) fun e=>oB (idx b a) fun d=>if room ([]:List Int).length d.2.length 8 then if room c.length ([(e,(([]:List Int)++d.2))]:List Z3).length 72 then if fits (a+1)then p ((a+1),o,m,b,k,l,(c++([(e,(([]:List Int)++d.2))]:List Z3)))else none else none else none)else some (k,l,c)) N ((0:Int),h,f,n,j.1,j.2,([]:List Z3)))
theorem jL0 :mK 58 (bX [.agg [.pv (.sl .str),.pv Y17,.pv Y1]] [.agg [.own 1 .str 9 true,.own 2 Y19 117 true,.own 3 Y2 99 true]] (c3A (s_l18Copy_m N))):=
 mO (fC (jMp N) (fC (jK3 N) ja)) func58 rfl N (.seq .no (.seq .no (.seq (.seq .no (.block (.loop jMK .no))) .no))) _
def jLU :Sh:=⟨.pv Y22::pI::dz 3 (pI::dz 42 []),[]⟩
def s_l8Put_m (o:List Int) (p:Int):Z19:=
 (iter (fun q (a,b,c)=>bif decide (c<(a.length:Int))then oB (idx a c) fun m=>(bif decide (m<b)then if fits (c+1)then q (a,b,(c+1))else none else bif decide (c<(a.length:Int))then oB (idx a c) fun n=>(bif decide (n=b)then some a else oB (cut a 0 c) fun f=>if room ([]:List Int).length f.length 8 then if room (([]:List Int)++f).length ([b]:List Int).length 8 then oB (cut a c (a.length:Int)) fun l=>(if room ((([]:List Int)++f)++([b]:List Int)).length l.length 8 then some (((([]:List Int)++f)++([b]:List Int))++l)else none)else none else none)else oB (cut a 0 c) fun d=>if room ([]:List Int).length d.length 8 then if room (([]:List Int)++d).length ([b]:List Int).length 8 then oB (cut a c (a.length:Int)) fun k=>(if room ((([]:List Int)++d)++([b]:List Int)).length k.length 8 then some (((([]:List Int)++d)++([b]:List Int))++k)else none)else none else none)else bif decide (c<(a.length:Int))then oB (idx a c) fun r=>(bif decide (r=b)then some a else oB (cut a 0 c) fun h=>if room ([]:List Int).length h.length 8 then if room (([]:List Int)++h).length ([b]:List Int).length 8 then oB (cut a c (a.length:Int)) fun j=>(if room ((([]:List Int)++h)++([b]:List Int)).length j.length 8 then some (((([]:List Int)++h)++([b]:List Int))++j)else none)else none else none)else oB (cut a 0 c) fun e=>if room ([]:List Int).length e.length 8 then if room (([]:List Int)++e).length ([b]:List Int).length 8 then oB (cut a c (a.length:Int)) fun i=>(if room ((([]:List Int)++e)++([b]:List Int)).length i.length 8 then some (((([]:List Int)++e)++([b]:List Int))++i)else none)else none else none) N (o,p,(0:Int)))
theorem jLS :mK 123 (bX [.pv Y22,pI] [.pv Y22] (c2A (s_l8Put_m N))):=
 mO ja func123 rfl N (.seq .no (.seq .no (.seq (.block (.loop jLU .no)) .no))) _
def jL4 :Sh:=⟨.dead::pI:: .box 2 0:: .dead:: .box 4 0:: .dead:: .box 6 0::pB::pI::dz 43 [],[(2,false,[.pv (.sl .str),.pv Y17,.pv Y1]),(4,false,[.nils,.nils,.nils]),(6,false,[.pv (.sl .str),.pv Y17,.own 700602 Y2 99 false])]⟩
def jLD :Sh:=⟨.dead::pI:: .box 2 0:: .dead:: .box 4 0:: .dead:: .box 6 0::pB::pI:: .box 9 0::dz 42 [],[(2,false,[.pv (.sl .str),.pv Y17,.pv Y1]),(4,false,[.nils,.nils,.nils]),(6,false,[.pv (.sl .str),.pv Y17,.own 700602 Y2 99 false]),(9,false,[.pv Y4,.pv Y6,.pv Y22])]⟩
def s_l18Gone_m (n:List Z2) (q:List Z4) (w:List Z3) (x:Int):Z20:=
 (iter (fun G (b,l,d,k,j,c,h,e,f)=>bif decide (d<(c.length:Int))then oB (idx c d) fun a=>(meet (fun(m:Int×Bool×Int×(List Z2)×(List Z4)×(List Z3)×(List Z2)×(List Z4)×(List Z3)×(List Z0)×(List Z1)×(List Int))=>match m with|(y,E,u,B,A,z,I,D,t,p,o,r)=>if room t.length ([((p,o),r)]:List Z3).length 72 then if fits (u+1)then G (y,E,(u+1),B,A,z,I,D,(t++([((p,o),r)]:List Z3)))else none else none) fun i=>oB (jyv N a.1.1 a.1.2 b) fun H=>bif !decide (H.1=0)then oB (s_l18Dead_m N a.1.1 a.1.2 a.2 b) fun v=>(bif !v then if room ([]:List Int).length a.2.length 8 then oB (s_l8Put_m N (([]:List Int)++a.2) b) fun C=>(i (b,true,d,k,j,c,h,e,f,a.1.1,a.1.2,C))else none else i (b,l,d,k,j,c,h,e,f,a.1.1,a.1.2,a.2))else i (b,l,d,k,j,c,h,e,f,a.1.1,a.1.2,a.2))else some (h,e,f,l)) N (x,false,(0:Int),n,q,w,n,q,([]:List Z3)))
theorem jLr :mK 59 (bX [.agg [.pv (.sl .str),.pv Y17,.pv Y1],pI] [.tup [.agg [.pv (.sl .str),.pv Y17,.own 1 Y2 99 false],pB]] (c4A (s_l18Gone_m N))):=
 mO (fC (jDn N) (fC (jIy N) (fC (jLS N) ja))) func59 rfl N (.seq .no (.seq .no (.seq .no (.seq (.seq .no (.block (.loop jL4 (.seq .no (.seq (.block (.seq .no (.meet jLD .no .no))) .no))))) .no)))) _
def jL1 :Sh:=⟨.dead:: .box 1 0:: .box 2 0:: .box 3 0::pI::dz 37 [],[(1,false,[.pv (.sl .str),.pv Y17,.pv Y1]),(2,false,[.nils,.nils,.nils]),(3,false,[.pv (.sl .str),.pv Y17,.own 700302 Y2 99 false])]⟩
def s_l18Full_m (i:List Z2) (f:List Z4) (m:List Z3):Option ((List Z2)×(List Z4)×(List Z3)):=
 (iter (fun k (a,j,h,b,d,e,c)=>bif decide (a<(b.length:Int))then oB (idx b a) fun n=>(oB (idx b a) fun o=>bif decide ((n.2.length:Int)<(o.1.1.length:Int))then oB (idx b a) fun l=>(if room c.length ([l]:List Z3).length 72 then if fits (a+1)then k ((a+1),j,h,b,d,e,(c++([l]:List Z3)))else none else none)else if fits (a+1)then k ((a+1),j,h,b,d,e,c)else none)else some (d,e,c)) N ((0:Int),i,f,m,i,f,([]:List Z3)))
theorem jM5 :mK 60 (bX [.agg [.pv (.sl .str),.pv Y17,.pv Y1]] [.agg [.pv (.sl .str),.pv Y17,.own 1 Y2 99 false]] (c3A (s_l18Full_m N))):=
 mO ja func60 rfl N (.seq .no (.seq .no (.seq (.seq .no (.block (.loop jL1 .no))) .no))) _
def s_IndexDrop_m (f:List Z2) (d:List Z4) (e:List Z3) (h:Int):Z20:=
 (oB (s_l18Ok_m N f d e) fun i=>bif !i then some (([]:List Z2),([]:List Z4),([]:List Z3),false)else oB (s_l18Copy_m N f d e) fun b=>oB (s_l18Gone_m N b.1 b.2.1 b.2.2 h) fun a=>oB (s_l18Full_m N a.1 a.2.1 a.2.2.1) fun c=>some (c.1,c.2.1,c.2.2,a.2.2.2))
theorem jLL :mK 176 (bX [.agg [.pv (.sl .str),.pv Y17,.pv Y1],pI] [.tup [.agg [.pv (.sl .str),.pv Y17,.own 1 Y2 99 false],pB]] (c4A (s_IndexDrop_m N))):=
 mO (fC (jIW N) (fC (jL0 N) (fC (jLr N) (fC (jM5 N) ja)))) func176 rfl N .no _
def s_IndexMerge_m (e:List Z2) (d:List Z4) (b:List Z3) (a:Int):Z20:=
 (oB (s_l18Ok_m N e d b) fun m=>bif !m then some (([]:List Z2),([]:List Z4),([]:List Z3),false)else if fits ((b.length:Int)-2)then oB (jJ N a 0 ((b.length:Int)-2)) fun k=>(bif !k then oB (s_l18Copy_m N e d b) fun i=>(some (i.1,i.2.1,i.2.2,false))else if fits (a+2)then oB (cut b a (a+2)) fun l=>(oB (s_l18Docs_m N ([]:List Z2) ([]:List Z4) l) fun n=>oB (s_l18Copy_m N e d b) fun c=>oB (cut c.2.2 0 a) fun f=>if room ([]:List Z3).length f.length 72 then oB (s_l7Of_m N e d n) fun h=>(if room (([]:List Z3)++f).length ([(h,([]:List Int))]:List Z3).length 72 then if fits (a+2)then oB (cut c.2.2 (a+2) (c.2.2.length:Int)) fun j=>(if room ((([]:List Z3)++f)++([(h,([]:List Int))]:List Z3)).length j.length 72 then some (c.1,c.2.1,(((([]:List Z3)++f)++([(h,([]:List Int))]:List Z3))++j),true)else none)else none else none)else none)else none)else none)
theorem jNO :mK 177 (bX [.agg [.pv (.sl .str),.pv Y17,.pv Y1],pI] [.tup [.agg [.own 1 .str 9 true,.own 2 Y19 117 true,.own 3 Y2 99 false],pB]] (c4A (s_IndexMerge_m N))):=
 mO (fC (jIW N) (fC (jcL N) (fC (jL0 N) (fC (jH3 N) (fC (jmU N) ja))))) func177 rfl N .no _
def jtY (b:List Z2) (c:List Int) (d:Int):Option (Z2×(List Int)×Int):=
 (oB (jtW N (b.length:Int) c d) fun a=>oB (idx b a.1) fun e=>some (e,a.2.1,a.2.2))
theorem jt3 :mK 141 ⟨⟨[.box 900000 0,.pv (.sl .str)],[(900000,false,[.pv (.sl (.int .u8)),pI])]⟩,⟨[pS],[(900000,false,[.pv (.sl (.int .u8)),pI])]⟩,c3A (jtY N)⟩:=
 mO (fC (jtX N) ja) func141 rfl N .no _ (rs:=[900000])
def jt1 (b:List Int) (c:Int):Option (Z2×(List Int)×Int):=
 (oB (jtY N ([([99,97,116]:List UInt8),([67,97,116,115]:List UInt8),([100,111,103]:List UInt8),([100,111,103,115]:List UInt8),([114,117,110]:List UInt8),([82,85,78,78,73,78,71]:List UInt8),([116,104,101]:List UInt8),([114,101,100]:List UInt8),([98,105,103]:List UInt8),([110,101,119,32,121,111,114,107]:List UInt8),([78,101,119,32,32,89,111,114,107]:List UInt8),([110,121]:List UInt8),([102,111,120]:List UInt8),([112,97,115,115,101,100]:List UInt8),([120,49]:List UInt8),([97,118,101,114,121,118,101,114,121,108,111,110,103,119,111,114,100]:List UInt8)]:List Z2) b c) fun a=>some (a.1,a.2.1,a.2.2))
theorem jvg :mK 256 ⟨⟨[.box 900000 0],[(900000,false,[.pv (.sl (.int .u8)),pI])]⟩,⟨[pS],[(900000,false,[.pv (.sl (.int .u8)),pI])]⟩,c2A (jt1 N)⟩:=
 mO (fC (jt3 N) ja) func256 rfl N .no _ (rs:=[900000])
def juP :Sh:=⟨.box 900000 0:: .dead:: .dead::pS::pI::dz 15 [],[(900000,false,[.pv (.sl (.int .u8)),pI])]⟩
def jtZ (i:List Int) (j:Int):Option (Z2×(List Int)×Int):=
 (oB (jtW N 9 i j) fun e=>iter (fun k (b,d,h,f)=>bif decide ((0:Int)<d)then oB (jt1 N h f) fun a=>(if b.length+a.1.length<=9223372036854775807 then oB (jtY N ([([32]:List UInt8),([32]:List UInt8),([44,32]:List UInt8),([45]:List UInt8),([46,32]:List UInt8)]:List Z2) a.2.1 a.2.2) fun c=>(if(b++a.1).length+c.1.length<=9223372036854775807 then if fits (d-1)then k (((b++a.1)++c.1),(d-1),c.2.1,c.2.2)else none else none)else none)else some (b,h,f)) N (([]:List UInt8),e.1,e.2.1,e.2.2))
theorem juT :mK 189 ⟨⟨[.box 900000 0],[(900000,false,[.pv (.sl (.int .u8)),pI])]⟩,⟨[pS],[(900000,false,[.pv (.sl (.int .u8)),pI])]⟩,c2A (jtZ N)⟩:=
 mO (fC (jtX N) (fC (jvg N) (fC (jt3 N) ja))) func189 rfl N (.seq .no (.seq .no (.seq (.seq .no (.block (.loop juP .no))) .no))) _ (rs:=[900000])
def juy :Sh:=⟨.box 900000 0::dz 3 (.box 4 0:: .box 5 0::dz 48 []),[(4,false,[pI,.nils,.nils]),(5,false,[pI,.own 28 Y21 120 true,.own 39 Y18 122 true]),(900000,false,[.pv (.sl (.int .u8)),pI])]⟩
def juX :Sh:=⟨.box 900000 0::dz 3 (.box 4 0:: .box 5 0::dz 48 []),[(4,false,[pI,.nils,.nils]),(5,false,[pI,.own 28 Y21 120 true,.nils]),(900000,false,[.pv (.sl (.int .u8)),pI])]⟩
def jvb :Sh:=⟨.box 900000 0::dz 3 (.box 4 0:: .box 5 0::dz 48 []),[(4,false,[pI,.nils,.nils]),(5,false,[pI,.own 17 Y21 120 true,.nils]),(900000,false,[.pv (.sl (.int .u8)),pI])]⟩
def s_l30Doc_m (o:Int) (C:List Int) (y:Int):Option (Int×Z12×Z8×(List Int)×Int):=
 (meet (fun(f:Int×Int×Z12×(List Int)×Int)=>match f with|(u,w,l,E,z)=>meet (fun(f:Int×Int×Z12×(List Int)×Int)=>match f with|(x,n,r,G,A)=>meet (fun(f:Int×Int×Z12×Z8×(List Int)×Int)=>match f with|(H,p,t,k,B,D)=>oB (jtW N 3 B D) fun e=>bif decide (e.1=0)then oB (jtW N 30 e.2.1 e.2.2) fun d=>(if fits (2000+d.1)then if room k.length ([(([121,101,97,114]:List UInt8),(2000+d.1))]:Z10).length 24 then some (p,t,(k++([(([121,101,97,114]:List UInt8),(2000+d.1))]:Z10)),d.2.1,d.2.2)else none else none)else some (p,t,k,e.2.1,e.2.2)) fun q=>oB (jtW N 3 G A) fun a=>bif decide ((0:Int)<a.1)then oB (jtW N 4 a.2.1 a.2.2) fun i=>(if room ([]:Z10).length ([(([114,97,116,101]:List UInt8),i.1)]:Z10).length 24 then q (x,n,r,(([]:Z10)++([(([114,97,116,101]:List UInt8),i.1)]:Z10)),i.2.1,i.2.2)else none)else q (x,n,r,([]:Z10),a.2.1,a.2.2)) fun v=>oB (jtW N 3 E z) fun b=>bif decide (b.1=0)then oB (jtZ N b.2.1 b.2.2) fun j=>(if room l.length ([(([116,105,116,108,101]:List UInt8),j.1)]:Z15).length 32 then v (u,w,(l++([(([116,105,116,108,101]:List UInt8),j.1)]:Z15)),j.2.1,j.2.2)else none)else v (u,w,l,b.2.1,b.2.2)) fun m=>oB (jtW N 6 C y) fun c=>bif decide ((0:Int)<c.1)then oB (jtZ N c.2.1 c.2.2) fun h=>(if room ([]:Z15).length ([(([98,111,100,121]:List UInt8),h.1)]:Z15).length 32 then m (0,o,(([]:Z15)++([(([98,111,100,121]:List UInt8),h.1)]:Z15)),h.2.1,h.2.2)else none)else m (0,o,([]:Z15),c.2.1,c.2.2))
theorem jvf :mK 138 ⟨⟨[.box 900000 0,pI],[(900000,false,[.pv (.sl (.int .u8)),pI])]⟩,⟨[.agg [pI,.own 1 Y21 120 true,.own 2 Y18 122 true]],[(900000,false,[.pv (.sl (.int .u8)),pI])]⟩,c3A (s_l30Doc_m N)⟩:=
 mO (fC (jtX N) (fC (juT N) ja)) func138 rfl N (.seq .no (.seq .no (.meet jvb .no (.meet juX .no (.meet juy .no .no))))) _ (rs:=[900000])
def juU :Sh:=⟨.box 900000 0:: .dead:: .dead:: .own 600003 Y5 51 true::pI::pI::dz 19 [],[(900000,false,[.pv (.sl (.int .u8)),pI])]⟩
def s_l30Docs_m (j:List Int) (k:Int):Option ((List Z0)×(List Int)×Int):=
 (oB (jtW N 6 j k) fun f=>iter (fun l (e,c,d,i,h)=>bif decide ((0:Int)<d)then if fits (c+1)then oB (jtW N 3 i h) fun b=>(if fits ((c+1)+b.1)then oB (s_l30Doc_m N ((c+1)+b.1) b.2.1 b.2.2) fun a=>(if room e.length ([(a.1,a.2.1,a.2.2.1)]:List Z0).length 56 then if fits (d-1)then l ((e++([(a.1,a.2.1,a.2.2.1)]:List Z0)),((c+1)+b.1),(d-1),a.2.2.2.1,a.2.2.2.2)else none else none)else none)else none else some (e,i,h)) N (([]:List Z0),(0:Int),f.1,f.2.1,f.2.2))
theorem juO :mK 115 ⟨⟨[.box 900000 0],[(900000,false,[.pv (.sl (.int .u8)),pI])]⟩,⟨[.own 1 Y5 51 true],[(900000,false,[.pv (.sl (.int .u8)),pI])]⟩,c2A (s_l30Docs_m N)⟩:=
 mO (fC (jtX N) (fC (jvf N) ja)) func115 rfl N (.seq .no (.seq .no (.seq .no (.seq (.seq .no (.block (.loop juU .no))) .no)))) _ (rs:=[900000])
def jNS :Sh:=⟨.dead:: .pv Y4:: .box 2 0:: .dead:: .box 4 0:: .dead:: .box 6 0::pI::dz 53 [],[(2,false,[.pv (.sl .str),.pv Y17,.pv Y1]),(4,false,[.nils,.nils,.nils]),(6,false,[.pv (.sl .str),.pv Y17,.own 700602 Y2 99 false])]⟩
def s_IndexAdd_m (c:List Z2) (d:List Z4) (b:List Z3) (i:List Z0):Z20:=
 (oB (s_l18Ok_m N c d b) fun z=>bif !z then some (([]:List Z2),([]:List Z4),([]:List Z3),false)else oB (jbU N i) fun v=>bif !v then oB (s_l18Copy_m N c d b) fun l=>(some (l.1,l.2.1,l.2.2,false))else bif decide ((i.length:Int)=0)then oB (s_l18Copy_m N c d b) fun p=>(some (p.1,p.2.1,p.2.2,false))else oB (s_l18Copy_m N c d b) fun j=>iter (fun A (e,f,k,h,q,u,r,t)=>bif decide (f<(e.length:Int))then oB (idx e f) fun y=>(oB (s_l18Gone_m N u r t y.1) fun m=>if fits (f+1)then A (e,(f+1),k,h,q,m.1,m.2.1,m.2.2.1)else none)else oB (s_l18Full_m N u r t) fun a=>oB (s_l7Of_m N k h e) fun n=>if room a.2.2.length ([(n,([]:List Int))]:List Z3).length 72 then oB (s_l18Ok_m N a.1 a.2.1 (a.2.2++([(n,([]:List Int))]:List Z3))) fun w=>(bif !w then oB (s_l18Copy_m N k h q) fun o=>(some (o.1,o.2.1,o.2.2,false))else some (a.1,a.2.1,(a.2.2++([(n,([]:List Int))]:List Z3)),true))else none) N (i,(0:Int),c,d,b,j.1,j.2.1,j.2.2))
theorem jNM :mK 11 (bX [.agg [.pv (.sl .str),.pv Y17,.pv Y1],.pv Y4] [.tup [.agg [.pv (.sl .str),.pv Y17,.own 1 Y2 99 false],pB]] (c4A (s_IndexAdd_m N))):=
 mO (fC (jIW N) (fC (jpx N) (fC (jL0 N) (fC (jLr N) (fC (jM5 N) (fC (jmU N) ja)))))) func11 rfl N (.seq .no (.seq .no (.seq .no (.seq .no (.seq (.seq .no (.block (.loop jNS .no))) .no))))) _
def jOd :Sh:=⟨.box 900000 0:: .dead:: .box 2 0:: .box 3 0::pI::dz 47 [],[(2,false,[.nils,.nils,.nils]),(3,false,[.pv (.sl .str),.pv Y17,.own 700302 Y2 99 false]),(900000,false,[.pv (.sl (.int .u8)),pI])]⟩
def s_l30Index_m (v:List Int) (t:Int):Option ((List Z2)×(List Z4)×(List Z3)×(List Int)×Int):=
 (oB (s_l30Conf_m N v t) fun h=>oB (s_IndexNew_m N h.1 h.2.1) fun p=>oB (jtW N 7 h.2.2.1 h.2.2.2) fun j=>iter (fun l (b,d,f,c,q,r)=>bif decide ((0:Int)<b)then oB (jtW N 5 q r) fun a=>(bif decide (a.1=0)then oB (jtW N 8 a.2.1 a.2.2) fun e=>(if fits (1+e.1)then oB (s_IndexDrop_m N d f c (1+e.1)) fun k=>(if fits (b-1)then l ((b-1),k.1,k.2.1,k.2.2.1,e.2.1,e.2.2)else none)else none)else bif decide (a.1=1)then oB (jtW N 3 a.2.1 a.2.2) fun o=>(oB (s_IndexMerge_m N d f c o.1) fun m=>if fits (b-1)then l ((b-1),m.1,m.2.1,m.2.2.1,o.2.1,o.2.2)else none)else oB (s_l30Docs_m N a.2.1 a.2.2) fun i=>oB (s_IndexAdd_m N d f c i.1) fun n=>if fits (b-1)then l ((b-1),n.1,n.2.1,n.2.2.1,i.2.1,i.2.2)else none)else some (d,f,c,q,r)) N (j.1,p.1,p.2,([]:List Z3),j.2.1,j.2.2))
theorem jNR :mK 114 ⟨⟨[.box 900000 0],[(900000,false,[.pv (.sl (.int .u8)),pI])]⟩,⟨[.agg [.pv (.sl .str),.pv Y17,.own 1 Y2 99 false]],[(900000,false,[.pv (.sl (.int .u8)),pI])]⟩,c2A (s_l30Index_m N)⟩:=
 mO (fC (jva N) (fC (jOh N) (fC (jtX N) (fC (jLL N) (fC (jNO N) (fC (juO N) (fC (jNM N) ja))))))) func114 rfl N (.seq .no (.seq .no (.seq (.seq .no (.block (.loop jOd .no))) .no))) _ (rs:=[900000])
def s_l30Rd_one_m (b:List Int) (c:List Int) (d:Int):Option (Int×(List Int)×Int):=
 (oB (jtW N (b.length:Int) c d) fun a=>oB (idx b a.1) fun e=>some (e,a.2.1,a.2.2))
theorem juA :mK 69 ⟨⟨[.box 900000 0,.pv Y22],[(900000,false,[.pv (.sl (.int .u8)),pI])]⟩,⟨[pI],[(900000,false,[.pv (.sl (.int .u8)),pI])]⟩,c3A (s_l30Rd_one_m N)⟩:=
 mO (fC (jtX N) ja) func69 rfl N .no _ (rs:=[900000])
def s_l30AnyIndex_m (k:List Int) (l:Int):Option ((List Z2)×(List Z4)×(List Z3)×(List Int)×Int):=
 (oB (s_l30Index_m N k l) fun d=>oB (s_l18Copy_m N d.1 d.2.1 d.2.2.1) fun a=>bif decide ((0:Int)<a.2.2.length)then oB (jtW N (a.2.2.length:Int) d.2.2.2.1 d.2.2.2.2) fun b=>(oB (jtW N 16 b.2.1 b.2.2) fun c=>bif decide (c.1=0)then oB (a.2.2[b.1.toNat]?) fun i=>(if 0<=b.1/\b.1<(a.2.2.length:Int)then oB (a.2.2[b.1.toNat]?) fun o=>(if b.1.toNat=b.1.toNat then oB (s_l30Rd_one_m N ([1,77]:List Int) c.2.1 c.2.2) fun e=>(if room i.2.length ([e.1]:List Int).length 8 then if 0<=b.1/\b.1<(a.2.2.length:Int)then if b.1.toNat=b.1.toNat then oB (a.2.2[b.1.toNat]?) fun m=>(some (a.1,a.2.1,(a.2.2.set b.1.toNat (m.1,(i.2++([e.1]:List Int)))),e.2.1,e.2.2))else none else none else none)else none)else none)else bif decide (c.1=1)then if 0<=b.1/\b.1<(a.2.2.length:Int)then oB (a.2.2[b.1.toNat]?) fun j=>(if room a.2.2.length ([j]:List Z3).length 72 then some (a.1,a.2.1,(a.2.2++([j]:List Z3)),c.2.1,c.2.2)else none)else none else bif decide (c.1=2)then oB (a.2.2[b.1.toNat]?) fun h=>(if 0<=b.1/\b.1<(a.2.2.length:Int)then oB (a.2.2[b.1.toNat]?) fun n=>(if b.1.toNat=b.1.toNat then if room h.1.2.length ([(([]:List UInt8),([]:List UInt8),([]:Z5))]:List Z1).length 56 then if 0<=b.1/\b.1<(a.2.2.length:Int)then if b.1.toNat=b.1.toNat then oB (a.2.2[b.1.toNat]?) fun f=>(some (a.1,a.2.1,(a.2.2.set b.1.toNat ((f.1.1,(h.1.2++([(([]:List UInt8),([]:List UInt8),([]:Z5))]:List Z1))),f.2)),c.2.1,c.2.2))else none else none else none else none)else none)else some (a.1,a.2.1,a.2.2,c.2.1,c.2.2))else some (a.1,a.2.1,a.2.2,d.2.2.2.1,d.2.2.2.2))
theorem jNZ :mK 51 ⟨⟨[.box 900000 0],[(900000,false,[.pv (.sl (.int .u8)),pI])]⟩,⟨[.agg [.own 1 .str 9 true,.own 2 Y19 117 true,.own 3 Y2 99 false]],[(900000,false,[.pv (.sl (.int .u8)),pI])]⟩,c2A (s_l30AnyIndex_m N)⟩:=
 mO (fC (jNR N) (fC (jL0 N) (fC (jtX N) (fC (juA N) ja)))) func51 rfl N (.seq .no (.seq .no (.seq (.seq .no (.cond (.seq .no (.seq .no (.block (.seq .no (.cond (.touch [.outs 9 4 [(2,200,3)]]) (.seq .no (.cond (.touch [.thaw 3 2]) (.seq .no (.cond (.touch [.outs 9 4 [(1,201,131)]]) .no))))))))) .no)) .no))) _ (wr:=[34,47,62,63]) (rs:=[900000]) (dw:=[7,62])
def s_l30AnyText_m (d:List Int) (e:Int):Option (Z2×(List Int)×Int):=
 (oB (jtZ N d e) fun b=>oB (jtW N 12 b.2.1 b.2.2) fun a=>bif decide (a.1=0)then oB (jtY N ([([10]:List UInt8),([255]:List UInt8),([48,49,50,51,52,53,54,55,56,57,32,48,49,50,51,52,53,54,55,56,57,32,48,49,50,51,52,53,54,55,56,57,32,48,49,50,51,52,53,54,55,56,57,32,48,49,50,51,52,53,54,55,56,57,32,48,49,50,51,52,53,54,55,56,57,32,48,49,50,51,52,53,54,55,56,57,32,48,49,50,51,52,53,54,55,56,57,32,48,49,50,51,52,53,54,55,56,57,32,48,49,50,51,52,53,54,55,56,57,32,48,49,50,51,52,53,54,55,56,57,32,48,49,50,51,52,53,54,55,56,57,32,48,49,50,51,52,53,54,55,56,57,32,48,49,50,51,52,53,54,55,56,57,32,48,49,50,51,52,53,54,55]:List UInt8)]:List Z2) a.2.1 a.2.2) fun c=>(if b.1.length+c.1.length<=9223372036854775807 then some ((b.1++c.1),c.2.1,c.2.2)else none)else some (b.1,a.2.1,a.2.2))
theorem jGK :mK 139 ⟨⟨[.box 900000 0],[(900000,false,[.pv (.sl (.int .u8)),pI])]⟩,⟨[pS],[(900000,false,[.pv (.sl (.int .u8)),pI])]⟩,c2A (s_l30AnyText_m N)⟩:=
 mO (fC (juT N) (fC (jtX N) (fC (jt3 N) ja))) func139 rfl N .no _ (rs:=[900000])
def s_l30AnyDoc_m (h:List Int) (i:Int):Option (Int×Z12×Z8×(List Int)×Int):=
 (oB (jtW N 9 h i) fun e=>if fits (1+e.1)then oB (s_l30Doc_m N (1+e.1) e.2.1 e.2.2) fun a=>(oB (jtW N 14 a.2.2.2.1 a.2.2.2.2) fun b=>bif decide (b.1=0)then oB (s_l30Rd_one_m N ([0,10000,9999]:List Int) b.2.1 b.2.2) fun f=>(some (f.1,a.2.1,a.2.2.1,f.2.1,f.2.2))else bif decide (b.1=1)then if room a.2.1.length ([(([98,111,100,121]:List UInt8),([97,103,97,105,110]:List UInt8))]:Z15).length 32 then some (a.1,(a.2.1++([(([98,111,100,121]:List UInt8),([97,103,97,105,110]:List UInt8))]:Z15)),a.2.2.1,b.2.1,b.2.2)else none else bif decide (b.1=2)then oB (s_l30Rd_one_m N ([(-1),1000000000]:List Int) b.2.1 b.2.2) fun d=>(if room a.2.2.1.length ([(([122,122]:List UInt8),d.1)]:Z10).length 24 then some (a.1,a.2.1,(a.2.2.1++([(([122,122]:List UInt8),d.1)]:Z10)),d.2.1,d.2.2)else none)else bif decide (b.1=3)then oB (s_l30AnyText_m N b.2.1 b.2.2) fun c=>(if room a.2.1.length ([(([122,101,100]:List UInt8),c.1)]:Z15).length 32 then some (a.1,(a.2.1++([(([122,101,100]:List UInt8),c.1)]:Z15)),a.2.2.1,c.2.1,c.2.2)else none)else some (a.1,a.2.1,a.2.2.1,b.2.1,b.2.2))else none)
theorem jGG :mK 78 ⟨⟨[.box 900000 0],[(900000,false,[.pv (.sl (.int .u8)),pI])]⟩,⟨[.agg [pI,.own 1 Y21 120 true,.own 2 Y18 122 true]],[(900000,false,[.pv (.sl (.int .u8)),pI])]⟩,c2A (s_l30AnyDoc_m N)⟩:=
 mO (fC (jtX N) (fC (jvf N) (fC (juA N) (fC (jGK N) ja)))) func78 rfl N .no _ (rs:=[900000])
def s_l30AnyDocs_m (d:List Int) (e:Int):Option ((List Z0)×(List Int)×Int):=
 (oB (s_l30Docs_m N d e) fun c=>oB (jtW N 10 c.2.1 c.2.2) fun b=>bif decide (b.1=0)then oB (s_l30AnyDoc_m N b.2.1 b.2.2) fun a=>(if room c.1.length ([(a.1,a.2.1,a.2.2.1)]:List Z0).length 56 then some ((c.1++([(a.1,a.2.1,a.2.2.1)]:List Z0)),a.2.2.2.1,a.2.2.2.2)else none)else some (c.1,b.2.1,b.2.2))
theorem jRb :mK 52 ⟨⟨[.box 900000 0],[(900000,false,[.pv (.sl (.int .u8)),pI])]⟩,⟨[.own 1 Y5 51 true],[(900000,false,[.pv (.sl (.int .u8)),pI])]⟩,c2A (s_l30AnyDocs_m N)⟩:=
 mO (fC (juO N) (fC (jtX N) (fC (jGG N) ja))) func52 rfl N .no _ (rs:=[900000])
def s_DrawIndexAdd_m (d:List Int):Option ((List Z2)×(List Z4)×(List Z3)×(List Z0)):=
 (oB (jt0 N d) fun b=>oB (s_l30AnyIndex_m N b.1 b.2) fun a=>oB (s_l30AnyDocs_m N a.2.2.2.1 a.2.2.2.2) fun c=>some (a.1,a.2.1,a.2.2.1,c.1))
theorem jRm :mK 9 (bX [.pv (.sl (.int .u8))] [.tup [.agg [.own 1 .str 9 true,.own 2 Y19 117 true,.own 3 Y2 99 false],.own 4 Y5 51 true]] (c1A (s_DrawIndexAdd_m N))):=
 mO (fC (juQ N) (fC (jNZ N) (fC (jRb N) ja))) func9 rfl N .no _
def jaw (N:Nat) (a:Int):Z9:=
 (bif decide ((97:Int)<=a)then bif decide (a<=122)then some true else(bif decide ((48:Int)<=a)then some (decide (a<=57))else some false)else bif decide ((48:Int)<=a)then some (decide (a<=57))else some false)
theorem jeK :mK 153 (bX [.pv (.int .u8)] [pB] (c1A (jaw N))):=
 mO ja func153 rfl N .no _
def jm (N:Nat) (a:Int) (b:Int) (c:Int):Z9:=
 (bif decide (b<=a)then some (decide (a<=c))else some false)
theorem jY :mK 67 (bX [pI,pI,pI] [pB] (c3A (jm N))):=
 mO ja func67 rfl N .no _
def jqW :Sh:=⟨pS::dz 4 (pI::pI::dz 11 []),[]⟩
def jO (d:List UInt8):Z9:=
 (iter (fun f (b,c,a)=>bif decide (a<c)then oB (idx b a) fun i=>(oB (jaw N (i.toNat:Int)) fun h=>bif !h then some false else if fits (a+1)then f (b,c,(a+1))else none)else oB (jm N (b.length:Int) 1 12) fun e=>some e) N (d,(d.length:Int),(0:Int)))
theorem jcM :mK 85 (bX [pS] [pB] (c1A (jO N))):=
 mO (fC (jeK N) (fC (jY N) ja)) func85 rfl N (.seq .no (.seq (.seq .no (.block (.loop jqW .no))) .no)) _
def jmc :Sh:=⟨.pv (.sl .str)::dz 4 (.pv (.sl .str)::pI::pI::dz 21 []),[]⟩
def jb2 (c:List Z2):Z9:=
 (iter (fun f (d,b,e,a)=>bif decide (a<e)then oB (idx b a) fun h=>(oB (jO N h) fun i=>bif !i then some false else bif decide ((0:Int)<a)then if fits (a-1)then oB (idx d (a-1)) fun j=>(bif !Op.bytesLess j h then some false else if fits (a+1)then f (d,b,e,(a+1))else none)else none else if fits (a+1)then f (d,b,e,(a+1))else none)else some true) N (c,c,(c.length:Int),(0:Int)))
theorem jtw :mK 86 (bX [.pv (.sl .str)] [pB] (c1A (jb2 N))):=
 mO (fC (jcM N) ja) func86 rfl N (.seq .no (.seq (.seq .no (.block (.loop jmc .no))) .no)) _
def jdF (N:Nat) (a:List UInt8) (b:List UInt8):Z9:=
 (bif decide ((b.length:Int)<=(a.length:Int))then if fits ((a.length:Int)-(b.length:Int))then oB (cut a ((a.length:Int)-(b.length:Int)) (a.length:Int)) fun c=>(some (decide (c=b)))else none else some false)
theorem jpU :mK 209 (bX [pS,pS] [pB] (c2A (jdF N))):=
 mO ja func209 rfl N .no _
def jcN (b:List UInt8) (a:List UInt8):Z9:=
 (oB (jdF N b a) fun c=>some c)
theorem jsu :mK 154 (bX [pS,pS] [pB] (c2A (jcN N))):=
 mO (fC (jpU N) ja) func154 rfl N .no _
def jod :Sh:=⟨pS:: .dead:: .dead::pB::dz 32 [],[]⟩
def jnf :Sh:=⟨pS:: .dead:: .dead::pB::dz 6 (.own 600010 .str 9 true::pI::pI::dz 23 []),[]⟩
def jaB (k:List UInt8):Option (Z2):=
 (oB (jO N k) fun o=>bif !o then some ([]:List UInt8)else iter (fun j (i,p)=>bif p then iter (fun l (a,f,d,e,b)=>bif decide (b<e)then oB (idx d b) fun c=>(oB (jcN N a c) fun m=>bif m then if fits ((a.length:Int)-(c.length:Int))then bif decide ((3:Int)<=((a.length:Int)-(c.length:Int)))then if fits ((a.length:Int)-(c.length:Int))then oB (cut a 0 ((a.length:Int)-(c.length:Int))) fun n=>(j (n,true))else none else(if fits (b+1)then l (a,f,d,e,(b+1))else none)else none else if fits (b+1)then l (a,f,d,e,(b+1))else none)else j (a,f)) N (i,false,([([105,110,103]:List UInt8),([101,100]:List UInt8),([101,115]:List UInt8),([108,121]:List UInt8),([115]:List UInt8)]:List Z2),(([([105,110,103]:List UInt8),([101,100]:List UInt8),([101,115]:List UInt8),([108,121]:List UInt8),([115]:List UInt8)]:List Z2).length:Int),(0:Int))else some i) N (k,true))
theorem jio :mK 87 (bX [pS] [pS] (c1A (jaB N))):=
 mO (fC (jcM N) (fC (jsu N) ja)) func87 rfl N (.seq .no (.seq .no (.seq (.seq .no (.block (.loop jod (.seq .no (.block (.seq .no (.seq .no (.block (.loop jnf .no))))))))) .no))) _
def jkJ :Sh:=⟨.pv (.sl .str)::pS::dz 5 (pI::pI::dz 10 []),[]⟩
def jdH (e:List Z2) (f:List UInt8):Z17:=
 (iter (fun i (c,d,b,a)=>bif decide (a<b)then oB (idx c a) fun h=>(bif decide (d=h)then some a else if fits (a+1)then i (c,d,b,(a+1))else none)else some (-1)) N (e,f,(e.length:Int),(0:Int)))
theorem jkZ :mK 155 (bX [.pv (.sl .str),pS] [pI] (c2A (jdH N))):=
 mO ja func155 rfl N (.seq .no (.seq (.seq .no (.block (.loop jkJ .no))) .no)) _
def jao (a:List Z2) (b:List UInt8):Z9:=
 (oB (jdH N a b) fun c=>some (decide ((0:Int)<=c)))
theorem jh5 :mK 88 (bX [.pv (.sl .str),pS] [pB] (c2A (jao N))):=
 mO (fC (jkZ N) ja) func88 rfl N .no _
def jmj :Sh:=⟨.dead:: .box 1 0::dz 22 (.pv Y17::pI::pI::dz 46 []),[(1,false,[.pv (.sl .str),.pv Y17])]⟩
def jrC :Sh:=⟨.dead:: .box 1 0::dz 22 (.pv Y17::pI::pI::dz 12 (pB::dz 7 (pB:: .dead:: .dead:: .pv (.sl .str)::pI::pI::dz 20 []))),[(1,false,[.pv (.sl .str),.pv Y17])]⟩
def jaj (i:List Z2) (c:List Z4):Z9:=
 (bif decide ((6:Int)<i.length)then some false else oB (jb2 N i) fun D=>bif !D then some false else bif decide ((4:Int)<c.length)then some false else iter (fun C (p,r,j,z,v)=>bif decide (j<r)then oB (idx p j) fun a=>(oB (jm N (a.1.length:Int) 1 3) fun u=>bif !u then some false else oB (jO N a.2) fun n=>bif !n then some false else oB (jaB N a.2) fun t=>bif !decide (t=a.2)then some false else iter (fun y (m,l,h,A,x,o,k,d,f,q)=>bif decide (d<k)then oB (idx o d) fun b=>(oB (jO N b) fun w=>bif !w then some false else oB (jaB N b) fun B=>bif !decide (B=b)then some false else oB (jao N f b) fun E=>bif E then some false else if fits (d+1)then y (m,l,h,A,x,o,k,(d+1),f,q)else none)else if fits (h+1)then C (m,l,(h+1),f,q)else none) N (p,r,j,(!n),(!decide (t=a.2)),a.1,(a.1.length:Int),(0:Int),z,v))else some true) N (c,(c.length:Int),(0:Int),i,c))
theorem jdX :mK 29 (bX [.agg [.pv (.sl .str),.pv Y17]] [pB] (c2A (jaj N))):=
 mO (fC (jtw N) (fC (jY N) (fC (jcM N) (fC (jio N) (fC (jh5 N) ja))))) func29 rfl N (.seq .no (.seq .no (.seq (.seq .no (.block (.loop jmj (.seq .no (.seq .no (.seq (.block (.seq .no (.seq .no (.seq .no (.block (.loop jrC .no)))))) .no)))))) .no))) _
def jtd :Sh:=⟨pS::dz 4 (pI::pI::dz 16 []),[]⟩
def jaF (d:List UInt8):Z9:=
 (iter (fun e (b,c,a)=>bif decide (a<c)then oB (idx b a) fun f=>(bif decide ((f.toNat:Int)<32)then some false else oB (idx b a) fun h=>bif decide ((126:Int)<(h.toNat:Int))then some false else if fits (a+1)then e (b,c,(a+1))else none)else some (decide ((b.length:Int)<=160))) N (d,(d.length:Int),(0:Int)))
theorem jdK :mK 89 (bX [pS] [pB] (c1A (jaF N))):=
 mO ja func89 rfl N (.seq .no (.seq (.seq .no (.block (.loop jtd .no))) .no)) _
def jlC :Sh:=⟨.dead:: .box 1 0::dz 22 (.pv Y20::pI::pI::dz 66 []),[(1,false,[pI,.pv Y20,.pv Y16])]⟩
def jpt :Sh:=⟨.dead:: .box 1 0::dz 57 (.pv Y16::pI::pI::dz 31 []),[(1,false,[pI,.pv Y20,.pv Y16])]⟩
def jbx (u:Int) (e:Z15) (p:Z10):Z9:=
 (oB (jm N u 1 9999) fun A=>bif !A then some false else bif decide ((3:Int)<e.length)then some false else bif decide ((3:Int)<p.length)then some false else iter (fun t (k,n,b,j,d,c)=>bif decide (b<n)then oB (idx k b) fun i=>(oB (jO N i.1) fun w=>bif !w then some false else oB (jaF N i.2) fun z=>bif !z then some false else bif decide ((0:Int)<b)then if fits (b-1)then oB (idx d (b-1)) fun y=>(bif !Op.bytesLess y.1 i.1 then some false else if fits (b+1)then t (k,n,(b+1),j,d,c)else none)else none else if fits (b+1)then t (k,n,(b+1),j,d,c)else none)else iter (fun q (m,h,a,r,v,l)=>bif decide (a<h)then oB (idx m a) fun o=>(oB (jO N o.1) fun B=>bif !B then some false else oB (jm N o.2 0 999999999) fun x=>bif !x then some false else bif decide ((0:Int)<a)then if fits (a-1)then oB (idx l (a-1)) fun C=>(bif !Op.bytesLess C.1 o.1 then some false else if fits (a+1)then q (m,h,(a+1),r,v,l)else none)else none else if fits (a+1)then q (m,h,(a+1),r,v,l)else none)else some true) N (c,(c.length:Int),(0:Int),j,d,c)) N (e,(e.length:Int),(0:Int),u,e,p))
theorem jh0 :mK 30 (bX [.agg [pI,.pv Y20,.pv Y16]] [pB] (c3A (jbx N))):=
 mO (fC (jY N) (fC (jcM N) (fC (jdK N) ja))) func30 rfl N (.seq .no (.seq .no (.seq (.seq .no (.block (.loop jlC .no))) (.seq (.seq .no (.block (.loop jpt .no))) .no)))) _
def jpj :Sh:=⟨.pv Y4::dz 4 (.pv Y4::pI::pI::dz 26 []),[]⟩
def jbf (e:List Z0):Z9:=
 (iter (fun h (c,d,f,a)=>bif decide (a<f)then oB (idx d a) fun b=>(oB (jbx N b.1 b.2.1 b.2.2) fun i=>bif !i then some false else bif decide ((0:Int)<a)then if fits (a-1)then oB (idx c (a-1)) fun j=>(bif decide (b.1<=j.1)then some false else if fits (a+1)then h (c,d,f,(a+1))else none)else none else if fits (a+1)then h (c,d,f,(a+1))else none)else some (decide ((c.length:Int)<=16))) N (e,e,(e.length:Int),(0:Int)))
theorem jjU :mK 31 (bX [.pv Y4] [pB] (c1A (jbf N))):=
 mO (fC (jh0 N) ja) func31 rfl N (.seq .no (.seq (.seq .no (.block (.loop jpj .no))) .no)) _
def jbO (N:Nat) (c:Int) (b:Z15) (a:Z10):Option Z0:=
 (if room ([]:Z15).length b.length 32 then if room ([]:Z10).length a.length 24 then some (c,(([]:Z15)++b),(([]:Z10)++a))else none else none)
theorem jrI :mK 129 (bX [.agg [pI,.pv Y20,.pv Y16]] [.agg [pI,.own 1 Y21 120 true,.own 2 Y18 122 true]] (c3A (jbO N))):=
 mO ja func129 rfl N .no _
def joW :Sh:=⟨dz 3 (.own 600003 Y5 51 true::dz 3 (.pv Y4::pI::pI::dz 10 [])),[]⟩
def jbV (e:List Z0):Z22:=
 (iter (fun i (b,d,h,a)=>bif decide (a<h)then oB (idx d a) fun c=>(oB (jbO N c.1 c.2.1 c.2.2) fun f=>if room b.length ([f]:List Z0).length 56 then if fits (a+1)then i ((b++([f]:List Z0)),d,h,(a+1))else none else none)else some b) N (([]:List Z0),e,(e.length:Int),(0:Int)))
theorem joC :mK 65 (bX [.pv Y4] [.own 1 Y5 51 true] (c1A (jbV N))):=
 mO (fC (jrI N) ja) func65 rfl N (.seq .no (.seq .no (.seq (.seq .no (.block (.loop joW .no))) .no))) _
def jI (N:Nat) (a:Int):Z17:=
 (bif decide ((65:Int)<=a)then bif decide (a<=90)then some (IntKind.u8.wrap ((IntKind.u8.wrap (a+97))-65))else(some a)else some a)
theorem jmu :mK 210 (bX [.pv (.int .u8)] [.pv (.int .u8)] (c1A (jI N))):=
 mO ja func210 rfl N .no _
def jpB :Sh:=⟨pS:: .dead:: .dead:: .own 600003 Y8 196 true::pI::dz 57 [],[]⟩
def jo6 :Sh:=⟨pS:: .dead:: .dead:: .own 600003 Y8 196 true::pI:: .box 5 0:: .own 600006 (.int .u8) 5 true::dz 55 [],[(5,false,[pS,pI,pI,pI])]⟩
def jct (n:List UInt8):Option ((List Z11)):=
 (oB (jaF N n) fun w=>bif !w then some ([]:List Z11)else iter (fun l (i,j,e)=>bif decide (e<(i.length:Int))then oB (idx i e) fun x=>(oB (jI N (x.toNat:Int)) fun r=>oB (jaw N r) fun u=>bif !u then if fits (e+1)then l (i,j,(e+1))else none else iter (fun o (c,f,a,b,q,h,d,m)=>bif decide (a<(c.length:Int))then oB (idx c a) fun y=>(oB (jI N (y.toNat:Int)) fun z=>oB (jaw N z) fun t=>bif t then bif decide ((b.length:Int)<12)then oB (idx c a) fun v=>(oB (jI N (v.toNat:Int)) fun p=>if room b.length ([p]:List Int).length 1 then if fits (a+1)then o (c,f,(a+1),(b++([p]:List Int)),q,h,d,m)else none else none)else(if fits (a+1)then o (c,f,(a+1),b,q,h,d,m)else none)else if room f.length ([((bytesOf b),h,d,a)]:List Z11).length 40 then l (c,(f++([((bytesOf b),h,d,a)]:List Z11)),a)else none)else if room f.length ([((bytesOf b),h,d,a)]:List Z11).length 40 then l (c,(f++([((bytesOf b),h,d,a)]:List Z11)),a)else none) N (i,j,e,([]:List Int),([]:List UInt8),(j.length:Int),e,(0:Int)))else some j) N (n,([]:List Z11),(0:Int)))
theorem jqc :mK 156 (bX [pS] [.own 1 Y8 196 true] (c1A (jct N))):=
 mO (fC (jdK N) (fC (jmu N) (fC (jeK N) ja))) func156 rfl N (.seq .no (.seq .no (.seq .no (.seq (.seq .no (.block (.loop jpB (.seq .no (.block (.seq .no (.seq .no (.seq .no (.seq (.block (.loop jo6 .no)) .no))))))))) .no)))) _
def jty :Sh:=⟨.dead:: .pv Y16::pI:: .box 3 0::dz 3 (.pv (.opt Y19)::dz 8 (pI::pI::dz 73 [])),[(3,false,[.pv (.sl .str),.pv Y17])]⟩
def jss :Sh:=⟨.dead:: .pv Y16::pI:: .box 3 0::dz 3 (.pv (.opt Y19):: .dead:: .ptr Y19::pB::dz 5 (pI::pI::dz 31 (pB::dz 4 (.pv (.sl .str)::pI::pI::dz 34 [])))),[(3,false,[.pv (.sl .str),.pv Y17])]⟩
def jbH (c:List Z2) (c2:List Z4) (terms:Z10) (at0:Int):Option ((Option Z4)):=
 (iter (fun go (terms2,at02,best,t16,t17,c3,c4)=>bif decide (t17<t16)then oB (idx c4 t17) fun e=>(if fits ((terms2.length:Int)-at02)then bif decide (((terms2.length:Int)-at02)<(e.1.length:Int))then if fits (t17+1)then go (terms2,at02,best,t16,(t17+1),c3,c4)else none else(bif !(Option.isNone best)then oB best fun p=>(bif decide ((e.1.length:Int)<=(p.1.length:Int))then if fits (t17+1)then go (terms2,at02,best,t16,(t17+1),c3,c4)else none else iter (fun go2 (terms3,at03,best2,r,fits0,t162,t172,t49,t54,t55,t56,c5,c6)=>bif decide (t56<t55)then oB (idx t54 t56) fun e2=>(if fits (at03+t56)then oB (idx terms3 (at03+t56)) fun e3=>(bif fits0 then bif decide (e3.1=e2)then oB (idx terms3 at03) fun e4=>(if fits (e4.2+t56)then if fits (t56+1)then go2 (terms3,at03,best2,r,(decide (e3.2=(e4.2+t56))),t162,t172,t49,t54,t55,(t56+1),c5,c6)else none else none)else(if fits (t56+1)then go2 (terms3,at03,best2,r,false,t162,t172,t49,t54,t55,(t56+1),c5,c6)else none)else if fits (t56+1)then go2 (terms3,at03,best2,r,false,t162,t172,t49,t54,t55,(t56+1),c5,c6)else none)else none)else bif fits0 then if fits (t172+1)then go (terms3,at03,(some r),t162,(t172+1),c5,c6)else none else if fits (t172+1)then go (terms3,at03,best2,t162,(t172+1),c5,c6)else none) N (terms2,at02,best,e,true,t16,t17,(decide ((e.1.length:Int)<=(p.1.length:Int))),e.1,(e.1.length:Int),(0:Int),c3,c4))else iter (fun go3 (terms4,at04,best3,r2,fits02,t163,t173,t492,t542,t552,t562,c7,c8)=>bif decide (t562<t552)then oB (idx t542 t562) fun e5=>(if fits (at04+t562)then oB (idx terms4 (at04+t562)) fun e6=>(bif fits02 then bif decide (e6.1=e5)then oB (idx terms4 at04) fun e7=>(if fits (e7.2+t562)then if fits (t562+1)then go3 (terms4,at04,best3,r2,(decide (e6.2=(e7.2+t562))),t163,t173,t492,t542,t552,(t562+1),c7,c8)else none else none)else(if fits (t562+1)then go3 (terms4,at04,best3,r2,false,t163,t173,t492,t542,t552,(t562+1),c7,c8)else none)else if fits (t562+1)then go3 (terms4,at04,best3,r2,false,t163,t173,t492,t542,t552,(t562+1),c7,c8)else none)else none)else bif fits02 then if fits (t173+1)then go (terms4,at04,(some r2),t163,(t173+1),c7,c8)else none else if fits (t173+1)then go (terms4,at04,best3,t163,(t173+1),c7,c8)else none) N (terms2,at02,best,e,true,t16,t17,false,e.1,(e.1.length:Int),(0:Int),c3,c4))else none)else some best) N (terms,at0,(none:Option Z4),(c2.length:Int),(0:Int),c,c2))
theorem jtv :mK 157 (bX [.agg [.pv (.sl .str),.pv Y17],.pv Y16,pI] [.pv (.opt Y19)] (c4A (jbH N))):=
 mO ja func157 rfl N (.seq .no (.seq .no (.seq (.seq .no (.block (.loop jty (.seq .no (.seq .no (.seq (.block (.seq .no (.seq .no (.seq .no (.seq .no (.seq (.seq .no (.block (.loop jss .no))) .no)))))) .no)))))) .no))) _
def jlW :Sh:=⟨.dead:: .dead:: .box 2 0:: .dead:: .dead:: .own 600005 Y18 126 true:: .own 600006 Y18 126 true::dz 17 (.own 600024 Y8 196 true::pI::pI::dz 67 []),[(2,false,[.pv (.sl .str),.pv Y17])]⟩
def jnt :Sh:=⟨.dead:: .dead:: .box 2 0:: .dead:: .dead:: .own 600005 Y18 126 true:: .own 600006 Y18 126 true::dz 3 (pI::dz 83 []),[(2,false,[.pv (.sl .str),.pv Y17])]⟩
def jbw (y:List Z2) (A:List Z4) (t:List UInt8):Option (Z8):=
 (oB (jaj N y A) fun G=>bif !G then some ([]:Z10)else oB (jaF N t) fun C=>bif !C then some ([]:Z10)else oB (jct N t) fun w=>iter (fun o (k,f,j,l,b,d,h)=>bif decide (b<l)then oB (idx j b) fun i=>(oB (jaB N i.1) fun q=>oB (jao N d i.1) fun D=>bif !D then oB (jao N d q) fun E=>(bif !E then if room f.length ([(q,i.2.1)]:Z10).length 24 then if fits (b+1)then o (k,(f++([(q,i.2.1)]:Z10)),j,l,(b+1),d,h)else none else none else if fits (b+1)then o (k,f,j,l,(b+1),d,h)else none)else if fits (b+1)then o (k,f,j,l,(b+1),d,h)else none)else iter (fun u (e,c,a,n,p)=>bif decide (a<(c.length:Int))then oB (jbH N n p c a) fun r=>(bif Option.isNone r then oB (idx c a) fun v=>(if room e.length ([v]:Z10).length 24 then if fits (a+1)then u ((e++([v]:Z10)),c,(a+1),n,p)else none else none)else oB r fun x=>oB (idx c a) fun B=>if room e.length ([(x.2,B.2)]:Z10).length 24 then oB r fun z=>(if fits (a+(z.1.length:Int))then u ((e++([(x.2,B.2)]:Z10)),c,(a+(z.1.length:Int)),n,p)else none)else none)else some e) N (k,f,(0:Int),d,h)) N (([]:Z10),([]:Z10),w,(w.length:Int),(0:Int),y,A))
theorem jgO :mK 90 (bX [.agg [.pv (.sl .str),.pv Y17],pS] [.own 1 Y18 126 true] (c3A (jbw N))):=
 mO (fC (jdX N) (fC (jdK N) (fC (jqc N) (fC (jio N) (fC (jh5 N) (fC (jtv N) ja)))))) func90 rfl N (.seq .no (.seq .no (.seq .no (.seq .no (.seq (.seq .no (.block (.loop jlW .no))) (.seq (.seq .no (.block (.loop jnt .no))) .no)))))) _
def k__loop_example_fossick_impl_Seg_put_1_m (N:Nat) (d:List UInt8) (a:List UInt8) (e:Z5) (c:List UInt8) (b:Z2×Int):Z9:=
 (bif decide (d=c)then some (decide (a=b.1))else some false)
theorem jmw :mK 159 (bX [.agg [pS,pS,.pv Y13],.ptr .str,.ptr Y18] [pB] (c5A (k__loop_example_fossick_impl_Seg_put_1_m N))):=
 mO ja func159 rfl N .no _
def jnc :Sh:=⟨.pv Y6:: .clo 159 [.ptr .str,.ptr Y18]::dz 5 (pI::pI::dz 10 []),[]⟩
def k_slices_IndexFunc_146_m (f:List Z1) (h:Z2×Z2×Int):Z17:=
 (iter (fun i (e,b,d,a)=>bif decide (a<d)then oB (idx e a) fun c=>(oB (k__loop_example_fossick_impl_Seg_put_1_m N c.1 c.2.1 c.2.2 b.1 b.2) fun j=>bif j then some a else if fits (a+1)then i (e,b,d,(a+1))else none)else some (-1)) N (f,h,(f.length:Int),(0:Int)))
theorem jrl :mK 158 (bX [.pv Y6,.clo 159 [.ptr .str,.ptr Y18]] [pI] (c2A (k_slices_IndexFunc_146_m N))):=
 mO (fC (jmw N) ja) func158 rfl N (.seq .no (.seq (.seq .no (.block (.loop jnc .no))) .no)) _
def i_Seg_put_m (f:List UInt8) (h:List UInt8) (i:Int) (e:Int) (o:List Z0) (a:List Z1):Option ((List Z0)×(List Z1)):=
 (oB (k_slices_IndexFunc_146_m N a (f,h,i)) fun d=>bif decide (d<0)then if room a.length ([(f,h,([]:Z5))]:List Z1).length 56 then if 0<=(a.length:Int)/\(a.length:Int)<((a++([(f,h,([]:Z5))]:List Z1)).length:Int)then oB ((a++([(f,h,([]:Z5))]:List Z1))[(a.length:Int).toNat]?) fun c=>(if fits ((c.2.2.length:Int)-1)then bif decide (((c.2.2.length:Int)-1)<0)then oB ((a++([(f,h,([]:Z5))]:List Z1))[(a.length:Int).toNat]?) fun V=>(if(a.length:Int).toNat=(a.length:Int).toNat then if room c.2.2.length ([(e,([]:List Int))]:Z5).length 32 then if(a.length:Int).toNat=(a.length:Int).toNat then oB ((a++([(f,h,([]:Z5))]:List Z1))[(a.length:Int).toNat]?) fun k=>(if fits (((c.2.2.length:Int)-1)+1)then oB (((a++([(f,h,([]:Z5))]:List Z1)).set (a.length:Int).toNat (k.1,k.2.1,(c.2.2++([(e,([]:List Int))]:Z5))))[(a.length:Int).toNat]?) fun p=>(oB (p.2.2[(((c.2.2.length:Int)-1)+1).toNat]?) fun B=>oB (((a++([(f,h,([]:Z5))]:List Z1)).set (a.length:Int).toNat (k.1,k.2.1,(c.2.2++([(e,([]:List Int))]:Z5))))[(a.length:Int).toNat]?) fun S=>if(a.length:Int).toNat=(a.length:Int).toNat then oB (((a++([(f,h,([]:Z5))]:List Z1)).set (a.length:Int).toNat (k.1,k.2.1,(c.2.2++([(e,([]:List Int))]:Z5))))[(a.length:Int).toNat]?) fun ab=>(if(a.length:Int).toNat=(a.length:Int).toNat then if 0<=(((c.2.2.length:Int)-1)+1)/\(((c.2.2.length:Int)-1)+1)<(p.2.2.length:Int)then oB (p.2.2[(((c.2.2.length:Int)-1)+1).toNat]?) fun aj=>(if(((c.2.2.length:Int)-1)+1).toNat=(((c.2.2.length:Int)-1)+1).toNat then if room B.2.length ([i]:List Int).length 8 then if 0<=(((c.2.2.length:Int)-1)+1)/\(((c.2.2.length:Int)-1)+1)<(p.2.2.length:Int)then if(((c.2.2.length:Int)-1)+1).toNat=(((c.2.2.length:Int)-1)+1).toNat then oB (p.2.2[(((c.2.2.length:Int)-1)+1).toNat]?) fun P=>(some (o,(((a++([(f,h,([]:Z5))]:List Z1)).set (a.length:Int).toNat (k.1,k.2.1,(c.2.2++([(e,([]:List Int))]:Z5)))).modify ((a.length:Int).toNat) fun w=>(w.1,w.2.1,(p.2.2.set (((c.2.2.length:Int)-1)+1).toNat (P.1,(B.2++([i]:List Int))))))))else none else none else none else none)else none else none)else none)else none)else none else none else none)else(oB ((a++([(f,h,([]:Z5))]:List Z1))[(a.length:Int).toNat]?) fun aa=>if(a.length:Int).toNat=(a.length:Int).toNat then if 0<=((c.2.2.length:Int)-1)/\((c.2.2.length:Int)-1)<(c.2.2.length:Int)then oB (c.2.2[((c.2.2.length:Int)-1).toNat]?) fun L=>(bif !decide (L.1=e)then oB ((a++([(f,h,([]:Z5))]:List Z1))[(a.length:Int).toNat]?) fun ag=>(if(a.length:Int).toNat=(a.length:Int).toNat then if room c.2.2.length ([(e,([]:List Int))]:Z5).length 32 then if(a.length:Int).toNat=(a.length:Int).toNat then oB ((a++([(f,h,([]:Z5))]:List Z1))[(a.length:Int).toNat]?) fun m=>(if fits (((c.2.2.length:Int)-1)+1)then oB (((a++([(f,h,([]:Z5))]:List Z1)).set (a.length:Int).toNat (m.1,m.2.1,(c.2.2++([(e,([]:List Int))]:Z5))))[(a.length:Int).toNat]?) fun r=>(oB (r.2.2[(((c.2.2.length:Int)-1)+1).toNat]?) fun v=>oB (((a++([(f,h,([]:Z5))]:List Z1)).set (a.length:Int).toNat (m.1,m.2.1,(c.2.2++([(e,([]:List Int))]:Z5))))[(a.length:Int).toNat]?) fun ap=>if(a.length:Int).toNat=(a.length:Int).toNat then oB (((a++([(f,h,([]:Z5))]:List Z1)).set (a.length:Int).toNat (m.1,m.2.1,(c.2.2++([(e,([]:List Int))]:Z5))))[(a.length:Int).toNat]?) fun af=>(if(a.length:Int).toNat=(a.length:Int).toNat then if 0<=(((c.2.2.length:Int)-1)+1)/\(((c.2.2.length:Int)-1)+1)<(r.2.2.length:Int)then oB (r.2.2[(((c.2.2.length:Int)-1)+1).toNat]?) fun X=>(if(((c.2.2.length:Int)-1)+1).toNat=(((c.2.2.length:Int)-1)+1).toNat then if room v.2.length ([i]:List Int).length 8 then if 0<=(((c.2.2.length:Int)-1)+1)/\(((c.2.2.length:Int)-1)+1)<(r.2.2.length:Int)then if(((c.2.2.length:Int)-1)+1).toNat=(((c.2.2.length:Int)-1)+1).toNat then oB (r.2.2[(((c.2.2.length:Int)-1)+1).toNat]?) fun I=>(some (o,(((a++([(f,h,([]:Z5))]:List Z1)).set (a.length:Int).toNat (m.1,m.2.1,(c.2.2++([(e,([]:List Int))]:Z5)))).modify ((a.length:Int).toNat) fun D=>(D.1,D.2.1,(r.2.2.set (((c.2.2.length:Int)-1)+1).toNat (I.1,(v.2++([i]:List Int))))))))else none else none else none else none)else none else none)else none)else none)else none else none else none)else if(a.length:Int).toNat=(a.length:Int).toNat then oB (c.2.2[((c.2.2.length:Int)-1).toNat]?) fun y=>(oB ((a++([(f,h,([]:Z5))]:List Z1))[(a.length:Int).toNat]?) fun ad=>if(a.length:Int).toNat=(a.length:Int).toNat then oB ((a++([(f,h,([]:Z5))]:List Z1))[(a.length:Int).toNat]?) fun ae=>(if(a.length:Int).toNat=(a.length:Int).toNat then if 0<=((c.2.2.length:Int)-1)/\((c.2.2.length:Int)-1)<(c.2.2.length:Int)then oB (c.2.2[((c.2.2.length:Int)-1).toNat]?) fun W=>(if((c.2.2.length:Int)-1).toNat=((c.2.2.length:Int)-1).toNat then if room y.2.length ([i]:List Int).length 8 then if 0<=((c.2.2.length:Int)-1)/\((c.2.2.length:Int)-1)<(c.2.2.length:Int)then if((c.2.2.length:Int)-1).toNat=((c.2.2.length:Int)-1).toNat then oB (c.2.2[((c.2.2.length:Int)-1).toNat]?) fun H=>(some (o,((a++([(f,h,([]:Z5))]:List Z1)).modify ((a.length:Int).toNat) fun t=>(t.1,t.2.1,(c.2.2.set ((c.2.2.length:Int)-1).toNat (H.1,(y.2++([i]:List Int))))))))else none else none else none else none)else none else none)else none)else none)else none else none)else none)else none else none else if 0<=d/\d<(a.length:Int)then oB (a[d.toNat]?) fun b=>(if fits ((b.2.2.length:Int)-1)then bif decide (((b.2.2.length:Int)-1)<0)then oB (a[d.toNat]?) fun ao=>(if d.toNat=d.toNat then if room b.2.2.length ([(e,([]:List Int))]:Z5).length 32 then if d.toNat=d.toNat then oB (a[d.toNat]?) fun l=>(if fits (((b.2.2.length:Int)-1)+1)then oB ((a.set d.toNat (l.1,l.2.1,(b.2.2++([(e,([]:List Int))]:Z5))))[d.toNat]?) fun n=>(oB (n.2.2[(((b.2.2.length:Int)-1)+1).toNat]?) fun C=>oB ((a.set d.toNat (l.1,l.2.1,(b.2.2++([(e,([]:List Int))]:Z5))))[d.toNat]?) fun ah=>if d.toNat=d.toNat then oB ((a.set d.toNat (l.1,l.2.1,(b.2.2++([(e,([]:List Int))]:Z5))))[d.toNat]?) fun an=>(if d.toNat=d.toNat then if 0<=(((b.2.2.length:Int)-1)+1)/\(((b.2.2.length:Int)-1)+1)<(n.2.2.length:Int)then oB (n.2.2[(((b.2.2.length:Int)-1)+1).toNat]?) fun al=>(if(((b.2.2.length:Int)-1)+1).toNat=(((b.2.2.length:Int)-1)+1).toNat then if room C.2.length ([i]:List Int).length 8 then if 0<=(((b.2.2.length:Int)-1)+1)/\(((b.2.2.length:Int)-1)+1)<(n.2.2.length:Int)then if(((b.2.2.length:Int)-1)+1).toNat=(((b.2.2.length:Int)-1)+1).toNat then oB (n.2.2[(((b.2.2.length:Int)-1)+1).toNat]?) fun K=>(some (o,((a.set d.toNat (l.1,l.2.1,(b.2.2++([(e,([]:List Int))]:Z5)))).modify d.toNat fun x=>(x.1,x.2.1,(n.2.2.set (((b.2.2.length:Int)-1)+1).toNat (K.1,(C.2++([i]:List Int))))))))else none else none else none else none)else none else none)else none)else none)else none else none else none)else(oB (a[d.toNat]?) fun am=>if d.toNat=d.toNat then if 0<=((b.2.2.length:Int)-1)/\((b.2.2.length:Int)-1)<(b.2.2.length:Int)then oB (b.2.2[((b.2.2.length:Int)-1).toNat]?) fun G=>(bif !decide (G.1=e)then oB (a[d.toNat]?) fun aq=>(if d.toNat=d.toNat then if room b.2.2.length ([(e,([]:List Int))]:Z5).length 32 then if d.toNat=d.toNat then oB (a[d.toNat]?) fun j=>(if fits (((b.2.2.length:Int)-1)+1)then oB ((a.set d.toNat (j.1,j.2.1,(b.2.2++([(e,([]:List Int))]:Z5))))[d.toNat]?) fun q=>(oB (q.2.2[(((b.2.2.length:Int)-1)+1).toNat]?) fun u=>oB ((a.set d.toNat (j.1,j.2.1,(b.2.2++([(e,([]:List Int))]:Z5))))[d.toNat]?) fun T=>if d.toNat=d.toNat then oB ((a.set d.toNat (j.1,j.2.1,(b.2.2++([(e,([]:List Int))]:Z5))))[d.toNat]?) fun ak=>(if d.toNat=d.toNat then if 0<=(((b.2.2.length:Int)-1)+1)/\(((b.2.2.length:Int)-1)+1)<(q.2.2.length:Int)then oB (q.2.2[(((b.2.2.length:Int)-1)+1).toNat]?) fun U=>(if(((b.2.2.length:Int)-1)+1).toNat=(((b.2.2.length:Int)-1)+1).toNat then if room u.2.length ([i]:List Int).length 8 then if 0<=(((b.2.2.length:Int)-1)+1)/\(((b.2.2.length:Int)-1)+1)<(q.2.2.length:Int)then if(((b.2.2.length:Int)-1)+1).toNat=(((b.2.2.length:Int)-1)+1).toNat then oB (q.2.2[(((b.2.2.length:Int)-1)+1).toNat]?) fun O=>(some (o,((a.set d.toNat (j.1,j.2.1,(b.2.2++([(e,([]:List Int))]:Z5)))).modify d.toNat fun z=>(z.1,z.2.1,(q.2.2.set (((b.2.2.length:Int)-1)+1).toNat (O.1,(u.2++([i]:List Int))))))))else none else none else none else none)else none else none)else none)else none)else none else none else none)else if d.toNat=d.toNat then oB (b.2.2[((b.2.2.length:Int)-1).toNat]?) fun E=>(oB (a[d.toNat]?) fun ai=>if d.toNat=d.toNat then oB (a[d.toNat]?) fun ac=>(if d.toNat=d.toNat then if 0<=((b.2.2.length:Int)-1)/\((b.2.2.length:Int)-1)<(b.2.2.length:Int)then oB (b.2.2[((b.2.2.length:Int)-1).toNat]?) fun R=>(if((b.2.2.length:Int)-1).toNat=((b.2.2.length:Int)-1).toNat then if room E.2.length ([i]:List Int).length 8 then if 0<=((b.2.2.length:Int)-1)/\((b.2.2.length:Int)-1)<(b.2.2.length:Int)then if((b.2.2.length:Int)-1).toNat=((b.2.2.length:Int)-1).toNat then oB (b.2.2[((b.2.2.length:Int)-1).toNat]?) fun Q=>(some (o,(a.modify d.toNat fun A=>(A.1,A.2.1,(b.2.2.set ((b.2.2.length:Int)-1).toNat (Q.1,(E.2++([i]:List Int))))))))else none else none else none else none)else none else none)else none)else none)else none else none)else none)else none)
theorem jky :mK 91 ⟨⟨[.box 900000 0,pS,.agg [pS,pI],pI],[(900000,false,[.pv Y4,.tre 850001 Y7 131])]⟩,⟨[.tup []],[(900000,false,[.pv Y4,.tre 1 Y7 131])]⟩,c6A (i_Seg_put_m N)⟩:=
 mO (fC (jrl N) ja) func91 rfl N (.seq .no (.seq .no (.seq .no (.seq .no (.seq .no (.seq .no (.touch [.out 9 [(2,79,204,10),(1,88,3,0)]]))))))) _ (wr:=[33,34,70,71,91,92]) (rs:=[900000,850001]) (dw:=[16,33,70])
def jl0 :Sh:=⟨.pv (.int .u64):: .dead::pI::dz 22 [],[]⟩
def k_math_bits_Len64_m (N:Nat) (e:Int):Z17:=
 (meet (fun(a:Int×Int)=>match a with|(b,f)=>meet (fun(a:Int×Int)=>match a with|(d,c)=>meet (fun(a:Int×Int)=>match a with|(m,l)=>oB (idx ([0,1,2,2,3,3,3,3,4,4,4,4,4,4,4,4,5,5,5,5,5,5,5,5,5,5,5,5,5,5,5,5,6,6,6,6,6,6,6,6,6,6,6,6,6,6,6,6,6,6,6,6,6,6,6,6,6,6,6,6,6,6,6,6,7,7,7,7,7,7,7,7,7,7,7,7,7,7,7,7,7,7,7,7,7,7,7,7,7,7,7,7,7,7,7,7,7,7,7,7,7,7,7,7,7,7,7,7,7,7,7,7,7,7,7,7,7,7,7,7,7,7,7,7,7,7,7,7,8,8,8,8,8,8,8,8,8,8,8,8,8,8,8,8,8,8,8,8,8,8,8,8,8,8,8,8,8,8,8,8,8,8,8,8,8,8,8,8,8,8,8,8,8,8,8,8,8,8,8,8,8,8,8,8,8,8,8,8,8,8,8,8,8,8,8,8,8,8,8,8,8,8,8,8,8,8,8,8,8,8,8,8,8,8,8,8,8,8,8,8,8,8,8,8,8,8,8,8,8,8,8,8,8,8,8,8,8,8,8,8,8,8,8,8,8,8,8,8,8,8,8,8,8,8,8,8]:List UInt8) (IntKind.u8.wrap m)) fun j=>if fits (l+(IntKind.i64.wrap (j.toNat:Int)))then some (l+(IntKind.i64.wrap (j.toNat:Int)))else none) fun k=>bif decide ((256:Int)<=d)then if 0<=(8:Int)then if fits (c+8)then k ((d.fdiv (2^(min (8:Int).toNat (IntKind.bits .u64)))),(c+8))else none else none else k (d,c)) fun i=>bif decide ((65536:Int)<=b)then if 0<=(16:Int)then if fits (f+16)then i ((b.fdiv (2^(min (16:Int).toNat (IntKind.bits .u64)))),(f+16))else none else none else i (b,f)) fun h=>bif decide ((4294967296:Int)<=e)then if 0<=(32:Int)then h ((e.fdiv (2^(min (32:Int).toNat (IntKind.bits .u64)))),32)else none else h (e,0))
theorem jrK :mK 220 (bX [.pv (.int .u64)] [pI] (c1A (k_math_bits_Len64_m N))):=
 mO ja func220 rfl N (.seq .no (.meet jl0 .no (.meet jl0 .no (.meet jl0 .no .no)))) _
def k_math_bits_Len_m (a:Int):Z17:=
 (oB (k_math_bits_Len64_m N a) fun b=>some b)
theorem jda :mK 161 (bX [.pv (.int .u64)] [pI] (c1A (k_math_bits_Len_m N))):=
 mO (fC (jrK N) ja) func161 rfl N .no _
def jbn (N:Nat) (a:List UInt8):Z9:=
 (some (!decide (a=a)))
theorem jkt :mK 162 (bX [pS] [pB] (c1A (jbn N))):=
 mO ja func162 rfl N .no _
def jam (b:List UInt8) (a:List UInt8):Z17:=
 (oB (jbn N b) fun d=>oB (jbn N a) fun c=>bif d then bif c then some 0 else(some (-1))else bif c then some 1 else bif Op.bytesLess b a then some (-1)else bif !(Op.bytesLess b a||decide (b=a))then some 1 else some 0)
theorem ji2 :mK 95 (bX [pS,pS] [pI] (c2A (jam N))):=
 mO (fC (jkt N) ja) func95 rfl N .no _
def jlp :Sh:=⟨dz 3 (pI:: .dead:: .dead:: .pv Y22::pI::pI::dz 9 []),[]⟩
def jbe (d:List Int):Z17:=
 (iter (fun h (b,f,c,a)=>bif decide (a<c)then oB (idx f a) fun e=>(bif !decide (e=b)then some e else if fits (a+1)then h (b,f,c,(a+1))else none)else some b) N ((0:Int),d,(d.length:Int),(0:Int)))
theorem jhC :mK 94 (bX [.pv Y22] [pI] (c1A (jbe N))):=
 mO ja func94 rfl N (.seq .no (.seq .no (.seq (.seq .no (.block (.loop jlp .no))) .no))) _
def je (f:List UInt8) (b:List UInt8) (i:Z5) (c:List UInt8) (d:List UInt8) (j:Z5):Z17:=
 (oB (jam N f c) fun e=>oB (jam N b d) fun a=>oB (jbe N ([e,a]:List Int)) fun h=>some h)
theorem jaf :mK 93 (bX [.agg [pS,pS,.pv Y13],.agg [pS,pS,.pv Y13]] [pI] (c6A (je N))):=
 mO (fC (ji2 N) (fC (jhC N) ja)) func93 rfl N .no _
def k_slices_nextPowerOfTwo_m (b:Int):Z17:=
 (oB (k_math_bits_Len_m N (IntKind.u64.wrap b)) fun a=>if 0<=a then some (IntKind.u64.wrap ((1:Int)*2^(min a.toNat (IntKind.bits .u64))))else none)
theorem jhv :mK 270 (bX [pI] [.pv (.int .u64)] (c1A (k_slices_nextPowerOfTwo_m N))):=
 mO (fC (jda N) ja) func270 rfl N .no _
def k__slices_xorshift_Next_m (N:Nat) (a:Int):Option (Int×Int):=
 (if 0<=(13:Int)then if 0<=(7:Int)then if 0<=(17:Int)then some ((bitsI .xor .u64 (bitsI .xor .u64 (bitsI .xor .u64 a (IntKind.u64.wrap (a*2^(min (13:Int).toNat (IntKind.bits .u64))))) ((bitsI .xor .u64 a (IntKind.u64.wrap (a*2^(min (13:Int).toNat (IntKind.bits .u64))))).fdiv (2^(min (7:Int).toNat (IntKind.bits .u64))))) (IntKind.u64.wrap ((bitsI .xor .u64 (bitsI .xor .u64 a (IntKind.u64.wrap (a*2^(min (13:Int).toNat (IntKind.bits .u64))))) ((bitsI .xor .u64 a (IntKind.u64.wrap (a*2^(min (13:Int).toNat (IntKind.bits .u64))))).fdiv (2^(min (7:Int).toNat (IntKind.bits .u64)))))*2^(min (17:Int).toNat (IntKind.bits .u64))))),(bitsI .xor .u64 (bitsI .xor .u64 (bitsI .xor .u64 a (IntKind.u64.wrap (a*2^(min (13:Int).toNat (IntKind.bits .u64))))) ((bitsI .xor .u64 a (IntKind.u64.wrap (a*2^(min (13:Int).toNat (IntKind.bits .u64))))).fdiv (2^(min (7:Int).toNat (IntKind.bits .u64))))) (IntKind.u64.wrap ((bitsI .xor .u64 (bitsI .xor .u64 a (IntKind.u64.wrap (a*2^(min (13:Int).toNat (IntKind.bits .u64))))) ((bitsI .xor .u64 a (IntKind.u64.wrap (a*2^(min (13:Int).toNat (IntKind.bits .u64))))).fdiv (2^(min (7:Int).toNat (IntKind.bits .u64)))))*2^(min (17:Int).toNat (IntKind.bits .u64))))))else none else none else none)
theorem jet :mK 271 ⟨⟨[.box 900000 0],[(900000,false,[.pv (.int .u64)])]⟩,⟨[.pv (.int .u64)],[(900000,false,[.pv (.int .u64)])]⟩,c1A (k__slices_xorshift_Next_m N)⟩:=
 mO ja func271 rfl N .no _ (rs:=[900000])
section
variable {Y γ Z : Type} (c : γ -> Y -> Y -> Option Int)
def swpG (d:List Y) (i j:Int) (k:List Y->Option Z):Option Z:=
 if 0<=j/\j<(d.length:Int)then oB (d[j.toNat]?) fun e=>if 0<=i/\i<(d.length:Int)then oB (d[i.toNat]?) fun e2=>
  if 0<=i/\i<(d.length:Int)then oB (d[i.toNat]?) fun e3=>if 0<=j/\j<((d.set i.toNat e).length:Int)then oB ((d.set i.toNat e)[j.toNat]?) fun e4=>k ((d.set i.toNat e).set j.toNat e2)
  else none else none else none else none
def cmpG (ks:γ) (d:List Y) (i j:Int) (k:Int->Option Z):Option Z:=
 if 0<=i/\i<(d.length:Int)then oB (d[i.toNat]?) fun e=>if 0<=j/\j<(d.length:Int)then oB (d[j.toNat]?) fun e2=>oB (c ks e e2) k else none else none
def cmpP (ks:γ) (d:List Y) (j:Int) (k:Int->Option Z):Option Z:=
 if 0<=j/\j<(d.length:Int)then oB (d[j.toNat]?) fun e=>if fits (j-1)then if 0<=(j-1)/\(j-1)<(d.length:Int)then oB (d[(j-1).toNat]?) fun e2=>oB (c ks e e2) k else none else none else none
def swpP (d:List Y) (j:Int) (k:List Y->Option Z):Option Z:=if fits (j-1)then if fits (j-1)then swpG d j (j-1) k else none else none
def insG (N:Nat) (d:List Y) (a b:Int) (ks:γ):Option (List Y):=
 if fits (a+1)then iter (fun go (g:List Y×Int×Int×γ×Int)=>
  match g with
  |(d2,a2,b2,ks2,i)=>
  bif decide (i<b2)then
   iter (fun go2 (g:List Y×Int×Int×γ×Int×Int)=>
    match g with
    |(d3,a3,b3,ks3,i2,j)=>
    bif decide (a3<j)then cmpP c ks3 d3 j fun r=>bif decide (r<0)then swpP d3 j fun d=>if fits (j-1)then go2 (d,a3,b3,ks3,i2,j-1)else none
     else if fits (i2+1)then go (d3,a3,b3,ks3,i2+1)else none
    else if fits (i2+1)then go (d3,a3,b3,ks3,i2+1)else none) N (d2,a2,b2,ks2,i,i)
  else some d2) N (d,a,b,ks,a+1)else none
def siftG (N:Nat) (data:List Y) (lo:Int) (hi:Int) (first:Int) (cmp:γ):Option ((List Y)):=
 (iter (fun go (g:(List Y)×Int×Int×γ×Int)=>
   match g with
   |(data2,hi2,first2,cmp2,root)=>
   (if fits (2*root)then(if fits ((2*root)+1)then(bif(decide (hi2<=((2*root)+1)))then
      (some data2)
      else
      (meet (fun(g:(List Y)×Int×Int×γ×Int×Int)=>
        match g with
        |(data3,hi3,first3,cmp3,root2,child)=>
        (if fits (first3+root2)then(if 0<=(first3+root2)/\(first3+root2)<(data3.length:Int)then
          (oB (data3[(first3+root2).toNat]?) fun e3=>
           (if fits (first3+child)then(if 0<=(first3+child)/\(first3+child)<(data3.length:Int)then
             (oB (data3[(first3+child).toNat]?) fun e4=>
              (oB (c cmp3 e3 e4) fun r2=>
               (bif(!(decide (r2<0)))then
                (some data3)
                else
                (if fits (first3+root2)then(if fits (first3+child)then(if fits (first3+child)then(if 0<=(first3+child)/\(first3+child)<(data3.length:Int)then
                    (oB (data3[(first3+child).toNat]?) fun e5=>
                     (if fits (first3+root2)then(if 0<=(first3+root2)/\(first3+root2)<(data3.length:Int)then
                       (oB (data3[(first3+root2).toNat]?) fun e6=>
                        (if 0<=(first3+root2)/\(first3+root2)<(data3.length:Int)then
                         (oB (data3[(first3+root2).toNat]?) fun e7=>
                          (if 0<=(first3+child)/\(first3+child)<((data3.set (first3+root2).toNat e5).length:Int)then
                           (oB ((data3.set (first3+root2).toNat e5)[(first3+child).toNat]?) fun e8=>
                            (go (((data3.set (first3+root2).toNat e5).set (first3+child).toNat e6),hi3,first3,cmp3,child)))
                           else none))
                         else none))
                       else none)else none))
                    else none)else none)else none)else none))))
             else none)else none))
          else none)else none)) fun J=>
       (if fits (((2*root)+1)+1)then(bif(decide ((((2*root)+1)+1)<hi2))then
         (if fits (first2+((2*root)+1))then(if 0<=(first2+((2*root)+1))/\(first2+((2*root)+1))<(data2.length:Int)then
           (oB (data2[(first2+((2*root)+1)).toNat]?) fun e=>
            (if fits (first2+((2*root)+1))then(if fits ((first2+((2*root)+1))+1)then(if 0<=((first2+((2*root)+1))+1)/\((first2+((2*root)+1))+1)<(data2.length:Int)then
               (oB (data2[((first2+((2*root)+1))+1).toNat]?) fun e2=>
                (oB (c cmp2 e e2) fun r=>
                 (bif(decide (r<0))then
                  (if fits (((2*root)+1)+1)then(J (data2,hi2,first2,cmp2,root,(((2*root)+1)+1)))else none)
                  else
                  (J (data2,hi2,first2,cmp2,root,((2*root)+1))))))
               else none)else none)else none))
           else none)else none)
         else
         (J (data2,hi2,first2,cmp2,root,((2*root)+1))))else none)))else none)else none)) N (data,hi,first,cmp,lo))
def heapG (N:Nat) (data:List Y) (a:Int) (b:Int) (cmp:γ):Option ((List Y)):=
 (if fits (b-a)then(if fits ((b-a)-1)then(if 2≠0 then
    (if fits (((b-a)-1).tdiv 2)then(iter (fun go (g:(List Y)×γ×Int×Int×Int×Int)=>
       match g with
       |(data2,cmp2,first,lo,hi,i)=>
       (bif(decide ((0:Int)<=i))then
        (oB (siftG c N data2 i hi first cmp2) fun r=>
         (if fits (i-1)then(go (r,cmp2,first,lo,hi,(i-1)))else none))
        else
        (if fits (hi-1)then(iter (fun go2 (g:(List Y)×γ×Int×Int×Int)=>
           match g with
           |(data3,cmp3,first2,lo2,i2)=>
           (bif(decide ((0:Int)<=i2))then
            (if fits (first2+i2)then(if fits (first2+i2)then swpG data3 first2 (first2+i2) fun d=>(oB (siftG c N d lo2 i2 first2 cmp3) fun r2=>
                       (if fits (i2-1)then(go2 (r2,cmp3,first2,lo2,(i2-1)))else none))else none)else none)
            else
            (some data3))) N (data2,cmp2,first,lo,(hi-1)))else none))) N (data,cmp,a,0,(b-a),(((b-a)-1).tdiv 2)))else none)
    else none)else none)else none)
def breakG (N:Nat) (data:List Y) (a:Int) (b:Int) (cmp:γ):Option (List Y):=
 (if fits (b-a)then(bif(decide ((8:Int)<=(b-a)))then
   (oB (k_slices_nextPowerOfTwo_m N (b-a)) fun r=>
    (if 4≠0 then
     (if fits ((b-a).tdiv 4)then(if fits (((b-a).tdiv 4)*2)then(if fits (a+(((b-a).tdiv 4)*2))then(if fits ((a+(((b-a).tdiv 4)*2))-1)then(iter (fun go (g:(List Y)×Int×Int×Int×Int×Int)=>
           match g with
           |(data2,a2,length,modulus,idx0,random)=>
           (if 4≠0 then
            (if fits (length.tdiv 4)then(if fits ((length.tdiv 4)*2)then(if fits (a2+((length.tdiv 4)*2))then(if fits ((a2+((length.tdiv 4)*2))+1)then(bif(decide (idx0<=((a2+((length.tdiv 4)*2))+1)))then
                 (oB (k__slices_xorshift_Next_m N random) fun r2=>
                  (meet (fun(g:(List Y)×Int×Int×Int×Int×Int×Int)=>
                    match g with
                    |(data3,a3,length2,modulus2,idx02,other,random2)=>
                    (if fits (a3+other)then(if fits (a3+other)then swpG data3 idx02 (a3+other) fun d=>(if fits (idx02+1)then(go (d,a3,length2,modulus2,(idx02+1),random2))else none)else none)else none)) fun J=>
                   (bif(decide (length<=(IntKind.i64.wrap (bitsI .and .u64 r2.1 (IntKind.u64.wrap (modulus-1))))))then
                    (if fits ((IntKind.i64.wrap (bitsI .and .u64 r2.1 (IntKind.u64.wrap (modulus-1))))-length)then(J (data2,a2,length,modulus,idx0,((IntKind.i64.wrap (bitsI .and .u64 r2.1 (IntKind.u64.wrap (modulus-1))))-length),r2.2))else none)
                    else
                    (J (data2,a2,length,modulus,idx0,(IntKind.i64.wrap (bitsI .and .u64 r2.1 (IntKind.u64.wrap (modulus-1)))),r2.2)))))
                 else
                 (some data2))else none)else none)else none)else none)
            else none)) N (data,a,(b-a),r,((a+(((b-a).tdiv 4)*2))-1),(IntKind.u64.wrap (b-a))))else none)else none)else none)else none)
     else none))
   else
   (some data))else none)
def order2G (N:Nat) (data:List Y) (a:Int) (b:Int) (cmp:γ) (b2:Int):Option (Int×Int×(List Y)×Int):=
 cmpG c cmp data b a fun r=>(bif(decide (r<0))then(if fits (b2+1)then(some (b,a,data,(b2+1)))else none)else(some (a,b,data,b2)))
def medianG (N:Nat) (data:List Y) (a:Int) (b:Int) (c0:Int) (cmp:γ) (b2:Int):Option (Int×(List Y)×Int):=
 (oB (order2G c N data a b cmp b2) fun r=>
  (oB (order2G c N r.2.2.1 r.2.1 c0 cmp r.2.2.2) fun r2=>
   (oB (order2G c N r2.2.2.1 r.1 r2.1 cmp r2.2.2.2) fun r3=>
    (some (r3.2.1,r3.2.2.1,r3.2.2.2)))))
def medianAdjacentG (N:Nat) (data:List Y) (a:Int) (cmp:γ) (b:Int):Option (Int×(List Y)×Int):=
 (if fits (a-1)then(if fits (a+1)then(oB (medianG c N data (a-1) a (a+1) cmp b) fun r=>
    (some (r.1,r.2.1,r.2.2)))else none)else none)
def choosePivotG (N:Nat) (data:List Y) (a:Int) (b:Int) (cmp:γ):Option (Int×Int×(List Y)):=
 (if fits (b-a)then(if 4≠0 then
   (if fits ((b-a).tdiv 4)then(if fits (((b-a).tdiv 4)*1)then(if fits (a+(((b-a).tdiv 4)*1))then(if 4≠0 then
       (if fits ((b-a).tdiv 4)then(if fits (((b-a).tdiv 4)*2)then(if fits (a+(((b-a).tdiv 4)*2))then(if 4≠0 then
           (if fits ((b-a).tdiv 4)then(if fits (((b-a).tdiv 4)*3)then(if fits (a+(((b-a).tdiv 4)*3))then(meet (fun(g:(List Y)×Int×Int)=>
                match g with
                |(data3,j2,swaps2)=>
                (bif(decide (swaps2=0))then
                 (some (j2,1,data3))
                 else
                 (bif(decide (swaps2=12))then
                  (some (j2,2,data3))
                  else
                  (some (j2,0,data3))))) fun J=>
               (bif(decide ((8:Int)<=(b-a)))then
                (meet (fun(g:(List Y)×γ×Int×Int×Int×Int)=>
                  match g with
                  |(data2,cmp2,i,j,k,swaps)=>
                  (oB (medianG c N data2 i j k cmp2 swaps) fun r4=>
                   (J (r4.2.1,r4.1,r4.2.2)))) fun J2=>
                 (bif(decide ((50:Int)<=(b-a)))then
                  (oB (medianAdjacentG c N data (a+(((b-a).tdiv 4)*1)) cmp 0) fun r=>
                   (oB (medianAdjacentG c N r.2.1 (a+(((b-a).tdiv 4)*2)) cmp r.2.2) fun r2=>
                    (oB (medianAdjacentG c N r2.2.1 (a+(((b-a).tdiv 4)*3)) cmp r2.2.2) fun r3=>
                     (J2 (r3.2.1,cmp,r.1,r2.1,r3.1,r3.2.2)))))
                  else
                  (J2 (data,cmp,(a+(((b-a).tdiv 4)*1)),(a+(((b-a).tdiv 4)*2)),(a+(((b-a).tdiv 4)*3)),0))))
                else
                (J (data,(a+(((b-a).tdiv 4)*2)),0))))else none)else none)else none)
           else none)else none)else none)else none)
       else none)else none)else none)else none)
   else none)else none)
def reverseRangeG (N:Nat) (data:List Y) (a:Int) (b:Int) (cmp:γ):Option ((List Y)):=
 (if fits (b-1)then(iter (fun go (g:(List Y)×Int×Int)=>
    match g with
    |(data2,i,j)=>
    (bif(decide (i<j))then swpG data2 i j fun d=>(if fits (i+1)then(if fits (j-1)then(go (d,(i+1),(j-1)))else none)else none)
     else
     (some data2))) N (data,a,(b-1)))else none)
def shDown (k:(List Y×Int×Int×γ×Int×Int)->Option Z) (N:Nat) (g:List Y×Int×Int×γ×Int×Int×Int):Option Z:=
 iter (fun go3 (g:(List Y)×Int×Int×γ×Int×Int×Int)=>
  match g with
  |(d,a,b,ks,i,j,j4)=>
  bif decide ((1:Int)<=j4)then cmpP c ks d j4 fun r=>bif !decide (r<0)then k (d,a,b,ks,i,j)else swpP d j4 fun d'=>if fits (j4-1)then go3 (d',a,b,ks,i,j,j4-1)else none
  else k (d,a,b,ks,i,j)) N g
def shUp (k:(List Y×Int×Int×γ×Int×Int)->Option Z) (N:Nat) (g:List Y×Int×Int×γ×Int×Int×Int):Option Z:=
 iter (fun go4 (g:(List Y)×Int×Int×γ×Int×Int×Int)=>
  match g with
  |(d,a,b,ks,i,j,j4)=>
  bif decide (j4<b)then cmpP c ks d j4 fun r=>bif !decide (r<0)then(if fits (j+1)then k (d,a,b,ks,i,j+1)else none)else swpP d j4 fun d'=>if fits (j4+1)then go4 (d',a,b,ks,i,j,j4+1)else none
  else if fits (j+1)then k (d,a,b,ks,i,j+1)else none) N g
def pisX (N:Nat) (go:(List Y×Int×Int×γ×Int×Int)->Option (Bool×List Y)) (d:List Y) (a b:Int) (ks:γ) (i j:Int):Option (Bool×List Y):=
 bif decide (i=b)then some (true,d)else if fits (b-a)then bif decide ((b-a)<50)then some (false,d)else
  swpP d i fun d'=>meet (fun(g:List Y×Int×Int×γ×Int×Int)=>
   match g with
   |(d5,a5,b5,ks5,i4,j5)=>
   if fits (b5-i4)then bif decide ((2:Int)<=(b5-i4))then if fits (i4+1)then shUp c go N (d5,a5,b5,ks5,i4,j5,i4+1)else none
    else(if fits (j5+1)then go (d5,a5,b5,ks5,i4,j5+1)else none)else none) fun J=>
   if fits (i-a)then bif decide ((2:Int)<=(i-a))then if fits (i-1)then shDown c J N (d',a,b,ks,i,j,i-1)else none else J (d',a,b,ks,i,j)else none
 else none
def pisG (N:Nat) (d:List Y) (a b:Int) (ks:γ):Option (Bool×List Y):=
 if fits (a+1)then iter (fun go (g:List Y×Int×Int×γ×Int×Int)=>
  match g with
  |(d2,a2,b2,ks2,i,j)=>
  bif decide (j<5)then
   iter (fun go2 (g:List Y×Int×Int×γ×Int×Int)=>
    match g with
    |(d3,a3,b3,ks3,i2,j2)=>
    bif decide (i2<b3)then cmpP c ks3 d3 i2 fun r=>bif !decide (r<0)then(if fits (i2+1)then go2 (d3,a3,b3,ks3,i2+1,j2)else none)else pisX c N go d3 a3 b3 ks3 i2 j2
    else pisX c N go d3 a3 b3 ks3 i2 j2) N (d2,a2,b2,ks2,i,j)
  else some (false,d2)) N (d,a,b,ks,a+1,0)else none
def partE (go3:(List Y×Int×γ×Int×Int)->Option (Int×Bool×List Y)) (fl:Bool) (g:List Y×Int×γ×Int×Int):Option (Int×Bool×List Y):=
 match g with
 |(d,a,ks,i,j)=>
 bif decide (j<i)then swpG d j a fun d'=>some (j,fl,d')else swpG d i j fun d'=>if fits (i+1)then if fits (j-1)then go3 (d',a,ks,i+1,j-1)else none else none
def partD (k:(List Y×Int×γ×Int×Int)->Option Z) (N:Nat) (g:List Y×Int×γ×Int×Int):Option Z:=
 iter (fun go (g:List Y×Int×γ×Int×Int)=>
  match g with
  |(d,a,ks,i,j)=>
  bif decide (i<=j)then cmpG c ks d j a fun r=>bif !decide (r<0)then(if fits (j-1)then go (d,a,ks,i,j-1)else none)else k (d,a,ks,i,j)
  else k (d,a,ks,i,j)) N g
def partU (k:(List Y×Int×γ×Int×Int)->Option Z) (N:Nat) (g:List Y×Int×γ×Int×Int):Option Z:=
 iter (fun go (g:List Y×Int×γ×Int×Int)=>
  match g with
  |(d,a,ks,i,j)=>
  bif decide (i<=j)then cmpG c ks d i a fun r=>bif decide (r<0)then(if fits (i+1)then go (d,a,ks,i+1,j)else none)else k (d,a,ks,i,j)
  else k (d,a,ks,i,j)) N g
def partG (N:Nat) (d:List Y) (a b p:Int) (ks:γ):Option (Int×Bool×List Y):=
 swpG d a p fun d=>if fits (a+1)then if fits (b-1)then
  partU c (fun g=>partD c (partE (fun g=>iter (fun go3 g=>partU c (fun g=>partD c (partE go3 false) N g) N g) N g) true) N g) N (d,a,ks,a+1,b-1)
 else none else none
def peqE (go:(List Y×Int×γ×Int×Int)->Option (Int×List Y)) (g:List Y×Int×γ×Int×Int):Option (Int×List Y):=
 match g with
 |(d,a,ks,i,j)=>
 bif decide (j<i)then some (i,d)else swpG d i j fun d'=>if fits (i+1)then if fits (j-1)then go (d',a,ks,i+1,j-1)else none else none
def peqD (k:(List Y×Int×γ×Int×Int)->Option Z) (N:Nat) (g:List Y×Int×γ×Int×Int):Option Z:=
 iter (fun go (g:List Y×Int×γ×Int×Int)=>
  match g with
  |(d,a,ks,i,j)=>
  bif decide (i<=j)then cmpG c ks d a j fun r=>bif decide (r<0)then(if fits (j-1)then go (d,a,ks,i,j-1)else none)else k (d,a,ks,i,j)
  else k (d,a,ks,i,j)) N g
def peqU (k:(List Y×Int×γ×Int×Int)->Option Z) (N:Nat) (g:List Y×Int×γ×Int×Int):Option Z:=
 iter (fun go (g:List Y×Int×γ×Int×Int)=>
  match g with
  |(d,a,ks,i,j)=>
  bif decide (i<=j)then cmpG c ks d a i fun r=>bif !decide (r<0)then(if fits (i+1)then go (d,a,ks,i+1,j)else none)else k (d,a,ks,i,j)
  else k (d,a,ks,i,j)) N g
def peqG (N:Nat) (d:List Y) (a b p:Int) (ks:γ):Option (Int×List Y):=
 swpG d a p fun d=>if fits (a+1)then if fits (b-1)then iter (fun go g=>peqU c (fun g=>peqD c (peqE go) N g) N g) N (d,a,ks,a+1,b-1)else none else none
def pdqG (hs:List Y->Int->Int->γ->Option (List Y)) (pe:List Y->Int->Int->Int->γ->Option (Int×List Y)) (N:Nat):(D:Nat)->(List Y)->Int->Int->Int->γ->Option ((List Y))
 |0,_,_,_,_,_=>none
 |D+1,data,a,b,limit,cmp=>
 (iter (fun go (g:(List Y)×Int×Int×Int×γ×Bool×Bool)=>
   match g with
   |(data2,a2,b2,limit2,cmp2,wasBalanced,wasPartitioned)=>
   (if fits (b2-a2)then(bif(decide ((b2-a2)<=12))then
     (oB (insG c N data2 a2 b2 cmp2) fun r=>
      (some r))
     else
     (bif(decide (limit2=0))then
      (oB (hs data2 a2 b2 cmp2) fun r2=>
       (some r2))
      else
      (meet (fun(g:(List Y)×Int×Int×Int×γ×Bool×Bool×Int)=>
        match g with
        |(data3,a3,b3,limit3,cmp3,wasBalanced2,wasPartitioned2,length)=>
        (oB (choosePivotG c N data3 a3 b3 cmp3) fun r4=>
         (meet (fun(g:(List Y)×Int×Int×Int×γ×Bool×Bool×Int×Int×Int)=>
           match g with
           |(data4,a4,b4,limit4,cmp4,wasBalanced3,wasPartitioned3,length2,pivot,hint)=>
           (meet (fun(g:(List Y)×Int×Int×Int×γ×Bool×Bool×Int×Int)=>
             match g with
             |(data5,a5,b5,limit5,cmp5,wasBalanced4,wasPartitioned4,length3,pivot2)=>
             (bif(decide ((0:Int)<a5))then
              (if fits (a5-1)then(if 0<=(a5-1)/\(a5-1)<(data5.length:Int)then
                (oB (data5[(a5-1).toNat]?) fun e=>
                 (if 0<=pivot2/\pivot2<(data5.length:Int)then
                  (oB (data5[pivot2.toNat]?) fun e2=>
                   (oB (c cmp5 e e2) fun r7=>
                    (bif(!(decide (r7<0)))then
                     (oB (pe data5 a5 b5 pivot2 cmp5) fun r8=>
                      (go (r8.2,r8.1,b5,limit5,cmp5,wasBalanced4,wasPartitioned4)))
                     else
                     (oB (partG c N data5 a5 b5 pivot2 cmp5) fun r9=>
                      (if fits (r9.1-a5)then(if fits (b5-r9.1)then(if 8≠0 then
                         (if fits (length3.tdiv 8)then(bif(decide ((r9.1-a5)<(b5-r9.1)))then
                           (oB (pdqG hs pe N D r9.2.2 a5 r9.1 limit5 cmp5) fun r10=>
                            (if fits (r9.1+1)then(go (r10,(r9.1+1),b5,limit5,cmp5,(decide ((length3.tdiv 8)<=(r9.1-a5))),r9.2.1))else none))
                           else
                           (if fits (r9.1+1)then(oB (pdqG hs pe N D r9.2.2 (r9.1+1) b5 limit5 cmp5) fun r11=>
                             (go (r11,a5,r9.1,limit5,cmp5,(decide ((length3.tdiv 8)<=(b5-r9.1))),r9.2.1)))else none))else none)
                         else none)else none)else none)))))
                  else none))
                else none)else none)
              else
              (oB (partG c N data5 a5 b5 pivot2 cmp5) fun r12=>
               (if fits (r12.1-a5)then(if fits (b5-r12.1)then(if 8≠0 then
                  (if fits (length3.tdiv 8)then(bif(decide ((r12.1-a5)<(b5-r12.1)))then
                    (oB (pdqG hs pe N D r12.2.2 a5 r12.1 limit5 cmp5) fun r13=>
                     (if fits (r12.1+1)then(go (r13,(r12.1+1),b5,limit5,cmp5,(decide ((length3.tdiv 8)<=(r12.1-a5))),r12.2.1))else none))
                    else
                    (if fits (r12.1+1)then(oB (pdqG hs pe N D r12.2.2 (r12.1+1) b5 limit5 cmp5) fun r14=>
                      (go (r14,a5,r12.1,limit5,cmp5,(decide ((length3.tdiv 8)<=(b5-r12.1))),r12.2.1)))else none))else none)
                  else none)else none)else none)))) fun J3=>
            (bif wasBalanced3 then
             (bif wasPartitioned3 then
              (bif(decide (hint=1))then
               (oB (pisG c N data4 a4 b4 cmp4) fun r6=>
                (bif r6.1 then
                 (some r6.2)
                 else
                 (J3 (r6.2,a4,b4,limit4,cmp4,wasBalanced3,wasPartitioned3,length2,pivot))))
               else
               (J3 (data4,a4,b4,limit4,cmp4,wasBalanced3,wasPartitioned3,length2,pivot)))
              else
              (J3 (data4,a4,b4,limit4,cmp4,wasBalanced3,wasPartitioned3,length2,pivot)))
             else
             (J3 (data4,a4,b4,limit4,cmp4,wasBalanced3,wasPartitioned3,length2,pivot))))) fun J2=>
          (bif(decide (r4.2.1=2))then
           (oB (reverseRangeG N r4.2.2 a3 b3 cmp3) fun r5=>
            (if fits (b3-1)then(if fits (r4.1-a3)then(if fits ((b3-1)-(r4.1-a3))then(J2 (r5,a3,b3,limit3,cmp3,wasBalanced2,wasPartitioned2,length,((b3-1)-(r4.1-a3)),1))else none)else none)else none))
           else
           (J2 (r4.2.2,a3,b3,limit3,cmp3,wasBalanced2,wasPartitioned2,length,r4.1,r4.2.1)))))) fun J=>
       (bif(!wasBalanced)then
        (oB (breakG N data2 a2 b2 cmp2) fun r3=>
         (if fits (limit2-1)then(J (r3,a2,b2,(limit2-1),cmp2,wasBalanced,wasPartitioned,(b2-a2)))else none))
        else
        (J (data2,a2,b2,limit2,cmp2,wasBalanced,wasPartitioned,(b2-a2)))))))else none)) N (data,a,b,limit,cmp,true,true))
end
def cmp105 (N:Nat):(Unit)->Z1->Z1->Option Int:=(fun(cmp:Unit) (e e2:Z2×Z2×Z14)=>je N e.1 e.2.1 e.2.2 e2.1 e2.2.1 e2.2.2)
def jny :Sh:=⟨.mtk 800000 Y7 131 false::pI::pI:: .clo 93 []::dz 4 (pI::dz 44 []),[]⟩
def jll :Sh:=⟨.mtk 800000 Y7 131 false::pI::pI:: .clo 93 []::dz 4 (pI::pI::dz 43 []),[]⟩
def jeC (d:List Z1) (b:Int) (a:Int) (c:Unit):Option ((List Z1)):=insG (cmp105 N) N d b a c
 
theorem jqw :mK 211 (bX [.mtk 800000 Y7 131 false,pI,pI,.clo 93 []] [.tup [],.mtk 800000 Y7 131 false] (c4A (jeC N))):=
 mO (fC (jaf N) ja) func211 rfl N (.seq .no (.block (.loop jny (.seq .no (.seq (.block (.seq .no (.block (.loop jll .no)))) .no))))) _ (rs:=[800000])
def jnV :Sh:=⟨.mtk 800000 Y7 131 false:: .dead::pI::pI:: .clo 93 []::dz 5 (pI::dz 71 []),[]⟩
def jmo :Sh:=⟨.mtk 800000 Y7 131 false:: .dead::pI::pI:: .clo 93 []::dz 5 (pI::pI::dz 70 []),[]⟩
def jdy (e:List Z1) (d:Int) (b:Int) (c:Int) (a:Unit):Option ((List Z1)):=siftG (cmp105 N) N e d b c a
 
theorem jqE :mK 269 (bX [.mtk 800000 Y7 131 false,pI,pI,pI,.clo 93 []] [.tup [],.mtk 800000 Y7 131 false] (c5A (jdy N))):=
 mO (fC (jaf N) ja) func269 rfl N (.seq .no (.block (.loop jnV (.block (.seq .no (.seq .no (.meet jmo .no .no))))))) _ (rs:=[800000])
def jmY :Sh:=⟨.mtk 800000 Y7 131 false:: .dead:: .dead:: .clo 93 []::dz 4 (pI::pI::pI::pI::dz 48 []),[]⟩
def jq3 :Sh:=⟨.mtk 800000 Y7 131 false:: .dead:: .dead:: .clo 93 []::dz 4 (pI::pI:: .dead:: .dead::pI::dz 47 []),[]⟩
def jaC (d:List Z1) (b:Int) (a:Int) (c:Unit):Option ((List Z1)):=heapG (cmp105 N) N d b a c
 
theorem jqz :mK 212 (bX [.mtk 800000 Y7 131 false,pI,pI,.clo 93 []] [.tup [],.mtk 800000 Y7 131 false] (c4A (jaC N))):=
 mO (fC (jqE N) ja) func212 rfl N (.seq .no (.seq .no (.seq .no (.seq (.seq .no (.block (.loop jmY .no))) (.seq .no (.block (.loop jq3 .no))))))) _ (rs:=[800000])
def jkH :Sh:=⟨.mtk 800000 Y7 131 false::pI::dz 6 (pI:: .box 9 0:: .pv (.int .u64)::pI::dz 55 []),[(9,false,[.pv (.int .u64)])]⟩
def jmx :Sh:=⟨.mtk 800000 Y7 131 false::pI::dz 6 (pI:: .box 9 0:: .pv (.int .u64)::pI::pI::dz 54 []),[(9,false,[.pv (.int .u64)])]⟩
def jez (d:List Z1) (b:Int) (a:Int) (c:Unit):Option ((List Z1)):=breakG N d b a c
 
theorem jlO :mK 213 (bX [.mtk 800000 Y7 131 false,pI,pI,.clo 93 []] [.tup [],.mtk 800000 Y7 131 false] (c4A (jez N))):=
 mO (fC (jhv N) (fC (jet N) ja)) func213 rfl N (.seq .no (.seq .no (.cond (.seq .no (.seq .no (.seq .no (.block (.loop jkH (.seq .no (.seq (.block (.seq .no (.meet jmx .no .no))) .no))))))) .no))) _ (rs:=[800000])
def jcG (e:List Z1) (d:Int) (b:Int) (a:Unit) (c:Int):Option (Int×Int×(List Z1)×Int):=order2G (cmp105 N) N e d b a c
 
theorem jrN :mK 303 ⟨⟨[.mtk 800000 Y7 131 false,pI,pI,.box 900003 0,.clo 93 []],[(900003,false,[pI])]⟩,⟨[.tup [pI,pI],.mtk 800000 Y7 131 false],[(900003,false,[pI])]⟩,c5A (jcG N)⟩:=
 mO (fC (jaf N) ja) func303 rfl N .no _ (rs:=[900003,800000])
def jdE (f:List Z1) (e:Int) (c:Int) (a:Int) (b:Unit) (d:Int):Option (Int×(List Z1)×Int):=medianG (cmp105 N) N f e c a b d
 
theorem jfr :mK 273 ⟨⟨[.mtk 800000 Y7 131 false,pI,pI,pI,.box 900004 0,.clo 93 []],[(900004,false,[pI])]⟩,⟨[pI,.mtk 800000 Y7 131 false],[(900004,false,[pI])]⟩,c6A (jdE N)⟩:=
 mO (fC (jrN N) ja) func273 rfl N .no _ (rs:=[900004,800000])
def jca (d:List Z1) (b:Int) (c:Unit) (a:Int):Option (Int×(List Z1)×Int):=medianAdjacentG (cmp105 N) N d b c a
 
theorem jko :mK 272 ⟨⟨[.mtk 800000 Y7 131 false,pI,.box 900002 0,.clo 93 []],[(900002,false,[pI])]⟩,⟨[pI,.mtk 800000 Y7 131 false],[(900002,false,[pI])]⟩,c4A (jca N)⟩:=
 mO (fC (jfr N) ja) func272 rfl N .no _ (rs:=[900002,800000])
def jnR :Sh:=⟨.mtk 800000 Y7 131 false:: .dead:: .dead:: .clo 93 []::dz 7 (.box 11 0::pI::pI::pI::dz 48 []),[(11,false,[pI])]⟩
def jrt :Sh:=⟨.mtk 800000 Y7 131 false::dz 10 (.box 11 0:: .dead::pI::dz 49 []),[(11,false,[pI])]⟩
def jjM (d:List Z1) (b:Int) (a:Int) (c:Unit):Option (Int×Int×(List Z1)):=choosePivotG (cmp105 N) N d b a c
 
theorem joO :mK 214 (bX [.mtk 800000 Y7 131 false,pI,pI,.clo 93 []] [.tup [pI,pI],.mtk 800000 Y7 131 false] (c4A (jjM N))):=
 mO (fC (jko N) (fC (jfr N) ja)) func214 rfl N (.seq .no (.seq .no (.seq .no (.seq .no (.seq .no (.seq .no (.meet jrt (.seq .no (.cond (.meet jnR .no .no) .no)) .no))))))) _ (rs:=[800000])
def jpl :Sh:=⟨.mtk 800000 Y7 131 false::dz 7 (pI::pI::dz 24 []),[]⟩
def jeV (d:List Z1) (b:Int) (a:Int) (c:Unit):Option ((List Z1)):=reverseRangeG N d b a c
 
theorem jma :mK 215 (bX [.mtk 800000 Y7 131 false,pI,pI,.clo 93 []] [.tup [],.mtk 800000 Y7 131 false] (c4A (jeV N))):=
 mO ja func215 rfl N (.seq .no (.seq .no (.block (.loop jpl .no)))) _ (rs:=[800000])
def jn3 :Sh:=⟨.mtk 800000 Y7 131 false::pI::pI:: .clo 93 []::dz 5 (pI::pI::dz 130 []),[]⟩
def jsj :Sh:=⟨.mtk 800000 Y7 131 false::pI::pI:: .clo 93 []::dz 5 (pI::pI::pI::dz 129 []),[]⟩
def jnQ :Sh:=⟨.mtk 800000 Y7 131 false::pI::pI:: .clo 93 []::dz 5 (pI::pI:: .dead::pI::dz 128 []),[]⟩
def jhb (d:List Z1) (b:Int) (a:Int) (c:Unit):Option (Bool×(List Z1)):=pisG (cmp105 N) N d b a c
 
theorem jnw :mK 216 (bX [.mtk 800000 Y7 131 false,pI,pI,.clo 93 []] [pB,.mtk 800000 Y7 131 false] (c4A (jhb N))):=
 mO (fC (jaf N) ja) func216 rfl N (.seq .no (.seq .no (.seq (.seq .no (.block (.loop jn3 (.seq .no (.seq (.block (.seq (.block (.loop jn3 .no)) (.seq .no (.seq .no (.seq .no (.meet jn3 (.seq .no (.cond (.seq .no (.block (.loop jsj .no))) .no)) (.seq .no (.cond (.seq .no (.block (.loop jnQ .no))) .no)))))))) .no))))) .no))) _ (rs:=[800000])
def jnv :Sh:=⟨.mtk 800000 Y7 131 false::pI:: .dead:: .dead:: .clo 93 []::dz 6 (pI::pI::dz 77 []),[]⟩
def jbG (e:List Z1) (c:Int) (b:Int) (a:Int) (d:Unit):Option (Int×(List Z1)):=peqG (cmp105 N) N e c b a d
 
theorem jp1 :mK 217 (bX [.mtk 800000 Y7 131 false,pI,pI,pI,.clo 93 []] [pI,.mtk 800000 Y7 131 false] (c5A (jbG N))):=
 mO (fC (jaf N) ja) func217 rfl N (.seq .no (.seq .no (.seq .no (.seq (.block (.loop jnv (.block (.seq (.block (.loop jnv .no)) (.seq (.block (.loop jnv .no)) .no))))) .no)))) _ (rs:=[800000])
def jru :Sh:=⟨.mtk 800000 Y7 131 false::pI:: .dead:: .dead:: .clo 93 []::dz 7 (pI::pI::dz 164 []),[]⟩
def jcT (e:List Z1) (c:Int) (b:Int) (a:Int) (d:Unit):Option (Int×Bool×(List Z1)):=partG (cmp105 N) N e c b a d
 
theorem jrO :mK 218 (bX [.mtk 800000 Y7 131 false,pI,pI,pI,.clo 93 []] [.tup [pI,pB],.mtk 800000 Y7 131 false] (c5A (jcT N))):=
 mO (fC (jaf N) ja) func218 rfl N (.seq .no (.seq .no (.seq .no (.seq (.block (.loop jru .no)) (.seq (.block (.loop jru .no)) (.seq .no (.seq .no (.seq .no (.seq .no (.seq (.block (.loop jru (.block (.seq (.block (.loop jru .no)) (.seq (.block (.loop jru .no)) .no))))) .no)))))))))) _ (rs:=[800000])
def jmM :Sh:=⟨.mtk 800000 Y7 131 false::pI::pI::pI:: .clo 93 []::dz 5 (pB::pB::dz 136 []),[]⟩
def jnd :Sh:=⟨.mtk 800000 Y7 131 false::pI::pI::pI:: .clo 93 []::dz 5 (pB::pB::pI::pI::dz 134 []),[]⟩
def jmi :Sh:=⟨.mtk 800000 Y7 131 false::pI::pI::pI:: .clo 93 []::dz 5 (pB::pB::pI::pI::pI::dz 133 []),[]⟩
def js7 :Sh:=⟨.mtk 800000 Y7 131 false::pI::pI::pI:: .clo 93 []::dz 5 (pB::pB::pI::dz 135 []),[]⟩
def jK (N D:Nat) (f:List Z1) (b a limit:Int) (h:Unit):Option ((List Z1)):=pdqG (cmp105 N) (fun c b a d=>heapG (cmp105 N) N c b a d) (fun c b a e d=>peqG (cmp105 N) N c b a e d) N D f b a limit h
 
def jcj (N D:Nat):Model:=⟨⟨[.mtk 800000 Y7 131 false,pI,pI,pI,.clo 93 []],[]⟩,⟨[.tup [],.mtk 800000 Y7 131 false],[]⟩,c5A (jK N D)⟩
theorem jrm (N D:Nat) (ih:mK 160 (jcj N D)):mK 160 (jcj N (D+1)):=
 mO (fC ih (fC (jqw N) (fC (jqz N) (fC (jlO N) (fC (joO N) (fC (jma N) (fC (jnw N) (fC (jaf N) (fC (jp1 N) (fC (jrO N) ja)))))))))) func160 rfl N (.seq .no (.seq .no (.block (.loop jmM (.block (.seq .no (.seq .no (.seq .no (.meet js7 .no (.seq .no (.meet jmi .no (.meet jnd .no .no)))))))))))) (jcj N (D+1)) (rs:=[800000])
theorem jix (N:Nat):∀D,mK 160 (jcj N D)
 |0=>modelOk_none ⟨_,func160,by decide,by kernel_rfl⟩ _ (fun a=>rfl)
 |D+1=>jrm N D (jix N D)
def k_slices_SortFunc_105_m (a:List Z1) (d:Unit):Option ((List Z1)):=
 (oB (k_math_bits_Len_m N (IntKind.u64.wrap (a.length:Int))) fun c=>oB (jK N N a 0 (a.length:Int) c ()) fun b=>some b)
theorem jtu :mK 92 (bX [.mtk 800000 Y7 131 false,.clo 93 []] [.tup [],.mtk 800000 Y7 131 false] (c2A (k_slices_SortFunc_105_m N))):=
 mO (fC (jda N) (fC (jix N N) ja)) func92 rfl N .no _ (rs:=[800000])
def jmK :Sh:=⟨.dead:: .dead:: .box 2 0:: .dead:: .box 4 0:: .box 5 0::dz 19 (.pv Y4::pI::pI::dz 32 []),[(2,false,[.pv (.sl .str),.pv Y17]),(4,false,[.nils,.nils]),(5,false,[.pv Y4,.tre 700501 Y7 131])]⟩
def jor :Sh:=⟨.dead:: .dead:: .box 2 0:: .dead:: .box 4 0:: .box 5 0:: .dead:: .box 7 0::dz 17 (.pv Y4::pI::pI::dz 4 (.pv Y20::pI::pI::dz 25 [])),[(2,false,[.pv (.sl .str),.pv Y17]),(4,false,[.nils,.nils]),(5,false,[.pv Y4,.tre 700501 Y7 131]),(7,false,[pI,.pv Y20,.pv Y16])]⟩
def jnj :Sh:=⟨.dead:: .dead:: .box 2 0:: .dead:: .box 4 0:: .box 5 0:: .dead:: .box 7 0:: .dead:: .box 9 0::dz 15 (.pv Y4::pI::pI::dz 4 (.pv Y20::pI::pI::dz 6 (.own 600041 Y18 126 true::pI::pI::dz 16 []))),[(2,false,[.pv (.sl .str),.pv Y17]),(4,false,[.nils,.nils]),(5,false,[.pv Y4,.tre 700501 Y7 131]),(7,false,[pI,.pv Y20,.pv Y16]),(9,false,[pS,pS])]⟩
def i_SegOf_m (c:List Z2) (c2:List Z4) (docs:List Z0):Option ((List Z0)×(List Z1)):=
 (oB (jaj N c c2) fun r=>bif !r then some (([]:List Z0),([]:List Z1))else oB (jbf N docs) fun r2=>bif !r2 then some (([]:List Z0),([]:List Z1))else oB (jbV N docs) fun r3=>iter (fun go (t25,t26,t27,c3,c4,s,s2)=>bif decide (t27<t26)then oB (idx t25 t27) fun e=>(iter (fun go2 (t252,t262,t272,t32,t33,t34,c5,c6,s3,s4,d,d2,d3)=>bif decide (t34<t33)then oB (idx t32 t34) fun e2=>(oB (jbw N c5 c6 e2.2) fun r4=>iter (fun go3 (t253,t263,t273,t322,t332,t342,t41,t42,t43,c7,c8,s5,s6,d4,d5,d6,f,f2)=>bif decide (t43<t42)then oB (idx t41 t43) fun e3=>(oB (i_Seg_put_m N f e3.1 e3.2 d4 s5 s6) fun r5=>if fits (t43+1)then go3 (t253,t263,t273,t322,t332,t342,t41,t42,(t43+1),c7,c8,r5.1,r5.2,d4,d5,d6,f,f2)else none)else if fits (t342+1)then go2 (t253,t263,t273,t322,t332,(t342+1),c7,c8,s5,s6,d4,d5,d6)else none) N (t252,t262,t272,t32,t33,t34,r4,(r4.length:Int),(0:Int),c5,c6,s3,s4,d,d2,d3,e2.1,e2.2))else if fits (t272+1)then go (t252,t262,(t272+1),c5,c6,s3,s4)else none) N (t25,t26,t27,e.2.1,(e.2.1.length:Int),(0:Int),c3,c4,s,s2,e.1,e.2.1,e.2.2))else oB (k_slices_SortFunc_105_m N s2 ()) fun r6=>some (s,r6)) N (docs,(docs.length:Int),(0:Int),c,c2,r3,([]:List Z1)))
theorem jqC :mK 32 (bX [.agg [.pv (.sl .str),.pv Y17],.pv Y4] [.agg [.pv Y4,.own 1 Y7 131 false]] (c3A (i_SegOf_m N))):=
 mO (fC (jdX N) (fC (jjU N) (fC (joC N) (fC (jgO N) (fC (jky N) (fC (jtu N) ja)))))) func32 rfl N (.seq .no (.seq .no (.seq .no (.seq (.seq .no (.block (.loop jmK (.seq .no (.seq .no (.seq (.block (.seq .no (.seq .no (.block (.loop jor (.seq .no (.seq .no (.seq (.block (.seq .no (.seq .no (.block (.loop jnj .no))))) .no)))))))) .no)))))) .no)))) _ (wr:=[23]) (dw:=[23,57])
def jtB :Sh:=⟨.pv Y22:: .pv Y22::dz 10 (pI::pI::dz 12 []),[]⟩
def jbX (b:List Int) (d:List Int):Z9:=
 (bif !decide ((b.length:Int)=(d.length:Int))then some false else iter (fun i (f,c,e,a)=>bif decide (a<e)then oB (idx f a) fun h=>(oB (idx c a) fun j=>bif !decide (h=j)then some false else if fits (a+1)then i (f,c,e,(a+1))else none)else some true) N (b,d,(b.length:Int),(0:Int)))
theorem jqi :mK 222 (bX [.pv Y22,.pv Y22] [pB] (c2A (jbX N))):=
 mO ja func222 rfl N (.seq .no (.seq .no (.seq (.seq .no (.block (.loop jtB .no))) .no))) _
def jcp (d:Int) (a:List Int) (b:Int) (c:List Int):Z9:=
 (bif decide (d=b)then oB (jbX N a c) fun e=>(some e)else some false)
theorem jth :mK 166 (bX [.agg [pI,.pv Y22],.agg [pI,.pv Y22]] [pB] (c4A (jcp N))):=
 mO (fC (jqi N) ja) func166 rfl N .no _
def jlX :Sh:=⟨.dead:: .pv Y13:: .clo 166 []::dz 12 (.pv Y13::pI::pI::dz 14 []),[]⟩
def jb6 (b:Z5) (e:Z5) (n:Unit):Z9:=
 (bif !decide ((b.length:Int)=(e.length:Int))then some false else iter (fun k (c,m,i,d,a)=>bif decide (a<d)then oB (idx i a) fun f=>(oB (idx c a) fun h=>oB (jcp N f.1 f.2 h.1 h.2) fun j=>bif !j then some false else if fits (a+1)then k (c,(),i,d,(a+1))else none)else some true) N (e,(),b,(b.length:Int),(0:Int)))
theorem jnG :mK 165 (bX [.pv Y13,.pv Y13,.clo 166 []] [pB] (c3A (jb6 N))):=
 mO (fC (jth N) ja) func165 rfl N (.seq .no (.seq .no (.seq (.seq .no (.block (.loop jlX .no))) .no))) _
def jcz (f:List UInt8) (a:List UInt8) (e:Z5) (b:List UInt8) (c:List UInt8) (h:Z5):Z9:=
 (bif decide (f=b)then bif decide (a=c)then oB (jb6 N e h ()) fun d=>(some d)else(some false)else some false)
theorem jp4 :mK 102 (bX [.agg [pS,pS,.pv Y13],.agg [pS,pS,.pv Y13]] [pB] (c6A (jcz N))):=
 mO (fC (jnG N) ja) func102 rfl N .no _
def jlD :Sh:=⟨.dead:: .pv Y6:: .clo 102 []::dz 12 (.pv Y6::pI::pI::dz 14 []),[]⟩
def jcn (b:List Z1) (h:List Z1) (n:Unit):Z9:=
 (bif !decide ((b.length:Int)=(h.length:Int))then some false else iter (fun k (e,m,i,f,a)=>bif decide (a<f)then oB (idx i a) fun c=>(oB (idx e a) fun d=>oB (jcz N c.1 c.2.1 c.2.2 d.1 d.2.1 d.2.2) fun j=>bif !j then some false else if fits (a+1)then k (e,(),i,f,(a+1))else none)else some true) N (h,(),b,(b.length:Int),(0:Int)))
theorem jsa :mK 101 (bX [.pv Y6,.pv Y6,.clo 102 []] [pB] (c3A (jcn N))):=
 mO (fC (jp4 N) ja) func101 rfl N (.seq .no (.seq .no (.seq (.seq .no (.block (.loop jlD .no))) .no))) _
def i_SegOk_m (a:List Z2) (c:List Z4) (b:List Z0) (e:List Z1):Z9:=
 (oB (jaj N a c) fun f=>bif !f then some false else oB (jbf N b) fun d=>bif !d then some false else oB (i_SegOf_m N a c b) fun h=>oB (jcn N h.2 e ()) fun i=>some i)
theorem joa :mK 40 (bX [.agg [.pv (.sl .str),.pv Y17],.agg [.pv Y4,.pv Y6]] [pB] (c4A (i_SegOk_m N))):=
 mO (fC (jdX N) (fC (jjU N) (fC (jqC N) (fC (jsa N) ja)))) func40 rfl N .no _
def jDT :Sh:=⟨.pv Y22::dz 4 (.pv Y22::pI::pI::dz 24 []),[]⟩
def jx1 (d:List Int):Z9:=
 (iter (fun f (b,c,e,a)=>bif decide (a<e)then oB (idx c a) fun h=>(oB (jm N h 0 999999999) fun i=>bif !i then some false else bif decide ((0:Int)<a)then if fits (a-1)then oB (idx b (a-1)) fun j=>(bif decide (h<=j)then some false else if fits (a+1)then f (b,c,e,(a+1))else none)else none else if fits (a+1)then f (b,c,e,(a+1))else none)else some (decide ((b.length:Int)<=60))) N (d,d,(d.length:Int),(0:Int)))
theorem jAN :mK 104 (bX [.pv Y22] [pB] (c1A (jx1 N))):=
 mO (fC (jY N) ja) func104 rfl N (.seq .no (.seq (.seq .no (.block (.loop jDT .no))) .no)) _
def jqv :Sh:=⟨.dead::pI:: .dead:: .dead:: .box 4 0::dz 6 (.pv Y4::pI::pI::dz 10 []),[(4,false,[pI,.nils,.nils])]⟩
def i_Seg_doc_m (f:(List Z0)×(List Z1)) (h:Int):Option (Int×Z12×Z8×Bool):=
 (iter (fun j (c,d,e,b,i)=>bif decide (b<e)then oB (idx d b) fun a=>(bif decide (a.1=c)then some (a.1,a.2.1,a.2.2,true)else if fits (b+1)then j (c,d,e,(b+1),i)else none)else some (0,([]:Z15),([]:Z10),false)) N (h,f.1,(f.1.length:Int),(0:Int),(0:Int)))
theorem jlU :mK 136 (bX [.ptr Y3,pI] [.tup [.agg [pI,.pv Y20,.pv Y16],pB]] (c2A (i_Seg_doc_m N))):=
 mO ja func136 rfl N (.seq .no (.seq (.seq .no (.block (.loop jqv .no))) .no)) _
def jIP :Sh:=⟨.pv Y22::pI::dz 5 (pI::pI::dz 10 []),[]⟩
def jHJ (e:List Int) (f:Int):Z17:=
 (iter (fun i (c,d,b,a)=>bif decide (a<b)then oB (idx c a) fun h=>(bif decide (d=h)then some a else if fits (a+1)then i (c,d,b,(a+1))else none)else some (-1)) N (e,f,(e.length:Int),(0:Int)))
theorem jJu :mK 168 (bX [.pv Y22,pI] [pI] (c2A (jHJ N))):=
 mO ja func168 rfl N (.seq .no (.seq (.seq .no (.block (.loop jIP .no))) .no)) _
def jHG (a:List Int) (b:Int):Z9:=
 (oB (jHJ N a b) fun c=>some (decide ((0:Int)<=c)))
theorem jIT :mK 105 (bX [.pv Y22,pI] [pB] (c2A (jHG N))):=
 mO (fC (jJu N) ja) func105 rfl N .no _
def jIi :Sh:=⟨.dead:: .box 1 0:: .dead:: .own 600003 Y5 51 false::dz 5 (.pv Y4::pI::pI::dz 15 []),[(1,false,[.pv Y4,.pv Y6,.pv Y22])]⟩
def jHE (d:List Z0) (m:List Z1) (l:List Int):Z22:=
 (iter (fun i (b,f,c,a,k,j,h)=>bif decide (a<c)then oB (idx f a) fun e=>(oB (jHG N h e.1) fun n=>bif !n then if room b.length ([e]:List Z0).length 56 then if fits (a+1)then i ((b++([e]:List Z0)),f,c,(a+1),k,j,h)else none else none else if fits (a+1)then i (b,f,c,(a+1),k,j,h)else none)else some b) N (([]:List Z0),d,(d.length:Int),(0:Int),d,m,l))
theorem jH4 :mK 117 (bX [.agg [.pv Y4,.pv Y6,.pv Y22]] [.own 1 Y5 51 false] (c3A (jHE N))):=
 mO (fC (jIT N) ja) func117 rfl N (.seq .no (.seq .no (.seq (.seq .no (.block (.loop jIi .no))) .no))) _
def jIO :Sh:=⟨dz 3 (.box 3 0::dz 17 (.pv Y22::pI::pI::dz 16 [])),[(3,true,[.pv Y4,.pv Y6,.pv Y22])]⟩
def jHI (q:List Z2) (r:List Z4) (h:List Z0) (f:List Z1) (b:List Int):Z9:=
 (oB (i_SegOk_m N q r h f) fun o=>bif !o then some false else oB (jx1 N b) fun k=>bif !k then some false else iter (fun p (i,j,a,c,d,e)=>bif decide (a<j)then oB (idx i a) fun m=>(oB (i_Seg_doc_m N (c,d) m) fun n=>bif !n.2.2.2 then some false else if fits (a+1)then p (i,j,(a+1),c,d,e)else none)else oB (jHE N c d e) fun t=>some (decide ((0:Int)<t.length))) N (b,(b.length:Int),(0:Int),h,f,b))
theorem jJD :mK 74 (bX [.agg [.pv (.sl .str),.pv Y17],.agg [.pv Y4,.pv Y6,.pv Y22]] [pB] (c5A (jHI N))):=
 mO (fC (joa N) (fC (jAN N) (fC (jlU N) (fC (jH4 N) ja)))) func74 rfl N (.seq .no (.seq .no (.seq (.seq .no (.block (.loop jIO .no))) .no))) _
def k_cmp_isNaN_538_m (N:Nat) (a:Int):Z9:=
 (some (!decide (a=a)))
theorem joK :mK 174 (bX [pI] [pB] (c1A (k_cmp_isNaN_538_m N))):=
 mO ja func174 rfl N .no _
def jxY (b:Int) (a:Int):Z17:=
 (oB (k_cmp_isNaN_538_m N b) fun d=>oB (k_cmp_isNaN_538_m N a) fun c=>bif d then bif c then some 0 else(some (-1))else bif c then some 1 else bif decide (b<a)then some (-1)else bif decide (a<b)then some 1 else some 0)
theorem jpP :mK 113 (bX [pI,pI] [pI] (c2A (jxY N))):=
 mO (fC (joK N) ja) func113 rfl N .no _
def i_allAlive_1_m (c:Int) (d:Z15) (f:Z10) (a:Int) (e:Z15) (h:Z10):Z17:=
 (oB (jxY N c a) fun b=>some b)
theorem jHC :mK 131 (bX [.agg [pI,.pv Y20,.pv Y16],.agg [pI,.pv Y20,.pv Y16]] [pI] (c6A (i_allAlive_1_m N))):=
 mO (fC (jpP N) ja) func131 rfl N .no _
def cmp669 (N:Nat):(Unit)->Z0->Z0->Option Int:=(fun(cmp:Unit) (e e2:Int×Z12×Z8)=>i_allAlive_1_m N e.1 e.2.1 e.2.2 e2.1 e2.2.1 e2.2.2)
def jIw :Sh:=⟨.mtk 800000 Y5 51 false::pI::pI:: .clo 131 []::dz 4 (pI::dz 44 []),[]⟩
def jJn :Sh:=⟨.mtk 800000 Y5 51 false::pI::pI:: .clo 131 []::dz 4 (pI::pI::dz 43 []),[]⟩
def jJk (d:List Z0) (b:Int) (a:Int) (c:Unit):Z22:=insG (cmp669 N) N d b a c
 
theorem jIC :mK 245 (bX [.mtk 800000 Y5 51 false,pI,pI,.clo 131 []] [.tup [],.mtk 800000 Y5 51 false] (c4A (jJk N))):=
 mO (fC (jHC N) ja) func245 rfl N (.seq .no (.block (.loop jIw (.seq .no (.seq (.block (.seq .no (.block (.loop jJn .no)))) .no))))) _ (rs:=[800000])
def jI7 :Sh:=⟨.mtk 800000 Y5 51 false:: .dead::pI::pI:: .clo 131 []::dz 5 (pI::dz 71 []),[]⟩
def jJE :Sh:=⟨.mtk 800000 Y5 51 false:: .dead::pI::pI:: .clo 131 []::dz 5 (pI::pI::dz 70 []),[]⟩
def jJr (e:List Z0) (d:Int) (b:Int) (c:Int) (a:Unit):Z22:=siftG (cmp669 N) N e d b c a
 
theorem jIA :mK 291 (bX [.mtk 800000 Y5 51 false,pI,pI,pI,.clo 131 []] [.tup [],.mtk 800000 Y5 51 false] (c5A (jJr N))):=
 mO (fC (jHC N) ja) func291 rfl N (.seq .no (.block (.loop jI7 (.block (.seq .no (.seq .no (.meet jJE .no .no))))))) _ (rs:=[800000])
def jH9 :Sh:=⟨.mtk 800000 Y5 51 false:: .dead:: .dead:: .clo 131 []::dz 4 (pI::pI::pI::pI::dz 48 []),[]⟩
def jIK :Sh:=⟨.mtk 800000 Y5 51 false:: .dead:: .dead:: .clo 131 []::dz 4 (pI::pI:: .dead:: .dead::pI::dz 47 []),[]⟩
def jIj (d:List Z0) (b:Int) (a:Int) (c:Unit):Z22:=heapG (cmp669 N) N d b a c
 
theorem jJa :mK 246 (bX [.mtk 800000 Y5 51 false,pI,pI,.clo 131 []] [.tup [],.mtk 800000 Y5 51 false] (c4A (jIj N))):=
 mO (fC (jIA N) ja) func246 rfl N (.seq .no (.seq .no (.seq .no (.seq (.seq .no (.block (.loop jH9 .no))) (.seq .no (.block (.loop jIK .no))))))) _ (rs:=[800000])
def jH6 :Sh:=⟨.mtk 800000 Y5 51 false::pI::dz 6 (pI:: .box 9 0:: .pv (.int .u64)::pI::dz 55 []),[(9,false,[.pv (.int .u64)])]⟩
def jJm :Sh:=⟨.mtk 800000 Y5 51 false::pI::dz 6 (pI:: .box 9 0:: .pv (.int .u64)::pI::pI::dz 54 []),[(9,false,[.pv (.int .u64)])]⟩
def jI4 (d:List Z0) (b:Int) (a:Int) (c:Unit):Z22:=breakG N d b a c
 
theorem jIs :mK 247 (bX [.mtk 800000 Y5 51 false,pI,pI,.clo 131 []] [.tup [],.mtk 800000 Y5 51 false] (c4A (jI4 N))):=
 mO (fC (jhv N) (fC (jet N) ja)) func247 rfl N (.seq .no (.seq .no (.cond (.seq .no (.seq .no (.seq .no (.block (.loop jH6 (.seq .no (.seq (.block (.seq .no (.meet jJm .no .no))) .no))))))) .no))) _ (rs:=[800000])
def jJC (e:List Z0) (d:Int) (b:Int) (a:Unit) (c:Int):Option (Int×Int×(List Z0)×Int):=order2G (cmp669 N) N e d b a c
 
theorem jIo :mK 309 ⟨⟨[.mtk 800000 Y5 51 false,pI,pI,.box 900003 0,.clo 131 []],[(900003,false,[pI])]⟩,⟨[.tup [pI,pI],.mtk 800000 Y5 51 false],[(900003,false,[pI])]⟩,c5A (jJC N)⟩:=
 mO (fC (jHC N) ja) func309 rfl N .no _ (rs:=[900003,800000])
def jII (f:List Z0) (e:Int) (c:Int) (a:Int) (b:Unit) (d:Int):Option (Int×(List Z0)×Int):=medianG (cmp669 N) N f e c a b d
 
theorem jHQ :mK 293 ⟨⟨[.mtk 800000 Y5 51 false,pI,pI,pI,.box 900004 0,.clo 131 []],[(900004,false,[pI])]⟩,⟨[pI,.mtk 800000 Y5 51 false],[(900004,false,[pI])]⟩,c6A (jII N)⟩:=
 mO (fC (jIo N) ja) func293 rfl N .no _ (rs:=[900004,800000])
def jIn (d:List Z0) (b:Int) (c:Unit) (a:Int):Option (Int×(List Z0)×Int):=medianAdjacentG (cmp669 N) N d b c a
 
theorem jI9 :mK 292 ⟨⟨[.mtk 800000 Y5 51 false,pI,.box 900002 0,.clo 131 []],[(900002,false,[pI])]⟩,⟨[pI,.mtk 800000 Y5 51 false],[(900002,false,[pI])]⟩,c4A (jIn N)⟩:=
 mO (fC (jHQ N) ja) func292 rfl N .no _ (rs:=[900002,800000])
def jJw :Sh:=⟨.mtk 800000 Y5 51 false:: .dead:: .dead:: .clo 131 []::dz 7 (.box 11 0::pI::pI::pI::dz 48 []),[(11,false,[pI])]⟩
def jI6 :Sh:=⟨.mtk 800000 Y5 51 false::dz 10 (.box 11 0:: .dead::pI::dz 49 []),[(11,false,[pI])]⟩
def jIq (d:List Z0) (b:Int) (a:Int) (c:Unit):Option (Int×Int×(List Z0)):=choosePivotG (cmp669 N) N d b a c
 
theorem jJz :mK 248 (bX [.mtk 800000 Y5 51 false,pI,pI,.clo 131 []] [.tup [pI,pI],.mtk 800000 Y5 51 false] (c4A (jIq N))):=
 mO (fC (jI9 N) (fC (jHQ N) ja)) func248 rfl N (.seq .no (.seq .no (.seq .no (.seq .no (.seq .no (.seq .no (.meet jI6 (.seq .no (.cond (.meet jJw .no .no) .no)) .no))))))) _ (rs:=[800000])
def jJB :Sh:=⟨.mtk 800000 Y5 51 false::dz 7 (pI::pI::dz 24 []),[]⟩
def jJs (d:List Z0) (b:Int) (a:Int) (c:Unit):Z22:=reverseRangeG N d b a c
 
theorem jIk :mK 249 (bX [.mtk 800000 Y5 51 false,pI,pI,.clo 131 []] [.tup [],.mtk 800000 Y5 51 false] (c4A (jJs N))):=
 mO ja func249 rfl N (.seq .no (.seq .no (.block (.loop jJB .no)))) _ (rs:=[800000])
def jHL :Sh:=⟨.mtk 800000 Y5 51 false::pI::pI:: .clo 131 []::dz 5 (pI::pI::dz 130 []),[]⟩
def jJh :Sh:=⟨.mtk 800000 Y5 51 false::pI::pI:: .clo 131 []::dz 5 (pI::pI::pI::dz 129 []),[]⟩
def jIF :Sh:=⟨.mtk 800000 Y5 51 false::pI::pI:: .clo 131 []::dz 5 (pI::pI:: .dead::pI::dz 128 []),[]⟩
def jIx (d:List Z0) (b:Int) (a:Int) (c:Unit):Option (Bool×(List Z0)):=pisG (cmp669 N) N d b a c
 
theorem jI1 :mK 250 (bX [.mtk 800000 Y5 51 false,pI,pI,.clo 131 []] [pB,.mtk 800000 Y5 51 false] (c4A (jIx N))):=
 mO (fC (jHC N) ja) func250 rfl N (.seq .no (.seq .no (.seq (.seq .no (.block (.loop jHL (.seq .no (.seq (.block (.seq (.block (.loop jHL .no)) (.seq .no (.seq .no (.seq .no (.meet jHL (.seq .no (.cond (.seq .no (.block (.loop jJh .no))) .no)) (.seq .no (.cond (.seq .no (.block (.loop jIF .no))) .no)))))))) .no))))) .no))) _ (rs:=[800000])
def jHK :Sh:=⟨.mtk 800000 Y5 51 false::pI:: .dead:: .dead:: .clo 131 []::dz 6 (pI::pI::dz 77 []),[]⟩
def jIh (e:List Z0) (c:Int) (b:Int) (a:Int) (d:Unit):Option (Int×(List Z0)):=peqG (cmp669 N) N e c b a d
 
theorem jH7 :mK 251 (bX [.mtk 800000 Y5 51 false,pI,pI,pI,.clo 131 []] [pI,.mtk 800000 Y5 51 false] (c5A (jIh N))):=
 mO (fC (jHC N) ja) func251 rfl N (.seq .no (.seq .no (.seq .no (.seq (.block (.loop jHK (.block (.seq (.block (.loop jHK .no)) (.seq (.block (.loop jHK .no)) .no))))) .no)))) _ (rs:=[800000])
def jHD :Sh:=⟨.mtk 800000 Y5 51 false::pI:: .dead:: .dead:: .clo 131 []::dz 7 (pI::pI::dz 164 []),[]⟩
def jIZ (e:List Z0) (c:Int) (b:Int) (a:Int) (d:Unit):Option (Int×Bool×(List Z0)):=partG (cmp669 N) N e c b a d
 
theorem jJc :mK 252 (bX [.mtk 800000 Y5 51 false,pI,pI,pI,.clo 131 []] [.tup [pI,pB],.mtk 800000 Y5 51 false] (c5A (jIZ N))):=
 mO (fC (jHC N) ja) func252 rfl N (.seq .no (.seq .no (.seq .no (.seq (.block (.loop jHD .no)) (.seq (.block (.loop jHD .no)) (.seq .no (.seq .no (.seq .no (.seq .no (.seq (.block (.loop jHD (.block (.seq (.block (.loop jHD .no)) (.seq (.block (.loop jHD .no)) .no))))) .no)))))))))) _ (rs:=[800000])
def jIv :Sh:=⟨.mtk 800000 Y5 51 false::pI::pI::pI:: .clo 131 []::dz 5 (pB::pB::dz 136 []),[]⟩
def jIt :Sh:=⟨.mtk 800000 Y5 51 false::pI::pI::pI:: .clo 131 []::dz 5 (pB::pB::pI::pI::dz 134 []),[]⟩
def jIU :Sh:=⟨.mtk 800000 Y5 51 false::pI::pI::pI:: .clo 131 []::dz 5 (pB::pB::pI::pI::pI::dz 133 []),[]⟩
def jID :Sh:=⟨.mtk 800000 Y5 51 false::pI::pI::pI:: .clo 131 []::dz 5 (pB::pB::pI::dz 135 []),[]⟩
def jHN (N D:Nat) (f:List Z0) (b a limit:Int) (h:Unit):Z22:=pdqG (cmp669 N) (fun c b a d=>heapG (cmp669 N) N c b a d) (fun c b a e d=>peqG (cmp669 N) N c b a e d) N D f b a limit h
 
def jHF (N D:Nat):Model:=⟨⟨[.mtk 800000 Y5 51 false,pI,pI,pI,.clo 131 []],[]⟩,⟨[.tup [],.mtk 800000 Y5 51 false],[]⟩,c5A (jHN N D)⟩
theorem jJo (N D:Nat) (ih:mK 185 (jHF N D)):mK 185 (jHF N (D+1)):=
 mO (fC ih (fC (jIC N) (fC (jJa N) (fC (jIs N) (fC (jJz N) (fC (jIk N) (fC (jI1 N) (fC (jHC N) (fC (jH7 N) (fC (jJc N) ja)))))))))) func185 rfl N (.seq .no (.seq .no (.block (.loop jIv (.block (.seq .no (.seq .no (.seq .no (.meet jID .no (.seq .no (.meet jIU .no (.meet jIt .no .no)))))))))))) (jHF N (D+1)) (rs:=[800000])
theorem jHV (N:Nat):∀D,mK 185 (jHF N D)
 |0=>modelOk_none ⟨_,func185,by decide,by kernel_rfl⟩ _ (fun a=>rfl)
 |D+1=>jJo N D (jHV N D)
def k_slices_SortFunc_669_m (a:List Z0) (d:Unit):Z22:=
 (oB (k_math_bits_Len_m N (IntKind.u64.wrap (a.length:Int))) fun c=>oB (jHN N N a 0 (a.length:Int) c ()) fun b=>some b)
theorem jIu :mK 130 (bX [.mtk 800000 Y5 51 false,.clo 131 []] [.tup [],.mtk 800000 Y5 51 false] (c2A (k_slices_SortFunc_669_m N))):=
 mO (fC (jda N) (fC (jHV N N) ja)) func130 rfl N .no _ (rs:=[800000])
def jH5 :Sh:=⟨dz 3 (.mtk 600003 Y5 51 false::dz 3 (.pv Y1::pI::pI::dz 11 [])),[]⟩
def i_allAlive_m (e:List Z3):Z22:=
 (iter (fun j (b,d,h,a)=>bif decide (a<h)then oB (idx d a) fun c=>(oB (jHE N c.1.1 c.1.2 c.2) fun f=>if room b.length f.length 56 then if fits (a+1)then j ((b++f),d,h,(a+1))else none else none)else oB (k_slices_SortFunc_669_m N b ()) fun i=>some i) N (([]:List Z0),e,(e.length:Int),(0:Int)))
theorem jHR :mK 66 (bX [.pv Y1] [.own 1 Y5 51 false] (c1A (i_allAlive_m N))):=
 mO (fC (jH4 N) (fC (jIu N) ja)) func66 rfl N (.seq .no (.seq .no (.seq (.seq .no (.block (.loop jH5 .no))) .no))) _ (wr:=[6,16])
def jIf :Sh:=⟨.dead:: .box 1 0::dz 14 (.pv Y1::pI::pI::dz 13 []),[(1,false,[.pv (.sl .str),.pv Y17,.pv Y1])]⟩
def i_IndexOk_m (h:List Z2) (d:List Z4) (a:List Z3):Z9:=
 (oB (jaj N h d) fun m=>bif !m then some false else bif decide ((5:Int)<a.length)then some false else iter (fun n (f,k,b,i,e,j)=>bif decide (b<k)then oB (idx f b) fun c=>(oB (jHI N i e c.1.1 c.1.2 c.2) fun l=>bif !l then some false else if fits (b+1)then n (f,k,(b+1),i,e,j)else none)else oB (i_allAlive_m N j) fun o=>oB (jbf N o) fun p=>some p) N (a,(a.length:Int),(0:Int),h,d,a))
theorem jIr :mK 19 (bX [.agg [.pv (.sl .str),.pv Y17,.pv Y1]] [pB] (c3A (i_IndexOk_m N))):=
 mO (fC (jdX N) (fC (jJD N) (fC (jHR N) (fC (jjU N) ja)))) func19 rfl N (.seq .no (.seq .no (.seq (.seq .no (.block (.loop jIf .no))) .no))) _
def jM7 :Sh:=⟨.dead:: .dead:: .box 2 0:: .box 3 0::dz 9 (.pv Y17::pI::pI::dz 17 []),[(2,false,[.nils,.nils]),(3,false,[.own 700300 .str 9 true,.own 700301 Y19 117 true])]⟩
def i_cloneConf_m (e:List Z2) (f:List Z4):Option ((List Z2)×(List Z4)):=
 (if room ([]:List Z2).length e.length 16 then iter (fun j (i,h,b,d,c)=>bif decide (b<h)then oB (idx i b) fun a=>(if room ([]:List Z2).length a.1.length 16 then if room c.length ([((([]:List Z2)++a.1),a.2)]:List Z4).length 40 then if fits (b+1)then j (i,h,(b+1),d,(c++([((([]:List Z2)++a.1),a.2)]:List Z4)))else none else none else none)else some (d,c)) N (f,(f.length:Int),(0:Int),(([]:List Z2)++e),([]:List Z4))else none)
theorem jLo :mK 75 (bX [.agg [.pv (.sl .str),.pv Y17]] [.agg [.own 1 .str 9 true,.own 2 Y19 117 true]] (c2A (i_cloneConf_m N))):=
 mO ja func75 rfl N (.seq .no (.seq .no (.seq (.seq .no (.block (.loop jM7 .no))) .no))) _
def jLd :Sh:=⟨.dead:: .dead:: .box 2 0:: .box 3 0::dz 18 (.pv Y6::pI::pI::dz 37 []),[(2,false,[.nils,.nils,.nils]),(3,false,[.own 700300 Y5 51 true,.own 700301 Y7 131 true,.own 700302 tI 3 true])]⟩
def jMw :Sh:=⟨.dead:: .dead:: .box 2 0:: .box 3 0:: .dead:: .box 5 0:: .own 600006 Y14 204 true::dz 15 (.pv Y6::pI::pI::dz 5 (.pv Y13::pI::pI::dz 29 [])),[(2,false,[.nils,.nils,.nils]),(3,false,[.own 700300 Y5 51 true,.own 700301 Y7 131 true,.own 700302 tI 3 true]),(5,false,[pS,pS,.pv Y13])]⟩
def i_cloneLive_m (z:List Z0) (m:List Z1) (p:List Int):Option ((List Z0)×(List Z1)×(List Int)):=
 (oB (jbV N z) fun B=>if room ([]:List Int).length p.length 8 then iter (fun C (y,q,i,v,n,r)=>bif decide (i<q)then oB (idx y i) fun a=>(iter (fun A (c,o,t,f,l,u,d,x,j,w,h,k,D)=>bif decide (d<u)then oB (idx l d) fun b=>(if room ([]:List Int).length b.2.length 8 then if room c.length ([(b.1,(([]:List Int)++b.2))]:Z5).length 32 then if fits (d+1)then A ((c++([(b.1,(([]:List Int)++b.2))]:Z5)),o,t,f,l,u,(d+1),x,j,w,h,k,D)else none else none else none)else if room j.length ([(h,k,c)]:List Z1).length 56 then if fits (f+1)then C (o,t,(f+1),x,(j++([(h,k,c)]:List Z1)),w)else none else none) N (([]:Z5),y,q,i,a.2.2,(a.2.2.length:Int),(0:Int),v,n,r,a.1,a.2.1,a.2.2))else some (v,n,r)) N (m,(m.length:Int),(0:Int),B,([]:List Z1),(([]:List Int)++p))else none)
theorem jLF :mK 116 (bX [.agg [.pv Y4,.pv Y6,.pv Y22]] [.agg [.own 1 Y5 51 true,.own 2 Y7 131 true,.own 3 tI 3 true]] (c3A (i_cloneLive_m N))):=
 mO (fC (joC N) ja) func116 rfl N (.seq .no (.seq .no (.seq (.seq .no (.block (.loop jLd (.seq .no (.seq .no (.seq (.block (.seq .no (.seq .no (.seq (.seq .no (.block (.loop jMw .no))) .no)))) .no)))))) .no))) _
end Go.Proofs.YtchgdmmcjgmfcaaGreatDoor
