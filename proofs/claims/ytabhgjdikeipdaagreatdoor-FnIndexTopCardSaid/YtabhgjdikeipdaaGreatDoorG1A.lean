import Derived.Test.YtabhgjdikeipdaaGreatDoorSJ
set_option linter.unusedVariables false
set_option linter.unusedSimpArgs false
namespace Go.Proofs.YtabhgjdikeipdaaGreatDoor
open Go.RowKit Go.Proofs.Tryz
variable (N : Nat)
open Option renaming bind -> oB
set_option maxRecDepth 1000000
abbrev Z0 :Type:=Int×(List ((List UInt8)×(List UInt8)))×(List ((List UInt8)×Int))
abbrev Z1 :Type:=(List UInt8)×(List UInt8)×(List (Int×(List Int)))
abbrev Z2 :Type:=List UInt8
abbrev Z3 :Type:=((List Z0)×(List Z1))×(List Int)
abbrev Z4 :Type:=(List Z2)×Z2
abbrev Z5 :Type:=List (Int×(List Int))
abbrev Z6 :Type:=List (Int×Int)
abbrev Z7 :Type:=List (Z2×Int)
abbrev Z8 :Type:=List (Z2×Int)
abbrev Z9 :Type:=Option (Bool)
abbrev Z10 :Type:=Z2×Int×Int×Int
abbrev Z11 :Type:=List (Int×Int)
abbrev Z12 :Type:=List (Z2×Z2)
abbrev Z13 :Type:=((List Z2)×(List Z4))×(List Z0)×(List Z1)
abbrev Z14 :Type:=List (Z2×Z2)
abbrev Z15 :Type:=Option (Int)
abbrev Z16 :Type:=List (Int×(List Int))
abbrev Z17 :Type:=List (List Int)
abbrev Z18 :Type:=Option ((List Z0))
abbrev Z19 :Type:=Option ((List Z2)×(List Z4)×(List Z3)×Bool)
abbrev Z20 :Type:=Z2×Z2×(List Int)×Int×Int×Int
abbrev Z21 :Type:=Int×Int×Z2×(List Z2)×Int×Int×(List DQ)×Bool×Int×Int×Int×Int×Bool×Int×Int
abbrev bX (a r:List VS) (f:HD (Sh.codes ⟨a,[]⟩)->Option (HD (Sh.codes ⟨r,[]⟩))):Model:=⟨⟨a,[]⟩,⟨r,[]⟩,f⟩
abbrev mK :=ModelOk Tryz.prog
theorem mO {l:List (Nat×Model)} (hl:jR Tryz.prog l) {f:FuncId} {fn:Func} {c:Code} (hf:Tryz.prog.funcs[f]? =some fn) (hbody:fn.body=some c) (N:Nat) (h:Hint) (m:Model) (wr rs dw:List Nat:=[])
  (hname:(fn.name== "runtime.NumGoroutine")=false:=by kernel_rfl) (hres:m.arg.names.all (jbC l wr rs dw).res=true:=by kernel_rfl) (hlen:Nat.ble m.arg.vals.length fn.ntmps=true:=by kernel_rfl)
  (hrun:∀a,m.run a=runF N (jbC l wr rs dw) okDraw fn c h m.arg m.ret a:=by intro a;kernel_rfl):ModelOk Tryz.prog f m:=modelOk_of (E:=jbC l wr rs dw) (jtQ hl wr rs dw) hf hname hbody N h m hres hlen hrun
theorem fC {k:Nat} {m:Model} {l:List (Nat×Model)} (h:ModelOk Tryz.prog k m) (hl:jR Tryz.prog l):jR Tryz.prog ((k,m)::l):=jsH h hl
abbrev pI :VS:=.pv (.int .i64)
abbrev pS :VS:=.pv .str
abbrev pB :VS:=.pv .bool
abbrev tI :Tp:=.int .i64
abbrev c1A {α ρ:Type} (f:α->ρ) (a:α):ρ:=f a
abbrev c2A {α0 α1 ρ:Type} (f:α0->α1->ρ) (a:α0×α1):ρ:=f a.1 a.2
abbrev c3A {α0 α1 α2 ρ:Type} (f:α0->α1->α2->ρ) (a:α0×α1×α2):ρ:=f a.1 a.2.1 a.2.2
abbrev c4A {α0 α1 α2 α3 ρ:Type} (f:α0->α1->α2->α3->ρ) (a:α0×α1×α2×α3):ρ:=f a.1 a.2.1 a.2.2.1 a.2.2.2
abbrev c5A {α0 α1 α2 α3 α4 ρ:Type} (f:α0->α1->α2->α3->α4->ρ) (a:α0×α1×α2×α3×α4):ρ:=f a.1 a.2.1 a.2.2.1 a.2.2.2.1 a.2.2.2.2
abbrev c6A {α0 α1 α2 α3 α4 α5 ρ:Type} (f:α0->α1->α2->α3->α4->α5->ρ) (a:α0×α1×α2×α3×α4×α5):ρ:=f a.1 a.2.1 a.2.2.1 a.2.2.2.1 a.2.2.2.2.1 a.2.2.2.2.2
abbrev c7A {α0 α1 α2 α3 α4 α5 α6 ρ:Type} (f:α0->α1->α2->α3->α4->α5->α6->ρ) (a:α0×α1×α2×α3×α4×α5×α6):ρ:=f a.1 a.2.1 a.2.2.1 a.2.2.2.1 a.2.2.2.2.1 a.2.2.2.2.2.1 a.2.2.2.2.2.2
abbrev c9A {α0 α1 α2 α3 α4 α5 α6 α7 α8 ρ:Type} (f:α0->α1->α2->α3->α4->α5->α6->α7->α8->ρ) (a:α0×α1×α2×α3×α4×α5×α6×α7×α8):ρ:=f a.1 a.2.1 a.2.2.1 a.2.2.2.1 a.2.2.2.2.1 a.2.2.2.2.2.1 a.2.2.2.2.2.2.1 a.2.2.2.2.2.2.2.1 a.2.2.2.2.2.2.2.2
abbrev c10A {α0 α1 α2 α3 α4 α5 α6 α7 α8 α9 ρ:Type} (f:α0->α1->α2->α3->α4->α5->α6->α7->α8->α9->ρ) (a:α0×α1×α2×α3×α4×α5×α6×α7×α8×α9):ρ:=f a.1 a.2.1 a.2.2.1 a.2.2.2.1 a.2.2.2.2.1 a.2.2.2.2.2.1 a.2.2.2.2.2.2.1 a.2.2.2.2.2.2.2.1 a.2.2.2.2.2.2.2.2.1 a.2.2.2.2.2.2.2.2.2
abbrev c11A {α0 α1 α2 α3 α4 α5 α6 α7 α8 α9 α10 ρ:Type} (f:α0->α1->α2->α3->α4->α5->α6->α7->α8->α9->α10->ρ) (a:α0×α1×α2×α3×α4×α5×α6×α7×α8×α9×α10):ρ:=f a.1 a.2.1 a.2.2.1 a.2.2.2.1 a.2.2.2.2.1 a.2.2.2.2.2.1 a.2.2.2.2.2.2.1 a.2.2.2.2.2.2.2.1 a.2.2.2.2.2.2.2.2.1 a.2.2.2.2.2.2.2.2.2.1 a.2.2.2.2.2.2.2.2.2.2
def dz :Nat->List VS->List VS
 |0,l=>l
 |n+1,l=>.dead::dz n l
abbrev Y22 :Tp:=.sl tI
abbrev Y21 :Tp:=.pair .str .str
abbrev Y20 :Tp:=.sl (.pair .str .str)
abbrev Y19 :Tp:=.pair (.sl .str) .str
abbrev Y18 :Tp:=.pair .str tI
abbrev Y17 :Tp:=.sl (.pair (.sl .str) .str)
abbrev Y16 :Tp:=.sl (.pair .str tI)
abbrev Y15 :Tp:=.pair tI tI
abbrev Y14 :Tp:=.pair tI (.sl tI)
abbrev Y13 :Tp:=.sl (.pair tI (.sl tI))
abbrev Y8 :Tp:=.pair .str (.pair tI (.pair tI tI))
abbrev Y7 :Tp:=.pair .str (.pair .str (.sl (.pair tI (.sl tI))))
abbrev Y6 :Tp:=.sl (.pair .str (.pair .str (.sl (.pair tI (.sl tI)))))
abbrev Y5 :Tp:=.pair tI (.pair (.sl (.pair .str .str)) (.sl (.pair .str tI)))
abbrev Y4 :Tp:=.sl (.pair tI (.pair (.sl (.pair .str .str)) (.sl (.pair .str tI))))
abbrev Y3 :Tp:=.pair (.sl (.pair tI (.pair (.sl (.pair .str .str)) (.sl (.pair .str tI))))) (.sl (.pair .str (.pair .str (.sl (.pair tI (.sl tI))))))
abbrev Y2 :Tp:=.pair (.pair (.sl (.pair tI (.pair (.sl (.pair .str .str)) (.sl (.pair .str tI))))) (.sl (.pair .str (.pair .str (.sl (.pair tI (.sl tI))))))) (.sl tI)
abbrev Y1 :Tp:=.sl (.pair (.pair (.sl (.pair tI (.pair (.sl (.pair .str .str)) (.sl (.pair .str tI))))) (.sl (.pair .str (.pair .str (.sl (.pair tI (.sl tI))))))) (.sl tI))
abbrev Y0 :Tp:=.pair (.pair (.sl .str) (.sl (.pair (.sl .str) .str))) (.pair (.sl (.pair tI (.pair (.sl (.pair .str .str)) (.sl (.pair .str tI))))) (.sl (.pair .str (.pair .str (.sl (.pair tI (.sl tI)))))))
def jt0 (N:Nat) (a:List Int):Option ((List Int)×Int):=
 (bif decide ((2000:Int)<a.length)then oB (cut a 0 2000) fun b=>(some (b,0))else some (a,0))
theorem juQ :mK 38 ⟨⟨[.pv (.sl (.int .u8))],[]⟩,⟨[.box 10 0],[(10,false,[.pv (.sl (.int .u8)),pI])]⟩,c1A (jt0 N)⟩:=
 mO ja func38 rfl N .no _
def jtW (N:Nat) (e:Int) (b:List Int) (a:Int):Option (Int×(List Int)×Int):=
 (if fits (a+1)then bif decide (e<1)then some (0,b,(a+1))else(bif decide ((b.length:Int)=0)then some (0,b,(a+1))else if fits ((a+1)-1)then bif decide (((a+1)-1)<(b.length:Int))then oB (idx b ((a+1)-1)) fun f=>(if e≠0 then some (((IntKind.i64.wrap f).tmod e),b,(a+1))else none)else(if(b.length:Int)≠0 then oB (idx b (((a+1)-1).tmod (b.length:Int))) fun c=>(if fits ((IntKind.i64.wrap c)*131)then if fits (((a+1)-1)*7)then if fits ((((a+1)-1)*7)+3)then if(b.length:Int)≠0 then oB (idx b (((((a+1)-1)*7)+3).tmod (b.length:Int))) fun d=>(if fits ((IntKind.i64.wrap d)*1117)then if fits (((IntKind.i64.wrap c)*131)+((IntKind.i64.wrap d)*1117))then if fits (((a+1)-1)*29)then if fits ((((IntKind.i64.wrap c)*131)+((IntKind.i64.wrap d)*1117))+(((a+1)-1)*29))then if(b.length:Int)≠0 then if fits (((a+1)-1).tdiv (b.length:Int))then if fits ((((a+1)-1).tdiv (b.length:Int))*53)then if fits (((((IntKind.i64.wrap c)*131)+((IntKind.i64.wrap d)*1117))+(((a+1)-1)*29))+((((a+1)-1).tdiv (b.length:Int))*53))then if 64≠0 then if fits ((((((IntKind.i64.wrap c)*131)+((IntKind.i64.wrap d)*1117))+(((a+1)-1)*29))+((((a+1)-1).tdiv (b.length:Int))*53)).tdiv 64)then if e≠0 then some (((bitsI .xor .i64 (((((IntKind.i64.wrap c)*131)+((IntKind.i64.wrap d)*1117))+(((a+1)-1)*29))+((((a+1)-1).tdiv (b.length:Int))*53)) ((((((IntKind.i64.wrap c)*131)+((IntKind.i64.wrap d)*1117))+(((a+1)-1)*29))+((((a+1)-1).tdiv (b.length:Int))*53)).tdiv 64)).tmod e),b,(a+1))else none else none else none else none else none else none else none else none else none else none else none)else none else none else none else none)else none)else none)else none)
theorem jtX :mK 63 ⟨⟨[.box 900000 0,pI],[(900000,false,[.pv (.sl (.int .u8)),pI])]⟩,⟨[pI],[(900000,false,[.pv (.sl (.int .u8)),pI])]⟩,c3A (jtW N)⟩:=
 mO ja func63 rfl N .no _ (rs:=[900000])
def juL :Sh:=⟨.box 900000 0:: .dead:: .box 2 0:: .box 3 0::dz 30 [],[(2,false,[.nils,.nils]),(3,false,[.own 13 .str 9 true,.nils]),(900000,false,[.pv (.sl (.int .u8)),pI])]⟩
def juw :Sh:=⟨.box 900000 0:: .dead:: .box 2 0:: .box 3 0::dz 30 [],[(2,false,[.nils,.nils]),(3,false,[.own 8 .str 9 true,.nils]),(900000,false,[.pv (.sl (.int .u8)),pI])]⟩
def s_l30Conf_m (n:List Int) (l:Int):Option ((List Z2)×(List Z4)×(List Int)×Int):=
 (meet (fun(d:(List Z2)×(List Int)×Int)=>match d with|(k,o,j)=>meet (fun(d:(List Z2)×(List Int)×Int)=>match d with|(e,m,i)=>oB (jtW N 4 m i) fun a=>bif decide (a.1=0)then some (e,([(([([110,101,119]:List UInt8),([121,111,114,107]:List UInt8)]:List Z2),([110,121]:List UInt8))]:List Z4),a.2.1,a.2.2)else bif decide (a.1=1)then some (e,([(([([98,105,103]:List UInt8)]:List Z2),([108,97,114,103]:List UInt8)),(([([98,105,103]:List UInt8),([114,101,100]:List UInt8),([102,111,120]:List UInt8)]:List Z2),([102,111,120]:List UInt8)),(([([110,101,119]:List UInt8),([121,111,114,107]:List UInt8)]:List Z2),([110,121]:List UInt8))]:List Z4),a.2.1,a.2.2)else some (e,([]:List Z4),a.2.1,a.2.2)) fun f=>oB (jtW N 4 o j) fun c=>bif decide (c.1=0)then f (([([100,111,103]:List UInt8),([116,104,101]:List UInt8)]:List Z2),c.2.1,c.2.2)else f (k,c.2.1,c.2.2)) fun h=>oB (jtW N 3 n l) fun b=>bif decide ((0:Int)<b.1)then h (([([116,104,101]:List UInt8)]:List Z2),b.2.1,b.2.2)else h (([]:List Z2),b.2.1,b.2.2))
theorem jva :mK 165 ⟨⟨[.box 900000 0],[(900000,false,[.pv (.sl (.int .u8)),pI])]⟩,⟨[.agg [.own 1 .str 9 true,.own 2 Y19 172 true]],[(900000,false,[.pv (.sl (.int .u8)),pI])]⟩,c2A (s_l30Conf_m N)⟩:=
 mO (fC (jtX N) ja) func165 rfl N (.seq .no (.seq .no (.meet juw .no (.meet juL .no .no)))) _ (rs:=[900000])
def jt (N:Nat) (a:Int):Z15:=
 (bif decide ((65:Int)<=a)then bif decide (a<=90)then some (IntKind.u8.wrap (a+32))else(bif decide ((97:Int)<=a)then bif decide (a<=122)then some a else(bif decide ((48:Int)<=a)then bif decide (a<=57)then some a else(some 0)else some 0)else bif decide ((48:Int)<=a)then bif decide (a<=57)then some a else(some 0)else some 0)else bif decide ((97:Int)<=a)then bif decide (a<=122)then some a else(bif decide ((48:Int)<=a)then bif decide (a<=57)then some a else(some 0)else some 0)else bif decide ((48:Int)<=a)then bif decide (a<=57)then some a else(some 0)else some 0)
theorem jfG :mK 251 (bX [.pv (.int .u8)] [.pv (.int .u8)] (c1A (jt N))):=
 mO ja func251 rfl N .no _
def jJ (N:Nat) (a:Int) (c:Int) (b:Int):Z9:=
 (bif decide (c<=a)then some (decide (a<=b))else some false)
theorem jcL :mK 46 (bX [pI,pI,pI] [pB] (c3A (jJ N))):=
 mO ja func46 rfl N .no _
def jr5 :Sh:=⟨pS:: .dead:: .dead::pI::dz 23 [],[]⟩
def jT (d:List UInt8):Z9:=
 (iter (fun e (a,b)=>bif decide (b<(a.length:Int))then oB (idx a b) fun c=>(oB (jt N (c.toNat:Int)) fun j=>oB (idx a b) fun h=>bif !decide (j=(h.toNat:Int))then some false else oB (idx a b) fun i=>bif decide ((i.toNat:Int)=0)then some false else if fits (b+1)then e (a,(b+1))else none)else oB (jJ N (a.length:Int) 1 12) fun k=>some k) N (d,(0:Int)))
theorem jgp :mK 174 (bX [pS] [pB] (c1A (jT N))):=
 mO (fC (jfG N) (fC (jcL N) ja)) func174 rfl N (.seq .no (.seq (.seq .no (.block (.loop jr5 .no))) .no)) _
def jdI (N:Nat):Option ((List Z2)):=
 (some ([([105,110,103]:List UInt8),([101,100]:List UInt8),([101,115]:List UInt8),([108,121]:List UInt8),([115]:List UInt8)]:List Z2))
theorem jkj :mK 306 ⟨⟨[],[]⟩,⟨[.own 1 .str 9 true],[]⟩,fun a=>jdI N⟩:=
 mO ja func306 rfl N .no _
def jl2 :Sh:=⟨pS:: .dead:: .dead::pI::dz 30 [],[]⟩
def ja6 (h:List UInt8):Option (Z2):=
 (iter (fun d (a,b)=>oB (jdI N) fun j=>bif decide (b<(j.length:Int))then oB (jdI N) fun k=>(oB (idx k b) fun c=>if fits ((a.length:Int)-(c.length:Int))then bif decide ((3:Int)<=((a.length:Int)-(c.length:Int)))then oB (cut a ((a.length:Int)-(c.length:Int)) (a.length:Int)) fun f=>(bif decide (f=c)then oB (cut a 0 ((a.length:Int)-(c.length:Int))) fun e=>(some e)else if fits (b+1)then d (a,(b+1))else none)else(if fits (b+1)then d (a,(b+1))else none)else none)else some a) N (h,(0:Int)))
theorem jtL :mK 252 (bX [pS] [pS] (c1A (ja6 N))):=
 mO (fC (jkj N) ja) func252 rfl N (.seq .no (.seq (.seq .no (.block (.loop jl2 .no))) .no)) _
def jto :Sh:=⟨pS::dz 9 [],[]⟩
def jaq (c:List UInt8):Option (Z2):=
 (iter (fun d (a:Z2)=>let s2:=a;(oB (ja6 N s2) fun b=>bif !decide (b=s2)then oB (ja6 N s2) fun e=>(d e)else some s2)) N c)
theorem jfZ :mK 175 (bX [pS] [pS] (c1A (jaq N))):=
 mO (fC (jtL N) ja) func175 rfl N (.seq .no (.seq (.block (.loop jto .no)) .no)) _
def jlY :Sh:=⟨.pv (.sl .str)::pS::dz 3 (pI::dz 12 []),[]⟩
def jap (i:List Z2) (e:List UInt8):Z9:=
 (iter (fun f (b,c,a)=>bif decide (a<(b.length:Int))then oB (idx b a) fun d=>(bif decide (d=c)then some true else if fits (a+1)then f (b,c,(a+1))else none)else some false) N (i,e,(0:Int)))
theorem jhP :mK 176 (bX [.pv (.sl .str),pS] [pB] (c2A (jap N))):=
 mO ja func176 rfl N (.seq .no (.seq (.seq .no (.block (.loop jlY .no))) .no)) _
def jrs :Sh:=⟨.dead:: .box 1 0:: .dead::pI::dz 114 [],[(1,false,[.pv (.sl .str),.pv Y17])]⟩
def js0 :Sh:=⟨.dead:: .box 1 0:: .dead:: .dead::pI::dz 113 [],[(1,false,[.pv (.sl .str),.pv Y17])]⟩
def jrc :Sh:=⟨.dead:: .box 1 0:: .dead:: .dead::pI:: .box 5 0::pI::dz 111 [],[(1,false,[.pv (.sl .str),.pv Y17]),(5,false,[.pv (.sl .str),pS])]⟩
def jcw (v:List Z2) (I:List Z4):Z9:=
 (iter (fun n (a,c,l)=>bif decide (a<(c.length:Int))then oB (idx c a) fun u=>(oB (jT N u) fun B=>bif !B then some false else bif decide ((0:Int)<a)then oB (idx c a) fun q=>(if fits (a-1)then oB (idx c (a-1)) fun p=>(bif Op.bytesLess q p||decide (q=p)then some false else if fits (a+1)then n ((a+1),c,l)else none)else none)else if fits (a+1)then n ((a+1),c,l)else none)else iter (fun D (j,o,h)=>bif decide (j<(h.length:Int))then oB (idx h j) fun r=>(iter (fun A (i,b,k,m,d,f)=>bif decide (b<(d.length:Int))then oB (idx d b) fun x=>(oB (jT N x) fun C=>bif !C then some false else oB (idx d b) fun H=>oB (jaq N H) fun G=>oB (idx d b) fun E=>bif !decide (G=E)then some false else oB (idx d b) fun K=>oB (jap N k K) fun t=>bif t then some false else if fits (b+1)then A (i,(b+1),k,m,d,f)else none)else oB (jJ N (d.length:Int) 1 3) fun z=>bif !z then some false else oB (jT N f) fun y=>bif !y then some false else oB (jaq N f) fun w=>bif !decide (w=f)then some false else if fits (i+1)then D ((i+1),k,m)else none) N (j,(0:Int),o,h,r.1,r.2))else bif decide ((o.length:Int)<=6)then some (decide ((h.length:Int)<=4))else some false) N ((0:Int),c,l)) N ((0:Int),v,I))
theorem jtf :mK 108 (bX [.agg [.pv (.sl .str),.pv Y17]] [pB] (c2A (jcw N))):=
 mO (fC (jgp N) (fC (jfZ N) (fC (jhP N) (fC (jcL N) ja)))) func108 rfl N (.seq .no (.seq (.seq .no (.block (.loop jrs .no))) (.seq (.seq .no (.block (.loop js0 (.seq .no (.seq (.block (.seq .no (.seq (.seq .no (.block (.loop jrc .no))) .no))) .no))))) .no))) _
def jMA :Sh:=⟨.dead:: .box 1 0:: .box 2 0:: .box 3 0::pI::dz 33 [],[(1,false,[.pv (.sl .str),.pv Y17]),(2,false,[.nils,.nils]),(3,false,[.own 700300 .str 9 true,.own 700301 Y19 172 true])]⟩
def s_l18CopyConf_m (e:List Z2) (k:List Z4):Option ((List Z2)×(List Z4)):=
 (if room ([]:List Z2).length e.length 16 then iter (fun i (a,l,b,f,c)=>bif decide (a<(b.length:Int))then oB (idx b a) fun d=>(if room ([]:List Z2).length d.1.length 16 then oB (idx b a) fun h=>(if room c.length ([((([]:List Z2)++d.1),h.2)]:List Z4).length 40 then if fits (a+1)then i ((a+1),l,b,f,(c++([((([]:List Z2)++d.1),h.2)]:List Z4)))else none else none)else none)else some (f,c)) N ((0:Int),e,k,(([]:List Z2)++e),([]:List Z4))else none)
theorem jMp :mK 162 (bX [.agg [.pv (.sl .str),.pv Y17]] [.agg [.own 1 .str 9 true,.own 2 Y19 172 true]] (c2A (s_l18CopyConf_m N))):=
 mO ja func162 rfl N (.seq .no (.seq .no (.seq (.seq .no (.block (.loop jMA .no))) .no))) _
def s_IndexNew_m (b:List Z2) (a:List Z4):Option ((List Z2)×(List Z4)):=
 (oB (jcw N b a) fun d=>bif !d then some (([]:List Z2),([]:List Z4))else oB (s_l18CopyConf_m N b a) fun c=>some (c.1,c.2))
theorem jOh :mK 164 (bX [.agg [.pv (.sl .str),.pv Y17]] [.agg [.own 1 .str 9 true,.own 2 Y19 172 true,.nils]] (c2A (s_IndexNew_m N))):=
 mO (fC (jtf N) (fC (jMp N) ja)) func164 rfl N .no _
def jot :Sh:=⟨pS:: .dead:: .dead::pI::dz 19 [],[]⟩
def jcu (d:List UInt8):Z9:=
 (iter (fun e (a,b)=>bif decide (b<(a.length:Int))then oB (idx a b) fun c=>(bif decide ((c.toNat:Int)<32)then some false else oB (idx a b) fun h=>bif decide ((126:Int)<(h.toNat:Int))then some false else if fits (b+1)then e (a,(b+1))else none)else some (decide ((a.length:Int)<=160))) N (d,(0:Int)))
theorem jpZ :mK 253 (bX [pS] [pB] (c1A (jcu N))):=
 mO ja func253 rfl N (.seq .no (.seq (.seq .no (.block (.loop jot .no))) .no)) _
def jp0 :Sh:=⟨.dead:: .box 1 0:: .dead::pI::dz 100 [],[(1,false,[pI,.pv Y20,.pv Y16])]⟩
def jtP :Sh:=⟨.dead:: .box 1 0::dz 3 (pI::dz 98 []),[(1,false,[pI,.pv Y20,.pv Y16])]⟩
def jcb (w:Int) (x:Z14) (y:Z8):Z9:=
 (iter (fun l (b,f,d,i)=>bif decide (b<(d.length:Int))then oB (idx d b) fun e=>(oB (jT N e.1) fun u=>bif !u then some false else oB (jcu N e.2) fun v=>bif !v then some false else bif decide ((0:Int)<b)then if fits (b-1)then oB (idx d (b-1)) fun o=>(bif Op.bytesLess e.1 o.1||decide (e.1=o.1)then some false else if fits (b+1)then l ((b+1),f,d,i)else none)else none else if fits (b+1)then l ((b+1),f,d,i)else none)else iter (fun n (a,j,h,c)=>bif decide (a<(c.length:Int))then oB (idx c a) fun B=>(oB (jT N B.1) fun z=>bif !z then some false else oB (idx c a) fun A=>oB (jJ N A.2 0 999999999) fun q=>bif !q then some false else bif decide ((0:Int)<a)then oB (idx c a) fun m=>(if fits (a-1)then oB (idx c (a-1)) fun p=>(bif Op.bytesLess m.1 p.1||decide (m.1=p.1)then some false else if fits (a+1)then n ((a+1),j,h,c)else none)else none)else if fits (a+1)then n ((a+1),j,h,c)else none)else oB (jJ N j 1 9999) fun t=>bif t then oB (jJ N (h.length:Int) 0 3) fun r=>(bif r then some (decide ((c.length:Int)<=3))else some false)else some false) N ((0:Int),f,d,i)) N ((0:Int),w,x,y))
theorem jpD :mK 177 (bX [.agg [pI,.pv Y20,.pv Y16]] [pB] (c3A (jcb N))):=
 mO (fC (jgp N) (fC (jpZ N) (fC (jcL N) ja))) func177 rfl N (.seq .no (.seq (.seq .no (.block (.loop jp0 .no))) (.seq (.seq .no (.block (.loop jtP .no))) .no))) _
def jkS :Sh:=⟨.pv Y4:: .dead:: .dead::pI::dz 33 [],[]⟩
def jbU (i:List Z0):Z9:=
 (iter (fun d (b,a)=>bif decide (a<(b.length:Int))then oB (idx b a) fun c=>(oB (jcb N c.1 c.2.1 c.2.2) fun h=>bif !h then some false else bif decide ((0:Int)<a)then oB (idx b a) fun f=>(if fits (a-1)then oB (idx b (a-1)) fun j=>(bif decide (f.1<=j.1)then some false else if fits (a+1)then d (b,(a+1))else none)else none)else if fits (a+1)then d (b,(a+1))else none)else some (decide ((b.length:Int)<=16))) N (i,(0:Int)))
theorem jpx :mK 109 (bX [.pv Y4] [pB] (c1A (jbU N))):=
 mO (fC (jpD N) ja) func109 rfl N (.seq .no (.seq (.seq .no (.block (.loop jkS .no))) .no)) _
def jl5 :Sh:=⟨.pv (.sl .str)::pS::dz 3 (pI::dz 42 []),[]⟩
def s_l7Put_m (o:List Z2) (p:List UInt8):Option ((List Z2)):=
 (iter (fun n (a,c,b)=>bif decide (b<(a.length:Int))then oB (idx a b) fun m=>(bif Op.bytesLess m c then if fits (b+1)then n (a,c,(b+1))else none else bif decide (b<(a.length:Int))then oB (idx a b) fun r=>(bif decide (r=c)then some a else oB (cut a 0 b) fun f=>if room ([]:List Z2).length f.length 16 then if room (([]:List Z2)++f).length ([c]:List Z2).length 16 then oB (cut a b (a.length:Int)) fun i=>(if room ((([]:List Z2)++f)++([c]:List Z2)).length i.length 16 then some (((([]:List Z2)++f)++([c]:List Z2))++i)else none)else none else none)else oB (cut a 0 b) fun d=>if room ([]:List Z2).length d.length 16 then if room (([]:List Z2)++d).length ([c]:List Z2).length 16 then oB (cut a b (a.length:Int)) fun k=>(if room ((([]:List Z2)++d)++([c]:List Z2)).length k.length 16 then some (((([]:List Z2)++d)++([c]:List Z2))++k)else none)else none else none)else bif decide (b<(a.length:Int))then oB (idx a b) fun t=>(bif decide (t=c)then some a else oB (cut a 0 b) fun e=>if room ([]:List Z2).length e.length 16 then if room (([]:List Z2)++e).length ([c]:List Z2).length 16 then oB (cut a b (a.length:Int)) fun j=>(if room ((([]:List Z2)++e)++([c]:List Z2)).length j.length 16 then some (((([]:List Z2)++e)++([c]:List Z2))++j)else none)else none else none)else oB (cut a 0 b) fun h=>if room ([]:List Z2).length h.length 16 then if room (([]:List Z2)++h).length ([c]:List Z2).length 16 then oB (cut a b (a.length:Int)) fun l=>(if room ((([]:List Z2)++h)++([c]:List Z2)).length l.length 16 then some (((([]:List Z2)++h)++([c]:List Z2))++l)else none)else none else none) N (o,p,(0:Int)))
theorem jgt :mK 187 (bX [.pv (.sl .str),pS] [.pv (.sl .str)] (c2A (s_l7Put_m N))):=
 mO ja func187 rfl N (.seq .no (.seq .no (.seq (.block (.loop jl5 .no)) .no))) _
def joT :Sh:=⟨.pv Y4:: .dead:: .dead:: .pv (.sl .str)::pI::dz 30 [],[]⟩
def jkn :Sh:=⟨.pv Y4:: .dead:: .dead:: .pv (.sl .str)::pI::pI::dz 29 [],[]⟩
def s_l7Names_m (k:List Z0):Option ((List Z2)):=
 (iter (fun m (i,f,h)=>bif decide (h<(i.length:Int))then iter (fun j (b,e,a,c)=>oB (idx b a) fun l=>bif decide (c<(l.2.1.length:Int))then oB (idx b a) fun n=>(oB (idx n.2.1 c) fun p=>oB (s_l7Put_m N e p.1) fun o=>if fits (c+1)then j (b,o,a,(c+1))else none)else if fits (a+1)then m (b,e,(a+1))else none) N (i,f,h,(0:Int))else some f) N (k,([]:List Z2),(0:Int)))
theorem jlz :mK 113 (bX [.pv Y4] [.pv (.sl .str)] (c1A (s_l7Names_m N))):=
 mO (fC (jgt N) ja) func113 rfl N (.seq .no (.seq .no (.seq (.seq .no (.block (.loop joT (.seq .no (.seq (.block (.seq .no (.block (.loop jkn .no)))) .no))))) .no))) _
def jl8 :Sh:=⟨.dead::pS:: .box 2 0:: .dead:: .dead::pI::dz 21 [],[(2,false,[pI,.pv Y20,.pv Y16])]⟩
def s_l6Field_m (f:Int) (h:Z14) (k:Z8) (m:List UInt8):Option (Z2):=
 (iter (fun j (c,a,e,b,d)=>bif decide (a<(b.length:Int))then oB (idx b a) fun i=>(bif decide (i.1=c)then oB (idx b a) fun n=>(some n.2)else if fits (a+1)then j (c,(a+1),e,b,d)else none)else some ([]:List UInt8)) N (m,(0:Int),f,h,k))
theorem jhA :mK 189 (bX [.agg [pI,.pv Y20,.pv Y16],pS] [pS] (c4A (s_l6Field_m N))):=
 mO ja func189 rfl N (.seq .no (.seq (.seq .no (.block (.loop jl8 .no))) .no)) _
def jo3 :Sh:=⟨pS:: .dead:: .dead:: .own 600003 Y8 188 true::pI::dz 50 [],[]⟩
def jm6 :Sh:=⟨pS:: .dead:: .dead:: .own 600003 Y8 188 true::pI:: .own 600005 (.int .u8) 5 true::pI::dz 48 [],[]⟩
def jtK :Sh:=⟨pS:: .dead:: .dead:: .own 600003 Y8 188 true::pI:: .pv (.sl (.int .u8))::pI::dz 48 [],[]⟩
def jb3 (E:List UInt8):Option ((List Z10)):=
 (iter (fun l (r,y,n)=>bif decide (n<(r.length:Int))then iter (fun C (c,h,a,b,k)=>bif decide (a<(c.length:Int))then oB (idx c a) fun A=>(oB (jt N (A.toNat:Int)) fun B=>bif !decide (B=0)then oB (idx c a) fun G=>(oB (jt N (G.toNat:Int)) fun v=>if room b.length ([v]:List Int).length 1 then if fits (a+1)then C (c,h,(a+1),(b++([v]:List Int)),k)else none else none)else meet (fun(d:Z2×(List Z10)×Int×(List Int)×Int)=>match d with|(w,i,e,o,u)=>bif decide ((0:Int)<o.length)then if room i.length ([((bytesOf o),(i.length:Int),u,e)]:List Z10).length 40 then if fits (e+1)then l (w,(i++([((bytesOf o),(i.length:Int),u,e)]:List Z10)),(e+1))else none else none else if fits (e+1)then l (w,i,(e+1))else none) fun t=>bif decide ((12:Int)<b.length)then oB (cut b 0 12) fun D=>(t (c,h,a,D,k))else t (c,h,a,b,k))else meet (fun(d:Z2×(List Z10)×Int×(List Int)×Int)=>match d with|(x,j,f,m,q)=>bif decide ((0:Int)<m.length)then if room j.length ([((bytesOf m),(j.length:Int),q,f)]:List Z10).length 40 then if fits (f+1)then l (x,(j++([((bytesOf m),(j.length:Int),q,f)]:List Z10)),(f+1))else none else none else if fits (f+1)then l (x,j,(f+1))else none) fun p=>bif decide ((12:Int)<b.length)then oB (cut b 0 12) fun z=>(p (c,h,a,z,k))else p (c,h,a,b,k)) N (r,y,n,([]:List Int),n)else some y) N (E,([]:List Z10),(0:Int)))
theorem jsr :mK 311 (bX [pS] [.own 1 Y8 188 true] (c1A (jb3 N))):=
 mO (fC (jfG N) ja) func311 rfl N (.seq .no (.seq .no (.seq (.seq .no (.block (.loop jo3 (.seq .no (.seq (.block (.seq .no (.seq .no (.seq (.block (.loop jm6 .no)) (.meet jtK .no .no))))) .no))))) .no))) _
def jmf :Sh:=⟨.dead:: .dead:: .box 2 0:: .dead:: .dead:: .own 600005 Y18 111 true:: .own 600006 Y8 188 true::pI::dz 43 [],[(2,false,[.pv (.sl .str),.pv Y17])]⟩
def jbY (l:List Z2) (p:List Z4) (n:List UInt8):Option (Z7):=
 (oB (jb3 N n) fun m=>iter (fun e (d,b,a,c,h)=>bif decide (a<(b.length:Int))then oB (idx b a) fun k=>(oB (jaq N k.1) fun f=>oB (idx b a) fun q=>oB (jap N c q.1) fun r=>bif !r then oB (jap N c f) fun j=>(bif !j then oB (idx b a) fun i=>(if room d.length ([(f,i.2.1)]:Z8).length 24 then if fits (a+1)then e ((d++([(f,i.2.1)]:Z8)),b,(a+1),c,h)else none else none)else if fits (a+1)then e (d,b,(a+1),c,h)else none)else if fits (a+1)then e (d,b,(a+1),c,h)else none)else some d) N (([]:Z8),m,(0:Int),l,p))
theorem jrk :mK 266 (bX [.agg [.pv (.sl .str),.pv Y17],pS] [.own 1 Y18 111 true] (c3A (jbY N))):=
 mO (fC (jsr N) (fC (jfZ N) (fC (jhP N) ja))) func266 rfl N (.seq .no (.seq .no (.seq .no (.seq (.seq .no (.block (.loop jmf .no))) .no)))) _
def jrL :Sh:=⟨.pv Y16:: .pv (.sl .str)::dz 3 (pI::dz 36 []),[]⟩
def jcC (k:Z8) (e:List Z2):Z9:=
 (iter (fun h (b,c,a)=>bif decide (a<(c.length:Int))then bif decide ((b.length:Int)<=a)then some false else(oB (idx b a) fun f=>oB (idx c a) fun j=>bif !decide (f.1=j)then some false else oB (idx b a) fun l=>oB (idx b 0) fun d=>if fits (d.2+a)then bif !decide (l.2=(d.2+a))then some false else(if fits (a+1)then h (b,c,(a+1))else none)else none)else some true) N (k,e,(0:Int)))
theorem jtg :mK 312 (bX [.pv Y16,.pv (.sl .str)] [pB] (c2A (jcC N))):=
 mO ja func312 rfl N (.seq .no (.seq (.seq .no (.block (.loop jrL .no))) .no)) _
def jlL :Sh:=⟨.dead:: .pv Y16:: .box 2 0:: .dead:: .dead::pI::pI::dz 38 [],[(2,false,[.pv (.sl .str),.pv Y17])]⟩
def jcJ (i:List Z2) (k:List Z4) (n:Z8):Z15:=
 (iter (fun e (d,c,a,f,b)=>bif decide (a<(b.length:Int))then oB (idx b a) fun h=>(oB (jcC N d h.1) fun m=>bif m then bif decide (c<0)then if fits (a+1)then e (d,a,(a+1),f,b)else none else(oB (idx b a) fun l=>oB (idx b c) fun o=>bif decide ((o.1.length:Int)<(l.1.length:Int))then if fits (a+1)then e (d,a,(a+1),f,b)else none else if fits (a+1)then e (d,c,(a+1),f,b)else none)else if fits (a+1)then e (d,c,(a+1),f,b)else none)else some c) N (n,((-1):Int),(0:Int),i,k))
theorem jqp :mK 267 (bX [.agg [.pv (.sl .str),.pv Y17],.pv Y16] [pI] (c3A (jcJ N))):=
 mO (fC (jtg N) ja) func267 rfl N (.seq .no (.seq .no (.seq (.seq .no (.block (.loop jlL .no))) .no))) _
def jnK :Sh:=⟨.dead:: .dead:: .box 2 0:: .dead:: .dead:: .own 600005 Y18 111 true:: .pv Y16::dz 45 [],[(2,false,[.pv (.sl .str),.pv Y17])]⟩
def ja5 (h:List Z2) (j:List Z4) (p:List UInt8):Option (Z7):=
 (oB (jbY N h j p) fun n=>iter (fun i (b,a,d,c)=>bif decide ((0:Int)<a.length)then oB (jcJ N d c a) fun e=>(bif decide (e<0)then oB (idx a 0) fun f=>(if room b.length ([f]:Z8).length 24 then oB (cut a 1 (a.length:Int)) fun o=>(i ((b++([f]:Z8)),o,d,c))else none)else oB (idx c e) fun k=>oB (idx a 0) fun l=>if room b.length ([(k.2,l.2)]:Z8).length 24 then oB (idx c e) fun r=>(oB (cut a (r.1.length:Int) (a.length:Int)) fun m=>i ((b++([(k.2,l.2)]:Z8)),m,d,c))else none)else some b) N (([]:Z8),n,h,j))
theorem jiO :mK 188 (bX [.agg [.pv (.sl .str),.pv Y17],pS] [.own 1 Y18 111 true] (c3A (ja5 N))):=
 mO (fC (jrk N) (fC (jqp N) ja)) func188 rfl N (.seq .no (.seq .no (.seq .no (.seq (.block (.loop jnK .no)) .no)))) _
def jn9 :Sh:=⟨.dead:: .pv Y4::pS:: .box 3 0::dz 3 (.pv (.sl .str)::pI::dz 31 []),[(3,false,[.pv (.sl .str),.pv Y17])]⟩
def jrT :Sh:=⟨.dead:: .pv Y4::pS:: .box 3 0::dz 3 (.pv (.sl .str)::pI:: .own 600009 Y18 111 true::pI::dz 29 []),[(3,false,[.pv (.sl .str),.pv Y17])]⟩
def s_l7Terms_m (t:List Z2) (z:List Z4) (y:List Z0) (r:List UInt8):Option ((List Z2)):=
 (iter (fun u (h,k,o,c,l,q)=>bif decide (c<(h.length:Int))then oB (idx h c) fun b=>(oB (s_l6Field_m N b.1 b.2.1 b.2.2 k) fun v=>oB (ja5 N l q v) fun w=>iter (fun x (j,p,i,e,d,a,m,n)=>bif decide (a<(d.length:Int))then oB (idx d a) fun A=>(oB (s_l7Put_m N i A.1) fun B=>if fits (a+1)then x (j,p,B,e,d,(a+1),m,n)else none)else if fits (e+1)then u (j,p,i,(e+1),m,n)else none) N (h,k,o,c,w,(0:Int),l,q))else some o) N (y,r,([]:List Z2),(0:Int),t,z))
theorem jqQ :mK 114 (bX [.agg [.pv (.sl .str),.pv Y17],.pv Y4,pS] [.pv (.sl .str)] (c4A (s_l7Terms_m N))):=
 mO (fC (jhA N) (fC (jiO N) (fC (jgt N) ja))) func114 rfl N (.seq .no (.seq .no (.seq (.seq .no (.block (.loop jn9 (.seq .no (.seq (.block (.seq .no (.seq .no (.block (.loop jrT .no))))) .no))))) .no))) _
def jnY :Sh:=⟨dz 3 (pS::dz 5 (.own 600009 tI 3 true:: .own 600010 Y18 111 true::pI::dz 28 [])),[]⟩
def s_l7Post_m (j:List Z2) (r:List Z4) (m:Int) (n:Z14) (p:Z8) (i:List UInt8) (o:List UInt8):Option ((List Int)):=
 (oB (s_l6Field_m N m n p i) fun k=>oB (ja5 N j r k) fun l=>iter (fun e (d,c,b,a)=>bif decide (a<(b.length:Int))then oB (idx b a) fun h=>(bif decide (h.1=d)then oB (idx b a) fun f=>(if room c.length ([f.2]:List Int).length 8 then if fits (a+1)then e (d,(c++([f.2]:List Int)),b,(a+1))else none else none)else if fits (a+1)then e (d,c,b,(a+1))else none)else some c) N (o,([]:List Int),l,(0:Int)))
theorem js6 :mK 190 (bX [.agg [.pv (.sl .str),.pv Y17],.agg [pI,.pv Y20,.pv Y16],pS,pS] [.own 1 tI 3 true] (c7A (s_l7Post_m N))):=
 mO (fC (jhA N) (fC (jiO N) ja)) func190 rfl N (.seq .no (.seq .no (.seq .no (.seq (.seq .no (.block (.loop jnY .no))) .no)))) _
def jkw :Sh:=⟨.dead:: .pv Y4::pS::pS:: .box 4 0::dz 3 (.box 8 0:: .box 9 0::pI::dz 34 []),[(4,false,[.pv (.sl .str),.pv Y17]),(8,false,[pS,pS,.nils]),(9,false,[pS,pS,.own 700902 Y14 196 true])]⟩
def s_l7Entry_m (t:List Z2) (w:List Z4) (u:List Z0) (m:List UInt8) (q:List UInt8):Option Z1:=
 (iter (fun n (b,e,i,a,f,l,p,r,d,j,c)=>bif decide (a<(b.length:Int))then oB (idx b a) fun k=>(oB (s_l7Post_m N f l k.1 k.2.1 k.2.2 e i) fun h=>bif decide ((0:Int)<h.length)then oB (idx b a) fun o=>(if room c.length ([(o.1,h)]:Z5).length 32 then if fits (a+1)then n (b,e,i,(a+1),f,l,p,r,d,j,(c++([(o.1,h)]:Z5)))else none else none)else if fits (a+1)then n (b,e,i,(a+1),f,l,p,r,d,j,c)else none)else some (d,j,c)) N (u,m,q,(0:Int),t,w,([]:List UInt8),([]:List UInt8),m,q,([]:Z5)))
theorem jtr :mK 115 (bX [.agg [.pv (.sl .str),.pv Y17],.pv Y4,pS,pS] [.agg [pS,pS,.own 1 Y14 196 true]] (c5A (s_l7Entry_m N))):=
 mO (fC (js6 N) ja) func115 rfl N (.seq .no (.seq .no (.seq (.seq .no (.block (.loop jkw .no))) .no))) _
def s_l7CopyDoc_m (N:Nat) (c:Int) (b:Z14) (a:Z8):Option Z0:=
 (if room ([]:Z14).length b.length 32 then if room ([]:Z8).length a.length 24 then some (c,(([]:Z14)++b),(([]:Z8)++a))else none else none)
theorem jtC :mK 116 (bX [.agg [pI,.pv Y20,.pv Y16]] [.agg [pI,.own 1 Y21 107 true,.own 2 Y18 258 true]] (c3A (s_l7CopyDoc_m N))):=
 mO ja func116 rfl N .no _
def jn8 :Sh:=⟨.dead:: .pv Y4:: .box 2 0:: .dead:: .box 4 0:: .box 5 0:: .pv (.sl .str)::pI::dz 58 [],[(2,false,[.pv (.sl .str),.pv Y17]),(4,false,[.nils,.nils]),(5,false,[.nils,.own 700501 Y7 116 true])]⟩
def jpr :Sh:=⟨.dead:: .pv Y4:: .box 2 0:: .dead:: .box 4 0:: .box 5 0:: .pv (.sl .str)::pI:: .pv (.sl .str)::pI::dz 56 [],[(2,false,[.pv (.sl .str),.pv Y17]),(4,false,[.nils,.nils]),(5,false,[.nils,.own 700501 Y7 116 true])]⟩
def jn0 :Sh:=⟨.dead:: .pv Y4:: .dead:: .dead:: .box 4 0:: .box 5 0::dz 4 (pI::dz 55 []),[(4,false,[.nils,.nils]),(5,false,[.own 700500 Y5 105 true,.own 700501 Y7 116 true])]⟩
def s_l7Of_m (A:List Z2) (H:List Z4) (v:List Z0):Option ((List Z0)×(List Z1)):=
 (oB (s_l7Names_m N v) fun D=>iter (fun B (q,f,i,t,y,w)=>bif decide (i<(f.length:Int))then oB (idx f i) fun z=>(oB (s_l7Terms_m N t y q z) fun E=>iter (fun G (e,h,d,m,c,k,n,j)=>bif decide (c<(m.length:Int))then oB (idx h d) fun I=>(oB (idx m c) fun K=>oB (s_l7Entry_m N k n e I K) fun x=>if room j.length ([x]:List Z1).length 56 then if fits (c+1)then G (e,h,d,m,(c+1),k,n,(j++([x]:List Z1)))else none else none)else if fits (d+1)then B (e,h,(d+1),k,n,j)else none) N (q,f,i,E,(0:Int),t,y,w))else iter (fun C (o,b,l,u)=>bif decide (b<(o.length:Int))then oB (idx o b) fun p=>(oB (s_l7CopyDoc_m N p.1 p.2.1 p.2.2) fun r=>if room l.length ([r]:List Z0).length 56 then if fits (b+1)then C (o,(b+1),(l++([r]:List Z0)),u)else none else none)else some (l,u)) N (q,(0:Int),([]:List Z0),w)) N (v,D,(0:Int),A,H,([]:List Z1)))
theorem jmU :mK 48 (bX [.agg [.pv (.sl .str),.pv Y17],.pv Y4] [.agg [.own 1 Y5 105 true,.own 2 Y7 116 true]] (c3A (s_l7Of_m N))):=
 mO (fC (jlz N) (fC (jqQ N) (fC (jtr N) (fC (jtC N) ja)))) func48 rfl N (.seq .no (.seq .no (.seq .no (.seq (.seq .no (.block (.loop jn8 (.seq .no (.seq (.block (.seq .no (.seq .no (.block (.loop jpr .no))))) .no))))) (.seq (.seq .no (.block (.loop jn0 .no))) .no))))) _
def jnI :Sh:=⟨.pv Y22:: .pv Y22::dz 3 (pI::dz 20 []),[]⟩
def jb1 (c:List Int) (e:List Int):Z9:=
 (bif !decide ((c.length:Int)=(e.length:Int))then some false else iter (fun h (b,d,a)=>bif decide (a<(b.length:Int))then oB (idx b a) fun f=>(oB (idx d a) fun j=>bif !decide (f=j)then some false else if fits (a+1)then h (b,d,(a+1))else none)else some true) N (c,e,(0:Int)))
theorem jlH :mK 250 (bX [.pv Y22,.pv Y22] [pB] (c2A (jb1 N))):=
 mO ja func250 rfl N (.seq .no (.seq .no (.seq (.seq .no (.block (.loop jnI .no))) .no))) _
def jnx :Sh:=⟨.dead:: .dead:: .box 2 0:: .box 3 0:: .dead::pI::dz 57 [],[(2,false,[pS,pS,.pv Y13]),(3,false,[pS,pS,.pv Y13])]⟩
def jbQ (h:List UInt8) (i:List UInt8) (e:Z5) (d:List UInt8) (j:List UInt8) (f:Z5):Z9:=
 (bif !decide (h=d)then some false else bif !decide (i=j)then some false else bif !decide ((e.length:Int)=(f.length:Int))then some false else iter (fun m (a,r,o,b,k,n,c)=>bif decide (a<(b.length:Int))then oB (idx b a) fun l=>(oB (idx c a) fun t=>bif !decide (l.1=t.1)then some false else oB (idx b a) fun v=>oB (idx c a) fun u=>oB (jb1 N v.2 u.2) fun p=>bif !p then some false else if fits (a+1)then m ((a+1),r,o,b,k,n,c)else none)else some true) N ((0:Int),h,i,e,d,j,f))
theorem jtG :mK 173 (bX [.agg [pS,pS,.pv Y13],.agg [pS,pS,.pv Y13]] [pB] (c6A (jbQ N))):=
 mO (fC (jlH N) ja) func173 rfl N (.seq .no (.seq .no (.seq (.seq .no (.block (.loop jnx .no))) .no))) _
def jrW :Sh:=⟨dz 3 (.box 3 0:: .dead:: .box 5 0::pI::dz 39 []),[(3,false,[.pv Y4,.pv Y6]),(5,false,[.own 700500 Y5 105 true,.own 700501 Y7 116 true])]⟩
def jcR (h:List Z2) (k:List Z4) (d:List Z0) (i:List Z1):Z9:=
 (oB (jcw N h k) fun n=>bif !n then some false else oB (jbU N d) fun p=>bif !p then some false else oB (s_l7Of_m N h k d) fun e=>bif !decide ((e.2.length:Int)=(i.length:Int))then some false else iter (fun m (a,o,j,r,c)=>bif decide (a<(c.length:Int))then oB (idx c a) fun b=>(oB (idx j a) fun f=>oB (jbQ N b.1 b.2.1 b.2.2 f.1 f.2.1 f.2.2) fun l=>bif !l then some false else if fits (a+1)then m ((a+1),o,j,r,c)else none)else some true) N ((0:Int),d,i,e.1,e.2))
theorem jpm :mK 105 (bX [.agg [.pv (.sl .str),.pv Y17],.agg [.pv Y4,.pv Y6]] [pB] (c4A (jcR N))):=
 mO (fC (jtf N) (fC (jpx N) (fC (jmU N) (fC (jtG N) ja)))) func105 rfl N (.seq .no (.seq .no (.seq .no (.seq .no (.seq (.seq .no (.block (.loop jrW .no))) .no))))) _
def jCI :Sh:=⟨.pv Y22:: .dead:: .dead::pI::dz 31 [],[]⟩
def jx3 (i:List Int):Z9:=
 (iter (fun c (b,a)=>bif decide (a<(b.length:Int))then oB (idx b a) fun d=>(oB (jJ N d 0 999999999) fun h=>bif !h then some false else bif decide ((0:Int)<a)then oB (idx b a) fun f=>(if fits (a-1)then oB (idx b (a-1)) fun j=>(bif decide (f<=j)then some false else if fits (a+1)then c (b,(a+1))else none)else none)else if fits (a+1)then c (b,(a+1))else none)else some (decide ((b.length:Int)<=60))) N (i,(0:Int)))
theorem jC9 :mK 106 (bX [.pv Y22] [pB] (c1A (jx3 N))):=
 mO (fC (jcL N) ja) func106 rfl N (.seq .no (.seq (.seq .no (.block (.loop jCI .no))) .no)) _
def jA0 :Sh:=⟨.dead::pI:: .box 2 0:: .dead:: .box 4 0::pI::dz 21 [],[(2,false,[.pv Y4,.pv Y6]),(4,false,[pI,.nils,.nils])]⟩
def jyv (i:List Z0) (h:List Z1) (l:Int):Option Z0:=
 (iter (fun j (d,a,b,e,m)=>bif decide (a<(b.length:Int))then oB (idx b a) fun f=>(bif decide (f.1=d)then oB (idx b a) fun c=>(some (c.1,c.2.1,c.2.2))else if fits (a+1)then j (d,(a+1),b,e,m)else none)else some (0,([]:Z14),([]:Z8))) N (l,(0:Int),i,h,(0:Int)))
theorem jDn :mK 107 (bX [.agg [.pv Y4,.pv Y6],pI] [.agg [pI,.pv Y20,.pv Y16]] (c3A (jyv N))):=
 mO ja func107 rfl N (.seq .no (.seq (.seq .no (.block (.loop jA0 .no))) .no)) _
def jJe :Sh:=⟨.pv Y22::pI::dz 3 (pI::dz 12 []),[]⟩
def jHH (i:List Int) (e:Int):Z9:=
 (iter (fun f (b,c,a)=>bif decide (a<(b.length:Int))then oB (idx b a) fun d=>(bif decide (d=c)then some true else if fits (a+1)then f (b,c,(a+1))else none)else some false) N (i,e,(0:Int)))
theorem jIb :mK 191 (bX [.pv Y22,pI] [pB] (c2A (jHH N))):=
 mO ja func191 rfl N (.seq .no (.seq (.seq .no (.block (.loop jJe .no))) .no)) _
def s_l18Dead_m (d:List Z0) (e:List Z1) (c:List Int) (a:Int):Z9:=
 (oB (jHH N c a) fun b=>some b)
theorem jIy :mK 117 (bX [.agg [.pv Y4,.pv Y6,.pv Y22],pI] [pB] (c4A (s_l18Dead_m N))):=
 mO (fC (jIb N) ja) func117 rfl N .no _
def jIl :Sh:=⟨.pv Y4:: .dead:: .dead:: .box 3 0:: .dead::pI::dz 32 [],[(3,false,[pI,.pv Y20,.pv Y16])]⟩
def s_l18Put_m (o:List Z0) (p:Int) (q:Z14) (r:Z8):Z18:=
 (iter (fun n (a,b,c,j,i)=>bif decide (b<(a.length:Int))then oB (idx a b) fun m=>(bif decide (m.1<c)then if fits (b+1)then n (a,(b+1),c,j,i)else none else oB (cut a 0 b) fun e=>if room ([]:List Z0).length e.length 56 then oB (s_l7CopyDoc_m N c j i) fun f=>(if room (([]:List Z0)++e).length ([f]:List Z0).length 56 then oB (cut a b (a.length:Int)) fun k=>(if room ((([]:List Z0)++e)++([f]:List Z0)).length k.length 56 then some (((([]:List Z0)++e)++([f]:List Z0))++k)else none)else none)else none)else oB (cut a 0 b) fun d=>if room ([]:List Z0).length d.length 56 then oB (s_l7CopyDoc_m N c j i) fun h=>(if room (([]:List Z0)++d).length ([h]:List Z0).length 56 then oB (cut a b (a.length:Int)) fun l=>(if room ((([]:List Z0)++d)++([h]:List Z0)).length l.length 56 then some (((([]:List Z0)++d)++([h]:List Z0))++l)else none)else none)else none) N (o,(0:Int),p,q,r))
theorem jJy :mK 118 (bX [.pv Y4,.agg [pI,.pv Y20,.pv Y16]] [.own 1 Y5 105 false] (c4A (s_l18Put_m N))):=
 mO (fC (jtC N) ja) func118 rfl N (.seq .no (.seq .no (.seq (.block (.loop jIl .no)) .no))) _
def jI2 :Sh:=⟨.dead:: .box 1 0:: .dead:: .own 600003 Y5 105 false::pI::dz 45 [],[(1,false,[.pv (.sl .str),.pv Y17,.pv Y1])]⟩
def jJx :Sh:=⟨.dead:: .box 1 0:: .dead:: .own 600003 Y5 105 false::pI::pI::dz 44 [],[(1,false,[.pv (.sl .str),.pv Y17,.pv Y1])]⟩
def s_l18Docs_m (y:List Z2) (w:List Z4) (u:List Z3):Z18:=
 (iter (fun p (n,k,v,r,m)=>bif decide (k<(m.length:Int))then iter (fun l (e,a,b,f,i,c)=>oB (idx c a) fun o=>bif decide (b<(o.1.1.length:Int))then oB (idx c a) fun x=>(oB (idx x.1.1 b) fun d=>oB (idx c a) fun j=>oB (s_l18Dead_m N j.1.1 j.1.2 j.2 d.1) fun q=>bif !q then oB (s_l18Put_m N e d.1 d.2.1 d.2.2) fun t=>(if fits (b+1)then l (t,a,(b+1),f,i,c)else none)else if fits (b+1)then l (e,a,(b+1),f,i,c)else none)else if fits (a+1)then p (e,(a+1),f,i,c)else none) N (n,k,(0:Int),v,r,m)else some n) N (([]:List Z0),(0:Int),y,w,u))
theorem jH3 :mK 49 (bX [.agg [.pv (.sl .str),.pv Y17,.pv Y1]] [.own 1 Y5 105 false] (c3A (s_l18Docs_m N))):=
 mO (fC (jIy N) (fC (jJy N) ja)) func49 rfl N (.seq .no (.seq .no (.seq (.seq .no (.block (.loop jI2 (.seq .no (.seq (.block (.seq .no (.block (.loop jJx .no)))) .no))))) .no))) _
def jIz :Sh:=⟨.dead:: .box 1 0:: .dead::pI::dz 67 [],[(1,false,[.pv (.sl .str),.pv Y17,.pv Y1])]⟩
def jJd :Sh:=⟨.dead:: .box 1 0:: .dead::pI:: .box 4 0::pI::dz 22 (pB::dz 9 (pB::dz 32 [])),[(1,false,[.pv (.sl .str),.pv Y17,.pv Y1]),(4,false,[.pv Y4,.pv Y6,.pv Y22])]⟩
def s_l18Ok_m (D:List Z2) (A:List Z4) (z:List Z3):Z9:=
 (iter (fun r (f,e,d,b)=>bif decide (f<(b.length:Int))then oB (idx b f) fun a=>(oB (jcR N e d a.1.1 a.1.2) fun w=>bif !w then some false else oB (jx3 N a.2) fun n=>bif !n then some false else bif decide ((a.1.1.length:Int)<=(a.2.length:Int))then some false else iter (fun x (h,c,t,y,l,p,k,m,o,j)=>bif decide (c<(j.length:Int))then oB (idx j c) fun B=>(oB (jyv N m o B) fun C=>bif decide (C.1=0)then some false else if fits (c+1)then x (h,(c+1),t,y,l,p,k,m,o,j)else none)else if fits (h+1)then r ((h+1),l,p,k)else none) N (f,(0:Int),(!n),(decide ((a.1.1.length:Int)<=(a.2.length:Int))),e,d,b,a.1.1,a.1.2,a.2))else oB (jcw N e d) fun q=>bif q then bif decide ((b.length:Int)<=5)then oB (s_l18Docs_m N e d b) fun v=>(oB (jbU N v) fun u=>some u)else(some false)else some false) N ((0:Int),D,A,z))
theorem jIW :mK 44 (bX [.agg [.pv (.sl .str),.pv Y17,.pv Y1]] [pB] (c3A (s_l18Ok_m N))):=
 mO (fC (jpm N) (fC (jC9 N) (fC (jDn N) (fC (jtf N) (fC (jH3 N) (fC (jpx N) ja)))))) func44 rfl N (.seq .no (.seq (.seq .no (.block (.loop jIz (.seq .no (.seq (.block (.seq .no (.seq .no (.seq .no (.block (.loop jJd .no)))))) .no))))) .no)) _
def jMc :Sh:=⟨.pv Y13:: .dead:: .dead:: .own 600003 Y14 196 true::pI::dz 24 [],[]⟩
def s_l7CopyPosts_m (i:Z5):Option (Z16):=
 (iter (fun f (b,c,a)=>bif decide (a<(b.length:Int))then oB (idx b a) fun e=>(oB (idx b a) fun d=>if room ([]:List Int).length d.2.length 8 then if room c.length ([(e.1,(([]:List Int)++d.2))]:Z5).length 32 then if fits (a+1)then f (b,(c++([(e.1,(([]:List Int)++d.2))]:Z5)),(a+1))else none else none else none)else some c) N (i,([]:Z5),(0:Int)))
theorem jLV :mK 237 (bX [.pv Y13] [.own 1 Y14 196 true] (c1A (s_l7CopyPosts_m N))):=
 mO ja func237 rfl N (.seq .no (.seq .no (.seq (.seq .no (.block (.loop jMc .no))) .no))) _
def jLx :Sh:=⟨.dead:: .box 1 0:: .box 2 0:: .box 3 0::pI::dz 47 [],[(1,false,[.pv Y4,.pv Y6]),(2,false,[.nils,.nils]),(3,false,[.own 700300 Y5 105 true,.nils])]⟩
def jKX :Sh:=⟨.dead:: .box 1 0:: .box 2 0:: .box 3 0:: .dead::pI::dz 46 [],[(1,false,[.pv Y4,.pv Y6]),(2,false,[.nils,.nils]),(3,false,[.own 700300 Y5 105 true,.own 700301 Y7 116 true])]⟩
def s_l18CopySeg_m (t:List Z0) (o:List Z1):Option ((List Z0)×(List Z1)):=
 (iter (fun p (b,c,n,i)=>bif decide (b<(c.length:Int))then oB (idx c b) fun e=>(oB (s_l7CopyDoc_m N e.1 e.2.1 e.2.2) fun l=>if room i.length ([l]:List Z0).length 56 then if fits (b+1)then p ((b+1),c,n,(i++([l]:List Z0)))else none else none)else iter (fun q (d,r,h,k,f)=>bif decide (d<(h.length:Int))then oB (idx h d) fun a=>(oB (s_l7CopyPosts_m N a.2.2) fun m=>if room f.length ([(a.1,a.2.1,m)]:List Z1).length 56 then if fits (d+1)then q ((d+1),r,h,k,(f++([(a.1,a.2.1,m)]:List Z1)))else none else none)else some (k,f)) N ((0:Int),c,n,i,([]:List Z1))) N ((0:Int),t,o,([]:List Z0)))
theorem jK3 :mK 163 (bX [.agg [.pv Y4,.pv Y6]] [.agg [.own 1 Y5 105 true,.own 2 Y7 116 true]] (c2A (s_l18CopySeg_m N))):=
 mO (fC (jtC N) (fC (jLV N) ja)) func163 rfl N (.seq .no (.seq .no (.seq (.seq .no (.block (.loop jLx .no))) (.seq (.seq .no (.block (.loop jKX .no))) .no)))) _
def jMK :Sh:=⟨.dead:: .box 1 0:: .box 2 0:: .box 3 0::pI::dz 33 [],[(1,false,[.pv (.sl .str),.pv Y17,.pv Y1]),(2,false,[.nils,.nils,.nils]),(3,false,[.own 700300 .str 9 true,.own 700301 Y19 172 true,.own 700302 Y2 96 true])]⟩
def s_l18Copy_m (j:List Z2) (h:List Z4) (m:List Z3):Option ((List Z2)×(List Z4)×(List Z3)):=
 (oB (s_l18CopyConf_m N j h) fun k=>iter (fun o (a,n,q,b,i,e,c)=>bif decide (a<(b.length:Int))then oB (idx b a) fun f=>(oB (s_l18CopySeg_m N f.1.1 f.1.2) fun l=>oB (idx b a) fun d=>if room ([]:List Int).length d.2.length 8 then if room c.length ([(l,(([]:List Int)++d.2))]:List Z3).length 72 then if fits (a+1)then o ((a+1),n,q,b,i,e,(c++([(l,(([]:List Int)++d.2))]:List Z3)))else none else none else none)else some (i,e,c)) N ((0:Int),j,h,m,k.1,k.2,([]:List Z3)))
theorem jL0 :mK 99 (bX [.agg [.pv (.sl .str),.pv Y17,.pv Y1]] [.agg [.own 1 .str 9 true,.own 2 Y19 172 true,.own 3 Y2 96 true]] (c3A (s_l18Copy_m N))):=
 mO (fC (jMp N) (fC (jK3 N) ja)) func99 rfl N (.seq .no (.seq .no (.seq (.seq .no (.block (.loop jMK .no))) .no))) _
def jLU :Sh:=⟨.pv Y22::pI::dz 3 (pI::dz 42 []),[]⟩
def s_l8Put_m (p:List Int) (n:Int):Option ((List Int)):=
 (iter (fun o (a,c,b)=>bif decide (b<(a.length:Int))then oB (idx a b) fun m=>(bif decide (m<c)then if fits (b+1)then o (a,c,(b+1))else none else bif decide (b<(a.length:Int))then oB (idx a b) fun r=>(bif decide (r=c)then some a else oB (cut a 0 b) fun f=>if room ([]:List Int).length f.length 8 then if room (([]:List Int)++f).length ([c]:List Int).length 8 then oB (cut a b (a.length:Int)) fun i=>(if room ((([]:List Int)++f)++([c]:List Int)).length i.length 8 then some (((([]:List Int)++f)++([c]:List Int))++i)else none)else none else none)else oB (cut a 0 b) fun d=>if room ([]:List Int).length d.length 8 then if room (([]:List Int)++d).length ([c]:List Int).length 8 then oB (cut a b (a.length:Int)) fun k=>(if room ((([]:List Int)++d)++([c]:List Int)).length k.length 8 then some (((([]:List Int)++d)++([c]:List Int))++k)else none)else none else none)else bif decide (b<(a.length:Int))then oB (idx a b) fun t=>(bif decide (t=c)then some a else oB (cut a 0 b) fun e=>if room ([]:List Int).length e.length 8 then if room (([]:List Int)++e).length ([c]:List Int).length 8 then oB (cut a b (a.length:Int)) fun j=>(if room ((([]:List Int)++e)++([c]:List Int)).length j.length 8 then some (((([]:List Int)++e)++([c]:List Int))++j)else none)else none else none)else oB (cut a 0 b) fun h=>if room ([]:List Int).length h.length 8 then if room (([]:List Int)++h).length ([c]:List Int).length 8 then oB (cut a b (a.length:Int)) fun l=>(if room ((([]:List Int)++h)++([c]:List Int)).length l.length 8 then some (((([]:List Int)++h)++([c]:List Int))++l)else none)else none else none) N (p,n,(0:Int)))
theorem jLS :mK 301 (bX [.pv Y22,pI] [.pv Y22] (c2A (s_l8Put_m N))):=
 mO ja func301 rfl N (.seq .no (.seq .no (.seq (.block (.loop jLU .no)) .no))) _
def jL4 :Sh:=⟨.dead::pI:: .box 2 0:: .dead:: .box 4 0:: .dead:: .box 6 0::pB::pI::dz 43 [],[(2,false,[.pv (.sl .str),.pv Y17,.pv Y1]),(4,false,[.nils,.nils,.nils]),(6,false,[.pv (.sl .str),.pv Y17,.own 700602 Y2 96 false])]⟩
def jLD :Sh:=⟨.dead::pI:: .box 2 0:: .dead:: .box 4 0:: .dead:: .box 6 0::pB::pI:: .box 9 0::dz 42 [],[(2,false,[.pv (.sl .str),.pv Y17,.pv Y1]),(4,false,[.nils,.nils,.nils]),(6,false,[.pv (.sl .str),.pv Y17,.own 700602 Y2 96 false]),(9,false,[.pv Y4,.pv Y6,.pv Y22])]⟩
def s_l18Gone_m (t:List Z2) (r:List Z4) (C:List Z3) (G:Int):Z19:=
 (iter (fun w (b,i,c,l,k,d,h,e,f)=>bif decide (c<(d.length:Int))then oB (idx d c) fun a=>(meet (fun(m:Int×Bool×Int×(List Z2)×(List Z4)×(List Z3)×(List Z2)×(List Z4)×(List Z3)×(List Z0)×(List Z1)×(List Int))=>match m with|(y,D,q,x,H,v,A,I,n,o,p,u)=>if room n.length ([((o,p),u)]:List Z3).length 72 then if fits (q+1)then w (y,D,(q+1),x,H,v,A,I,(n++([((o,p),u)]:List Z3)))else none else none) fun j=>oB (jyv N a.1.1 a.1.2 b) fun z=>bif !decide (z.1=0)then oB (s_l18Dead_m N a.1.1 a.1.2 a.2 b) fun B=>(bif !B then if room ([]:List Int).length a.2.length 8 then oB (s_l8Put_m N (([]:List Int)++a.2) b) fun E=>(j (b,true,c,l,k,d,h,e,f,a.1.1,a.1.2,E))else none else j (b,i,c,l,k,d,h,e,f,a.1.1,a.1.2,a.2))else j (b,i,c,l,k,d,h,e,f,a.1.1,a.1.2,a.2))else some (h,e,f,i)) N (G,false,(0:Int),t,r,C,t,r,([]:List Z3)))
theorem jLr :mK 238 (bX [.agg [.pv (.sl .str),.pv Y17,.pv Y1],pI] [.tup [.agg [.pv (.sl .str),.pv Y17,.own 1 Y2 96 false],pB]] (c4A (s_l18Gone_m N))):=
 mO (fC (jDn N) (fC (jIy N) (fC (jLS N) ja))) func238 rfl N (.seq .no (.seq .no (.seq .no (.seq (.seq .no (.block (.loop jL4 (.seq .no (.seq (.block (.seq .no (.meet jLD .no .no))) .no))))) .no)))) _
def jL1 :Sh:=⟨.dead:: .box 1 0:: .box 2 0:: .box 3 0::pI::dz 37 [],[(1,false,[.pv (.sl .str),.pv Y17,.pv Y1]),(2,false,[.nils,.nils,.nils]),(3,false,[.pv (.sl .str),.pv Y17,.own 700302 Y2 96 false])]⟩
def s_l18Full_m (j:List Z2) (h:List Z4) (m:List Z3):Option ((List Z2)×(List Z4)×(List Z3)):=
 (iter (fun i (a,f,l,b,e,d,c)=>bif decide (a<(b.length:Int))then oB (idx b a) fun n=>(oB (idx b a) fun p=>bif decide ((n.2.length:Int)<(p.1.1.length:Int))then oB (idx b a) fun k=>(if room c.length ([k]:List Z3).length 72 then if fits (a+1)then i ((a+1),f,l,b,e,d,(c++([k]:List Z3)))else none else none)else if fits (a+1)then i ((a+1),f,l,b,e,d,c)else none)else some (e,d,c)) N ((0:Int),j,h,m,j,h,([]:List Z3)))
theorem jM5 :mK 239 (bX [.agg [.pv (.sl .str),.pv Y17,.pv Y1]] [.agg [.pv (.sl .str),.pv Y17,.own 1 Y2 96 false]] (c3A (s_l18Full_m N))):=
 mO ja func239 rfl N (.seq .no (.seq .no (.seq (.seq .no (.block (.loop jL1 .no))) .no))) _
def s_IndexDrop_m (f:List Z2) (e:List Z4) (d:List Z3) (h:Int):Z19:=
 (oB (s_l18Ok_m N f e d) fun i=>bif !i then some (([]:List Z2),([]:List Z4),([]:List Z3),false)else oB (s_l18Copy_m N f e d) fun c=>oB (s_l18Gone_m N c.1 c.2.1 c.2.2 h) fun a=>oB (s_l18Full_m N a.1 a.2.1 a.2.2.1) fun b=>some (b.1,b.2.1,b.2.2,a.2.2.2))
theorem jLL :mK 166 (bX [.agg [.pv (.sl .str),.pv Y17,.pv Y1],pI] [.tup [.agg [.pv (.sl .str),.pv Y17,.own 1 Y2 96 false],pB]] (c4A (s_IndexDrop_m N))):=
 mO (fC (jIW N) (fC (jL0 N) (fC (jLr N) (fC (jM5 N) ja)))) func166 rfl N .no _
def s_IndexMerge_m (f:List Z2) (e:List Z4) (b:List Z3) (a:Int):Z19:=
 (oB (s_l18Ok_m N f e b) fun m=>bif !m then some (([]:List Z2),([]:List Z4),([]:List Z3),false)else if fits ((b.length:Int)-2)then oB (jJ N a 0 ((b.length:Int)-2)) fun n=>(bif !n then oB (s_l18Copy_m N f e b) fun h=>(some (h.1,h.2.1,h.2.2,false))else if fits (a+2)then oB (cut b a (a+2)) fun l=>(oB (s_l18Docs_m N ([]:List Z2) ([]:List Z4) l) fun k=>oB (s_l18Copy_m N f e b) fun c=>oB (cut c.2.2 0 a) fun d=>if room ([]:List Z3).length d.length 72 then oB (s_l7Of_m N f e k) fun i=>(if room (([]:List Z3)++d).length ([(i,([]:List Int))]:List Z3).length 72 then if fits (a+2)then oB (cut c.2.2 (a+2) (c.2.2.length:Int)) fun j=>(if room ((([]:List Z3)++d)++([(i,([]:List Int))]:List Z3)).length j.length 72 then some (c.1,c.2.1,(((([]:List Z3)++d)++([(i,([]:List Int))]:List Z3))++j),true)else none)else none else none)else none)else none)else none)
theorem jNO :mK 167 (bX [.agg [.pv (.sl .str),.pv Y17,.pv Y1],pI] [.tup [.agg [.own 1 .str 9 true,.own 2 Y19 172 true,.own 3 Y2 96 false],pB]] (c4A (s_IndexMerge_m N))):=
 mO (fC (jIW N) (fC (jcL N) (fC (jL0 N) (fC (jH3 N) (fC (jmU N) ja))))) func167 rfl N .no _
def s_l30Rd_of_m (b:List Z2) (c:List Int) (e:Int):Option (Z2×(List Int)×Int):=
 (oB (jtW N (b.length:Int) c e) fun a=>oB (idx b a.1) fun d=>some (d,a.2.1,a.2.2))
theorem jt3 :mK 139 ⟨⟨[.box 900000 0,.pv (.sl .str)],[(900000,false,[.pv (.sl (.int .u8)),pI])]⟩,⟨[pS],[(900000,false,[.pv (.sl (.int .u8)),pI])]⟩,c3A (s_l30Rd_of_m N)⟩:=
 mO (fC (jtX N) ja) func139 rfl N .no _ (rs:=[900000])
def jt1 (b:List Int) (c:Int):Option (Z2×(List Int)×Int):=
 (oB (s_l30Rd_of_m N ([([99,97,116]:List UInt8),([67,97,116,115]:List UInt8),([100,111,103]:List UInt8),([100,111,103,115]:List UInt8),([114,117,110]:List UInt8),([82,85,78,78,73,78,71]:List UInt8),([116,104,101]:List UInt8),([114,101,100]:List UInt8),([98,105,103]:List UInt8),([110,101,119,32,121,111,114,107]:List UInt8),([78,101,119,32,32,89,111,114,107]:List UInt8),([110,121]:List UInt8),([102,111,120]:List UInt8),([112,97,115,115,101,100]:List UInt8),([120,49]:List UInt8),([97,118,101,114,121,118,101,114,121,108,111,110,103,119,111,114,100]:List UInt8)]:List Z2) b c) fun a=>some (a.1,a.2.1,a.2.2))
theorem jvg :mK 335 ⟨⟨[.box 900000 0],[(900000,false,[.pv (.sl (.int .u8)),pI])]⟩,⟨[pS],[(900000,false,[.pv (.sl (.int .u8)),pI])]⟩,c2A (jt1 N)⟩:=
 mO (fC (jt3 N) ja) func335 rfl N .no _ (rs:=[900000])
def juP :Sh:=⟨.box 900000 0:: .dead:: .dead::pS::pI::dz 15 [],[(900000,false,[.pv (.sl (.int .u8)),pI])]⟩
def jtZ (l:List Int) (i:Int):Option (Z2×(List Int)×Int):=
 (oB (jtW N 9 l i) fun e=>iter (fun j (b,d,h,f)=>bif decide ((0:Int)<d)then oB (jt1 N h f) fun a=>(if b.length+a.1.length<=9223372036854775807 then oB (s_l30Rd_of_m N ([([32]:List UInt8),([32]:List UInt8),([44,32]:List UInt8),([45]:List UInt8),([46,32]:List UInt8)]:List Z2) a.2.1 a.2.2) fun c=>(if(b++a.1).length+c.1.length<=9223372036854775807 then if fits (d-1)then j (((b++a.1)++c.1),(d-1),c.2.1,c.2.2)else none else none)else none)else some (b,h,f)) N (([]:List UInt8),e.1,e.2.1,e.2.2))
theorem juT :mK 302 ⟨⟨[.box 900000 0],[(900000,false,[.pv (.sl (.int .u8)),pI])]⟩,⟨[pS],[(900000,false,[.pv (.sl (.int .u8)),pI])]⟩,c2A (jtZ N)⟩:=
 mO (fC (jtX N) (fC (jvg N) (fC (jt3 N) ja))) func302 rfl N (.seq .no (.seq .no (.seq (.seq .no (.block (.loop juP .no))) .no))) _ (rs:=[900000])
def juy :Sh:=⟨.box 900000 0::dz 3 (.box 4 0:: .box 5 0::dz 48 []),[(4,false,[pI,.nils,.nils]),(5,false,[pI,.own 28 Y21 107 true,.own 39 Y18 258 true]),(900000,false,[.pv (.sl (.int .u8)),pI])]⟩
def juX :Sh:=⟨.box 900000 0::dz 3 (.box 4 0:: .box 5 0::dz 48 []),[(4,false,[pI,.nils,.nils]),(5,false,[pI,.own 28 Y21 107 true,.nils]),(900000,false,[.pv (.sl (.int .u8)),pI])]⟩
def jvb :Sh:=⟨.box 900000 0::dz 3 (.box 4 0:: .box 5 0::dz 48 []),[(4,false,[pI,.nils,.nils]),(5,false,[pI,.own 17 Y21 107 true,.nils]),(900000,false,[.pv (.sl (.int .u8)),pI])]⟩
def s_l30Doc_m (x:Int) (C:List Int) (E:Int):Option (Int×Z12×Z7×(List Int)×Int):=
 (meet (fun(d:Int×Int×Z12×(List Int)×Int)=>match d with|(r,u,k,y,A)=>meet (fun(d:Int×Int×Z12×(List Int)×Int)=>match d with|(m,w,p,D,B)=>meet (fun(d:Int×Int×Z12×Z7×(List Int)×Int)=>match d with|(H,v,t,l,G,z)=>oB (jtW N 3 G z) fun a=>bif decide (a.1=0)then oB (jtW N 30 a.2.1 a.2.2) fun f=>(if fits (2000+f.1)then if room l.length ([(([121,101,97,114]:List UInt8),(2000+f.1))]:Z8).length 24 then some (v,t,(l++([(([121,101,97,114]:List UInt8),(2000+f.1))]:Z8)),f.2.1,f.2.2)else none else none)else some (v,t,l,a.2.1,a.2.2)) fun n=>oB (jtW N 3 D B) fun b=>bif decide ((0:Int)<b.1)then oB (jtW N 4 b.2.1 b.2.2) fun i=>(if room ([]:Z8).length ([(([114,97,116,101]:List UInt8),i.1)]:Z8).length 24 then n (m,w,p,(([]:Z8)++([(([114,97,116,101]:List UInt8),i.1)]:Z8)),i.2.1,i.2.2)else none)else n (m,w,p,([]:Z8),b.2.1,b.2.2)) fun o=>oB (jtW N 3 y A) fun e=>bif decide (e.1=0)then oB (jtZ N e.2.1 e.2.2) fun h=>(if room k.length ([(([116,105,116,108,101]:List UInt8),h.1)]:Z14).length 32 then o (r,u,(k++([(([116,105,116,108,101]:List UInt8),h.1)]:Z14)),h.2.1,h.2.2)else none)else o (r,u,k,e.2.1,e.2.2)) fun q=>oB (jtW N 6 C E) fun c=>bif decide ((0:Int)<c.1)then oB (jtZ N c.2.1 c.2.2) fun j=>(if room ([]:Z14).length ([(([98,111,100,121]:List UInt8),j.1)]:Z14).length 32 then q (0,x,(([]:Z14)++([(([98,111,100,121]:List UInt8),j.1)]:Z14)),j.2.1,j.2.2)else none)else q (0,x,([]:Z14),c.2.1,c.2.2))
theorem jvf :mK 240 ⟨⟨[.box 900000 0,pI],[(900000,false,[.pv (.sl (.int .u8)),pI])]⟩,⟨[.agg [pI,.own 1 Y21 107 true,.own 2 Y18 258 true]],[(900000,false,[.pv (.sl (.int .u8)),pI])]⟩,c3A (s_l30Doc_m N)⟩:=
 mO (fC (jtX N) (fC (juT N) ja)) func240 rfl N (.seq .no (.seq .no (.meet jvb .no (.meet juX .no (.meet juy .no .no))))) _ (rs:=[900000])
def juU :Sh:=⟨.box 900000 0:: .dead:: .dead:: .own 600003 Y5 105 true::pI::pI::dz 19 [],[(900000,false,[.pv (.sl (.int .u8)),pI])]⟩
def s_l30Docs_m (m:List Int) (j:Int):Option ((List Z0)×(List Int)×Int):=
 (oB (jtW N 6 m j) fun f=>iter (fun k (d,c,e,i,h)=>bif decide ((0:Int)<e)then if fits (c+1)then oB (jtW N 3 i h) fun b=>(if fits ((c+1)+b.1)then oB (s_l30Doc_m N ((c+1)+b.1) b.2.1 b.2.2) fun a=>(if room d.length ([(a.1,a.2.1,a.2.2.1)]:List Z0).length 56 then if fits (e-1)then k ((d++([(a.1,a.2.1,a.2.2.1)]:List Z0)),((c+1)+b.1),(e-1),a.2.2.2.1,a.2.2.2.2)else none else none)else none)else none else some (d,i,h)) N (([]:List Z0),(0:Int),f.1,f.2.1,f.2.2))
theorem juO :mK 169 ⟨⟨[.box 900000 0],[(900000,false,[.pv (.sl (.int .u8)),pI])]⟩,⟨[.own 1 Y5 105 true],[(900000,false,[.pv (.sl (.int .u8)),pI])]⟩,c2A (s_l30Docs_m N)⟩:=
 mO (fC (jtX N) (fC (jvf N) ja)) func169 rfl N (.seq .no (.seq .no (.seq .no (.seq (.seq .no (.block (.loop juU .no))) .no)))) _ (rs:=[900000])
def jNS :Sh:=⟨.dead:: .pv Y4:: .box 2 0:: .dead:: .box 4 0:: .dead:: .box 6 0::pI::dz 53 [],[(2,false,[.pv (.sl .str),.pv Y17,.pv Y1]),(4,false,[.nils,.nils,.nils]),(6,false,[.pv (.sl .str),.pv Y17,.own 700602 Y2 96 false])]⟩
def s_IndexAdd_m (d:List Z2) (c:List Z4) (b:List Z3) (m:List Z0):Z19:=
 (oB (s_l18Ok_m N d c b) fun y=>bif !y then some (([]:List Z2),([]:List Z4),([]:List Z3),false)else oB (jbU N m) fun z=>bif !z then oB (s_l18Copy_m N d c b) fun n=>(some (n.1,n.2.1,n.2.2,false))else bif decide ((m.length:Int)=0)then oB (s_l18Copy_m N d c b) fun h=>(some (h.1,h.2.1,h.2.2,false))else oB (s_l18Copy_m N d c b) fun j=>iter (fun x (f,e,l,k,t,u,q,r)=>bif decide (e<(f.length:Int))then oB (idx f e) fun v=>(oB (s_l18Gone_m N u q r v.1) fun i=>if fits (e+1)then x (f,(e+1),l,k,t,i.1,i.2.1,i.2.2.1)else none)else oB (s_l18Full_m N u q r) fun a=>oB (s_l7Of_m N l k f) fun p=>if room a.2.2.length ([(p,([]:List Int))]:List Z3).length 72 then oB (s_l18Ok_m N a.1 a.2.1 (a.2.2++([(p,([]:List Int))]:List Z3))) fun w=>(bif !w then oB (s_l18Copy_m N l k t) fun o=>(some (o.1,o.2.1,o.2.2,false))else some (a.1,a.2.1,(a.2.2++([(p,([]:List Int))]:List Z3)),true))else none) N (m,(0:Int),d,c,b,j.1,j.2.1,j.2.2))
theorem jNM :mK 168 (bX [.agg [.pv (.sl .str),.pv Y17,.pv Y1],.pv Y4] [.tup [.agg [.pv (.sl .str),.pv Y17,.own 1 Y2 96 false],pB]] (c4A (s_IndexAdd_m N))):=
 mO (fC (jIW N) (fC (jpx N) (fC (jL0 N) (fC (jLr N) (fC (jM5 N) (fC (jmU N) ja)))))) func168 rfl N (.seq .no (.seq .no (.seq .no (.seq .no (.seq (.seq .no (.block (.loop jNS .no))) .no))))) _
def jOd :Sh:=⟨.box 900000 0:: .dead:: .box 2 0:: .box 3 0::pI::dz 47 [],[(2,false,[.nils,.nils,.nils]),(3,false,[.pv (.sl .str),.pv Y17,.own 700302 Y2 96 false]),(900000,false,[.pv (.sl (.int .u8)),pI])]⟩
def s_l30Index_m (t:List Int) (u:Int):Option ((List Z2)×(List Z4)×(List Z3)×(List Int)×Int):=
 (oB (s_l30Conf_m N t u) fun d=>oB (s_IndexNew_m N d.1 d.2.1) fun r=>oB (jtW N 7 d.2.2.1 d.2.2.2) fun m=>iter (fun j (b,h,f,e,q,p)=>bif decide ((0:Int)<b)then oB (jtW N 5 q p) fun a=>(bif decide (a.1=0)then oB (jtW N 8 a.2.1 a.2.2) fun c=>(if fits (1+c.1)then oB (s_IndexDrop_m N h f e (1+c.1)) fun l=>(if fits (b-1)then j ((b-1),l.1,l.2.1,l.2.2.1,c.2.1,c.2.2)else none)else none)else bif decide (a.1=1)then oB (jtW N 3 a.2.1 a.2.2) fun k=>(oB (s_IndexMerge_m N h f e k.1) fun o=>if fits (b-1)then j ((b-1),o.1,o.2.1,o.2.2.1,k.2.1,k.2.2)else none)else oB (s_l30Docs_m N a.2.1 a.2.2) fun i=>oB (s_IndexAdd_m N h f e i.1) fun n=>if fits (b-1)then j ((b-1),n.1,n.2.1,n.2.2.1,i.2.1,i.2.2)else none)else some (h,f,e,q,p)) N (m.1,r.1,r.2,([]:List Z3),m.2.1,m.2.2))
theorem jNR :mK 100 ⟨⟨[.box 900000 0],[(900000,false,[.pv (.sl (.int .u8)),pI])]⟩,⟨[.agg [.pv (.sl .str),.pv Y17,.own 1 Y2 96 false]],[(900000,false,[.pv (.sl (.int .u8)),pI])]⟩,c2A (s_l30Index_m N)⟩:=
 mO (fC (jva N) (fC (jOh N) (fC (jtX N) (fC (jLL N) (fC (jNO N) (fC (juO N) (fC (jNM N) ja))))))) func100 rfl N (.seq .no (.seq .no (.seq (.seq .no (.block (.loop jOd .no))) .no))) _ (rs:=[900000])
def s_l30Rd_one_m (b:List Int) (c:List Int) (e:Int):Option (Int×(List Int)×Int):=
 (oB (jtW N (b.length:Int) c e) fun a=>oB (idx b a.1) fun d=>some (d,a.2.1,a.2.2))
theorem juA :mK 41 ⟨⟨[.box 900000 0,.pv Y22],[(900000,false,[.pv (.sl (.int .u8)),pI])]⟩,⟨[pI],[(900000,false,[.pv (.sl (.int .u8)),pI])]⟩,c3A (s_l30Rd_one_m N)⟩:=
 mO (fC (jtX N) ja) func41 rfl N .no _ (rs:=[900000])
def s_l30AnyIndex_m (l:List Int) (k:Int):Option ((List Z2)×(List Z4)×(List Z3)×(List Int)×Int):=
 (oB (s_l30Index_m N l k) fun d=>oB (s_l18Copy_m N d.1 d.2.1 d.2.2.1) fun a=>bif decide ((0:Int)<a.2.2.length)then oB (jtW N (a.2.2.length:Int) d.2.2.2.1 d.2.2.2.2) fun b=>(oB (jtW N 16 b.2.1 b.2.2) fun c=>bif decide (c.1=0)then oB (a.2.2[b.1.toNat]?) fun f=>(if 0<=b.1/\b.1<(a.2.2.length:Int)then oB (a.2.2[b.1.toNat]?) fun n=>(if b.1.toNat=b.1.toNat then oB (s_l30Rd_one_m N ([1,77]:List Int) c.2.1 c.2.2) fun e=>(if room f.2.length ([e.1]:List Int).length 8 then if 0<=b.1/\b.1<(a.2.2.length:Int)then if b.1.toNat=b.1.toNat then oB (a.2.2[b.1.toNat]?) fun m=>(some (a.1,a.2.1,(a.2.2.set b.1.toNat (m.1,(f.2++([e.1]:List Int)))),e.2.1,e.2.2))else none else none else none)else none)else none)else bif decide (c.1=1)then if 0<=b.1/\b.1<(a.2.2.length:Int)then oB (a.2.2[b.1.toNat]?) fun h=>(if room a.2.2.length ([h]:List Z3).length 72 then some (a.1,a.2.1,(a.2.2++([h]:List Z3)),c.2.1,c.2.2)else none)else none else bif decide (c.1=2)then oB (a.2.2[b.1.toNat]?) fun i=>(if 0<=b.1/\b.1<(a.2.2.length:Int)then oB (a.2.2[b.1.toNat]?) fun o=>(if b.1.toNat=b.1.toNat then if room i.1.2.length ([(([]:List UInt8),([]:List UInt8),([]:Z5))]:List Z1).length 56 then if 0<=b.1/\b.1<(a.2.2.length:Int)then if b.1.toNat=b.1.toNat then oB (a.2.2[b.1.toNat]?) fun j=>(some (a.1,a.2.1,(a.2.2.set b.1.toNat ((j.1.1,(i.1.2++([(([]:List UInt8),([]:List UInt8),([]:Z5))]:List Z1))),j.2)),c.2.1,c.2.2))else none else none else none else none)else none)else some (a.1,a.2.1,a.2.2,c.2.1,c.2.2))else some (a.1,a.2.1,a.2.2,d.2.2.2.1,d.2.2.2.2))
theorem jNZ :mK 39 ⟨⟨[.box 900000 0],[(900000,false,[.pv (.sl (.int .u8)),pI])]⟩,⟨[.agg [.own 1 .str 9 true,.own 2 Y19 172 true,.own 3 Y2 96 false]],[(900000,false,[.pv (.sl (.int .u8)),pI])]⟩,c2A (s_l30AnyIndex_m N)⟩:=
 mO (fC (jNR N) (fC (jL0 N) (fC (jtX N) (fC (juA N) ja)))) func39 rfl N (.seq .no (.seq .no (.seq (.seq .no (.cond (.seq .no (.seq .no (.block (.seq .no (.cond (.touch [.outs 9 4 [(2,200,3)]]) (.seq .no (.cond (.touch [.thaw 3 2]) (.seq .no (.cond (.touch [.outs 9 4 [(1,201,116)]]) .no))))))))) .no)) .no))) _ (wr:=[34,47,62,63]) (rs:=[900000]) (dw:=[7,62])
def s_l30Known_m (N:Nat):Option ((List Z2)):=
 (some ([([99,97,116]:List UInt8),([99,97,116,115]:List UInt8),([100,111,103]:List UInt8),([100,111,103,115]:List UInt8),([114,117,110]:List UInt8),([114,117,110,110,105,110,103]:List UInt8),([116,104,101]:List UInt8),([114,101,100]:List UInt8),([98,105,103]:List UInt8),([110,101,119]:List UInt8),([121,111,114,107]:List UInt8),([110,121]:List UInt8),([102,111,120]:List UInt8)]:List Z2))
theorem jGd :mK 140 ⟨⟨[],[]⟩,⟨[.own 1 .str 9 true],[]⟩,fun a=>s_l30Known_m N⟩:=
 mO ja func140 rfl N .no _
def s_l30Leaf_m (p:List Int) (m:Int):Option (Int×Z2×(List Z2)×Int×Int×(List Int)×Int):=
 (oB (s_l30Rd_of_m N ([([98,111,100,121]:List UInt8),([98,111,100,121]:List UInt8),([116,105,116,108,101]:List UInt8)]:List Z2) p m) fun b=>oB (jtW N 9 b.2.1 b.2.2) fun a=>bif decide (a.1=0)then some (1,([]:List UInt8),([]:List Z2),0,0,a.2.1,a.2.2)else bif decide (a.1=1)then oB (s_l30Known_m N) fun n=>(oB (s_l30Rd_of_m N n a.2.1 a.2.2) fun f=>oB (s_l30Known_m N) fun o=>oB (s_l30Rd_of_m N o f.2.1 f.2.2) fun j=>oB (jtW N 3 j.2.1 j.2.2) fun i=>some (3,b.1,([f.1,j.1]:List Z2),i.1,0,i.2.1,i.2.2))else bif decide (a.1=2)then oB (s_l30Rd_of_m N ([([99,111,116]:List UInt8),([100,117,103]:List UInt8),([114,110]:List UInt8),([102,111,103]:List UInt8)]:List Z2) a.2.1 a.2.2) fun l=>(oB (jtW N 2 l.2.1 l.2.2) fun e=>if fits (1+e.1)then some (4,b.1,([l.1]:List Z2),(1+e.1),0,e.2.1,e.2.2)else none)else bif decide (a.1=3)then oB (s_l30Rd_of_m N ([([99,42]:List UInt8),([63,111,63]:List UInt8),([42,110]:List UInt8),([42]:List UInt8)]:List Z2) a.2.1 a.2.2) fun k=>(some (5,b.1,([k.1]:List Z2),0,0,k.2.1,k.2.2))else bif decide (a.1=4)then oB (jtW N 4 a.2.1 a.2.2) fun c=>(oB (jtW N 3 c.2.1 c.2.2) fun d=>if fits (c.1+d.1)then some (6,([114,97,116,101]:List UInt8),([]:List Z2),c.1,(c.1+d.1),d.2.1,d.2.2)else none)else oB (s_l30Known_m N) fun q=>oB (s_l30Rd_of_m N q a.2.1 a.2.2) fun h=>some (2,b.1,([h.1]:List Z2),0,0,h.2.1,h.2.2))
theorem jGD :mK 64 ⟨⟨[.box 900000 0],[(900000,false,[.pv (.sl (.int .u8)),pI])]⟩,⟨[.agg [pI,pS,.own 1 .str 9 true,pI,pI,.nils]],[(900000,false,[.pv (.sl (.int .u8)),pI])]⟩,c2A (s_l30Leaf_m N)⟩:=
 mO (fC (jt3 N) (fC (jtX N) (fC (jGd N) ja))) func64 rfl N .no _ (rs:=[900000])
def jFT :Sh:=⟨.box 900000 0::pI:: .dead:: .dead:: .box 4 0::dz 36 (pB::dz 30 []),[(4,false,[pI,pS,.nils,pI,pI,.nils]),(900000,false,[.pv (.sl (.int .u8)),pI])]⟩
def jFQ :Sh:=⟨.box 900000 0::pI:: .dead:: .dead:: .box 4 0:: .box 5 0::pI::dz 65 [],[(4,false,[pI,pS,.nils,pI,pI,.nils]),(5,false,[pI,pS,.nils,pI,pI,.own 700505 .q 32 true]),(900000,false,[.pv (.sl (.int .u8)),pI])]⟩
def s_l30Query_m (N:Nat):(D:Nat)->Int->(List Int)->Int->Option (Int×Z2×(List Z2)×Int×Int×(List DQ)×(List Int)×Int)
 |0,_,_,_=>none
 |D+1,deep,b,b2=>
 bif decide (deep<=1)then
 oB (s_l30Leaf_m N b b2) fun r=>
 (some (r.1,r.2.1,r.2.2.1,r.2.2.2.1,r.2.2.2.2.1,([]:List DQ),r.2.2.2.2.2.1,r.2.2.2.2.2.2))
 else
 oB (jtW N 3 b b2) fun r2=>
 bif decide (r2.1=0)then
 oB (s_l30Leaf_m N r2.2.1 r2.2.2) fun r3=>
 (some (r3.1,r3.2.1,r3.2.2.1,r3.2.2.2.1,r3.2.2.2.2.1,([]:List DQ),r3.2.2.2.2.2.1,r3.2.2.2.2.2.2))
 else
 oB (jtW N 6 r2.2.1 r2.2.2) fun r4=>
 bif decide (r4.1=0)then
 if fits (deep-1)then oB (s_l30Query_m N D (deep-1) r4.2.1 r4.2.2) fun r5=>
 (if fits (deep-1)then oB (s_l30Query_m N D (deep-1) r5.2.2.2.2.2.2.1 r5.2.2.2.2.2.2.2) fun r6=>
 (some (9,([]:List UInt8),([]:List Z2),0,0,([(DQ.mk r5.1 r5.2.1 r5.2.2.1 r5.2.2.2.1 r5.2.2.2.2.1 r5.2.2.2.2.2.1),(DQ.mk r6.1 r6.2.1 r6.2.2.1 r6.2.2.2.1 r6.2.2.2.2.1 r6.2.2.2.2.2.1)]:List DQ),r6.2.2.2.2.2.2.1,r6.2.2.2.2.2.2.2))else none)else none
 else
 bif decide (r4.1=1)then
 oB (jtW N 4 r4.2.1 r4.2.2) fun r7=>
 (if fits (2+r7.1)then if fits (deep-1)then oB (s_l30Query_m N D (deep-1) r7.2.1 r7.2.2) fun r8=>
 (some (10,([]:List UInt8),([]:List Z2),(2+r7.1),0,([(DQ.mk r8.1 r8.2.1 r8.2.2.1 r8.2.2.2.1 r8.2.2.2.2.1 r8.2.2.2.2.2.1)]:List DQ),r8.2.2.2.2.2.2.1,r8.2.2.2.2.2.2.2))else none else none)
 else
 meet (fun(g:Int×Bool×Int×Z2×Int×Int×(List Int)×Int)=>
 match g with
 |(deep2,t41,b3,b4,b5,b6,b7,b8)=>
 bif t41 then
 if fits (deep2-1)then oB (s_l30Query_m N D (deep2-1) b7 b8) fun r9=>
 (if fits (deep2-1)then oB (s_l30Query_m N D (deep2-1) r9.2.2.2.2.2.2.1 r9.2.2.2.2.2.2.2) fun r10=>
 (some (7,([]:List UInt8),([]:List Z2),0,0,([(DQ.mk r9.1 r9.2.1 r9.2.2.1 r9.2.2.2.1 r9.2.2.2.2.1 r9.2.2.2.2.2.1),(DQ.mk r10.1 r10.2.1 r10.2.2.1 r10.2.2.2.1 r10.2.2.2.2.1 r10.2.2.2.2.2.1)]:List DQ),r10.2.2.2.2.2.2.1,r10.2.2.2.2.2.2.2))else none)else none
 else
 oB (jtW N 2 b7 b8) fun r11=>
 if fits (2+r11.1)then iter (fun go (g:Int×Int×Int×Z2×Int×Int×Int×Z2×Int×Int×(List DQ)×(List Int)×Int)=>
 match g with
 |(deep3,n,b9,b10,b11,b12,q,q2,q3,q4,q5,b13,b14)=>
 bif decide ((0:Int)<n)then
 if fits (deep3-1)then oB (s_l30Query_m N D (deep3-1) b13 b14) fun r12=>
 (if room q5.length ([(DQ.mk r12.1 r12.2.1 r12.2.2.1 r12.2.2.2.1 r12.2.2.2.2.1 r12.2.2.2.2.2.1)]:List DQ).length 88 then
 if fits (n-1)then go (deep3,(n-1),b9,b10,b11,b12,q,q2,q3,q4,(q5++([(DQ.mk r12.1 r12.2.1 r12.2.2.1 r12.2.2.2.1 r12.2.2.2.2.1 r12.2.2.2.2.2.1)]:List DQ)),r12.2.2.2.2.2.2.1,r12.2.2.2.2.2.2.2)else none
 else none)else none
 else
 some (q,q2,([]:List Z2),q3,q4,q5,b13,b14)) N (deep2,(2+r11.1),b3,b4,b5,b6,8,([]:List UInt8),0,0,([]:List DQ),r11.2.1,r11.2.2)else none) fun J=>
 bif decide (r4.1=2)then
 J (deep,true,0,([]:List UInt8),0,0,r4.2.1,r4.2.2)
 else
 J (deep,(decide (r4.1=3)),0,([]:List UInt8),0,0,r4.2.1,r4.2.2)
def jE6 (N D:Nat):Model:=⟨⟨[.box 900000 0,pI],[(900000,false,[.pv (.sl (.int .u8)),pI])]⟩,⟨[.agg [pI,pS,.own 1 .str 9 true,pI,pI,.own 2 .q 32 true]],[(900000,false,[.pv (.sl (.int .u8)),pI])]⟩,c3A (s_l30Query_m N D)⟩
theorem jGF (N D:Nat) (ih:mK 40 (jE6 N D)):mK 40 (jE6 N (D+1)):=
 mO (fC ih (fC (jGD N) (fC (jtX N) ja))) func40 rfl N (.seq .no (.seq .no (.seq (.seq .no (.block (.seq .no (.cond .no (.seq .no (.cond .no (.meet jFT .no .no))))))) (.seq .no (.seq (.seq .no (.block (.loop jFQ .no))) .no))))) (jE6 N (D+1)) (rs:=[900000])
theorem jE7 (N:Nat):∀D,mK 40 (jE6 N D)
 |0=>modelOk_none ⟨_,func40,by decide,by kernel_rfl⟩ _ (fun a=>rfl)
 |D+1=>jGF N D (jE7 N D)
def s_DrawIndexTop_m (e:List Int):Option ((List Z2)×(List Z4)×(List Z3)×Int×Z2×(List Z2)×Int×Int×(List DQ)×Int):=
 (oB (jt0 N e) fun c=>oB (s_l30AnyIndex_m N c.1 c.2) fun b=>oB (s_l30Query_m N N 3 b.2.2.2.1 b.2.2.2.2) fun a=>oB (s_l30Rd_one_m N ([1,2,16,0]:List Int) a.2.2.2.2.2.2.1 a.2.2.2.2.2.2.2) fun d=>some (b.1,b.2.1,b.2.2.1,a.1,a.2.1,a.2.2.1,a.2.2.2.1,a.2.2.2.2.1,a.2.2.2.2.2.1,d.1))
theorem jNN :mK 6 (bX [.pv (.sl (.int .u8))] [.tup [.agg [.own 1 .str 9 true,.own 2 Y19 172 true,.own 3 Y2 96 false],.agg [pI,pS,.own 4 .str 9 true,pI,pI,.own 5 .q 32 true],pI]] (c1A (s_DrawIndexTop_m N))):=
 mO (fC (juQ N) (fC (jNZ N) (fC (jE7 N N) (fC (juA N) ja)))) func6 rfl N .no _
def jaw (N:Nat) (a:Int):Z9:=
 (bif decide ((97:Int)<=a)then bif decide (a<=122)then some true else(bif decide ((48:Int)<=a)then some (decide (a<=57))else some false)else bif decide ((48:Int)<=a)then some (decide (a<=57))else some false)
theorem jeK :mK 192 (bX [.pv (.int .u8)] [pB] (c1A (jaw N))):=
 mO ja func192 rfl N .no _
def jm (N:Nat) (a:Int) (c:Int) (b:Int):Z9:=
 (bif decide (c<=a)then some (decide (a<=b))else some false)
theorem jY :mK 42 (bX [pI,pI,pI] [pB] (c3A (jm N))):=
 mO ja func42 rfl N .no _
def jqW :Sh:=⟨pS::dz 4 (pI::pI::dz 11 []),[]⟩
def jO (c:List UInt8):Z9:=
 (iter (fun f (b,d,a)=>bif decide (a<d)then oB (idx b a) fun e=>(oB (jaw N (e.toNat:Int)) fun i=>bif !i then some false else if fits (a+1)then f (b,d,(a+1))else none)else oB (jm N (b.length:Int) 1 12) fun j=>some j) N (c,(c.length:Int),(0:Int)))
theorem jcM :mK 120 (bX [pS] [pB] (c1A (jO N))):=
 mO (fC (jeK N) (fC (jY N) ja)) func120 rfl N (.seq .no (.seq (.seq .no (.block (.loop jqW .no))) .no)) _
def jmc :Sh:=⟨.pv (.sl .str)::dz 4 (.pv (.sl .str)::pI::pI::dz 21 []),[]⟩
def jb2 (d:List Z2):Z9:=
 (iter (fun h (b,c,e,a)=>bif decide (a<e)then oB (idx c a) fun f=>(oB (jO N f) fun k=>bif !k then some false else bif decide ((0:Int)<a)then if fits (a-1)then oB (idx b (a-1)) fun j=>(bif !Op.bytesLess j f then some false else if fits (a+1)then h (b,c,e,(a+1))else none)else none else if fits (a+1)then h (b,c,e,(a+1))else none)else some true) N (d,d,(d.length:Int),(0:Int)))
theorem jtw :mK 119 (bX [.pv (.sl .str)] [pB] (c1A (jb2 N))):=
 mO (fC (jcM N) ja) func119 rfl N (.seq .no (.seq (.seq .no (.block (.loop jmc .no))) .no)) _
def jdF (N:Nat) (a:List UInt8) (b:List UInt8):Z9:=
 (bif decide ((b.length:Int)<=(a.length:Int))then if fits ((a.length:Int)-(b.length:Int))then oB (cut a ((a.length:Int)-(b.length:Int)) (a.length:Int)) fun c=>(some (decide (c=b)))else none else some false)
theorem jpU :mK 268 (bX [pS,pS] [pB] (c2A (jdF N))):=
 mO ja func268 rfl N .no _
def jcN (c:List UInt8) (b:List UInt8):Z9:=
 (oB (jdF N c b) fun a=>some a)
theorem jsu :mK 193 (bX [pS,pS] [pB] (c2A (jcN N))):=
 mO (fC (jpU N) ja) func193 rfl N .no _
def jod :Sh:=⟨pS:: .dead:: .dead::pB::dz 32 [],[]⟩
def jnf :Sh:=⟨pS:: .dead:: .dead::pB::dz 6 (.own 600010 .str 9 true::pI::pI::dz 23 []),[]⟩
def jaB (k:List UInt8):Option (Z2):=
 (oB (jO N k) fun n=>bif !n then some ([]:List UInt8)else iter (fun l (j,o)=>bif o then iter (fun i (a,d,f,e,b)=>bif decide (b<e)then oB (idx f b) fun c=>(oB (jcN N a c) fun p=>bif p then if fits ((a.length:Int)-(c.length:Int))then bif decide ((3:Int)<=((a.length:Int)-(c.length:Int)))then if fits ((a.length:Int)-(c.length:Int))then oB (cut a 0 ((a.length:Int)-(c.length:Int))) fun m=>(l (m,true))else none else(if fits (b+1)then i (a,d,f,e,(b+1))else none)else none else if fits (b+1)then i (a,d,f,e,(b+1))else none)else l (a,d)) N (j,false,([([105,110,103]:List UInt8),([101,100]:List UInt8),([101,115]:List UInt8),([108,121]:List UInt8),([115]:List UInt8)]:List Z2),(([([105,110,103]:List UInt8),([101,100]:List UInt8),([101,115]:List UInt8),([108,121]:List UInt8),([115]:List UInt8)]:List Z2).length:Int),(0:Int))else some j) N (k,true))
theorem jio :mK 121 (bX [pS] [pS] (c1A (jaB N))):=
 mO (fC (jcM N) (fC (jsu N) ja)) func121 rfl N (.seq .no (.seq .no (.seq (.seq .no (.block (.loop jod (.seq .no (.block (.seq .no (.seq .no (.block (.loop jnf .no))))))))) .no))) _
def jkJ :Sh:=⟨.pv (.sl .str)::pS::dz 5 (pI::pI::dz 10 []),[]⟩
def jdH (c:List Z2) (j:List UInt8):Z15:=
 (iter (fun h (b,d,e,a)=>bif decide (a<e)then oB (idx b a) fun f=>(bif decide (d=f)then some a else if fits (a+1)then h (b,d,e,(a+1))else none)else some (-1)) N (c,j,(c.length:Int),(0:Int)))
theorem jkZ :mK 194 (bX [.pv (.sl .str),pS] [pI] (c2A (jdH N))):=
 mO ja func194 rfl N (.seq .no (.seq (.seq .no (.block (.loop jkJ .no))) .no)) _
def jao (c:List Z2) (a:List UInt8):Z9:=
 (oB (jdH N c a) fun b=>some (decide ((0:Int)<=b)))
theorem jh5 :mK 122 (bX [.pv (.sl .str),pS] [pB] (c2A (jao N))):=
 mO (fC (jkZ N) ja) func122 rfl N .no _
def jmj :Sh:=⟨.dead:: .box 1 0::dz 22 (.pv Y17::pI::pI::dz 46 []),[(1,false,[.pv (.sl .str),.pv Y17])]⟩
def jrC :Sh:=⟨.dead:: .box 1 0::dz 22 (.pv Y17::pI::pI::dz 12 (pB::dz 7 (pB:: .dead:: .dead:: .pv (.sl .str)::pI::pI::dz 20 []))),[(1,false,[.pv (.sl .str),.pv Y17])]⟩
def jaj (e:List Z2) (c:List Z4):Z9:=
 (bif decide ((6:Int)<e.length)then some false else oB (jb2 N e) fun A=>bif !A then some false else bif decide ((4:Int)<c.length)then some false else iter (fun v (m,q,f,x,E)=>bif decide (f<q)then oB (idx m f) fun a=>(oB (jm N (a.1.length:Int) 1 3) fun B=>bif !B then some false else oB (jO N a.2) fun p=>bif !p then some false else oB (jaB N a.2) fun k=>bif !decide (k=a.2)then some false else iter (fun C (n,l,j,u,D,t,r,b,h,o)=>bif decide (b<r)then oB (idx t b) fun d=>(oB (jO N d) fun z=>bif !z then some false else oB (jaB N d) fun y=>bif !decide (y=d)then some false else oB (jao N h d) fun w=>bif w then some false else if fits (b+1)then C (n,l,j,u,D,t,r,(b+1),h,o)else none)else if fits (j+1)then v (n,l,(j+1),h,o)else none) N (m,q,f,(!p),(!decide (k=a.2)),a.1,(a.1.length:Int),(0:Int),x,E))else some true) N (c,(c.length:Int),(0:Int),e,c))
theorem jdX :mK 50 (bX [.agg [.pv (.sl .str),.pv Y17]] [pB] (c2A (jaj N))):=
 mO (fC (jtw N) (fC (jY N) (fC (jcM N) (fC (jio N) (fC (jh5 N) ja))))) func50 rfl N (.seq .no (.seq .no (.seq (.seq .no (.block (.loop jmj (.seq .no (.seq .no (.seq (.block (.seq .no (.seq .no (.seq .no (.block (.loop jrC .no)))))) .no)))))) .no))) _
def jtd :Sh:=⟨pS::dz 4 (pI::pI::dz 16 []),[]⟩
def jaF (c:List UInt8):Z9:=
 (iter (fun f (b,d,a)=>bif decide (a<d)then oB (idx b a) fun e=>(bif decide ((e.toNat:Int)<32)then some false else oB (idx b a) fun i=>bif decide ((126:Int)<(i.toNat:Int))then some false else if fits (a+1)then f (b,d,(a+1))else none)else some (decide ((b.length:Int)<=160))) N (c,(c.length:Int),(0:Int)))
theorem jdK :mK 131 (bX [pS] [pB] (c1A (jaF N))):=
 mO ja func131 rfl N (.seq .no (.seq (.seq .no (.block (.loop jtd .no))) .no)) _
def jlC :Sh:=⟨.dead:: .box 1 0::dz 22 (.pv Y20::pI::pI::dz 66 []),[(1,false,[pI,.pv Y20,.pv Y16])]⟩
def jpt :Sh:=⟨.dead:: .box 1 0::dz 57 (.pv Y16::pI::pI::dz 31 []),[(1,false,[pI,.pv Y20,.pv Y16])]⟩
def jbx (t:Int) (d:Z14) (u:Z8):Z9:=
 (oB (jm N t 1 9999) fun y=>bif !y then some false else bif decide ((3:Int)<d.length)then some false else bif decide ((3:Int)<u.length)then some false else iter (fun p (i,m,b,f,e,c)=>bif decide (b<m)then oB (idx i b) fun h=>(oB (jO N h.1) fun z=>bif !z then some false else oB (jaF N h.2) fun A=>bif !A then some false else bif decide ((0:Int)<b)then if fits (b-1)then oB (idx e (b-1)) fun B=>(bif !Op.bytesLess B.1 h.1 then some false else if fits (b+1)then p (i,m,(b+1),f,e,c)else none)else none else if fits (b+1)then p (i,m,(b+1),f,e,c)else none)else iter (fun r (n,j,a,v,q,k)=>bif decide (a<j)then oB (idx n a) fun o=>(oB (jO N o.1) fun w=>bif !w then some false else oB (jm N o.2 0 999999999) fun x=>bif !x then some false else bif decide ((0:Int)<a)then if fits (a-1)then oB (idx k (a-1)) fun C=>(bif !Op.bytesLess C.1 o.1 then some false else if fits (a+1)then r (n,j,(a+1),v,q,k)else none)else none else if fits (a+1)then r (n,j,(a+1),v,q,k)else none)else some true) N (c,(c.length:Int),(0:Int),f,e,c)) N (d,(d.length:Int),(0:Int),t,d,u))
theorem jh0 :mK 126 (bX [.agg [pI,.pv Y20,.pv Y16]] [pB] (c3A (jbx N))):=
 mO (fC (jY N) (fC (jcM N) (fC (jdK N) ja))) func126 rfl N (.seq .no (.seq .no (.seq (.seq .no (.block (.loop jlC .no))) (.seq (.seq .no (.block (.loop jpt .no))) .no)))) _
def jpj :Sh:=⟨.pv Y4::dz 4 (.pv Y4::pI::pI::dz 26 []),[]⟩
def jbf (e:List Z0):Z9:=
 (iter (fun h (c,d,f,a)=>bif decide (a<f)then oB (idx d a) fun b=>(oB (jbx N b.1 b.2.1 b.2.2) fun k=>bif !k then some false else bif decide ((0:Int)<a)then if fits (a-1)then oB (idx c (a-1)) fun j=>(bif decide (b.1<=j.1)then some false else if fits (a+1)then h (c,d,f,(a+1))else none)else none else if fits (a+1)then h (c,d,f,(a+1))else none)else some (decide ((c.length:Int)<=16))) N (e,e,(e.length:Int),(0:Int)))
theorem jjU :mK 52 (bX [.pv Y4] [pB] (c1A (jbf N))):=
 mO (fC (jh0 N) ja) func52 rfl N (.seq .no (.seq (.seq .no (.block (.loop jpj .no))) .no)) _
def jbO (N:Nat) (c:Int) (b:Z14) (a:Z8):Option Z0:=
 (if room ([]:Z14).length b.length 32 then if room ([]:Z8).length a.length 24 then some (c,(([]:Z14)++b),(([]:Z8)++a))else none else none)
theorem jrI :mK 130 (bX [.agg [pI,.pv Y20,.pv Y16]] [.agg [pI,.own 1 Y21 107 true,.own 2 Y18 258 true]] (c3A (jbO N))):=
 mO ja func130 rfl N .no _
def joW :Sh:=⟨dz 3 (.own 600003 Y5 105 true::dz 3 (.pv Y4::pI::pI::dz 10 [])),[]⟩
def jbV (h:List Z0):Z18:=
 (iter (fun i (c,e,d,a)=>bif decide (a<d)then oB (idx e a) fun b=>(oB (jbO N b.1 b.2.1 b.2.2) fun f=>if room c.length ([f]:List Z0).length 56 then if fits (a+1)then i ((c++([f]:List Z0)),e,d,(a+1))else none else none)else some c) N (([]:List Z0),h,(h.length:Int),(0:Int)))
theorem joC :mK 55 (bX [.pv Y4] [.own 1 Y5 105 true] (c1A (jbV N))):=
 mO (fC (jrI N) ja) func55 rfl N (.seq .no (.seq .no (.seq (.seq .no (.block (.loop joW .no))) .no))) _
def jI (N:Nat) (a:Int):Z15:=
 (bif decide ((65:Int)<=a)then bif decide (a<=90)then some (IntKind.u8.wrap ((IntKind.u8.wrap (a+97))-65))else(some a)else some a)
theorem jmu :mK 206 (bX [.pv (.int .u8)] [.pv (.int .u8)] (c1A (jI N))):=
 mO ja func206 rfl N .no _
def jpB :Sh:=⟨pS:: .dead:: .dead:: .own 600003 Y8 188 true::pI::dz 57 [],[]⟩
def jo6 :Sh:=⟨pS:: .dead:: .dead:: .own 600003 Y8 188 true::pI:: .box 5 0:: .own 600006 (.int .u8) 5 true::dz 55 [],[(5,false,[pS,pI,pI,pI])]⟩
def jct (q:List UInt8):Option ((List Z10)):=
 (oB (jaF N q) fun w=>bif !w then some ([]:List Z10)else iter (fun k (i,j,f)=>bif decide (f<(i.length:Int))then oB (idx i f) fun t=>(oB (jI N (t.toNat:Int)) fun x=>oB (jaw N x) fun z=>bif !z then if fits (f+1)then k (i,j,(f+1))else none else iter (fun p (c,d,a,b,m,h,e,o)=>bif decide (a<(c.length:Int))then oB (idx c a) fun y=>(oB (jI N (y.toNat:Int)) fun r=>oB (jaw N r) fun v=>bif v then bif decide ((b.length:Int)<12)then oB (idx c a) fun u=>(oB (jI N (u.toNat:Int)) fun n=>if room b.length ([n]:List Int).length 1 then if fits (a+1)then p (c,d,(a+1),(b++([n]:List Int)),m,h,e,o)else none else none)else(if fits (a+1)then p (c,d,(a+1),b,m,h,e,o)else none)else if room d.length ([((bytesOf b),h,e,a)]:List Z10).length 40 then k (c,(d++([((bytesOf b),h,e,a)]:List Z10)),a)else none)else if room d.length ([((bytesOf b),h,e,a)]:List Z10).length 40 then k (c,(d++([((bytesOf b),h,e,a)]:List Z10)),a)else none) N (i,j,f,([]:List Int),([]:List UInt8),(j.length:Int),f,(0:Int)))else some j) N (q,([]:List Z10),(0:Int)))
theorem jqc :mK 132 (bX [pS] [.own 1 Y8 188 true] (c1A (jct N))):=
 mO (fC (jdK N) (fC (jmu N) (fC (jeK N) ja))) func132 rfl N (.seq .no (.seq .no (.seq .no (.seq (.seq .no (.block (.loop jpB (.seq .no (.block (.seq .no (.seq .no (.seq .no (.seq (.block (.loop jo6 .no)) .no))))))))) .no)))) _
def jty :Sh:=⟨.dead:: .pv Y16::pI:: .box 3 0::dz 3 (.pv (.opt Y19)::dz 8 (pI::pI::dz 73 [])),[(3,false,[.pv (.sl .str),.pv Y17])]⟩
def jss :Sh:=⟨.dead:: .pv Y16::pI:: .box 3 0::dz 3 (.pv (.opt Y19):: .dead:: .ptr Y19::pB::dz 5 (pI::pI::dz 31 (pB::dz 4 (.pv (.sl .str)::pI::pI::dz 34 [])))),[(3,false,[.pv (.sl .str),.pv Y17])]⟩
def jbH (c:List Z2) (c2:List Z4) (terms:Z8) (at0:Int):Option ((Option Z4)):=
 (iter (fun go (terms2,at02,best,t16,t17,c3,c4)=>bif decide (t17<t16)then oB (idx c4 t17) fun e=>(if fits ((terms2.length:Int)-at02)then bif decide (((terms2.length:Int)-at02)<(e.1.length:Int))then if fits (t17+1)then go (terms2,at02,best,t16,(t17+1),c3,c4)else none else(bif !(Option.isNone best)then oB best fun p=>(bif decide ((e.1.length:Int)<=(p.1.length:Int))then if fits (t17+1)then go (terms2,at02,best,t16,(t17+1),c3,c4)else none else iter (fun go2 (terms3,at03,best2,r,fits0,t162,t172,t49,t54,t55,t56,c5,c6)=>bif decide (t56<t55)then oB (idx t54 t56) fun e2=>(if fits (at03+t56)then oB (idx terms3 (at03+t56)) fun e3=>(bif fits0 then bif decide (e3.1=e2)then oB (idx terms3 at03) fun e4=>(if fits (e4.2+t56)then if fits (t56+1)then go2 (terms3,at03,best2,r,(decide (e3.2=(e4.2+t56))),t162,t172,t49,t54,t55,(t56+1),c5,c6)else none else none)else(if fits (t56+1)then go2 (terms3,at03,best2,r,false,t162,t172,t49,t54,t55,(t56+1),c5,c6)else none)else if fits (t56+1)then go2 (terms3,at03,best2,r,false,t162,t172,t49,t54,t55,(t56+1),c5,c6)else none)else none)else bif fits0 then if fits (t172+1)then go (terms3,at03,(some r),t162,(t172+1),c5,c6)else none else if fits (t172+1)then go (terms3,at03,best2,t162,(t172+1),c5,c6)else none) N (terms2,at02,best,e,true,t16,t17,(decide ((e.1.length:Int)<=(p.1.length:Int))),e.1,(e.1.length:Int),(0:Int),c3,c4))else iter (fun go3 (terms4,at04,best3,r2,fits02,t163,t173,t492,t542,t552,t562,c7,c8)=>bif decide (t562<t552)then oB (idx t542 t562) fun e5=>(if fits (at04+t562)then oB (idx terms4 (at04+t562)) fun e6=>(bif fits02 then bif decide (e6.1=e5)then oB (idx terms4 at04) fun e7=>(if fits (e7.2+t562)then if fits (t562+1)then go3 (terms4,at04,best3,r2,(decide (e6.2=(e7.2+t562))),t163,t173,t492,t542,t552,(t562+1),c7,c8)else none else none)else(if fits (t562+1)then go3 (terms4,at04,best3,r2,false,t163,t173,t492,t542,t552,(t562+1),c7,c8)else none)else if fits (t562+1)then go3 (terms4,at04,best3,r2,false,t163,t173,t492,t542,t552,(t562+1),c7,c8)else none)else none)else bif fits02 then if fits (t173+1)then go (terms4,at04,(some r2),t163,(t173+1),c7,c8)else none else if fits (t173+1)then go (terms4,at04,best3,t163,(t173+1),c7,c8)else none) N (terms2,at02,best,e,true,t16,t17,false,e.1,(e.1.length:Int),(0:Int),c3,c4))else none)else some best) N (terms,at0,(none:Option Z4),(c2.length:Int),(0:Int),c,c2))
theorem jtv :mK 133 (bX [.agg [.pv (.sl .str),.pv Y17],.pv Y16,pI] [.pv (.opt Y19)] (c4A (jbH N))):=
 mO ja func133 rfl N (.seq .no (.seq .no (.seq (.seq .no (.block (.loop jty (.seq .no (.seq .no (.seq (.block (.seq .no (.seq .no (.seq .no (.seq .no (.seq (.seq .no (.block (.loop jss .no))) .no)))))) .no)))))) .no))) _
def jlW :Sh:=⟨.dead:: .dead:: .box 2 0:: .dead:: .dead:: .own 600005 Y18 111 true:: .own 600006 Y18 111 true::dz 17 (.own 600024 Y8 188 true::pI::pI::dz 67 []),[(2,false,[.pv (.sl .str),.pv Y17])]⟩
def jnt :Sh:=⟨.dead:: .dead:: .box 2 0:: .dead:: .dead:: .own 600005 Y18 111 true:: .own 600006 Y18 111 true::dz 3 (pI::dz 83 []),[(2,false,[.pv (.sl .str),.pv Y17])]⟩
def jbw (t:List Z2) (y:List Z4) (v:List UInt8):Option (Z7):=
 (oB (jaj N t y) fun E=>bif !E then some ([]:Z8)else oB (jaF N v) fun G=>bif !G then some ([]:Z8)else oB (jct N v) fun z=>iter (fun n (j,f,i,k,b,c,l)=>bif decide (b<k)then oB (idx i b) fun h=>(oB (jaB N h.1) fun m=>oB (jao N c h.1) fun D=>bif !D then oB (jao N c m) fun C=>(bif !C then if room f.length ([(m,h.2.1)]:Z8).length 24 then if fits (b+1)then n (j,(f++([(m,h.2.1)]:Z8)),i,k,(b+1),c,l)else none else none else if fits (b+1)then n (j,f,i,k,(b+1),c,l)else none)else if fits (b+1)then n (j,f,i,k,(b+1),c,l)else none)else iter (fun u (e,d,a,p,q)=>bif decide (a<(d.length:Int))then oB (jbH N p q d a) fun o=>(bif Option.isNone o then oB (idx d a) fun A=>(if room e.length ([A]:Z8).length 24 then if fits (a+1)then u ((e++([A]:Z8)),d,(a+1),p,q)else none else none)else oB o fun w=>oB (idx d a) fun B=>if room e.length ([(w.2,B.2)]:Z8).length 24 then oB o fun x=>(if fits (a+(x.1.length:Int))then u ((e++([(w.2,B.2)]:Z8)),d,(a+(x.1.length:Int)),p,q)else none)else none)else some e) N (j,f,(0:Int),c,l)) N (([]:Z8),([]:Z8),z,(z.length:Int),(0:Int),t,y))
theorem jgO :mK 56 (bX [.agg [.pv (.sl .str),.pv Y17],pS] [.own 1 Y18 111 true] (c3A (jbw N))):=
 mO (fC (jdX N) (fC (jdK N) (fC (jqc N) (fC (jio N) (fC (jh5 N) (fC (jtv N) ja)))))) func56 rfl N (.seq .no (.seq .no (.seq .no (.seq .no (.seq (.seq .no (.block (.loop jlW .no))) (.seq (.seq .no (.block (.loop jnt .no))) .no)))))) _
def k__loop_example_fossick_impl_Seg_put_1_m (N:Nat) (c:List UInt8) (a:List UInt8) (e:Z5) (b:List UInt8) (d:Z2×Int):Z9:=
 (bif decide (c=b)then some (decide (a=d.1))else some false)
theorem jmw :mK 135 (bX [.agg [pS,pS,.pv Y13],.ptr .str,.ptr Y18] [pB] (c5A (k__loop_example_fossick_impl_Seg_put_1_m N))):=
 mO ja func135 rfl N .no _
def jnc :Sh:=⟨.pv Y6:: .clo 135 [.ptr .str,.ptr Y18]::dz 5 (pI::pI::dz 10 []),[]⟩
def k_slices_IndexFunc_146_m (e:List Z1) (h:Z2×Z2×Int):Z15:=
 (iter (fun i (d,c,f,a)=>bif decide (a<f)then oB (idx d a) fun b=>(oB (k__loop_example_fossick_impl_Seg_put_1_m N b.1 b.2.1 b.2.2 c.1 c.2) fun k=>bif k then some a else if fits (a+1)then i (d,c,f,(a+1))else none)else some (-1)) N (e,h,(e.length:Int),(0:Int)))
theorem jrl :mK 134 (bX [.pv Y6,.clo 135 [.ptr .str,.ptr Y18]] [pI] (c2A (k_slices_IndexFunc_146_m N))):=
 mO (fC (jmw N) ja) func134 rfl N (.seq .no (.seq (.seq .no (.block (.loop jnc .no))) .no)) _
def i_Seg_put_m (h:List UInt8) (f:List UInt8) (i:Int) (e:Int) (p:List Z0) (a:List Z1):Option ((List Z0)×(List Z1)):=
 (oB (k_slices_IndexFunc_146_m N a (h,f,i)) fun d=>bif decide (d<0)then if room a.length ([(h,f,([]:Z5))]:List Z1).length 56 then if 0<=(a.length:Int)/\(a.length:Int)<((a++([(h,f,([]:Z5))]:List Z1)).length:Int)then oB ((a++([(h,f,([]:Z5))]:List Z1))[(a.length:Int).toNat]?) fun c=>(if fits ((c.2.2.length:Int)-1)then bif decide (((c.2.2.length:Int)-1)<0)then oB ((a++([(h,f,([]:Z5))]:List Z1))[(a.length:Int).toNat]?) fun aa=>(if(a.length:Int).toNat=(a.length:Int).toNat then if room c.2.2.length ([(e,([]:List Int))]:Z5).length 32 then if(a.length:Int).toNat=(a.length:Int).toNat then oB ((a++([(h,f,([]:Z5))]:List Z1))[(a.length:Int).toNat]?) fun j=>(if fits (((c.2.2.length:Int)-1)+1)then oB (((a++([(h,f,([]:Z5))]:List Z1)).set (a.length:Int).toNat (j.1,j.2.1,(c.2.2++([(e,([]:List Int))]:Z5))))[(a.length:Int).toNat]?) fun r=>(oB (r.2.2[(((c.2.2.length:Int)-1)+1).toNat]?) fun B=>oB (((a++([(h,f,([]:Z5))]:List Z1)).set (a.length:Int).toNat (j.1,j.2.1,(c.2.2++([(e,([]:List Int))]:Z5))))[(a.length:Int).toNat]?) fun ao=>if(a.length:Int).toNat=(a.length:Int).toNat then oB (((a++([(h,f,([]:Z5))]:List Z1)).set (a.length:Int).toNat (j.1,j.2.1,(c.2.2++([(e,([]:List Int))]:Z5))))[(a.length:Int).toNat]?) fun X=>(if(a.length:Int).toNat=(a.length:Int).toNat then if 0<=(((c.2.2.length:Int)-1)+1)/\(((c.2.2.length:Int)-1)+1)<(r.2.2.length:Int)then oB (r.2.2[(((c.2.2.length:Int)-1)+1).toNat]?) fun ap=>(if(((c.2.2.length:Int)-1)+1).toNat=(((c.2.2.length:Int)-1)+1).toNat then if room B.2.length ([i]:List Int).length 8 then if 0<=(((c.2.2.length:Int)-1)+1)/\(((c.2.2.length:Int)-1)+1)<(r.2.2.length:Int)then if(((c.2.2.length:Int)-1)+1).toNat=(((c.2.2.length:Int)-1)+1).toNat then oB (r.2.2[(((c.2.2.length:Int)-1)+1).toNat]?) fun L=>(some (p,(((a++([(h,f,([]:Z5))]:List Z1)).set (a.length:Int).toNat (j.1,j.2.1,(c.2.2++([(e,([]:List Int))]:Z5)))).modify ((a.length:Int).toNat) fun z=>(z.1,z.2.1,(r.2.2.set (((c.2.2.length:Int)-1)+1).toNat (L.1,(B.2++([i]:List Int))))))))else none else none else none else none)else none else none)else none)else none)else none else none else none)else(oB ((a++([(h,f,([]:Z5))]:List Z1))[(a.length:Int).toNat]?) fun ab=>if(a.length:Int).toNat=(a.length:Int).toNat then if 0<=((c.2.2.length:Int)-1)/\((c.2.2.length:Int)-1)<(c.2.2.length:Int)then oB (c.2.2[((c.2.2.length:Int)-1).toNat]?) fun H=>(bif !decide (H.1=e)then oB ((a++([(h,f,([]:Z5))]:List Z1))[(a.length:Int).toNat]?) fun ah=>(if(a.length:Int).toNat=(a.length:Int).toNat then if room c.2.2.length ([(e,([]:List Int))]:Z5).length 32 then if(a.length:Int).toNat=(a.length:Int).toNat then oB ((a++([(h,f,([]:Z5))]:List Z1))[(a.length:Int).toNat]?) fun l=>(if fits (((c.2.2.length:Int)-1)+1)then oB (((a++([(h,f,([]:Z5))]:List Z1)).set (a.length:Int).toNat (l.1,l.2.1,(c.2.2++([(e,([]:List Int))]:Z5))))[(a.length:Int).toNat]?) fun q=>(oB (q.2.2[(((c.2.2.length:Int)-1)+1).toNat]?) fun A=>oB (((a++([(h,f,([]:Z5))]:List Z1)).set (a.length:Int).toNat (l.1,l.2.1,(c.2.2++([(e,([]:List Int))]:Z5))))[(a.length:Int).toNat]?) fun aq=>if(a.length:Int).toNat=(a.length:Int).toNat then oB (((a++([(h,f,([]:Z5))]:List Z1)).set (a.length:Int).toNat (l.1,l.2.1,(c.2.2++([(e,([]:List Int))]:Z5))))[(a.length:Int).toNat]?) fun af=>(if(a.length:Int).toNat=(a.length:Int).toNat then if 0<=(((c.2.2.length:Int)-1)+1)/\(((c.2.2.length:Int)-1)+1)<(q.2.2.length:Int)then oB (q.2.2[(((c.2.2.length:Int)-1)+1).toNat]?) fun ae=>(if(((c.2.2.length:Int)-1)+1).toNat=(((c.2.2.length:Int)-1)+1).toNat then if room A.2.length ([i]:List Int).length 8 then if 0<=(((c.2.2.length:Int)-1)+1)/\(((c.2.2.length:Int)-1)+1)<(q.2.2.length:Int)then if(((c.2.2.length:Int)-1)+1).toNat=(((c.2.2.length:Int)-1)+1).toNat then oB (q.2.2[(((c.2.2.length:Int)-1)+1).toNat]?) fun P=>(some (p,(((a++([(h,f,([]:Z5))]:List Z1)).set (a.length:Int).toNat (l.1,l.2.1,(c.2.2++([(e,([]:List Int))]:Z5)))).modify ((a.length:Int).toNat) fun t=>(t.1,t.2.1,(q.2.2.set (((c.2.2.length:Int)-1)+1).toNat (P.1,(A.2++([i]:List Int))))))))else none else none else none else none)else none else none)else none)else none)else none else none else none)else if(a.length:Int).toNat=(a.length:Int).toNat then oB (c.2.2[((c.2.2.length:Int)-1).toNat]?) fun E=>(oB ((a++([(h,f,([]:Z5))]:List Z1))[(a.length:Int).toNat]?) fun aj=>if(a.length:Int).toNat=(a.length:Int).toNat then oB ((a++([(h,f,([]:Z5))]:List Z1))[(a.length:Int).toNat]?) fun S=>(if(a.length:Int).toNat=(a.length:Int).toNat then if 0<=((c.2.2.length:Int)-1)/\((c.2.2.length:Int)-1)<(c.2.2.length:Int)then oB (c.2.2[((c.2.2.length:Int)-1).toNat]?) fun V=>(if((c.2.2.length:Int)-1).toNat=((c.2.2.length:Int)-1).toNat then if room E.2.length ([i]:List Int).length 8 then if 0<=((c.2.2.length:Int)-1)/\((c.2.2.length:Int)-1)<(c.2.2.length:Int)then if((c.2.2.length:Int)-1).toNat=((c.2.2.length:Int)-1).toNat then oB (c.2.2[((c.2.2.length:Int)-1).toNat]?) fun K=>(some (p,((a++([(h,f,([]:Z5))]:List Z1)).modify ((a.length:Int).toNat) fun v=>(v.1,v.2.1,(c.2.2.set ((c.2.2.length:Int)-1).toNat (K.1,(E.2++([i]:List Int))))))))else none else none else none else none)else none else none)else none)else none)else none else none)else none)else none else none else if 0<=d/\d<(a.length:Int)then oB (a[d.toNat]?) fun b=>(if fits ((b.2.2.length:Int)-1)then bif decide (((b.2.2.length:Int)-1)<0)then oB (a[d.toNat]?) fun ad=>(if d.toNat=d.toNat then if room b.2.2.length ([(e,([]:List Int))]:Z5).length 32 then if d.toNat=d.toNat then oB (a[d.toNat]?) fun m=>(if fits (((b.2.2.length:Int)-1)+1)then oB ((a.set d.toNat (m.1,m.2.1,(b.2.2++([(e,([]:List Int))]:Z5))))[d.toNat]?) fun n=>(oB (n.2.2[(((b.2.2.length:Int)-1)+1).toNat]?) fun x=>oB ((a.set d.toNat (m.1,m.2.1,(b.2.2++([(e,([]:List Int))]:Z5))))[d.toNat]?) fun W=>if d.toNat=d.toNat then oB ((a.set d.toNat (m.1,m.2.1,(b.2.2++([(e,([]:List Int))]:Z5))))[d.toNat]?) fun ai=>(if d.toNat=d.toNat then if 0<=(((b.2.2.length:Int)-1)+1)/\(((b.2.2.length:Int)-1)+1)<(n.2.2.length:Int)then oB (n.2.2[(((b.2.2.length:Int)-1)+1).toNat]?) fun ac=>(if(((b.2.2.length:Int)-1)+1).toNat=(((b.2.2.length:Int)-1)+1).toNat then if room x.2.length ([i]:List Int).length 8 then if 0<=(((b.2.2.length:Int)-1)+1)/\(((b.2.2.length:Int)-1)+1)<(n.2.2.length:Int)then if(((b.2.2.length:Int)-1)+1).toNat=(((b.2.2.length:Int)-1)+1).toNat then oB (n.2.2[(((b.2.2.length:Int)-1)+1).toNat]?) fun I=>(some (p,((a.set d.toNat (m.1,m.2.1,(b.2.2++([(e,([]:List Int))]:Z5)))).modify d.toNat fun y=>(y.1,y.2.1,(n.2.2.set (((b.2.2.length:Int)-1)+1).toNat (I.1,(x.2++([i]:List Int))))))))else none else none else none else none)else none else none)else none)else none)else none else none else none)else(oB (a[d.toNat]?) fun al=>if d.toNat=d.toNat then if 0<=((b.2.2.length:Int)-1)/\((b.2.2.length:Int)-1)<(b.2.2.length:Int)then oB (b.2.2[((b.2.2.length:Int)-1).toNat]?) fun O=>(bif !decide (O.1=e)then oB (a[d.toNat]?) fun U=>(if d.toNat=d.toNat then if room b.2.2.length ([(e,([]:List Int))]:Z5).length 32 then if d.toNat=d.toNat then oB (a[d.toNat]?) fun k=>(if fits (((b.2.2.length:Int)-1)+1)then oB ((a.set d.toNat (k.1,k.2.1,(b.2.2++([(e,([]:List Int))]:Z5))))[d.toNat]?) fun o=>(oB (o.2.2[(((b.2.2.length:Int)-1)+1).toNat]?) fun u=>oB ((a.set d.toNat (k.1,k.2.1,(b.2.2++([(e,([]:List Int))]:Z5))))[d.toNat]?) fun R=>if d.toNat=d.toNat then oB ((a.set d.toNat (k.1,k.2.1,(b.2.2++([(e,([]:List Int))]:Z5))))[d.toNat]?) fun ak=>(if d.toNat=d.toNat then if 0<=(((b.2.2.length:Int)-1)+1)/\(((b.2.2.length:Int)-1)+1)<(o.2.2.length:Int)then oB (o.2.2[(((b.2.2.length:Int)-1)+1).toNat]?) fun an=>(if(((b.2.2.length:Int)-1)+1).toNat=(((b.2.2.length:Int)-1)+1).toNat then if room u.2.length ([i]:List Int).length 8 then if 0<=(((b.2.2.length:Int)-1)+1)/\(((b.2.2.length:Int)-1)+1)<(o.2.2.length:Int)then if(((b.2.2.length:Int)-1)+1).toNat=(((b.2.2.length:Int)-1)+1).toNat then oB (o.2.2[(((b.2.2.length:Int)-1)+1).toNat]?) fun G=>(some (p,((a.set d.toNat (k.1,k.2.1,(b.2.2++([(e,([]:List Int))]:Z5)))).modify d.toNat fun C=>(C.1,C.2.1,(o.2.2.set (((b.2.2.length:Int)-1)+1).toNat (G.1,(u.2++([i]:List Int))))))))else none else none else none else none)else none else none)else none)else none)else none else none else none)else if d.toNat=d.toNat then oB (b.2.2[((b.2.2.length:Int)-1).toNat]?) fun D=>(oB (a[d.toNat]?) fun T=>if d.toNat=d.toNat then oB (a[d.toNat]?) fun ag=>(if d.toNat=d.toNat then if 0<=((b.2.2.length:Int)-1)/\((b.2.2.length:Int)-1)<(b.2.2.length:Int)then oB (b.2.2[((b.2.2.length:Int)-1).toNat]?) fun am=>(if((b.2.2.length:Int)-1).toNat=((b.2.2.length:Int)-1).toNat then if room D.2.length ([i]:List Int).length 8 then if 0<=((b.2.2.length:Int)-1)/\((b.2.2.length:Int)-1)<(b.2.2.length:Int)then if((b.2.2.length:Int)-1).toNat=((b.2.2.length:Int)-1).toNat then oB (b.2.2[((b.2.2.length:Int)-1).toNat]?) fun Q=>(some (p,(a.modify d.toNat fun w=>(w.1,w.2.1,(b.2.2.set ((b.2.2.length:Int)-1).toNat (Q.1,(D.2++([i]:List Int))))))))else none else none else none else none)else none else none)else none)else none)else none else none)else none)else none)
theorem jky :mK 57 ⟨⟨[.box 900000 0,pS,.agg [pS,pI],pI],[(900000,false,[.pv Y4,.tre 850001 Y7 116])]⟩,⟨[.tup []],[(900000,false,[.pv Y4,.tre 1 Y7 116])]⟩,c6A (i_Seg_put_m N)⟩:=
 mO (fC (jrl N) ja) func57 rfl N (.seq .no (.seq .no (.seq .no (.seq .no (.seq .no (.seq .no (.touch [.out 9 [(2,79,196,10),(1,88,3,0)]]))))))) _ (wr:=[33,34,70,71,91,92]) (rs:=[900000,850001]) (dw:=[16,33,70])
def jl0 :Sh:=⟨.pv (.int .u64):: .dead::pI::dz 22 [],[]⟩
def k_math_bits_Len64_m (N:Nat) (f:Int):Z15:=
 (meet (fun(a:Int×Int)=>match a with|(c,e)=>meet (fun(a:Int×Int)=>match a with|(b,d)=>meet (fun(a:Int×Int)=>match a with|(m,l)=>oB (idx ([0,1,2,2,3,3,3,3,4,4,4,4,4,4,4,4,5,5,5,5,5,5,5,5,5,5,5,5,5,5,5,5,6,6,6,6,6,6,6,6,6,6,6,6,6,6,6,6,6,6,6,6,6,6,6,6,6,6,6,6,6,6,6,6,7,7,7,7,7,7,7,7,7,7,7,7,7,7,7,7,7,7,7,7,7,7,7,7,7,7,7,7,7,7,7,7,7,7,7,7,7,7,7,7,7,7,7,7,7,7,7,7,7,7,7,7,7,7,7,7,7,7,7,7,7,7,7,7,8,8,8,8,8,8,8,8,8,8,8,8,8,8,8,8,8,8,8,8,8,8,8,8,8,8,8,8,8,8,8,8,8,8,8,8,8,8,8,8,8,8,8,8,8,8,8,8,8,8,8,8,8,8,8,8,8,8,8,8,8,8,8,8,8,8,8,8,8,8,8,8,8,8,8,8,8,8,8,8,8,8,8,8,8,8,8,8,8,8,8,8,8,8,8,8,8,8,8,8,8,8,8,8,8,8,8,8,8,8,8,8,8,8,8,8,8,8,8,8,8,8,8,8,8,8,8,8]:List UInt8) (IntKind.u8.wrap m)) fun j=>if fits (l+(IntKind.i64.wrap (j.toNat:Int)))then some (l+(IntKind.i64.wrap (j.toNat:Int)))else none) fun i=>bif decide ((256:Int)<=b)then if 0<=(8:Int)then if fits (d+8)then i ((b.fdiv (2^(min (8:Int).toNat (IntKind.bits .u64)))),(d+8))else none else none else i (b,d)) fun h=>bif decide ((65536:Int)<=c)then if 0<=(16:Int)then if fits (e+16)then h ((c.fdiv (2^(min (16:Int).toNat (IntKind.bits .u64)))),(e+16))else none else none else h (c,e)) fun k=>bif decide ((4294967296:Int)<=f)then if 0<=(32:Int)then k ((f.fdiv (2^(min (32:Int).toNat (IntKind.bits .u64)))),32)else none else k (f,0))
theorem jrK :mK 216 (bX [.pv (.int .u64)] [pI] (c1A (k_math_bits_Len64_m N))):=
 mO ja func216 rfl N (.seq .no (.meet jl0 .no (.meet jl0 .no (.meet jl0 .no .no)))) _
def k_math_bits_Len_m (b:Int):Z15:=
 (oB (k_math_bits_Len64_m N b) fun a=>some a)
theorem jda :mK 137 (bX [.pv (.int .u64)] [pI] (c1A (k_math_bits_Len_m N))):=
 mO (fC (jrK N) ja) func137 rfl N .no _
def jbn (N:Nat) (a:List UInt8):Z9:=
 (some (!decide (a=a)))
theorem jkt :mK 138 (bX [pS] [pB] (c1A (jbn N))):=
 mO ja func138 rfl N .no _
def jam (a:List UInt8) (b:List UInt8):Z15:=
 (oB (jbn N a) fun d=>oB (jbn N b) fun c=>bif d then bif c then some 0 else(some (-1))else bif c then some 1 else bif Op.bytesLess a b then some (-1)else bif !(Op.bytesLess a b||decide (a=b))then some 1 else some 0)
theorem ji2 :mK 61 (bX [pS,pS] [pI] (c2A (jam N))):=
 mO (fC (jkt N) ja) func61 rfl N .no _
def jlp :Sh:=⟨dz 3 (pI:: .dead:: .dead:: .pv Y22::pI::pI::dz 9 []),[]⟩
def jbe (e:List Int):Z15:=
 (iter (fun h (b,f,d,a)=>bif decide (a<d)then oB (idx f a) fun c=>(bif !decide (c=b)then some c else if fits (a+1)then h (b,f,d,(a+1))else none)else some b) N ((0:Int),e,(e.length:Int),(0:Int)))
theorem jhC :mK 60 (bX [.pv Y22] [pI] (c1A (jbe N))):=
 mO ja func60 rfl N (.seq .no (.seq .no (.seq (.seq .no (.block (.loop jlp .no))) .no))) _
def je (a:List UInt8) (b:List UInt8) (j:Z5) (e:List UInt8) (c:List UInt8) (i:Z5):Z15:=
 (oB (jam N a e) fun f=>oB (jam N b c) fun h=>oB (jbe N ([f,h]:List Int)) fun d=>some d)
theorem jaf :mK 59 (bX [.agg [pS,pS,.pv Y13],.agg [pS,pS,.pv Y13]] [pI] (c6A (je N))):=
 mO (fC (ji2 N) (fC (jhC N) ja)) func59 rfl N .no _
def k_slices_nextPowerOfTwo_m (b:Int):Z15:=
 (oB (k_math_bits_Len_m N (IntKind.u64.wrap b)) fun a=>if 0<=a then some (IntKind.u64.wrap ((1:Int)*2^(min a.toNat (IntKind.bits .u64))))else none)
theorem jhv :mK 286 (bX [pI] [.pv (.int .u64)] (c1A (k_slices_nextPowerOfTwo_m N))):=
 mO (fC (jda N) ja) func286 rfl N .no _
def k__slices_xorshift_Next_m (N:Nat) (a:Int):Option (Int×Int):=
 (if 0<=(13:Int)then if 0<=(7:Int)then if 0<=(17:Int)then some ((bitsI .xor .u64 (bitsI .xor .u64 (bitsI .xor .u64 a (IntKind.u64.wrap (a*2^(min (13:Int).toNat (IntKind.bits .u64))))) ((bitsI .xor .u64 a (IntKind.u64.wrap (a*2^(min (13:Int).toNat (IntKind.bits .u64))))).fdiv (2^(min (7:Int).toNat (IntKind.bits .u64))))) (IntKind.u64.wrap ((bitsI .xor .u64 (bitsI .xor .u64 a (IntKind.u64.wrap (a*2^(min (13:Int).toNat (IntKind.bits .u64))))) ((bitsI .xor .u64 a (IntKind.u64.wrap (a*2^(min (13:Int).toNat (IntKind.bits .u64))))).fdiv (2^(min (7:Int).toNat (IntKind.bits .u64)))))*2^(min (17:Int).toNat (IntKind.bits .u64))))),(bitsI .xor .u64 (bitsI .xor .u64 (bitsI .xor .u64 a (IntKind.u64.wrap (a*2^(min (13:Int).toNat (IntKind.bits .u64))))) ((bitsI .xor .u64 a (IntKind.u64.wrap (a*2^(min (13:Int).toNat (IntKind.bits .u64))))).fdiv (2^(min (7:Int).toNat (IntKind.bits .u64))))) (IntKind.u64.wrap ((bitsI .xor .u64 (bitsI .xor .u64 a (IntKind.u64.wrap (a*2^(min (13:Int).toNat (IntKind.bits .u64))))) ((bitsI .xor .u64 a (IntKind.u64.wrap (a*2^(min (13:Int).toNat (IntKind.bits .u64))))).fdiv (2^(min (7:Int).toNat (IntKind.bits .u64)))))*2^(min (17:Int).toNat (IntKind.bits .u64))))))else none else none else none)
theorem jet :mK 287 ⟨⟨[.box 900000 0],[(900000,false,[.pv (.int .u64)])]⟩,⟨[.pv (.int .u64)],[(900000,false,[.pv (.int .u64)])]⟩,c1A (k__slices_xorshift_Next_m N)⟩:=
 mO ja func287 rfl N .no _ (rs:=[900000])
section
variable {α γ ρ : Type} (c : γ -> α -> α -> Option Int)
def swpG (d:List α) (i j:Int) (k:List α->Option ρ):Option ρ:=
 if 0<=j/\j<(d.length:Int)then oB (d[j.toNat]?) fun e=>if 0<=i/\i<(d.length:Int)then oB (d[i.toNat]?) fun e2=>
  if 0<=i/\i<(d.length:Int)then oB (d[i.toNat]?) fun e3=>if 0<=j/\j<((d.set i.toNat e).length:Int)then oB ((d.set i.toNat e)[j.toNat]?) fun e4=>k ((d.set i.toNat e).set j.toNat e2)
  else none else none else none else none
def cmpG (ks:γ) (d:List α) (i j:Int) (k:Int->Option ρ):Option ρ:=
 if 0<=i/\i<(d.length:Int)then oB (d[i.toNat]?) fun e=>if 0<=j/\j<(d.length:Int)then oB (d[j.toNat]?) fun e2=>oB (c ks e e2) k else none else none
def cmpP (ks:γ) (d:List α) (j:Int) (k:Int->Option ρ):Option ρ:=
 if 0<=j/\j<(d.length:Int)then oB (d[j.toNat]?) fun e=>if fits (j-1)then if 0<=(j-1)/\(j-1)<(d.length:Int)then oB (d[(j-1).toNat]?) fun e2=>oB (c ks e e2) k else none else none else none
def swpP (d:List α) (j:Int) (k:List α->Option ρ):Option ρ:=if fits (j-1)then if fits (j-1)then swpG d j (j-1) k else none else none
def insG (N:Nat) (d:List α) (a b:Int) (ks:γ):Option (List α):=
 if fits (a+1)then iter (fun go (g:List α×Int×Int×γ×Int)=>
  match g with
  |(d2,a2,b2,ks2,i)=>
  bif decide (i<b2)then
   iter (fun go2 (g:List α×Int×Int×γ×Int×Int)=>
    match g with
    |(d3,a3,b3,ks3,i2,j)=>
    bif decide (a3<j)then cmpP c ks3 d3 j fun r=>bif decide (r<0)then swpP d3 j fun d=>if fits (j-1)then go2 (d,a3,b3,ks3,i2,j-1)else none
     else if fits (i2+1)then go (d3,a3,b3,ks3,i2+1)else none
    else if fits (i2+1)then go (d3,a3,b3,ks3,i2+1)else none) N (d2,a2,b2,ks2,i,i)
  else some d2) N (d,a,b,ks,a+1)else none
def siftG (N:Nat) (data:List α) (lo:Int) (hi:Int) (first:Int) (cmp:γ):Option ((List α)):=
 (iter (fun go (g:(List α)×Int×Int×γ×Int)=>
   match g with
   |(data2,hi2,first2,cmp2,root)=>
   (if fits (2*root)then(if fits ((2*root)+1)then(bif(decide (hi2<=((2*root)+1)))then
      (some data2)
      else
      (meet (fun(g:(List α)×Int×Int×γ×Int×Int)=>
        match g with
        |(data3,hi3,first3,cmp3,root2,child)=>
        (if fits (first3+root2)then(if 0<=(first3+root2)/\(first3+root2)<(data3.length:Int)then
          (oB (data3[(first3+root2).toNat]?) fun e3=>
           (if fits (first3+child)then(if 0<=(first3+child)/\(first3+child)<(data3.length:Int)then
             (oB (data3[(first3+child).toNat]?) fun e4=>
              (oB (c cmp3 e3 e4) fun r2=>
               (bif(!(decide (r2<0)))then
                (some data3)
                else
                (if fits (first3+root2)then(if fits (first3+child)then(if fits (first3+child)then(if 0<=(first3+child)/\(first3+child)<(data3.length:Int)then
                    (oB (data3[(first3+child).toNat]?) fun e5=>
                     (if fits (first3+root2)then(if 0<=(first3+root2)/\(first3+root2)<(data3.length:Int)then
                       (oB (data3[(first3+root2).toNat]?) fun e6=>
                        (if 0<=(first3+root2)/\(first3+root2)<(data3.length:Int)then
                         (oB (data3[(first3+root2).toNat]?) fun e7=>
                          (if 0<=(first3+child)/\(first3+child)<((data3.set (first3+root2).toNat e5).length:Int)then
                           (oB ((data3.set (first3+root2).toNat e5)[(first3+child).toNat]?) fun e8=>
                            (go (((data3.set (first3+root2).toNat e5).set (first3+child).toNat e6),hi3,first3,cmp3,child)))
                           else none))
                         else none))
                       else none)else none))
                    else none)else none)else none)else none))))
             else none)else none))
          else none)else none)) fun J=>
       (if fits (((2*root)+1)+1)then(bif(decide ((((2*root)+1)+1)<hi2))then
         (if fits (first2+((2*root)+1))then(if 0<=(first2+((2*root)+1))/\(first2+((2*root)+1))<(data2.length:Int)then
           (oB (data2[(first2+((2*root)+1)).toNat]?) fun e=>
            (if fits (first2+((2*root)+1))then(if fits ((first2+((2*root)+1))+1)then(if 0<=((first2+((2*root)+1))+1)/\((first2+((2*root)+1))+1)<(data2.length:Int)then
               (oB (data2[((first2+((2*root)+1))+1).toNat]?) fun e2=>
                (oB (c cmp2 e e2) fun r=>
                 (bif(decide (r<0))then
                  (if fits (((2*root)+1)+1)then(J (data2,hi2,first2,cmp2,root,(((2*root)+1)+1)))else none)
                  else
                  (J (data2,hi2,first2,cmp2,root,((2*root)+1))))))
               else none)else none)else none))
           else none)else none)
         else
         (J (data2,hi2,first2,cmp2,root,((2*root)+1))))else none)))else none)else none)) N (data,hi,first,cmp,lo))
def heapG (N:Nat) (data:List α) (a:Int) (b:Int) (cmp:γ):Option ((List α)):=
 (if fits (b-a)then(if fits ((b-a)-1)then(if 2≠0 then
    (if fits (((b-a)-1).tdiv 2)then(iter (fun go (g:(List α)×γ×Int×Int×Int×Int)=>
       match g with
       |(data2,cmp2,first,lo,hi,i)=>
       (bif(decide ((0:Int)<=i))then
        (oB (siftG c N data2 i hi first cmp2) fun r=>
         (if fits (i-1)then(go (r,cmp2,first,lo,hi,(i-1)))else none))
        else
        (if fits (hi-1)then(iter (fun go2 (g:(List α)×γ×Int×Int×Int)=>
           match g with
           |(data3,cmp3,first2,lo2,i2)=>
           (bif(decide ((0:Int)<=i2))then
            (if fits (first2+i2)then(if fits (first2+i2)then swpG data3 first2 (first2+i2) fun d=>(oB (siftG c N d lo2 i2 first2 cmp3) fun r2=>
                       (if fits (i2-1)then(go2 (r2,cmp3,first2,lo2,(i2-1)))else none))else none)else none)
            else
            (some data3))) N (data2,cmp2,first,lo,(hi-1)))else none))) N (data,cmp,a,0,(b-a),(((b-a)-1).tdiv 2)))else none)
    else none)else none)else none)
def breakG (N:Nat) (data:List α) (a:Int) (b:Int) (cmp:γ):Option (List α):=
 (if fits (b-a)then(bif(decide ((8:Int)<=(b-a)))then
   (oB (k_slices_nextPowerOfTwo_m N (b-a)) fun r=>
    (if 4≠0 then
     (if fits ((b-a).tdiv 4)then(if fits (((b-a).tdiv 4)*2)then(if fits (a+(((b-a).tdiv 4)*2))then(if fits ((a+(((b-a).tdiv 4)*2))-1)then(iter (fun go (g:(List α)×Int×Int×Int×Int×Int)=>
           match g with
           |(data2,a2,length,modulus,idx0,random)=>
           (if 4≠0 then
            (if fits (length.tdiv 4)then(if fits ((length.tdiv 4)*2)then(if fits (a2+((length.tdiv 4)*2))then(if fits ((a2+((length.tdiv 4)*2))+1)then(bif(decide (idx0<=((a2+((length.tdiv 4)*2))+1)))then
                 (oB (k__slices_xorshift_Next_m N random) fun r2=>
                  (meet (fun(g:(List α)×Int×Int×Int×Int×Int×Int)=>
                    match g with
                    |(data3,a3,length2,modulus2,idx02,other,random2)=>
                    (if fits (a3+other)then(if fits (a3+other)then swpG data3 idx02 (a3+other) fun d=>(if fits (idx02+1)then(go (d,a3,length2,modulus2,(idx02+1),random2))else none)else none)else none)) fun J=>
                   (bif(decide (length<=(IntKind.i64.wrap (bitsI .and .u64 r2.1 (IntKind.u64.wrap (modulus-1))))))then
                    (if fits ((IntKind.i64.wrap (bitsI .and .u64 r2.1 (IntKind.u64.wrap (modulus-1))))-length)then(J (data2,a2,length,modulus,idx0,((IntKind.i64.wrap (bitsI .and .u64 r2.1 (IntKind.u64.wrap (modulus-1))))-length),r2.2))else none)
                    else
                    (J (data2,a2,length,modulus,idx0,(IntKind.i64.wrap (bitsI .and .u64 r2.1 (IntKind.u64.wrap (modulus-1)))),r2.2)))))
                 else
                 (some data2))else none)else none)else none)else none)
            else none)) N (data,a,(b-a),r,((a+(((b-a).tdiv 4)*2))-1),(IntKind.u64.wrap (b-a))))else none)else none)else none)else none)
     else none))
   else
   (some data))else none)
def order2G (N:Nat) (data:List α) (a:Int) (b:Int) (cmp:γ) (b2:Int):Option (Int×Int×(List α)×Int):=
 cmpG c cmp data b a fun r=>(bif(decide (r<0))then(if fits (b2+1)then(some (b,a,data,(b2+1)))else none)else(some (a,b,data,b2)))
def medianG (N:Nat) (data:List α) (a:Int) (b:Int) (c0:Int) (cmp:γ) (b2:Int):Option (Int×(List α)×Int):=
 (oB (order2G c N data a b cmp b2) fun r=>
  (oB (order2G c N r.2.2.1 r.2.1 c0 cmp r.2.2.2) fun r2=>
   (oB (order2G c N r2.2.2.1 r.1 r2.1 cmp r2.2.2.2) fun r3=>
    (some (r3.2.1,r3.2.2.1,r3.2.2.2)))))
def medianAdjacentG (N:Nat) (data:List α) (a:Int) (cmp:γ) (b:Int):Option (Int×(List α)×Int):=
 (if fits (a-1)then(if fits (a+1)then(oB (medianG c N data (a-1) a (a+1) cmp b) fun r=>
    (some (r.1,r.2.1,r.2.2)))else none)else none)
def choosePivotG (N:Nat) (data:List α) (a:Int) (b:Int) (cmp:γ):Option (Int×Int×(List α)):=
 (if fits (b-a)then(if 4≠0 then
   (if fits ((b-a).tdiv 4)then(if fits (((b-a).tdiv 4)*1)then(if fits (a+(((b-a).tdiv 4)*1))then(if 4≠0 then
       (if fits ((b-a).tdiv 4)then(if fits (((b-a).tdiv 4)*2)then(if fits (a+(((b-a).tdiv 4)*2))then(if 4≠0 then
           (if fits ((b-a).tdiv 4)then(if fits (((b-a).tdiv 4)*3)then(if fits (a+(((b-a).tdiv 4)*3))then(meet (fun(g:(List α)×Int×Int)=>
                match g with
                |(data3,j2,swaps2)=>
                (bif(decide (swaps2=0))then
                 (some (j2,1,data3))
                 else
                 (bif(decide (swaps2=12))then
                  (some (j2,2,data3))
                  else
                  (some (j2,0,data3))))) fun J=>
               (bif(decide ((8:Int)<=(b-a)))then
                (meet (fun(g:(List α)×γ×Int×Int×Int×Int)=>
                  match g with
                  |(data2,cmp2,i,j,k,swaps)=>
                  (oB (medianG c N data2 i j k cmp2 swaps) fun r4=>
                   (J (r4.2.1,r4.1,r4.2.2)))) fun J2=>
                 (bif(decide ((50:Int)<=(b-a)))then
                  (oB (medianAdjacentG c N data (a+(((b-a).tdiv 4)*1)) cmp 0) fun r=>
                   (oB (medianAdjacentG c N r.2.1 (a+(((b-a).tdiv 4)*2)) cmp r.2.2) fun r2=>
                    (oB (medianAdjacentG c N r2.2.1 (a+(((b-a).tdiv 4)*3)) cmp r2.2.2) fun r3=>
                     (J2 (r3.2.1,cmp,r.1,r2.1,r3.1,r3.2.2)))))
                  else
                  (J2 (data,cmp,(a+(((b-a).tdiv 4)*1)),(a+(((b-a).tdiv 4)*2)),(a+(((b-a).tdiv 4)*3)),0))))
                else
                (J (data,(a+(((b-a).tdiv 4)*2)),0))))else none)else none)else none)
           else none)else none)else none)else none)
       else none)else none)else none)else none)
   else none)else none)
def reverseRangeG (N:Nat) (data:List α) (a:Int) (b:Int) (cmp:γ):Option ((List α)):=
 (if fits (b-1)then(iter (fun go (g:(List α)×Int×Int)=>
    match g with
    |(data2,i,j)=>
    (bif(decide (i<j))then swpG data2 i j fun d=>(if fits (i+1)then(if fits (j-1)then(go (d,(i+1),(j-1)))else none)else none)
     else
     (some data2))) N (data,a,(b-1)))else none)
def shDown (k:(List α×Int×Int×γ×Int×Int)->Option ρ) (N:Nat) (g:List α×Int×Int×γ×Int×Int×Int):Option ρ:=
 iter (fun go3 (g:(List α)×Int×Int×γ×Int×Int×Int)=>
  match g with
  |(d,a,b,ks,i,j,j4)=>
  bif decide ((1:Int)<=j4)then cmpP c ks d j4 fun r=>bif !decide (r<0)then k (d,a,b,ks,i,j)else swpP d j4 fun d'=>if fits (j4-1)then go3 (d',a,b,ks,i,j,j4-1)else none
  else k (d,a,b,ks,i,j)) N g
def shUp (k:(List α×Int×Int×γ×Int×Int)->Option ρ) (N:Nat) (g:List α×Int×Int×γ×Int×Int×Int):Option ρ:=
 iter (fun go4 (g:(List α)×Int×Int×γ×Int×Int×Int)=>
  match g with
  |(d,a,b,ks,i,j,j4)=>
  bif decide (j4<b)then cmpP c ks d j4 fun r=>bif !decide (r<0)then(if fits (j+1)then k (d,a,b,ks,i,j+1)else none)else swpP d j4 fun d'=>if fits (j4+1)then go4 (d',a,b,ks,i,j,j4+1)else none
  else if fits (j+1)then k (d,a,b,ks,i,j+1)else none) N g
def pisX (N:Nat) (go:(List α×Int×Int×γ×Int×Int)->Option (Bool×List α)) (d:List α) (a b:Int) (ks:γ) (i j:Int):Option (Bool×List α):=
 bif decide (i=b)then some (true,d)else if fits (b-a)then bif decide ((b-a)<50)then some (false,d)else
  swpP d i fun d'=>meet (fun(g:List α×Int×Int×γ×Int×Int)=>
   match g with
   |(d5,a5,b5,ks5,i4,j5)=>
   if fits (b5-i4)then bif decide ((2:Int)<=(b5-i4))then if fits (i4+1)then shUp c go N (d5,a5,b5,ks5,i4,j5,i4+1)else none
    else(if fits (j5+1)then go (d5,a5,b5,ks5,i4,j5+1)else none)else none) fun J=>
   if fits (i-a)then bif decide ((2:Int)<=(i-a))then if fits (i-1)then shDown c J N (d',a,b,ks,i,j,i-1)else none else J (d',a,b,ks,i,j)else none
 else none
def pisG (N:Nat) (d:List α) (a b:Int) (ks:γ):Option (Bool×List α):=
 if fits (a+1)then iter (fun go (g:List α×Int×Int×γ×Int×Int)=>
  match g with
  |(d2,a2,b2,ks2,i,j)=>
  bif decide (j<5)then
   iter (fun go2 (g:List α×Int×Int×γ×Int×Int)=>
    match g with
    |(d3,a3,b3,ks3,i2,j2)=>
    bif decide (i2<b3)then cmpP c ks3 d3 i2 fun r=>bif !decide (r<0)then(if fits (i2+1)then go2 (d3,a3,b3,ks3,i2+1,j2)else none)else pisX c N go d3 a3 b3 ks3 i2 j2
    else pisX c N go d3 a3 b3 ks3 i2 j2) N (d2,a2,b2,ks2,i,j)
  else some (false,d2)) N (d,a,b,ks,a+1,0)else none
def partE (go3:(List α×Int×γ×Int×Int)->Option (Int×Bool×List α)) (fl:Bool) (g:List α×Int×γ×Int×Int):Option (Int×Bool×List α):=
 match g with
 |(d,a,ks,i,j)=>
 bif decide (j<i)then swpG d j a fun d'=>some (j,fl,d')else swpG d i j fun d'=>if fits (i+1)then if fits (j-1)then go3 (d',a,ks,i+1,j-1)else none else none
def partD (k:(List α×Int×γ×Int×Int)->Option ρ) (N:Nat) (g:List α×Int×γ×Int×Int):Option ρ:=
 iter (fun go (g:List α×Int×γ×Int×Int)=>
  match g with
  |(d,a,ks,i,j)=>
  bif decide (i<=j)then cmpG c ks d j a fun r=>bif !decide (r<0)then(if fits (j-1)then go (d,a,ks,i,j-1)else none)else k (d,a,ks,i,j)
  else k (d,a,ks,i,j)) N g
def partU (k:(List α×Int×γ×Int×Int)->Option ρ) (N:Nat) (g:List α×Int×γ×Int×Int):Option ρ:=
 iter (fun go (g:List α×Int×γ×Int×Int)=>
  match g with
  |(d,a,ks,i,j)=>
  bif decide (i<=j)then cmpG c ks d i a fun r=>bif decide (r<0)then(if fits (i+1)then go (d,a,ks,i+1,j)else none)else k (d,a,ks,i,j)
  else k (d,a,ks,i,j)) N g
def partG (N:Nat) (d:List α) (a b p:Int) (ks:γ):Option (Int×Bool×List α):=
 swpG d a p fun d=>if fits (a+1)then if fits (b-1)then
  partU c (fun g=>partD c (partE (fun g=>iter (fun go3 g=>partU c (fun g=>partD c (partE go3 false) N g) N g) N g) true) N g) N (d,a,ks,a+1,b-1)
 else none else none
def peqE (go:(List α×Int×γ×Int×Int)->Option (Int×List α)) (g:List α×Int×γ×Int×Int):Option (Int×List α):=
 match g with
 |(d,a,ks,i,j)=>
 bif decide (j<i)then some (i,d)else swpG d i j fun d'=>if fits (i+1)then if fits (j-1)then go (d',a,ks,i+1,j-1)else none else none
def peqD (k:(List α×Int×γ×Int×Int)->Option ρ) (N:Nat) (g:List α×Int×γ×Int×Int):Option ρ:=
 iter (fun go (g:List α×Int×γ×Int×Int)=>
  match g with
  |(d,a,ks,i,j)=>
  bif decide (i<=j)then cmpG c ks d a j fun r=>bif decide (r<0)then(if fits (j-1)then go (d,a,ks,i,j-1)else none)else k (d,a,ks,i,j)
  else k (d,a,ks,i,j)) N g
def peqU (k:(List α×Int×γ×Int×Int)->Option ρ) (N:Nat) (g:List α×Int×γ×Int×Int):Option ρ:=
 iter (fun go (g:List α×Int×γ×Int×Int)=>
  match g with
  |(d,a,ks,i,j)=>
  bif decide (i<=j)then cmpG c ks d a i fun r=>bif !decide (r<0)then(if fits (i+1)then go (d,a,ks,i+1,j)else none)else k (d,a,ks,i,j)
  else k (d,a,ks,i,j)) N g
def peqG (N:Nat) (d:List α) (a b p:Int) (ks:γ):Option (Int×List α):=
 swpG d a p fun d=>if fits (a+1)then if fits (b-1)then iter (fun go g=>peqU c (fun g=>peqD c (peqE go) N g) N g) N (d,a,ks,a+1,b-1)else none else none
def pdqG (hs:List α->Int->Int->γ->Option (List α)) (pe:List α->Int->Int->Int->γ->Option (Int×List α)) (N:Nat):(D:Nat)->(List α)->Int->Int->Int->γ->Option ((List α))
 |0,_,_,_,_,_=>none
 |D+1,data,a,b,limit,cmp=>
 (iter (fun go (g:(List α)×Int×Int×Int×γ×Bool×Bool)=>
   match g with
   |(data2,a2,b2,limit2,cmp2,wasBalanced,wasPartitioned)=>
   (if fits (b2-a2)then(bif(decide ((b2-a2)<=12))then
     (oB (insG c N data2 a2 b2 cmp2) fun r=>
      (some r))
     else
     (bif(decide (limit2=0))then
      (oB (hs data2 a2 b2 cmp2) fun r2=>
       (some r2))
      else
      (meet (fun(g:(List α)×Int×Int×Int×γ×Bool×Bool×Int)=>
        match g with
        |(data3,a3,b3,limit3,cmp3,wasBalanced2,wasPartitioned2,length)=>
        (oB (choosePivotG c N data3 a3 b3 cmp3) fun r4=>
         (meet (fun(g:(List α)×Int×Int×Int×γ×Bool×Bool×Int×Int×Int)=>
           match g with
           |(data4,a4,b4,limit4,cmp4,wasBalanced3,wasPartitioned3,length2,pivot,hint)=>
           (meet (fun(g:(List α)×Int×Int×Int×γ×Bool×Bool×Int×Int)=>
             match g with
             |(data5,a5,b5,limit5,cmp5,wasBalanced4,wasPartitioned4,length3,pivot2)=>
             (bif(decide ((0:Int)<a5))then
              (if fits (a5-1)then(if 0<=(a5-1)/\(a5-1)<(data5.length:Int)then
                (oB (data5[(a5-1).toNat]?) fun e=>
                 (if 0<=pivot2/\pivot2<(data5.length:Int)then
                  (oB (data5[pivot2.toNat]?) fun e2=>
                   (oB (c cmp5 e e2) fun r7=>
                    (bif(!(decide (r7<0)))then
                     (oB (pe data5 a5 b5 pivot2 cmp5) fun r8=>
                      (go (r8.2,r8.1,b5,limit5,cmp5,wasBalanced4,wasPartitioned4)))
                     else
                     (oB (partG c N data5 a5 b5 pivot2 cmp5) fun r9=>
                      (if fits (r9.1-a5)then(if fits (b5-r9.1)then(if 8≠0 then
                         (if fits (length3.tdiv 8)then(bif(decide ((r9.1-a5)<(b5-r9.1)))then
                           (oB (pdqG hs pe N D r9.2.2 a5 r9.1 limit5 cmp5) fun r10=>
                            (if fits (r9.1+1)then(go (r10,(r9.1+1),b5,limit5,cmp5,(decide ((length3.tdiv 8)<=(r9.1-a5))),r9.2.1))else none))
                           else
                           (if fits (r9.1+1)then(oB (pdqG hs pe N D r9.2.2 (r9.1+1) b5 limit5 cmp5) fun r11=>
                             (go (r11,a5,r9.1,limit5,cmp5,(decide ((length3.tdiv 8)<=(b5-r9.1))),r9.2.1)))else none))else none)
                         else none)else none)else none)))))
                  else none))
                else none)else none)
              else
              (oB (partG c N data5 a5 b5 pivot2 cmp5) fun r12=>
               (if fits (r12.1-a5)then(if fits (b5-r12.1)then(if 8≠0 then
                  (if fits (length3.tdiv 8)then(bif(decide ((r12.1-a5)<(b5-r12.1)))then
                    (oB (pdqG hs pe N D r12.2.2 a5 r12.1 limit5 cmp5) fun r13=>
                     (if fits (r12.1+1)then(go (r13,(r12.1+1),b5,limit5,cmp5,(decide ((length3.tdiv 8)<=(r12.1-a5))),r12.2.1))else none))
                    else
                    (if fits (r12.1+1)then(oB (pdqG hs pe N D r12.2.2 (r12.1+1) b5 limit5 cmp5) fun r14=>
                      (go (r14,a5,r12.1,limit5,cmp5,(decide ((length3.tdiv 8)<=(b5-r12.1))),r12.2.1)))else none))else none)
                  else none)else none)else none)))) fun J3=>
            (bif wasBalanced3 then
             (bif wasPartitioned3 then
              (bif(decide (hint=1))then
               (oB (pisG c N data4 a4 b4 cmp4) fun r6=>
                (bif r6.1 then
                 (some r6.2)
                 else
                 (J3 (r6.2,a4,b4,limit4,cmp4,wasBalanced3,wasPartitioned3,length2,pivot))))
               else
               (J3 (data4,a4,b4,limit4,cmp4,wasBalanced3,wasPartitioned3,length2,pivot)))
              else
              (J3 (data4,a4,b4,limit4,cmp4,wasBalanced3,wasPartitioned3,length2,pivot)))
             else
             (J3 (data4,a4,b4,limit4,cmp4,wasBalanced3,wasPartitioned3,length2,pivot))))) fun J2=>
          (bif(decide (r4.2.1=2))then
           (oB (reverseRangeG N r4.2.2 a3 b3 cmp3) fun r5=>
            (if fits (b3-1)then(if fits (r4.1-a3)then(if fits ((b3-1)-(r4.1-a3))then(J2 (r5,a3,b3,limit3,cmp3,wasBalanced2,wasPartitioned2,length,((b3-1)-(r4.1-a3)),1))else none)else none)else none))
           else
           (J2 (r4.2.2,a3,b3,limit3,cmp3,wasBalanced2,wasPartitioned2,length,r4.1,r4.2.1)))))) fun J=>
       (bif(!wasBalanced)then
        (oB (breakG N data2 a2 b2 cmp2) fun r3=>
         (if fits (limit2-1)then(J (r3,a2,b2,(limit2-1),cmp2,wasBalanced,wasPartitioned,(b2-a2)))else none))
        else
        (J (data2,a2,b2,limit2,cmp2,wasBalanced,wasPartitioned,(b2-a2)))))))else none)) N (data,a,b,limit,cmp,true,true))
end
def cmp105 (N:Nat):(Unit)->Z1->Z1->Option Int:=(fun(cmp:Unit) (e e2:Z2×Z2×Z16)=>je N e.1 e.2.1 e.2.2 e2.1 e2.2.1 e2.2.2)
def jny :Sh:=⟨.mtk 800000 Y7 116 false::pI::pI:: .clo 59 []::dz 4 (pI::dz 44 []),[]⟩
def jll :Sh:=⟨.mtk 800000 Y7 116 false::pI::pI:: .clo 59 []::dz 4 (pI::pI::dz 43 []),[]⟩
def jeC (d:List Z1) (b:Int) (c:Int) (a:Unit):Option ((List Z1)):=insG (cmp105 N) N d b c a
 
theorem jqw :mK 207 (bX [.mtk 800000 Y7 116 false,pI,pI,.clo 59 []] [.tup [],.mtk 800000 Y7 116 false] (c4A (jeC N))):=
 mO (fC (jaf N) ja) func207 rfl N (.seq .no (.block (.loop jny (.seq .no (.seq (.block (.seq .no (.block (.loop jll .no)))) .no))))) _ (rs:=[800000])
end Go.Proofs.YtabhgjdikeipdaaGreatDoor
