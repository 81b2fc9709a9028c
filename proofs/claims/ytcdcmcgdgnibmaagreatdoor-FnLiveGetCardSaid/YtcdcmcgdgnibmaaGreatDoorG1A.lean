import Derived.Test.YtcdcmcgdgnibmaaGreatDoorSA
import Derived.Test.YtcdcmcgdgnibmaaGreatDoorSC
import Derived.Test.YtcdcmcgdgnibmaaGreatDoorSE
import Derived.Test.YtcdcmcgdgnibmaaGreatDoorSN
import Derived.Test.YtcdcmcgdgnibmaaGreatDoorSP
set_option linter.unusedVariables false
set_option linter.unusedSimpArgs false
namespace Go.Proofs.YtcdcmcgdgnibmaaGreatDoor
open Go.RowKit Go.Proofs.Tryz
variable (N : Nat)
open Option renaming bind -> oB
set_option maxRecDepth 1000000
abbrev Z0 :Type:=Int×(List ((List UInt8)×(List UInt8)))×(List ((List UInt8)×Int))
abbrev Z1 :Type:=List UInt8
abbrev Z2 :Type:=Z1×Z1×(List (Int×(List Int)))
abbrev Z3 :Type:=((List Z0)×(List Z2))×(List Int)
abbrev Z4 :Type:=(List Z1)×Z1
abbrev Z5 :Type:=List (Z1×Int)
abbrev Z6 :Type:=List (Int×(List Int))
abbrev Z7 :Type:=List (Z1×Z1)
abbrev Z8 :Type:=List (Z1×Int)
abbrev Z9 :Type:=Z1×Int×Int×Int
abbrev Z10 :Type:=Option (Bool)
abbrev Z11 :Type:=List (Z1×Z1)
abbrev Z12 :Type:=List (Int×(List Int))
abbrev Z13 :Type:=Option ((List Z0))
abbrev Z14 :Type:=Option ((List Z1)×(List Z4)×(List Z3)×Bool)
abbrev bX (a r:List VS) (f:HD (Sh.codes ⟨a,[]⟩)->Option (HD (Sh.codes ⟨r,[]⟩))):Model:=⟨⟨a,[]⟩,⟨r,[]⟩,f⟩
abbrev mK :=ModelOk Tryz.prog
theorem mO {l:List (Nat×Model)} (hl:jR Tryz.prog l) {f:FuncId} {fn:Func} {c:Code} (hf:Tryz.prog.funcs[f]? =some fn) (hbody:fn.body=some c) (N:Nat) (h:Hint) (m:Model) (wr rs dw:List Nat:=[])
  (hname:(fn.name== "runtime.NumGoroutine")=false:=by kernel_rfl) (hres:m.arg.names.all (jbC l wr rs dw).res=true:=by kernel_rfl) (hlen:Nat.ble m.arg.vals.length fn.ntmps=true:=by kernel_rfl)
  (hrun:∀a,m.run a=runF N (jbC l wr rs dw) okDraw fn c h m.arg m.ret a:=by intro a;kernel_rfl):ModelOk Tryz.prog f m:=modelOk_of (E:=jbC l wr rs dw) (jtQ hl wr rs dw) hf hname hbody N h m hres hlen hrun
theorem fC {k:Nat} {m:Model} {l:List (Nat×Model)} (h:ModelOk Tryz.prog k m) (hl:jR Tryz.prog l):jR Tryz.prog ((k,m)::l):=jsH h hl
abbrev pI :VS:=.pv (.int .i64)
abbrev pS :VS:=.pv .str
abbrev pB :VS:=.pv .bool
abbrev tI :Tp:=.int .i64
abbrev c1A {α ρ:Type} (f:α->ρ) (a:α):ρ:=f a
abbrev c2A {α0 α1 ρ:Type} (f:α0->α1->ρ) (a:α0×α1):ρ:=f a.1 a.2
abbrev c3A {α0 α1 α2 ρ:Type} (f:α0->α1->α2->ρ) (a:α0×α1×α2):ρ:=f a.1 a.2.1 a.2.2
abbrev c4A {α0 α1 α2 α3 ρ:Type} (f:α0->α1->α2->α3->ρ) (a:α0×α1×α2×α3):ρ:=f a.1 a.2.1 a.2.2.1 a.2.2.2
abbrev c5A {α0 α1 α2 α3 α4 ρ:Type} (f:α0->α1->α2->α3->α4->ρ) (a:α0×α1×α2×α3×α4):ρ:=f a.1 a.2.1 a.2.2.1 a.2.2.2.1 a.2.2.2.2
abbrev c6A {α0 α1 α2 α3 α4 α5 ρ:Type} (f:α0->α1->α2->α3->α4->α5->ρ) (a:α0×α1×α2×α3×α4×α5):ρ:=f a.1 a.2.1 a.2.2.1 a.2.2.2.1 a.2.2.2.2.1 a.2.2.2.2.2
abbrev c7A {α0 α1 α2 α3 α4 α5 α6 ρ:Type} (f:α0->α1->α2->α3->α4->α5->α6->ρ) (a:α0×α1×α2×α3×α4×α5×α6):ρ:=f a.1 a.2.1 a.2.2.1 a.2.2.2.1 a.2.2.2.2.1 a.2.2.2.2.2.1 a.2.2.2.2.2.2
def dz :Nat->List VS->List VS
 |0,l=>l
 |n+1,l=>.dead::dz n l
abbrev Y19 :Tp:=.sl tI
abbrev Y18 :Tp:=.pair .str .str
abbrev Y17 :Tp:=.sl (.pair .str .str)
abbrev Y16 :Tp:=.pair (.sl .str) .str
abbrev Y15 :Tp:=.pair .str tI
abbrev Y14 :Tp:=.sl (.pair (.sl .str) .str)
abbrev Y13 :Tp:=.sl (.pair .str tI)
abbrev Y12 :Tp:=.pair tI (.sl tI)
abbrev Y11 :Tp:=.sl (.pair tI (.sl tI))
abbrev Y7 :Tp:=.pair .str (.pair tI (.pair tI tI))
abbrev Y6 :Tp:=.pair .str (.pair .str (.sl (.pair tI (.sl tI))))
abbrev Y5 :Tp:=.sl (.pair .str (.pair .str (.sl (.pair tI (.sl tI)))))
abbrev Y4 :Tp:=.pair tI (.pair (.sl (.pair .str .str)) (.sl (.pair .str tI)))
abbrev Y3 :Tp:=.sl (.pair tI (.pair (.sl (.pair .str .str)) (.sl (.pair .str tI))))
abbrev Y2 :Tp:=.pair (.sl (.pair tI (.pair (.sl (.pair .str .str)) (.sl (.pair .str tI))))) (.sl (.pair .str (.pair .str (.sl (.pair tI (.sl tI))))))
abbrev Y1 :Tp:=.pair (.pair (.sl (.pair tI (.pair (.sl (.pair .str .str)) (.sl (.pair .str tI))))) (.sl (.pair .str (.pair .str (.sl (.pair tI (.sl tI))))))) (.sl tI)
abbrev Y0 :Tp:=.sl (.pair (.pair (.sl (.pair tI (.pair (.sl (.pair .str .str)) (.sl (.pair .str tI))))) (.sl (.pair .str (.pair .str (.sl (.pair tI (.sl tI))))))) (.sl tI))
def s_l30Open_m (N:Nat) (a:List Int):Option ((List Int)×Int):=
 (bif decide ((2000:Int)<a.length)then oB (cut a 0 2000) fun b=>(some (b,0))else some (a,0))
theorem juQ :mK 36 ⟨⟨[.pv (.sl (.int .u8))],[]⟩,⟨[.box 10 0],[(10,false,[.pv (.sl (.int .u8)),pI])]⟩,c1A (s_l30Open_m N)⟩:=
 mO ja func36 rfl N .no _
def s_l30Rd_pick_m (N:Nat) (e:Int) (b:List Int) (a:Int):Option (Int×(List Int)×Int):=
 (if fits (a+1)then bif decide (e<1)then some (0,b,(a+1))else(bif decide ((b.length:Int)=0)then some (0,b,(a+1))else if fits ((a+1)-1)then bif decide (((a+1)-1)<(b.length:Int))then oB (idx b ((a+1)-1)) fun f=>(if e≠0 then some (((IntKind.i64.wrap f).tmod e),b,(a+1))else none)else(if(b.length:Int)≠0 then oB (idx b (((a+1)-1).tmod (b.length:Int))) fun d=>(if fits ((IntKind.i64.wrap d)*131)then if fits (((a+1)-1)*7)then if fits ((((a+1)-1)*7)+3)then if(b.length:Int)≠0 then oB (idx b (((((a+1)-1)*7)+3).tmod (b.length:Int))) fun c=>(if fits ((IntKind.i64.wrap c)*1117)then if fits (((IntKind.i64.wrap d)*131)+((IntKind.i64.wrap c)*1117))then if fits (((a+1)-1)*29)then if fits ((((IntKind.i64.wrap d)*131)+((IntKind.i64.wrap c)*1117))+(((a+1)-1)*29))then if(b.length:Int)≠0 then if fits (((a+1)-1).tdiv (b.length:Int))then if fits ((((a+1)-1).tdiv (b.length:Int))*53)then if fits (((((IntKind.i64.wrap d)*131)+((IntKind.i64.wrap c)*1117))+(((a+1)-1)*29))+((((a+1)-1).tdiv (b.length:Int))*53))then if 64≠0 then if fits ((((((IntKind.i64.wrap d)*131)+((IntKind.i64.wrap c)*1117))+(((a+1)-1)*29))+((((a+1)-1).tdiv (b.length:Int))*53)).tdiv 64)then if e≠0 then some (((bitsI .xor .i64 (((((IntKind.i64.wrap d)*131)+((IntKind.i64.wrap c)*1117))+(((a+1)-1)*29))+((((a+1)-1).tdiv (b.length:Int))*53)) ((((((IntKind.i64.wrap d)*131)+((IntKind.i64.wrap c)*1117))+(((a+1)-1)*29))+((((a+1)-1).tdiv (b.length:Int))*53)).tdiv 64)).tmod e),b,(a+1))else none else none else none else none else none else none else none else none else none else none else none)else none else none else none else none)else none)else none)else none)
theorem jtX :mK 38 ⟨⟨[.box 900000 0,pI],[(900000,false,[.pv (.sl (.int .u8)),pI])]⟩,⟨[pI],[(900000,false,[.pv (.sl (.int .u8)),pI])]⟩,c3A (s_l30Rd_pick_m N)⟩:=
 mO ja func38 rfl N .no _ (rs:=[900000])
def juL :Sh:=⟨.box 900000 0:: .dead:: .box 2 0:: .box 3 0::dz 30 [],[(2,false,[.nils,.nils]),(3,false,[.own 13 .str 9 true,.nils]),(900000,false,[.pv (.sl (.int .u8)),pI])]⟩
def juw :Sh:=⟨.box 900000 0:: .dead:: .box 2 0:: .box 3 0::dz 30 [],[(2,false,[.nils,.nils]),(3,false,[.own 8 .str 9 true,.nils]),(900000,false,[.pv (.sl (.int .u8)),pI])]⟩
def s_l30Conf_m (i:List Int) (l:Int):Option ((List Z1)×(List Z4)×(List Int)×Int):=
 (meet (fun(d:(List Z1)×(List Int)×Int)=>match d with|(o,k,j)=>meet (fun(d:(List Z1)×(List Int)×Int)=>match d with|(e,n,m)=>oB (s_l30Rd_pick_m N 4 n m) fun a=>bif decide (a.1=0)then some (e,([(([([110,101,119]:List UInt8),([121,111,114,107]:List UInt8)]:List Z1),([110,121]:List UInt8))]:List Z4),a.2.1,a.2.2)else bif decide (a.1=1)then some (e,([(([([98,105,103]:List UInt8)]:List Z1),([108,97,114,103]:List UInt8)),(([([98,105,103]:List UInt8),([114,101,100]:List UInt8),([102,111,120]:List UInt8)]:List Z1),([102,111,120]:List UInt8)),(([([110,101,119]:List UInt8),([121,111,114,107]:List UInt8)]:List Z1),([110,121]:List UInt8))]:List Z4),a.2.1,a.2.2)else some (e,([]:List Z4),a.2.1,a.2.2)) fun f=>oB (s_l30Rd_pick_m N 4 k j) fun c=>bif decide (c.1=0)then f (([([100,111,103]:List UInt8),([116,104,101]:List UInt8)]:List Z1),c.2.1,c.2.2)else f (o,c.2.1,c.2.2)) fun h=>oB (s_l30Rd_pick_m N 3 i l) fun b=>bif decide ((0:Int)<b.1)then h (([([116,104,101]:List UInt8)]:List Z1),b.2.1,b.2.2)else h (([]:List Z1),b.2.1,b.2.2))
theorem jva :mK 120 ⟨⟨[.box 900000 0],[(900000,false,[.pv (.sl (.int .u8)),pI])]⟩,⟨[.agg [.own 1 .str 9 true,.own 2 Y16 143 true]],[(900000,false,[.pv (.sl (.int .u8)),pI])]⟩,c2A (s_l30Conf_m N)⟩:=
 mO (fC (jtX N) ja) func120 rfl N (.seq .no (.seq .no (.meet juw .no (.meet juL .no .no)))) _ (rs:=[900000])
def jt (N:Nat) (a:Int):Option (Int):=
 (bif decide ((65:Int)<=a)then bif decide (a<=90)then some (IntKind.u8.wrap (a+32))else(bif decide ((97:Int)<=a)then bif decide (a<=122)then some a else(bif decide ((48:Int)<=a)then bif decide (a<=57)then some a else(some 0)else some 0)else bif decide ((48:Int)<=a)then bif decide (a<=57)then some a else(some 0)else some 0)else bif decide ((97:Int)<=a)then bif decide (a<=122)then some a else(bif decide ((48:Int)<=a)then bif decide (a<=57)then some a else(some 0)else some 0)else bif decide ((48:Int)<=a)then bif decide (a<=57)then some a else(some 0)else some 0)
theorem jfG :mK 194 (bX [.pv (.int .u8)] [.pv (.int .u8)] (c1A (jt N))):=
 mO ja func194 rfl N .no _
def jJ (N:Nat) (a:Int) (c:Int) (b:Int):Z10:=
 (bif decide (c<=a)then some (decide (a<=b))else some false)
theorem jcL :mK 128 (bX [pI,pI,pI] [pB] (c3A (jJ N))):=
 mO ja func128 rfl N .no _
def jr5 :Sh:=⟨pS:: .dead:: .dead::pI::dz 23 [],[]⟩
def jT (d:List UInt8):Z10:=
 (iter (fun e (b,a)=>bif decide (a<(b.length:Int))then oB (idx b a) fun j=>(oB (jt N (j.toNat:Int)) fun f=>oB (idx b a) fun i=>bif !decide (f=(i.toNat:Int))then some false else oB (idx b a) fun k=>bif decide ((k.toNat:Int)=0)then some false else if fits (a+1)then e (b,(a+1))else none)else oB (jJ N (b.length:Int) 1 12) fun h=>some h) N (d,(0:Int)))
theorem jgp :mK 125 (bX [pS] [pB] (c1A (jT N))):=
 mO (fC (jfG N) (fC (jcL N) ja)) func125 rfl N (.seq .no (.seq (.seq .no (.block (.loop jr5 .no))) .no)) _
def jdI (N:Nat):Option ((List Z1)):=
 (some ([([105,110,103]:List UInt8),([101,100]:List UInt8),([101,115]:List UInt8),([108,121]:List UInt8),([115]:List UInt8)]:List Z1))
theorem jkj :mK 247 ⟨⟨[],[]⟩,⟨[.own 1 .str 9 true],[]⟩,fun a=>jdI N⟩:=
 mO ja func247 rfl N .no _
def jl2 :Sh:=⟨pS:: .dead:: .dead::pI::dz 30 [],[]⟩
def ja6 (f:List UInt8):Option (Z1):=
 (iter (fun d (a,b)=>oB (jdI N) fun i=>bif decide (b<(i.length:Int))then oB (jdI N) fun j=>(oB (idx j b) fun c=>if fits ((a.length:Int)-(c.length:Int))then bif decide ((3:Int)<=((a.length:Int)-(c.length:Int)))then oB (cut a ((a.length:Int)-(c.length:Int)) (a.length:Int)) fun k=>(bif decide (k=c)then oB (cut a 0 ((a.length:Int)-(c.length:Int))) fun h=>(some h)else if fits (b+1)then d (a,(b+1))else none)else(if fits (b+1)then d (a,(b+1))else none)else none)else some a) N (f,(0:Int)))
theorem jtL :mK 195 (bX [pS] [pS] (c1A (ja6 N))):=
 mO (fC (jkj N) ja) func195 rfl N (.seq .no (.seq (.seq .no (.block (.loop jl2 .no))) .no)) _
def jto :Sh:=⟨pS::dz 9 [],[]⟩
def jaq (d:List UInt8):Option (Z1):=
 (iter (fun e (c:Z1)=>let s2:=c;(oB (ja6 N s2) fun a=>bif !decide (a=s2)then oB (ja6 N s2) fun b=>(e b)else some s2)) N d)
theorem jfZ :mK 126 (bX [pS] [pS] (c1A (jaq N))):=
 mO (fC (jtL N) ja) func126 rfl N (.seq .no (.seq (.block (.loop jto .no)) .no)) _
def jlY :Sh:=⟨.pv (.sl .str)::pS::dz 3 (pI::dz 12 []),[]⟩
def jap (i:List Z1) (f:List UInt8):Z10:=
 (iter (fun h (b,c,a)=>bif decide (a<(b.length:Int))then oB (idx b a) fun e=>(bif decide (e=c)then some true else if fits (a+1)then h (b,c,(a+1))else none)else some false) N (i,f,(0:Int)))
theorem jhP :mK 127 (bX [.pv (.sl .str),pS] [pB] (c2A (jap N))):=
 mO ja func127 rfl N (.seq .no (.seq (.seq .no (.block (.loop jlY .no))) .no)) _
def jrs :Sh:=⟨.dead:: .box 1 0:: .dead::pI::dz 114 [],[(1,false,[.pv (.sl .str),.pv Y14])]⟩
def js0 :Sh:=⟨.dead:: .box 1 0:: .dead:: .dead::pI::dz 113 [],[(1,false,[.pv (.sl .str),.pv Y14])]⟩
def jrc :Sh:=⟨.dead:: .box 1 0:: .dead:: .dead::pI:: .box 5 0::pI::dz 111 [],[(1,false,[.pv (.sl .str),.pv Y14]),(5,false,[.pv (.sl .str),pS])]⟩
def jcw (D:List Z1) (B:List Z4):Z10:=
 (iter (fun n (a,d,k)=>bif decide (a<(d.length:Int))then oB (idx d a) fun w=>(oB (jT N w) fun H=>bif !H then some false else bif decide ((0:Int)<a)then oB (idx d a) fun r=>(if fits (a-1)then oB (idx d (a-1)) fun m=>(bif Op.bytesLess r m||decide (r=m)then some false else if fits (a+1)then n ((a+1),d,k)else none)else none)else if fits (a+1)then n ((a+1),d,k)else none)else iter (fun I (l,q,h)=>bif decide (l<(h.length:Int))then oB (idx h l) fun o=>(iter (fun x (j,c,i,p,b,f)=>bif decide (c<(b.length:Int))then oB (idx b c) fun K=>(oB (jT N K) fun z=>bif !z then some false else oB (idx b c) fun G=>oB (jaq N G) fun y=>oB (idx b c) fun t=>bif !decide (y=t)then some false else oB (idx b c) fun u=>oB (jap N i u) fun E=>bif E then some false else if fits (c+1)then x (j,(c+1),i,p,b,f)else none)else oB (jJ N (b.length:Int) 1 3) fun A=>bif !A then some false else oB (jT N f) fun C=>bif !C then some false else oB (jaq N f) fun v=>bif !decide (v=f)then some false else if fits (j+1)then I ((j+1),i,p)else none) N (l,(0:Int),q,h,o.1,o.2))else bif decide ((q.length:Int)<=6)then some (decide ((h.length:Int)<=4))else some false) N ((0:Int),d,k)) N ((0:Int),D,B))
theorem jtf :mK 55 (bX [.agg [.pv (.sl .str),.pv Y14]] [pB] (c2A (jcw N))):=
 mO (fC (jgp N) (fC (jfZ N) (fC (jhP N) (fC (jcL N) ja)))) func55 rfl N (.seq .no (.seq (.seq .no (.block (.loop jrs .no))) (.seq (.seq .no (.block (.loop js0 (.seq .no (.seq (.block (.seq .no (.seq (.seq .no (.block (.loop jrc .no))) .no))) .no))))) .no))) _
def jMA :Sh:=⟨.dead:: .box 1 0:: .box 2 0:: .box 3 0::pI::dz 33 [],[(1,false,[.pv (.sl .str),.pv Y14]),(2,false,[.nils,.nils]),(3,false,[.own 700300 .str 9 true,.own 700301 Y16 143 true])]⟩
def s_l18CopyConf_m (e:List Z1) (k:List Z4):Option ((List Z1)×(List Z4)):=
 (if room ([]:List Z1).length e.length 16 then iter (fun j (a,l,b,f,c)=>bif decide (a<(b.length:Int))then oB (idx b a) fun d=>(if room ([]:List Z1).length d.1.length 16 then oB (idx b a) fun h=>(if room c.length ([((([]:List Z1)++d.1),h.2)]:List Z4).length 40 then if fits (a+1)then j ((a+1),l,b,f,(c++([((([]:List Z1)++d.1),h.2)]:List Z4)))else none else none)else none)else some (f,c)) N ((0:Int),e,k,(([]:List Z1)++e),([]:List Z4))else none)
theorem jMp :mK 149 (bX [.agg [.pv (.sl .str),.pv Y14]] [.agg [.own 1 .str 9 true,.own 2 Y16 143 true]] (c2A (s_l18CopyConf_m N))):=
 mO ja func149 rfl N (.seq .no (.seq .no (.seq (.seq .no (.block (.loop jMA .no))) .no))) _
def s_IndexNew_m (c:List Z1) (b:List Z4):Option ((List Z1)×(List Z4)):=
 (oB (jcw N c b) fun d=>bif !d then some (([]:List Z1),([]:List Z4))else oB (s_l18CopyConf_m N c b) fun a=>some (a.1,a.2))
theorem jOh :mK 119 (bX [.agg [.pv (.sl .str),.pv Y14]] [.agg [.own 1 .str 9 true,.own 2 Y16 143 true,.nils]] (c2A (s_IndexNew_m N))):=
 mO (fC (jtf N) (fC (jMp N) ja)) func119 rfl N .no _
def jot :Sh:=⟨pS:: .dead:: .dead::pI::dz 19 [],[]⟩
def jcu (d:List UInt8):Z10:=
 (iter (fun e (b,a)=>bif decide (a<(b.length:Int))then oB (idx b a) fun h=>(bif decide ((h.toNat:Int)<32)then some false else oB (idx b a) fun f=>bif decide ((126:Int)<(f.toNat:Int))then some false else if fits (a+1)then e (b,(a+1))else none)else some (decide ((b.length:Int)<=160))) N (d,(0:Int)))
theorem jpZ :mK 224 (bX [pS] [pB] (c1A (jcu N))):=
 mO ja func224 rfl N (.seq .no (.seq (.seq .no (.block (.loop jot .no))) .no)) _
def jp0 :Sh:=⟨.dead:: .box 1 0:: .dead::pI::dz 100 [],[(1,false,[pI,.pv Y17,.pv Y13])]⟩
def jtP :Sh:=⟨.dead:: .box 1 0::dz 3 (pI::dz 98 []),[(1,false,[pI,.pv Y17,.pv Y13])]⟩
def jcb (B:Int) (z:Z7) (y:Z5):Z10:=
 (iter (fun l (b,j,d,h)=>bif decide (b<(d.length:Int))then oB (idx d b) fun e=>(oB (jT N e.1) fun A=>bif !A then some false else oB (jcu N e.2) fun u=>bif !u then some false else bif decide ((0:Int)<b)then if fits (b-1)then oB (idx d (b-1)) fun n=>(bif Op.bytesLess e.1 n.1||decide (e.1=n.1)then some false else if fits (b+1)then l ((b+1),j,d,h)else none)else none else if fits (b+1)then l ((b+1),j,d,h)else none)else iter (fun o (a,i,k,c)=>bif decide (a<(c.length:Int))then oB (idx c a) fun q=>(oB (jT N q.1) fun r=>bif !r then some false else oB (idx c a) fun t=>oB (jJ N t.2 0 999999999) fun x=>bif !x then some false else bif decide ((0:Int)<a)then oB (idx c a) fun p=>(if fits (a-1)then oB (idx c (a-1)) fun m=>(bif Op.bytesLess p.1 m.1||decide (p.1=m.1)then some false else if fits (a+1)then o ((a+1),i,k,c)else none)else none)else if fits (a+1)then o ((a+1),i,k,c)else none)else oB (jJ N i 1 9999) fun v=>bif v then oB (jJ N (k.length:Int) 0 3) fun w=>(bif w then some (decide ((c.length:Int)<=3))else some false)else some false) N ((0:Int),j,d,h)) N ((0:Int),B,z,y))
theorem jpD :mK 168 (bX [.agg [pI,.pv Y17,.pv Y13]] [pB] (c3A (jcb N))):=
 mO (fC (jgp N) (fC (jpZ N) (fC (jcL N) ja))) func168 rfl N (.seq .no (.seq (.seq .no (.block (.loop jp0 .no))) (.seq (.seq .no (.block (.loop jtP .no))) .no))) _
def jkS :Sh:=⟨.pv Y3:: .dead:: .dead::pI::dz 33 [],[]⟩
def jbU (j:List Z0):Z10:=
 (iter (fun d (b,a)=>bif decide (a<(b.length:Int))then oB (idx b a) fun c=>(oB (jcb N c.1 c.2.1 c.2.2) fun h=>bif !h then some false else bif decide ((0:Int)<a)then oB (idx b a) fun i=>(if fits (a-1)then oB (idx b (a-1)) fun f=>(bif decide (i.1<=f.1)then some false else if fits (a+1)then d (b,(a+1))else none)else none)else if fits (a+1)then d (b,(a+1))else none)else some (decide ((b.length:Int)<=16))) N (j,(0:Int)))
theorem jpx :mK 96 (bX [.pv Y3] [pB] (c1A (jbU N))):=
 mO (fC (jpD N) ja) func96 rfl N (.seq .no (.seq (.seq .no (.block (.loop jkS .no))) .no)) _
def jl5 :Sh:=⟨.pv (.sl .str)::pS::dz 3 (pI::dz 42 []),[]⟩
def s_l7Put_m (r:List Z1) (p:List UInt8):Option ((List Z1)):=
 (iter (fun q (a,b,c)=>bif decide (c<(a.length:Int))then oB (idx a c) fun o=>(bif Op.bytesLess o b then if fits (c+1)then q (a,b,(c+1))else none else bif decide (c<(a.length:Int))then oB (idx a c) fun t=>(bif decide (t=b)then some a else oB (cut a 0 c) fun e=>if room ([]:List Z1).length e.length 16 then if room (([]:List Z1)++e).length ([b]:List Z1).length 16 then oB (cut a c (a.length:Int)) fun j=>(if room ((([]:List Z1)++e)++([b]:List Z1)).length j.length 16 then some (((([]:List Z1)++e)++([b]:List Z1))++j)else none)else none else none)else oB (cut a 0 c) fun d=>if room ([]:List Z1).length d.length 16 then if room (([]:List Z1)++d).length ([b]:List Z1).length 16 then oB (cut a c (a.length:Int)) fun i=>(if room ((([]:List Z1)++d)++([b]:List Z1)).length i.length 16 then some (((([]:List Z1)++d)++([b]:List Z1))++i)else none)else none else none)else bif decide (c<(a.length:Int))then oB (idx a c) fun n=>(bif decide (n=b)then some a else oB (cut a 0 c) fun f=>if room ([]:List Z1).length f.length 16 then if room (([]:List Z1)++f).length ([b]:List Z1).length 16 then oB (cut a c (a.length:Int)) fun k=>(if room ((([]:List Z1)++f)++([b]:List Z1)).length k.length 16 then some (((([]:List Z1)++f)++([b]:List Z1))++k)else none)else none else none)else oB (cut a 0 c) fun h=>if room ([]:List Z1).length h.length 16 then if room (([]:List Z1)++h).length ([b]:List Z1).length 16 then oB (cut a c (a.length:Int)) fun l=>(if room ((([]:List Z1)++h)++([b]:List Z1)).length l.length 16 then some (((([]:List Z1)++h)++([b]:List Z1))++l)else none)else none else none) N (r,p,(0:Int)))
theorem jgt :mK 248 (bX [.pv (.sl .str),pS] [.pv (.sl .str)] (c2A (s_l7Put_m N))):=
 mO ja func248 rfl N (.seq .no (.seq .no (.seq (.block (.loop jl5 .no)) .no))) _
def joT :Sh:=⟨.pv Y3:: .dead:: .dead:: .pv (.sl .str)::pI::dz 30 [],[]⟩
def jkn :Sh:=⟨.pv Y3:: .dead:: .dead:: .pv (.sl .str)::pI::pI::dz 29 [],[]⟩
def s_l7Names_m (l:List Z0):Option ((List Z1)):=
 (iter (fun m (h,e,f)=>bif decide (f<(h.length:Int))then iter (fun p (b,i,a,c)=>oB (idx b a) fun k=>bif decide (c<(k.2.1.length:Int))then oB (idx b a) fun o=>(oB (idx o.2.1 c) fun j=>oB (s_l7Put_m N i j.1) fun n=>if fits (c+1)then p (b,n,a,(c+1))else none)else if fits (a+1)then m (b,i,(a+1))else none) N (h,e,f,(0:Int))else some e) N (l,([]:List Z1),(0:Int)))
theorem jlz :mK 199 (bX [.pv Y3] [.pv (.sl .str)] (c1A (s_l7Names_m N))):=
 mO (fC (jgt N) ja) func199 rfl N (.seq .no (.seq .no (.seq (.seq .no (.block (.loop joT (.seq .no (.seq (.block (.seq .no (.block (.loop jkn .no)))) .no))))) .no))) _
def jl8 :Sh:=⟨.dead::pS:: .box 2 0:: .dead:: .dead::pI::dz 21 [],[(2,false,[pI,.pv Y17,.pv Y13])]⟩
def s_l6Field_m (l:Int) (d:Z7) (n:Z5) (i:List UInt8):Option (Z1):=
 (iter (fun j (c,a,m,b,e)=>bif decide (a<(b.length:Int))then oB (idx b a) fun h=>(bif decide (h.1=c)then oB (idx b a) fun k=>(some k.2)else if fits (a+1)then j (c,(a+1),m,b,e)else none)else some ([]:List UInt8)) N (i,(0:Int),l,d,n))
theorem jhA :mK 250 (bX [.agg [pI,.pv Y17,.pv Y13],pS] [pS] (c4A (s_l6Field_m N))):=
 mO ja func250 rfl N (.seq .no (.seq (.seq .no (.block (.loop jl8 .no))) .no)) _
def jo3 :Sh:=⟨pS:: .dead:: .dead:: .own 600003 Y7 209 true::pI::dz 50 [],[]⟩
def jm6 :Sh:=⟨pS:: .dead:: .dead:: .own 600003 Y7 209 true::pI:: .own 600005 (.int .u8) 5 true::pI::dz 48 [],[]⟩
def jtK :Sh:=⟨pS:: .dead:: .dead:: .own 600003 Y7 209 true::pI:: .pv (.sl (.int .u8))::pI::dz 48 [],[]⟩
def jb3 (z:List UInt8):Option ((List Z9)):=
 (iter (fun l (r,p,n)=>bif decide (n<(r.length:Int))then iter (fun G (b,j,a,c,k)=>bif decide (a<(b.length:Int))then oB (idx b a) fun C=>(oB (jt N (C.toNat:Int)) fun E=>bif !decide (E=0)then oB (idx b a) fun B=>(oB (jt N (B.toNat:Int)) fun t=>if room c.length ([t]:List Int).length 1 then if fits (a+1)then G (b,j,(a+1),(c++([t]:List Int)),k)else none else none)else meet (fun(d:Z1×(List Z9)×Int×(List Int)×Int)=>match d with|(w,i,e,o,v)=>bif decide ((0:Int)<o.length)then if room i.length ([((bytesOf o),(i.length:Int),v,e)]:List Z9).length 40 then if fits (e+1)then l (w,(i++([((bytesOf o),(i.length:Int),v,e)]:List Z9)),(e+1))else none else none else if fits (e+1)then l (w,i,(e+1))else none) fun y=>bif decide ((12:Int)<c.length)then oB (cut c 0 12) fun A=>(y (b,j,a,A,k))else y (b,j,a,c,k))else meet (fun(d:Z1×(List Z9)×Int×(List Int)×Int)=>match d with|(u,h,f,m,x)=>bif decide ((0:Int)<m.length)then if room h.length ([((bytesOf m),(h.length:Int),x,f)]:List Z9).length 40 then if fits (f+1)then l (u,(h++([((bytesOf m),(h.length:Int),x,f)]:List Z9)),(f+1))else none else none else if fits (f+1)then l (u,h,(f+1))else none) fun q=>bif decide ((12:Int)<c.length)then oB (cut c 0 12) fun D=>(q (b,j,a,D,k))else q (b,j,a,c,k)) N (r,p,n,([]:List Int),n)else some p) N (z,([]:List Z9),(0:Int)))
theorem jsr :mK 301 (bX [pS] [.own 1 Y7 209 true] (c1A (jb3 N))):=
 mO (fC (jfG N) ja) func301 rfl N (.seq .no (.seq .no (.seq (.seq .no (.block (.loop jo3 (.seq .no (.seq (.block (.seq .no (.seq .no (.seq (.block (.loop jm6 .no)) (.meet jtK .no .no))))) .no))))) .no))) _
def jmf :Sh:=⟨.dead:: .dead:: .box 2 0:: .dead:: .dead:: .own 600005 Y15 155 true:: .own 600006 Y7 209 true::pI::dz 43 [],[(2,false,[.pv (.sl .str),.pv Y14])]⟩
def jbY (o:List Z1) (n:List Z4) (l:List UInt8):Option (Z8):=
 (oB (jb3 N l) fun q=>iter (fun e (c,b,a,d,h)=>bif decide (a<(b.length:Int))then oB (idx b a) fun k=>(oB (jaq N k.1) fun f=>oB (idx b a) fun r=>oB (jap N d r.1) fun m=>bif !m then oB (jap N d f) fun p=>(bif !p then oB (idx b a) fun i=>(if room c.length ([(f,i.2.1)]:Z5).length 24 then if fits (a+1)then e ((c++([(f,i.2.1)]:Z5)),b,(a+1),d,h)else none else none)else if fits (a+1)then e (c,b,(a+1),d,h)else none)else if fits (a+1)then e (c,b,(a+1),d,h)else none)else some c) N (([]:Z5),q,(0:Int),o,n))
theorem jrk :mK 287 (bX [.agg [.pv (.sl .str),.pv Y14],pS] [.own 1 Y15 155 true] (c3A (jbY N))):=
 mO (fC (jsr N) (fC (jfZ N) (fC (jhP N) ja))) func287 rfl N (.seq .no (.seq .no (.seq .no (.seq (.seq .no (.block (.loop jmf .no))) .no)))) _
def jrL :Sh:=⟨.pv Y13:: .pv (.sl .str)::dz 3 (pI::dz 36 []),[]⟩
def jcC (l:Z5) (i:List Z1):Z10:=
 (iter (fun j (b,c,a)=>bif decide (a<(c.length:Int))then bif decide ((b.length:Int)<=a)then some false else(oB (idx b a) fun h=>oB (idx c a) fun k=>bif !decide (h.1=k)then some false else oB (idx b a) fun f=>oB (idx b 0) fun d=>if fits (d.2+a)then bif !decide (f.2=(d.2+a))then some false else(if fits (a+1)then j (b,c,(a+1))else none)else none)else some true) N (l,i,(0:Int)))
theorem jtg :mK 302 (bX [.pv Y13,.pv (.sl .str)] [pB] (c2A (jcC N))):=
 mO ja func302 rfl N (.seq .no (.seq (.seq .no (.block (.loop jrL .no))) .no)) _
def jlL :Sh:=⟨.dead:: .pv Y13:: .box 2 0:: .dead:: .dead::pI::pI::dz 38 [],[(2,false,[.pv (.sl .str),.pv Y14])]⟩
def jcJ (o:List Z1) (m:List Z4) (n:Z5):Option (Int):=
 (iter (fun e (d,c,a,f,b)=>bif decide (a<(b.length:Int))then oB (idx b a) fun j=>(oB (jcC N d j.1) fun k=>bif k then bif decide (c<0)then if fits (a+1)then e (d,a,(a+1),f,b)else none else(oB (idx b a) fun l=>oB (idx b c) fun i=>bif decide ((i.1.length:Int)<(l.1.length:Int))then if fits (a+1)then e (d,a,(a+1),f,b)else none else if fits (a+1)then e (d,c,(a+1),f,b)else none)else if fits (a+1)then e (d,c,(a+1),f,b)else none)else some c) N (n,((-1):Int),(0:Int),o,m))
theorem jqp :mK 288 (bX [.agg [.pv (.sl .str),.pv Y14],.pv Y13] [pI] (c3A (jcJ N))):=
 mO (fC (jtg N) ja) func288 rfl N (.seq .no (.seq .no (.seq (.seq .no (.block (.loop jlL .no))) .no))) _
def jnK :Sh:=⟨.dead:: .dead:: .box 2 0:: .dead:: .dead:: .own 600005 Y15 155 true:: .pv Y13::dz 45 [],[(2,false,[.pv (.sl .str),.pv Y14])]⟩
def ja5 (k:List Z1) (j:List Z4) (n:List UInt8):Option (Z8):=
 (oB (jbY N k j n) fun r=>iter (fun i (b,a,e,c)=>bif decide ((0:Int)<a.length)then oB (jcJ N e c a) fun d=>(bif decide (d<0)then oB (idx a 0) fun h=>(if room b.length ([h]:Z5).length 24 then oB (cut a 1 (a.length:Int)) fun p=>(i ((b++([h]:Z5)),p,e,c))else none)else oB (idx c d) fun l=>oB (idx a 0) fun f=>if room b.length ([(l.2,f.2)]:Z5).length 24 then oB (idx c d) fun o=>(oB (cut a (o.1.length:Int) (a.length:Int)) fun q=>i ((b++([(l.2,f.2)]:Z5)),q,e,c))else none)else some b) N (([]:Z5),r,k,j))
theorem jiO :mK 249 (bX [.agg [.pv (.sl .str),.pv Y14],pS] [.own 1 Y15 155 true] (c3A (ja5 N))):=
 mO (fC (jrk N) (fC (jqp N) ja)) func249 rfl N (.seq .no (.seq .no (.seq .no (.seq (.block (.loop jnK .no)) .no)))) _
def jn9 :Sh:=⟨.dead:: .pv Y3::pS:: .box 3 0::dz 3 (.pv (.sl .str)::pI::dz 31 []),[(3,false,[.pv (.sl .str),.pv Y14])]⟩
def jrT :Sh:=⟨.dead:: .pv Y3::pS:: .box 3 0::dz 3 (.pv (.sl .str)::pI:: .own 600009 Y15 155 true::pI::dz 29 []),[(3,false,[.pv (.sl .str),.pv Y14])]⟩
def s_l7Terms_m (x:List Z1) (w:List Z4) (y:List Z0) (r:List UInt8):Option ((List Z1)):=
 (iter (fun u (c,n,i,b,q,l)=>bif decide (b<(c.length:Int))then oB (idx c b) fun e=>(oB (s_l6Field_m N e.1 e.2.1 e.2.2 n) fun z=>oB (ja5 N q l z) fun v=>iter (fun B (j,k,m,h,f,a,o,p)=>bif decide (a<(f.length:Int))then oB (idx f a) fun A=>(oB (s_l7Put_m N m A.1) fun t=>if fits (a+1)then B (j,k,t,h,f,(a+1),o,p)else none)else if fits (h+1)then u (j,k,m,(h+1),o,p)else none) N (c,n,i,b,v,(0:Int),q,l))else some i) N (y,r,([]:List Z1),(0:Int),x,w))
theorem jqQ :mK 200 (bX [.agg [.pv (.sl .str),.pv Y14],.pv Y3,pS] [.pv (.sl .str)] (c4A (s_l7Terms_m N))):=
 mO (fC (jhA N) (fC (jiO N) (fC (jgt N) ja))) func200 rfl N (.seq .no (.seq .no (.seq (.seq .no (.block (.loop jn9 (.seq .no (.seq (.block (.seq .no (.seq .no (.block (.loop jrT .no))))) .no))))) .no))) _
def jnY :Sh:=⟨dz 3 (pS::dz 5 (.own 600009 tI 3 true:: .own 600010 Y15 155 true::pI::dz 28 [])),[]⟩
def s_l7Post_m (m:List Z1) (l:List Z4) (r:Int) (o:Z7) (n:Z5) (j:List UInt8) (p:List UInt8):Option ((List Int)):=
 (oB (s_l6Field_m N r o n j) fun q=>oB (ja5 N m l q) fun k=>iter (fun e (d,c,b,a)=>bif decide (a<(b.length:Int))then oB (idx b a) fun i=>(bif decide (i.1=d)then oB (idx b a) fun f=>(if room c.length ([f.2]:List Int).length 8 then if fits (a+1)then e (d,(c++([f.2]:List Int)),b,(a+1))else none else none)else if fits (a+1)then e (d,c,b,(a+1))else none)else some c) N (p,([]:List Int),k,(0:Int)))
theorem js6 :mK 251 (bX [.agg [.pv (.sl .str),.pv Y14],.agg [pI,.pv Y17,.pv Y13],pS,pS] [.own 1 tI 3 true] (c7A (s_l7Post_m N))):=
 mO (fC (jhA N) (fC (jiO N) ja)) func251 rfl N (.seq .no (.seq .no (.seq .no (.seq (.seq .no (.block (.loop jnY .no))) .no)))) _
def jkw :Sh:=⟨.dead:: .pv Y3::pS::pS:: .box 4 0::dz 3 (.box 8 0:: .box 9 0::pI::dz 34 []),[(4,false,[.pv (.sl .str),.pv Y14]),(8,false,[pS,pS,.nils]),(9,false,[pS,pS,.own 700902 Y12 217 true])]⟩
def s_l7Entry_m (v:List Z1) (u:List Z4) (w:List Z0) (m:List UInt8) (p:List UInt8):Option Z2:=
 (iter (fun n (b,i,d,a,l,h,o,q,e,k,c)=>bif decide (a<(b.length:Int))then oB (idx b a) fun f=>(oB (s_l7Post_m N l h f.1 f.2.1 f.2.2 i d) fun j=>bif decide ((0:Int)<j.length)then oB (idx b a) fun r=>(if room c.length ([(r.1,j)]:Z6).length 32 then if fits (a+1)then n (b,i,d,(a+1),l,h,o,q,e,k,(c++([(r.1,j)]:Z6)))else none else none)else if fits (a+1)then n (b,i,d,(a+1),l,h,o,q,e,k,c)else none)else some (e,k,c)) N (w,m,p,(0:Int),v,u,([]:List UInt8),([]:List UInt8),m,p,([]:Z6)))
theorem jtr :mK 201 (bX [.agg [.pv (.sl .str),.pv Y14],.pv Y3,pS,pS] [.agg [pS,pS,.own 1 Y12 217 true]] (c5A (s_l7Entry_m N))):=
 mO (fC (js6 N) ja) func201 rfl N (.seq .no (.seq .no (.seq (.seq .no (.block (.loop jkw .no))) .no))) _
def s_l7CopyDoc_m (N:Nat) (c:Int) (a:Z7) (b:Z5):Option Z0:=
 (if room ([]:Z7).length a.length 32 then if room ([]:Z5).length b.length 24 then some (c,(([]:Z7)++a),(([]:Z5)++b))else none else none)
theorem jtC :mK 202 (bX [.agg [pI,.pv Y17,.pv Y13]] [.agg [pI,.own 1 Y18 134 true,.own 2 Y15 136 true]] (c3A (s_l7CopyDoc_m N))):=
 mO ja func202 rfl N .no _
def jn8 :Sh:=⟨.dead:: .pv Y3:: .box 2 0:: .dead:: .box 4 0:: .box 5 0:: .pv (.sl .str)::pI::dz 58 [],[(2,false,[.pv (.sl .str),.pv Y14]),(4,false,[.nils,.nils]),(5,false,[.nils,.own 700501 Y6 132 true])]⟩
def jpr :Sh:=⟨.dead:: .pv Y3:: .box 2 0:: .dead:: .box 4 0:: .box 5 0:: .pv (.sl .str)::pI:: .pv (.sl .str)::pI::dz 56 [],[(2,false,[.pv (.sl .str),.pv Y14]),(4,false,[.nils,.nils]),(5,false,[.nils,.own 700501 Y6 132 true])]⟩
def jn0 :Sh:=⟨.dead:: .pv Y3:: .dead:: .dead:: .box 4 0:: .box 5 0::dz 4 (pI::dz 55 []),[(4,false,[.nils,.nils]),(5,false,[.own 700500 Y4 81 true,.own 700501 Y6 132 true])]⟩
def s_l7Of_m (G:List Z1) (E:List Z4) (w:List Z0):Option ((List Z0)×(List Z2)):=
 (oB (s_l7Names_m N w) fun H=>iter (fun C (h,e,f,y,v,r)=>bif decide (f<(e.length:Int))then oB (idx e f) fun A=>(oB (s_l7Terms_m N y v h A) fun D=>iter (fun K (i,q,d,k,b,o,p,l)=>bif decide (b<(k.length:Int))then oB (idx q d) fun I=>(oB (idx k b) fun z=>oB (s_l7Entry_m N o p i I z) fun t=>if room l.length ([t]:List Z2).length 56 then if fits (b+1)then K (i,q,d,k,(b+1),o,p,(l++([t]:List Z2)))else none else none)else if fits (d+1)then C (i,q,(d+1),o,p,l)else none) N (h,e,f,D,(0:Int),y,v,r))else iter (fun B (j,c,n,x)=>bif decide (c<(j.length:Int))then oB (idx j c) fun m=>(oB (s_l7CopyDoc_m N m.1 m.2.1 m.2.2) fun u=>if room n.length ([u]:List Z0).length 56 then if fits (c+1)then B (j,(c+1),(n++([u]:List Z0)),x)else none else none)else some (n,x)) N (h,(0:Int),([]:List Z0),r)) N (w,H,(0:Int),G,E,([]:List Z2)))
theorem jmU :mK 130 (bX [.agg [.pv (.sl .str),.pv Y14],.pv Y3] [.agg [.own 1 Y4 81 true,.own 2 Y6 132 true]] (c3A (s_l7Of_m N))):=
 mO (fC (jlz N) (fC (jqQ N) (fC (jtr N) (fC (jtC N) ja)))) func130 rfl N (.seq .no (.seq .no (.seq .no (.seq (.seq .no (.block (.loop jn8 (.seq .no (.seq (.block (.seq .no (.seq .no (.block (.loop jpr .no))))) .no))))) (.seq (.seq .no (.block (.loop jn0 .no))) .no))))) _
def jnI :Sh:=⟨.pv Y19:: .pv Y19::dz 3 (pI::dz 20 []),[]⟩
def jb1 (d:List Int) (e:List Int):Z10:=
 (bif !decide ((d.length:Int)=(e.length:Int))then some false else iter (fun i (b,c,a)=>bif decide (a<(b.length:Int))then oB (idx b a) fun h=>(oB (idx c a) fun j=>bif !decide (h=j)then some false else if fits (a+1)then i (b,c,(a+1))else none)else some true) N (d,e,(0:Int)))
theorem jlH :mK 223 (bX [.pv Y19,.pv Y19] [pB] (c2A (jb1 N))):=
 mO ja func223 rfl N (.seq .no (.seq .no (.seq (.seq .no (.block (.loop jnI .no))) .no))) _
def jnx :Sh:=⟨.dead:: .dead:: .box 2 0:: .box 3 0:: .dead::pI::dz 57 [],[(2,false,[pS,pS,.pv Y11]),(3,false,[pS,pS,.pv Y11])]⟩
def jbQ (d:List UInt8) (i:List UInt8) (j:Z6) (e:List UInt8) (h:List UInt8) (f:Z6):Z10:=
 (bif !decide (d=e)then some false else bif !decide (i=h)then some false else bif !decide ((j.length:Int)=(f.length:Int))then some false else iter (fun n (a,u,r,b,q,p,c)=>bif decide (a<(b.length:Int))then oB (idx b a) fun m=>(oB (idx c a) fun v=>bif !decide (m.1=v.1)then some false else oB (idx b a) fun l=>oB (idx c a) fun o=>oB (jb1 N l.2 o.2) fun t=>bif !t then some false else if fits (a+1)then n ((a+1),u,r,b,q,p,c)else none)else some true) N ((0:Int),d,i,j,e,h,f))
theorem jtG :mK 167 (bX [.agg [pS,pS,.pv Y11],.agg [pS,pS,.pv Y11]] [pB] (c6A (jbQ N))):=
 mO (fC (jlH N) ja) func167 rfl N (.seq .no (.seq .no (.seq (.seq .no (.block (.loop jnx .no))) .no))) _
def jrW :Sh:=⟨dz 3 (.box 3 0:: .dead:: .box 5 0::pI::dz 39 []),[(3,false,[.pv Y3,.pv Y5]),(5,false,[.own 700500 Y4 81 true,.own 700501 Y6 132 true])]⟩
def jcR (j:List Z1) (i:List Z4) (c:List Z0) (h:List Z2):Z10:=
 (oB (jcw N j i) fun r=>bif !r then some false else oB (jbU N c) fun o=>bif !o then some false else oB (s_l7Of_m N j i c) fun d=>bif !decide ((d.2.length:Int)=(h.length:Int))then some false else iter (fun n (a,q,k,l,e)=>bif decide (a<(e.length:Int))then oB (idx e a) fun b=>(oB (idx k a) fun f=>oB (jbQ N b.1 b.2.1 b.2.2 f.1 f.2.1 f.2.2) fun p=>bif !p then some false else if fits (a+1)then n ((a+1),q,k,l,e)else none)else some true) N ((0:Int),c,h,d.1,d.2))
theorem jpm :mK 93 (bX [.agg [.pv (.sl .str),.pv Y14],.agg [.pv Y3,.pv Y5]] [pB] (c4A (jcR N))):=
 mO (fC (jtf N) (fC (jpx N) (fC (jmU N) (fC (jtG N) ja)))) func93 rfl N (.seq .no (.seq .no (.seq .no (.seq .no (.seq (.seq .no (.block (.loop jrW .no))) .no))))) _
def jCI :Sh:=⟨.pv Y19:: .dead:: .dead::pI::dz 31 [],[]⟩
def jx3 (j:List Int):Z10:=
 (iter (fun c (b,a)=>bif decide (a<(b.length:Int))then oB (idx b a) fun f=>(oB (jJ N f 0 999999999) fun h=>bif !h then some false else bif decide ((0:Int)<a)then oB (idx b a) fun i=>(if fits (a-1)then oB (idx b (a-1)) fun e=>(bif decide (i<=e)then some false else if fits (a+1)then c (b,(a+1))else none)else none)else if fits (a+1)then c (b,(a+1))else none)else some (decide ((b.length:Int)<=60))) N (j,(0:Int)))
theorem jC9 :mK 94 (bX [.pv Y19] [pB] (c1A (jx3 N))):=
 mO (fC (jcL N) ja) func94 rfl N (.seq .no (.seq (.seq .no (.block (.loop jCI .no))) .no)) _
def jA0 :Sh:=⟨.dead::pI:: .box 2 0:: .dead:: .box 4 0::pI::dz 21 [],[(2,false,[.pv Y3,.pv Y5]),(4,false,[pI,.nils,.nils])]⟩
def s_l12Doc_m (h:List Z0) (j:List Z2) (l:Int):Option Z0:=
 (iter (fun k (d,a,b,i,m)=>bif decide (a<(b.length:Int))then oB (idx b a) fun f=>(bif decide (f.1=d)then oB (idx b a) fun c=>(some (c.1,c.2.1,c.2.2))else if fits (a+1)then k (d,(a+1),b,i,m)else none)else some (0,([]:Z7),([]:Z5))) N (l,(0:Int),h,j,(0:Int)))
theorem jDn :mK 95 (bX [.agg [.pv Y3,.pv Y5],pI] [.agg [pI,.pv Y17,.pv Y13]] (c3A (s_l12Doc_m N))):=
 mO ja func95 rfl N (.seq .no (.seq (.seq .no (.block (.loop jA0 .no))) .no)) _
def jJe :Sh:=⟨.pv Y19::pI::dz 3 (pI::dz 12 []),[]⟩
def s_l8Has_m (i:List Int) (d:Int):Z10:=
 (iter (fun h (b,c,a)=>bif decide (a<(b.length:Int))then oB (idx b a) fun f=>(bif decide (f=c)then some true else if fits (a+1)then h (b,c,(a+1))else none)else some false) N (i,d,(0:Int)))
theorem jIb :mK 225 (bX [.pv Y19,pI] [pB] (c2A (s_l8Has_m N))):=
 mO ja func225 rfl N (.seq .no (.seq (.seq .no (.block (.loop jJe .no))) .no)) _
def s_l18Dead_m (e:List Z0) (d:List Z2) (c:List Int) (b:Int):Z10:=
 (oB (s_l8Has_m N c b) fun a=>some a)
theorem jIy :mK 169 (bX [.agg [.pv Y3,.pv Y5,.pv Y19],pI] [pB] (c4A (s_l18Dead_m N))):=
 mO (fC (jIb N) ja) func169 rfl N .no _
def jIl :Sh:=⟨.pv Y3:: .dead:: .dead:: .box 3 0:: .dead::pI::dz 32 [],[(3,false,[pI,.pv Y17,.pv Y13])]⟩
def s_l18Put_m (p:List Z0) (t:Int) (r:Z7) (q:Z5):Z13:=
 (iter (fun o (a,b,e,j,i)=>bif decide (b<(a.length:Int))then oB (idx a b) fun n=>(bif decide (n.1<e)then if fits (b+1)then o (a,(b+1),e,j,i)else none else oB (cut a 0 b) fun d=>if room ([]:List Z0).length d.length 56 then oB (s_l7CopyDoc_m N e j i) fun h=>(if room (([]:List Z0)++d).length ([h]:List Z0).length 56 then oB (cut a b (a.length:Int)) fun l=>(if room ((([]:List Z0)++d)++([h]:List Z0)).length l.length 56 then some (((([]:List Z0)++d)++([h]:List Z0))++l)else none)else none)else none)else oB (cut a 0 b) fun c=>if room ([]:List Z0).length c.length 56 then oB (s_l7CopyDoc_m N e j i) fun f=>(if room (([]:List Z0)++c).length ([f]:List Z0).length 56 then oB (cut a b (a.length:Int)) fun k=>(if room ((([]:List Z0)++c)++([f]:List Z0)).length k.length 56 then some (((([]:List Z0)++c)++([f]:List Z0))++k)else none)else none)else none) N (p,(0:Int),t,r,q))
theorem jJy :mK 170 (bX [.pv Y3,.agg [pI,.pv Y17,.pv Y13]] [.own 1 Y4 81 false] (c4A (s_l18Put_m N))):=
 mO (fC (jtC N) ja) func170 rfl N (.seq .no (.seq .no (.seq (.block (.loop jIl .no)) .no))) _
def jI2 :Sh:=⟨.dead:: .box 1 0:: .dead:: .own 600003 Y4 81 false::pI::dz 45 [],[(1,false,[.pv (.sl .str),.pv Y14,.pv Y0])]⟩
def jJx :Sh:=⟨.dead:: .box 1 0:: .dead:: .own 600003 Y4 81 false::pI::pI::dz 44 [],[(1,false,[.pv (.sl .str),.pv Y14,.pv Y0])]⟩
def s_l18Docs_m (o:List Z1) (w:List Z4) (t:List Z3):Z13:=
 (iter (fun r (k,l,v,q,m)=>bif decide (l<(m.length:Int))then iter (fun n (j,a,b,f,i,c)=>oB (idx c a) fun p=>bif decide (b<(p.1.1.length:Int))then oB (idx c a) fun y=>(oB (idx y.1.1 b) fun d=>oB (idx c a) fun h=>oB (s_l18Dead_m N h.1.1 h.1.2 h.2 d.1) fun x=>bif !x then oB (s_l18Put_m N j d.1 d.2.1 d.2.2) fun u=>(if fits (b+1)then n (u,a,(b+1),f,i,c)else none)else if fits (b+1)then n (j,a,(b+1),f,i,c)else none)else if fits (a+1)then r (j,(a+1),f,i,c)else none) N (k,l,(0:Int),v,q,m)else some k) N (([]:List Z0),(0:Int),o,w,t))
theorem jH3 :mK 97 (bX [.agg [.pv (.sl .str),.pv Y14,.pv Y0]] [.own 1 Y4 81 false] (c3A (s_l18Docs_m N))):=
 mO (fC (jIy N) (fC (jJy N) ja)) func97 rfl N (.seq .no (.seq .no (.seq (.seq .no (.block (.loop jI2 (.seq .no (.seq (.block (.seq .no (.block (.loop jJx .no)))) .no))))) .no))) _
def jIz :Sh:=⟨.dead:: .box 1 0:: .dead::pI::dz 67 [],[(1,false,[.pv (.sl .str),.pv Y14,.pv Y0])]⟩
def jJd :Sh:=⟨.dead:: .box 1 0:: .dead::pI:: .box 4 0::pI::dz 22 (pB::dz 9 (pB::dz 32 [])),[(1,false,[.pv (.sl .str),.pv Y14,.pv Y0]),(4,false,[.pv Y3,.pv Y5,.pv Y19])]⟩
def s_l18Ok_m (q:List Z1) (z:List Z4) (u:List Z3):Z10:=
 (iter (fun r (f,e,c,b)=>bif decide (f<(b.length:Int))then oB (idx b f) fun a=>(oB (jcR N e c a.1.1 a.1.2) fun A=>bif !A then some false else oB (jx3 N a.2) fun m=>bif !m then some false else bif decide ((a.1.1.length:Int)<=(a.2.length:Int))then some false else iter (fun C (j,d,y,D,l,n,p,o,k,i)=>bif decide (d<(i.length:Int))then oB (idx i d) fun B=>(oB (s_l12Doc_m N o k B) fun t=>bif decide (t.1=0)then some false else if fits (d+1)then C (j,(d+1),y,D,l,n,p,o,k,i)else none)else if fits (j+1)then r ((j+1),l,n,p)else none) N (f,(0:Int),(!m),(decide ((a.1.1.length:Int)<=(a.2.length:Int))),e,c,b,a.1.1,a.1.2,a.2))else oB (jcw N e c) fun x=>bif x then bif decide ((b.length:Int)<=5)then oB (s_l18Docs_m N e c b) fun v=>(oB (jbU N v) fun w=>some w)else(some false)else some false) N ((0:Int),q,z,u))
theorem jIW :mK 41 (bX [.agg [.pv (.sl .str),.pv Y14,.pv Y0]] [pB] (c3A (s_l18Ok_m N))):=
 mO (fC (jpm N) (fC (jC9 N) (fC (jDn N) (fC (jtf N) (fC (jH3 N) (fC (jpx N) ja)))))) func41 rfl N (.seq .no (.seq (.seq .no (.block (.loop jIz (.seq .no (.seq (.block (.seq .no (.seq .no (.seq .no (.block (.loop jJd .no)))))) .no))))) .no)) _
def jMc :Sh:=⟨.pv Y11:: .dead:: .dead:: .own 600003 Y12 217 true::pI::dz 24 [],[]⟩
def s_l7CopyPosts_m (i:Z6):Option (Z12):=
 (iter (fun h (b,c,a)=>bif decide (a<(b.length:Int))then oB (idx b a) fun e=>(oB (idx b a) fun d=>if room ([]:List Int).length d.2.length 8 then if room c.length ([(e.1,(([]:List Int)++d.2))]:Z6).length 32 then if fits (a+1)then h (b,(c++([(e.1,(([]:List Int)++d.2))]:Z6)),(a+1))else none else none else none)else some c) N (i,([]:Z6),(0:Int)))
theorem jLV :mK 218 (bX [.pv Y11] [.own 1 Y12 217 true] (c1A (s_l7CopyPosts_m N))):=
 mO ja func218 rfl N (.seq .no (.seq .no (.seq (.seq .no (.block (.loop jMc .no))) .no))) _
def jLx :Sh:=⟨.dead:: .box 1 0:: .box 2 0:: .box 3 0::pI::dz 47 [],[(1,false,[.pv Y3,.pv Y5]),(2,false,[.nils,.nils]),(3,false,[.own 700300 Y4 81 true,.nils])]⟩
def jKX :Sh:=⟨.dead:: .box 1 0:: .box 2 0:: .box 3 0:: .dead::pI::dz 46 [],[(1,false,[.pv Y3,.pv Y5]),(2,false,[.nils,.nils]),(3,false,[.own 700300 Y4 81 true,.own 700301 Y6 132 true])]⟩
def s_l18CopySeg_m (o:List Z0) (p:List Z2):Option ((List Z0)×(List Z2)):=
 (iter (fun q (b,c,m,e)=>bif decide (b<(c.length:Int))then oB (idx c b) fun h=>(oB (s_l7CopyDoc_m N h.1 h.2.1 h.2.2) fun n=>if room e.length ([n]:List Z0).length 56 then if fits (b+1)then q ((b+1),c,m,(e++([n]:List Z0)))else none else none)else iter (fun t (d,r,j,l,i)=>bif decide (d<(j.length:Int))then oB (idx j d) fun a=>(oB (s_l7CopyPosts_m N a.2.2) fun k=>if room i.length ([(a.1,a.2.1,k)]:List Z2).length 56 then if fits (d+1)then t ((d+1),r,j,l,(i++([(a.1,a.2.1,k)]:List Z2)))else none else none)else some (l,i)) N ((0:Int),c,m,e,([]:List Z2))) N ((0:Int),o,p,([]:List Z0)))
theorem jK3 :mK 164 (bX [.agg [.pv Y3,.pv Y5]] [.agg [.own 1 Y4 81 true,.own 2 Y6 132 true]] (c2A (s_l18CopySeg_m N))):=
 mO (fC (jtC N) (fC (jLV N) ja)) func164 rfl N (.seq .no (.seq .no (.seq (.seq .no (.block (.loop jLx .no))) (.seq (.seq .no (.block (.loop jKX .no))) .no)))) _
def jMK :Sh:=⟨.dead:: .box 1 0:: .box 2 0:: .box 3 0::pI::dz 33 [],[(1,false,[.pv (.sl .str),.pv Y14,.pv Y0]),(2,false,[.nils,.nils,.nils]),(3,false,[.own 700300 .str 9 true,.own 700301 Y16 143 true,.own 700302 Y1 33 true])]⟩
def s_l18Copy_m (f:List Z1) (j:List Z4) (q:List Z3):Option ((List Z1)×(List Z4)×(List Z3)):=
 (oB (s_l18CopyConf_m N f j) fun k=>iter (fun p (a,n,o,b,e,h,d)=>bif decide (a<(b.length:Int))then oB (idx b a) fun i=>(oB (s_l18CopySeg_m N i.1.1 i.1.2) fun l=>oB (idx b a) fun c=>if room ([]:List Int).length c.2.length 8 then if room d.length ([(l,(([]:List Int)++c.2))]:List Z3).length 72 then if fits (a+1)then p ((a+1),n,o,b,e,h,(d++([(l,(([]:List Int)++c.2))]:List Z3)))else none else none else none)else some (e,h,d)) N ((0:Int),f,j,q,k.1,k.2,([]:List Z3)))
theorem jL0 :mK 89 (bX [.agg [.pv (.sl .str),.pv Y14,.pv Y0]] [.agg [.own 1 .str 9 true,.own 2 Y16 143 true,.own 3 Y1 33 true]] (c3A (s_l18Copy_m N))):=
 mO (fC (jMp N) (fC (jK3 N) ja)) func89 rfl N (.seq .no (.seq .no (.seq (.seq .no (.block (.loop jMK .no))) .no))) _
def jLU :Sh:=⟨.pv Y19::pI::dz 3 (pI::dz 42 []),[]⟩
def s_l8Put_m (q:List Int) (r:Int):Option ((List Int)):=
 (iter (fun p (a,c,b)=>bif decide (b<(a.length:Int))then oB (idx a b) fun o=>(bif decide (o<c)then if fits (b+1)then p (a,c,(b+1))else none else bif decide (b<(a.length:Int))then oB (idx a b) fun t=>(bif decide (t=c)then some a else oB (cut a 0 b) fun e=>if room ([]:List Int).length e.length 8 then if room (([]:List Int)++e).length ([c]:List Int).length 8 then oB (cut a b (a.length:Int)) fun j=>(if room ((([]:List Int)++e)++([c]:List Int)).length j.length 8 then some (((([]:List Int)++e)++([c]:List Int))++j)else none)else none else none)else oB (cut a 0 b) fun d=>if room ([]:List Int).length d.length 8 then if room (([]:List Int)++d).length ([c]:List Int).length 8 then oB (cut a b (a.length:Int)) fun i=>(if room ((([]:List Int)++d)++([c]:List Int)).length i.length 8 then some (((([]:List Int)++d)++([c]:List Int))++i)else none)else none else none)else bif decide (b<(a.length:Int))then oB (idx a b) fun n=>(bif decide (n=c)then some a else oB (cut a 0 b) fun f=>if room ([]:List Int).length f.length 8 then if room (([]:List Int)++f).length ([c]:List Int).length 8 then oB (cut a b (a.length:Int)) fun k=>(if room ((([]:List Int)++f)++([c]:List Int)).length k.length 8 then some (((([]:List Int)++f)++([c]:List Int))++k)else none)else none else none)else oB (cut a 0 b) fun h=>if room ([]:List Int).length h.length 8 then if room (([]:List Int)++h).length ([c]:List Int).length 8 then oB (cut a b (a.length:Int)) fun l=>(if room ((([]:List Int)++h)++([c]:List Int)).length l.length 8 then some (((([]:List Int)++h)++([c]:List Int))++l)else none)else none else none) N (q,r,(0:Int)))
theorem jLS :mK 245 (bX [.pv Y19,pI] [.pv Y19] (c2A (s_l8Put_m N))):=
 mO ja func245 rfl N (.seq .no (.seq .no (.seq (.block (.loop jLU .no)) .no))) _
def jL4 :Sh:=⟨.dead::pI:: .box 2 0:: .dead:: .box 4 0:: .dead:: .box 6 0::pB::pI::dz 43 [],[(2,false,[.pv (.sl .str),.pv Y14,.pv Y0]),(4,false,[.nils,.nils,.nils]),(6,false,[.pv (.sl .str),.pv Y14,.own 700602 Y1 33 false])]⟩
def jLD :Sh:=⟨.dead::pI:: .box 2 0:: .dead:: .box 4 0:: .dead:: .box 6 0::pB::pI:: .box 9 0::dz 42 [],[(2,false,[.pv (.sl .str),.pv Y14,.pv Y0]),(4,false,[.nils,.nils,.nils]),(6,false,[.pv (.sl .str),.pv Y14,.own 700602 Y1 33 false]),(9,false,[.pv Y3,.pv Y5,.pv Y19])]⟩
def s_l18Gone_m (n:List Z1) (t:List Z4) (y:List Z3) (B:Int):Z14:=
 (iter (fun x (b,k,c,l,j,d,e,h,f)=>bif decide (c<(d.length:Int))then oB (idx d c) fun a=>(meet (fun(i:Int×Bool×Int×(List Z1)×(List Z4)×(List Z3)×(List Z1)×(List Z4)×(List Z3)×(List Z0)×(List Z2)×(List Int))=>match i with|(E,D,u,v,A,I,C,G,p,q,o,r)=>if room p.length ([((q,o),r)]:List Z3).length 72 then if fits (u+1)then x (E,D,(u+1),v,A,I,C,G,(p++([((q,o),r)]:List Z3)))else none else none) fun m=>oB (s_l12Doc_m N a.1.1 a.1.2 b) fun H=>bif !decide (H.1=0)then oB (s_l18Dead_m N a.1.1 a.1.2 a.2 b) fun z=>(bif !z then if room ([]:List Int).length a.2.length 8 then oB (s_l8Put_m N (([]:List Int)++a.2) b) fun w=>(m (b,true,c,l,j,d,e,h,f,a.1.1,a.1.2,w))else none else m (b,k,c,l,j,d,e,h,f,a.1.1,a.1.2,a.2))else m (b,k,c,l,j,d,e,h,f,a.1.1,a.1.2,a.2))else some (e,h,f,k)) N (B,false,(0:Int),n,t,y,n,t,([]:List Z3)))
theorem jLr :mK 191 (bX [.agg [.pv (.sl .str),.pv Y14,.pv Y0],pI] [.tup [.agg [.pv (.sl .str),.pv Y14,.own 1 Y1 33 false],pB]] (c4A (s_l18Gone_m N))):=
 mO (fC (jDn N) (fC (jIy N) (fC (jLS N) ja))) func191 rfl N (.seq .no (.seq .no (.seq .no (.seq (.seq .no (.block (.loop jL4 (.seq .no (.seq (.block (.seq .no (.meet jLD .no .no))) .no))))) .no)))) _
def jL1 :Sh:=⟨.dead:: .box 1 0:: .box 2 0:: .box 3 0::pI::dz 37 [],[(1,false,[.pv (.sl .str),.pv Y14,.pv Y0]),(2,false,[.nils,.nils,.nils]),(3,false,[.pv (.sl .str),.pv Y14,.own 700302 Y1 33 false])]⟩
def s_l18Full_m (f:List Z1) (l:List Z4) (o:List Z3):Option ((List Z1)×(List Z4)×(List Z3)):=
 (iter (fun k (a,i,j,b,d,e,c)=>bif decide (a<(b.length:Int))then oB (idx b a) fun n=>(oB (idx b a) fun p=>bif decide ((n.2.length:Int)<(p.1.1.length:Int))then oB (idx b a) fun h=>(if room c.length ([h]:List Z3).length 72 then if fits (a+1)then k ((a+1),i,j,b,d,e,(c++([h]:List Z3)))else none else none)else if fits (a+1)then k ((a+1),i,j,b,d,e,c)else none)else some (d,e,c)) N ((0:Int),f,l,o,f,l,([]:List Z3)))
theorem jM5 :mK 192 (bX [.agg [.pv (.sl .str),.pv Y14,.pv Y0]] [.agg [.pv (.sl .str),.pv Y14,.own 1 Y1 33 false]] (c3A (s_l18Full_m N))):=
 mO ja func192 rfl N (.seq .no (.seq .no (.seq (.seq .no (.block (.loop jL1 .no))) .no))) _
def s_IndexDrop_m (d:List Z1) (f:List Z4) (e:List Z3) (i:Int):Z14:=
 (oB (s_l18Ok_m N d f e) fun h=>bif !h then some (([]:List Z1),([]:List Z4),([]:List Z3),false)else oB (s_l18Copy_m N d f e) fun b=>oB (s_l18Gone_m N b.1 b.2.1 b.2.2 i) fun a=>oB (s_l18Full_m N a.1 a.2.1 a.2.2.1) fun c=>some (c.1,c.2.1,c.2.2,a.2.2.2))
theorem jLL :mK 121 (bX [.agg [.pv (.sl .str),.pv Y14,.pv Y0],pI] [.tup [.agg [.pv (.sl .str),.pv Y14,.own 1 Y1 33 false],pB]] (c4A (s_IndexDrop_m N))):=
 mO (fC (jIW N) (fC (jL0 N) (fC (jLr N) (fC (jM5 N) ja)))) func121 rfl N .no _
def s_IndexMerge_m (d:List Z1) (f:List Z4) (b:List Z3) (a:Int):Z14:=
 (oB (s_l18Ok_m N d f b) fun k=>bif !k then some (([]:List Z1),([]:List Z4),([]:List Z3),false)else if fits ((b.length:Int)-2)then oB (jJ N a 0 ((b.length:Int)-2)) fun l=>(bif !l then oB (s_l18Copy_m N d f b) fun h=>(some (h.1,h.2.1,h.2.2,false))else if fits (a+2)then oB (cut b a (a+2)) fun m=>(oB (s_l18Docs_m N ([]:List Z1) ([]:List Z4) m) fun n=>oB (s_l18Copy_m N d f b) fun c=>oB (cut c.2.2 0 a) fun e=>if room ([]:List Z3).length e.length 72 then oB (s_l7Of_m N d f n) fun i=>(if room (([]:List Z3)++e).length ([(i,([]:List Int))]:List Z3).length 72 then if fits (a+2)then oB (cut c.2.2 (a+2) (c.2.2.length:Int)) fun j=>(if room ((([]:List Z3)++e)++([(i,([]:List Int))]:List Z3)).length j.length 72 then some (c.1,c.2.1,(((([]:List Z3)++e)++([(i,([]:List Int))]:List Z3))++j),true)else none)else none else none)else none)else none)else none)
theorem jNO :mK 122 (bX [.agg [.pv (.sl .str),.pv Y14,.pv Y0],pI] [.tup [.agg [.own 1 .str 9 true,.own 2 Y16 143 true,.own 3 Y1 33 false],pB]] (c4A (s_IndexMerge_m N))):=
 mO (fC (jIW N) (fC (jcL N) (fC (jL0 N) (fC (jH3 N) (fC (jmU N) ja))))) func122 rfl N .no _
def s_l30Rd_of_m (b:List Z1) (e:List Int) (c:Int):Option (Z1×(List Int)×Int):=
 (oB (s_l30Rd_pick_m N (b.length:Int) e c) fun a=>oB (idx b a.1) fun d=>some (d,a.2.1,a.2.2))
theorem jt3 :mK 53 ⟨⟨[.box 900000 0,.pv (.sl .str)],[(900000,false,[.pv (.sl (.int .u8)),pI])]⟩,⟨[pS],[(900000,false,[.pv (.sl (.int .u8)),pI])]⟩,c3A (s_l30Rd_of_m N)⟩:=
 mO (fC (jtX N) ja) func53 rfl N .no _ (rs:=[900000])
def s_l30Raw_m (c:List Int) (b:Int):Option (Z1×(List Int)×Int):=
 (oB (s_l30Rd_of_m N ([([99,97,116]:List UInt8),([67,97,116,115]:List UInt8),([100,111,103]:List UInt8),([100,111,103,115]:List UInt8),([114,117,110]:List UInt8),([82,85,78,78,73,78,71]:List UInt8),([116,104,101]:List UInt8),([114,101,100]:List UInt8),([98,105,103]:List UInt8),([110,101,119,32,121,111,114,107]:List UInt8),([78,101,119,32,32,89,111,114,107]:List UInt8),([110,121]:List UInt8),([102,111,120]:List UInt8),([112,97,115,115,101,100]:List UInt8),([120,49]:List UInt8),([97,118,101,114,121,118,101,114,121,108,111,110,103,119,111,114,100]:List UInt8)]:List Z1) c b) fun a=>some (a.1,a.2.1,a.2.2))
theorem jvg :mK 286 ⟨⟨[.box 900000 0],[(900000,false,[.pv (.sl (.int .u8)),pI])]⟩,⟨[pS],[(900000,false,[.pv (.sl (.int .u8)),pI])]⟩,c2A (s_l30Raw_m N)⟩:=
 mO (fC (jt3 N) ja) func286 rfl N .no _ (rs:=[900000])
def juP :Sh:=⟨.box 900000 0:: .dead:: .dead::pS::pI::dz 15 [],[(900000,false,[.pv (.sl (.int .u8)),pI])]⟩
def s_l30Text_m (l:List Int) (j:Int):Option (Z1×(List Int)×Int):=
 (oB (s_l30Rd_pick_m N 9 l j) fun e=>iter (fun k (b,d,h,f)=>bif decide ((0:Int)<d)then oB (s_l30Raw_m N h f) fun a=>(if b.length+a.1.length<=9223372036854775807 then oB (s_l30Rd_of_m N ([([32]:List UInt8),([32]:List UInt8),([44,32]:List UInt8),([45]:List UInt8),([46,32]:List UInt8)]:List Z1) a.2.1 a.2.2) fun c=>(if(b++a.1).length+c.1.length<=9223372036854775807 then if fits (d-1)then k (((b++a.1)++c.1),(d-1),c.2.1,c.2.2)else none else none)else none)else some (b,h,f)) N (([]:List UInt8),e.1,e.2.1,e.2.2))
theorem juT :mK 246 ⟨⟨[.box 900000 0],[(900000,false,[.pv (.sl (.int .u8)),pI])]⟩,⟨[pS],[(900000,false,[.pv (.sl (.int .u8)),pI])]⟩,c2A (s_l30Text_m N)⟩:=
 mO (fC (jtX N) (fC (jvg N) (fC (jt3 N) ja))) func246 rfl N (.seq .no (.seq .no (.seq (.seq .no (.block (.loop juP .no))) .no))) _ (rs:=[900000])
def juy :Sh:=⟨.box 900000 0::dz 3 (.box 4 0:: .box 5 0::dz 48 []),[(4,false,[pI,.nils,.nils]),(5,false,[pI,.own 28 Y18 134 true,.own 39 Y15 136 true]),(900000,false,[.pv (.sl (.int .u8)),pI])]⟩
def juX :Sh:=⟨.box 900000 0::dz 3 (.box 4 0:: .box 5 0::dz 48 []),[(4,false,[pI,.nils,.nils]),(5,false,[pI,.own 28 Y18 134 true,.nils]),(900000,false,[.pv (.sl (.int .u8)),pI])]⟩
def jvb :Sh:=⟨.box 900000 0::dz 3 (.box 4 0:: .box 5 0::dz 48 []),[(4,false,[pI,.nils,.nils]),(5,false,[pI,.own 17 Y18 134 true,.nils]),(900000,false,[.pv (.sl (.int .u8)),pI])]⟩
def s_l30Doc_m (q:Int) (A:List Int) (E:Int):Option (Int×Z11×Z8×(List Int)×Int):=
 (meet (fun(a:Int×Int×Z11×(List Int)×Int)=>match a with|(u,v,l,C,y)=>meet (fun(a:Int×Int×Z11×(List Int)×Int)=>match a with|(o,t,r,B,D)=>meet (fun(a:Int×Int×Z11×Z8×(List Int)×Int)=>match a with|(H,p,x,k,z,G)=>oB (s_l30Rd_pick_m N 3 z G) fun b=>bif decide (b.1=0)then oB (s_l30Rd_pick_m N 30 b.2.1 b.2.2) fun f=>(if fits (2000+f.1)then if room k.length ([(([121,101,97,114]:List UInt8),(2000+f.1))]:Z5).length 24 then some (p,x,(k++([(([121,101,97,114]:List UInt8),(2000+f.1))]:Z5)),f.2.1,f.2.2)else none else none)else some (p,x,k,b.2.1,b.2.2)) fun m=>oB (s_l30Rd_pick_m N 3 B D) fun d=>bif decide ((0:Int)<d.1)then oB (s_l30Rd_pick_m N 4 d.2.1 d.2.2) fun i=>(if room ([]:Z5).length ([(([114,97,116,101]:List UInt8),i.1)]:Z5).length 24 then m (o,t,r,(([]:Z5)++([(([114,97,116,101]:List UInt8),i.1)]:Z5)),i.2.1,i.2.2)else none)else m (o,t,r,([]:Z5),d.2.1,d.2.2)) fun n=>oB (s_l30Rd_pick_m N 3 C y) fun c=>bif decide (c.1=0)then oB (s_l30Text_m N c.2.1 c.2.2) fun j=>(if room l.length ([(([116,105,116,108,101]:List UInt8),j.1)]:Z7).length 32 then n (u,v,(l++([(([116,105,116,108,101]:List UInt8),j.1)]:Z7)),j.2.1,j.2.2)else none)else n (u,v,l,c.2.1,c.2.2)) fun w=>oB (s_l30Rd_pick_m N 6 A E) fun e=>bif decide ((0:Int)<e.1)then oB (s_l30Text_m N e.2.1 e.2.2) fun h=>(if room ([]:Z7).length ([(([98,111,100,121]:List UInt8),h.1)]:Z7).length 32 then w (0,q,(([]:Z7)++([(([98,111,100,121]:List UInt8),h.1)]:Z7)),h.2.1,h.2.2)else none)else w (0,q,([]:Z7),e.2.1,e.2.2))
theorem jvf :mK 193 ⟨⟨[.box 900000 0,pI],[(900000,false,[.pv (.sl (.int .u8)),pI])]⟩,⟨[.agg [pI,.own 1 Y18 134 true,.own 2 Y15 136 true]],[(900000,false,[.pv (.sl (.int .u8)),pI])]⟩,c3A (s_l30Doc_m N)⟩:=
 mO (fC (jtX N) (fC (juT N) ja)) func193 rfl N (.seq .no (.seq .no (.meet jvb .no (.meet juX .no (.meet juy .no .no))))) _ (rs:=[900000])
def juU :Sh:=⟨.box 900000 0:: .dead:: .dead:: .own 600003 Y4 81 true::pI::pI::dz 19 [],[(900000,false,[.pv (.sl (.int .u8)),pI])]⟩
def s_l30Docs_m (m:List Int) (k:Int):Option ((List Z0)×(List Int)×Int):=
 (oB (s_l30Rd_pick_m N 6 m k) fun f=>iter (fun l (d,c,e,i,h)=>bif decide ((0:Int)<e)then if fits (c+1)then oB (s_l30Rd_pick_m N 3 i h) fun b=>(if fits ((c+1)+b.1)then oB (s_l30Doc_m N ((c+1)+b.1) b.2.1 b.2.2) fun a=>(if room d.length ([(a.1,a.2.1,a.2.2.1)]:List Z0).length 56 then if fits (e-1)then l ((d++([(a.1,a.2.1,a.2.2.1)]:List Z0)),((c+1)+b.1),(e-1),a.2.2.2.1,a.2.2.2.2)else none else none)else none)else none else some (d,i,h)) N (([]:List Z0),(0:Int),f.1,f.2.1,f.2.2))
theorem juO :mK 124 ⟨⟨[.box 900000 0],[(900000,false,[.pv (.sl (.int .u8)),pI])]⟩,⟨[.own 1 Y4 81 true],[(900000,false,[.pv (.sl (.int .u8)),pI])]⟩,c2A (s_l30Docs_m N)⟩:=
 mO (fC (jtX N) (fC (jvf N) ja)) func124 rfl N (.seq .no (.seq .no (.seq .no (.seq (.seq .no (.block (.loop juU .no))) .no)))) _ (rs:=[900000])
def jNS :Sh:=⟨.dead:: .pv Y3:: .box 2 0:: .dead:: .box 4 0:: .dead:: .box 6 0::pI::dz 53 [],[(2,false,[.pv (.sl .str),.pv Y14,.pv Y0]),(4,false,[.nils,.nils,.nils]),(6,false,[.pv (.sl .str),.pv Y14,.own 700602 Y1 33 false])]⟩
def s_IndexAdd_m (b:List Z1) (d:List Z4) (c:List Z3) (o:List Z0):Z14:=
 (oB (s_l18Ok_m N b d c) fun A=>bif !A then some (([]:List Z1),([]:List Z4),([]:List Z3),false)else oB (jbU N o) fun z=>bif !z then oB (s_l18Copy_m N b d c) fun i=>(some (i.1,i.2.1,i.2.2,false))else bif decide ((o.length:Int)=0)then oB (s_l18Copy_m N b d c) fun l=>(some (l.1,l.2.1,l.2.2,false))else oB (s_l18Copy_m N b d c) fun j=>iter (fun x (f,e,n,h,u,q,t,r)=>bif decide (e<(f.length:Int))then oB (idx f e) fun w=>(oB (s_l18Gone_m N q t r w.1) fun k=>if fits (e+1)then x (f,(e+1),n,h,u,k.1,k.2.1,k.2.2.1)else none)else oB (s_l18Full_m N q t r) fun a=>oB (s_l7Of_m N n h f) fun p=>if room a.2.2.length ([(p,([]:List Int))]:List Z3).length 72 then oB (s_l18Ok_m N a.1 a.2.1 (a.2.2++([(p,([]:List Int))]:List Z3))) fun y=>(bif !y then oB (s_l18Copy_m N n h u) fun m=>(some (m.1,m.2.1,m.2.2,false))else some (a.1,a.2.1,(a.2.2++([(p,([]:List Int))]:List Z3)),true))else none) N (o,(0:Int),b,d,c,j.1,j.2.1,j.2.2))
theorem jNM :mK 123 (bX [.agg [.pv (.sl .str),.pv Y14,.pv Y0],.pv Y3] [.tup [.agg [.pv (.sl .str),.pv Y14,.own 1 Y1 33 false],pB]] (c4A (s_IndexAdd_m N))):=
 mO (fC (jIW N) (fC (jpx N) (fC (jL0 N) (fC (jLr N) (fC (jM5 N) (fC (jmU N) ja)))))) func123 rfl N (.seq .no (.seq .no (.seq .no (.seq .no (.seq (.seq .no (.block (.loop jNS .no))) .no))))) _
def jOd :Sh:=⟨.box 900000 0:: .dead:: .box 2 0:: .box 3 0::pI::dz 47 [],[(2,false,[.nils,.nils,.nils]),(3,false,[.pv (.sl .str),.pv Y14,.own 700302 Y1 33 false]),(900000,false,[.pv (.sl (.int .u8)),pI])]⟩
def s_l30Index_m (u:List Int) (v:Int):Option ((List Z1)×(List Z4)×(List Z3)×(List Int)×Int):=
 (oB (s_l30Conf_m N u v) fun h=>oB (s_IndexNew_m N h.1 h.2.1) fun p=>oB (s_l30Rd_pick_m N 7 h.2.2.1 h.2.2.2) fun k=>iter (fun j (b,c,f,d,r,q)=>bif decide ((0:Int)<b)then oB (s_l30Rd_pick_m N 5 r q) fun a=>(bif decide (a.1=0)then oB (s_l30Rd_pick_m N 8 a.2.1 a.2.2) fun e=>(if fits (1+e.1)then oB (s_IndexDrop_m N c f d (1+e.1)) fun m=>(if fits (b-1)then j ((b-1),m.1,m.2.1,m.2.2.1,e.2.1,e.2.2)else none)else none)else bif decide (a.1=1)then oB (s_l30Rd_pick_m N 3 a.2.1 a.2.2) fun i=>(oB (s_IndexMerge_m N c f d i.1) fun o=>if fits (b-1)then j ((b-1),o.1,o.2.1,o.2.2.1,i.2.1,i.2.2)else none)else oB (s_l30Docs_m N a.2.1 a.2.2) fun l=>oB (s_IndexAdd_m N c f d l.1) fun n=>if fits (b-1)then j ((b-1),n.1,n.2.1,n.2.2.1,l.2.1,l.2.2)else none)else some (c,f,d,r,q)) N (k.1,p.1,p.2,([]:List Z3),k.2.1,k.2.2))
theorem jNR :mK 52 ⟨⟨[.box 900000 0],[(900000,false,[.pv (.sl (.int .u8)),pI])]⟩,⟨[.agg [.pv (.sl .str),.pv Y14,.own 1 Y1 33 false]],[(900000,false,[.pv (.sl (.int .u8)),pI])]⟩,c2A (s_l30Index_m N)⟩:=
 mO (fC (jva N) (fC (jOh N) (fC (jtX N) (fC (jLL N) (fC (jNO N) (fC (juO N) (fC (jNM N) ja))))))) func52 rfl N (.seq .no (.seq .no (.seq (.seq .no (.block (.loop jOd .no))) .no))) _ (rs:=[900000])
def jaw (N:Nat) (a:Int):Z10:=
 (bif decide ((97:Int)<=a)then bif decide (a<=122)then some true else(bif decide ((48:Int)<=a)then some (decide (a<=57))else some false)else bif decide ((48:Int)<=a)then some (decide (a<=57))else some false)
theorem jeK :mK 151 (bX [.pv (.int .u8)] [pB] (c1A (jaw N))):=
 mO ja func151 rfl N .no _
def jm (N:Nat) (a:Int) (c:Int) (b:Int):Z10:=
 (bif decide (c<=a)then some (decide (a<=b))else some false)
theorem jY :mK 101 (bX [pI,pI,pI] [pB] (c3A (jm N))):=
 mO ja func101 rfl N .no _
def jqW :Sh:=⟨pS::dz 4 (pI::pI::dz 11 []),[]⟩
def jO (d:List UInt8):Z10:=
 (iter (fun f (b,c,a)=>bif decide (a<c)then oB (idx b a) fun j=>(oB (jaw N (j.toNat:Int)) fun h=>bif !h then some false else if fits (a+1)then f (b,c,(a+1))else none)else oB (jm N (b.length:Int) 1 12) fun i=>some i) N (d,(d.length:Int),(0:Int)))
theorem jcM :mK 77 (bX [pS] [pB] (c1A (jO N))):=
 mO (fC (jeK N) (fC (jY N) ja)) func77 rfl N (.seq .no (.seq (.seq .no (.block (.loop jqW .no))) .no)) _
def jmc :Sh:=⟨.pv (.sl .str)::dz 4 (.pv (.sl .str)::pI::pI::dz 21 []),[]⟩
def jb2 (d:List Z1):Z10:=
 (iter (fun h (c,e,b,a)=>bif decide (a<b)then oB (idx e a) fun f=>(oB (jO N f) fun j=>bif !j then some false else bif decide ((0:Int)<a)then if fits (a-1)then oB (idx c (a-1)) fun k=>(bif !Op.bytesLess k f then some false else if fits (a+1)then h (c,e,b,(a+1))else none)else none else if fits (a+1)then h (c,e,b,(a+1))else none)else some true) N (d,d,(d.length:Int),(0:Int)))
theorem jtw :mK 100 (bX [.pv (.sl .str)] [pB] (c1A (jb2 N))):=
 mO (fC (jcM N) ja) func100 rfl N (.seq .no (.seq (.seq .no (.block (.loop jmc .no))) .no)) _
def jdF (N:Nat) (a:List UInt8) (b:List UInt8):Z10:=
 (bif decide ((b.length:Int)<=(a.length:Int))then if fits ((a.length:Int)-(b.length:Int))then oB (cut a ((a.length:Int)-(b.length:Int)) (a.length:Int)) fun c=>(some (decide (c=b)))else none else some false)
theorem jpU :mK 226 (bX [pS,pS] [pB] (c2A (jdF N))):=
 mO ja func226 rfl N .no _
def jcN (c:List UInt8) (a:List UInt8):Z10:=
 (oB (jdF N c a) fun b=>some b)
theorem jsu :mK 171 (bX [pS,pS] [pB] (c2A (jcN N))):=
 mO (fC (jpU N) ja) func171 rfl N .no _
def jod :Sh:=⟨pS:: .dead:: .dead::pB::dz 32 [],[]⟩
def jnf :Sh:=⟨pS:: .dead:: .dead::pB::dz 6 (.own 600010 .str 9 true::pI::pI::dz 23 []),[]⟩
def jaB (i:List UInt8):Option (Z1):=
 (oB (jO N i) fun n=>bif !n then some ([]:List UInt8)else iter (fun k (j,m)=>bif m then iter (fun l (a,e,h,f,b)=>bif decide (b<f)then oB (idx h b) fun c=>(oB (jcN N a c) fun o=>bif o then if fits ((a.length:Int)-(c.length:Int))then bif decide ((3:Int)<=((a.length:Int)-(c.length:Int)))then if fits ((a.length:Int)-(c.length:Int))then oB (cut a 0 ((a.length:Int)-(c.length:Int))) fun p=>(k (p,true))else none else(if fits (b+1)then l (a,e,h,f,(b+1))else none)else none else if fits (b+1)then l (a,e,h,f,(b+1))else none)else k (a,e)) N (j,false,([([105,110,103]:List UInt8),([101,100]:List UInt8),([101,115]:List UInt8),([108,121]:List UInt8),([115]:List UInt8)]:List Z1),(([([105,110,103]:List UInt8),([101,100]:List UInt8),([101,115]:List UInt8),([108,121]:List UInt8),([115]:List UInt8)]:List Z1).length:Int),(0:Int))else some j) N (i,true))
theorem jio :mK 102 (bX [pS] [pS] (c1A (jaB N))):=
 mO (fC (jcM N) (fC (jsu N) ja)) func102 rfl N (.seq .no (.seq .no (.seq (.seq .no (.block (.loop jod (.seq .no (.block (.seq .no (.seq .no (.block (.loop jnf .no))))))))) .no))) _
def jkJ :Sh:=⟨.pv (.sl .str)::pS::dz 5 (pI::pI::dz 10 []),[]⟩
def jdH (b:List Z1) (j:List UInt8):Option (Int):=
 (iter (fun i (c,d,e,a)=>bif decide (a<e)then oB (idx c a) fun h=>(bif decide (d=h)then some a else if fits (a+1)then i (c,d,e,(a+1))else none)else some (-1)) N (b,j,(b.length:Int),(0:Int)))
theorem jkZ :mK 172 (bX [.pv (.sl .str),pS] [pI] (c2A (jdH N))):=
 mO ja func172 rfl N (.seq .no (.seq (.seq .no (.block (.loop jkJ .no))) .no)) _
def jao (c:List Z1) (a:List UInt8):Z10:=
 (oB (jdH N c a) fun b=>some (decide ((0:Int)<=b)))
theorem jh5 :mK 103 (bX [.pv (.sl .str),pS] [pB] (c2A (jao N))):=
 mO (fC (jkZ N) ja) func103 rfl N .no _
def jmj :Sh:=⟨.dead:: .box 1 0::dz 22 (.pv Y14::pI::pI::dz 46 []),[(1,false,[.pv (.sl .str),.pv Y14])]⟩
def jrC :Sh:=⟨.dead:: .box 1 0::dz 22 (.pv Y14::pI::pI::dz 12 (pB::dz 7 (pB:: .dead:: .dead:: .pv (.sl .str)::pI::pI::dz 20 []))),[(1,false,[.pv (.sl .str),.pv Y14])]⟩
def jaj (h:List Z1) (b:List Z4):Z10:=
 (bif decide ((6:Int)<h.length)then some false else oB (jb2 N h) fun C=>bif !C then some false else bif decide ((4:Int)<b.length)then some false else iter (fun w (k,q,f,E,B)=>bif decide (f<q)then oB (idx k f) fun a=>(oB (jm N (a.1.length:Int) 1 3) fun x=>bif !x then some false else oB (jO N a.2) fun n=>bif !n then some false else oB (jaB N a.2) fun p=>bif !decide (p=a.2)then some false else iter (fun D (o,r,j,z,v,l,m,c,i,t)=>bif decide (c<m)then oB (idx l c) fun d=>(oB (jO N d) fun y=>bif !y then some false else oB (jaB N d) fun A=>bif !decide (A=d)then some false else oB (jao N i d) fun u=>bif u then some false else if fits (c+1)then D (o,r,j,z,v,l,m,(c+1),i,t)else none)else if fits (j+1)then w (o,r,(j+1),i,t)else none) N (k,q,f,(!n),(!decide (p=a.2)),a.1,(a.1.length:Int),(0:Int),E,B))else some true) N (b,(b.length:Int),(0:Int),h,b))
theorem jdX :mK 43 (bX [.agg [.pv (.sl .str),.pv Y14]] [pB] (c2A (jaj N))):=
 mO (fC (jtw N) (fC (jY N) (fC (jcM N) (fC (jio N) (fC (jh5 N) ja))))) func43 rfl N (.seq .no (.seq .no (.seq (.seq .no (.block (.loop jmj (.seq .no (.seq .no (.seq (.block (.seq .no (.seq .no (.seq .no (.block (.loop jrC .no)))))) .no)))))) .no))) _
def jtd :Sh:=⟨pS::dz 4 (pI::pI::dz 16 []),[]⟩
def jaF (c:List UInt8):Z10:=
 (iter (fun h (b,d,a)=>bif decide (a<d)then oB (idx b a) fun e=>(bif decide ((e.toNat:Int)<32)then some false else oB (idx b a) fun i=>bif decide ((126:Int)<(i.toNat:Int))then some false else if fits (a+1)then h (b,d,(a+1))else none)else some (decide ((b.length:Int)<=160))) N (c,(c.length:Int),(0:Int)))
theorem jdK :mK 165 (bX [pS] [pB] (c1A (jaF N))):=
 mO ja func165 rfl N (.seq .no (.seq (.seq .no (.block (.loop jtd .no))) .no)) _
def jlC :Sh:=⟨.dead:: .box 1 0::dz 22 (.pv Y17::pI::pI::dz 66 []),[(1,false,[pI,.pv Y17,.pv Y13])]⟩
def jpt :Sh:=⟨.dead:: .box 1 0::dz 57 (.pv Y13::pI::pI::dz 31 []),[(1,false,[pI,.pv Y17,.pv Y13])]⟩
def i_DocOk_m (u:Int) (e:Z7) (r:Z5):Z10:=
 (oB (jm N u 1 9999) fun B=>bif !B then some false else bif decide ((3:Int)<e.length)then some false else bif decide ((3:Int)<r.length)then some false else iter (fun q (j,n,a,l,d,c)=>bif decide (a<n)then oB (idx j a) fun i=>(oB (jO N i.1) fun y=>bif !y then some false else oB (jaF N i.2) fun w=>bif !w then some false else bif decide ((0:Int)<a)then if fits (a-1)then oB (idx d (a-1)) fun C=>(bif !Op.bytesLess C.1 i.1 then some false else if fits (a+1)then q (j,n,(a+1),l,d,c)else none)else none else if fits (a+1)then q (j,n,(a+1),l,d,c)else none)else iter (fun t (k,m,b,p,v,o)=>bif decide (b<m)then oB (idx k b) fun h=>(oB (jO N h.1) fun A=>bif !A then some false else oB (jm N h.2 0 999999999) fun z=>bif !z then some false else bif decide ((0:Int)<b)then if fits (b-1)then oB (idx o (b-1)) fun x=>(bif !Op.bytesLess x.1 h.1 then some false else if fits (b+1)then t (k,m,(b+1),p,v,o)else none)else none else if fits (b+1)then t (k,m,(b+1),p,v,o)else none)else some true) N (c,(c.length:Int),(0:Int),l,d,c)) N (e,(e.length:Int),(0:Int),u,e,r))
theorem jh0 :mK 91 (bX [.agg [pI,.pv Y17,.pv Y13]] [pB] (c3A (i_DocOk_m N))):=
 mO (fC (jY N) (fC (jcM N) (fC (jdK N) ja))) func91 rfl N (.seq .no (.seq .no (.seq (.seq .no (.block (.loop jlC .no))) (.seq (.seq .no (.block (.loop jpt .no))) .no)))) _
def jpj :Sh:=⟨.pv Y3::dz 4 (.pv Y3::pI::pI::dz 26 []),[]⟩
def jbf (e:List Z0):Z10:=
 (iter (fun h (c,f,d,a)=>bif decide (a<d)then oB (idx f a) fun b=>(oB (i_DocOk_m N b.1 b.2.1 b.2.2) fun j=>bif !j then some false else bif decide ((0:Int)<a)then if fits (a-1)then oB (idx c (a-1)) fun k=>(bif decide (b.1<=k.1)then some false else if fits (a+1)then h (c,f,d,(a+1))else none)else none else if fits (a+1)then h (c,f,d,(a+1))else none)else some (decide ((c.length:Int)<=16))) N (e,e,(e.length:Int),(0:Int)))
theorem jjU :mK 79 (bX [.pv Y3] [pB] (c1A (jbf N))):=
 mO (fC (jh0 N) ja) func79 rfl N (.seq .no (.seq (.seq .no (.block (.loop jpj .no))) .no)) _
def jbO (N:Nat) (c:Int) (a:Z7) (b:Z5):Option Z0:=
 (if room ([]:Z7).length a.length 32 then if room ([]:Z5).length b.length 24 then some (c,(([]:Z7)++a),(([]:Z5)++b))else none else none)
theorem jrI :mK 182 (bX [.agg [pI,.pv Y17,.pv Y13]] [.agg [pI,.own 1 Y18 134 true,.own 2 Y15 136 true]] (c3A (jbO N))):=
 mO ja func182 rfl N .no _
def joW :Sh:=⟨dz 3 (.own 600003 Y4 81 true::dz 3 (.pv Y3::pI::pI::dz 10 [])),[]⟩
def jbV (f:List Z0):Z13:=
 (iter (fun j (b,h,e,a)=>bif decide (a<e)then oB (idx h a) fun c=>(oB (jbO N c.1 c.2.1 c.2.2) fun d=>if room b.length ([d]:List Z0).length 56 then if fits (a+1)then j ((b++([d]:List Z0)),h,e,(a+1))else none else none)else some b) N (([]:List Z0),f,(f.length:Int),(0:Int)))
theorem joC :mK 110 (bX [.pv Y3] [.own 1 Y4 81 true] (c1A (jbV N))):=
 mO (fC (jrI N) ja) func110 rfl N (.seq .no (.seq .no (.seq (.seq .no (.block (.loop joW .no))) .no))) _
def jI (N:Nat) (a:Int):Option (Int):=
 (bif decide ((65:Int)<=a)then bif decide (a<=90)then some (IntKind.u8.wrap ((IntKind.u8.wrap (a+97))-65))else(some a)else some a)
theorem jmu :mK 234 (bX [.pv (.int .u8)] [.pv (.int .u8)] (c1A (jI N))):=
 mO ja func234 rfl N .no _
def jpB :Sh:=⟨pS:: .dead:: .dead:: .own 600003 Y7 209 true::pI::dz 57 [],[]⟩
def jo6 :Sh:=⟨pS:: .dead:: .dead:: .own 600003 Y7 209 true::pI:: .box 5 0:: .own 600006 (.int .u8) 5 true::dz 55 [],[(5,false,[pS,pI,pI,pI])]⟩
def jct (m:List UInt8):Option ((List Z9)):=
 (oB (jaF N m) fun y=>bif !y then some ([]:List Z9)else iter (fun l (j,i,e)=>bif decide (e<(j.length:Int))then oB (idx j e) fun w=>(oB (jI N (w.toNat:Int)) fun t=>oB (jaw N t) fun r=>bif !r then if fits (e+1)then l (j,i,(e+1))else none else iter (fun q (c,h,a,b,p,f,d,n)=>bif decide (a<(c.length:Int))then oB (idx c a) fun v=>(oB (jI N (v.toNat:Int)) fun x=>oB (jaw N x) fun u=>bif u then bif decide ((b.length:Int)<12)then oB (idx c a) fun z=>(oB (jI N (z.toNat:Int)) fun o=>if room b.length ([o]:List Int).length 1 then if fits (a+1)then q (c,h,(a+1),(b++([o]:List Int)),p,f,d,n)else none else none)else(if fits (a+1)then q (c,h,(a+1),b,p,f,d,n)else none)else if room h.length ([((bytesOf b),f,d,a)]:List Z9).length 40 then l (c,(h++([((bytesOf b),f,d,a)]:List Z9)),a)else none)else if room h.length ([((bytesOf b),f,d,a)]:List Z9).length 40 then l (c,(h++([((bytesOf b),f,d,a)]:List Z9)),a)else none) N (j,i,e,([]:List Int),([]:List UInt8),(i.length:Int),e,(0:Int)))else some i) N (m,([]:List Z9),(0:Int)))
theorem jqc :mK 183 (bX [pS] [.own 1 Y7 209 true] (c1A (jct N))):=
 mO (fC (jdK N) (fC (jmu N) (fC (jeK N) ja))) func183 rfl N (.seq .no (.seq .no (.seq .no (.seq (.seq .no (.block (.loop jpB (.seq .no (.block (.seq .no (.seq .no (.seq .no (.seq (.block (.loop jo6 .no)) .no))))))))) .no)))) _
def jty :Sh:=⟨.dead:: .pv Y13::pI:: .box 3 0::dz 3 (.pv (.opt Y16)::dz 8 (pI::pI::dz 73 [])),[(3,false,[.pv (.sl .str),.pv Y14])]⟩
def jss :Sh:=⟨.dead:: .pv Y13::pI:: .box 3 0::dz 3 (.pv (.opt Y16):: .dead:: .ptr Y16::pB::dz 5 (pI::pI::dz 31 (pB::dz 4 (.pv (.sl .str)::pI::pI::dz 34 [])))),[(3,false,[.pv (.sl .str),.pv Y14])]⟩
def jbH (c:List Z1) (c2:List Z4) (terms:Z5) (at0:Int):Option ((Option Z4)):=
 (iter (fun go (terms2,at02,best,t16,t17,c3,c4)=>bif decide (t17<t16)then oB (idx c4 t17) fun e=>(if fits ((terms2.length:Int)-at02)then bif decide (((terms2.length:Int)-at02)<(e.1.length:Int))then if fits (t17+1)then go (terms2,at02,best,t16,(t17+1),c3,c4)else none else(bif !(Option.isNone best)then oB best fun p=>(bif decide ((e.1.length:Int)<=(p.1.length:Int))then if fits (t17+1)then go (terms2,at02,best,t16,(t17+1),c3,c4)else none else iter (fun go2 (terms3,at03,best2,r,fits0,t162,t172,t49,t54,t55,t56,c5,c6)=>bif decide (t56<t55)then oB (idx t54 t56) fun e2=>(if fits (at03+t56)then oB (idx terms3 (at03+t56)) fun e3=>(bif fits0 then bif decide (e3.1=e2)then oB (idx terms3 at03) fun e4=>(if fits (e4.2+t56)then if fits (t56+1)then go2 (terms3,at03,best2,r,(decide (e3.2=(e4.2+t56))),t162,t172,t49,t54,t55,(t56+1),c5,c6)else none else none)else(if fits (t56+1)then go2 (terms3,at03,best2,r,false,t162,t172,t49,t54,t55,(t56+1),c5,c6)else none)else if fits (t56+1)then go2 (terms3,at03,best2,r,false,t162,t172,t49,t54,t55,(t56+1),c5,c6)else none)else none)else bif fits0 then if fits (t172+1)then go (terms3,at03,(some r),t162,(t172+1),c5,c6)else none else if fits (t172+1)then go (terms3,at03,best2,t162,(t172+1),c5,c6)else none) N (terms2,at02,best,e,true,t16,t17,(decide ((e.1.length:Int)<=(p.1.length:Int))),e.1,(e.1.length:Int),(0:Int),c3,c4))else iter (fun go3 (terms4,at04,best3,r2,fits02,t163,t173,t492,t542,t552,t562,c7,c8)=>bif decide (t562<t552)then oB (idx t542 t562) fun e5=>(if fits (at04+t562)then oB (idx terms4 (at04+t562)) fun e6=>(bif fits02 then bif decide (e6.1=e5)then oB (idx terms4 at04) fun e7=>(if fits (e7.2+t562)then if fits (t562+1)then go3 (terms4,at04,best3,r2,(decide (e6.2=(e7.2+t562))),t163,t173,t492,t542,t552,(t562+1),c7,c8)else none else none)else(if fits (t562+1)then go3 (terms4,at04,best3,r2,false,t163,t173,t492,t542,t552,(t562+1),c7,c8)else none)else if fits (t562+1)then go3 (terms4,at04,best3,r2,false,t163,t173,t492,t542,t552,(t562+1),c7,c8)else none)else none)else bif fits02 then if fits (t173+1)then go (terms4,at04,(some r2),t163,(t173+1),c7,c8)else none else if fits (t173+1)then go (terms4,at04,best3,t163,(t173+1),c7,c8)else none) N (terms2,at02,best,e,true,t16,t17,false,e.1,(e.1.length:Int),(0:Int),c3,c4))else none)else some best) N (terms,at0,(none:Option Z4),(c2.length:Int),(0:Int),c,c2))
theorem jtv :mK 184 (bX [.agg [.pv (.sl .str),.pv Y14],.pv Y13,pI] [.pv (.opt Y16)] (c4A (jbH N))):=
 mO ja func184 rfl N (.seq .no (.seq .no (.seq (.seq .no (.block (.loop jty (.seq .no (.seq .no (.seq (.block (.seq .no (.seq .no (.seq .no (.seq .no (.seq (.seq .no (.block (.loop jss .no))) .no)))))) .no)))))) .no))) _
def jlW :Sh:=⟨.dead:: .dead:: .box 2 0:: .dead:: .dead:: .own 600005 Y15 155 true:: .own 600006 Y15 155 true::dz 17 (.own 600024 Y7 209 true::pI::pI::dz 67 []),[(2,false,[.pv (.sl .str),.pv Y14])]⟩
def jnt :Sh:=⟨.dead:: .dead:: .box 2 0:: .dead:: .dead:: .own 600005 Y15 155 true:: .own 600006 Y15 155 true::dz 3 (pI::dz 83 []),[(2,false,[.pv (.sl .str),.pv Y14])]⟩
def jbw (x:List Z1) (w:List Z4) (u:List UInt8):Option (Z8):=
 (oB (jaj N x w) fun G=>bif !G then some ([]:Z5)else oB (jaF N u) fun C=>bif !C then some ([]:Z5)else oB (jct N u) fun v=>iter (fun o (h,e,j,l,a,d,k)=>bif decide (a<l)then oB (idx j a) fun i=>(oB (jaB N i.1) fun p=>oB (jao N d i.1) fun D=>bif !D then oB (jao N d p) fun E=>(bif !E then if room e.length ([(p,i.2.1)]:Z5).length 24 then if fits (a+1)then o (h,(e++([(p,i.2.1)]:Z5)),j,l,(a+1),d,k)else none else none else if fits (a+1)then o (h,e,j,l,(a+1),d,k)else none)else if fits (a+1)then o (h,e,j,l,(a+1),d,k)else none)else iter (fun A (f,c,b,q,r)=>bif decide (b<(c.length:Int))then oB (jbH N q r c b) fun n=>(bif Option.isNone n then oB (idx c b) fun z=>(if room f.length ([z]:Z5).length 24 then if fits (b+1)then A ((f++([z]:Z5)),c,(b+1),q,r)else none else none)else oB n fun B=>oB (idx c b) fun t=>if room f.length ([(B.2,t.2)]:Z5).length 24 then oB n fun y=>(if fits (b+(y.1.length:Int))then A ((f++([(B.2,t.2)]:Z5)),c,(b+(y.1.length:Int)),q,r)else none)else none)else some f) N (h,e,(0:Int),d,k)) N (([]:Z5),([]:Z5),v,(v.length:Int),(0:Int),x,w))
theorem jgO :mK 111 (bX [.agg [.pv (.sl .str),.pv Y14],pS] [.own 1 Y15 155 true] (c3A (jbw N))):=
 mO (fC (jdX N) (fC (jdK N) (fC (jqc N) (fC (jio N) (fC (jh5 N) (fC (jtv N) ja)))))) func111 rfl N (.seq .no (.seq .no (.seq .no (.seq .no (.seq (.seq .no (.block (.loop jlW .no))) (.seq (.seq .no (.block (.loop jnt .no))) .no)))))) _
def k__loop_example_fossick_impl_Seg_put_1_m (N:Nat) (c:List UInt8) (a:List UInt8) (e:Z6) (b:List UInt8) (d:Z1×Int):Z10:=
 (bif decide (c=b)then some (decide (a=d.1))else some false)
theorem jmw :mK 186 (bX [.agg [pS,pS,.pv Y11],.ptr .str,.ptr Y15] [pB] (c5A (k__loop_example_fossick_impl_Seg_put_1_m N))):=
 mO ja func186 rfl N .no _
def jnc :Sh:=⟨.pv Y5:: .clo 186 [.ptr .str,.ptr Y15]::dz 5 (pI::pI::dz 10 []),[]⟩
def k_slices_IndexFunc_146_m (d:List Z2) (k:Z1×Z1×Int):Option (Int):=
 (iter (fun i (e,c,f,a)=>bif decide (a<f)then oB (idx e a) fun b=>(oB (k__loop_example_fossick_impl_Seg_put_1_m N b.1 b.2.1 b.2.2 c.1 c.2) fun j=>bif j then some a else if fits (a+1)then i (e,c,f,(a+1))else none)else some (-1)) N (d,k,(d.length:Int),(0:Int)))
theorem jrl :mK 185 (bX [.pv Y5,.clo 186 [.ptr .str,.ptr Y15]] [pI] (c2A (k_slices_IndexFunc_146_m N))):=
 mO (fC (jmw N) ja) func185 rfl N (.seq .no (.seq (.seq .no (.block (.loop jnc .no))) .no)) _
def i_Seg_put_m (h:List UInt8) (f:List UInt8) (i:Int) (e:Int) (r:List Z0) (a:List Z2):Option ((List Z0)×(List Z2)):=
 (oB (k_slices_IndexFunc_146_m N a (h,f,i)) fun d=>bif decide (d<0)then if room a.length ([(h,f,([]:Z6))]:List Z2).length 56 then if 0<=(a.length:Int)/\(a.length:Int)<((a++([(h,f,([]:Z6))]:List Z2)).length:Int)then oB ((a++([(h,f,([]:Z6))]:List Z2))[(a.length:Int).toNat]?) fun b=>(if fits ((b.2.2.length:Int)-1)then bif decide (((b.2.2.length:Int)-1)<0)then oB ((a++([(h,f,([]:Z6))]:List Z2))[(a.length:Int).toNat]?) fun ao=>(if(a.length:Int).toNat=(a.length:Int).toNat then if room b.2.2.length ([(e,([]:List Int))]:Z6).length 32 then if(a.length:Int).toNat=(a.length:Int).toNat then oB ((a++([(h,f,([]:Z6))]:List Z2))[(a.length:Int).toNat]?) fun j=>(if fits (((b.2.2.length:Int)-1)+1)then oB (((a++([(h,f,([]:Z6))]:List Z2)).set (a.length:Int).toNat (j.1,j.2.1,(b.2.2++([(e,([]:List Int))]:Z6))))[(a.length:Int).toNat]?) fun q=>(oB (q.2.2[(((b.2.2.length:Int)-1)+1).toNat]?) fun y=>oB (((a++([(h,f,([]:Z6))]:List Z2)).set (a.length:Int).toNat (j.1,j.2.1,(b.2.2++([(e,([]:List Int))]:Z6))))[(a.length:Int).toNat]?) fun am=>if(a.length:Int).toNat=(a.length:Int).toNat then oB (((a++([(h,f,([]:Z6))]:List Z2)).set (a.length:Int).toNat (j.1,j.2.1,(b.2.2++([(e,([]:List Int))]:Z6))))[(a.length:Int).toNat]?) fun R=>(if(a.length:Int).toNat=(a.length:Int).toNat then if 0<=(((b.2.2.length:Int)-1)+1)/\(((b.2.2.length:Int)-1)+1)<(q.2.2.length:Int)then oB (q.2.2[(((b.2.2.length:Int)-1)+1).toNat]?) fun ad=>(if(((b.2.2.length:Int)-1)+1).toNat=(((b.2.2.length:Int)-1)+1).toNat then if room y.2.length ([i]:List Int).length 8 then if 0<=(((b.2.2.length:Int)-1)+1)/\(((b.2.2.length:Int)-1)+1)<(q.2.2.length:Int)then if(((b.2.2.length:Int)-1)+1).toNat=(((b.2.2.length:Int)-1)+1).toNat then oB (q.2.2[(((b.2.2.length:Int)-1)+1).toNat]?) fun Q=>(some (r,(((a++([(h,f,([]:Z6))]:List Z2)).set (a.length:Int).toNat (j.1,j.2.1,(b.2.2++([(e,([]:List Int))]:Z6)))).modify ((a.length:Int).toNat) fun u=>(u.1,u.2.1,(q.2.2.set (((b.2.2.length:Int)-1)+1).toNat (Q.1,(y.2++([i]:List Int))))))))else none else none else none else none)else none else none)else none)else none)else none else none else none)else(oB ((a++([(h,f,([]:Z6))]:List Z2))[(a.length:Int).toNat]?) fun W=>if(a.length:Int).toNat=(a.length:Int).toNat then if 0<=((b.2.2.length:Int)-1)/\((b.2.2.length:Int)-1)<(b.2.2.length:Int)then oB (b.2.2[((b.2.2.length:Int)-1).toNat]?) fun L=>(bif !decide (L.1=e)then oB ((a++([(h,f,([]:Z6))]:List Z2))[(a.length:Int).toNat]?) fun ap=>(if(a.length:Int).toNat=(a.length:Int).toNat then if room b.2.2.length ([(e,([]:List Int))]:Z6).length 32 then if(a.length:Int).toNat=(a.length:Int).toNat then oB ((a++([(h,f,([]:Z6))]:List Z2))[(a.length:Int).toNat]?) fun l=>(if fits (((b.2.2.length:Int)-1)+1)then oB (((a++([(h,f,([]:Z6))]:List Z2)).set (a.length:Int).toNat (l.1,l.2.1,(b.2.2++([(e,([]:List Int))]:Z6))))[(a.length:Int).toNat]?) fun o=>(oB (o.2.2[(((b.2.2.length:Int)-1)+1).toNat]?) fun B=>oB (((a++([(h,f,([]:Z6))]:List Z2)).set (a.length:Int).toNat (l.1,l.2.1,(b.2.2++([(e,([]:List Int))]:Z6))))[(a.length:Int).toNat]?) fun ah=>if(a.length:Int).toNat=(a.length:Int).toNat then oB (((a++([(h,f,([]:Z6))]:List Z2)).set (a.length:Int).toNat (l.1,l.2.1,(b.2.2++([(e,([]:List Int))]:Z6))))[(a.length:Int).toNat]?) fun U=>(if(a.length:Int).toNat=(a.length:Int).toNat then if 0<=(((b.2.2.length:Int)-1)+1)/\(((b.2.2.length:Int)-1)+1)<(o.2.2.length:Int)then oB (o.2.2[(((b.2.2.length:Int)-1)+1).toNat]?) fun ai=>(if(((b.2.2.length:Int)-1)+1).toNat=(((b.2.2.length:Int)-1)+1).toNat then if room B.2.length ([i]:List Int).length 8 then if 0<=(((b.2.2.length:Int)-1)+1)/\(((b.2.2.length:Int)-1)+1)<(o.2.2.length:Int)then if(((b.2.2.length:Int)-1)+1).toNat=(((b.2.2.length:Int)-1)+1).toNat then oB (o.2.2[(((b.2.2.length:Int)-1)+1).toNat]?) fun K=>(some (r,(((a++([(h,f,([]:Z6))]:List Z2)).set (a.length:Int).toNat (l.1,l.2.1,(b.2.2++([(e,([]:List Int))]:Z6)))).modify ((a.length:Int).toNat) fun C=>(C.1,C.2.1,(o.2.2.set (((b.2.2.length:Int)-1)+1).toNat (K.1,(B.2++([i]:List Int))))))))else none else none else none else none)else none else none)else none)else none)else none else none else none)else if(a.length:Int).toNat=(a.length:Int).toNat then oB (b.2.2[((b.2.2.length:Int)-1).toNat]?) fun E=>(oB ((a++([(h,f,([]:Z6))]:List Z2))[(a.length:Int).toNat]?) fun aj=>if(a.length:Int).toNat=(a.length:Int).toNat then oB ((a++([(h,f,([]:Z6))]:List Z2))[(a.length:Int).toNat]?) fun X=>(if(a.length:Int).toNat=(a.length:Int).toNat then if 0<=((b.2.2.length:Int)-1)/\((b.2.2.length:Int)-1)<(b.2.2.length:Int)then oB (b.2.2[((b.2.2.length:Int)-1).toNat]?) fun ab=>(if((b.2.2.length:Int)-1).toNat=((b.2.2.length:Int)-1).toNat then if room E.2.length ([i]:List Int).length 8 then if 0<=((b.2.2.length:Int)-1)/\((b.2.2.length:Int)-1)<(b.2.2.length:Int)then if((b.2.2.length:Int)-1).toNat=((b.2.2.length:Int)-1).toNat then oB (b.2.2[((b.2.2.length:Int)-1).toNat]?) fun H=>(some (r,((a++([(h,f,([]:Z6))]:List Z2)).modify ((a.length:Int).toNat) fun z=>(z.1,z.2.1,(b.2.2.set ((b.2.2.length:Int)-1).toNat (H.1,(E.2++([i]:List Int))))))))else none else none else none else none)else none else none)else none)else none)else none else none)else none)else none else none else if 0<=d/\d<(a.length:Int)then oB (a[d.toNat]?) fun c=>(if fits ((c.2.2.length:Int)-1)then bif decide (((c.2.2.length:Int)-1)<0)then oB (a[d.toNat]?) fun ag=>(if d.toNat=d.toNat then if room c.2.2.length ([(e,([]:List Int))]:Z6).length 32 then if d.toNat=d.toNat then oB (a[d.toNat]?) fun k=>(if fits (((c.2.2.length:Int)-1)+1)then oB ((a.set d.toNat (k.1,k.2.1,(c.2.2++([(e,([]:List Int))]:Z6))))[d.toNat]?) fun n=>(oB (n.2.2[(((c.2.2.length:Int)-1)+1).toNat]?) fun D=>oB ((a.set d.toNat (k.1,k.2.1,(c.2.2++([(e,([]:List Int))]:Z6))))[d.toNat]?) fun S=>if d.toNat=d.toNat then oB ((a.set d.toNat (k.1,k.2.1,(c.2.2++([(e,([]:List Int))]:Z6))))[d.toNat]?) fun aq=>(if d.toNat=d.toNat then if 0<=(((c.2.2.length:Int)-1)+1)/\(((c.2.2.length:Int)-1)+1)<(n.2.2.length:Int)then oB (n.2.2[(((c.2.2.length:Int)-1)+1).toNat]?) fun an=>(if(((c.2.2.length:Int)-1)+1).toNat=(((c.2.2.length:Int)-1)+1).toNat then if room D.2.length ([i]:List Int).length 8 then if 0<=(((c.2.2.length:Int)-1)+1)/\(((c.2.2.length:Int)-1)+1)<(n.2.2.length:Int)then if(((c.2.2.length:Int)-1)+1).toNat=(((c.2.2.length:Int)-1)+1).toNat then oB (n.2.2[(((c.2.2.length:Int)-1)+1).toNat]?) fun G=>(some (r,((a.set d.toNat (k.1,k.2.1,(c.2.2++([(e,([]:List Int))]:Z6)))).modify d.toNat fun A=>(A.1,A.2.1,(n.2.2.set (((c.2.2.length:Int)-1)+1).toNat (G.1,(D.2++([i]:List Int))))))))else none else none else none else none)else none else none)else none)else none)else none else none else none)else(oB (a[d.toNat]?) fun ae=>if d.toNat=d.toNat then if 0<=((c.2.2.length:Int)-1)/\((c.2.2.length:Int)-1)<(c.2.2.length:Int)then oB (c.2.2[((c.2.2.length:Int)-1).toNat]?) fun O=>(bif !decide (O.1=e)then oB (a[d.toNat]?) fun ak=>(if d.toNat=d.toNat then if room c.2.2.length ([(e,([]:List Int))]:Z6).length 32 then if d.toNat=d.toNat then oB (a[d.toNat]?) fun m=>(if fits (((c.2.2.length:Int)-1)+1)then oB ((a.set d.toNat (m.1,m.2.1,(c.2.2++([(e,([]:List Int))]:Z6))))[d.toNat]?) fun p=>(oB (p.2.2[(((c.2.2.length:Int)-1)+1).toNat]?) fun t=>oB ((a.set d.toNat (m.1,m.2.1,(c.2.2++([(e,([]:List Int))]:Z6))))[d.toNat]?) fun af=>if d.toNat=d.toNat then oB ((a.set d.toNat (m.1,m.2.1,(c.2.2++([(e,([]:List Int))]:Z6))))[d.toNat]?) fun ac=>(if d.toNat=d.toNat then if 0<=(((c.2.2.length:Int)-1)+1)/\(((c.2.2.length:Int)-1)+1)<(p.2.2.length:Int)then oB (p.2.2[(((c.2.2.length:Int)-1)+1).toNat]?) fun T=>(if(((c.2.2.length:Int)-1)+1).toNat=(((c.2.2.length:Int)-1)+1).toNat then if room t.2.length ([i]:List Int).length 8 then if 0<=(((c.2.2.length:Int)-1)+1)/\(((c.2.2.length:Int)-1)+1)<(p.2.2.length:Int)then if(((c.2.2.length:Int)-1)+1).toNat=(((c.2.2.length:Int)-1)+1).toNat then oB (p.2.2[(((c.2.2.length:Int)-1)+1).toNat]?) fun P=>(some (r,((a.set d.toNat (m.1,m.2.1,(c.2.2++([(e,([]:List Int))]:Z6)))).modify d.toNat fun x=>(x.1,x.2.1,(p.2.2.set (((c.2.2.length:Int)-1)+1).toNat (P.1,(t.2++([i]:List Int))))))))else none else none else none else none)else none else none)else none)else none)else none else none else none)else if d.toNat=d.toNat then oB (c.2.2[((c.2.2.length:Int)-1).toNat]?) fun v=>(oB (a[d.toNat]?) fun V=>if d.toNat=d.toNat then oB (a[d.toNat]?) fun aa=>(if d.toNat=d.toNat then if 0<=((c.2.2.length:Int)-1)/\((c.2.2.length:Int)-1)<(c.2.2.length:Int)then oB (c.2.2[((c.2.2.length:Int)-1).toNat]?) fun al=>(if((c.2.2.length:Int)-1).toNat=((c.2.2.length:Int)-1).toNat then if room v.2.length ([i]:List Int).length 8 then if 0<=((c.2.2.length:Int)-1)/\((c.2.2.length:Int)-1)<(c.2.2.length:Int)then if((c.2.2.length:Int)-1).toNat=((c.2.2.length:Int)-1).toNat then oB (c.2.2[((c.2.2.length:Int)-1).toNat]?) fun I=>(some (r,(a.modify d.toNat fun w=>(w.1,w.2.1,(c.2.2.set ((c.2.2.length:Int)-1).toNat (I.1,(v.2++([i]:List Int))))))))else none else none else none else none)else none else none)else none)else none)else none else none)else none)else none)
theorem jky :mK 112 ⟨⟨[.box 900000 0,pS,.agg [pS,pI],pI],[(900000,false,[.tre 850000 Y4 81,.tre 850001 Y6 132])]⟩,⟨[.tup []],[(900000,false,[.tre 850000 Y4 81,.tre 1 Y6 132])]⟩,c6A (i_Seg_put_m N)⟩:=
 mO (fC (jrl N) ja) func112 rfl N (.seq .no (.seq .no (.seq .no (.seq .no (.seq .no (.seq .no (.touch [.out 9 [(2,79,217,10),(1,88,3,0)]]))))))) _ (wr:=[33,34,70,71,91,92]) (rs:=[900000,850000,850001]) (dw:=[16,33,70])
noncomputable def jaS (N:Nat) (a:List Z2) (b:Unit):Option (List Z2):=jWO a
 
noncomputable def jjA (N:Nat):Model:=⟨⟨[.tre 800000 Y6 132,.clo 114 []],[]⟩,⟨[.tup [],.tre 800000 Y6 132],[]⟩,c2A (jaS N)⟩
theorem jtu :mK 113 (jjA N):=jW9
def jmK :Sh:=⟨.dead:: .dead:: .box 2 0:: .dead:: .box 4 0:: .box 5 0::dz 19 (.pv Y3::pI::pI::dz 32 []),[(2,false,[.pv (.sl .str),.pv Y14]),(4,false,[.nils,.nils]),(5,false,[.tre 700500 Y4 81,.tre 700501 Y6 132])]⟩
def jor :Sh:=⟨.dead:: .dead:: .box 2 0:: .dead:: .box 4 0:: .box 5 0:: .dead:: .box 7 0::dz 17 (.pv Y3::pI::pI::dz 4 (.pv Y17::pI::pI::dz 25 [])),[(2,false,[.pv (.sl .str),.pv Y14]),(4,false,[.nils,.nils]),(5,false,[.tre 700500 Y4 81,.tre 700501 Y6 132]),(7,false,[pI,.pv Y17,.pv Y13])]⟩
def jnj :Sh:=⟨.dead:: .dead:: .box 2 0:: .dead:: .box 4 0:: .box 5 0:: .dead:: .box 7 0:: .dead:: .box 9 0::dz 15 (.pv Y3::pI::pI::dz 4 (.pv Y17::pI::pI::dz 6 (.own 600041 Y15 155 true::pI::pI::dz 16 []))),[(2,false,[.pv (.sl .str),.pv Y14]),(4,false,[.nils,.nils]),(5,false,[.tre 700500 Y4 81,.tre 700501 Y6 132]),(7,false,[pI,.pv Y17,.pv Y13]),(9,false,[pS,pS])]⟩
noncomputable def jbT (c:List Z1) (c2:List Z4) (docs:List Z0):Option ((List Z0)×(List Z2)):=
 (oB (jaj N c c2) fun r=>bif !r then some (([]:List Z0),([]:List Z2))else oB (jbf N docs) fun r2=>bif !r2 then some (([]:List Z0),([]:List Z2))else oB (jbV N docs) fun r3=>iter (fun go (t25,t26,t27,c3,c4,s,s2)=>bif decide (t27<t26)then oB (idx t25 t27) fun e=>(iter (fun go2 (t252,t262,t272,t32,t33,t34,c5,c6,s3,s4,d,d2,d3)=>bif decide (t34<t33)then oB (idx t32 t34) fun e2=>(oB (jbw N c5 c6 e2.2) fun r4=>iter (fun go3 (t253,t263,t273,t322,t332,t342,t41,t42,t43,c7,c8,s5,s6,d4,d5,d6,f,f2)=>bif decide (t43<t42)then oB (idx t41 t43) fun e3=>(oB (i_Seg_put_m N f e3.1 e3.2 d4 s5 s6) fun r5=>if fits (t43+1)then go3 (t253,t263,t273,t322,t332,t342,t41,t42,(t43+1),c7,c8,r5.1,r5.2,d4,d5,d6,f,f2)else none)else if fits (t342+1)then go2 (t253,t263,t273,t322,t332,(t342+1),c7,c8,s5,s6,d4,d5,d6)else none) N (t252,t262,t272,t32,t33,t34,r4,(r4.length:Int),(0:Int),c5,c6,s3,s4,d,d2,d3,e2.1,e2.2))else if fits (t272+1)then go (t252,t262,(t272+1),c5,c6,s3,s4)else none) N (t25,t26,t27,e.2.1,(e.2.1.length:Int),(0:Int),c3,c4,s,s2,e.1,e.2.1,e.2.2))else oB (jaS N s2 ()) fun r6=>some (s,r6)) N (docs,(docs.length:Int),(0:Int),c,c2,r3,([]:List Z2)))
theorem jqC :mK 49 (bX [.agg [.pv (.sl .str),.pv Y14],.pv Y3] [.agg [.own 1 Y4 81 true,.own 2 Y6 132 true]] (c3A (jbT N))):=
 mO (fC (jdX N) (fC (jjU N) (fC (joC N) (fC (jgO N) (fC (jky N) (fC (jtu N) ja)))))) func49 rfl N (.seq .no (.seq .no (.seq .no (.seq (.seq .no (.block (.loop jmK (.seq .no (.seq .no (.seq (.block (.seq .no (.seq .no (.block (.loop jor (.seq .no (.seq .no (.seq (.block (.seq .no (.seq .no (.block (.loop jnj .no))))) .no)))))))) .no)))))) .no)))) _ (wr:=[23]) (dw:=[22,23])
end Go.Proofs.YtcdcmcgdgnibmaaGreatDoor
