import Derived.Test.YtcdcmcgdgnibmaaGreatDoorSA
import Derived.Test.YtcdcmcgdgnibmaaGreatDoorSC
import Derived.Test.YtcdcmcgdgnibmaaGreatDoorSE
import Derived.Test.YtcdcmcgdgnibmaaGreatDoorSN
import Derived.Test.YtcdcmcgdgnibmaaGreatDoorSP
set_option linter.unusedVariables false
set_option linter.unusedSimpArgs false
namespace Go.Proofs.YtcdcmcgdgnibmaaGreatDoor
open Go.RowKit Go.Proofs.Tryz
variable (N : Nat)
open Option renaming bind -> oB
set_option maxRecDepth 1000000
abbrev Z0 :Type:=Int×(List ((List UInt8)×(List UInt8)))×(List ((List UInt8)×Int))
abbrev Z1 :Type:=(List UInt8)×(List UInt8)×(List (Int×(List Int)))
abbrev Z2 :Type:=List UInt8
abbrev Z3 :Type:=((List Z0)×(List Z1))×(List Int)
abbrev Z4 :Type:=(List Z2)×Z2
abbrev Z5 :Type:=List (Int×(List Int))
abbrev Z6 :Type:=List (Z2×Int)
abbrev Z7 :Type:=List (Z2×Int)
abbrev Z8 :Type:=Z2×Int×Int×Int
abbrev Z9 :Type:=Option (Bool)
abbrev Z10 :Type:=List (Z2×Z2)
abbrev Z11 :Type:=List (Z2×Z2)
abbrev Z12 :Type:=List (Int×(List Int))
abbrev Z13 :Type:=Option ((List Z0))
abbrev Z14 :Type:=Option ((List Z2)×(List Z4)×(List Z3)×Bool)
abbrev bX (a r:List VS) (f:HD (Sh.codes ⟨a,[]⟩)->Option (HD (Sh.codes ⟨r,[]⟩))):Model:=⟨⟨a,[]⟩,⟨r,[]⟩,f⟩
abbrev mK :=ModelOk Tryz.prog
theorem mO {l:List (Nat×Model)} (hl:jR Tryz.prog l) {f:FuncId} {fn:Func} {c:Code} (hf:Tryz.prog.funcs[f]? =some fn) (hbody:fn.body=some c) (N:Nat) (h:Hint) (m:Model) (wr rs dw:List Nat:=[])
  (hname:(fn.name== "runtime.NumGoroutine")=false:=by kernel_rfl) (hres:m.arg.names.all (jbC l wr rs dw).res=true:=by kernel_rfl) (hlen:Nat.ble m.arg.vals.length fn.ntmps=true:=by kernel_rfl)
  (hrun:∀a,m.run a=runF N (jbC l wr rs dw) okDraw fn c h m.arg m.ret a:=by intro a;kernel_rfl):ModelOk Tryz.prog f m:=modelOk_of (E:=jbC l wr rs dw) (jtQ hl wr rs dw) hf hname hbody N h m hres hlen hrun
theorem fC {k:Nat} {m:Model} {l:List (Nat×Model)} (h:ModelOk Tryz.prog k m) (hl:jR Tryz.prog l):jR Tryz.prog ((k,m)::l):=jsH h hl
abbrev pI :VS:=.pv (.int .i64)
abbrev pS :VS:=.pv .str
abbrev pB :VS:=.pv .bool
abbrev tI :Tp:=.int .i64
abbrev c1A {α ρ:Type} (f:α->ρ) (a:α):ρ:=f a
abbrev c2A {α0 α1 ρ:Type} (f:α0->α1->ρ) (a:α0×α1):ρ:=f a.1 a.2
abbrev c3A {α0 α1 α2 ρ:Type} (f:α0->α1->α2->ρ) (a:α0×α1×α2):ρ:=f a.1 a.2.1 a.2.2
abbrev c4A {α0 α1 α2 α3 ρ:Type} (f:α0->α1->α2->α3->ρ) (a:α0×α1×α2×α3):ρ:=f a.1 a.2.1 a.2.2.1 a.2.2.2
abbrev c5A {α0 α1 α2 α3 α4 ρ:Type} (f:α0->α1->α2->α3->α4->ρ) (a:α0×α1×α2×α3×α4):ρ:=f a.1 a.2.1 a.2.2.1 a.2.2.2.1 a.2.2.2.2
abbrev c6A {α0 α1 α2 α3 α4 α5 ρ:Type} (f:α0->α1->α2->α3->α4->α5->ρ) (a:α0×α1×α2×α3×α4×α5):ρ:=f a.1 a.2.1 a.2.2.1 a.2.2.2.1 a.2.2.2.2.1 a.2.2.2.2.2
abbrev c7A {α0 α1 α2 α3 α4 α5 α6 ρ:Type} (f:α0->α1->α2->α3->α4->α5->α6->ρ) (a:α0×α1×α2×α3×α4×α5×α6):ρ:=f a.1 a.2.1 a.2.2.1 a.2.2.2.1 a.2.2.2.2.1 a.2.2.2.2.2.1 a.2.2.2.2.2.2
def dz :Nat->List VS->List VS
 |0,l=>l
 |n+1,l=>.dead::dz n l
abbrev Y19 :Tp:=.sl tI
abbrev Y18 :Tp:=.pair .str .str
abbrev Y17 :Tp:=.sl (.pair .str .str)
abbrev Y16 :Tp:=.pair (.sl .str) .str
abbrev Y15 :Tp:=.pair .str tI
abbrev Y14 :Tp:=.sl (.pair (.sl .str) .str)
abbrev Y13 :Tp:=.sl (.pair .str tI)
abbrev Y12 :Tp:=.pair tI (.sl tI)
abbrev Y11 :Tp:=.sl (.pair tI (.sl tI))
abbrev Y7 :Tp:=.pair .str (.pair tI (.pair tI tI))
abbrev Y6 :Tp:=.pair .str (.pair .str (.sl (.pair tI (.sl tI))))
abbrev Y5 :Tp:=.sl (.pair .str (.pair .str (.sl (.pair tI (.sl tI)))))
abbrev Y4 :Tp:=.pair tI (.pair (.sl (.pair .str .str)) (.sl (.pair .str tI)))
abbrev Y3 :Tp:=.sl (.pair tI (.pair (.sl (.pair .str .str)) (.sl (.pair .str tI))))
abbrev Y2 :Tp:=.pair (.sl (.pair tI (.pair (.sl (.pair .str .str)) (.sl (.pair .str tI))))) (.sl (.pair .str (.pair .str (.sl (.pair tI (.sl tI))))))
abbrev Y1 :Tp:=.pair (.pair (.sl (.pair tI (.pair (.sl (.pair .str .str)) (.sl (.pair .str tI))))) (.sl (.pair .str (.pair .str (.sl (.pair tI (.sl tI))))))) (.sl tI)
abbrev Y0 :Tp:=.sl (.pair (.pair (.sl (.pair tI (.pair (.sl (.pair .str .str)) (.sl (.pair .str tI))))) (.sl (.pair .str (.pair .str (.sl (.pair tI (.sl tI))))))) (.sl tI))
def s_l30Open_m (N:Nat) (a:List Int):Option ((List Int)×Int):=
 (bif decide ((2000:Int)<a.length)then oB (cut a 0 2000) fun b=>(some (b,0))else some (a,0))
theorem juQ :mK 36 ⟨⟨[.pv (.sl (.int .u8))],[]⟩,⟨[.box 10 0],[(10,false,[.pv (.sl (.int .u8)),pI])]⟩,c1A (s_l30Open_m N)⟩:=
 mO ja func36 rfl N .no _
def s_l30Rd_pick_m (N:Nat) (e:Int) (b:List Int) (a:Int):Option (Int×(List Int)×Int):=
 (if fits (a+1)then bif decide (e<1)then some (0,b,(a+1))else(bif decide ((b.length:Int)=0)then some (0,b,(a+1))else if fits ((a+1)-1)then bif decide (((a+1)-1)<(b.length:Int))then oB (idx b ((a+1)-1)) fun f=>(if e≠0 then some (((IntKind.i64.wrap f).tmod e),b,(a+1))else none)else(if(b.length:Int)≠0 then oB (idx b (((a+1)-1).tmod (b.length:Int))) fun c=>(if fits ((IntKind.i64.wrap c)*131)then if fits (((a+1)-1)*7)then if fits ((((a+1)-1)*7)+3)then if(b.length:Int)≠0 then oB (idx b (((((a+1)-1)*7)+3).tmod (b.length:Int))) fun d=>(if fits ((IntKind.i64.wrap d)*1117)then if fits (((IntKind.i64.wrap c)*131)+((IntKind.i64.wrap d)*1117))then if fits (((a+1)-1)*29)then if fits ((((IntKind.i64.wrap c)*131)+((IntKind.i64.wrap d)*1117))+(((a+1)-1)*29))then if(b.length:Int)≠0 then if fits (((a+1)-1).tdiv (b.length:Int))then if fits ((((a+1)-1).tdiv (b.length:Int))*53)then if fits (((((IntKind.i64.wrap c)*131)+((IntKind.i64.wrap d)*1117))+(((a+1)-1)*29))+((((a+1)-1).tdiv (b.length:Int))*53))then if 64≠0 then if fits ((((((IntKind.i64.wrap c)*131)+((IntKind.i64.wrap d)*1117))+(((a+1)-1)*29))+((((a+1)-1).tdiv (b.length:Int))*53)).tdiv 64)then if e≠0 then some (((bitsI .xor .i64 (((((IntKind.i64.wrap c)*131)+((IntKind.i64.wrap d)*1117))+(((a+1)-1)*29))+((((a+1)-1).tdiv (b.length:Int))*53)) ((((((IntKind.i64.wrap c)*131)+((IntKind.i64.wrap d)*1117))+(((a+1)-1)*29))+((((a+1)-1).tdiv (b.length:Int))*53)).tdiv 64)).tmod e),b,(a+1))else none else none else none else none else none else none else none else none else none else none else none)else none else none else none else none)else none)else none)else none)
theorem jtX :mK 38 ⟨⟨[.box 900000 0,pI],[(900000,false,[.pv (.sl (.int .u8)),pI])]⟩,⟨[pI],[(900000,false,[.pv (.sl (.int .u8)),pI])]⟩,c3A (s_l30Rd_pick_m N)⟩:=
 mO ja func38 rfl N .no _ (rs:=[900000])
def juL :Sh:=⟨.box 900000 0:: .dead:: .box 2 0:: .box 3 0::dz 30 [],[(2,false,[.nils,.nils]),(3,false,[.own 13 .str 9 true,.nils]),(900000,false,[.pv (.sl (.int .u8)),pI])]⟩
def juw :Sh:=⟨.box 900000 0:: .dead:: .box 2 0:: .box 3 0::dz 30 [],[(2,false,[.nils,.nils]),(3,false,[.own 8 .str 9 true,.nils]),(900000,false,[.pv (.sl (.int .u8)),pI])]⟩
def s_l30Conf_m (j:List Int) (l:Int):Option ((List Z2)×(List Z4)×(List Int)×Int):=
 (meet (fun(d:(List Z2)×(List Int)×Int)=>match d with|(i,o,m)=>meet (fun(d:(List Z2)×(List Int)×Int)=>match d with|(e,n,k)=>oB (s_l30Rd_pick_m N 4 n k) fun a=>bif decide (a.1=0)then some (e,([(([([110,101,119]:List UInt8),([121,111,114,107]:List UInt8)]:List Z2),([110,121]:List UInt8))]:List Z4),a.2.1,a.2.2)else bif decide (a.1=1)then some (e,([(([([98,105,103]:List UInt8)]:List Z2),([108,97,114,103]:List UInt8)),(([([98,105,103]:List UInt8),([114,101,100]:List UInt8),([102,111,120]:List UInt8)]:List Z2),([102,111,120]:List UInt8)),(([([110,101,119]:List UInt8),([121,111,114,107]:List UInt8)]:List Z2),([110,121]:List UInt8))]:List Z4),a.2.1,a.2.2)else some (e,([]:List Z4),a.2.1,a.2.2)) fun h=>oB (s_l30Rd_pick_m N 4 o m) fun c=>bif decide (c.1=0)then h (([([100,111,103]:List UInt8),([116,104,101]:List UInt8)]:List Z2),c.2.1,c.2.2)else h (i,c.2.1,c.2.2)) fun f=>oB (s_l30Rd_pick_m N 3 j l) fun b=>bif decide ((0:Int)<b.1)then f (([([116,104,101]:List UInt8)]:List Z2),b.2.1,b.2.2)else f (([]:List Z2),b.2.1,b.2.2))
theorem jva :mK 120 ⟨⟨[.box 900000 0],[(900000,false,[.pv (.sl (.int .u8)),pI])]⟩,⟨[.agg [.own 1 .str 9 true,.own 2 Y16 143 true]],[(900000,false,[.pv (.sl (.int .u8)),pI])]⟩,c2A (s_l30Conf_m N)⟩:=
 mO (fC (jtX N) ja) func120 rfl N (.seq .no (.seq .no (.meet juw .no (.meet juL .no .no)))) _ (rs:=[900000])
def jt (N:Nat) (a:Int):Option (Int):=
 (bif decide ((65:Int)<=a)then bif decide (a<=90)then some (IntKind.u8.wrap (a+32))else(bif decide ((97:Int)<=a)then bif decide (a<=122)then some a else(bif decide ((48:Int)<=a)then bif decide (a<=57)then some a else(some 0)else some 0)else bif decide ((48:Int)<=a)then bif decide (a<=57)then some a else(some 0)else some 0)else bif decide ((97:Int)<=a)then bif decide (a<=122)then some a else(bif decide ((48:Int)<=a)then bif decide (a<=57)then some a else(some 0)else some 0)else bif decide ((48:Int)<=a)then bif decide (a<=57)then some a else(some 0)else some 0)
theorem jfG :mK 194 (bX [.pv (.int .u8)] [.pv (.int .u8)] (c1A (jt N))):=
 mO ja func194 rfl N .no _
def jJ (N:Nat) (a:Int) (b:Int) (c:Int):Z9:=
 (bif decide (b<=a)then some (decide (a<=c))else some false)
theorem jcL :mK 128 (bX [pI,pI,pI] [pB] (c3A (jJ N))):=
 mO ja func128 rfl N .no _
def jr5 :Sh:=⟨pS:: .dead:: .dead::pI::dz 23 [],[]⟩
def jT (d:List UInt8):Z9:=
 (iter (fun e (b,a)=>bif decide (a<(b.length:Int))then oB (idx b a) fun c=>(oB (jt N (c.toNat:Int)) fun h=>oB (idx b a) fun k=>bif !decide (h=(k.toNat:Int))then some false else oB (idx b a) fun j=>bif decide ((j.toNat:Int)=0)then some false else if fits (a+1)then e (b,(a+1))else none)else oB (jJ N (b.length:Int) 1 12) fun i=>some i) N (d,(0:Int)))
theorem jgp :mK 125 (bX [pS] [pB] (c1A (jT N))):=
 mO (fC (jfG N) (fC (jcL N) ja)) func125 rfl N (.seq .no (.seq (.seq .no (.block (.loop jr5 .no))) .no)) _
def jdI (N:Nat):Option ((List Z2)):=
 (some ([([105,110,103]:List UInt8),([101,100]:List UInt8),([101,115]:List UInt8),([108,121]:List UInt8),([115]:List UInt8)]:List Z2))
theorem jkj :mK 247 ⟨⟨[],[]⟩,⟨[.own 1 .str 9 true],[]⟩,fun a=>jdI N⟩:=
 mO ja func247 rfl N .no _
def jl2 :Sh:=⟨pS:: .dead:: .dead::pI::dz 30 [],[]⟩
def ja6 (e:List UInt8):Option (Z2):=
 (iter (fun d (a,b)=>oB (jdI N) fun j=>bif decide (b<(j.length:Int))then oB (jdI N) fun k=>(oB (idx k b) fun c=>if fits ((a.length:Int)-(c.length:Int))then bif decide ((3:Int)<=((a.length:Int)-(c.length:Int)))then oB (cut a ((a.length:Int)-(c.length:Int)) (a.length:Int)) fun h=>(bif decide (h=c)then oB (cut a 0 ((a.length:Int)-(c.length:Int))) fun f=>(some f)else if fits (b+1)then d (a,(b+1))else none)else(if fits (b+1)then d (a,(b+1))else none)else none)else some a) N (e,(0:Int)))
theorem jtL :mK 195 (bX [pS] [pS] (c1A (ja6 N))):=
 mO (fC (jkj N) ja) func195 rfl N (.seq .no (.seq (.seq .no (.block (.loop jl2 .no))) .no)) _
def jto :Sh:=⟨pS::dz 9 [],[]⟩
def jaq (e:List UInt8):Option (Z2):=
 (iter (fun a (b:Z2)=>let s2:=b;(oB (ja6 N s2) fun c=>bif !decide (c=s2)then oB (ja6 N s2) fun d=>(a d)else some s2)) N e)
theorem jfZ :mK 126 (bX [pS] [pS] (c1A (jaq N))):=
 mO (fC (jtL N) ja) func126 rfl N (.seq .no (.seq (.block (.loop jto .no)) .no)) _
def jlY :Sh:=⟨.pv (.sl .str)::pS::dz 3 (pI::dz 12 []),[]⟩
def jap (i:List Z2) (d:List UInt8):Z9:=
 (iter (fun e (b,c,a)=>bif decide (a<(b.length:Int))then oB (idx b a) fun f=>(bif decide (f=c)then some true else if fits (a+1)then e (b,c,(a+1))else none)else some false) N (i,d,(0:Int)))
theorem jhP :mK 127 (bX [.pv (.sl .str),pS] [pB] (c2A (jap N))):=
 mO ja func127 rfl N (.seq .no (.seq (.seq .no (.block (.loop jlY .no))) .no)) _
def jrs :Sh:=⟨.dead:: .box 1 0:: .dead::pI::dz 114 [],[(1,false,[.pv (.sl .str),.pv Y14])]⟩
def js0 :Sh:=⟨.dead:: .box 1 0:: .dead:: .dead::pI::dz 113 [],[(1,false,[.pv (.sl .str),.pv Y14])]⟩
def jrc :Sh:=⟨.dead:: .box 1 0:: .dead:: .dead::pI:: .box 5 0::pI::dz 111 [],[(1,false,[.pv (.sl .str),.pv Y14]),(5,false,[.pv (.sl .str),pS])]⟩
def jcw (t:List Z2) (K:List Z4):Z9:=
 (iter (fun q (a,d,i)=>bif decide (a<(d.length:Int))then oB (idx d a) fun x=>(oB (jT N x) fun D=>bif !D then some false else bif decide ((0:Int)<a)then oB (idx d a) fun r=>(if fits (a-1)then oB (idx d (a-1)) fun n=>(bif Op.bytesLess r n||decide (r=n)then some false else if fits (a+1)then q ((a+1),d,i)else none)else none)else if fits (a+1)then q ((a+1),d,i)else none)else iter (fun z (l,o,f)=>bif decide (l<(f.length:Int))then oB (idx f l) fun m=>(iter (fun w (k,c,j,p,b,h)=>bif decide (c<(b.length:Int))then oB (idx b c) fun A=>(oB (jT N A) fun E=>bif !E then some false else oB (idx b c) fun v=>oB (jaq N v) fun C=>oB (idx b c) fun G=>bif !decide (C=G)then some false else oB (idx b c) fun u=>oB (jap N j u) fun I=>bif I then some false else if fits (c+1)then w (k,(c+1),j,p,b,h)else none)else oB (jJ N (b.length:Int) 1 3) fun B=>bif !B then some false else oB (jT N h) fun H=>bif !H then some false else oB (jaq N h) fun y=>bif !decide (y=h)then some false else if fits (k+1)then z ((k+1),j,p)else none) N (l,(0:Int),o,f,m.1,m.2))else bif decide ((o.length:Int)<=6)then some (decide ((f.length:Int)<=4))else some false) N ((0:Int),d,i)) N ((0:Int),t,K))
theorem jtf :mK 55 (bX [.agg [.pv (.sl .str),.pv Y14]] [pB] (c2A (jcw N))):=
 mO (fC (jgp N) (fC (jfZ N) (fC (jhP N) (fC (jcL N) ja)))) func55 rfl N (.seq .no (.seq (.seq .no (.block (.loop jrs .no))) (.seq (.seq .no (.block (.loop js0 (.seq .no (.seq (.block (.seq .no (.seq (.seq .no (.block (.loop jrc .no))) .no))) .no))))) .no))) _
def jMA :Sh:=⟨.dead:: .box 1 0:: .box 2 0:: .box 3 0::pI::dz 33 [],[(1,false,[.pv (.sl .str),.pv Y14]),(2,false,[.nils,.nils]),(3,false,[.own 700300 .str 9 true,.own 700301 Y16 143 true])]⟩
def s_l18CopyConf_m (c:List Z2) (l:List Z4):Option ((List Z2)×(List Z4)):=
 (if room ([]:List Z2).length c.length 16 then iter (fun i (a,k,b,h,d)=>bif decide (a<(b.length:Int))then oB (idx b a) fun e=>(if room ([]:List Z2).length e.1.length 16 then oB (idx b a) fun f=>(if room d.length ([((([]:List Z2)++e.1),f.2)]:List Z4).length 40 then if fits (a+1)then i ((a+1),k,b,h,(d++([((([]:List Z2)++e.1),f.2)]:List Z4)))else none else none)else none)else some (h,d)) N ((0:Int),c,l,(([]:List Z2)++c),([]:List Z4))else none)
theorem jMp :mK 149 (bX [.agg [.pv (.sl .str),.pv Y14]] [.agg [.own 1 .str 9 true,.own 2 Y16 143 true]] (c2A (s_l18CopyConf_m N))):=
 mO ja func149 rfl N (.seq .no (.seq .no (.seq (.seq .no (.block (.loop jMA .no))) .no))) _
def s_IndexNew_m (a:List Z2) (c:List Z4):Option ((List Z2)×(List Z4)):=
 (oB (jcw N a c) fun d=>bif !d then some (([]:List Z2),([]:List Z4))else oB (s_l18CopyConf_m N a c) fun b=>some (b.1,b.2))
theorem jOh :mK 119 (bX [.agg [.pv (.sl .str),.pv Y14]] [.agg [.own 1 .str 9 true,.own 2 Y16 143 true,.nils]] (c2A (s_IndexNew_m N))):=
 mO (fC (jtf N) (fC (jMp N) ja)) func119 rfl N .no _
def jot :Sh:=⟨pS:: .dead:: .dead::pI::dz 19 [],[]⟩
def jcu (d:List UInt8):Z9:=
 (iter (fun e (b,a)=>bif decide (a<(b.length:Int))then oB (idx b a) fun c=>(bif decide ((c.toNat:Int)<32)then some false else oB (idx b a) fun h=>bif decide ((126:Int)<(h.toNat:Int))then some false else if fits (a+1)then e (b,(a+1))else none)else some (decide ((b.length:Int)<=160))) N (d,(0:Int)))
theorem jpZ :mK 224 (bX [pS] [pB] (c1A (jcu N))):=
 mO ja func224 rfl N (.seq .no (.seq (.seq .no (.block (.loop jot .no))) .no)) _
def jp0 :Sh:=⟨.dead:: .box 1 0:: .dead::pI::dz 100 [],[(1,false,[pI,.pv Y17,.pv Y13])]⟩
def jtP :Sh:=⟨.dead:: .box 1 0::dz 3 (pI::dz 98 []),[(1,false,[pI,.pv Y17,.pv Y13])]⟩
def jcb (r:Int) (z:Z11) (q:Z6):Z9:=
 (iter (fun o (b,j,d,h)=>bif decide (b<(d.length:Int))then oB (idx d b) fun e=>(oB (jT N e.1) fun x=>bif !x then some false else oB (jcu N e.2) fun y=>bif !y then some false else bif decide ((0:Int)<b)then if fits (b-1)then oB (idx d (b-1)) fun p=>(bif Op.bytesLess e.1 p.1||decide (e.1=p.1)then some false else if fits (b+1)then o ((b+1),j,d,h)else none)else none else if fits (b+1)then o ((b+1),j,d,h)else none)else iter (fun m (a,k,i,c)=>bif decide (a<(c.length:Int))then oB (idx c a) fun u=>(oB (jT N u.1) fun w=>bif !w then some false else oB (idx c a) fun t=>oB (jJ N t.2 0 999999999) fun B=>bif !B then some false else bif decide ((0:Int)<a)then oB (idx c a) fun n=>(if fits (a-1)then oB (idx c (a-1)) fun l=>(bif Op.bytesLess n.1 l.1||decide (n.1=l.1)then some false else if fits (a+1)then m ((a+1),k,i,c)else none)else none)else if fits (a+1)then m ((a+1),k,i,c)else none)else oB (jJ N k 1 9999) fun v=>bif v then oB (jJ N (i.length:Int) 0 3) fun A=>(bif A then some (decide ((c.length:Int)<=3))else some false)else some false) N ((0:Int),j,d,h)) N ((0:Int),r,z,q))
theorem jpD :mK 168 (bX [.agg [pI,.pv Y17,.pv Y13]] [pB] (c3A (jcb N))):=
 mO (fC (jgp N) (fC (jpZ N) (fC (jcL N) ja))) func168 rfl N (.seq .no (.seq (.seq .no (.block (.loop jp0 .no))) (.seq (.seq .no (.block (.loop jtP .no))) .no))) _
def jkS :Sh:=⟨.pv Y3:: .dead:: .dead::pI::dz 33 [],[]⟩
def jbU (j:List Z0):Z9:=
 (iter (fun d (b,a)=>bif decide (a<(b.length:Int))then oB (idx b a) fun c=>(oB (jcb N c.1 c.2.1 c.2.2) fun i=>bif !i then some false else bif decide ((0:Int)<a)then oB (idx b a) fun h=>(if fits (a-1)then oB (idx b (a-1)) fun e=>(bif decide (h.1<=e.1)then some false else if fits (a+1)then d (b,(a+1))else none)else none)else if fits (a+1)then d (b,(a+1))else none)else some (decide ((b.length:Int)<=16))) N (j,(0:Int)))
theorem jpx :mK 96 (bX [.pv Y3] [pB] (c1A (jbU N))):=
 mO (fC (jpD N) ja) func96 rfl N (.seq .no (.seq (.seq .no (.block (.loop jkS .no))) .no)) _
def jl5 :Sh:=⟨.pv (.sl .str)::pS::dz 3 (pI::dz 42 []),[]⟩
def s_l7Put_m (t:List Z2) (o:List UInt8):Option ((List Z2)):=
 (iter (fun q (a,b,c)=>bif decide (c<(a.length:Int))then oB (idx a c) fun m=>(bif Op.bytesLess m b then if fits (c+1)then q (a,b,(c+1))else none else bif decide (c<(a.length:Int))then oB (idx a c) fun r=>(bif decide (r=b)then some a else oB (cut a 0 c) fun e=>if room ([]:List Z2).length e.length 16 then if room (([]:List Z2)++e).length ([b]:List Z2).length 16 then oB (cut a c (a.length:Int)) fun j=>(if room ((([]:List Z2)++e)++([b]:List Z2)).length j.length 16 then some (((([]:List Z2)++e)++([b]:List Z2))++j)else none)else none else none)else oB (cut a 0 c) fun f=>if room ([]:List Z2).length f.length 16 then if room (([]:List Z2)++f).length ([b]:List Z2).length 16 then oB (cut a c (a.length:Int)) fun k=>(if room ((([]:List Z2)++f)++([b]:List Z2)).length k.length 16 then some (((([]:List Z2)++f)++([b]:List Z2))++k)else none)else none else none)else bif decide (c<(a.length:Int))then oB (idx a c) fun p=>(bif decide (p=b)then some a else oB (cut a 0 c) fun d=>if room ([]:List Z2).length d.length 16 then if room (([]:List Z2)++d).length ([b]:List Z2).length 16 then oB (cut a c (a.length:Int)) fun i=>(if room ((([]:List Z2)++d)++([b]:List Z2)).length i.length 16 then some (((([]:List Z2)++d)++([b]:List Z2))++i)else none)else none else none)else oB (cut a 0 c) fun h=>if room ([]:List Z2).length h.length 16 then if room (([]:List Z2)++h).length ([b]:List Z2).length 16 then oB (cut a c (a.length:Int)) fun l=>(if room ((([]:List Z2)++h)++([b]:List Z2)).length l.length 16 then some (((([]:List Z2)++h)++([b]:List Z2))++l)else none)else none else none) N (t,o,(0:Int)))
theorem jgt :mK 248 (bX [.pv (.sl .str),pS] [.pv (.sl .str)] (c2A (s_l7Put_m N))):=
 mO ja func248 rfl N (.seq .no (.seq .no (.seq (.block (.loop jl5 .no)) .no))) _
def joT :Sh:=⟨.pv Y3:: .dead:: .dead:: .pv (.sl .str)::pI::dz 30 [],[]⟩
def jkn :Sh:=⟨.pv Y3:: .dead:: .dead:: .pv (.sl .str)::pI::pI::dz 29 [],[]⟩
def s_l7Names_m (k:List Z0):Option ((List Z2)):=
 (iter (fun m (f,i,h)=>bif decide (h<(f.length:Int))then iter (fun j (b,e,a,c)=>oB (idx b a) fun n=>bif decide (c<(n.2.1.length:Int))then oB (idx b a) fun o=>(oB (idx o.2.1 c) fun l=>oB (s_l7Put_m N e l.1) fun p=>if fits (c+1)then j (b,p,a,(c+1))else none)else if fits (a+1)then m (b,e,(a+1))else none) N (f,i,h,(0:Int))else some i) N (k,([]:List Z2),(0:Int)))
theorem jlz :mK 199 (bX [.pv Y3] [.pv (.sl .str)] (c1A (s_l7Names_m N))):=
 mO (fC (jgt N) ja) func199 rfl N (.seq .no (.seq .no (.seq (.seq .no (.block (.loop joT (.seq .no (.seq (.block (.seq .no (.block (.loop jkn .no)))) .no))))) .no))) _
def jl8 :Sh:=⟨.dead::pS:: .box 2 0:: .dead:: .dead::pI::dz 21 [],[(2,false,[pI,.pv Y17,.pv Y13])]⟩
def s_l6Field_m (e:Int) (l:Z11) (d:Z6) (n:List UInt8):Option (Z2):=
 (iter (fun h (c,a,f,b,m)=>bif decide (a<(b.length:Int))then oB (idx b a) fun i=>(bif decide (i.1=c)then oB (idx b a) fun k=>(some k.2)else if fits (a+1)then h (c,(a+1),f,b,m)else none)else some ([]:List UInt8)) N (n,(0:Int),e,l,d))
theorem jhA :mK 250 (bX [.agg [pI,.pv Y17,.pv Y13],pS] [pS] (c4A (s_l6Field_m N))):=
 mO ja func250 rfl N (.seq .no (.seq (.seq .no (.block (.loop jl8 .no))) .no)) _
def jo3 :Sh:=⟨pS:: .dead:: .dead:: .own 600003 Y7 209 true::pI::dz 50 [],[]⟩
def jm6 :Sh:=⟨pS:: .dead:: .dead:: .own 600003 Y7 209 true::pI:: .own 600005 (.int .u8) 5 true::pI::dz 48 [],[]⟩
def jtK :Sh:=⟨pS:: .dead:: .dead:: .own 600003 Y7 209 true::pI:: .pv (.sl (.int .u8))::pI::dz 48 [],[]⟩
def jb3 (D:List UInt8):Option ((List Z8)):=
 (iter (fun l (w,y,m)=>bif decide (m<(w.length:Int))then iter (fun C (b,h,a,c,k)=>bif decide (a<(b.length:Int))then oB (idx b a) fun z=>(oB (jt N (z.toNat:Int)) fun G=>bif !decide (G=0)then oB (idx b a) fun A=>(oB (jt N (A.toNat:Int)) fun x=>if room c.length ([x]:List Int).length 1 then if fits (a+1)then C (b,h,(a+1),(c++([x]:List Int)),k)else none else none)else meet (fun(d:Z2×(List Z8)×Int×(List Int)×Int)=>match d with|(v,i,e,o,q)=>bif decide ((0:Int)<o.length)then if room i.length ([((bytesOf o),(i.length:Int),q,e)]:List Z8).length 40 then if fits (e+1)then l (v,(i++([((bytesOf o),(i.length:Int),q,e)]:List Z8)),(e+1))else none else none else if fits (e+1)then l (v,i,(e+1))else none) fun p=>bif decide ((12:Int)<c.length)then oB (cut c 0 12) fun B=>(p (b,h,a,B,k))else p (b,h,a,c,k))else meet (fun(d:Z2×(List Z8)×Int×(List Int)×Int)=>match d with|(r,j,f,n,u)=>bif decide ((0:Int)<n.length)then if room j.length ([((bytesOf n),(j.length:Int),u,f)]:List Z8).length 40 then if fits (f+1)then l (r,(j++([((bytesOf n),(j.length:Int),u,f)]:List Z8)),(f+1))else none else none else if fits (f+1)then l (r,j,(f+1))else none) fun t=>bif decide ((12:Int)<c.length)then oB (cut c 0 12) fun E=>(t (b,h,a,E,k))else t (b,h,a,c,k)) N (w,y,m,([]:List Int),m)else some y) N (D,([]:List Z8),(0:Int)))
theorem jsr :mK 301 (bX [pS] [.own 1 Y7 209 true] (c1A (jb3 N))):=
 mO (fC (jfG N) ja) func301 rfl N (.seq .no (.seq .no (.seq (.seq .no (.block (.loop jo3 (.seq .no (.seq (.block (.seq .no (.seq .no (.seq (.block (.loop jm6 .no)) (.meet jtK .no .no))))) .no))))) .no))) _
def jmf :Sh:=⟨.dead:: .dead:: .box 2 0:: .dead:: .dead:: .own 600005 Y15 155 true:: .own 600006 Y7 209 true::pI::dz 43 [],[(2,false,[.pv (.sl .str),.pv Y14])]⟩
def jbY (j:List Z2) (k:List Z4) (n:List UInt8):Option (Z7):=
 (oB (jb3 N n) fun q=>iter (fun e (d,b,a,c,h)=>bif decide (a<(b.length:Int))then oB (idx b a) fun l=>(oB (jaq N l.1) fun f=>oB (idx b a) fun p=>oB (jap N c p.1) fun o=>bif !o then oB (jap N c f) fun r=>(bif !r then oB (idx b a) fun i=>(if room d.length ([(f,i.2.1)]:Z6).length 24 then if fits (a+1)then e ((d++([(f,i.2.1)]:Z6)),b,(a+1),c,h)else none else none)else if fits (a+1)then e (d,b,(a+1),c,h)else none)else if fits (a+1)then e (d,b,(a+1),c,h)else none)else some d) N (([]:Z6),q,(0:Int),j,k))
theorem jrk :mK 287 (bX [.agg [.pv (.sl .str),.pv Y14],pS] [.own 1 Y15 155 true] (c3A (jbY N))):=
 mO (fC (jsr N) (fC (jfZ N) (fC (jhP N) ja))) func287 rfl N (.seq .no (.seq .no (.seq .no (.seq (.seq .no (.block (.loop jmf .no))) .no)))) _
def jrL :Sh:=⟨.pv Y13:: .pv (.sl .str)::dz 3 (pI::dz 36 []),[]⟩
def jcC (l:Z6) (e:List Z2):Z9:=
 (iter (fun h (b,c,a)=>bif decide (a<(c.length:Int))then bif decide ((b.length:Int)<=a)then some false else(oB (idx b a) fun i=>oB (idx c a) fun k=>bif !decide (i.1=k)then some false else oB (idx b a) fun f=>oB (idx b 0) fun d=>if fits (d.2+a)then bif !decide (f.2=(d.2+a))then some false else(if fits (a+1)then h (b,c,(a+1))else none)else none)else some true) N (l,e,(0:Int)))
theorem jtg :mK 302 (bX [.pv Y13,.pv (.sl .str)] [pB] (c2A (jcC N))):=
 mO ja func302 rfl N (.seq .no (.seq (.seq .no (.block (.loop jrL .no))) .no)) _
def jlL :Sh:=⟨.dead:: .pv Y13:: .box 2 0:: .dead:: .dead::pI::pI::dz 38 [],[(2,false,[.pv (.sl .str),.pv Y14])]⟩
def jcJ (h:List Z2) (o:List Z4) (n:Z6):Option (Int):=
 (iter (fun e (d,c,a,f,b)=>bif decide (a<(b.length:Int))then oB (idx b a) fun j=>(oB (jcC N d j.1) fun m=>bif m then bif decide (c<0)then if fits (a+1)then e (d,a,(a+1),f,b)else none else(oB (idx b a) fun l=>oB (idx b c) fun i=>bif decide ((i.1.length:Int)<(l.1.length:Int))then if fits (a+1)then e (d,a,(a+1),f,b)else none else if fits (a+1)then e (d,c,(a+1),f,b)else none)else if fits (a+1)then e (d,c,(a+1),f,b)else none)else some c) N (n,((-1):Int),(0:Int),h,o))
theorem jqp :mK 288 (bX [.agg [.pv (.sl .str),.pv Y14],.pv Y13] [pI] (c3A (jcJ N))):=
 mO (fC (jtg N) ja) func288 rfl N (.seq .no (.seq .no (.seq (.seq .no (.block (.loop jlL .no))) .no))) _
def jnK :Sh:=⟨.dead:: .dead:: .box 2 0:: .dead:: .dead:: .own 600005 Y15 155 true:: .pv Y13::dz 45 [],[(2,false,[.pv (.sl .str),.pv Y14])]⟩
def ja5 (f:List Z2) (h:List Z4) (p:List UInt8):Option (Z7):=
 (oB (jbY N f h p) fun r=>iter (fun k (c,a,e,b)=>bif decide ((0:Int)<a.length)then oB (jcJ N e b a) fun d=>(bif decide (d<0)then oB (idx a 0) fun i=>(if room c.length ([i]:Z6).length 24 then oB (cut a 1 (a.length:Int)) fun n=>(k ((c++([i]:Z6)),n,e,b))else none)else oB (idx b d) fun l=>oB (idx a 0) fun j=>if room c.length ([(l.2,j.2)]:Z6).length 24 then oB (idx b d) fun m=>(oB (cut a (m.1.length:Int) (a.length:Int)) fun q=>k ((c++([(l.2,j.2)]:Z6)),q,e,b))else none)else some c) N (([]:Z6),r,f,h))
theorem jiO :mK 249 (bX [.agg [.pv (.sl .str),.pv Y14],pS] [.own 1 Y15 155 true] (c3A (ja5 N))):=
 mO (fC (jrk N) (fC (jqp N) ja)) func249 rfl N (.seq .no (.seq .no (.seq .no (.seq (.block (.loop jnK .no)) .no)))) _
def jn9 :Sh:=⟨.dead:: .pv Y3::pS:: .box 3 0::dz 3 (.pv (.sl .str)::pI::dz 31 []),[(3,false,[.pv (.sl .str),.pv Y14])]⟩
def jrT :Sh:=⟨.dead:: .pv Y3::pS:: .box 3 0::dz 3 (.pv (.sl .str)::pI:: .own 600009 Y15 155 true::pI::dz 29 []),[(3,false,[.pv (.sl .str),.pv Y14])]⟩
def s_l7Terms_m (r:List Z2) (t:List Z4) (w:List Z0) (u:List UInt8):Option ((List Z2)):=
 (iter (fun x (e,l,q,b,o,p)=>bif decide (b<(e.length:Int))then oB (idx e b) fun c=>(oB (s_l6Field_m N c.1 c.2.1 c.2.2 l) fun z=>oB (ja5 N o p z) fun B=>iter (fun v (i,k,j,f,h,a,n,m)=>bif decide (a<(h.length:Int))then oB (idx h a) fun A=>(oB (s_l7Put_m N j A.1) fun y=>if fits (a+1)then v (i,k,y,f,h,(a+1),n,m)else none)else if fits (f+1)then x (i,k,j,(f+1),n,m)else none) N (e,l,q,b,B,(0:Int),o,p))else some q) N (w,u,([]:List Z2),(0:Int),r,t))
theorem jqQ :mK 200 (bX [.agg [.pv (.sl .str),.pv Y14],.pv Y3,pS] [.pv (.sl .str)] (c4A (s_l7Terms_m N))):=
 mO (fC (jhA N) (fC (jiO N) (fC (jgt N) ja))) func200 rfl N (.seq .no (.seq .no (.seq (.seq .no (.block (.loop jn9 (.seq .no (.seq (.block (.seq .no (.seq .no (.block (.loop jrT .no))))) .no))))) .no))) _
def jnY :Sh:=⟨dz 3 (pS::dz 5 (.own 600009 tI 3 true:: .own 600010 Y15 155 true::pI::dz 28 [])),[]⟩
def s_l7Post_m (h:List Z2) (l:List Z4) (j:Int) (r:Z11) (i:Z6) (o:List UInt8) (k:List UInt8):Option ((List Int)):=
 (oB (s_l6Field_m N j r i o) fun p=>oB (ja5 N h l p) fun q=>iter (fun e (d,c,b,a)=>bif decide (a<(b.length:Int))then oB (idx b a) fun m=>(bif decide (m.1=d)then oB (idx b a) fun f=>(if room c.length ([f.2]:List Int).length 8 then if fits (a+1)then e (d,(c++([f.2]:List Int)),b,(a+1))else none else none)else if fits (a+1)then e (d,c,b,(a+1))else none)else some c) N (k,([]:List Int),q,(0:Int)))
theorem js6 :mK 251 (bX [.agg [.pv (.sl .str),.pv Y14],.agg [pI,.pv Y17,.pv Y13],pS,pS] [.own 1 tI 3 true] (c7A (s_l7Post_m N))):=
 mO (fC (jhA N) (fC (jiO N) ja)) func251 rfl N (.seq .no (.seq .no (.seq .no (.seq (.seq .no (.block (.loop jnY .no))) .no)))) _
def jkw :Sh:=⟨.dead:: .pv Y3::pS::pS:: .box 4 0::dz 3 (.box 8 0:: .box 9 0::pI::dz 34 []),[(4,false,[.pv (.sl .str),.pv Y14]),(8,false,[pS,pS,.nils]),(9,false,[pS,pS,.own 700902 Y12 217 true])]⟩
def s_l7Entry_m (t:List Z2) (w:List Z4) (v:List Z0) (o:List UInt8) (n:List UInt8):Option Z1:=
 (iter (fun r (b,f,l,a,j,k,m,p,e,i,c)=>bif decide (a<(b.length:Int))then oB (idx b a) fun d=>(oB (s_l7Post_m N j k d.1 d.2.1 d.2.2 f l) fun h=>bif decide ((0:Int)<h.length)then oB (idx b a) fun q=>(if room c.length ([(q.1,h)]:Z5).length 32 then if fits (a+1)then r (b,f,l,(a+1),j,k,m,p,e,i,(c++([(q.1,h)]:Z5)))else none else none)else if fits (a+1)then r (b,f,l,(a+1),j,k,m,p,e,i,c)else none)else some (e,i,c)) N (v,o,n,(0:Int),t,w,([]:List UInt8),([]:List UInt8),o,n,([]:Z5)))
theorem jtr :mK 201 (bX [.agg [.pv (.sl .str),.pv Y14],.pv Y3,pS,pS] [.agg [pS,pS,.own 1 Y12 217 true]] (c5A (s_l7Entry_m N))):=
 mO (fC (js6 N) ja) func201 rfl N (.seq .no (.seq .no (.seq (.seq .no (.block (.loop jkw .no))) .no))) _
def s_l7CopyDoc_m (N:Nat) (c:Int) (b:Z11) (a:Z6):Option Z0:=
 (if room ([]:Z11).length b.length 32 then if room ([]:Z6).length a.length 24 then some (c,(([]:Z11)++b),(([]:Z6)++a))else none else none)
theorem jtC :mK 202 (bX [.agg [pI,.pv Y17,.pv Y13]] [.agg [pI,.own 1 Y18 134 true,.own 2 Y15 136 true]] (c3A (s_l7CopyDoc_m N))):=
 mO ja func202 rfl N .no _
def jn8 :Sh:=⟨.dead:: .pv Y3:: .box 2 0:: .dead:: .box 4 0:: .box 5 0:: .pv (.sl .str)::pI::dz 58 [],[(2,false,[.pv (.sl .str),.pv Y14]),(4,false,[.nils,.nils]),(5,false,[.nils,.own 700501 Y6 132 true])]⟩
def jpr :Sh:=⟨.dead:: .pv Y3:: .box 2 0:: .dead:: .box 4 0:: .box 5 0:: .pv (.sl .str)::pI:: .pv (.sl .str)::pI::dz 56 [],[(2,false,[.pv (.sl .str),.pv Y14]),(4,false,[.nils,.nils]),(5,false,[.nils,.own 700501 Y6 132 true])]⟩
def jn0 :Sh:=⟨.dead:: .pv Y3:: .dead:: .dead:: .box 4 0:: .box 5 0::dz 4 (pI::dz 55 []),[(4,false,[.nils,.nils]),(5,false,[.own 700500 Y4 81 true,.own 700501 Y6 132 true])]⟩
def s_l7Of_m (z:List Z2) (K:List Z4) (t:List Z0):Option ((List Z0)×(List Z1)):=
 (oB (s_l7Names_m N t) fun G=>iter (fun E (n,l,h,w,x,r)=>bif decide (h<(l.length:Int))then oB (idx l h) fun B=>(oB (s_l7Terms_m N w x n B) fun I=>iter (fun C (e,p,c,m,d,o,k,q)=>bif decide (d<(m.length:Int))then oB (idx p c) fun H=>(oB (idx m d) fun D=>oB (s_l7Entry_m N o k e H D) fun v=>if room q.length ([v]:List Z1).length 56 then if fits (d+1)then C (e,p,c,m,(d+1),o,k,(q++([v]:List Z1)))else none else none)else if fits (c+1)then E (e,p,(c+1),o,k,q)else none) N (n,l,h,I,(0:Int),w,x,r))else iter (fun A (i,b,j,u)=>bif decide (b<(i.length:Int))then oB (idx i b) fun f=>(oB (s_l7CopyDoc_m N f.1 f.2.1 f.2.2) fun y=>if room j.length ([y]:List Z0).length 56 then if fits (b+1)then A (i,(b+1),(j++([y]:List Z0)),u)else none else none)else some (j,u)) N (n,(0:Int),([]:List Z0),r)) N (t,G,(0:Int),z,K,([]:List Z1)))
theorem jmU :mK 130 (bX [.agg [.pv (.sl .str),.pv Y14],.pv Y3] [.agg [.own 1 Y4 81 true,.own 2 Y6 132 true]] (c3A (s_l7Of_m N))):=
 mO (fC (jlz N) (fC (jqQ N) (fC (jtr N) (fC (jtC N) ja)))) func130 rfl N (.seq .no (.seq .no (.seq .no (.seq (.seq .no (.block (.loop jn8 (.seq .no (.seq (.block (.seq .no (.seq .no (.block (.loop jpr .no))))) .no))))) (.seq (.seq .no (.block (.loop jn0 .no))) .no))))) _
def jnI :Sh:=⟨.pv Y19:: .pv Y19::dz 3 (pI::dz 20 []),[]⟩
def jb1 (e:List Int) (c:List Int):Z9:=
 (bif !decide ((e.length:Int)=(c.length:Int))then some false else iter (fun f (b,d,a)=>bif decide (a<(b.length:Int))then oB (idx b a) fun h=>(oB (idx d a) fun j=>bif !decide (h=j)then some false else if fits (a+1)then f (b,d,(a+1))else none)else some true) N (e,c,(0:Int)))
theorem jlH :mK 223 (bX [.pv Y19,.pv Y19] [pB] (c2A (jb1 N))):=
 mO ja func223 rfl N (.seq .no (.seq .no (.seq (.seq .no (.block (.loop jnI .no))) .no))) _
def jnx :Sh:=⟨.dead:: .dead:: .box 2 0:: .box 3 0:: .dead::pI::dz 57 [],[(2,false,[pS,pS,.pv Y11]),(3,false,[pS,pS,.pv Y11])]⟩
def jbQ (j:List UInt8) (f:List UInt8) (e:Z5) (d:List UInt8) (h:List UInt8) (i:Z5):Z9:=
 (bif !decide (j=d)then some false else bif !decide (f=h)then some false else bif !decide ((e.length:Int)=(i.length:Int))then some false else iter (fun q (a,v,l,b,r,o,c)=>bif decide (a<(b.length:Int))then oB (idx b a) fun m=>(oB (idx c a) fun t=>bif !decide (m.1=t.1)then some false else oB (idx b a) fun p=>oB (idx c a) fun k=>oB (jb1 N p.2 k.2) fun u=>bif !u then some false else if fits (a+1)then q ((a+1),v,l,b,r,o,c)else none)else some true) N ((0:Int),j,f,e,d,h,i))
theorem jtG :mK 167 (bX [.agg [pS,pS,.pv Y11],.agg [pS,pS,.pv Y11]] [pB] (c6A (jbQ N))):=
 mO (fC (jlH N) ja) func167 rfl N (.seq .no (.seq .no (.seq (.seq .no (.block (.loop jnx .no))) .no))) _
def jrW :Sh:=⟨dz 3 (.box 3 0:: .dead:: .box 5 0::pI::dz 39 []),[(3,false,[.pv Y3,.pv Y5]),(5,false,[.own 700500 Y4 81 true,.own 700501 Y6 132 true])]⟩
def jcR (h:List Z2) (k:List Z4) (d:List Z0) (j:List Z1):Z9:=
 (oB (jcw N h k) fun p=>bif !p then some false else oB (jbU N d) fun q=>bif !q then some false else oB (s_l7Of_m N h k d) fun e=>bif !decide ((e.2.length:Int)=(j.length:Int))then some false else iter (fun o (a,n,i,l,c)=>bif decide (a<(c.length:Int))then oB (idx c a) fun b=>(oB (idx i a) fun f=>oB (jbQ N b.1 b.2.1 b.2.2 f.1 f.2.1 f.2.2) fun r=>bif !r then some false else if fits (a+1)then o ((a+1),n,i,l,c)else none)else some true) N ((0:Int),d,j,e.1,e.2))
theorem jpm :mK 93 (bX [.agg [.pv (.sl .str),.pv Y14],.agg [.pv Y3,.pv Y5]] [pB] (c4A (jcR N))):=
 mO (fC (jtf N) (fC (jpx N) (fC (jmU N) (fC (jtG N) ja)))) func93 rfl N (.seq .no (.seq .no (.seq .no (.seq .no (.seq (.seq .no (.block (.loop jrW .no))) .no))))) _
def jCI :Sh:=⟨.pv Y19:: .dead:: .dead::pI::dz 31 [],[]⟩
def jx3 (j:List Int):Z9:=
 (iter (fun c (b,a)=>bif decide (a<(b.length:Int))then oB (idx b a) fun e=>(oB (jJ N e 0 999999999) fun i=>bif !i then some false else bif decide ((0:Int)<a)then oB (idx b a) fun h=>(if fits (a-1)then oB (idx b (a-1)) fun d=>(bif decide (h<=d)then some false else if fits (a+1)then c (b,(a+1))else none)else none)else if fits (a+1)then c (b,(a+1))else none)else some (decide ((b.length:Int)<=60))) N (j,(0:Int)))
theorem jC9 :mK 94 (bX [.pv Y19] [pB] (c1A (jx3 N))):=
 mO (fC (jcL N) ja) func94 rfl N (.seq .no (.seq (.seq .no (.block (.loop jCI .no))) .no)) _
def jA0 :Sh:=⟨.dead::pI:: .box 2 0:: .dead:: .box 4 0::pI::dz 21 [],[(2,false,[.pv Y3,.pv Y5]),(4,false,[pI,.nils,.nils])]⟩
def s_l12Doc_m (f:List Z0) (l:List Z1) (m:Int):Option Z0:=
 (iter (fun i (d,a,b,h,e)=>bif decide (a<(b.length:Int))then oB (idx b a) fun j=>(bif decide (j.1=d)then oB (idx b a) fun c=>(some (c.1,c.2.1,c.2.2))else if fits (a+1)then i (d,(a+1),b,h,e)else none)else some (0,([]:Z11),([]:Z6))) N (m,(0:Int),f,l,(0:Int)))
theorem jDn :mK 95 (bX [.agg [.pv Y3,.pv Y5],pI] [.agg [pI,.pv Y17,.pv Y13]] (c3A (s_l12Doc_m N))):=
 mO ja func95 rfl N (.seq .no (.seq (.seq .no (.block (.loop jA0 .no))) .no)) _
def jJe :Sh:=⟨.pv Y19::pI::dz 3 (pI::dz 12 []),[]⟩
def s_l8Has_m (i:List Int) (d:Int):Z9:=
 (iter (fun e (b,c,a)=>bif decide (a<(b.length:Int))then oB (idx b a) fun f=>(bif decide (f=c)then some true else if fits (a+1)then e (b,c,(a+1))else none)else some false) N (i,d,(0:Int)))
theorem jIb :mK 225 (bX [.pv Y19,pI] [pB] (c2A (s_l8Has_m N))):=
 mO ja func225 rfl N (.seq .no (.seq (.seq .no (.block (.loop jJe .no))) .no)) _
def s_l18Dead_m (d:List Z0) (e:List Z1) (a:List Int) (c:Int):Z9:=
 (oB (s_l8Has_m N a c) fun b=>some b)
theorem jIy :mK 169 (bX [.agg [.pv Y3,.pv Y5,.pv Y19],pI] [pB] (c4A (s_l18Dead_m N))):=
 mO (fC (jIb N) ja) func169 rfl N .no _
def jIl :Sh:=⟨.pv Y3:: .dead:: .dead:: .box 3 0:: .dead::pI::dz 32 [],[(3,false,[pI,.pv Y17,.pv Y13])]⟩
def s_l18Put_m (q:List Z0) (n:Int) (t:Z11) (m:Z6):Z13:=
 (iter (fun r (a,b,d,j,f)=>bif decide (b<(a.length:Int))then oB (idx a b) fun o=>(bif decide (o.1<d)then if fits (b+1)then r (a,(b+1),d,j,f)else none else oB (cut a 0 b) fun c=>if room ([]:List Z0).length c.length 56 then oB (s_l7CopyDoc_m N d j f) fun h=>(if room (([]:List Z0)++c).length ([h]:List Z0).length 56 then oB (cut a b (a.length:Int)) fun k=>(if room ((([]:List Z0)++c)++([h]:List Z0)).length k.length 56 then some (((([]:List Z0)++c)++([h]:List Z0))++k)else none)else none)else none)else oB (cut a 0 b) fun e=>if room ([]:List Z0).length e.length 56 then oB (s_l7CopyDoc_m N d j f) fun i=>(if room (([]:List Z0)++e).length ([i]:List Z0).length 56 then oB (cut a b (a.length:Int)) fun l=>(if room ((([]:List Z0)++e)++([i]:List Z0)).length l.length 56 then some (((([]:List Z0)++e)++([i]:List Z0))++l)else none)else none)else none) N (q,(0:Int),n,t,m))
theorem jJy :mK 170 (bX [.pv Y3,.agg [pI,.pv Y17,.pv Y13]] [.own 1 Y4 81 false] (c4A (s_l18Put_m N))):=
 mO (fC (jtC N) ja) func170 rfl N (.seq .no (.seq .no (.seq (.block (.loop jIl .no)) .no))) _
def jI2 :Sh:=⟨.dead:: .box 1 0:: .dead:: .own 600003 Y4 81 false::pI::dz 45 [],[(1,false,[.pv (.sl .str),.pv Y14,.pv Y0])]⟩
def jJx :Sh:=⟨.dead:: .box 1 0:: .dead:: .own 600003 Y4 81 false::pI::pI::dz 44 [],[(1,false,[.pv (.sl .str),.pv Y14,.pv Y0])]⟩
def s_l18Docs_m (p:List Z2) (t:List Z4) (o:List Z3):Z13:=
 (iter (fun v (n,k,u,r,l)=>bif decide (k<(l.length:Int))then iter (fun m (f,a,c,e,j,b)=>oB (idx b a) fun q=>bif decide (c<(q.1.1.length:Int))then oB (idx b a) fun w=>(oB (idx w.1.1 c) fun d=>oB (idx b a) fun h=>oB (s_l18Dead_m N h.1.1 h.1.2 h.2 d.1) fun x=>bif !x then oB (s_l18Put_m N f d.1 d.2.1 d.2.2) fun y=>(if fits (c+1)then m (y,a,(c+1),e,j,b)else none)else if fits (c+1)then m (f,a,(c+1),e,j,b)else none)else if fits (a+1)then v (f,(a+1),e,j,b)else none) N (n,k,(0:Int),u,r,l)else some n) N (([]:List Z0),(0:Int),p,t,o))
theorem jH3 :mK 97 (bX [.agg [.pv (.sl .str),.pv Y14,.pv Y0]] [.own 1 Y4 81 false] (c3A (s_l18Docs_m N))):=
 mO (fC (jIy N) (fC (jJy N) ja)) func97 rfl N (.seq .no (.seq .no (.seq (.seq .no (.block (.loop jI2 (.seq .no (.seq (.block (.seq .no (.block (.loop jJx .no)))) .no))))) .no))) _
def jIz :Sh:=⟨.dead:: .box 1 0:: .dead::pI::dz 67 [],[(1,false,[.pv (.sl .str),.pv Y14,.pv Y0])]⟩
def jJd :Sh:=⟨.dead:: .box 1 0:: .dead::pI:: .box 4 0::pI::dz 22 (pB::dz 9 (pB::dz 32 [])),[(1,false,[.pv (.sl .str),.pv Y14,.pv Y0]),(4,false,[.pv Y3,.pv Y5,.pv Y19])]⟩
def s_l18Ok_m (r:List Z2) (v:List Z4) (q:List Z3):Z9:=
 (iter (fun w (f,d,c,b)=>bif decide (f<(b.length:Int))then oB (idx b f) fun a=>(oB (jcR N d c a.1.1 a.1.2) fun z=>bif !z then some false else oB (jx3 N a.2) fun p=>bif !p then some false else bif decide ((a.1.1.length:Int)<=(a.2.length:Int))then some false else iter (fun u (j,e,t,B,k,o,m,n,l,h)=>bif decide (e<(h.length:Int))then oB (idx h e) fun A=>(oB (s_l12Doc_m N n l A) fun y=>bif decide (y.1=0)then some false else if fits (e+1)then u (j,(e+1),t,B,k,o,m,n,l,h)else none)else if fits (j+1)then w ((j+1),k,o,m)else none) N (f,(0:Int),(!p),(decide ((a.1.1.length:Int)<=(a.2.length:Int))),d,c,b,a.1.1,a.1.2,a.2))else oB (jcw N d c) fun D=>bif D then bif decide ((b.length:Int)<=5)then oB (s_l18Docs_m N d c b) fun x=>(oB (jbU N x) fun C=>some C)else(some false)else some false) N ((0:Int),r,v,q))
theorem jIW :mK 41 (bX [.agg [.pv (.sl .str),.pv Y14,.pv Y0]] [pB] (c3A (s_l18Ok_m N))):=
 mO (fC (jpm N) (fC (jC9 N) (fC (jDn N) (fC (jtf N) (fC (jH3 N) (fC (jpx N) ja)))))) func41 rfl N (.seq .no (.seq (.seq .no (.block (.loop jIz (.seq .no (.seq (.block (.seq .no (.seq .no (.seq .no (.block (.loop jJd .no)))))) .no))))) .no)) _
def jMc :Sh:=⟨.pv Y11:: .dead:: .dead:: .own 600003 Y12 217 true::pI::dz 24 [],[]⟩
def s_l7CopyPosts_m (i:Z5):Option (Z12):=
 (iter (fun f (b,d,a)=>bif decide (a<(b.length:Int))then oB (idx b a) fun e=>(oB (idx b a) fun c=>if room ([]:List Int).length c.2.length 8 then if room d.length ([(e.1,(([]:List Int)++c.2))]:Z5).length 32 then if fits (a+1)then f (b,(d++([(e.1,(([]:List Int)++c.2))]:Z5)),(a+1))else none else none else none)else some d) N (i,([]:Z5),(0:Int)))
theorem jLV :mK 218 (bX [.pv Y11] [.own 1 Y12 217 true] (c1A (s_l7CopyPosts_m N))):=
 mO ja func218 rfl N (.seq .no (.seq .no (.seq (.seq .no (.block (.loop jMc .no))) .no))) _
def jLx :Sh:=⟨.dead:: .box 1 0:: .box 2 0:: .box 3 0::pI::dz 47 [],[(1,false,[.pv Y3,.pv Y5]),(2,false,[.nils,.nils]),(3,false,[.own 700300 Y4 81 true,.nils])]⟩
def jKX :Sh:=⟨.dead:: .box 1 0:: .box 2 0:: .box 3 0:: .dead::pI::dz 46 [],[(1,false,[.pv Y3,.pv Y5]),(2,false,[.nils,.nils]),(3,false,[.own 700300 Y4 81 true,.own 700301 Y6 132 true])]⟩
def s_l18CopySeg_m (q:List Z0) (t:List Z1):Option ((List Z0)×(List Z1)):=
 (iter (fun r (b,c,l,j)=>bif decide (b<(c.length:Int))then oB (idx c b) fun f=>(oB (s_l7CopyDoc_m N f.1 f.2.1 f.2.2) fun m=>if room j.length ([m]:List Z0).length 56 then if fits (b+1)then r ((b+1),c,l,(j++([m]:List Z0)))else none else none)else iter (fun p (d,o,i,k,e)=>bif decide (d<(i.length:Int))then oB (idx i d) fun a=>(oB (s_l7CopyPosts_m N a.2.2) fun n=>if room e.length ([(a.1,a.2.1,n)]:List Z1).length 56 then if fits (d+1)then p ((d+1),o,i,k,(e++([(a.1,a.2.1,n)]:List Z1)))else none else none)else some (k,e)) N ((0:Int),c,l,j,([]:List Z1))) N ((0:Int),q,t,([]:List Z0)))
theorem jK3 :mK 164 (bX [.agg [.pv Y3,.pv Y5]] [.agg [.own 1 Y4 81 true,.own 2 Y6 132 true]] (c2A (s_l18CopySeg_m N))):=
 mO (fC (jtC N) (fC (jLV N) ja)) func164 rfl N (.seq .no (.seq .no (.seq (.seq .no (.block (.loop jLx .no))) (.seq (.seq .no (.block (.loop jKX .no))) .no)))) _
def jMK :Sh:=⟨.dead:: .box 1 0:: .box 2 0:: .box 3 0::pI::dz 33 [],[(1,false,[.pv (.sl .str),.pv Y14,.pv Y0]),(2,false,[.nils,.nils,.nils]),(3,false,[.own 700300 .str 9 true,.own 700301 Y16 143 true,.own 700302 Y1 33 true])]⟩
def s_l18Copy_m (h:List Z2) (e:List Z4) (m:List Z3):Option ((List Z2)×(List Z4)×(List Z3)):=
 (oB (s_l18CopyConf_m N h e) fun j=>iter (fun o (a,n,q,b,l,f,c)=>bif decide (a<(b.length:Int))then oB (idx b a) fun i=>(oB (s_l18CopySeg_m N i.1.1 i.1.2) fun k=>oB (idx b a) fun d=>if room ([]:List Int).length d.2.length 8 then if room c.length ([(k,(([]:List Int)++d.2))]:List Z3).length 72 then if fits (a+1)then o ((a+1),n,q,b,l,f,(c++([(k,(([]:List Int)++d.2))]:List Z3)))else none else none else none)else some (l,f,c)) N ((0:Int),h,e,m,j.1,j.2,([]:List Z3)))
theorem jL0 :mK 89 (bX [.agg [.pv (.sl .str),.pv Y14,.pv Y0]] [.agg [.own 1 .str 9 true,.own 2 Y16 143 true,.own 3 Y1 33 true]] (c3A (s_l18Copy_m N))):=
 mO (fC (jMp N) (fC (jK3 N) ja)) func89 rfl N (.seq .no (.seq .no (.seq (.seq .no (.block (.loop jMK .no))) .no))) _
def jLU :Sh:=⟨.pv Y19::pI::dz 3 (pI::dz 42 []),[]⟩
def s_l8Put_m (t:List Int) (m:Int):Option ((List Int)):=
 (iter (fun q (a,b,c)=>bif decide (c<(a.length:Int))then oB (idx a c) fun n=>(bif decide (n<b)then if fits (c+1)then q (a,b,(c+1))else none else bif decide (c<(a.length:Int))then oB (idx a c) fun r=>(bif decide (r=b)then some a else oB (cut a 0 c) fun e=>if room ([]:List Int).length e.length 8 then if room (([]:List Int)++e).length ([b]:List Int).length 8 then oB (cut a c (a.length:Int)) fun j=>(if room ((([]:List Int)++e)++([b]:List Int)).length j.length 8 then some (((([]:List Int)++e)++([b]:List Int))++j)else none)else none else none)else oB (cut a 0 c) fun f=>if room ([]:List Int).length f.length 8 then if room (([]:List Int)++f).length ([b]:List Int).length 8 then oB (cut a c (a.length:Int)) fun k=>(if room ((([]:List Int)++f)++([b]:List Int)).length k.length 8 then some (((([]:List Int)++f)++([b]:List Int))++k)else none)else none else none)else bif decide (c<(a.length:Int))then oB (idx a c) fun p=>(bif decide (p=b)then some a else oB (cut a 0 c) fun d=>if room ([]:List Int).length d.length 8 then if room (([]:List Int)++d).length ([b]:List Int).length 8 then oB (cut a c (a.length:Int)) fun i=>(if room ((([]:List Int)++d)++([b]:List Int)).length i.length 8 then some (((([]:List Int)++d)++([b]:List Int))++i)else none)else none else none)else oB (cut a 0 c) fun h=>if room ([]:List Int).length h.length 8 then if room (([]:List Int)++h).length ([b]:List Int).length 8 then oB (cut a c (a.length:Int)) fun l=>(if room ((([]:List Int)++h)++([b]:List Int)).length l.length 8 then some (((([]:List Int)++h)++([b]:List Int))++l)else none)else none else none) N (t,m,(0:Int)))
theorem jLS :mK 245 (bX [.pv Y19,pI] [.pv Y19] (c2A (s_l8Put_m N))):=
 mO ja func245 rfl N (.seq .no (.seq .no (.seq (.block (.loop jLU .no)) .no))) _
def jL4 :Sh:=⟨.dead::pI:: .box 2 0:: .dead:: .box 4 0:: .dead:: .box 6 0::pB::pI::dz 43 [],[(2,false,[.pv (.sl .str),.pv Y14,.pv Y0]),(4,false,[.nils,.nils,.nils]),(6,false,[.pv (.sl .str),.pv Y14,.own 700602 Y1 33 false])]⟩
def jLD :Sh:=⟨.dead::pI:: .box 2 0:: .dead:: .box 4 0:: .dead:: .box 6 0::pB::pI:: .box 9 0::dz 42 [],[(2,false,[.pv (.sl .str),.pv Y14,.pv Y0]),(4,false,[.nils,.nils,.nils]),(6,false,[.pv (.sl .str),.pv Y14,.own 700602 Y1 33 false]),(9,false,[.pv Y3,.pv Y5,.pv Y19])]⟩
def s_l18Gone_m (o:List Z2) (q:List Z4) (x:List Z3) (y:Int):Z14:=
 (iter (fun E (b,m,c,l,k,d,h,e,f)=>bif decide (c<(d.length:Int))then oB (idx d c) fun a=>(meet (fun(j:Int×Bool×Int×(List Z2)×(List Z4)×(List Z3)×(List Z2)×(List Z4)×(List Z3)×(List Z0)×(List Z1)×(List Int))=>match j with|(C,v,t,w,D,A,B,z,u,r,n,p)=>if room u.length ([((r,n),p)]:List Z3).length 72 then if fits (t+1)then E (C,v,(t+1),w,D,A,B,z,(u++([((r,n),p)]:List Z3)))else none else none) fun i=>oB (s_l12Doc_m N a.1.1 a.1.2 b) fun H=>bif !decide (H.1=0)then oB (s_l18Dead_m N a.1.1 a.1.2 a.2 b) fun I=>(bif !I then if room ([]:List Int).length a.2.length 8 then oB (s_l8Put_m N (([]:List Int)++a.2) b) fun G=>(i (b,true,c,l,k,d,h,e,f,a.1.1,a.1.2,G))else none else i (b,m,c,l,k,d,h,e,f,a.1.1,a.1.2,a.2))else i (b,m,c,l,k,d,h,e,f,a.1.1,a.1.2,a.2))else some (h,e,f,m)) N (y,false,(0:Int),o,q,x,o,q,([]:List Z3)))
theorem jLr :mK 191 (bX [.agg [.pv (.sl .str),.pv Y14,.pv Y0],pI] [.tup [.agg [.pv (.sl .str),.pv Y14,.own 1 Y1 33 false],pB]] (c4A (s_l18Gone_m N))):=
 mO (fC (jDn N) (fC (jIy N) (fC (jLS N) ja))) func191 rfl N (.seq .no (.seq .no (.seq .no (.seq (.seq .no (.block (.loop jL4 (.seq .no (.seq (.block (.seq .no (.meet jLD .no .no))) .no))))) .no)))) _
def jL1 :Sh:=⟨.dead:: .box 1 0:: .box 2 0:: .box 3 0::pI::dz 37 [],[(1,false,[.pv (.sl .str),.pv Y14,.pv Y0]),(2,false,[.nils,.nils,.nils]),(3,false,[.pv (.sl .str),.pv Y14,.own 700302 Y1 33 false])]⟩
def s_l18Full_m (i:List Z2) (f:List Z4) (m:List Z3):Option ((List Z2)×(List Z4)×(List Z3)):=
 (iter (fun k (a,j,l,b,e,d,c)=>bif decide (a<(b.length:Int))then oB (idx b a) fun n=>(oB (idx b a) fun p=>bif decide ((n.2.length:Int)<(p.1.1.length:Int))then oB (idx b a) fun h=>(if room c.length ([h]:List Z3).length 72 then if fits (a+1)then k ((a+1),j,l,b,e,d,(c++([h]:List Z3)))else none else none)else if fits (a+1)then k ((a+1),j,l,b,e,d,c)else none)else some (e,d,c)) N ((0:Int),i,f,m,i,f,([]:List Z3)))
theorem jM5 :mK 192 (bX [.agg [.pv (.sl .str),.pv Y14,.pv Y0]] [.agg [.pv (.sl .str),.pv Y14,.own 1 Y1 33 false]] (c3A (s_l18Full_m N))):=
 mO ja func192 rfl N (.seq .no (.seq .no (.seq (.seq .no (.block (.loop jL1 .no))) .no))) _
def s_IndexDrop_m (f:List Z2) (d:List Z4) (e:List Z3) (i:Int):Z14:=
 (oB (s_l18Ok_m N f d e) fun h=>bif !h then some (([]:List Z2),([]:List Z4),([]:List Z3),false)else oB (s_l18Copy_m N f d e) fun b=>oB (s_l18Gone_m N b.1 b.2.1 b.2.2 i) fun a=>oB (s_l18Full_m N a.1 a.2.1 a.2.2.1) fun c=>some (c.1,c.2.1,c.2.2,a.2.2.2))
theorem jLL :mK 121 (bX [.agg [.pv (.sl .str),.pv Y14,.pv Y0],pI] [.tup [.agg [.pv (.sl .str),.pv Y14,.own 1 Y1 33 false],pB]] (c4A (s_IndexDrop_m N))):=
 mO (fC (jIW N) (fC (jL0 N) (fC (jLr N) (fC (jM5 N) ja)))) func121 rfl N .no _
def s_IndexMerge_m (f:List Z2) (d:List Z4) (b:List Z3) (a:Int):Z14:=
 (oB (s_l18Ok_m N f d b) fun l=>bif !l then some (([]:List Z2),([]:List Z4),([]:List Z3),false)else if fits ((b.length:Int)-2)then oB (jJ N a 0 ((b.length:Int)-2)) fun m=>(bif !m then oB (s_l18Copy_m N f d b) fun h=>(some (h.1,h.2.1,h.2.2,false))else if fits (a+2)then oB (cut b a (a+2)) fun k=>(oB (s_l18Docs_m N ([]:List Z2) ([]:List Z4) k) fun n=>oB (s_l18Copy_m N f d b) fun c=>oB (cut c.2.2 0 a) fun e=>if room ([]:List Z3).length e.length 72 then oB (s_l7Of_m N f d n) fun i=>(if room (([]:List Z3)++e).length ([(i,([]:List Int))]:List Z3).length 72 then if fits (a+2)then oB (cut c.2.2 (a+2) (c.2.2.length:Int)) fun j=>(if room ((([]:List Z3)++e)++([(i,([]:List Int))]:List Z3)).length j.length 72 then some (c.1,c.2.1,(((([]:List Z3)++e)++([(i,([]:List Int))]:List Z3))++j),true)else none)else none else none)else none)else none)else none)
theorem jNO :mK 122 (bX [.agg [.pv (.sl .str),.pv Y14,.pv Y0],pI] [.tup [.agg [.own 1 .str 9 true,.own 2 Y16 143 true,.own 3 Y1 33 false],pB]] (c4A (s_IndexMerge_m N))):=
 mO (fC (jIW N) (fC (jcL N) (fC (jL0 N) (fC (jH3 N) (fC (jmU N) ja))))) func122 rfl N .no _
def s_l30Rd_of_m (b:List Z2) (d:List Int) (e:Int):Option (Z2×(List Int)×Int):=
 (oB (s_l30Rd_pick_m N (b.length:Int) d e) fun a=>oB (idx b a.1) fun c=>some (c,a.2.1,a.2.2))
theorem jt3 :mK 53 ⟨⟨[.box 900000 0,.pv (.sl .str)],[(900000,false,[.pv (.sl (.int .u8)),pI])]⟩,⟨[pS],[(900000,false,[.pv (.sl (.int .u8)),pI])]⟩,c3A (s_l30Rd_of_m N)⟩:=
 mO (fC (jtX N) ja) func53 rfl N .no _ (rs:=[900000])
def s_l30Raw_m (b:List Int) (c:Int):Option (Z2×(List Int)×Int):=
 (oB (s_l30Rd_of_m N ([([99,97,116]:List UInt8),([67,97,116,115]:List UInt8),([100,111,103]:List UInt8),([100,111,103,115]:List UInt8),([114,117,110]:List UInt8),([82,85,78,78,73,78,71]:List UInt8),([116,104,101]:List UInt8),([114,101,100]:List UInt8),([98,105,103]:List UInt8),([110,101,119,32,121,111,114,107]:List UInt8),([78,101,119,32,32,89,111,114,107]:List UInt8),([110,121]:List UInt8),([102,111,120]:List UInt8),([112,97,115,115,101,100]:List UInt8),([120,49]:List UInt8),([97,118,101,114,121,118,101,114,121,108,111,110,103,119,111,114,100]:List UInt8)]:List Z2) b c) fun a=>some (a.1,a.2.1,a.2.2))
theorem jvg :mK 286 ⟨⟨[.box 900000 0],[(900000,false,[.pv (.sl (.int .u8)),pI])]⟩,⟨[pS],[(900000,false,[.pv (.sl (.int .u8)),pI])]⟩,c2A (s_l30Raw_m N)⟩:=
 mO (fC (jt3 N) ja) func286 rfl N .no _ (rs:=[900000])
def juP :Sh:=⟨.box 900000 0:: .dead:: .dead::pS::pI::dz 15 [],[(900000,false,[.pv (.sl (.int .u8)),pI])]⟩
def s_l30Text_m (i:List Int) (j:Int):Option (Z2×(List Int)×Int):=
 (oB (s_l30Rd_pick_m N 9 i j) fun e=>iter (fun k (b,d,h,f)=>bif decide ((0:Int)<d)then oB (s_l30Raw_m N h f) fun a=>(if b.length+a.1.length<=9223372036854775807 then oB (s_l30Rd_of_m N ([([32]:List UInt8),([32]:List UInt8),([44,32]:List UInt8),([45]:List UInt8),([46,32]:List UInt8)]:List Z2) a.2.1 a.2.2) fun c=>(if(b++a.1).length+c.1.length<=9223372036854775807 then if fits (d-1)then k (((b++a.1)++c.1),(d-1),c.2.1,c.2.2)else none else none)else none)else some (b,h,f)) N (([]:List UInt8),e.1,e.2.1,e.2.2))
theorem juT :mK 246 ⟨⟨[.box 900000 0],[(900000,false,[.pv (.sl (.int .u8)),pI])]⟩,⟨[pS],[(900000,false,[.pv (.sl (.int .u8)),pI])]⟩,c2A (s_l30Text_m N)⟩:=
 mO (fC (jtX N) (fC (jvg N) (fC (jt3 N) ja))) func246 rfl N (.seq .no (.seq .no (.seq (.seq .no (.block (.loop juP .no))) .no))) _ (rs:=[900000])
def juy :Sh:=⟨.box 900000 0::dz 3 (.box 4 0:: .box 5 0::dz 48 []),[(4,false,[pI,.nils,.nils]),(5,false,[pI,.own 28 Y18 134 true,.own 39 Y15 136 true]),(900000,false,[.pv (.sl (.int .u8)),pI])]⟩
def juX :Sh:=⟨.box 900000 0::dz 3 (.box 4 0:: .box 5 0::dz 48 []),[(4,false,[pI,.nils,.nils]),(5,false,[pI,.own 28 Y18 134 true,.nils]),(900000,false,[.pv (.sl (.int .u8)),pI])]⟩
def jvb :Sh:=⟨.box 900000 0::dz 3 (.box 4 0:: .box 5 0::dz 48 []),[(4,false,[pI,.nils,.nils]),(5,false,[pI,.own 17 Y18 134 true,.nils]),(900000,false,[.pv (.sl (.int .u8)),pI])]⟩
def s_l30Doc_m (q:Int) (y:List Int) (D:Int):Option (Int×Z10×Z7×(List Int)×Int):=
 (meet (fun(b:Int×Int×Z10×(List Int)×Int)=>match b with|(w,o,k,E,z)=>meet (fun(b:Int×Int×Z10×(List Int)×Int)=>match b with|(t,m,v,B,A)=>meet (fun(b:Int×Int×Z10×Z7×(List Int)×Int)=>match b with|(H,x,r,l,G,C)=>oB (s_l30Rd_pick_m N 3 G C) fun a=>bif decide (a.1=0)then oB (s_l30Rd_pick_m N 30 a.2.1 a.2.2) fun f=>(if fits (2000+f.1)then if room l.length ([(([121,101,97,114]:List UInt8),(2000+f.1))]:Z6).length 24 then some (x,r,(l++([(([121,101,97,114]:List UInt8),(2000+f.1))]:Z6)),f.2.1,f.2.2)else none else none)else some (x,r,l,a.2.1,a.2.2)) fun u=>oB (s_l30Rd_pick_m N 3 B A) fun c=>bif decide ((0:Int)<c.1)then oB (s_l30Rd_pick_m N 4 c.2.1 c.2.2) fun i=>(if room ([]:Z6).length ([(([114,97,116,101]:List UInt8),i.1)]:Z6).length 24 then u (t,m,v,(([]:Z6)++([(([114,97,116,101]:List UInt8),i.1)]:Z6)),i.2.1,i.2.2)else none)else u (t,m,v,([]:Z6),c.2.1,c.2.2)) fun p=>oB (s_l30Rd_pick_m N 3 E z) fun d=>bif decide (d.1=0)then oB (s_l30Text_m N d.2.1 d.2.2) fun j=>(if room k.length ([(([116,105,116,108,101]:List UInt8),j.1)]:Z11).length 32 then p (w,o,(k++([(([116,105,116,108,101]:List UInt8),j.1)]:Z11)),j.2.1,j.2.2)else none)else p (w,o,k,d.2.1,d.2.2)) fun n=>oB (s_l30Rd_pick_m N 6 y D) fun e=>bif decide ((0:Int)<e.1)then oB (s_l30Text_m N e.2.1 e.2.2) fun h=>(if room ([]:Z11).length ([(([98,111,100,121]:List UInt8),h.1)]:Z11).length 32 then n (0,q,(([]:Z11)++([(([98,111,100,121]:List UInt8),h.1)]:Z11)),h.2.1,h.2.2)else none)else n (0,q,([]:Z11),e.2.1,e.2.2))
theorem jvf :mK 193 ⟨⟨[.box 900000 0,pI],[(900000,false,[.pv (.sl (.int .u8)),pI])]⟩,⟨[.agg [pI,.own 1 Y18 134 true,.own 2 Y15 136 true]],[(900000,false,[.pv (.sl (.int .u8)),pI])]⟩,c3A (s_l30Doc_m N)⟩:=
 mO (fC (jtX N) (fC (juT N) ja)) func193 rfl N (.seq .no (.seq .no (.meet jvb .no (.meet juX .no (.meet juy .no .no))))) _ (rs:=[900000])
def juU :Sh:=⟨.box 900000 0:: .dead:: .dead:: .own 600003 Y4 81 true::pI::pI::dz 19 [],[(900000,false,[.pv (.sl (.int .u8)),pI])]⟩
def s_l30Docs_m (j:List Int) (k:Int):Option ((List Z0)×(List Int)×Int):=
 (oB (s_l30Rd_pick_m N 6 j k) fun e=>iter (fun l (f,c,d,i,h)=>bif decide ((0:Int)<d)then if fits (c+1)then oB (s_l30Rd_pick_m N 3 i h) fun b=>(if fits ((c+1)+b.1)then oB (s_l30Doc_m N ((c+1)+b.1) b.2.1 b.2.2) fun a=>(if room f.length ([(a.1,a.2.1,a.2.2.1)]:List Z0).length 56 then if fits (d-1)then l ((f++([(a.1,a.2.1,a.2.2.1)]:List Z0)),((c+1)+b.1),(d-1),a.2.2.2.1,a.2.2.2.2)else none else none)else none)else none else some (f,i,h)) N (([]:List Z0),(0:Int),e.1,e.2.1,e.2.2))
theorem juO :mK 124 ⟨⟨[.box 900000 0],[(900000,false,[.pv (.sl (.int .u8)),pI])]⟩,⟨[.own 1 Y4 81 true],[(900000,false,[.pv (.sl (.int .u8)),pI])]⟩,c2A (s_l30Docs_m N)⟩:=
 mO (fC (jtX N) (fC (jvf N) ja)) func124 rfl N (.seq .no (.seq .no (.seq .no (.seq (.seq .no (.block (.loop juU .no))) .no)))) _ (rs:=[900000])
def jNS :Sh:=⟨.dead:: .pv Y3:: .box 2 0:: .dead:: .box 4 0:: .dead:: .box 6 0::pI::dz 53 [],[(2,false,[.pv (.sl .str),.pv Y14,.pv Y0]),(4,false,[.nils,.nils,.nils]),(6,false,[.pv (.sl .str),.pv Y14,.own 700602 Y1 33 false])]⟩
def s_IndexAdd_m (c:List Z2) (d:List Z4) (b:List Z3) (k:List Z0):Z14:=
 (oB (s_l18Ok_m N c d b) fun y=>bif !y then some (([]:List Z2),([]:List Z4),([]:List Z3),false)else oB (jbU N k) fun z=>bif !z then oB (s_l18Copy_m N c d b) fun n=>(some (n.1,n.2.1,n.2.2,false))else bif decide ((k.length:Int)=0)then oB (s_l18Copy_m N c d b) fun p=>(some (p.1,p.2.1,p.2.2,false))else oB (s_l18Copy_m N c d b) fun m=>iter (fun x (f,e,l,h,r,u,q,t)=>bif decide (e<(f.length:Int))then oB (idx f e) fun v=>(oB (s_l18Gone_m N u q t v.1) fun i=>if fits (e+1)then x (f,(e+1),l,h,r,i.1,i.2.1,i.2.2.1)else none)else oB (s_l18Full_m N u q t) fun a=>oB (s_l7Of_m N l h f) fun o=>if room a.2.2.length ([(o,([]:List Int))]:List Z3).length 72 then oB (s_l18Ok_m N a.1 a.2.1 (a.2.2++([(o,([]:List Int))]:List Z3))) fun A=>(bif !A then oB (s_l18Copy_m N l h r) fun j=>(some (j.1,j.2.1,j.2.2,false))else some (a.1,a.2.1,(a.2.2++([(o,([]:List Int))]:List Z3)),true))else none) N (k,(0:Int),c,d,b,m.1,m.2.1,m.2.2))
theorem jNM :mK 123 (bX [.agg [.pv (.sl .str),.pv Y14,.pv Y0],.pv Y3] [.tup [.agg [.pv (.sl .str),.pv Y14,.own 1 Y1 33 false],pB]] (c4A (s_IndexAdd_m N))):=
 mO (fC (jIW N) (fC (jpx N) (fC (jL0 N) (fC (jLr N) (fC (jM5 N) (fC (jmU N) ja)))))) func123 rfl N (.seq .no (.seq .no (.seq .no (.seq .no (.seq (.seq .no (.block (.loop jNS .no))) .no))))) _
def jOd :Sh:=⟨.box 900000 0:: .dead:: .box 2 0:: .box 3 0::pI::dz 47 [],[(2,false,[.nils,.nils,.nils]),(3,false,[.pv (.sl .str),.pv Y14,.own 700302 Y1 33 false]),(900000,false,[.pv (.sl (.int .u8)),pI])]⟩
def s_l30Index_m (t:List Int) (v:Int):Option ((List Z2)×(List Z4)×(List Z3)×(List Int)×Int):=
 (oB (s_l30Conf_m N t v) fun h=>oB (s_IndexNew_m N h.1 h.2.1) fun q=>oB (s_l30Rd_pick_m N 7 h.2.2.1 h.2.2.2) fun m=>iter (fun l (b,d,e,c,r,p)=>bif decide ((0:Int)<b)then oB (s_l30Rd_pick_m N 5 r p) fun a=>(bif decide (a.1=0)then oB (s_l30Rd_pick_m N 8 a.2.1 a.2.2) fun f=>(if fits (1+f.1)then oB (s_IndexDrop_m N d e c (1+f.1)) fun j=>(if fits (b-1)then l ((b-1),j.1,j.2.1,j.2.2.1,f.2.1,f.2.2)else none)else none)else bif decide (a.1=1)then oB (s_l30Rd_pick_m N 3 a.2.1 a.2.2) fun i=>(oB (s_IndexMerge_m N d e c i.1) fun n=>if fits (b-1)then l ((b-1),n.1,n.2.1,n.2.2.1,i.2.1,i.2.2)else none)else oB (s_l30Docs_m N a.2.1 a.2.2) fun o=>oB (s_IndexAdd_m N d e c o.1) fun k=>if fits (b-1)then l ((b-1),k.1,k.2.1,k.2.2.1,o.2.1,o.2.2)else none)else some (d,e,c,r,p)) N (m.1,q.1,q.2,([]:List Z3),m.2.1,m.2.2))
theorem jNR :mK 52 ⟨⟨[.box 900000 0],[(900000,false,[.pv (.sl (.int .u8)),pI])]⟩,⟨[.agg [.pv (.sl .str),.pv Y14,.own 1 Y1 33 false]],[(900000,false,[.pv (.sl (.int .u8)),pI])]⟩,c2A (s_l30Index_m N)⟩:=
 mO (fC (jva N) (fC (jOh N) (fC (jtX N) (fC (jLL N) (fC (jNO N) (fC (juO N) (fC (jNM N) ja))))))) func52 rfl N (.seq .no (.seq .no (.seq (.seq .no (.block (.loop jOd .no))) .no))) _ (rs:=[900000])
def s_l30Rd_one_m (b:List Int) (d:List Int) (e:Int):Option (Int×(List Int)×Int):=
 (oB (s_l30Rd_pick_m N (b.length:Int) d e) fun a=>oB (idx b a.1) fun c=>some (c,a.2.1,a.2.2))
theorem juA :mK 90 ⟨⟨[.box 900000 0,.pv Y19],[(900000,false,[.pv (.sl (.int .u8)),pI])]⟩,⟨[pI],[(900000,false,[.pv (.sl (.int .u8)),pI])]⟩,c3A (s_l30Rd_one_m N)⟩:=
 mO (fC (jtX N) ja) func90 rfl N .no _ (rs:=[900000])
def s_l30AnyIndex_m (k:List Int) (m:Int):Option ((List Z2)×(List Z4)×(List Z3)×(List Int)×Int):=
 (oB (s_l30Index_m N k m) fun d=>oB (s_l18Copy_m N d.1 d.2.1 d.2.2.1) fun a=>bif decide ((0:Int)<a.2.2.length)then oB (s_l30Rd_pick_m N (a.2.2.length:Int) d.2.2.2.1 d.2.2.2.2) fun b=>(oB (s_l30Rd_pick_m N 16 b.2.1 b.2.2) fun c=>bif decide (c.1=0)then oB (a.2.2[b.1.toNat]?) fun i=>(if 0<=b.1/\b.1<(a.2.2.length:Int)then oB (a.2.2[b.1.toNat]?) fun o=>(if b.1.toNat=b.1.toNat then oB (s_l30Rd_one_m N ([1,77]:List Int) c.2.1 c.2.2) fun e=>(if room i.2.length ([e.1]:List Int).length 8 then if 0<=b.1/\b.1<(a.2.2.length:Int)then if b.1.toNat=b.1.toNat then oB (a.2.2[b.1.toNat]?) fun l=>(some (a.1,a.2.1,(a.2.2.set b.1.toNat (l.1,(i.2++([e.1]:List Int)))),e.2.1,e.2.2))else none else none else none)else none)else none)else bif decide (c.1=1)then if 0<=b.1/\b.1<(a.2.2.length:Int)then oB (a.2.2[b.1.toNat]?) fun f=>(if room a.2.2.length ([f]:List Z3).length 72 then some (a.1,a.2.1,(a.2.2++([f]:List Z3)),c.2.1,c.2.2)else none)else none else bif decide (c.1=2)then oB (a.2.2[b.1.toNat]?) fun h=>(if 0<=b.1/\b.1<(a.2.2.length:Int)then oB (a.2.2[b.1.toNat]?) fun n=>(if b.1.toNat=b.1.toNat then if room h.1.2.length ([(([]:List UInt8),([]:List UInt8),([]:Z5))]:List Z1).length 56 then if 0<=b.1/\b.1<(a.2.2.length:Int)then if b.1.toNat=b.1.toNat then oB (a.2.2[b.1.toNat]?) fun j=>(some (a.1,a.2.1,(a.2.2.set b.1.toNat ((j.1.1,(h.1.2++([(([]:List UInt8),([]:List UInt8),([]:Z5))]:List Z1))),j.2)),c.2.1,c.2.2))else none else none else none else none)else none)else some (a.1,a.2.1,a.2.2,c.2.1,c.2.2))else some (a.1,a.2.1,a.2.2,d.2.2.2.1,d.2.2.2.2))
theorem jNZ :mK 37 ⟨⟨[.box 900000 0],[(900000,false,[.pv (.sl (.int .u8)),pI])]⟩,⟨[.agg [.own 1 .str 9 true,.own 2 Y16 143 true,.own 3 Y1 33 false]],[(900000,false,[.pv (.sl (.int .u8)),pI])]⟩,c2A (s_l30AnyIndex_m N)⟩:=
 mO (fC (jNR N) (fC (jL0 N) (fC (jtX N) (fC (juA N) ja)))) func37 rfl N (.seq .no (.seq .no (.seq (.seq .no (.cond (.seq .no (.seq .no (.block (.seq .no (.cond (.touch [.outs 9 4 [(2,200,3)]]) (.seq .no (.cond (.touch [.thaw 3 2]) (.seq .no (.cond (.touch [.outs 9 4 [(1,201,132)]]) .no))))))))) .no)) .no))) _ (wr:=[34,47,62,63]) (rs:=[900000]) (dw:=[7,62])
def s_DrawLivePut_m (e:List Int):Option ((List Z2)×(List Z4)×(List Z0)×(List Z1)×(List Int)):=
 (oB (s_l30Open_m N e) fun c=>oB (s_l30AnyIndex_m N c.1 c.2) fun a=>bif decide ((a.2.2.1.length:Int)=0)then some (a.1,a.2.1,([]:List Z0),([]:List Z1),([]:List Int))else oB (s_l30Rd_pick_m N (a.2.2.1.length:Int) a.2.2.2.1 a.2.2.2.2) fun d=>oB (idx a.2.2.1 d.1) fun b=>some (a.1,a.2.1,b.1.1,b.1.2,b.2))
theorem jXU :mK 8 (bX [.pv (.sl (.int .u8))] [.tup [.agg [.own 1 .str 9 true,.own 2 Y16 143 true],.agg [.pv Y3,.pv Y5,.pv Y19]]] (c1A (s_DrawLivePut_m N))):=
 mO (fC (juQ N) (fC (jNZ N) (fC (jtX N) ja))) func8 rfl N .no _
def jaw (N:Nat) (a:Int):Z9:=
 (bif decide ((97:Int)<=a)then bif decide (a<=122)then some true else(bif decide ((48:Int)<=a)then some (decide (a<=57))else some false)else bif decide ((48:Int)<=a)then some (decide (a<=57))else some false)
theorem jeK :mK 151 (bX [.pv (.int .u8)] [pB] (c1A (jaw N))):=
 mO ja func151 rfl N .no _
def jm (N:Nat) (a:Int) (b:Int) (c:Int):Z9:=
 (bif decide (b<=a)then some (decide (a<=c))else some false)
theorem jY :mK 101 (bX [pI,pI,pI] [pB] (c3A (jm N))):=
 mO ja func101 rfl N .no _
def jqW :Sh:=⟨pS::dz 4 (pI::pI::dz 11 []),[]⟩
def jO (c:List UInt8):Z9:=
 (iter (fun f (b,d,a)=>bif decide (a<d)then oB (idx b a) fun e=>(oB (jaw N (e.toNat:Int)) fun i=>bif !i then some false else if fits (a+1)then f (b,d,(a+1))else none)else oB (jm N (b.length:Int) 1 12) fun j=>some j) N (c,(c.length:Int),(0:Int)))
theorem jcM :mK 77 (bX [pS] [pB] (c1A (jO N))):=
 mO (fC (jeK N) (fC (jY N) ja)) func77 rfl N (.seq .no (.seq (.seq .no (.block (.loop jqW .no))) .no)) _
def jmc :Sh:=⟨.pv (.sl .str)::dz 4 (.pv (.sl .str)::pI::pI::dz 21 []),[]⟩
def jb2 (d:List Z2):Z9:=
 (iter (fun f (c,b,e,a)=>bif decide (a<e)then oB (idx b a) fun h=>(oB (jO N h) fun k=>bif !k then some false else bif decide ((0:Int)<a)then if fits (a-1)then oB (idx c (a-1)) fun j=>(bif !Op.bytesLess j h then some false else if fits (a+1)then f (c,b,e,(a+1))else none)else none else if fits (a+1)then f (c,b,e,(a+1))else none)else some true) N (d,d,(d.length:Int),(0:Int)))
theorem jtw :mK 100 (bX [.pv (.sl .str)] [pB] (c1A (jb2 N))):=
 mO (fC (jcM N) ja) func100 rfl N (.seq .no (.seq (.seq .no (.block (.loop jmc .no))) .no)) _
def jdF (N:Nat) (a:List UInt8) (b:List UInt8):Z9:=
 (bif decide ((b.length:Int)<=(a.length:Int))then if fits ((a.length:Int)-(b.length:Int))then oB (cut a ((a.length:Int)-(b.length:Int)) (a.length:Int)) fun c=>(some (decide (c=b)))else none else some false)
theorem jpU :mK 226 (bX [pS,pS] [pB] (c2A (jdF N))):=
 mO ja func226 rfl N .no _
def jcN (c:List UInt8) (b:List UInt8):Z9:=
 (oB (jdF N c b) fun a=>some a)
theorem jsu :mK 171 (bX [pS,pS] [pB] (c2A (jcN N))):=
 mO (fC (jpU N) ja) func171 rfl N .no _
def jod :Sh:=⟨pS:: .dead:: .dead::pB::dz 32 [],[]⟩
def jnf :Sh:=⟨pS:: .dead:: .dead::pB::dz 6 (.own 600010 .str 9 true::pI::pI::dz 23 []),[]⟩
def jaB (j:List UInt8):Option (Z2):=
 (oB (jO N j) fun o=>bif !o then some ([]:List UInt8)else iter (fun k (l,m)=>bif m then iter (fun i (a,d,f,e,b)=>bif decide (b<e)then oB (idx f b) fun c=>(oB (jcN N a c) fun p=>bif p then if fits ((a.length:Int)-(c.length:Int))then bif decide ((3:Int)<=((a.length:Int)-(c.length:Int)))then if fits ((a.length:Int)-(c.length:Int))then oB (cut a 0 ((a.length:Int)-(c.length:Int))) fun n=>(k (n,true))else none else(if fits (b+1)then i (a,d,f,e,(b+1))else none)else none else if fits (b+1)then i (a,d,f,e,(b+1))else none)else k (a,d)) N (l,false,([([105,110,103]:List UInt8),([101,100]:List UInt8),([101,115]:List UInt8),([108,121]:List UInt8),([115]:List UInt8)]:List Z2),(([([105,110,103]:List UInt8),([101,100]:List UInt8),([101,115]:List UInt8),([108,121]:List UInt8),([115]:List UInt8)]:List Z2).length:Int),(0:Int))else some l) N (j,true))
theorem jio :mK 102 (bX [pS] [pS] (c1A (jaB N))):=
 mO (fC (jcM N) (fC (jsu N) ja)) func102 rfl N (.seq .no (.seq .no (.seq (.seq .no (.block (.loop jod (.seq .no (.block (.seq .no (.seq .no (.block (.loop jnf .no))))))))) .no))) _
def jkJ :Sh:=⟨.pv (.sl .str)::pS::dz 5 (pI::pI::dz 10 []),[]⟩
def jdH (b:List Z2) (f:List UInt8):Option (Int):=
 (iter (fun h (d,e,c,a)=>bif decide (a<c)then oB (idx d a) fun i=>(bif decide (e=i)then some a else if fits (a+1)then h (d,e,c,(a+1))else none)else some (-1)) N (b,f,(b.length:Int),(0:Int)))
theorem jkZ :mK 172 (bX [.pv (.sl .str),pS] [pI] (c2A (jdH N))):=
 mO ja func172 rfl N (.seq .no (.seq (.seq .no (.block (.loop jkJ .no))) .no)) _
def jao (c:List Z2) (a:List UInt8):Z9:=
 (oB (jdH N c a) fun b=>some (decide ((0:Int)<=b)))
theorem jh5 :mK 103 (bX [.pv (.sl .str),pS] [pB] (c2A (jao N))):=
 mO (fC (jkZ N) ja) func103 rfl N .no _
def jmj :Sh:=⟨.dead:: .box 1 0::dz 22 (.pv Y14::pI::pI::dz 46 []),[(1,false,[.pv (.sl .str),.pv Y14])]⟩
def jrC :Sh:=⟨.dead:: .box 1 0::dz 22 (.pv Y14::pI::pI::dz 12 (pB::dz 7 (pB:: .dead:: .dead:: .pv (.sl .str)::pI::pI::dz 20 []))),[(1,false,[.pv (.sl .str),.pv Y14])]⟩
def jaj (e:List Z2) (d:List Z4):Z9:=
 (bif decide ((6:Int)<e.length)then some false else oB (jb2 N e) fun B=>bif !B then some false else bif decide ((4:Int)<d.length)then some false else iter (fun z (q,n,i,D,u)=>bif decide (i<n)then oB (idx q i) fun a=>(oB (jm N (a.1.length:Int) 1 3) fun C=>bif !C then some false else oB (jO N a.2) fun r=>bif !r then some false else oB (jaB N a.2) fun t=>bif !decide (t=a.2)then some false else iter (fun x (o,p,f,v,y,k,l,b,j,m)=>bif decide (b<l)then oB (idx k b) fun c=>(oB (jO N c) fun A=>bif !A then some false else oB (jaB N c) fun E=>bif !decide (E=c)then some false else oB (jao N j c) fun w=>bif w then some false else if fits (b+1)then x (o,p,f,v,y,k,l,(b+1),j,m)else none)else if fits (f+1)then z (o,p,(f+1),j,m)else none) N (q,n,i,(!r),(!decide (t=a.2)),a.1,(a.1.length:Int),(0:Int),D,u))else some true) N (d,(d.length:Int),(0:Int),e,d))
theorem jdX :mK 43 (bX [.agg [.pv (.sl .str),.pv Y14]] [pB] (c2A (jaj N))):=
 mO (fC (jtw N) (fC (jY N) (fC (jcM N) (fC (jio N) (fC (jh5 N) ja))))) func43 rfl N (.seq .no (.seq .no (.seq (.seq .no (.block (.loop jmj (.seq .no (.seq .no (.seq (.block (.seq .no (.seq .no (.seq .no (.block (.loop jrC .no)))))) .no)))))) .no))) _
def jtd :Sh:=⟨pS::dz 4 (pI::pI::dz 16 []),[]⟩
def jaF (c:List UInt8):Z9:=
 (iter (fun h (b,d,a)=>bif decide (a<d)then oB (idx b a) fun e=>(bif decide ((e.toNat:Int)<32)then some false else oB (idx b a) fun f=>bif decide ((126:Int)<(f.toNat:Int))then some false else if fits (a+1)then h (b,d,(a+1))else none)else some (decide ((b.length:Int)<=160))) N (c,(c.length:Int),(0:Int)))
theorem jdK :mK 165 (bX [pS] [pB] (c1A (jaF N))):=
 mO ja func165 rfl N (.seq .no (.seq (.seq .no (.block (.loop jtd .no))) .no)) _
def jlC :Sh:=⟨.dead:: .box 1 0::dz 22 (.pv Y17::pI::pI::dz 66 []),[(1,false,[pI,.pv Y17,.pv Y13])]⟩
def jpt :Sh:=⟨.dead:: .box 1 0::dz 57 (.pv Y13::pI::pI::dz 31 []),[(1,false,[pI,.pv Y17,.pv Y13])]⟩
def i_DocOk_m (q:Int) (d:Z11) (p:Z6):Z9:=
 (oB (jm N q 1 9999) fun z=>bif !z then some false else bif decide ((3:Int)<d.length)then some false else bif decide ((3:Int)<p.length)then some false else iter (fun u (n,l,b,o,e,c)=>bif decide (b<l)then oB (idx n b) fun h=>(oB (jO N h.1) fun B=>bif !B then some false else oB (jaF N h.2) fun y=>bif !y then some false else bif decide ((0:Int)<b)then if fits (b-1)then oB (idx e (b-1)) fun A=>(bif !Op.bytesLess A.1 h.1 then some false else if fits (b+1)then u (n,l,(b+1),o,e,c)else none)else none else if fits (b+1)then u (n,l,(b+1),o,e,c)else none)else iter (fun r (j,f,a,v,t,k)=>bif decide (a<f)then oB (idx j a) fun m=>(oB (jO N m.1) fun C=>bif !C then some false else oB (jm N m.2 0 999999999) fun x=>bif !x then some false else bif decide ((0:Int)<a)then if fits (a-1)then oB (idx k (a-1)) fun w=>(bif !Op.bytesLess w.1 m.1 then some false else if fits (a+1)then r (j,f,(a+1),v,t,k)else none)else none else if fits (a+1)then r (j,f,(a+1),v,t,k)else none)else some true) N (c,(c.length:Int),(0:Int),o,e,c)) N (d,(d.length:Int),(0:Int),q,d,p))
theorem jh0 :mK 91 (bX [.agg [pI,.pv Y17,.pv Y13]] [pB] (c3A (i_DocOk_m N))):=
 mO (fC (jY N) (fC (jcM N) (fC (jdK N) ja))) func91 rfl N (.seq .no (.seq .no (.seq (.seq .no (.block (.loop jlC .no))) (.seq (.seq .no (.block (.loop jpt .no))) .no)))) _
def jpj :Sh:=⟨.pv Y3::dz 4 (.pv Y3::pI::pI::dz 26 []),[]⟩
def jbf (e:List Z0):Z9:=
 (iter (fun h (c,d,f,a)=>bif decide (a<f)then oB (idx d a) fun b=>(oB (i_DocOk_m N b.1 b.2.1 b.2.2) fun k=>bif !k then some false else bif decide ((0:Int)<a)then if fits (a-1)then oB (idx c (a-1)) fun j=>(bif decide (b.1<=j.1)then some false else if fits (a+1)then h (c,d,f,(a+1))else none)else none else if fits (a+1)then h (c,d,f,(a+1))else none)else some (decide ((c.length:Int)<=16))) N (e,e,(e.length:Int),(0:Int)))
theorem jjU :mK 79 (bX [.pv Y3] [pB] (c1A (jbf N))):=
 mO (fC (jh0 N) ja) func79 rfl N (.seq .no (.seq (.seq .no (.block (.loop jpj .no))) .no)) _
def jbO (N:Nat) (c:Int) (b:Z11) (a:Z6):Option Z0:=
 (if room ([]:Z11).length b.length 32 then if room ([]:Z6).length a.length 24 then some (c,(([]:Z11)++b),(([]:Z6)++a))else none else none)
theorem jrI :mK 182 (bX [.agg [pI,.pv Y17,.pv Y13]] [.agg [pI,.own 1 Y18 134 true,.own 2 Y15 136 true]] (c3A (jbO N))):=
 mO ja func182 rfl N .no _
def joW :Sh:=⟨dz 3 (.own 600003 Y4 81 true::dz 3 (.pv Y3::pI::pI::dz 10 [])),[]⟩
def jbV (h:List Z0):Z13:=
 (iter (fun i (c,e,d,a)=>bif decide (a<d)then oB (idx e a) fun b=>(oB (jbO N b.1 b.2.1 b.2.2) fun f=>if room c.length ([f]:List Z0).length 56 then if fits (a+1)then i ((c++([f]:List Z0)),e,d,(a+1))else none else none)else some c) N (([]:List Z0),h,(h.length:Int),(0:Int)))
theorem joC :mK 110 (bX [.pv Y3] [.own 1 Y4 81 true] (c1A (jbV N))):=
 mO (fC (jrI N) ja) func110 rfl N (.seq .no (.seq .no (.seq (.seq .no (.block (.loop joW .no))) .no))) _
def jI (N:Nat) (a:Int):Option (Int):=
 (bif decide ((65:Int)<=a)then bif decide (a<=90)then some (IntKind.u8.wrap ((IntKind.u8.wrap (a+97))-65))else(some a)else some a)
theorem jmu :mK 234 (bX [.pv (.int .u8)] [.pv (.int .u8)] (c1A (jI N))):=
 mO ja func234 rfl N .no _
def jpB :Sh:=⟨pS:: .dead:: .dead:: .own 600003 Y7 209 true::pI::dz 57 [],[]⟩
def jo6 :Sh:=⟨pS:: .dead:: .dead:: .own 600003 Y7 209 true::pI:: .box 5 0:: .own 600006 (.int .u8) 5 true::dz 55 [],[(5,false,[pS,pI,pI,pI])]⟩
def jct (o:List UInt8):Option ((List Z8)):=
 (oB (jaF N o) fun x=>bif !x then some ([]:List Z8)else iter (fun l (i,j,h)=>bif decide (h<(i.length:Int))then oB (idx i h) fun r=>(oB (jI N (r.toNat:Int)) fun y=>oB (jaw N y) fun w=>bif !w then if fits (h+1)then l (i,j,(h+1))else none else iter (fun n (c,d,a,b,p,f,e,m)=>bif decide (a<(c.length:Int))then oB (idx c a) fun t=>(oB (jI N (t.toNat:Int)) fun u=>oB (jaw N u) fun v=>bif v then bif decide ((b.length:Int)<12)then oB (idx c a) fun z=>(oB (jI N (z.toNat:Int)) fun q=>if room b.length ([q]:List Int).length 1 then if fits (a+1)then n (c,d,(a+1),(b++([q]:List Int)),p,f,e,m)else none else none)else(if fits (a+1)then n (c,d,(a+1),b,p,f,e,m)else none)else if room d.length ([((bytesOf b),f,e,a)]:List Z8).length 40 then l (c,(d++([((bytesOf b),f,e,a)]:List Z8)),a)else none)else if room d.length ([((bytesOf b),f,e,a)]:List Z8).length 40 then l (c,(d++([((bytesOf b),f,e,a)]:List Z8)),a)else none) N (i,j,h,([]:List Int),([]:List UInt8),(j.length:Int),h,(0:Int)))else some j) N (o,([]:List Z8),(0:Int)))
theorem jqc :mK 183 (bX [pS] [.own 1 Y7 209 true] (c1A (jct N))):=
 mO (fC (jdK N) (fC (jmu N) (fC (jeK N) ja))) func183 rfl N (.seq .no (.seq .no (.seq .no (.seq (.seq .no (.block (.loop jpB (.seq .no (.block (.seq .no (.seq .no (.seq .no (.seq (.block (.loop jo6 .no)) .no))))))))) .no)))) _
def jty :Sh:=⟨.dead:: .pv Y13::pI:: .box 3 0::dz 3 (.pv (.opt Y16)::dz 8 (pI::pI::dz 73 [])),[(3,false,[.pv (.sl .str),.pv Y14])]⟩
def jss :Sh:=⟨.dead:: .pv Y13::pI:: .box 3 0::dz 3 (.pv (.opt Y16):: .dead:: .ptr Y16::pB::dz 5 (pI::pI::dz 31 (pB::dz 4 (.pv (.sl .str)::pI::pI::dz 34 [])))),[(3,false,[.pv (.sl .str),.pv Y14])]⟩
def jbH (c:List Z2) (c2:List Z4) (terms:Z6) (at0:Int):Option ((Option Z4)):=
 (iter (fun go (terms2,at02,best,t16,t17,c3,c4)=>bif decide (t17<t16)then oB (idx c4 t17) fun e=>(if fits ((terms2.length:Int)-at02)then bif decide (((terms2.length:Int)-at02)<(e.1.length:Int))then if fits (t17+1)then go (terms2,at02,best,t16,(t17+1),c3,c4)else none else(bif !(Option.isNone best)then oB best fun p=>(bif decide ((e.1.length:Int)<=(p.1.length:Int))then if fits (t17+1)then go (terms2,at02,best,t16,(t17+1),c3,c4)else none else iter (fun go2 (terms3,at03,best2,r,fits0,t162,t172,t49,t54,t55,t56,c5,c6)=>bif decide (t56<t55)then oB (idx t54 t56) fun e2=>(if fits (at03+t56)then oB (idx terms3 (at03+t56)) fun e3=>(bif fits0 then bif decide (e3.1=e2)then oB (idx terms3 at03) fun e4=>(if fits (e4.2+t56)then if fits (t56+1)then go2 (terms3,at03,best2,r,(decide (e3.2=(e4.2+t56))),t162,t172,t49,t54,t55,(t56+1),c5,c6)else none else none)else(if fits (t56+1)then go2 (terms3,at03,best2,r,false,t162,t172,t49,t54,t55,(t56+1),c5,c6)else none)else if fits (t56+1)then go2 (terms3,at03,best2,r,false,t162,t172,t49,t54,t55,(t56+1),c5,c6)else none)else none)else bif fits0 then if fits (t172+1)then go (terms3,at03,(some r),t162,(t172+1),c5,c6)else none else if fits (t172+1)then go (terms3,at03,best2,t162,(t172+1),c5,c6)else none) N (terms2,at02,best,e,true,t16,t17,(decide ((e.1.length:Int)<=(p.1.length:Int))),e.1,(e.1.length:Int),(0:Int),c3,c4))else iter (fun go3 (terms4,at04,best3,r2,fits02,t163,t173,t492,t542,t552,t562,c7,c8)=>bif decide (t562<t552)then oB (idx t542 t562) fun e5=>(if fits (at04+t562)then oB (idx terms4 (at04+t562)) fun e6=>(bif fits02 then bif decide (e6.1=e5)then oB (idx terms4 at04) fun e7=>(if fits (e7.2+t562)then if fits (t562+1)then go3 (terms4,at04,best3,r2,(decide (e6.2=(e7.2+t562))),t163,t173,t492,t542,t552,(t562+1),c7,c8)else none else none)else(if fits (t562+1)then go3 (terms4,at04,best3,r2,false,t163,t173,t492,t542,t552,(t562+1),c7,c8)else none)else if fits (t562+1)then go3 (terms4,at04,best3,r2,false,t163,t173,t492,t542,t552,(t562+1),c7,c8)else none)else none)else bif fits02 then if fits (t173+1)then go (terms4,at04,(some r2),t163,(t173+1),c7,c8)else none else if fits (t173+1)then go (terms4,at04,best3,t163,(t173+1),c7,c8)else none) N (terms2,at02,best,e,true,t16,t17,false,e.1,(e.1.length:Int),(0:Int),c3,c4))else none)else some best) N (terms,at0,(none:Option Z4),(c2.length:Int),(0:Int),c,c2))
theorem jtv :mK 184 (bX [.agg [.pv (.sl .str),.pv Y14],.pv Y13,pI] [.pv (.opt Y16)] (c4A (jbH N))):=
 mO ja func184 rfl N (.seq .no (.seq .no (.seq (.seq .no (.block (.loop jty (.seq .no (.seq .no (.seq (.block (.seq .no (.seq .no (.seq .no (.seq .no (.seq (.seq .no (.block (.loop jss .no))) .no)))))) .no)))))) .no))) _
def jlW :Sh:=⟨.dead:: .dead:: .box 2 0:: .dead:: .dead:: .own 600005 Y15 155 true:: .own 600006 Y15 155 true::dz 17 (.own 600024 Y7 209 true::pI::pI::dz 67 []),[(2,false,[.pv (.sl .str),.pv Y14])]⟩
def jnt :Sh:=⟨.dead:: .dead:: .box 2 0:: .dead:: .dead:: .own 600005 Y15 155 true:: .own 600006 Y15 155 true::dz 3 (pI::dz 83 []),[(2,false,[.pv (.sl .str),.pv Y14])]⟩
def jbw (t:List Z2) (B:List Z4) (x:List UInt8):Option (Z7):=
 (oB (jaj N t B) fun D=>bif !D then some ([]:Z6)else oB (jaF N x) fun E=>bif !E then some ([]:Z6)else oB (jct N x) fun z=>iter (fun q (j,f,l,k,b,d,h)=>bif decide (b<k)then oB (idx l b) fun i=>(oB (jaB N i.1) fun r=>oB (jao N d i.1) fun C=>bif !C then oB (jao N d r) fun G=>(bif !G then if room f.length ([(r,i.2.1)]:Z6).length 24 then if fits (b+1)then q (j,(f++([(r,i.2.1)]:Z6)),l,k,(b+1),d,h)else none else none else if fits (b+1)then q (j,f,l,k,(b+1),d,h)else none)else if fits (b+1)then q (j,f,l,k,(b+1),d,h)else none)else iter (fun w (e,c,a,p,o)=>bif decide (a<(c.length:Int))then oB (jbH N p o c a) fun m=>(bif Option.isNone m then oB (idx c a) fun A=>(if room e.length ([A]:Z6).length 24 then if fits (a+1)then w ((e++([A]:Z6)),c,(a+1),p,o)else none else none)else oB m fun v=>oB (idx c a) fun y=>if room e.length ([(v.2,y.2)]:Z6).length 24 then oB m fun u=>(if fits (a+(u.1.length:Int))then w ((e++([(v.2,y.2)]:Z6)),c,(a+(u.1.length:Int)),p,o)else none)else none)else some e) N (j,f,(0:Int),d,h)) N (([]:Z6),([]:Z6),z,(z.length:Int),(0:Int),t,B))
theorem jgO :mK 111 (bX [.agg [.pv (.sl .str),.pv Y14],pS] [.own 1 Y15 155 true] (c3A (jbw N))):=
 mO (fC (jdX N) (fC (jdK N) (fC (jqc N) (fC (jio N) (fC (jh5 N) (fC (jtv N) ja)))))) func111 rfl N (.seq .no (.seq .no (.seq .no (.seq .no (.seq (.seq .no (.block (.loop jlW .no))) (.seq (.seq .no (.block (.loop jnt .no))) .no)))))) _
def k__loop_example_fossick_impl_Seg_put_1_m (N:Nat) (a:List UInt8) (d:List UInt8) (e:Z5) (b:List UInt8) (c:Z2×Int):Z9:=
 (bif decide (a=b)then some (decide (d=c.1))else some false)
theorem jmw :mK 186 (bX [.agg [pS,pS,.pv Y11],.ptr .str,.ptr Y15] [pB] (c5A (k__loop_example_fossick_impl_Seg_put_1_m N))):=
 mO ja func186 rfl N .no _
def jnc :Sh:=⟨.pv Y5:: .clo 186 [.ptr .str,.ptr Y15]::dz 5 (pI::pI::dz 10 []),[]⟩
def k_slices_IndexFunc_146_m (d:List Z1) (h:Z2×Z2×Int):Option (Int):=
 (iter (fun i (f,c,e,a)=>bif decide (a<e)then oB (idx f a) fun b=>(oB (k__loop_example_fossick_impl_Seg_put_1_m N b.1 b.2.1 b.2.2 c.1 c.2) fun k=>bif k then some a else if fits (a+1)then i (f,c,e,(a+1))else none)else some (-1)) N (d,h,(d.length:Int),(0:Int)))
theorem jrl :mK 185 (bX [.pv Y5,.clo 186 [.ptr .str,.ptr Y15]] [pI] (c2A (k_slices_IndexFunc_146_m N))):=
 mO (fC (jmw N) ja) func185 rfl N (.seq .no (.seq (.seq .no (.block (.loop jnc .no))) .no)) _
end Go.Proofs.YtcdcmcgdgnibmaaGreatDoor
