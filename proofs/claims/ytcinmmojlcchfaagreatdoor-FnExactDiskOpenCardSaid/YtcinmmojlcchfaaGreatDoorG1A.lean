import Derived.Test.YtcinmmojlcchfaaGreatDoorSA
import Derived.Test.YtcinmmojlcchfaaGreatDoorSC
import Derived.Test.YtcinmmojlcchfaaGreatDoorSE
import Derived.Test.YtcinmmojlcchfaaGreatDoorSN
import Derived.Test.YtcinmmojlcchfaaGreatDoorSP
set_option linter.unusedVariables false
set_option linter.unusedSimpArgs false
namespace Go.Proofs.YtcinmmojlcchfaaGreatDoor
open Go.RowKit Go.Proofs.Tryz
variable (N : Nat)
open Option renaming bind -> oB
set_option maxRecDepth 1000000
abbrev Z0 :Type:=Int×(List ((List UInt8)×(List UInt8)))×(List ((List UInt8)×Int))
abbrev Z1 :Type:=List UInt8
abbrev Z2 :Type:=Z1×Z1×(List (Int×(List Int)))
abbrev Z3 :Type:=((List Z0)×(List Z2))×(List Int)
abbrev Z4 :Type:=(List Z1)×Z1
abbrev Z5 :Type:=List (Z1×Int)
abbrev Z6 :Type:=List (Int×(List Int))
abbrev Z7 :Type:=List (Z1×Z1)
abbrev Z8 :Type:=Option (Bool)
abbrev Z9 :Type:=List (Z1×Int)
abbrev Z10 :Type:=List (Z1×Z1)
abbrev Z11 :Type:=Z1×Int×Int×Int
abbrev Z12 :Type:=Option (Int)
abbrev Z13 :Type:=List (Int×(List Int))
abbrev Z14 :Type:=Option ((List Z0))
abbrev bX (a r:List VS) (f:HD (Sh.codes ⟨a,[]⟩)->Option (HD (Sh.codes ⟨r,[]⟩))):Model:=⟨⟨a,[]⟩,⟨r,[]⟩,f⟩
abbrev mK :=ModelOk Tryz.prog
theorem mO {l:List (Nat×Model)} (hl:jR Tryz.prog l) {f:FuncId} {fn:Func} {c:Code} (hf:Tryz.prog.funcs[f]? =some fn) (hbody:fn.body=some c) (N:Nat) (h:Hint) (m:Model) (wr rs dw:List Nat:=[])
  (hname:(fn.name== "runtime.NumGoroutine")=false:=by kernel_rfl) (hres:m.arg.names.all (jbC l wr rs dw).res=true:=by kernel_rfl) (hlen:Nat.ble m.arg.vals.length fn.ntmps=true:=by kernel_rfl)
  (hrun:∀a,m.run a=runF N (jbC l wr rs dw) okDraw fn c h m.arg m.ret a:=by intro a;kernel_rfl):ModelOk Tryz.prog f m:=modelOk_of (E:=jbC l wr rs dw) (jtQ hl wr rs dw) hf hname hbody N h m hres hlen hrun
theorem fC {k:Nat} {m:Model} {l:List (Nat×Model)} (h:ModelOk Tryz.prog k m) (hl:jR Tryz.prog l):jR Tryz.prog ((k,m)::l):=jsH h hl
abbrev pI :VS:=.pv (.int .i64)
abbrev pS :VS:=.pv .str
abbrev pB :VS:=.pv .bool
abbrev tI :Tp:=.int .i64
abbrev c1A {α ρ:Type} (f:α->ρ) (a:α):ρ:=f a
abbrev c2A {α0 α1 ρ:Type} (f:α0->α1->ρ) (a:α0×α1):ρ:=f a.1 a.2
abbrev c3A {α0 α1 α2 ρ:Type} (f:α0->α1->α2->ρ) (a:α0×α1×α2):ρ:=f a.1 a.2.1 a.2.2
abbrev c4A {α0 α1 α2 α3 ρ:Type} (f:α0->α1->α2->α3->ρ) (a:α0×α1×α2×α3):ρ:=f a.1 a.2.1 a.2.2.1 a.2.2.2
abbrev c5A {α0 α1 α2 α3 α4 ρ:Type} (f:α0->α1->α2->α3->α4->ρ) (a:α0×α1×α2×α3×α4):ρ:=f a.1 a.2.1 a.2.2.1 a.2.2.2.1 a.2.2.2.2
abbrev c6A {α0 α1 α2 α3 α4 α5 ρ:Type} (f:α0->α1->α2->α3->α4->α5->ρ) (a:α0×α1×α2×α3×α4×α5):ρ:=f a.1 a.2.1 a.2.2.1 a.2.2.2.1 a.2.2.2.2.1 a.2.2.2.2.2
abbrev c7A {α0 α1 α2 α3 α4 α5 α6 ρ:Type} (f:α0->α1->α2->α3->α4->α5->α6->ρ) (a:α0×α1×α2×α3×α4×α5×α6):ρ:=f a.1 a.2.1 a.2.2.1 a.2.2.2.1 a.2.2.2.2.1 a.2.2.2.2.2.1 a.2.2.2.2.2.2
def dz :Nat->List VS->List VS
 |0,l=>l
 |n+1,l=>.dead::dz n l
abbrev Y19 :Tp:=.sl tI
abbrev Y18 :Tp:=.pair .str .str
abbrev Y17 :Tp:=.sl (.pair .str .str)
abbrev Y16 :Tp:=.pair (.sl .str) .str
abbrev Y15 :Tp:=.pair .str tI
abbrev Y14 :Tp:=.sl (.pair (.sl .str) .str)
abbrev Y13 :Tp:=.sl (.pair .str tI)
abbrev Y12 :Tp:=.pair tI (.sl tI)
abbrev Y11 :Tp:=.sl (.pair tI (.sl tI))
abbrev Y7 :Tp:=.pair .str (.pair tI (.pair tI tI))
abbrev Y6 :Tp:=.pair .str (.pair .str (.sl (.pair tI (.sl tI))))
abbrev Y5 :Tp:=.sl (.pair .str (.pair .str (.sl (.pair tI (.sl tI)))))
abbrev Y4 :Tp:=.pair tI (.pair (.sl (.pair .str .str)) (.sl (.pair .str tI)))
abbrev Y3 :Tp:=.sl (.pair tI (.pair (.sl (.pair .str .str)) (.sl (.pair .str tI))))
abbrev Y2 :Tp:=.pair (.sl (.pair tI (.pair (.sl (.pair .str .str)) (.sl (.pair .str tI))))) (.sl (.pair .str (.pair .str (.sl (.pair tI (.sl tI))))))
abbrev Y1 :Tp:=.pair (.pair (.sl (.pair tI (.pair (.sl (.pair .str .str)) (.sl (.pair .str tI))))) (.sl (.pair .str (.pair .str (.sl (.pair tI (.sl tI))))))) (.sl tI)
abbrev Y0 :Tp:=.sl (.pair (.pair (.sl (.pair tI (.pair (.sl (.pair .str .str)) (.sl (.pair .str tI))))) (.sl (.pair .str (.pair .str (.sl (.pair tI (.sl tI))))))) (.sl tI))
def jso :Sh:=⟨.pv (.sl .str)::pI::dz 3 (pI::dz 22 []),[]⟩
def jbK (c:List Z1) (d:Int):Z12:=
 (if fits (d-(c.length:Int))then bif decide ((d-(c.length:Int))<0)then some (-1)else(iter (fun i (f,b,a)=>bif decide (a<(f.length:Int))then oB (idx f a) fun e=>(if fits (b-(e.length:Int))then bif decide ((b-(e.length:Int))<0)then some (-1)else(if fits (a+1)then i (f,(b-(e.length:Int)),(a+1))else none)else none)else some b) N (c,(d-(c.length:Int)),(0:Int)))else none)
theorem jjn :mK 39 (bX [.pv (.sl .str),pI] [pI] (c2A (jbK N))):=
 mO ja func39 rfl N (.seq .no (.seq .no (.seq .no (.seq (.seq .no (.block (.loop jso .no))) .no)))) _
def jbp (d:List Z1) (b:List UInt8) (c:Int):Z12:=
 (oB (jbK N d c) fun a=>bif decide (a<0)then some (-1)else if fits (a-(b.length:Int))then bif decide ((a-(b.length:Int))<0)then some (-1)else(some (a-(b.length:Int)))else none)
theorem jsV :mK 100 (bX [.agg [.pv (.sl .str),pS],pI] [pI] (c3A (jbp N))):=
 mO (fC (jjn N) ja) func100 rfl N .no _
def jki :Sh:=⟨.pv Y14::pI::dz 3 (pI::dz 21 []),[]⟩
def jc6 (b:List Z4) (c:Int):Z12:=
 (if fits (c-(b.length:Int))then bif decide ((c-(b.length:Int))<0)then some (-1)else(iter (fun j (d,h,a)=>bif decide (a<(d.length:Int))then oB (idx d a) fun f=>(oB (jbp N f.1 f.2 h) fun e=>bif decide (e<0)then some (-1)else if fits (a+1)then j (d,e,(a+1))else none)else some h) N (b,(c-(b.length:Int)),(0:Int)))else none)
theorem jkX :mK 40 (bX [.pv Y14,pI] [pI] (c2A (jc6 N))):=
 mO (fC (jsV N) ja) func40 rfl N (.seq .no (.seq .no (.seq .no (.seq (.seq .no (.block (.loop jki .no))) .no)))) _
def jbD (e:List Z1) (d:List Z4) (c:Int):Z12:=
 (oB (jbK N e c) fun b=>bif decide (b<0)then some (-1)else oB (jc6 N d b) fun a=>bif decide (a<0)then some (-1)else some a)
theorem jm8 :mK 9 (bX [.agg [.pv (.sl .str),.pv Y14],pI] [pI] (c3A (jbD N))):=
 mO (fC (jjn N) (fC (jkX N) ja)) func9 rfl N .no _
def jqD :Sh:=⟨.pv (.sl .str):: .dead:: .dead:: .mtk 600003 .str 9 true::pI::dz 17 [],[]⟩
def jci (b:List Z1):Option ((List Z1)):=
 (if(b.length:Int)=(b.length:Int)/\0<=(b.length:Int)/\(b.length:Int)*16<=140737488355328/\(b.length:Int)<=140737488355328 then iter (fun f (d,c,a)=>bif decide (a<(d.length:Int))then oB (idx d a) fun h=>(if 0<=a/\a<(c.length:Int)then oB (c[a.toNat]?) fun i=>(if fits (a+1)then f (d,(c.set a.toNat h),(a+1))else none)else none)else some c) N (b,(List.replicate (b.length:Int).toNat ([]:List UInt8)),(0:Int))else none)
theorem jiJ :mK 43 (bX [.pv (.sl .str)] [.own 1 .str 9 true] (c1A (jci N))):=
 mO ja func43 rfl N (.seq .no (.seq .no (.seq (.seq .no (.block (.loop jqD .no))) .no))) _ (wr:=[7])
def ja0 (c:List Z1) (b:List UInt8):Option Z4:=
 (oB (jci N c) fun a=>some (a,b))
theorem jr7 :mK 109 (bX [.agg [.pv (.sl .str),pS]] [.agg [.own 1 .str 9 true,pS]] (c2A (ja0 N))):=
 mO (fC (jiJ N) ja) func109 rfl N .no _ (dw:=[6])
def jos :Sh:=⟨.pv Y14:: .dead:: .dead:: .tre 600003 Y16 142::pI::dz 18 [],[]⟩
def jeh (b:List Z4):Option ((List Z4)):=
 (if(b.length:Int)=(b.length:Int)/\0<=(b.length:Int)/\(b.length:Int)*40<=140737488355328/\(b.length:Int)<=140737488355328 then iter (fun i (d,c,a)=>bif decide (a<(d.length:Int))then oB (idx d a) fun e=>(oB (ja0 N e.1 e.2) fun f=>if 0<=a/\a<(c.length:Int)then oB (c[a.toNat]?) fun j=>(if fits (a+1)then i (d,(c.set a.toNat f),(a+1))else none)else none)else some c) N (b,(List.replicate (b.length:Int).toNat (([]:List Z1),([]:List UInt8))),(0:Int))else none)
theorem jqR :mK 44 (bX [.pv Y14] [.own 1 Y16 142 true] (c1A (jeh N))):=
 mO (fC (jr7 N) ja) func44 rfl N (.seq .no (.seq .no (.seq (.seq .no (.block (.loop jos .no))) .no))) _ (wr:=[7]) (dw:=[20])
def jad (d:List Z1) (c:List Z4):Option ((List Z1)×(List Z4)):=
 (oB (jci N d) fun b=>oB (jeh N c) fun a=>some (b,a))
theorem jtJ :mK 11 (bX [.agg [.pv (.sl .str),.pv Y14]] [.agg [.own 1 .str 9 true,.own 2 Y16 142 true]] (c2A (jad N))):=
 mO (fC (jiJ N) (fC (jqR N) ja)) func11 rfl N .no _ (dw:=[6,10])
def jt (N:Nat) (a:Int):Z12:=
 (bif decide ((65:Int)<=a)then bif decide (a<=90)then some (IntKind.u8.wrap (a+32))else(bif decide ((97:Int)<=a)then bif decide (a<=122)then some a else(bif decide ((48:Int)<=a)then bif decide (a<=57)then some a else(some 0)else some 0)else bif decide ((48:Int)<=a)then bif decide (a<=57)then some a else(some 0)else some 0)else bif decide ((97:Int)<=a)then bif decide (a<=122)then some a else(bif decide ((48:Int)<=a)then bif decide (a<=57)then some a else(some 0)else some 0)else bif decide ((48:Int)<=a)then bif decide (a<=57)then some a else(some 0)else some 0)
theorem jfG :mK 175 (bX [.pv (.int .u8)] [.pv (.int .u8)] (c1A (jt N))):=
 mO ja func175 rfl N .no _
def jJ (N:Nat) (a:Int) (c:Int) (b:Int):Z8:=
 (bif decide (c<=a)then some (decide (a<=b))else some false)
theorem jcL :mK 104 (bX [pI,pI,pI] [pB] (c3A (jJ N))):=
 mO ja func104 rfl N .no _
def jr5 :Sh:=⟨pS:: .dead:: .dead::pI::dz 23 [],[]⟩
def jT (e:List UInt8):Z8:=
 (iter (fun i (a,b)=>bif decide (b<(a.length:Int))then oB (idx a b) fun j=>(oB (jt N (j.toNat:Int)) fun d=>oB (idx a b) fun k=>bif !decide (d=(k.toNat:Int))then some false else oB (idx a b) fun h=>bif decide ((h.toNat:Int)=0)then some false else if fits (b+1)then i (a,(b+1))else none)else oB (jJ N (a.length:Int) 1 12) fun c=>some c) N (e,(0:Int)))
theorem jgp :mK 101 (bX [pS] [pB] (c1A (jT N))):=
 mO (fC (jfG N) (fC (jcL N) ja)) func101 rfl N (.seq .no (.seq (.seq .no (.block (.loop jr5 .no))) .no)) _
def jdI (N:Nat):Option ((List Z1)):=
 (some ([([105,110,103]:List UInt8),([101,100]:List UInt8),([101,115]:List UInt8),([108,121]:List UInt8),([115]:List UInt8)]:List Z1))
theorem jkj :mK 232 ⟨⟨[],[]⟩,⟨[.own 1 .str 9 true],[]⟩,fun a=>jdI N⟩:=
 mO ja func232 rfl N .no _
def jl2 :Sh:=⟨pS:: .dead:: .dead::pI::dz 30 [],[]⟩
def ja6 (h:List UInt8):Option (Z1):=
 (iter (fun d (a,b)=>oB (jdI N) fun f=>bif decide (b<(f.length:Int))then oB (jdI N) fun e=>(oB (idx e b) fun c=>if fits ((a.length:Int)-(c.length:Int))then bif decide ((3:Int)<=((a.length:Int)-(c.length:Int)))then oB (cut a ((a.length:Int)-(c.length:Int)) (a.length:Int)) fun j=>(bif decide (j=c)then oB (cut a 0 ((a.length:Int)-(c.length:Int))) fun k=>(some k)else if fits (b+1)then d (a,(b+1))else none)else(if fits (b+1)then d (a,(b+1))else none)else none)else some a) N (h,(0:Int)))
theorem jtL :mK 176 (bX [pS] [pS] (c1A (ja6 N))):=
 mO (fC (jkj N) ja) func176 rfl N (.seq .no (.seq (.seq .no (.block (.loop jl2 .no))) .no)) _
def jto :Sh:=⟨pS::dz 9 [],[]⟩
def jaq (c:List UInt8):Option (Z1):=
 (iter (fun e (d:Z1)=>let s2:=d;(oB (ja6 N s2) fun b=>bif !decide (b=s2)then oB (ja6 N s2) fun a=>(e a)else some s2)) N c)
theorem jfZ :mK 102 (bX [pS] [pS] (c1A (jaq N))):=
 mO (fC (jtL N) ja) func102 rfl N (.seq .no (.seq (.block (.loop jto .no)) .no)) _
def jlY :Sh:=⟨.pv (.sl .str)::pS::dz 3 (pI::dz 12 []),[]⟩
def jap (h:List Z1) (e:List UInt8):Z8:=
 (iter (fun f (b,c,a)=>bif decide (a<(b.length:Int))then oB (idx b a) fun i=>(bif decide (i=c)then some true else if fits (a+1)then f (b,c,(a+1))else none)else some false) N (h,e,(0:Int)))
theorem jhP :mK 103 (bX [.pv (.sl .str),pS] [pB] (c2A (jap N))):=
 mO ja func103 rfl N (.seq .no (.seq (.seq .no (.block (.loop jlY .no))) .no)) _
def jrs :Sh:=⟨.dead:: .box 1 0:: .dead::pI::dz 114 [],[(1,false,[.pv (.sl .str),.pv Y14])]⟩
def js0 :Sh:=⟨.dead:: .box 1 0:: .dead:: .dead::pI::dz 113 [],[(1,false,[.pv (.sl .str),.pv Y14])]⟩
def jrc :Sh:=⟨.dead:: .box 1 0:: .dead:: .dead::pI:: .box 5 0::pI::dz 111 [],[(1,false,[.pv (.sl .str),.pv Y14]),(5,false,[.pv (.sl .str),pS])]⟩
def jcw (z:List Z1) (K:List Z4):Z8:=
 (iter (fun n (a,b,k)=>bif decide (a<(b.length:Int))then oB (idx b a) fun G=>(oB (jT N G) fun D=>bif !D then some false else bif decide ((0:Int)<a)then oB (idx b a) fun q=>(if fits (a-1)then oB (idx b (a-1)) fun o=>(bif Op.bytesLess q o||decide (q=o)then some false else if fits (a+1)then n ((a+1),b,k)else none)else none)else if fits (a+1)then n ((a+1),b,k)else none)else iter (fun v (l,r,f)=>bif decide (l<(f.length:Int))then oB (idx f l) fun p=>(iter (fun x (j,c,i,m,d,h)=>bif decide (c<(d.length:Int))then oB (idx d c) fun w=>(oB (jT N w) fun B=>bif !B then some false else oB (idx d c) fun A=>oB (jaq N A) fun t=>oB (idx d c) fun y=>bif !decide (t=y)then some false else oB (idx d c) fun u=>oB (jap N i u) fun C=>bif C then some false else if fits (c+1)then x (j,(c+1),i,m,d,h)else none)else oB (jJ N (d.length:Int) 1 3) fun I=>bif !I then some false else oB (jT N h) fun H=>bif !H then some false else oB (jaq N h) fun E=>bif !decide (E=h)then some false else if fits (j+1)then v ((j+1),i,m)else none) N (l,(0:Int),r,f,p.1,p.2))else bif decide ((r.length:Int)<=6)then some (decide ((f.length:Int)<=4))else some false) N ((0:Int),b,k)) N ((0:Int),z,K))
theorem jtf :mK 41 (bX [.agg [.pv (.sl .str),.pv Y14]] [pB] (c2A (jcw N))):=
 mO (fC (jgp N) (fC (jfZ N) (fC (jhP N) (fC (jcL N) ja)))) func41 rfl N (.seq .no (.seq (.seq .no (.block (.loop jrs .no))) (.seq (.seq .no (.block (.loop js0 (.seq .no (.seq (.block (.seq .no (.seq (.seq .no (.block (.loop jrc .no))) .no))) .no))))) .no))) _
def jY2 :Sh:=⟨pS:: .pv (.int .u8)::pI::dz 4 (.own 600007 .str 9 true::pI::pI::dz 33 []),[]⟩
def s_l1Cut_m (m:List UInt8) (n:Int) (o:Int):Option ((List Z1)):=
 (iter (fun h (a,e,f,c,d,b)=>bif decide (b<(a.length:Int))then bif decide ((c.length:Int)<f)then oB (idx a b) fun p=>(bif decide ((p.toNat:Int)=e)then oB (cut a d b) fun i=>(if room c.length ([i]:List Z1).length 16 then if fits (b+1)then if fits (b+1)then h (a,e,f,(c++([i]:List Z1)),(b+1),(b+1))else none else none else none)else if fits (b+1)then h (a,e,f,c,d,(b+1))else none)else(oB (cut a d (a.length:Int)) fun k=>if room c.length ([k]:List Z1).length 16 then some (c++([k]:List Z1))else none)else oB (cut a d (a.length:Int)) fun j=>if room c.length ([j]:List Z1).length 16 then some (c++([j]:List Z1))else none) N (m,n,o,([]:List Z1),(0:Int),(0:Int)))
theorem jYN :mK 177 (bX [pS,.pv (.int .u8),pI] [.own 1 .str 9 true] (c3A (s_l1Cut_m N))):=
 mO ja func177 rfl N (.seq .no (.seq .no (.seq .no (.seq (.seq .no (.block (.loop jY2 .no))) .no)))) _
def jY1 :Sh:=⟨pS:: .dead:: .dead::pI::pI::dz 42 [],[]⟩
def s_l1Num_m (f:List UInt8):Z12:=
 (iter (fun i (a,c,b)=>bif decide (b<(a.length:Int))then oB (idx a b) fun j=>(bif decide ((j.toNat:Int)<48)then some (-1)else oB (idx a b) fun k=>bif decide ((57:Int)<(k.toNat:Int))then some (-1)else bif decide ((9:Int)<=b)then some (-1)else if fits (c*10)then oB (idx a b) fun d=>(if fits ((c*10)+(IntKind.i64.wrap (IntKind.u8.wrap ((d.toNat:Int)-48))))then if fits (b+1)then i (a,((c*10)+(IntKind.i64.wrap (IntKind.u8.wrap ((d.toNat:Int)-48)))),(b+1))else none else none)else none)else bif decide ((a.length:Int)=0)then some (-1)else bif decide ((1:Int)<a.length)then oB (idx a 0) fun h=>(bif decide ((h.toNat:Int)=48)then some (-1)else some c)else some c) N (f,(0:Int),(0:Int)))
theorem jYO :mK 172 (bX [pS] [pI] (c1A (s_l1Num_m N))):=
 mO ja func172 rfl N (.seq .no (.seq .no (.seq (.seq .no (.block (.loop jY1 .no))) .no))) _
def jot :Sh:=⟨pS:: .dead:: .dead::pI::dz 19 [],[]⟩
def jcu (d:List UInt8):Z8:=
 (iter (fun e (a,b)=>bif decide (b<(a.length:Int))then oB (idx a b) fun f=>(bif decide ((f.toNat:Int)<32)then some false else oB (idx a b) fun h=>bif decide ((126:Int)<(h.toNat:Int))then some false else if fits (b+1)then e (a,(b+1))else none)else some (decide ((a.length:Int)<=160))) N (d,(0:Int)))
theorem jpZ :mK 233 (bX [pS] [pB] (c1A (jcu N))):=
 mO ja func233 rfl N (.seq .no (.seq (.seq .no (.block (.loop jot .no))) .no)) _
def jp0 :Sh:=⟨.dead:: .box 1 0:: .dead::pI::dz 100 [],[(1,false,[pI,.pv Y17,.pv Y13])]⟩
def jtP :Sh:=⟨.dead:: .box 1 0::dz 3 (pI::dz 98 []),[(1,false,[pI,.pv Y17,.pv Y13])]⟩
def jcb (r:Int) (t:Z7) (u:Z5):Z8:=
 (iter (fun m (b,j,d,h)=>bif decide (b<(d.length:Int))then oB (idx d b) fun e=>(oB (jT N e.1) fun y=>bif !y then some false else oB (jcu N e.2) fun v=>bif !v then some false else bif decide ((0:Int)<b)then if fits (b-1)then oB (idx d (b-1)) fun p=>(bif Op.bytesLess e.1 p.1||decide (e.1=p.1)then some false else if fits (b+1)then m ((b+1),j,d,h)else none)else none else if fits (b+1)then m ((b+1),j,d,h)else none)else iter (fun l (a,i,k,c)=>bif decide (a<(c.length:Int))then oB (idx c a) fun w=>(oB (jT N w.1) fun q=>bif !q then some false else oB (idx c a) fun z=>oB (jJ N z.2 0 999999999) fun x=>bif !x then some false else bif decide ((0:Int)<a)then oB (idx c a) fun n=>(if fits (a-1)then oB (idx c (a-1)) fun o=>(bif Op.bytesLess n.1 o.1||decide (n.1=o.1)then some false else if fits (a+1)then l ((a+1),i,k,c)else none)else none)else if fits (a+1)then l ((a+1),i,k,c)else none)else oB (jJ N i 1 9999) fun A=>bif A then oB (jJ N (k.length:Int) 0 3) fun B=>(bif B then some (decide ((c.length:Int)<=3))else some false)else some false) N ((0:Int),j,d,h)) N ((0:Int),r,t,u))
theorem jpD :mK 179 (bX [.agg [pI,.pv Y17,.pv Y13]] [pB] (c3A (jcb N))):=
 mO (fC (jgp N) (fC (jpZ N) (fC (jcL N) ja))) func179 rfl N (.seq .no (.seq (.seq .no (.block (.loop jp0 .no))) (.seq (.seq .no (.block (.loop jtP .no))) .no))) _
def s_l1Dec_m (N:Nat):(D:Nat)->Int->Option (Z1)
 |0,_=>none
 |D+1,n=>
 bif decide (n<(-9223372036854775807))then
 some ([45,57,50,50,51,51,55,50,48,51,54,56,53,52,55,55,53,56,48,56]:List UInt8)
 else
 bif decide (n<0)then
 if fits (0-n)then oB (s_l1Dec_m N D (0-n)) fun r=>
 (if([45]:List UInt8).length+r.length<=9223372036854775807 then
 some (([45]:List UInt8)++r)
 else none)else none
 else
 bif decide (n<10)then
 if fits (48+n)then some (bytesOf ([(IntKind.u8.wrap (48+n))]:List Int))else none
 else
 if 10≠0 then
 if fits (n.tdiv 10)then oB (s_l1Dec_m N D (n.tdiv 10)) fun r2=>
 (if 10≠0 then
 if fits (48+(n.tmod 10))then if r2.length+(bytesOf ([(IntKind.u8.wrap (48+(n.tmod 10)))]:List Int)).length<=9223372036854775807 then
 some (r2++(bytesOf ([(IntKind.u8.wrap (48+(n.tmod 10)))]:List Int)))
 else none else none
 else none)else none
 else none
def jOp (N D:Nat):Model:=⟨⟨[pI],[]⟩,⟨[pS],[]⟩,c1A (s_l1Dec_m N D)⟩
theorem jPg (N D:Nat) (ih:mK 170 (jOp N D)):mK 170 (jOp N (D+1)):=
 mO (fC ih ja) func170 rfl N .no (jOp N (D+1))
theorem jOx (N:Nat):∀D,mK 170 (jOp N D)
 |0=>modelOk_none ⟨_,func170,by decide,by kernel_rfl⟩ _ (fun a=>rfl)
 |D+1=>jPg N D (jOx N D)
def jXV :Sh:=⟨.dead:: .box 1 0:: .dead::pS::pI::dz 58 [],[(1,false,[pI,.pv Y17,.pv Y13])]⟩
def jYl :Sh:=⟨.dead:: .box 1 0:: .dead::pS:: .dead::pI::dz 57 [],[(1,false,[pI,.pv Y17,.pv Y13])]⟩
def s_l6Put_m (n:Int) (t:Z7) (u:Z5):Option (Z1):=
 (oB (s_l1Dec_m N N n) fun l=>if([100,111,99,32]:List UInt8).length+l.length<=9223372036854775807 then if(([100,111,99,32]:List UInt8)++l).length+([10]:List UInt8).length<=9223372036854775807 then iter (fun r (a,d,p,c,o)=>bif decide (d<(c.length:Int))then if a.length+([102,105,101,108,100,32]:List UInt8).length<=9223372036854775807 then oB (idx c d) fun h=>(if(a++([102,105,101,108,100,32]:List UInt8)).length+h.1.length<=9223372036854775807 then if((a++([102,105,101,108,100,32]:List UInt8))++h.1).length+([32]:List UInt8).length<=9223372036854775807 then oB (idx c d) fun m=>(if(((a++([102,105,101,108,100,32]:List UInt8))++h.1)++([32]:List UInt8)).length+m.2.length<=9223372036854775807 then if((((a++([102,105,101,108,100,32]:List UInt8))++h.1)++([32]:List UInt8))++m.2).length+([10]:List UInt8).length<=9223372036854775807 then if fits (d+1)then r ((((((a++([102,105,101,108,100,32]:List UInt8))++h.1)++([32]:List UInt8))++m.2)++([10]:List UInt8)),(d+1),p,c,o)else none else none else none)else none else none)else none else iter (fun q (b,f,w,x,i)=>bif decide (f<(i.length:Int))then if b.length+([110,117,109,32]:List UInt8).length<=9223372036854775807 then oB (idx i f) fun e=>(if(b++([110,117,109,32]:List UInt8)).length+e.1.length<=9223372036854775807 then if((b++([110,117,109,32]:List UInt8))++e.1).length+([32]:List UInt8).length<=9223372036854775807 then oB (idx i f) fun v=>(oB (s_l1Dec_m N N v.2) fun k=>if(((b++([110,117,109,32]:List UInt8))++e.1)++([32]:List UInt8)).length+k.length<=9223372036854775807 then if((((b++([110,117,109,32]:List UInt8))++e.1)++([32]:List UInt8))++k).length+([10]:List UInt8).length<=9223372036854775807 then if fits (f+1)then q ((((((b++([110,117,109,32]:List UInt8))++e.1)++([32]:List UInt8))++k)++([10]:List UInt8)),(f+1),w,x,i)else none else none else none)else none else none)else none else some b) N (a,(0:Int),p,c,o)) N (((([100,111,99,32]:List UInt8)++l)++([10]:List UInt8)),(0:Int),n,t,u)else none else none)
theorem jYI :mK 184 (bX [.agg [pI,.pv Y17,.pv Y13]] [pS] (c3A (s_l6Put_m N))):=
 mO (fC (jOx N N) ja) func184 rfl N (.seq .no (.seq .no (.seq (.seq .no (.block (.loop jXV .no))) (.seq (.seq .no (.block (.loop jYl .no))) .no)))) _
def jYV :Sh:=⟨pS:: .dead:: .box 2 0:: .dead:: .box 4 0:: .own 600005 .str 9 true::pI::dz 100 [],[(2,false,[pI,.nils,.nils]),(4,false,[pI,.own 700401 Y18 155 true,.own 700402 Y15 157 true])]⟩
def s_DocGet_m (s:List UInt8):Option (Int×Z10×Z9×Bool):=
 (oB (s_l1Cut_m N s 10 8) fun r=>iter (fun go (s2,lines,i,b,d,d2,d3)=>if fits (i+1)then bif decide ((i+1)<(lines.length:Int))then oB (idx lines i) fun e=>(oB (s_l1Cut_m N e 32 2) fun r2=>bif decide (i=0)then oB (idx r2 0) fun e2=>(bif decide (e2=([100,111,99]:List UInt8))then bif decide ((r2.length:Int)=2)then oB (idx r2 1) fun e3=>(oB (s_l1Num_m N e3) fun r3=>if fits (i+1)then go (s2,lines,(i+1),b,r3,d2,d3)else none)else(bif decide ((0:Int)<i)then oB (idx r2 0) fun e4=>(bif decide (e4=([102,105,101,108,100]:List UInt8))then bif decide ((r2.length:Int)=3)then oB (idx r2 1) fun e5=>(oB (idx r2 2) fun e6=>if room d2.length ([(e5,e6)]:Z7).length 32 then if fits (i+1)then go (s2,lines,(i+1),b,d,(d2++([(e5,e6)]:Z7)),d3)else none else none)else(bif decide ((0:Int)<i)then oB (idx r2 0) fun e7=>(bif decide (e7=([110,117,109]:List UInt8))then bif decide ((r2.length:Int)=3)then oB (idx r2 1) fun e8=>(oB (idx r2 2) fun e9=>oB (s_l1Num_m N e9) fun r4=>if room d3.length ([(e8,r4)]:Z5).length 24 then if fits (i+1)then go (s2,lines,(i+1),b,d,d2,(d3++([(e8,r4)]:Z5)))else none else none)else(some (0,([]:Z7),([]:Z5),false))else some (0,([]:Z7),([]:Z5),false))else some (0,([]:Z7),([]:Z5),false))else bif decide ((0:Int)<i)then oB (idx r2 0) fun e10=>(bif decide (e10=([110,117,109]:List UInt8))then bif decide ((r2.length:Int)=3)then oB (idx r2 1) fun e11=>(oB (idx r2 2) fun e12=>oB (s_l1Num_m N e12) fun r5=>if room d3.length ([(e11,r5)]:Z5).length 24 then if fits (i+1)then go (s2,lines,(i+1),b,d,d2,(d3++([(e11,r5)]:Z5)))else none else none)else(some (0,([]:Z7),([]:Z5),false))else some (0,([]:Z7),([]:Z5),false))else some (0,([]:Z7),([]:Z5),false))else bif decide ((0:Int)<i)then oB (idx r2 0) fun e13=>(bif decide (e13=([110,117,109]:List UInt8))then bif decide ((r2.length:Int)=3)then oB (idx r2 1) fun e14=>(oB (idx r2 2) fun e15=>oB (s_l1Num_m N e15) fun r6=>if room d3.length ([(e14,r6)]:Z5).length 24 then if fits (i+1)then go (s2,lines,(i+1),b,d,d2,(d3++([(e14,r6)]:Z5)))else none else none)else(some (0,([]:Z7),([]:Z5),false))else some (0,([]:Z7),([]:Z5),false))else some (0,([]:Z7),([]:Z5),false))else bif decide ((0:Int)<i)then oB (idx r2 0) fun e16=>(bif decide (e16=([102,105,101,108,100]:List UInt8))then bif decide ((r2.length:Int)=3)then oB (idx r2 1) fun e17=>(oB (idx r2 2) fun e18=>if room d2.length ([(e17,e18)]:Z7).length 32 then if fits (i+1)then go (s2,lines,(i+1),b,d,(d2++([(e17,e18)]:Z7)),d3)else none else none)else(bif decide ((0:Int)<i)then oB (idx r2 0) fun e19=>(bif decide (e19=([110,117,109]:List UInt8))then bif decide ((r2.length:Int)=3)then oB (idx r2 1) fun e20=>(oB (idx r2 2) fun e21=>oB (s_l1Num_m N e21) fun r7=>if room d3.length ([(e20,r7)]:Z5).length 24 then if fits (i+1)then go (s2,lines,(i+1),b,d,d2,(d3++([(e20,r7)]:Z5)))else none else none)else(some (0,([]:Z7),([]:Z5),false))else some (0,([]:Z7),([]:Z5),false))else some (0,([]:Z7),([]:Z5),false))else bif decide ((0:Int)<i)then oB (idx r2 0) fun e22=>(bif decide (e22=([110,117,109]:List UInt8))then bif decide ((r2.length:Int)=3)then oB (idx r2 1) fun e23=>(oB (idx r2 2) fun e24=>oB (s_l1Num_m N e24) fun r8=>if room d3.length ([(e23,r8)]:Z5).length 24 then if fits (i+1)then go (s2,lines,(i+1),b,d,d2,(d3++([(e23,r8)]:Z5)))else none else none)else(some (0,([]:Z7),([]:Z5),false))else some (0,([]:Z7),([]:Z5),false))else some (0,([]:Z7),([]:Z5),false))else bif decide ((0:Int)<i)then oB (idx r2 0) fun e25=>(bif decide (e25=([110,117,109]:List UInt8))then bif decide ((r2.length:Int)=3)then oB (idx r2 1) fun e26=>(oB (idx r2 2) fun e27=>oB (s_l1Num_m N e27) fun r9=>if room d3.length ([(e26,r9)]:Z5).length 24 then if fits (i+1)then go (s2,lines,(i+1),b,d,d2,(d3++([(e26,r9)]:Z5)))else none else none)else(some (0,([]:Z7),([]:Z5),false))else some (0,([]:Z7),([]:Z5),false))else some (0,([]:Z7),([]:Z5),false))else bif decide ((0:Int)<i)then oB (idx r2 0) fun e28=>(bif decide (e28=([102,105,101,108,100]:List UInt8))then bif decide ((r2.length:Int)=3)then oB (idx r2 1) fun e29=>(oB (idx r2 2) fun e30=>if room d2.length ([(e29,e30)]:Z7).length 32 then if fits (i+1)then go (s2,lines,(i+1),b,d,(d2++([(e29,e30)]:Z7)),d3)else none else none)else(bif decide ((0:Int)<i)then oB (idx r2 0) fun e31=>(bif decide (e31=([110,117,109]:List UInt8))then bif decide ((r2.length:Int)=3)then oB (idx r2 1) fun e32=>(oB (idx r2 2) fun e33=>oB (s_l1Num_m N e33) fun r10=>if room d3.length ([(e32,r10)]:Z5).length 24 then if fits (i+1)then go (s2,lines,(i+1),b,d,d2,(d3++([(e32,r10)]:Z5)))else none else none)else(some (0,([]:Z7),([]:Z5),false))else some (0,([]:Z7),([]:Z5),false))else some (0,([]:Z7),([]:Z5),false))else bif decide ((0:Int)<i)then oB (idx r2 0) fun e34=>(bif decide (e34=([110,117,109]:List UInt8))then bif decide ((r2.length:Int)=3)then oB (idx r2 1) fun e35=>(oB (idx r2 2) fun e36=>oB (s_l1Num_m N e36) fun r11=>if room d3.length ([(e35,r11)]:Z5).length 24 then if fits (i+1)then go (s2,lines,(i+1),b,d,d2,(d3++([(e35,r11)]:Z5)))else none else none)else(some (0,([]:Z7),([]:Z5),false))else some (0,([]:Z7),([]:Z5),false))else some (0,([]:Z7),([]:Z5),false))else bif decide ((0:Int)<i)then oB (idx r2 0) fun e37=>(bif decide (e37=([110,117,109]:List UInt8))then bif decide ((r2.length:Int)=3)then oB (idx r2 1) fun e38=>(oB (idx r2 2) fun e39=>oB (s_l1Num_m N e39) fun r12=>if room d3.length ([(e38,r12)]:Z5).length 24 then if fits (i+1)then go (s2,lines,(i+1),b,d,d2,(d3++([(e38,r12)]:Z5)))else none else none)else(some (0,([]:Z7),([]:Z5),false))else some (0,([]:Z7),([]:Z5),false))else some (0,([]:Z7),([]:Z5),false))else(oB (jcb N d d2 d3) fun r13=>bif !r13 then some (0,([]:Z7),([]:Z5),false)else oB (s_l6Put_m N d d2 d3) fun r14=>bif !decide (r14=s2)then some (0,([]:Z7),([]:Z5),false)else some (d,d2,d3,true))else none) N (s,r,(0:Int),(0:Int),(0:Int),([]:Z7),([]:Z5)))
theorem jYP :mK 178 (bX [pS] [.tup [.agg [pI,.own 1 Y18 155 true,.own 2 Y15 157 true],pB]] (c1A (s_DocGet_m N))):=
 mO (fC (jYN N) (fC (jYO N) (fC (jpD N) (fC (jYI N) ja)))) func178 rfl N (.seq .no (.seq .no (.seq .no (.seq (.seq .no (.block (.loop jYV .no))) .no)))) _
def jYZ :Sh:=⟨dz 4 (.own 600004 Y4 95 true:: .own 600005 tI 3 true:: .own 600006 .str 9 true::pS::pI::dz 73 []),[]⟩
def jY0 :Sh:=⟨dz 4 (.own 49 Y4 95 true:: .own 600005 tI 3 true:: .own 600006 .str 9 true::pS::pI:: .own 27001 .str 9 true::dz 72 []),[]⟩
def s_l19Docs_m (z:List UInt8):Option ((List Z0)×(List Int)):=
 (oB (s_l1Cut_m N z 10 400) fun x=>iter (fun k (j,m,e,l,h)=>bif decide (h<(e.length:Int))then oB (idx e h) fun B=>(oB (s_l1Cut_m N B 32 1) fun i=>meet (fun(p:(List Z0)×(List Int)×(List Z1)×Z1×Int×(List Z1))=>match p with|(n,f,b,c,a,r)=>bif decide ((r.length:Int)=2)then oB (idx r 0) fun y=>(bif decide (y=([100,101,97,100]:List UInt8))then oB (idx r 1) fun v=>(oB (s_l1Num_m N v) fun u=>if room f.length ([u]:List Int).length 8 then if fits (a+1)then k (n,(f++([u]:List Int)),b,c,(a+1))else none else none)else if fits (a+1)then bif decide ((a+1)<(b.length:Int))then oB (idx b a) fun t=>(if c.length+t.length<=9223372036854775807 then if(c++t).length+([10]:List UInt8).length<=9223372036854775807 then if fits (a+1)then k (n,f,b,((c++t)++([10]:List UInt8)),(a+1))else none else none else none)else(if fits (a+1)then k (n,f,b,c,(a+1))else none)else none)else if fits (a+1)then bif decide ((a+1)<(b.length:Int))then oB (idx b a) fun q=>(if c.length+q.length<=9223372036854775807 then if(c++q).length+([10]:List UInt8).length<=9223372036854775807 then if fits (a+1)then k (n,f,b,((c++q)++([10]:List UInt8)),(a+1))else none else none else none)else(if fits (a+1)then k (n,f,b,c,(a+1))else none)else none) fun o=>bif !decide (l=([]:List UInt8))then oB (idx i 0) fun A=>(bif !decide (A=([102,105,101,108,100]:List UInt8))then oB (idx i 0) fun w=>(bif !decide (w=([110,117,109]:List UInt8))then oB (s_DocGet_m N l) fun d=>(if room j.length ([(d.1,d.2.1,d.2.2.1)]:List Z0).length 56 then o ((j++([(d.1,d.2.1,d.2.2.1)]:List Z0)),m,e,([]:List UInt8),h,i)else none)else o (j,m,e,l,h,i))else o (j,m,e,l,h,i))else o (j,m,e,l,h,i))else some (j,m)) N (([]:List Z0),([]:List Int),x,([]:List UInt8),(0:Int)))
theorem jYQ :mK 105 (bX [pS] [.tup [.own 1 Y4 95 true,.own 2 tI 3 true]] (c1A (s_l19Docs_m N))):=
 mO (fC (jYN N) (fC (jYP N) (fC (jYO N) ja))) func105 rfl N (.seq .no (.seq .no (.seq .no (.seq .no (.seq .no (.seq (.seq .no (.block (.loop jYZ (.seq .no (.seq (.block (.seq .no (.meet jY0 .no .no))) .no))))) .no)))))) _
def jkS :Sh:=⟨.pv Y3:: .dead:: .dead::pI::dz 33 [],[]⟩
def jbU (j:List Z0):Z8:=
 (iter (fun d (b,a)=>bif decide (a<(b.length:Int))then oB (idx b a) fun c=>(oB (jcb N c.1 c.2.1 c.2.2) fun f=>bif !f then some false else bif decide ((0:Int)<a)then oB (idx b a) fun i=>(if fits (a-1)then oB (idx b (a-1)) fun e=>(bif decide (i.1<=e.1)then some false else if fits (a+1)then d (b,(a+1))else none)else none)else if fits (a+1)then d (b,(a+1))else none)else some (decide ((b.length:Int)<=16))) N (j,(0:Int)))
theorem jpx :mK 106 (bX [.pv Y3] [pB] (c1A (jbU N))):=
 mO (fC (jpD N) ja) func106 rfl N (.seq .no (.seq (.seq .no (.block (.loop jkS .no))) .no)) _
def jl5 :Sh:=⟨.pv (.sl .str)::pS::dz 3 (pI::dz 42 []),[]⟩
def s_l7Put_m (o:List Z1) (q:List UInt8):Option ((List Z1)):=
 (iter (fun n (a,b,c)=>bif decide (c<(a.length:Int))then oB (idx a c) fun t=>(bif Op.bytesLess t b then if fits (c+1)then n (a,b,(c+1))else none else bif decide (c<(a.length:Int))then oB (idx a c) fun r=>(bif decide (r=b)then some a else oB (cut a 0 c) fun e=>if room ([]:List Z1).length e.length 16 then if room (([]:List Z1)++e).length ([b]:List Z1).length 16 then oB (cut a c (a.length:Int)) fun j=>(if room ((([]:List Z1)++e)++([b]:List Z1)).length j.length 16 then some (((([]:List Z1)++e)++([b]:List Z1))++j)else none)else none else none)else oB (cut a 0 c) fun f=>if room ([]:List Z1).length f.length 16 then if room (([]:List Z1)++f).length ([b]:List Z1).length 16 then oB (cut a c (a.length:Int)) fun i=>(if room ((([]:List Z1)++f)++([b]:List Z1)).length i.length 16 then some (((([]:List Z1)++f)++([b]:List Z1))++i)else none)else none else none)else bif decide (c<(a.length:Int))then oB (idx a c) fun p=>(bif decide (p=b)then some a else oB (cut a 0 c) fun h=>if room ([]:List Z1).length h.length 16 then if room (([]:List Z1)++h).length ([b]:List Z1).length 16 then oB (cut a c (a.length:Int)) fun l=>(if room ((([]:List Z1)++h)++([b]:List Z1)).length l.length 16 then some (((([]:List Z1)++h)++([b]:List Z1))++l)else none)else none else none)else oB (cut a 0 c) fun d=>if room ([]:List Z1).length d.length 16 then if room (([]:List Z1)++d).length ([b]:List Z1).length 16 then oB (cut a c (a.length:Int)) fun k=>(if room ((([]:List Z1)++d)++([b]:List Z1)).length k.length 16 then some (((([]:List Z1)++d)++([b]:List Z1))++k)else none)else none else none) N (o,q,(0:Int)))
theorem jgt :mK 234 (bX [.pv (.sl .str),pS] [.pv (.sl .str)] (c2A (s_l7Put_m N))):=
 mO ja func234 rfl N (.seq .no (.seq .no (.seq (.block (.loop jl5 .no)) .no))) _
def joT :Sh:=⟨.pv Y3:: .dead:: .dead:: .pv (.sl .str)::pI::dz 30 [],[]⟩
def jkn :Sh:=⟨.pv Y3:: .dead:: .dead:: .pv (.sl .str)::pI::pI::dz 29 [],[]⟩
def s_l7Names_m (o:List Z0):Option ((List Z1)):=
 (iter (fun m (i,f,e)=>bif decide (e<(i.length:Int))then iter (fun l (c,h,a,b)=>oB (idx c a) fun p=>bif decide (b<(p.2.1.length:Int))then oB (idx c a) fun n=>(oB (idx n.2.1 b) fun j=>oB (s_l7Put_m N h j.1) fun k=>if fits (b+1)then l (c,k,a,(b+1))else none)else if fits (a+1)then m (c,h,(a+1))else none) N (i,f,e,(0:Int))else some f) N (o,([]:List Z1),(0:Int)))
theorem jlz :mK 180 (bX [.pv Y3] [.pv (.sl .str)] (c1A (s_l7Names_m N))):=
 mO (fC (jgt N) ja) func180 rfl N (.seq .no (.seq .no (.seq (.seq .no (.block (.loop joT (.seq .no (.seq (.block (.seq .no (.block (.loop jkn .no)))) .no))))) .no))) _
def jl8 :Sh:=⟨.dead::pS:: .box 2 0:: .dead:: .dead::pI::dz 21 [],[(2,false,[pI,.pv Y17,.pv Y13])]⟩
def s_l6Field_m (d:Int) (k:Z7) (m:Z5) (n:List UInt8):Option (Z1):=
 (iter (fun f (c,a,i,b,j)=>bif decide (a<(b.length:Int))then oB (idx b a) fun l=>(bif decide (l.1=c)then oB (idx b a) fun h=>(some h.2)else if fits (a+1)then f (c,(a+1),i,b,j)else none)else some ([]:List UInt8)) N (n,(0:Int),d,k,m))
theorem jhA :mK 236 (bX [.agg [pI,.pv Y17,.pv Y13],pS] [pS] (c4A (s_l6Field_m N))):=
 mO ja func236 rfl N (.seq .no (.seq (.seq .no (.block (.loop jl8 .no))) .no)) _
def jo3 :Sh:=⟨pS:: .dead:: .dead:: .own 600003 Y7 233 true::pI::dz 50 [],[]⟩
def jm6 :Sh:=⟨pS:: .dead:: .dead:: .own 600003 Y7 233 true::pI:: .own 600005 (.int .u8) 5 true::pI::dz 48 [],[]⟩
def jtK :Sh:=⟨pS:: .dead:: .dead:: .own 600003 Y7 233 true::pI:: .pv (.sl (.int .u8))::pI::dz 48 [],[]⟩
def jb3 (E:List UInt8):Option ((List Z11)):=
 (iter (fun l (t,u,m)=>bif decide (m<(t.length:Int))then iter (fun z (c,h,a,b,k)=>bif decide (a<(c.length:Int))then oB (idx c a) fun B=>(oB (jt N (B.toNat:Int)) fun D=>bif !decide (D=0)then oB (idx c a) fun G=>(oB (jt N (G.toNat:Int)) fun x=>if room b.length ([x]:List Int).length 1 then if fits (a+1)then z (c,h,(a+1),(b++([x]:List Int)),k)else none else none)else meet (fun(d:Z1×(List Z11)×Int×(List Int)×Int)=>match d with|(r,i,e,o,p)=>bif decide ((0:Int)<o.length)then if room i.length ([((bytesOf o),(i.length:Int),p,e)]:List Z11).length 40 then if fits (e+1)then l (r,(i++([((bytesOf o),(i.length:Int),p,e)]:List Z11)),(e+1))else none else none else if fits (e+1)then l (r,i,(e+1))else none) fun q=>bif decide ((12:Int)<b.length)then oB (cut b 0 12) fun A=>(q (c,h,a,A,k))else q (c,h,a,b,k))else meet (fun(d:Z1×(List Z11)×Int×(List Int)×Int)=>match d with|(y,j,f,n,w)=>bif decide ((0:Int)<n.length)then if room j.length ([((bytesOf n),(j.length:Int),w,f)]:List Z11).length 40 then if fits (f+1)then l (y,(j++([((bytesOf n),(j.length:Int),w,f)]:List Z11)),(f+1))else none else none else if fits (f+1)then l (y,j,(f+1))else none) fun v=>bif decide ((12:Int)<b.length)then oB (cut b 0 12) fun C=>(v (c,h,a,C,k))else v (c,h,a,b,k)) N (t,u,m,([]:List Int),m)else some u) N (E,([]:List Z11),(0:Int)))
theorem jsr :mK 333 (bX [pS] [.own 1 Y7 233 true] (c1A (jb3 N))):=
 mO (fC (jfG N) ja) func333 rfl N (.seq .no (.seq .no (.seq (.seq .no (.block (.loop jo3 (.seq .no (.seq (.block (.seq .no (.seq .no (.seq (.block (.loop jm6 .no)) (.meet jtK .no .no))))) .no))))) .no))) _
def jmf :Sh:=⟨.dead:: .dead:: .box 2 0:: .dead:: .dead:: .own 600005 Y15 162 true:: .own 600006 Y7 233 true::pI::dz 43 [],[(2,false,[.pv (.sl .str),.pv Y14])]⟩
def jbY (l:List Z1) (r:List Z4) (o:List UInt8):Option (Z9):=
 (oB (jb3 N o) fun n=>iter (fun e (d,b,a,c,h)=>bif decide (a<(b.length:Int))then oB (idx b a) fun q=>(oB (jaq N q.1) fun f=>oB (idx b a) fun p=>oB (jap N c p.1) fun j=>bif !j then oB (jap N c f) fun m=>(bif !m then oB (idx b a) fun i=>(if room d.length ([(f,i.2.1)]:Z5).length 24 then if fits (a+1)then e ((d++([(f,i.2.1)]:Z5)),b,(a+1),c,h)else none else none)else if fits (a+1)then e (d,b,(a+1),c,h)else none)else if fits (a+1)then e (d,b,(a+1),c,h)else none)else some d) N (([]:Z5),n,(0:Int),l,r))
theorem jrk :mK 298 (bX [.agg [.pv (.sl .str),.pv Y14],pS] [.own 1 Y15 162 true] (c3A (jbY N))):=
 mO (fC (jsr N) (fC (jfZ N) (fC (jhP N) ja))) func298 rfl N (.seq .no (.seq .no (.seq .no (.seq (.seq .no (.block (.loop jmf .no))) .no)))) _
def jrL :Sh:=⟨.pv Y13:: .pv (.sl .str)::dz 3 (pI::dz 36 []),[]⟩
def jcC (j:Z5) (l:List Z1):Z8:=
 (iter (fun h (b,c,a)=>bif decide (a<(c.length:Int))then bif decide ((b.length:Int)<=a)then some false else(oB (idx b a) fun k=>oB (idx c a) fun i=>bif !decide (k.1=i)then some false else oB (idx b a) fun e=>oB (idx b 0) fun d=>if fits (d.2+a)then bif !decide (e.2=(d.2+a))then some false else(if fits (a+1)then h (b,c,(a+1))else none)else none)else some true) N (j,l,(0:Int)))
theorem jtg :mK 334 (bX [.pv Y13,.pv (.sl .str)] [pB] (c2A (jcC N))):=
 mO ja func334 rfl N (.seq .no (.seq (.seq .no (.block (.loop jrL .no))) .no)) _
def jlL :Sh:=⟨.dead:: .pv Y13:: .box 2 0:: .dead:: .dead::pI::pI::dz 38 [],[(2,false,[.pv (.sl .str),.pv Y14])]⟩
def jcJ (m:List Z1) (o:List Z4) (l:Z5):Z12:=
 (iter (fun f (c,d,a,e,b)=>bif decide (a<(b.length:Int))then oB (idx b a) fun n=>(oB (jcC N c n.1) fun i=>bif i then bif decide (d<0)then if fits (a+1)then f (c,a,(a+1),e,b)else none else(oB (idx b a) fun k=>oB (idx b d) fun h=>bif decide ((h.1.length:Int)<(k.1.length:Int))then if fits (a+1)then f (c,a,(a+1),e,b)else none else if fits (a+1)then f (c,d,(a+1),e,b)else none)else if fits (a+1)then f (c,d,(a+1),e,b)else none)else some d) N (l,((-1):Int),(0:Int),m,o))
theorem jqp :mK 299 (bX [.agg [.pv (.sl .str),.pv Y14],.pv Y13] [pI] (c3A (jcJ N))):=
 mO (fC (jtg N) ja) func299 rfl N (.seq .no (.seq .no (.seq (.seq .no (.block (.loop jlL .no))) .no))) _
def jnK :Sh:=⟨.dead:: .dead:: .box 2 0:: .dead:: .dead:: .own 600005 Y15 162 true:: .pv Y13::dz 45 [],[(2,false,[.pv (.sl .str),.pv Y14])]⟩
def ja5 (h:List Z1) (l:List Z4) (r:List UInt8):Option (Z9):=
 (oB (jbY N h l r) fun p=>iter (fun f (b,a,d,c)=>bif decide ((0:Int)<a.length)then oB (jcJ N d c a) fun e=>(bif decide (e<0)then oB (idx a 0) fun k=>(if room b.length ([k]:Z5).length 24 then oB (cut a 1 (a.length:Int)) fun n=>(f ((b++([k]:Z5)),n,d,c))else none)else oB (idx c e) fun j=>oB (idx a 0) fun i=>if room b.length ([(j.2,i.2)]:Z5).length 24 then oB (idx c e) fun q=>(oB (cut a (q.1.length:Int) (a.length:Int)) fun o=>f ((b++([(j.2,i.2)]:Z5)),o,d,c))else none)else some b) N (([]:Z5),p,h,l))
theorem jiO :mK 235 (bX [.agg [.pv (.sl .str),.pv Y14],pS] [.own 1 Y15 162 true] (c3A (ja5 N))):=
 mO (fC (jrk N) (fC (jqp N) ja)) func235 rfl N (.seq .no (.seq .no (.seq .no (.seq (.block (.loop jnK .no)) .no)))) _
def jn9 :Sh:=⟨.dead:: .pv Y3::pS:: .box 3 0::dz 3 (.pv (.sl .str)::pI::dz 31 []),[(3,false,[.pv (.sl .str),.pv Y14])]⟩
def jrT :Sh:=⟨.dead:: .pv Y3::pS:: .box 3 0::dz 3 (.pv (.sl .str)::pI:: .own 600009 Y15 162 true::pI::dz 29 []),[(3,false,[.pv (.sl .str),.pv Y14])]⟩
def s_l7Terms_m (v:List Z1) (B:List Z4) (A:List Z0) (x:List UInt8):Option ((List Z1)):=
 (iter (fun u (h,i,m,d,j,p)=>bif decide (d<(h.length:Int))then oB (idx h d) fun f=>(oB (s_l6Field_m N f.1 f.2.1 f.2.2 i) fun y=>oB (ja5 N j p y) fun w=>iter (fun t (n,l,o,e,c,a,q,k)=>bif decide (a<(c.length:Int))then oB (idx c a) fun z=>(oB (s_l7Put_m N o z.1) fun r=>if fits (a+1)then t (n,l,r,e,c,(a+1),q,k)else none)else if fits (e+1)then u (n,l,o,(e+1),q,k)else none) N (h,i,m,d,w,(0:Int),j,p))else some m) N (A,x,([]:List Z1),(0:Int),v,B))
theorem jqQ :mK 181 (bX [.agg [.pv (.sl .str),.pv Y14],.pv Y3,pS] [.pv (.sl .str)] (c4A (s_l7Terms_m N))):=
 mO (fC (jhA N) (fC (jiO N) (fC (jgt N) ja))) func181 rfl N (.seq .no (.seq .no (.seq (.seq .no (.block (.loop jn9 (.seq .no (.seq (.block (.seq .no (.seq .no (.block (.loop jrT .no))))) .no))))) .no))) _
def jnY :Sh:=⟨dz 3 (pS::dz 5 (.own 600009 tI 3 true:: .own 600010 Y15 162 true::pI::dz 28 [])),[]⟩
def s_l7Post_m (l:List Z1) (r:List Z4) (i:Int) (k:Z7) (m:Z5) (o:List UInt8) (h:List UInt8):Option ((List Int)):=
 (oB (s_l6Field_m N i k m o) fun p=>oB (ja5 N l r p) fun n=>iter (fun e (d,c,b,a)=>bif decide (a<(b.length:Int))then oB (idx b a) fun q=>(bif decide (q.1=d)then oB (idx b a) fun f=>(if room c.length ([f.2]:List Int).length 8 then if fits (a+1)then e (d,(c++([f.2]:List Int)),b,(a+1))else none else none)else if fits (a+1)then e (d,c,b,(a+1))else none)else some c) N (h,([]:List Int),n,(0:Int)))
theorem js6 :mK 237 (bX [.agg [.pv (.sl .str),.pv Y14],.agg [pI,.pv Y17,.pv Y13],pS,pS] [.own 1 tI 3 true] (c7A (s_l7Post_m N))):=
 mO (fC (jhA N) (fC (jiO N) ja)) func237 rfl N (.seq .no (.seq .no (.seq .no (.seq (.seq .no (.block (.loop jnY .no))) .no)))) _
def jkw :Sh:=⟨.dead:: .pv Y3::pS::pS:: .box 4 0::dz 3 (.box 8 0:: .box 9 0::pI::dz 34 []),[(4,false,[.pv (.sl .str),.pv Y14]),(8,false,[pS,pS,.nils]),(9,false,[pS,pS,.own 700902 Y12 241 true])]⟩
def s_l7Entry_m (u:List Z1) (w:List Z4) (v:List Z0) (r:List UInt8) (m:List UInt8):Option Z2:=
 (iter (fun n (b,d,f,a,e,j,p,q,l,k,c)=>bif decide (a<(b.length:Int))then oB (idx b a) fun h=>(oB (s_l7Post_m N e j h.1 h.2.1 h.2.2 d f) fun i=>bif decide ((0:Int)<i.length)then oB (idx b a) fun o=>(if room c.length ([(o.1,i)]:Z6).length 32 then if fits (a+1)then n (b,d,f,(a+1),e,j,p,q,l,k,(c++([(o.1,i)]:Z6)))else none else none)else if fits (a+1)then n (b,d,f,(a+1),e,j,p,q,l,k,c)else none)else some (l,k,c)) N (v,r,m,(0:Int),u,w,([]:List UInt8),([]:List UInt8),r,m,([]:Z6)))
theorem jtr :mK 182 (bX [.agg [.pv (.sl .str),.pv Y14],.pv Y3,pS,pS] [.agg [pS,pS,.own 1 Y12 241 true]] (c5A (s_l7Entry_m N))):=
 mO (fC (js6 N) ja) func182 rfl N (.seq .no (.seq .no (.seq (.seq .no (.block (.loop jkw .no))) .no))) _
def s_l7CopyDoc_m (N:Nat) (c:Int) (b:Z7) (a:Z5):Option Z0:=
 (if room ([]:Z7).length b.length 32 then if room ([]:Z5).length a.length 24 then some (c,(([]:Z7)++b),(([]:Z5)++a))else none else none)
theorem jtC :mK 183 (bX [.agg [pI,.pv Y17,.pv Y13]] [.agg [pI,.own 1 Y18 155 true,.own 2 Y15 157 true]] (c3A (s_l7CopyDoc_m N))):=
 mO ja func183 rfl N .no _
def jn8 :Sh:=⟨.dead:: .pv Y3:: .box 2 0:: .dead:: .box 4 0:: .box 5 0:: .pv (.sl .str)::pI::dz 58 [],[(2,false,[.pv (.sl .str),.pv Y14]),(4,false,[.nils,.nils]),(5,false,[.nils,.own 700501 Y6 167 true])]⟩
def jpr :Sh:=⟨.dead:: .pv Y3:: .box 2 0:: .dead:: .box 4 0:: .box 5 0:: .pv (.sl .str)::pI:: .pv (.sl .str)::pI::dz 56 [],[(2,false,[.pv (.sl .str),.pv Y14]),(4,false,[.nils,.nils]),(5,false,[.nils,.own 700501 Y6 167 true])]⟩
def jn0 :Sh:=⟨.dead:: .pv Y3:: .dead:: .dead:: .box 4 0:: .box 5 0::dz 4 (pI::dz 55 []),[(4,false,[.nils,.nils]),(5,false,[.own 700500 Y4 95 true,.own 700501 Y6 167 true])]⟩
def s_l7Of_m (C:List Z1) (K:List Z4) (y:List Z0):Option ((List Z0)×(List Z2)):=
 (oB (s_l7Names_m N y) fun G=>iter (fun A (q,l,h,u,x,w)=>bif decide (h<(l.length:Int))then oB (idx l h) fun I=>(oB (s_l7Terms_m N u x q I) fun D=>iter (fun z (i,o,d,n,b,p,f,e)=>bif decide (b<(n.length:Int))then oB (idx o d) fun H=>(oB (idx n b) fun E=>oB (s_l7Entry_m N p f i H E) fun r=>if room e.length ([r]:List Z2).length 56 then if fits (b+1)then z (i,o,d,n,(b+1),p,f,(e++([r]:List Z2)))else none else none)else if fits (d+1)then A (i,o,(d+1),p,f,e)else none) N (q,l,h,D,(0:Int),u,x,w))else iter (fun B (j,c,m,t)=>bif decide (c<(j.length:Int))then oB (idx j c) fun k=>(oB (s_l7CopyDoc_m N k.1 k.2.1 k.2.2) fun v=>if room m.length ([v]:List Z0).length 56 then if fits (c+1)then B (j,(c+1),(m++([v]:List Z0)),t)else none else none)else some (m,t)) N (q,(0:Int),([]:List Z0),w)) N (y,G,(0:Int),C,K,([]:List Z2)))
theorem jmU :mK 107 (bX [.agg [.pv (.sl .str),.pv Y14],.pv Y3] [.agg [.own 1 Y4 95 true,.own 2 Y6 167 true]] (c3A (s_l7Of_m N))):=
 mO (fC (jlz N) (fC (jqQ N) (fC (jtr N) (fC (jtC N) ja)))) func107 rfl N (.seq .no (.seq .no (.seq .no (.seq (.seq .no (.block (.loop jn8 (.seq .no (.seq (.block (.seq .no (.seq .no (.block (.loop jpr .no))))) .no))))) (.seq (.seq .no (.block (.loop jn0 .no))) .no))))) _
def jnI :Sh:=⟨.pv Y19:: .pv Y19::dz 3 (pI::dz 20 []),[]⟩
def jb1 (e:List Int) (c:List Int):Z8:=
 (bif !decide ((e.length:Int)=(c.length:Int))then some false else iter (fun h (b,d,a)=>bif decide (a<(b.length:Int))then oB (idx b a) fun j=>(oB (idx d a) fun i=>bif !decide (j=i)then some false else if fits (a+1)then h (b,d,(a+1))else none)else some true) N (e,c,(0:Int)))
theorem jlH :mK 292 (bX [.pv Y19,.pv Y19] [pB] (c2A (jb1 N))):=
 mO ja func292 rfl N (.seq .no (.seq .no (.seq (.seq .no (.block (.loop jnI .no))) .no))) _
def jnx :Sh:=⟨.dead:: .dead:: .box 2 0:: .box 3 0:: .dead::pI::dz 57 [],[(2,false,[pS,pS,.pv Y11]),(3,false,[pS,pS,.pv Y11])]⟩
def jbQ (h:List UInt8) (e:List UInt8) (j:Z6) (d:List UInt8) (f:List UInt8) (i:Z6):Z8:=
 (bif !decide (h=d)then some false else bif !decide (e=f)then some false else bif !decide ((j.length:Int)=(i.length:Int))then some false else iter (fun l (a,m,t,b,r,u,c)=>bif decide (a<(b.length:Int))then oB (idx b a) fun v=>(oB (idx c a) fun q=>bif !decide (v.1=q.1)then some false else oB (idx b a) fun n=>oB (idx c a) fun o=>oB (jb1 N n.2 o.2) fun p=>bif !p then some false else if fits (a+1)then l ((a+1),m,t,b,r,u,c)else none)else some true) N ((0:Int),h,e,j,d,f,i))
theorem jtG :mK 225 (bX [.agg [pS,pS,.pv Y11],.agg [pS,pS,.pv Y11]] [pB] (c6A (jbQ N))):=
 mO (fC (jlH N) ja) func225 rfl N (.seq .no (.seq .no (.seq (.seq .no (.block (.loop jnx .no))) .no))) _
def jrW :Sh:=⟨dz 3 (.box 3 0:: .dead:: .box 5 0::pI::dz 39 []),[(3,false,[.pv Y3,.pv Y5]),(5,false,[.own 700500 Y4 95 true,.own 700501 Y6 167 true])]⟩
def jcR (j:List Z1) (k:List Z4) (d:List Z0) (i:List Z2):Z8:=
 (oB (jcw N j k) fun q=>bif !q then some false else oB (jbU N d) fun o=>bif !o then some false else oB (s_l7Of_m N j k d) fun c=>bif !decide ((c.2.length:Int)=(i.length:Int))then some false else iter (fun m (a,r,h,n,b)=>bif decide (a<(b.length:Int))then oB (idx b a) fun f=>(oB (idx h a) fun e=>oB (jbQ N f.1 f.2.1 f.2.2 e.1 e.2.1 e.2.2) fun p=>bif !p then some false else if fits (a+1)then m ((a+1),r,h,n,b)else none)else some true) N ((0:Int),d,i,c.1,c.2))
theorem jpm :mK 166 (bX [.agg [.pv (.sl .str),.pv Y14],.agg [.pv Y3,.pv Y5]] [pB] (c4A (jcR N))):=
 mO (fC (jtf N) (fC (jpx N) (fC (jmU N) (fC (jtG N) ja)))) func166 rfl N (.seq .no (.seq .no (.seq .no (.seq .no (.seq (.seq .no (.block (.loop jrW .no))) .no))))) _
def jCI :Sh:=⟨.pv Y19:: .dead:: .dead::pI::dz 31 [],[]⟩
def jx3 (i:List Int):Z8:=
 (iter (fun c (b,a)=>bif decide (a<(b.length:Int))then oB (idx b a) fun j=>(oB (jJ N j 0 999999999) fun e=>bif !e then some false else bif decide ((0:Int)<a)then oB (idx b a) fun h=>(if fits (a-1)then oB (idx b (a-1)) fun d=>(bif decide (h<=d)then some false else if fits (a+1)then c (b,(a+1))else none)else none)else if fits (a+1)then c (b,(a+1))else none)else some (decide ((b.length:Int)<=60))) N (i,(0:Int)))
theorem jC9 :mK 167 (bX [.pv Y19] [pB] (c1A (jx3 N))):=
 mO (fC (jcL N) ja) func167 rfl N (.seq .no (.seq (.seq .no (.block (.loop jCI .no))) .no)) _
def jA0 :Sh:=⟨.dead::pI:: .box 2 0:: .dead:: .box 4 0::pI::dz 21 [],[(2,false,[.pv Y3,.pv Y5]),(4,false,[pI,.nils,.nils])]⟩
def s_l12Doc_m (f:List Z0) (i:List Z2) (k:Int):Option Z0:=
 (iter (fun j (d,a,b,h,l)=>bif decide (a<(b.length:Int))then oB (idx b a) fun m=>(bif decide (m.1=d)then oB (idx b a) fun c=>(some (c.1,c.2.1,c.2.2))else if fits (a+1)then j (d,(a+1),b,h,l)else none)else some (0,([]:Z7),([]:Z5))) N (k,(0:Int),f,i,(0:Int)))
theorem jDn :mK 168 (bX [.agg [.pv Y3,.pv Y5],pI] [.agg [pI,.pv Y17,.pv Y13]] (c3A (s_l12Doc_m N))):=
 mO ja func168 rfl N (.seq .no (.seq (.seq .no (.block (.loop jA0 .no))) .no)) _
def jJe :Sh:=⟨.pv Y19::pI::dz 3 (pI::dz 12 []),[]⟩
def s_l8Has_m (f:List Int) (h:Int):Z8:=
 (iter (fun e (b,c,a)=>bif decide (a<(b.length:Int))then oB (idx b a) fun i=>(bif decide (i=c)then some true else if fits (a+1)then e (b,c,(a+1))else none)else some false) N (f,h,(0:Int)))
theorem jIb :mK 293 (bX [.pv Y19,pI] [pB] (c2A (s_l8Has_m N))):=
 mO ja func293 rfl N (.seq .no (.seq (.seq .no (.block (.loop jJe .no))) .no)) _
def s_l18Dead_m (e:List Z0) (d:List Z2) (b:List Int) (c:Int):Z8:=
 (oB (s_l8Has_m N b c) fun a=>some a)
theorem jIy :mK 226 (bX [.agg [.pv Y3,.pv Y5,.pv Y19],pI] [pB] (c4A (s_l18Dead_m N))):=
 mO (fC (jIb N) ja) func226 rfl N .no _
def jIl :Sh:=⟨.pv Y3:: .dead:: .dead:: .box 3 0:: .dead::pI::dz 32 [],[(3,false,[pI,.pv Y17,.pv Y13])]⟩
def s_l18Put_m (p:List Z0) (m:Int) (q:Z7) (r:Z5):Z14:=
 (iter (fun o (a,b,e,f,h)=>bif decide (b<(a.length:Int))then oB (idx a b) fun t=>(bif decide (t.1<e)then if fits (b+1)then o (a,(b+1),e,f,h)else none else oB (cut a 0 b) fun c=>if room ([]:List Z0).length c.length 56 then oB (s_l7CopyDoc_m N e f h) fun j=>(if room (([]:List Z0)++c).length ([j]:List Z0).length 56 then oB (cut a b (a.length:Int)) fun l=>(if room ((([]:List Z0)++c)++([j]:List Z0)).length l.length 56 then some (((([]:List Z0)++c)++([j]:List Z0))++l)else none)else none)else none)else oB (cut a 0 b) fun d=>if room ([]:List Z0).length d.length 56 then oB (s_l7CopyDoc_m N e f h) fun i=>(if room (([]:List Z0)++d).length ([i]:List Z0).length 56 then oB (cut a b (a.length:Int)) fun k=>(if room ((([]:List Z0)++d)++([i]:List Z0)).length k.length 56 then some (((([]:List Z0)++d)++([i]:List Z0))++k)else none)else none)else none) N (p,(0:Int),m,q,r))
theorem jJy :mK 227 (bX [.pv Y3,.agg [pI,.pv Y17,.pv Y13]] [.own 1 Y4 95 false] (c4A (s_l18Put_m N))):=
 mO (fC (jtC N) ja) func227 rfl N (.seq .no (.seq .no (.seq (.block (.loop jIl .no)) .no))) _
def jI2 :Sh:=⟨.dead:: .box 1 0:: .dead:: .own 600003 Y4 95 false::pI::dz 45 [],[(1,false,[.pv (.sl .str),.pv Y14,.pv Y0])]⟩
def jJx :Sh:=⟨.dead:: .box 1 0:: .dead:: .own 600003 Y4 95 false::pI::pI::dz 44 [],[(1,false,[.pv (.sl .str),.pv Y14,.pv Y0])]⟩
def s_l18Docs_m (q:List Z1) (o:List Z4) (r:List Z3):Z14:=
 (iter (fun p (n,m,u,x,l)=>bif decide (m<(l.length:Int))then iter (fun k (h,a,b,j,e,c)=>oB (idx c a) fun y=>bif decide (b<(y.1.1.length:Int))then oB (idx c a) fun w=>(oB (idx w.1.1 b) fun d=>oB (idx c a) fun i=>oB (s_l18Dead_m N i.1.1 i.1.2 i.2 d.1) fun v=>bif !v then oB (s_l18Put_m N h d.1 d.2.1 d.2.2) fun t=>(if fits (b+1)then k (t,a,(b+1),j,e,c)else none)else if fits (b+1)then k (h,a,(b+1),j,e,c)else none)else if fits (a+1)then p (h,(a+1),j,e,c)else none) N (n,m,(0:Int),u,x,l)else some n) N (([]:List Z0),(0:Int),q,o,r))
theorem jH3 :mK 169 (bX [.agg [.pv (.sl .str),.pv Y14,.pv Y0]] [.own 1 Y4 95 false] (c3A (s_l18Docs_m N))):=
 mO (fC (jIy N) (fC (jJy N) ja)) func169 rfl N (.seq .no (.seq .no (.seq (.seq .no (.block (.loop jI2 (.seq .no (.seq (.block (.seq .no (.block (.loop jJx .no)))) .no))))) .no))) _
def jIz :Sh:=⟨.dead:: .box 1 0:: .dead::pI::dz 67 [],[(1,false,[.pv (.sl .str),.pv Y14,.pv Y0])]⟩
def jJd :Sh:=⟨.dead:: .box 1 0:: .dead::pI:: .box 4 0::pI::dz 22 (pB::dz 9 (pB::dz 32 [])),[(1,false,[.pv (.sl .str),.pv Y14,.pv Y0]),(4,false,[.pv Y3,.pv Y5,.pv Y19])]⟩
def s_l18Ok_m (v:List Z1) (q:List Z4) (w:List Z3):Z8:=
 (iter (fun u (i,d,e,b)=>bif decide (i<(b.length:Int))then oB (idx b i) fun a=>(oB (jcR N d e a.1.1 a.1.2) fun y=>bif !y then some false else oB (jx3 N a.2) fun m=>bif !m then some false else bif decide ((a.1.1.length:Int)<=(a.2.length:Int))then some false else iter (fun t (j,c,C,z,k,l,n,p,o,h)=>bif decide (c<(h.length:Int))then oB (idx h c) fun A=>(oB (s_l12Doc_m N p o A) fun r=>bif decide (r.1=0)then some false else if fits (c+1)then t (j,(c+1),C,z,k,l,n,p,o,h)else none)else if fits (j+1)then u ((j+1),k,l,n)else none) N (i,(0:Int),(!m),(decide ((a.1.1.length:Int)<=(a.2.length:Int))),d,e,b,a.1.1,a.1.2,a.2))else oB (jcw N d e) fun x=>bif x then bif decide ((b.length:Int)<=5)then oB (s_l18Docs_m N d e b) fun B=>(oB (jbU N B) fun D=>some D)else(some false)else some false) N ((0:Int),v,q,w))
theorem jIW :mK 92 (bX [.agg [.pv (.sl .str),.pv Y14,.pv Y0]] [pB] (c3A (s_l18Ok_m N))):=
 mO (fC (jpm N) (fC (jC9 N) (fC (jDn N) (fC (jtf N) (fC (jH3 N) (fC (jpx N) ja)))))) func92 rfl N (.seq .no (.seq (.seq .no (.block (.loop jIz (.seq .no (.seq (.block (.seq .no (.seq .no (.seq .no (.block (.loop jJd .no)))))) .no))))) .no)) _
def jX7 :Sh:=⟨.dead:: .box 1 0:: .dead::pS::pI::dz 36 [],[(1,false,[.pv Y3,.pv Y5,.pv Y19])]⟩
def jYu :Sh:=⟨.dead:: .box 1 0:: .dead::pS:: .dead::pI::dz 35 [],[(1,false,[.pv Y3,.pv Y5,.pv Y19])]⟩
def s_l19Seg_m (v:List Z0) (u:List Z2) (n:List Int):Option (Z1):=
 (iter (fun p (f,c,b,m,l)=>bif decide (c<(b.length:Int))then oB (idx b c) fun i=>(oB (s_l6Put_m N i.1 i.2.1 i.2.2) fun k=>if f.length+k.length<=9223372036854775807 then if fits (c+1)then p ((f++k),(c+1),b,m,l)else none else none)else iter (fun o (a,d,q,t,j)=>bif decide (d<(j.length:Int))then if a.length+([100,101,97,100,32]:List UInt8).length<=9223372036854775807 then oB (idx j d) fun r=>(oB (s_l1Dec_m N N r) fun h=>if(a++([100,101,97,100,32]:List UInt8)).length+h.length<=9223372036854775807 then if((a++([100,101,97,100,32]:List UInt8))++h).length+([10]:List UInt8).length<=9223372036854775807 then if fits (d+1)then o ((((a++([100,101,97,100,32]:List UInt8))++h)++([10]:List UInt8)),(d+1),q,t,j)else none else none else none)else none else some a) N (f,(0:Int),b,m,l)) N (([]:List UInt8),(0:Int),v,u,n))
theorem jX1 :mK 108 (bX [.agg [.pv Y3,.pv Y5,.pv Y19]] [pS] (c3A (s_l19Seg_m N))):=
 mO (fC (jYI N) (fC (jOx N N) ja)) func108 rfl N (.seq .no (.seq .no (.seq (.seq .no (.block (.loop jX7 .no))) (.seq (.seq .no (.block (.loop jYu .no))) .no)))) _
def s_l19Get_m (d:List Z1) (e:List Z4) (c:List UInt8):Option ((List Z0)×(List Z2)×(List Int)×Bool):=
 (oB (s_l19Docs_m N c) fun a=>oB (jbU N a.1) fun f=>bif !f then some (([]:List Z0),([]:List Z2),([]:List Int),false)else bif decide ((a.1.length:Int)=0)then some (([]:List Z0),([]:List Z2),([]:List Int),false)else oB (s_l7Of_m N d e a.1) fun b=>oB (s_l18Ok_m N d e ([(b,a.2)]:List Z3)) fun h=>bif !h then some (([]:List Z0),([]:List Z2),([]:List Int),false)else oB (s_l19Seg_m N b.1 b.2 a.2) fun i=>bif !decide (i=c)then some (([]:List Z0),([]:List Z2),([]:List Int),false)else some (b.1,b.2,a.2,true))
theorem jYR :mK 42 (bX [.agg [.pv (.sl .str),.pv Y14],pS] [.tup [.agg [.pv Y3,.pv Y5,.pv Y19],pB]] (c3A (s_l19Get_m N))):=
 mO (fC (jYQ N) (fC (jpx N) (fC (jmU N) (fC (jIW N) (fC (jX1 N) ja))))) func42 rfl N .no _
def jaw (N:Nat) (a:Int):Z8:=
 (bif decide ((97:Int)<=a)then bif decide (a<=122)then some true else(bif decide ((48:Int)<=a)then some (decide (a<=57))else some false)else bif decide ((48:Int)<=a)then some (decide (a<=57))else some false)
theorem jeK :mK 148 (bX [.pv (.int .u8)] [pB] (c1A (jaw N))):=
 mO ja func148 rfl N .no _
def jm (N:Nat) (a:Int) (c:Int) (b:Int):Z8:=
 (bif decide (c<=a)then some (decide (a<=b))else some false)
theorem jY :mK 111 (bX [pI,pI,pI] [pB] (c3A (jm N))):=
 mO ja func111 rfl N .no _
def jqW :Sh:=⟨pS::dz 4 (pI::pI::dz 11 []),[]⟩
def jO (c:List UInt8):Z8:=
 (iter (fun h (b,d,a)=>bif decide (a<d)then oB (idx b a) fun j=>(oB (jaw N (j.toNat:Int)) fun f=>bif !f then some false else if fits (a+1)then h (b,d,(a+1))else none)else oB (jm N (b.length:Int) 1 12) fun e=>some e) N (c,(c.length:Int),(0:Int)))
theorem jcM :mK 71 (bX [pS] [pB] (c1A (jO N))):=
 mO (fC (jeK N) (fC (jY N) ja)) func71 rfl N (.seq .no (.seq (.seq .no (.block (.loop jqW .no))) .no)) _
def jmc :Sh:=⟨.pv (.sl .str)::dz 4 (.pv (.sl .str)::pI::pI::dz 21 []),[]⟩
def jb2 (d:List Z1):Z8:=
 (iter (fun f (c,b,e,a)=>bif decide (a<e)then oB (idx b a) fun h=>(oB (jO N h) fun i=>bif !i then some false else bif decide ((0:Int)<a)then if fits (a-1)then oB (idx c (a-1)) fun k=>(bif !Op.bytesLess k h then some false else if fits (a+1)then f (c,b,e,(a+1))else none)else none else if fits (a+1)then f (c,b,e,(a+1))else none)else some true) N (d,d,(d.length:Int),(0:Int)))
theorem jtw :mK 110 (bX [.pv (.sl .str)] [pB] (c1A (jb2 N))):=
 mO (fC (jcM N) ja) func110 rfl N (.seq .no (.seq (.seq .no (.block (.loop jmc .no))) .no)) _
def jdF (N:Nat) (a:List UInt8) (b:List UInt8):Z8:=
 (bif decide ((b.length:Int)<=(a.length:Int))then if fits ((a.length:Int)-(b.length:Int))then oB (cut a ((a.length:Int)-(b.length:Int)) (a.length:Int)) fun c=>(some (decide (c=b)))else none else some false)
theorem jpU :mK 238 (bX [pS,pS] [pB] (c2A (jdF N))):=
 mO ja func238 rfl N .no _
def jcN (b:List UInt8) (c:List UInt8):Z8:=
 (oB (jdF N b c) fun a=>some a)
theorem jsu :mK 185 (bX [pS,pS] [pB] (c2A (jcN N))):=
 mO (fC (jpU N) ja) func185 rfl N .no _
def jod :Sh:=⟨pS:: .dead:: .dead::pB::dz 32 [],[]⟩
def jnf :Sh:=⟨pS:: .dead:: .dead::pB::dz 6 (.own 600010 .str 9 true::pI::pI::dz 23 []),[]⟩
def jaB (i:List UInt8):Option (Z1):=
 (oB (jO N i) fun o=>bif !o then some ([]:List UInt8)else iter (fun k (l,n)=>bif n then iter (fun j (a,d,f,h,b)=>bif decide (b<h)then oB (idx f b) fun c=>(oB (jcN N a c) fun m=>bif m then if fits ((a.length:Int)-(c.length:Int))then bif decide ((3:Int)<=((a.length:Int)-(c.length:Int)))then if fits ((a.length:Int)-(c.length:Int))then oB (cut a 0 ((a.length:Int)-(c.length:Int))) fun p=>(k (p,true))else none else(if fits (b+1)then j (a,d,f,h,(b+1))else none)else none else if fits (b+1)then j (a,d,f,h,(b+1))else none)else k (a,d)) N (l,false,([([105,110,103]:List UInt8),([101,100]:List UInt8),([101,115]:List UInt8),([108,121]:List UInt8),([115]:List UInt8)]:List Z1),(([([105,110,103]:List UInt8),([101,100]:List UInt8),([101,115]:List UInt8),([108,121]:List UInt8),([115]:List UInt8)]:List Z1).length:Int),(0:Int))else some l) N (i,true))
theorem jio :mK 112 (bX [pS] [pS] (c1A (jaB N))):=
 mO (fC (jcM N) (fC (jsu N) ja)) func112 rfl N (.seq .no (.seq .no (.seq (.seq .no (.block (.loop jod (.seq .no (.block (.seq .no (.seq .no (.block (.loop jnf .no))))))))) .no))) _
def jkJ :Sh:=⟨.pv (.sl .str)::pS::dz 5 (pI::pI::dz 10 []),[]⟩
def jdH (b:List Z1) (h:List UInt8):Z12:=
 (iter (fun i (c,e,d,a)=>bif decide (a<d)then oB (idx c a) fun j=>(bif decide (e=j)then some a else if fits (a+1)then i (c,e,d,(a+1))else none)else some (-1)) N (b,h,(b.length:Int),(0:Int)))
theorem jkZ :mK 186 (bX [.pv (.sl .str),pS] [pI] (c2A (jdH N))):=
 mO ja func186 rfl N (.seq .no (.seq (.seq .no (.block (.loop jkJ .no))) .no)) _
def jao (b:List Z1) (c:List UInt8):Z8:=
 (oB (jdH N b c) fun a=>some (decide ((0:Int)<=a)))
theorem jh5 :mK 113 (bX [.pv (.sl .str),pS] [pB] (c2A (jao N))):=
 mO (fC (jkZ N) ja) func113 rfl N .no _
def jmj :Sh:=⟨.dead:: .box 1 0::dz 22 (.pv Y14::pI::pI::dz 46 []),[(1,false,[.pv (.sl .str),.pv Y14])]⟩
def jrC :Sh:=⟨.dead:: .box 1 0::dz 22 (.pv Y14::pI::pI::dz 12 (pB::dz 7 (pB:: .dead:: .dead:: .pv (.sl .str)::pI::pI::dz 20 []))),[(1,false,[.pv (.sl .str),.pv Y14])]⟩
def jaj (f:List Z1) (d:List Z4):Z8:=
 (bif decide ((6:Int)<f.length)then some false else oB (jb2 N f) fun z=>bif !z then some false else bif decide ((4:Int)<d.length)then some false else iter (fun v (m,k,h,w,A)=>bif decide (h<k)then oB (idx m h) fun a=>(oB (jm N (a.1.length:Int) 1 3) fun y=>bif !y then some false else oB (jO N a.2) fun l=>bif !l then some false else oB (jaB N a.2) fun q=>bif !decide (q=a.2)then some false else iter (fun u (n,p,i,x,C,r,t,b,j,o)=>bif decide (b<t)then oB (idx r b) fun c=>(oB (jO N c) fun B=>bif !B then some false else oB (jaB N c) fun E=>bif !decide (E=c)then some false else oB (jao N j c) fun D=>bif D then some false else if fits (b+1)then u (n,p,i,x,C,r,t,(b+1),j,o)else none)else if fits (i+1)then v (n,p,(i+1),j,o)else none) N (m,k,h,(!l),(!decide (q=a.2)),a.1,(a.1.length:Int),(0:Int),w,A))else some true) N (d,(d.length:Int),(0:Int),f,d))
theorem jdX :mK 45 (bX [.agg [.pv (.sl .str),.pv Y14]] [pB] (c2A (jaj N))):=
 mO (fC (jtw N) (fC (jY N) (fC (jcM N) (fC (jio N) (fC (jh5 N) ja))))) func45 rfl N (.seq .no (.seq .no (.seq (.seq .no (.block (.loop jmj (.seq .no (.seq .no (.seq (.block (.seq .no (.seq .no (.seq .no (.block (.loop jrC .no)))))) .no)))))) .no))) _
def k_strings_Split_m (N:Nat) (b:List UInt8) (a:List UInt8):Option ((List Z1)):=splitM b a
 
def jYt (N:Nat):Model:=⟨⟨[pS,pS],[]⟩,⟨[.pv (.sl .str)],[]⟩,c2A (k_strings_Split_m N)⟩
theorem jYi :mK 46 (jYt N):=jYA
def k_internal_stringslite_HasPrefix_m (N:Nat) (b:List UInt8) (a:List UInt8):Z8:=
 (bif decide ((a.length:Int)<=(b.length:Int))then oB (cut b 0 (a.length:Int)) fun c=>(some (decide (c=a)))else some false)
theorem jXE :mK 118 (bX [pS,pS] [pB] (c2A (k_internal_stringslite_HasPrefix_m N))):=
 mO ja func118 rfl N .no _
def k_internal_stringslite_CutPrefix_m (a:List UInt8) (b:List UInt8):Option (Z1×Bool):=
 (oB (k_internal_stringslite_HasPrefix_m N a b) fun d=>bif !d then some (a,false)else oB (cut a (b.length:Int) (a.length:Int)) fun c=>some (c,true))
theorem jYb :mK 115 (bX [pS,pS] [.tup [pS,pB]] (c2A (k_internal_stringslite_CutPrefix_m N))):=
 mO (fC (jXE N) ja) func115 rfl N .no _
def k_strings_CutPrefix_m (b:List UInt8) (c:List UInt8):Option (Z1×Bool):=
 (oB (k_internal_stringslite_CutPrefix_m N b c) fun a=>some (a.1,a.2))
theorem jYg :mK 47 (bX [pS,pS] [.tup [pS,pB]] (c2A (k_strings_CutPrefix_m N))):=
 mO (fC (jYb N) ja) func47 rfl N .no _
def jXn (N:Nat) (a:List UInt8):Option Int:=atoiM a
 
def jYe (N:Nat):Model:=⟨⟨[pS],[]⟩,⟨[.tup [pI,.dead]],[]⟩,c1A (jXn N)⟩
theorem jXC :mK 48 (jYe N):=jYw
def k_strings_HasPrefix_m (b:List UInt8) (c:List UInt8):Z8:=
 (oB (k_internal_stringslite_HasPrefix_m N b c) fun a=>some a)
theorem jXS :mK 49 (bX [pS,pS] [pB] (c2A (k_strings_HasPrefix_m N))):=
 mO (fC (jXE N) ja) func49 rfl N .no _
def k_strings_Cut_m (N:Nat) (b:List UInt8) (a:List UInt8):Option (Z1×Z1×Bool):=cutM b a
 
def jYv (N:Nat):Model:=⟨⟨[pS,pS],[]⟩,⟨[.tup [pS,pS,pB]],[]⟩,c2A (k_strings_Cut_m N)⟩
theorem jX0 :mK 119 (jYv N):=jXX
def jYp :Sh:=⟨.dead:: .dead:: .box 2 0:: .box 3 0::dz 13 (.pv (.sl .str)::pI::pI::dz 51 []),[(2,false,[pI,.nils,.nils]),(3,false,[pI,.own 700301 Y18 155 true,.own 700302 Y15 157 true])]⟩
def jXo (m:List Z1):Option Z0:=
 (iter (fun j (f,h,a,k,i,c,d)=>bif decide (a<h)then oB (idx f a) fun p=>(oB (k_strings_Cut_m N p ([32]:List UInt8)) fun e=>oB (k_strings_Cut_m N e.2.1 ([32]:List UInt8)) fun b=>bif decide (e.1=([100,111,99]:List UInt8))then oB (jXn N e.2.1) fun n=>(if fits (a+1)then j (f,h,(a+1),k,n,c,d)else none)else bif decide (e.1=([102,105,101,108,100]:List UInt8))then if room c.length ([(b.1,b.2.1)]:Z7).length 32 then if fits (a+1)then j (f,h,(a+1),k,i,(c++([(b.1,b.2.1)]:Z7)),d)else none else none else bif decide (e.1=([110,117,109]:List UInt8))then oB (jXn N b.2.1) fun l=>(if room d.length ([(b.1,l)]:Z5).length 24 then if fits (a+1)then j (f,h,(a+1),k,i,c,(d++([(b.1,l)]:Z5)))else none else none)else if fits (a+1)then j (f,h,(a+1),k,i,c,d)else none)else some (i,c,d)) N (m,(m.length:Int),(0:Int),(0:Int),(0:Int),([]:Z7),([]:Z5)))
theorem jYG :mK 50 (bX [.pv (.sl .str)] [.agg [pI,.own 1 Y18 155 true,.own 2 Y15 157 true]] (c1A (jXo N))):=
 mO (fC (jX0 N) (fC (jXC N) ja)) func50 rfl N (.seq .no (.seq .no (.seq (.seq .no (.block (.loop jYp .no))) .no))) _
def jtd :Sh:=⟨pS::dz 4 (pI::pI::dz 16 []),[]⟩
def jaF (c:List UInt8):Z8:=
 (iter (fun f (b,d,a)=>bif decide (a<d)then oB (idx b a) fun h=>(bif decide ((h.toNat:Int)<32)then some false else oB (idx b a) fun i=>bif decide ((126:Int)<(i.toNat:Int))then some false else if fits (a+1)then f (b,d,(a+1))else none)else some (decide ((b.length:Int)<=160))) N (c,(c.length:Int),(0:Int)))
theorem jdK :mK 197 (bX [pS] [pB] (c1A (jaF N))):=
 mO ja func197 rfl N (.seq .no (.seq (.seq .no (.block (.loop jtd .no))) .no)) _
def jlC :Sh:=⟨.dead:: .box 1 0::dz 22 (.pv Y17::pI::pI::dz 66 []),[(1,false,[pI,.pv Y17,.pv Y13])]⟩
def jpt :Sh:=⟨.dead:: .box 1 0::dz 57 (.pv Y13::pI::pI::dz 31 []),[(1,false,[pI,.pv Y17,.pv Y13])]⟩
def i_DocOk_m (p:Int) (e:Z7) (t:Z5):Z8:=
 (oB (jm N p 1 9999) fun z=>bif !z then some false else bif decide ((3:Int)<e.length)then some false else bif decide ((3:Int)<t.length)then some false else iter (fun r (h,f,b,m,d,c)=>bif decide (b<f)then oB (idx h b) fun o=>(oB (jO N o.1) fun x=>bif !x then some false else oB (jaF N o.2) fun w=>bif !w then some false else bif decide ((0:Int)<b)then if fits (b-1)then oB (idx d (b-1)) fun B=>(bif !Op.bytesLess B.1 o.1 then some false else if fits (b+1)then r (h,f,(b+1),m,d,c)else none)else none else if fits (b+1)then r (h,f,(b+1),m,d,c)else none)else iter (fun q (k,n,a,u,v,j)=>bif decide (a<n)then oB (idx k a) fun l=>(oB (jO N l.1) fun y=>bif !y then some false else oB (jm N l.2 0 999999999) fun C=>bif !C then some false else bif decide ((0:Int)<a)then if fits (a-1)then oB (idx j (a-1)) fun A=>(bif !Op.bytesLess A.1 l.1 then some false else if fits (a+1)then q (k,n,(a+1),u,v,j)else none)else none else if fits (a+1)then q (k,n,(a+1),u,v,j)else none)else some true) N (c,(c.length:Int),(0:Int),m,d,c)) N (e,(e.length:Int),(0:Int),p,e,t))
theorem jh0 :mK 153 (bX [.agg [pI,.pv Y17,.pv Y13]] [pB] (c3A (i_DocOk_m N))):=
 mO (fC (jY N) (fC (jcM N) (fC (jdK N) ja))) func153 rfl N (.seq .no (.seq .no (.seq (.seq .no (.block (.loop jlC .no))) (.seq (.seq .no (.block (.loop jpt .no))) .no)))) _
def jpj :Sh:=⟨.pv Y3::dz 4 (.pv Y3::pI::pI::dz 26 []),[]⟩
def jbf (e:List Z0):Z8:=
 (iter (fun h (b,d,f,a)=>bif decide (a<f)then oB (idx d a) fun c=>(oB (i_DocOk_m N c.1 c.2.1 c.2.2) fun i=>bif !i then some false else bif decide ((0:Int)<a)then if fits (a-1)then oB (idx b (a-1)) fun k=>(bif decide (c.1<=k.1)then some false else if fits (a+1)then h (b,d,f,(a+1))else none)else none else if fits (a+1)then h (b,d,f,(a+1))else none)else some (decide ((b.length:Int)<=16))) N (e,e,(e.length:Int),(0:Int)))
theorem jjU :mK 73 (bX [.pv Y3] [pB] (c1A (jbf N))):=
 mO (fC (jh0 N) ja) func73 rfl N (.seq .no (.seq (.seq .no (.block (.loop jpj .no))) .no)) _
def jbO (N:Nat) (c:Int) (b:Z7) (a:Z5):Option Z0:=
 (if room ([]:Z7).length b.length 32 then if room ([]:Z5).length a.length 24 then some (c,(([]:Z7)++b),(([]:Z5)++a))else none else none)
theorem jrI :mK 196 (bX [.agg [pI,.pv Y17,.pv Y13]] [.agg [pI,.own 1 Y18 155 true,.own 2 Y15 157 true]] (c3A (jbO N))):=
 mO ja func196 rfl N .no _
def joW :Sh:=⟨dz 3 (.own 600003 Y4 95 true::dz 3 (.pv Y3::pI::pI::dz 10 [])),[]⟩
def jbV (f:List Z0):Z14:=
 (iter (fun j (b,h,e,a)=>bif decide (a<e)then oB (idx h a) fun c=>(oB (jbO N c.1 c.2.1 c.2.2) fun d=>if room b.length ([d]:List Z0).length 56 then if fits (a+1)then j ((b++([d]:List Z0)),h,e,(a+1))else none else none)else some b) N (([]:List Z0),f,(f.length:Int),(0:Int)))
theorem joC :mK 120 (bX [.pv Y3] [.own 1 Y4 95 true] (c1A (jbV N))):=
 mO (fC (jrI N) ja) func120 rfl N (.seq .no (.seq .no (.seq (.seq .no (.block (.loop joW .no))) .no))) _
def jI (N:Nat) (a:Int):Z12:=
 (bif decide ((65:Int)<=a)then bif decide (a<=90)then some (IntKind.u8.wrap ((IntKind.u8.wrap (a+97))-65))else(some a)else some a)
theorem jmu :mK 246 (bX [.pv (.int .u8)] [.pv (.int .u8)] (c1A (jI N))):=
 mO ja func246 rfl N .no _
def jpB :Sh:=⟨pS:: .dead:: .dead:: .own 600003 Y7 233 true::pI::dz 57 [],[]⟩
def jo6 :Sh:=⟨pS:: .dead:: .dead:: .own 600003 Y7 233 true::pI:: .box 5 0:: .own 600006 (.int .u8) 5 true::dz 55 [],[(5,false,[pS,pI,pI,pI])]⟩
def jct (o:List UInt8):Option ((List Z11)):=
 (oB (jaF N o) fun x=>bif !x then some ([]:List Z11)else iter (fun l (i,j,h)=>bif decide (h<(i.length:Int))then oB (idx i h) fun u=>(oB (jI N (u.toNat:Int)) fun v=>oB (jaw N v) fun r=>bif !r then if fits (h+1)then l (i,j,(h+1))else none else iter (fun m (c,d,a,b,n,f,e,q)=>bif decide (a<(c.length:Int))then oB (idx c a) fun z=>(oB (jI N (z.toNat:Int)) fun w=>oB (jaw N w) fun y=>bif y then bif decide ((b.length:Int)<12)then oB (idx c a) fun t=>(oB (jI N (t.toNat:Int)) fun p=>if room b.length ([p]:List Int).length 1 then if fits (a+1)then m (c,d,(a+1),(b++([p]:List Int)),n,f,e,q)else none else none)else(if fits (a+1)then m (c,d,(a+1),b,n,f,e,q)else none)else if room d.length ([((bytesOf b),f,e,a)]:List Z11).length 40 then l (c,(d++([((bytesOf b),f,e,a)]:List Z11)),a)else none)else if room d.length ([((bytesOf b),f,e,a)]:List Z11).length 40 then l (c,(d++([((bytesOf b),f,e,a)]:List Z11)),a)else none) N (i,j,h,([]:List Int),([]:List UInt8),(j.length:Int),h,(0:Int)))else some j) N (o,([]:List Z11),(0:Int)))
theorem jqc :mK 198 (bX [pS] [.own 1 Y7 233 true] (c1A (jct N))):=
 mO (fC (jdK N) (fC (jmu N) (fC (jeK N) ja))) func198 rfl N (.seq .no (.seq .no (.seq .no (.seq (.seq .no (.block (.loop jpB (.seq .no (.block (.seq .no (.seq .no (.seq .no (.seq (.block (.loop jo6 .no)) .no))))))))) .no)))) _
def jty :Sh:=⟨.dead:: .pv Y13::pI:: .box 3 0::dz 3 (.pv (.opt Y16)::dz 8 (pI::pI::dz 73 [])),[(3,false,[.pv (.sl .str),.pv Y14])]⟩
def jss :Sh:=⟨.dead:: .pv Y13::pI:: .box 3 0::dz 3 (.pv (.opt Y16):: .dead:: .ptr Y16::pB::dz 5 (pI::pI::dz 31 (pB::dz 4 (.pv (.sl .str)::pI::pI::dz 34 [])))),[(3,false,[.pv (.sl .str),.pv Y14])]⟩
def jbH (c:List Z1) (c2:List Z4) (terms:Z5) (at0:Int):Option ((Option Z4)):=
 (iter (fun go (terms2,at02,best,t16,t17,c3,c4)=>bif decide (t17<t16)then oB (idx c4 t17) fun e=>(if fits ((terms2.length:Int)-at02)then bif decide (((terms2.length:Int)-at02)<(e.1.length:Int))then if fits (t17+1)then go (terms2,at02,best,t16,(t17+1),c3,c4)else none else(bif !(Option.isNone best)then oB best fun p=>(bif decide ((e.1.length:Int)<=(p.1.length:Int))then if fits (t17+1)then go (terms2,at02,best,t16,(t17+1),c3,c4)else none else iter (fun go2 (terms3,at03,best2,r,fits0,t162,t172,t49,t54,t55,t56,c5,c6)=>bif decide (t56<t55)then oB (idx t54 t56) fun e2=>(if fits (at03+t56)then oB (idx terms3 (at03+t56)) fun e3=>(bif fits0 then bif decide (e3.1=e2)then oB (idx terms3 at03) fun e4=>(if fits (e4.2+t56)then if fits (t56+1)then go2 (terms3,at03,best2,r,(decide (e3.2=(e4.2+t56))),t162,t172,t49,t54,t55,(t56+1),c5,c6)else none else none)else(if fits (t56+1)then go2 (terms3,at03,best2,r,false,t162,t172,t49,t54,t55,(t56+1),c5,c6)else none)else if fits (t56+1)then go2 (terms3,at03,best2,r,false,t162,t172,t49,t54,t55,(t56+1),c5,c6)else none)else none)else bif fits0 then if fits (t172+1)then go (terms3,at03,(some r),t162,(t172+1),c5,c6)else none else if fits (t172+1)then go (terms3,at03,best2,t162,(t172+1),c5,c6)else none) N (terms2,at02,best,e,true,t16,t17,(decide ((e.1.length:Int)<=(p.1.length:Int))),e.1,(e.1.length:Int),(0:Int),c3,c4))else iter (fun go3 (terms4,at04,best3,r2,fits02,t163,t173,t492,t542,t552,t562,c7,c8)=>bif decide (t562<t552)then oB (idx t542 t562) fun e5=>(if fits (at04+t562)then oB (idx terms4 (at04+t562)) fun e6=>(bif fits02 then bif decide (e6.1=e5)then oB (idx terms4 at04) fun e7=>(if fits (e7.2+t562)then if fits (t562+1)then go3 (terms4,at04,best3,r2,(decide (e6.2=(e7.2+t562))),t163,t173,t492,t542,t552,(t562+1),c7,c8)else none else none)else(if fits (t562+1)then go3 (terms4,at04,best3,r2,false,t163,t173,t492,t542,t552,(t562+1),c7,c8)else none)else if fits (t562+1)then go3 (terms4,at04,best3,r2,false,t163,t173,t492,t542,t552,(t562+1),c7,c8)else none)else none)else bif fits02 then if fits (t173+1)then go (terms4,at04,(some r2),t163,(t173+1),c7,c8)else none else if fits (t173+1)then go (terms4,at04,best3,t163,(t173+1),c7,c8)else none) N (terms2,at02,best,e,true,t16,t17,false,e.1,(e.1.length:Int),(0:Int),c3,c4))else none)else some best) N (terms,at0,(none:Option Z4),(c2.length:Int),(0:Int),c,c2))
theorem jtv :mK 199 (bX [.agg [.pv (.sl .str),.pv Y14],.pv Y13,pI] [.pv (.opt Y16)] (c4A (jbH N))):=
 mO ja func199 rfl N (.seq .no (.seq .no (.seq (.seq .no (.block (.loop jty (.seq .no (.seq .no (.seq (.block (.seq .no (.seq .no (.seq .no (.seq .no (.seq (.seq .no (.block (.loop jss .no))) .no)))))) .no)))))) .no))) _
def jlW :Sh:=⟨.dead:: .dead:: .box 2 0:: .dead:: .dead:: .own 600005 Y15 162 true:: .own 600006 Y15 162 true::dz 17 (.own 600024 Y7 233 true::pI::pI::dz 67 []),[(2,false,[.pv (.sl .str),.pv Y14])]⟩
def jnt :Sh:=⟨.dead:: .dead:: .box 2 0:: .dead:: .dead:: .own 600005 Y15 162 true:: .own 600006 Y15 162 true::dz 3 (pI::dz 83 []),[(2,false,[.pv (.sl .str),.pv Y14])]⟩
def jbw (w:List Z1) (B:List Z4) (z:List UInt8):Option (Z9):=
 (oB (jaj N w B) fun D=>bif !D then some ([]:Z5)else oB (jaF N z) fun C=>bif !C then some ([]:Z5)else oB (jct N z) fun t=>iter (fun n (j,f,i,h,a,c,k)=>bif decide (a<h)then oB (idx i a) fun l=>(oB (jaB N l.1) fun p=>oB (jao N c l.1) fun E=>bif !E then oB (jao N c p) fun G=>(bif !G then if room f.length ([(p,l.2.1)]:Z5).length 24 then if fits (a+1)then n (j,(f++([(p,l.2.1)]:Z5)),i,h,(a+1),c,k)else none else none else if fits (a+1)then n (j,f,i,h,(a+1),c,k)else none)else if fits (a+1)then n (j,f,i,h,(a+1),c,k)else none)else iter (fun u (e,d,b,q,o)=>bif decide (b<(d.length:Int))then oB (jbH N q o d b) fun r=>(bif Option.isNone r then oB (idx d b) fun A=>(if room e.length ([A]:Z5).length 24 then if fits (b+1)then u ((e++([A]:Z5)),d,(b+1),q,o)else none else none)else oB r fun v=>oB (idx d b) fun y=>if room e.length ([(v.2,y.2)]:Z5).length 24 then oB r fun x=>(if fits (b+(x.1.length:Int))then u ((e++([(v.2,y.2)]:Z5)),d,(b+(x.1.length:Int)),q,o)else none)else none)else some e) N (j,f,(0:Int),c,k)) N (([]:Z5),([]:Z5),t,(t.length:Int),(0:Int),w,B))
theorem jgO :mK 121 (bX [.agg [.pv (.sl .str),.pv Y14],pS] [.own 1 Y15 162 true] (c3A (jbw N))):=
 mO (fC (jdX N) (fC (jdK N) (fC (jqc N) (fC (jio N) (fC (jh5 N) (fC (jtv N) ja)))))) func121 rfl N (.seq .no (.seq .no (.seq .no (.seq .no (.seq (.seq .no (.block (.loop jlW .no))) (.seq (.seq .no (.block (.loop jnt .no))) .no)))))) _
def k__loop_example_fossick_impl_Seg_put_1_m (N:Nat) (b:List UInt8) (d:List UInt8) (e:Z6) (a:List UInt8) (c:Z1×Int):Z8:=
 (bif decide (b=a)then some (decide (d=c.1))else some false)
theorem jmw :mK 201 (bX [.agg [pS,pS,.pv Y11],.ptr .str,.ptr Y15] [pB] (c5A (k__loop_example_fossick_impl_Seg_put_1_m N))):=
 mO ja func201 rfl N .no _
def jnc :Sh:=⟨.pv Y5:: .clo 201 [.ptr .str,.ptr Y15]::dz 5 (pI::pI::dz 10 []),[]⟩
def k_slices_IndexFunc_146_m (d:List Z2) (k:Z1×Z1×Int):Z12:=
 (iter (fun j (e,c,f,a)=>bif decide (a<f)then oB (idx e a) fun b=>(oB (k__loop_example_fossick_impl_Seg_put_1_m N b.1 b.2.1 b.2.2 c.1 c.2) fun h=>bif h then some a else if fits (a+1)then j (e,c,f,(a+1))else none)else some (-1)) N (d,k,(d.length:Int),(0:Int)))
theorem jrl :mK 200 (bX [.pv Y5,.clo 201 [.ptr .str,.ptr Y15]] [pI] (c2A (k_slices_IndexFunc_146_m N))):=
 mO (fC (jmw N) ja) func200 rfl N (.seq .no (.seq (.seq .no (.block (.loop jnc .no))) .no)) _
def i_Seg_put_m (f:List UInt8) (h:List UInt8) (i:Int) (e:Int) (r:List Z0) (a:List Z2):Option ((List Z0)×(List Z2)):=
 (oB (k_slices_IndexFunc_146_m N a (f,h,i)) fun d=>bif decide (d<0)then if room a.length ([(f,h,([]:Z6))]:List Z2).length 56 then if 0<=(a.length:Int)/\(a.length:Int)<((a++([(f,h,([]:Z6))]:List Z2)).length:Int)then oB ((a++([(f,h,([]:Z6))]:List Z2))[(a.length:Int).toNat]?) fun c=>(if fits ((c.2.2.length:Int)-1)then bif decide (((c.2.2.length:Int)-1)<0)then oB ((a++([(f,h,([]:Z6))]:List Z2))[(a.length:Int).toNat]?) fun aa=>(if(a.length:Int).toNat=(a.length:Int).toNat then if room c.2.2.length ([(e,([]:List Int))]:Z6).length 32 then if(a.length:Int).toNat=(a.length:Int).toNat then oB ((a++([(f,h,([]:Z6))]:List Z2))[(a.length:Int).toNat]?) fun k=>(if fits (((c.2.2.length:Int)-1)+1)then oB (((a++([(f,h,([]:Z6))]:List Z2)).set (a.length:Int).toNat (k.1,k.2.1,(c.2.2++([(e,([]:List Int))]:Z6))))[(a.length:Int).toNat]?) fun o=>(oB (o.2.2[(((c.2.2.length:Int)-1)+1).toNat]?) fun A=>oB (((a++([(f,h,([]:Z6))]:List Z2)).set (a.length:Int).toNat (k.1,k.2.1,(c.2.2++([(e,([]:List Int))]:Z6))))[(a.length:Int).toNat]?) fun ak=>if(a.length:Int).toNat=(a.length:Int).toNat then oB (((a++([(f,h,([]:Z6))]:List Z2)).set (a.length:Int).toNat (k.1,k.2.1,(c.2.2++([(e,([]:List Int))]:Z6))))[(a.length:Int).toNat]?) fun S=>(if(a.length:Int).toNat=(a.length:Int).toNat then if 0<=(((c.2.2.length:Int)-1)+1)/\(((c.2.2.length:Int)-1)+1)<(o.2.2.length:Int)then oB (o.2.2[(((c.2.2.length:Int)-1)+1).toNat]?) fun ag=>(if(((c.2.2.length:Int)-1)+1).toNat=(((c.2.2.length:Int)-1)+1).toNat then if room A.2.length ([i]:List Int).length 8 then if 0<=(((c.2.2.length:Int)-1)+1)/\(((c.2.2.length:Int)-1)+1)<(o.2.2.length:Int)then if(((c.2.2.length:Int)-1)+1).toNat=(((c.2.2.length:Int)-1)+1).toNat then oB (o.2.2[(((c.2.2.length:Int)-1)+1).toNat]?) fun I=>(some (r,(((a++([(f,h,([]:Z6))]:List Z2)).set (a.length:Int).toNat (k.1,k.2.1,(c.2.2++([(e,([]:List Int))]:Z6)))).modify ((a.length:Int).toNat) fun u=>(u.1,u.2.1,(o.2.2.set (((c.2.2.length:Int)-1)+1).toNat (I.1,(A.2++([i]:List Int))))))))else none else none else none else none)else none else none)else none)else none)else none else none else none)else(oB ((a++([(f,h,([]:Z6))]:List Z2))[(a.length:Int).toNat]?) fun an=>if(a.length:Int).toNat=(a.length:Int).toNat then if 0<=((c.2.2.length:Int)-1)/\((c.2.2.length:Int)-1)<(c.2.2.length:Int)then oB (c.2.2[((c.2.2.length:Int)-1).toNat]?) fun O=>(bif !decide (O.1=e)then oB ((a++([(f,h,([]:Z6))]:List Z2))[(a.length:Int).toNat]?) fun W=>(if(a.length:Int).toNat=(a.length:Int).toNat then if room c.2.2.length ([(e,([]:List Int))]:Z6).length 32 then if(a.length:Int).toNat=(a.length:Int).toNat then oB ((a++([(f,h,([]:Z6))]:List Z2))[(a.length:Int).toNat]?) fun m=>(if fits (((c.2.2.length:Int)-1)+1)then oB (((a++([(f,h,([]:Z6))]:List Z2)).set (a.length:Int).toNat (m.1,m.2.1,(c.2.2++([(e,([]:List Int))]:Z6))))[(a.length:Int).toNat]?) fun p=>(oB (p.2.2[(((c.2.2.length:Int)-1)+1).toNat]?) fun y=>oB (((a++([(f,h,([]:Z6))]:List Z2)).set (a.length:Int).toNat (m.1,m.2.1,(c.2.2++([(e,([]:List Int))]:Z6))))[(a.length:Int).toNat]?) fun U=>if(a.length:Int).toNat=(a.length:Int).toNat then oB (((a++([(f,h,([]:Z6))]:List Z2)).set (a.length:Int).toNat (m.1,m.2.1,(c.2.2++([(e,([]:List Int))]:Z6))))[(a.length:Int).toNat]?) fun ai=>(if(a.length:Int).toNat=(a.length:Int).toNat then if 0<=(((c.2.2.length:Int)-1)+1)/\(((c.2.2.length:Int)-1)+1)<(p.2.2.length:Int)then oB (p.2.2[(((c.2.2.length:Int)-1)+1).toNat]?) fun ah=>(if(((c.2.2.length:Int)-1)+1).toNat=(((c.2.2.length:Int)-1)+1).toNat then if room y.2.length ([i]:List Int).length 8 then if 0<=(((c.2.2.length:Int)-1)+1)/\(((c.2.2.length:Int)-1)+1)<(p.2.2.length:Int)then if(((c.2.2.length:Int)-1)+1).toNat=(((c.2.2.length:Int)-1)+1).toNat then oB (p.2.2[(((c.2.2.length:Int)-1)+1).toNat]?) fun P=>(some (r,(((a++([(f,h,([]:Z6))]:List Z2)).set (a.length:Int).toNat (m.1,m.2.1,(c.2.2++([(e,([]:List Int))]:Z6)))).modify ((a.length:Int).toNat) fun v=>(v.1,v.2.1,(p.2.2.set (((c.2.2.length:Int)-1)+1).toNat (P.1,(y.2++([i]:List Int))))))))else none else none else none else none)else none else none)else none)else none)else none else none else none)else if(a.length:Int).toNat=(a.length:Int).toNat then oB (c.2.2[((c.2.2.length:Int)-1).toNat]?) fun D=>(oB ((a++([(f,h,([]:Z6))]:List Z2))[(a.length:Int).toNat]?) fun R=>if(a.length:Int).toNat=(a.length:Int).toNat then oB ((a++([(f,h,([]:Z6))]:List Z2))[(a.length:Int).toNat]?) fun ap=>(if(a.length:Int).toNat=(a.length:Int).toNat then if 0<=((c.2.2.length:Int)-1)/\((c.2.2.length:Int)-1)<(c.2.2.length:Int)then oB (c.2.2[((c.2.2.length:Int)-1).toNat]?) fun ad=>(if((c.2.2.length:Int)-1).toNat=((c.2.2.length:Int)-1).toNat then if room D.2.length ([i]:List Int).length 8 then if 0<=((c.2.2.length:Int)-1)/\((c.2.2.length:Int)-1)<(c.2.2.length:Int)then if((c.2.2.length:Int)-1).toNat=((c.2.2.length:Int)-1).toNat then oB (c.2.2[((c.2.2.length:Int)-1).toNat]?) fun G=>(some (r,((a++([(f,h,([]:Z6))]:List Z2)).modify ((a.length:Int).toNat) fun B=>(B.1,B.2.1,(c.2.2.set ((c.2.2.length:Int)-1).toNat (G.1,(D.2++([i]:List Int))))))))else none else none else none else none)else none else none)else none)else none)else none else none)else none)else none else none else if 0<=d/\d<(a.length:Int)then oB (a[d.toNat]?) fun b=>(if fits ((b.2.2.length:Int)-1)then bif decide (((b.2.2.length:Int)-1)<0)then oB (a[d.toNat]?) fun T=>(if d.toNat=d.toNat then if room b.2.2.length ([(e,([]:List Int))]:Z6).length 32 then if d.toNat=d.toNat then oB (a[d.toNat]?) fun j=>(if fits (((b.2.2.length:Int)-1)+1)then oB ((a.set d.toNat (j.1,j.2.1,(b.2.2++([(e,([]:List Int))]:Z6))))[d.toNat]?) fun n=>(oB (n.2.2[(((b.2.2.length:Int)-1)+1).toNat]?) fun C=>oB ((a.set d.toNat (j.1,j.2.1,(b.2.2++([(e,([]:List Int))]:Z6))))[d.toNat]?) fun aj=>if d.toNat=d.toNat then oB ((a.set d.toNat (j.1,j.2.1,(b.2.2++([(e,([]:List Int))]:Z6))))[d.toNat]?) fun ac=>(if d.toNat=d.toNat then if 0<=(((b.2.2.length:Int)-1)+1)/\(((b.2.2.length:Int)-1)+1)<(n.2.2.length:Int)then oB (n.2.2[(((b.2.2.length:Int)-1)+1).toNat]?) fun ab=>(if(((b.2.2.length:Int)-1)+1).toNat=(((b.2.2.length:Int)-1)+1).toNat then if room C.2.length ([i]:List Int).length 8 then if 0<=(((b.2.2.length:Int)-1)+1)/\(((b.2.2.length:Int)-1)+1)<(n.2.2.length:Int)then if(((b.2.2.length:Int)-1)+1).toNat=(((b.2.2.length:Int)-1)+1).toNat then oB (n.2.2[(((b.2.2.length:Int)-1)+1).toNat]?) fun H=>(some (r,((a.set d.toNat (j.1,j.2.1,(b.2.2++([(e,([]:List Int))]:Z6)))).modify d.toNat fun z=>(z.1,z.2.1,(n.2.2.set (((b.2.2.length:Int)-1)+1).toNat (H.1,(C.2++([i]:List Int))))))))else none else none else none else none)else none else none)else none)else none)else none else none else none)else(oB (a[d.toNat]?) fun ao=>if d.toNat=d.toNat then if 0<=((b.2.2.length:Int)-1)/\((b.2.2.length:Int)-1)<(b.2.2.length:Int)then oB (b.2.2[((b.2.2.length:Int)-1).toNat]?) fun K=>(bif !decide (K.1=e)then oB (a[d.toNat]?) fun V=>(if d.toNat=d.toNat then if room b.2.2.length ([(e,([]:List Int))]:Z6).length 32 then if d.toNat=d.toNat then oB (a[d.toNat]?) fun l=>(if fits (((b.2.2.length:Int)-1)+1)then oB ((a.set d.toNat (l.1,l.2.1,(b.2.2++([(e,([]:List Int))]:Z6))))[d.toNat]?) fun q=>(oB (q.2.2[(((b.2.2.length:Int)-1)+1).toNat]?) fun E=>oB ((a.set d.toNat (l.1,l.2.1,(b.2.2++([(e,([]:List Int))]:Z6))))[d.toNat]?) fun am=>if d.toNat=d.toNat then oB ((a.set d.toNat (l.1,l.2.1,(b.2.2++([(e,([]:List Int))]:Z6))))[d.toNat]?) fun ae=>(if d.toNat=d.toNat then if 0<=(((b.2.2.length:Int)-1)+1)/\(((b.2.2.length:Int)-1)+1)<(q.2.2.length:Int)then oB (q.2.2[(((b.2.2.length:Int)-1)+1).toNat]?) fun X=>(if(((b.2.2.length:Int)-1)+1).toNat=(((b.2.2.length:Int)-1)+1).toNat then if room E.2.length ([i]:List Int).length 8 then if 0<=(((b.2.2.length:Int)-1)+1)/\(((b.2.2.length:Int)-1)+1)<(q.2.2.length:Int)then if(((b.2.2.length:Int)-1)+1).toNat=(((b.2.2.length:Int)-1)+1).toNat then oB (q.2.2[(((b.2.2.length:Int)-1)+1).toNat]?) fun Q=>(some (r,((a.set d.toNat (l.1,l.2.1,(b.2.2++([(e,([]:List Int))]:Z6)))).modify d.toNat fun w=>(w.1,w.2.1,(q.2.2.set (((b.2.2.length:Int)-1)+1).toNat (Q.1,(E.2++([i]:List Int))))))))else none else none else none else none)else none else none)else none)else none)else none else none else none)else if d.toNat=d.toNat then oB (b.2.2[((b.2.2.length:Int)-1).toNat]?) fun t=>(oB (a[d.toNat]?) fun af=>if d.toNat=d.toNat then oB (a[d.toNat]?) fun al=>(if d.toNat=d.toNat then if 0<=((b.2.2.length:Int)-1)/\((b.2.2.length:Int)-1)<(b.2.2.length:Int)then oB (b.2.2[((b.2.2.length:Int)-1).toNat]?) fun aq=>(if((b.2.2.length:Int)-1).toNat=((b.2.2.length:Int)-1).toNat then if room t.2.length ([i]:List Int).length 8 then if 0<=((b.2.2.length:Int)-1)/\((b.2.2.length:Int)-1)<(b.2.2.length:Int)then if((b.2.2.length:Int)-1).toNat=((b.2.2.length:Int)-1).toNat then oB (b.2.2[((b.2.2.length:Int)-1).toNat]?) fun L=>(some (r,(a.modify d.toNat fun x=>(x.1,x.2.1,(b.2.2.set ((b.2.2.length:Int)-1).toNat (L.1,(t.2++([i]:List Int))))))))else none else none else none else none)else none else none)else none)else none)else none else none)else none)else none)
theorem jky :mK 122 ⟨⟨[.box 900000 0,pS,.agg [pS,pI],pI],[(900000,false,[.tre 850000 Y4 95,.tre 850001 Y6 167])]⟩,⟨[.tup []],[(900000,false,[.tre 850000 Y4 95,.tre 1 Y6 167])]⟩,c6A (i_Seg_put_m N)⟩:=
 mO (fC (jrl N) ja) func122 rfl N (.seq .no (.seq .no (.seq .no (.seq .no (.seq .no (.seq .no (.touch [.out 9 [(2,79,241,10),(1,88,3,0)]]))))))) _ (wr:=[33,34,70,71,91,92]) (rs:=[900000,850000,850001]) (dw:=[16,33,70])
noncomputable def jaS (N:Nat) (a:List Z2) (b:Unit):Option (List Z2):=jWO a
 
noncomputable def jjA (N:Nat):Model:=⟨⟨[.tre 800000 Y6 167,.clo 124 []],[]⟩,⟨[.tup [],.tre 800000 Y6 167],[]⟩,c2A (jaS N)⟩
theorem jtu :mK 123 (jjA N):=jW9
def jmK :Sh:=⟨.dead:: .dead:: .box 2 0:: .dead:: .box 4 0:: .box 5 0::dz 19 (.pv Y3::pI::pI::dz 32 []),[(2,false,[.pv (.sl .str),.pv Y14]),(4,false,[.nils,.nils]),(5,false,[.tre 700500 Y4 95,.tre 700501 Y6 167])]⟩
def jor :Sh:=⟨.dead:: .dead:: .box 2 0:: .dead:: .box 4 0:: .box 5 0:: .dead:: .box 7 0::dz 17 (.pv Y3::pI::pI::dz 4 (.pv Y17::pI::pI::dz 25 [])),[(2,false,[.pv (.sl .str),.pv Y14]),(4,false,[.nils,.nils]),(5,false,[.tre 700500 Y4 95,.tre 700501 Y6 167]),(7,false,[pI,.pv Y17,.pv Y13])]⟩
def jnj :Sh:=⟨.dead:: .dead:: .box 2 0:: .dead:: .box 4 0:: .box 5 0:: .dead:: .box 7 0:: .dead:: .box 9 0::dz 15 (.pv Y3::pI::pI::dz 4 (.pv Y17::pI::pI::dz 6 (.own 600041 Y15 162 true::pI::pI::dz 16 []))),[(2,false,[.pv (.sl .str),.pv Y14]),(4,false,[.nils,.nils]),(5,false,[.tre 700500 Y4 95,.tre 700501 Y6 167]),(7,false,[pI,.pv Y17,.pv Y13]),(9,false,[pS,pS])]⟩
noncomputable def jbT (c:List Z1) (c2:List Z4) (docs:List Z0):Option ((List Z0)×(List Z2)):=
 (oB (jaj N c c2) fun r=>bif !r then some (([]:List Z0),([]:List Z2))else oB (jbf N docs) fun r2=>bif !r2 then some (([]:List Z0),([]:List Z2))else oB (jbV N docs) fun r3=>iter (fun go (t25,t26,t27,c3,c4,s,s2)=>bif decide (t27<t26)then oB (idx t25 t27) fun e=>(iter (fun go2 (t252,t262,t272,t32,t33,t34,c5,c6,s3,s4,d,d2,d3)=>bif decide (t34<t33)then oB (idx t32 t34) fun e2=>(oB (jbw N c5 c6 e2.2) fun r4=>iter (fun go3 (t253,t263,t273,t322,t332,t342,t41,t42,t43,c7,c8,s5,s6,d4,d5,d6,f,f2)=>bif decide (t43<t42)then oB (idx t41 t43) fun e3=>(oB (i_Seg_put_m N f e3.1 e3.2 d4 s5 s6) fun r5=>if fits (t43+1)then go3 (t253,t263,t273,t322,t332,t342,t41,t42,(t43+1),c7,c8,r5.1,r5.2,d4,d5,d6,f,f2)else none)else if fits (t342+1)then go2 (t253,t263,t273,t322,t332,(t342+1),c7,c8,s5,s6,d4,d5,d6)else none) N (t252,t262,t272,t32,t33,t34,r4,(r4.length:Int),(0:Int),c5,c6,s3,s4,d,d2,d3,e2.1,e2.2))else if fits (t272+1)then go (t252,t262,(t272+1),c5,c6,s3,s4)else none) N (t25,t26,t27,e.2.1,(e.2.1.length:Int),(0:Int),c3,c4,s,s2,e.1,e.2.1,e.2.2))else oB (jaS N s2 ()) fun r6=>some (s,r6)) N (docs,(docs.length:Int),(0:Int),c,c2,r3,([]:List Z2)))
theorem jqC :mK 51 (bX [.agg [.pv (.sl .str),.pv Y14],.pv Y3] [.agg [.own 1 Y4 95 true,.own 2 Y6 167 true]] (c3A (jbT N))):=
 mO (fC (jdX N) (fC (jjU N) (fC (joC N) (fC (jgO N) (fC (jky N) (fC (jtu N) ja)))))) func51 rfl N (.seq .no (.seq .no (.seq .no (.seq (.seq .no (.block (.loop jmK (.seq .no (.seq .no (.seq (.block (.seq .no (.seq .no (.block (.loop jor (.seq .no (.seq .no (.seq (.block (.seq .no (.seq .no (.block (.loop jnj .no))))) .no)))))))) .no)))))) .no)))) _ (wr:=[23]) (dw:=[22,23])
def jtB :Sh:=⟨.pv Y19:: .pv Y19::dz 10 (pI::pI::dz 12 []),[]⟩
def jbX (b:List Int) (c:List Int):Z8:=
 (bif !decide ((b.length:Int)=(c.length:Int))then some false else iter (fun i (e,f,d,a)=>bif decide (a<d)then oB (idx e a) fun k=>(oB (idx f a) fun j=>bif !decide (k=j)then some false else if fits (a+1)then i (e,f,d,(a+1))else none)else some true) N (b,c,(b.length:Int),(0:Int)))
theorem jqi :mK 318 (bX [.pv Y19,.pv Y19] [pB] (c2A (jbX N))):=
 mO ja func318 rfl N (.seq .no (.seq .no (.seq (.seq .no (.block (.loop jtB .no))) .no))) _
def jcp (d:Int) (b:List Int) (e:Int) (c:List Int):Z8:=
 (bif decide (d=e)then oB (jbX N b c) fun a=>(some a)else some false)
theorem jth :mK 270 (bX [.agg [pI,.pv Y19],.agg [pI,.pv Y19]] [pB] (c4A (jcp N))):=
 mO (fC (jqi N) ja) func270 rfl N .no _
def jlX :Sh:=⟨.dead:: .pv Y11:: .clo 270 []::dz 12 (.pv Y11::pI::pI::dz 14 []),[]⟩
def jb6 (b:Z6) (c:Z6) (n:Unit):Z8:=
 (bif !decide ((b.length:Int)=(c.length:Int))then some false else iter (fun l (f,m,h,i,a)=>bif decide (a<i)then oB (idx h a) fun e=>(oB (idx f a) fun d=>oB (jcp N e.1 e.2 d.1 d.2) fun j=>bif !j then some false else if fits (a+1)then l (f,(),h,i,(a+1))else none)else some true) N (c,(),b,(b.length:Int),(0:Int)))
theorem jnG :mK 269 (bX [.pv Y11,.pv Y11,.clo 270 []] [pB] (c3A (jb6 N))):=
 mO (fC (jth N) ja) func269 rfl N (.seq .no (.seq .no (.seq (.seq .no (.block (.loop jlX .no))) .no))) _
def jcz (h:List UInt8) (e:List UInt8) (c:Z6) (d:List UInt8) (f:List UInt8) (a:Z6):Z8:=
 (bif decide (h=d)then bif decide (e=f)then oB (jb6 N c a ()) fun b=>(some b)else(some false)else some false)
theorem jp4 :mK 219 (bX [.agg [pS,pS,.pv Y11],.agg [pS,pS,.pv Y11]] [pB] (c6A (jcz N))):=
 mO (fC (jnG N) ja) func219 rfl N .no _
def jlD :Sh:=⟨.dead:: .pv Y5:: .clo 219 []::dz 12 (.pv Y5::pI::pI::dz 14 []),[]⟩
def jcn (d:List Z2) (e:List Z2) (n:Unit):Z8:=
 (bif !decide ((d.length:Int)=(e.length:Int))then some false else iter (fun l (f,m,h,i,a)=>bif decide (a<i)then oB (idx h a) fun c=>(oB (idx f a) fun b=>oB (jcz N c.1 c.2.1 c.2.2 b.1 b.2.1 b.2.2) fun j=>bif !j then some false else if fits (a+1)then l (f,(),h,i,(a+1))else none)else some true) N (e,(),d,(d.length:Int),(0:Int)))
theorem jsa :mK 218 (bX [.pv Y5,.pv Y5,.clo 219 []] [pB] (c3A (jcn N))):=
 mO (fC (jp4 N) ja) func218 rfl N (.seq .no (.seq .no (.seq (.seq .no (.block (.loop jlD .no))) .no))) _
noncomputable def jbN (b:List Z1) (c:List Z4) (a:List Z0) (i:List Z2):Z8:=
 (oB (jaj N b c) fun h=>bif !h then some false else oB (jbf N a) fun d=>bif !d then some false else oB (jbT N b c a) fun f=>oB (jcn N f.2 i ()) fun e=>some e)
theorem joa :mK 149 (bX [.agg [.pv (.sl .str),.pv Y14],.agg [.pv Y3,.pv Y5]] [pB] (c4A (jbN N))):=
 mO (fC (jdX N) (fC (jjU N) (fC (jqC N) (fC (jsa N) ja)))) func149 rfl N .no _
def jDT :Sh:=⟨.pv Y19::dz 4 (.pv Y19::pI::pI::dz 24 []),[]⟩
def jx1 (d:List Int):Z8:=
 (iter (fun f (b,c,e,a)=>bif decide (a<e)then oB (idx c a) fun h=>(oB (jm N h 0 999999999) fun i=>bif !i then some false else bif decide ((0:Int)<a)then if fits (a-1)then oB (idx b (a-1)) fun k=>(bif decide (h<=k)then some false else if fits (a+1)then f (b,c,e,(a+1))else none)else none else if fits (a+1)then f (b,c,e,(a+1))else none)else some (decide ((b.length:Int)<=60))) N (d,d,(d.length:Int),(0:Int)))
theorem jAN :mK 150 (bX [.pv Y19] [pB] (c1A (jx1 N))):=
 mO (fC (jY N) ja) func150 rfl N (.seq .no (.seq (.seq .no (.block (.loop jDT .no))) .no)) _
def jqv :Sh:=⟨.dead::pI:: .dead:: .dead:: .box 4 0::dz 6 (.pv Y3::pI::pI::dz 10 []),[(4,false,[pI,.nils,.nils])]⟩
def i_Seg_doc_m (c:(List Z0)×(List Z2)) (j:Int):Option (Int×Z10×Z9×Bool):=
 (iter (fun i (f,e,d,b,k)=>bif decide (b<d)then oB (idx e b) fun a=>(bif decide (a.1=f)then some (a.1,a.2.1,a.2.2,true)else if fits (b+1)then i (f,e,d,(b+1),k)else none)else some (0,([]:Z7),([]:Z5),false)) N (j,c.1,(c.1.length:Int),(0:Int),(0:Int)))
theorem jlU :mK 151 (bX [.ptr Y2,pI] [.tup [.agg [pI,.pv Y17,.pv Y13],pB]] (c2A (i_Seg_doc_m N))):=
 mO ja func151 rfl N (.seq .no (.seq (.seq .no (.block (.loop jqv .no))) .no)) _
end Go.Proofs.YtcinmmojlcchfaaGreatDoor
