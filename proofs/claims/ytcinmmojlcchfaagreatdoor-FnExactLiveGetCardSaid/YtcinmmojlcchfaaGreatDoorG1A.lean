import Derived.Test.YtcinmmojlcchfaaGreatDoorSA
import Derived.Test.YtcinmmojlcchfaaGreatDoorSC
import Derived.Test.YtcinmmojlcchfaaGreatDoorSE
import Derived.Test.YtcinmmojlcchfaaGreatDoorSN
import Derived.Test.YtcinmmojlcchfaaGreatDoorSP
set_option linter.unusedVariables false
set_option linter.unusedSimpArgs false
namespace Go.Proofs.YtcinmmojlcchfaaGreatDoor
open Go.RowKit Go.Proofs.Tryz
variable (N : Nat)
open Option renaming bind -> oB
set_option maxRecDepth 1000000
abbrev Z0 :Type:=Int×(List ((List UInt8)×(List UInt8)))×(List ((List UInt8)×Int))
abbrev Z1 :Type:=List UInt8
abbrev Z2 :Type:=Z1×Z1×(List (Int×(List Int)))
abbrev Z3 :Type:=List (Z1×Int)
abbrev Z4 :Type:=List (Int×(List Int))
abbrev Z5 :Type:=(List Z1)×Z1
abbrev Z6 :Type:=List (Z1×Z1)
abbrev Z7 :Type:=List (Z1×Int)
abbrev Z8 :Type:=Option (Bool)
abbrev Z9 :Type:=((List Z0)×(List Z2))×(List Int)
abbrev Z10 :Type:=Z1×Int×Int×Int
abbrev Z11 :Type:=List (Z1×Z1)
abbrev Z12 :Type:=List (Int×(List Int))
abbrev Z13 :Type:=Option (Int)
abbrev Z14 :Type:=Option ((List Z0))
abbrev bX (a r:List VS) (f:HD (Sh.codes ⟨a,[]⟩)->Option (HD (Sh.codes ⟨r,[]⟩))):Model:=⟨⟨a,[]⟩,⟨r,[]⟩,f⟩
abbrev mK :=ModelOk Tryz.prog
theorem mO {l:List (Nat×Model)} (hl:jR Tryz.prog l) {f:FuncId} {fn:Func} {c:Code} (hf:Tryz.prog.funcs[f]? =some fn) (hbody:fn.body=some c) (N:Nat) (h:Hint) (m:Model) (wr rs dw:List Nat:=[])
  (hname:(fn.name== "runtime.NumGoroutine")=false:=by kernel_rfl) (hres:m.arg.names.all (jbC l wr rs dw).res=true:=by kernel_rfl) (hlen:Nat.ble m.arg.vals.length fn.ntmps=true:=by kernel_rfl)
  (hrun:∀a,m.run a=runF N (jbC l wr rs dw) okDraw fn c h m.arg m.ret a:=by intro a;kernel_rfl):ModelOk Tryz.prog f m:=modelOk_of (E:=jbC l wr rs dw) (jtQ hl wr rs dw) hf hname hbody N h m hres hlen hrun
theorem fC {k:Nat} {m:Model} {l:List (Nat×Model)} (h:ModelOk Tryz.prog k m) (hl:jR Tryz.prog l):jR Tryz.prog ((k,m)::l):=jsH h hl
abbrev pI :VS:=.pv (.int .i64)
abbrev pS :VS:=.pv .str
abbrev pB :VS:=.pv .bool
abbrev tI :Tp:=.int .i64
abbrev c1A {α ρ:Type} (f:α->ρ) (a:α):ρ:=f a
abbrev c2A {α0 α1 ρ:Type} (f:α0->α1->ρ) (a:α0×α1):ρ:=f a.1 a.2
abbrev c3A {α0 α1 α2 ρ:Type} (f:α0->α1->α2->ρ) (a:α0×α1×α2):ρ:=f a.1 a.2.1 a.2.2
abbrev c4A {α0 α1 α2 α3 ρ:Type} (f:α0->α1->α2->α3->ρ) (a:α0×α1×α2×α3):ρ:=f a.1 a.2.1 a.2.2.1 a.2.2.2
abbrev c5A {α0 α1 α2 α3 α4 ρ:Type} (f:α0->α1->α2->α3->α4->ρ) (a:α0×α1×α2×α3×α4):ρ:=f a.1 a.2.1 a.2.2.1 a.2.2.2.1 a.2.2.2.2
abbrev c6A {α0 α1 α2 α3 α4 α5 ρ:Type} (f:α0->α1->α2->α3->α4->α5->ρ) (a:α0×α1×α2×α3×α4×α5):ρ:=f a.1 a.2.1 a.2.2.1 a.2.2.2.1 a.2.2.2.2.1 a.2.2.2.2.2
abbrev c7A {α0 α1 α2 α3 α4 α5 α6 ρ:Type} (f:α0->α1->α2->α3->α4->α5->α6->ρ) (a:α0×α1×α2×α3×α4×α5×α6):ρ:=f a.1 a.2.1 a.2.2.1 a.2.2.2.1 a.2.2.2.2.1 a.2.2.2.2.2.1 a.2.2.2.2.2.2
def dz :Nat->List VS->List VS
 |0,l=>l
 |n+1,l=>.dead::dz n l
abbrev Y19 :Tp:=.sl tI
abbrev Y18 :Tp:=.pair .str .str
abbrev Y17 :Tp:=.sl (.pair .str .str)
abbrev Y16 :Tp:=.pair (.sl .str) .str
abbrev Y15 :Tp:=.pair .str tI
abbrev Y14 :Tp:=.sl (.pair (.sl .str) .str)
abbrev Y13 :Tp:=.sl (.pair .str tI)
abbrev Y12 :Tp:=.pair tI (.sl tI)
abbrev Y11 :Tp:=.sl (.pair tI (.sl tI))
abbrev Y7 :Tp:=.pair .str (.pair tI (.pair tI tI))
abbrev Y6 :Tp:=.pair .str (.pair .str (.sl (.pair tI (.sl tI))))
abbrev Y5 :Tp:=.sl (.pair .str (.pair .str (.sl (.pair tI (.sl tI)))))
abbrev Y4 :Tp:=.pair tI (.pair (.sl (.pair .str .str)) (.sl (.pair .str tI)))
abbrev Y3 :Tp:=.sl (.pair tI (.pair (.sl (.pair .str .str)) (.sl (.pair .str tI))))
abbrev Y2 :Tp:=.pair (.sl (.pair tI (.pair (.sl (.pair .str .str)) (.sl (.pair .str tI))))) (.sl (.pair .str (.pair .str (.sl (.pair tI (.sl tI))))))
abbrev Y0 :Tp:=.sl (.pair (.pair (.sl (.pair tI (.pair (.sl (.pair .str .str)) (.sl (.pair .str tI))))) (.sl (.pair .str (.pair .str (.sl (.pair tI (.sl tI))))))) (.sl tI))
def jso :Sh:=⟨.pv (.sl .str)::pI::dz 3 (pI::dz 22 []),[]⟩
def jbK (a:List Z1) (d:Int):Z13:=
 (if fits (d-(a.length:Int))then bif decide ((d-(a.length:Int))<0)then some (-1)else(iter (fun i (f,c,b)=>bif decide (b<(f.length:Int))then oB (idx f b) fun e=>(if fits (c-(e.length:Int))then bif decide ((c-(e.length:Int))<0)then some (-1)else(if fits (b+1)then i (f,(c-(e.length:Int)),(b+1))else none)else none)else some c) N (a,(d-(a.length:Int)),(0:Int)))else none)
theorem jjn :mK 39 (bX [.pv (.sl .str),pI] [pI] (c2A (jbK N))):=
 mO ja func39 rfl N (.seq .no (.seq .no (.seq .no (.seq (.seq .no (.block (.loop jso .no))) .no)))) _
def jbp (c:List Z1) (b:List UInt8) (d:Int):Z13:=
 (oB (jbK N c d) fun a=>bif decide (a<0)then some (-1)else if fits (a-(b.length:Int))then bif decide ((a-(b.length:Int))<0)then some (-1)else(some (a-(b.length:Int)))else none)
theorem jsV :mK 100 (bX [.agg [.pv (.sl .str),pS],pI] [pI] (c3A (jbp N))):=
 mO (fC (jjn N) ja) func100 rfl N .no _
def jki :Sh:=⟨.pv Y14::pI::dz 3 (pI::dz 21 []),[]⟩
def jc6 (a:List Z5) (d:Int):Z13:=
 (if fits (d-(a.length:Int))then bif decide ((d-(a.length:Int))<0)then some (-1)else(iter (fun j (c,h,b)=>bif decide (b<(c.length:Int))then oB (idx c b) fun e=>(oB (jbp N e.1 e.2 h) fun f=>bif decide (f<0)then some (-1)else if fits (b+1)then j (c,f,(b+1))else none)else some h) N (a,(d-(a.length:Int)),(0:Int)))else none)
theorem jkX :mK 40 (bX [.pv Y14,pI] [pI] (c2A (jc6 N))):=
 mO (fC (jsV N) ja) func40 rfl N (.seq .no (.seq .no (.seq .no (.seq (.seq .no (.block (.loop jki .no))) .no)))) _
def jbD (c:List Z1) (d:List Z5) (e:Int):Z13:=
 (oB (jbK N c e) fun b=>bif decide (b<0)then some (-1)else oB (jc6 N d b) fun a=>bif decide (a<0)then some (-1)else some a)
theorem jm8 :mK 9 (bX [.agg [.pv (.sl .str),.pv Y14],pI] [pI] (c3A (jbD N))):=
 mO (fC (jjn N) (fC (jkX N) ja)) func9 rfl N .no _
def jqD :Sh:=⟨.pv (.sl .str):: .dead:: .dead:: .mtk 600003 .str 9 true::pI::dz 17 [],[]⟩
def jci (b:List Z1):Option ((List Z1)):=
 (if(b.length:Int)=(b.length:Int)/\0<=(b.length:Int)/\(b.length:Int)*16<=140737488355328/\(b.length:Int)<=140737488355328 then iter (fun h (d,c,a)=>bif decide (a<(d.length:Int))then oB (idx d a) fun f=>(if 0<=a/\a<(c.length:Int)then oB (c[a.toNat]?) fun i=>(if fits (a+1)then h (d,(c.set a.toNat f),(a+1))else none)else none)else some c) N (b,(List.replicate (b.length:Int).toNat ([]:List UInt8)),(0:Int))else none)
theorem jiJ :mK 43 (bX [.pv (.sl .str)] [.own 1 .str 9 true] (c1A (jci N))):=
 mO ja func43 rfl N (.seq .no (.seq .no (.seq (.seq .no (.block (.loop jqD .no))) .no))) _ (wr:=[7])
def ja0 (c:List Z1) (b:List UInt8):Option Z5:=
 (oB (jci N c) fun a=>some (a,b))
theorem jr7 :mK 109 (bX [.agg [.pv (.sl .str),pS]] [.agg [.own 1 .str 9 true,pS]] (c2A (ja0 N))):=
 mO (fC (jiJ N) ja) func109 rfl N .no _ (dw:=[6])
def jos :Sh:=⟨.pv Y14:: .dead:: .dead:: .tre 600003 Y16 142::pI::dz 18 [],[]⟩
def jeh (b:List Z5):Option ((List Z5)):=
 (if(b.length:Int)=(b.length:Int)/\0<=(b.length:Int)/\(b.length:Int)*40<=140737488355328/\(b.length:Int)<=140737488355328 then iter (fun i (d,c,a)=>bif decide (a<(d.length:Int))then oB (idx d a) fun e=>(oB (ja0 N e.1 e.2) fun h=>if 0<=a/\a<(c.length:Int)then oB (c[a.toNat]?) fun j=>(if fits (a+1)then i (d,(c.set a.toNat h),(a+1))else none)else none)else some c) N (b,(List.replicate (b.length:Int).toNat (([]:List Z1),([]:List UInt8))),(0:Int))else none)
theorem jqR :mK 44 (bX [.pv Y14] [.own 1 Y16 142 true] (c1A (jeh N))):=
 mO (fC (jr7 N) ja) func44 rfl N (.seq .no (.seq .no (.seq (.seq .no (.block (.loop jos .no))) .no))) _ (wr:=[7]) (dw:=[20])
def jad (d:List Z1) (c:List Z5):Option ((List Z1)×(List Z5)):=
 (oB (jci N d) fun b=>oB (jeh N c) fun a=>some (b,a))
theorem jtJ :mK 11 (bX [.agg [.pv (.sl .str),.pv Y14]] [.agg [.own 1 .str 9 true,.own 2 Y16 142 true]] (c2A (jad N))):=
 mO (fC (jiJ N) (fC (jqR N) ja)) func11 rfl N .no _ (dw:=[6,10])
def jt (N:Nat) (a:Int):Z13:=
 (bif decide ((65:Int)<=a)then bif decide (a<=90)then some (IntKind.u8.wrap (a+32))else(bif decide ((97:Int)<=a)then bif decide (a<=122)then some a else(bif decide ((48:Int)<=a)then bif decide (a<=57)then some a else(some 0)else some 0)else bif decide ((48:Int)<=a)then bif decide (a<=57)then some a else(some 0)else some 0)else bif decide ((97:Int)<=a)then bif decide (a<=122)then some a else(bif decide ((48:Int)<=a)then bif decide (a<=57)then some a else(some 0)else some 0)else bif decide ((48:Int)<=a)then bif decide (a<=57)then some a else(some 0)else some 0)
theorem jfG :mK 175 (bX [.pv (.int .u8)] [.pv (.int .u8)] (c1A (jt N))):=
 mO ja func175 rfl N .no _
def jJ (N:Nat) (a:Int) (c:Int) (b:Int):Z8:=
 (bif decide (c<=a)then some (decide (a<=b))else some false)
theorem jcL :mK 104 (bX [pI,pI,pI] [pB] (c3A (jJ N))):=
 mO ja func104 rfl N .no _
def jr5 :Sh:=⟨pS:: .dead:: .dead::pI::dz 23 [],[]⟩
def jT (f:List UInt8):Z8:=
 (iter (fun j (a,b)=>bif decide (b<(a.length:Int))then oB (idx a b) fun h=>(oB (jt N (h.toNat:Int)) fun e=>oB (idx a b) fun c=>bif !decide (e=(c.toNat:Int))then some false else oB (idx a b) fun d=>bif decide ((d.toNat:Int)=0)then some false else if fits (b+1)then j (a,(b+1))else none)else oB (jJ N (a.length:Int) 1 12) fun i=>some i) N (f,(0:Int)))
theorem jgp :mK 101 (bX [pS] [pB] (c1A (jT N))):=
 mO (fC (jfG N) (fC (jcL N) ja)) func101 rfl N (.seq .no (.seq (.seq .no (.block (.loop jr5 .no))) .no)) _
def jdI (N:Nat):Option ((List Z1)):=
 (some ([([105,110,103]:List UInt8),([101,100]:List UInt8),([101,115]:List UInt8),([108,121]:List UInt8),([115]:List UInt8)]:List Z1))
theorem jkj :mK 232 ⟨⟨[],[]⟩,⟨[.own 1 .str 9 true],[]⟩,fun a=>jdI N⟩:=
 mO ja func232 rfl N .no _
def jl2 :Sh:=⟨pS:: .dead:: .dead::pI::dz 30 [],[]⟩
def ja6 (f:List UInt8):Option (Z1):=
 (iter (fun d (a,b)=>oB (jdI N) fun e=>bif decide (b<(e.length:Int))then oB (jdI N) fun j=>(oB (idx j b) fun c=>if fits ((a.length:Int)-(c.length:Int))then bif decide ((3:Int)<=((a.length:Int)-(c.length:Int)))then oB (cut a ((a.length:Int)-(c.length:Int)) (a.length:Int)) fun h=>(bif decide (h=c)then oB (cut a 0 ((a.length:Int)-(c.length:Int))) fun i=>(some i)else if fits (b+1)then d (a,(b+1))else none)else(if fits (b+1)then d (a,(b+1))else none)else none)else some a) N (f,(0:Int)))
theorem jtL :mK 176 (bX [pS] [pS] (c1A (ja6 N))):=
 mO (fC (jkj N) ja) func176 rfl N (.seq .no (.seq (.seq .no (.block (.loop jl2 .no))) .no)) _
def jto :Sh:=⟨pS::dz 9 [],[]⟩
def jaq (d:List UInt8):Option (Z1):=
 (iter (fun c (b:Z1)=>let s2:=b;(oB (ja6 N s2) fun e=>bif !decide (e=s2)then oB (ja6 N s2) fun a=>(c a)else some s2)) N d)
theorem jfZ :mK 102 (bX [pS] [pS] (c1A (jaq N))):=
 mO (fC (jtL N) ja) func102 rfl N (.seq .no (.seq (.block (.loop jto .no)) .no)) _
def jlY :Sh:=⟨.pv (.sl .str)::pS::dz 3 (pI::dz 12 []),[]⟩
def jap (h:List Z1) (e:List UInt8):Z8:=
 (iter (fun f (b,c,a)=>bif decide (a<(b.length:Int))then oB (idx b a) fun d=>(bif decide (d=c)then some true else if fits (a+1)then f (b,c,(a+1))else none)else some false) N (h,e,(0:Int)))
theorem jhP :mK 103 (bX [.pv (.sl .str),pS] [pB] (c2A (jap N))):=
 mO ja func103 rfl N (.seq .no (.seq (.seq .no (.block (.loop jlY .no))) .no)) _
def jrs :Sh:=⟨.dead:: .box 1 0:: .dead::pI::dz 114 [],[(1,false,[.pv (.sl .str),.pv Y14])]⟩
def js0 :Sh:=⟨.dead:: .box 1 0:: .dead:: .dead::pI::dz 113 [],[(1,false,[.pv (.sl .str),.pv Y14])]⟩
def jrc :Sh:=⟨.dead:: .box 1 0:: .dead:: .dead::pI:: .box 5 0::pI::dz 111 [],[(1,false,[.pv (.sl .str),.pv Y14]),(5,false,[.pv (.sl .str),pS])]⟩
def jcw (y:List Z1) (A:List Z5):Z8:=
 (iter (fun p (a,b,l)=>bif decide (a<(b.length:Int))then oB (idx b a) fun w=>(oB (jT N w) fun C=>bif !C then some false else bif decide ((0:Int)<a)then oB (idx b a) fun q=>(if fits (a-1)then oB (idx b (a-1)) fun m=>(bif Op.bytesLess q m||decide (q=m)then some false else if fits (a+1)then p ((a+1),b,l)else none)else none)else if fits (a+1)then p ((a+1),b,l)else none)else iter (fun B (k,o,f)=>bif decide (k<(f.length:Int))then oB (idx f k) fun r=>(iter (fun E (j,c,i,n,d,h)=>bif decide (c<(d.length:Int))then oB (idx d c) fun z=>(oB (jT N z) fun K=>bif !K then some false else oB (idx d c) fun t=>oB (jaq N t) fun u=>oB (idx d c) fun H=>bif !decide (u=H)then some false else oB (idx d c) fun v=>oB (jap N i v) fun I=>bif I then some false else if fits (c+1)then E (j,(c+1),i,n,d,h)else none)else oB (jJ N (d.length:Int) 1 3) fun x=>bif !x then some false else oB (jT N h) fun D=>bif !D then some false else oB (jaq N h) fun G=>bif !decide (G=h)then some false else if fits (j+1)then B ((j+1),i,n)else none) N (k,(0:Int),o,f,r.1,r.2))else bif decide ((o.length:Int)<=6)then some (decide ((f.length:Int)<=4))else some false) N ((0:Int),b,l)) N ((0:Int),y,A))
theorem jtf :mK 41 (bX [.agg [.pv (.sl .str),.pv Y14]] [pB] (c2A (jcw N))):=
 mO (fC (jgp N) (fC (jfZ N) (fC (jhP N) (fC (jcL N) ja)))) func41 rfl N (.seq .no (.seq (.seq .no (.block (.loop jrs .no))) (.seq (.seq .no (.block (.loop js0 (.seq .no (.seq (.block (.seq .no (.seq (.seq .no (.block (.loop jrc .no))) .no))) .no))))) .no))) _
def jY2 :Sh:=⟨pS:: .pv (.int .u8)::pI::dz 4 (.own 600007 .str 9 true::pI::pI::dz 33 []),[]⟩
def s_l1Cut_m (m:List UInt8) (l:Int) (p:Int):Option ((List Z1)):=
 (iter (fun k (a,f,e,c,d,b)=>bif decide (b<(a.length:Int))then bif decide ((c.length:Int)<e)then oB (idx a b) fun n=>(bif decide ((n.toNat:Int)=f)then oB (cut a d b) fun i=>(if room c.length ([i]:List Z1).length 16 then if fits (b+1)then if fits (b+1)then k (a,f,e,(c++([i]:List Z1)),(b+1),(b+1))else none else none else none)else if fits (b+1)then k (a,f,e,c,d,(b+1))else none)else(oB (cut a d (a.length:Int)) fun j=>if room c.length ([j]:List Z1).length 16 then some (c++([j]:List Z1))else none)else oB (cut a d (a.length:Int)) fun h=>if room c.length ([h]:List Z1).length 16 then some (c++([h]:List Z1))else none) N (m,l,p,([]:List Z1),(0:Int),(0:Int)))
theorem jYN :mK 177 (bX [pS,.pv (.int .u8),pI] [.own 1 .str 9 true] (c3A (s_l1Cut_m N))):=
 mO ja func177 rfl N (.seq .no (.seq .no (.seq .no (.seq (.seq .no (.block (.loop jY2 .no))) .no)))) _
def jY1 :Sh:=⟨pS:: .dead:: .dead::pI::pI::dz 42 [],[]⟩
def s_l1Num_m (f:List UInt8):Z13:=
 (iter (fun j (a,c,b)=>bif decide (b<(a.length:Int))then oB (idx a b) fun h=>(bif decide ((h.toNat:Int)<48)then some (-1)else oB (idx a b) fun e=>bif decide ((57:Int)<(e.toNat:Int))then some (-1)else bif decide ((9:Int)<=b)then some (-1)else if fits (c*10)then oB (idx a b) fun d=>(if fits ((c*10)+(IntKind.i64.wrap (IntKind.u8.wrap ((d.toNat:Int)-48))))then if fits (b+1)then j (a,((c*10)+(IntKind.i64.wrap (IntKind.u8.wrap ((d.toNat:Int)-48)))),(b+1))else none else none)else none)else bif decide ((a.length:Int)=0)then some (-1)else bif decide ((1:Int)<a.length)then oB (idx a 0) fun i=>(bif decide ((i.toNat:Int)=48)then some (-1)else some c)else some c) N (f,(0:Int),(0:Int)))
theorem jYO :mK 172 (bX [pS] [pI] (c1A (s_l1Num_m N))):=
 mO ja func172 rfl N (.seq .no (.seq .no (.seq (.seq .no (.block (.loop jY1 .no))) .no))) _
def jot :Sh:=⟨pS:: .dead:: .dead::pI::dz 19 [],[]⟩
def jcu (d:List UInt8):Z8:=
 (iter (fun f (b,a)=>bif decide (a<(b.length:Int))then oB (idx b a) fun e=>(bif decide ((e.toNat:Int)<32)then some false else oB (idx b a) fun c=>bif decide ((126:Int)<(c.toNat:Int))then some false else if fits (a+1)then f (b,(a+1))else none)else some (decide ((b.length:Int)<=160))) N (d,(0:Int)))
theorem jpZ :mK 233 (bX [pS] [pB] (c1A (jcu N))):=
 mO ja func233 rfl N (.seq .no (.seq (.seq .no (.block (.loop jot .no))) .no)) _
def jp0 :Sh:=⟨.dead:: .box 1 0:: .dead::pI::dz 100 [],[(1,false,[pI,.pv Y17,.pv Y13])]⟩
def jtP :Sh:=⟨.dead:: .box 1 0::dz 3 (pI::dz 98 []),[(1,false,[pI,.pv Y17,.pv Y13])]⟩
def jcb (r:Int) (t:Z6) (y:Z3):Z8:=
 (iter (fun o (b,i,d,h)=>bif decide (b<(d.length:Int))then oB (idx d b) fun e=>(oB (jT N e.1) fun w=>bif !w then some false else oB (jcu N e.2) fun A=>bif !A then some false else bif decide ((0:Int)<b)then if fits (b-1)then oB (idx d (b-1)) fun p=>(bif Op.bytesLess e.1 p.1||decide (e.1=p.1)then some false else if fits (b+1)then o ((b+1),i,d,h)else none)else none else if fits (b+1)then o ((b+1),i,d,h)else none)else iter (fun n (a,j,f,c)=>bif decide (a<(c.length:Int))then oB (idx c a) fun u=>(oB (jT N u.1) fun q=>bif !q then some false else oB (idx c a) fun B=>oB (jJ N B.2 0 999999999) fun z=>bif !z then some false else bif decide ((0:Int)<a)then oB (idx c a) fun m=>(if fits (a-1)then oB (idx c (a-1)) fun l=>(bif Op.bytesLess m.1 l.1||decide (m.1=l.1)then some false else if fits (a+1)then n ((a+1),j,f,c)else none)else none)else if fits (a+1)then n ((a+1),j,f,c)else none)else oB (jJ N j 1 9999) fun v=>bif v then oB (jJ N (f.length:Int) 0 3) fun x=>(bif x then some (decide ((c.length:Int)<=3))else some false)else some false) N ((0:Int),i,d,h)) N ((0:Int),r,t,y))
theorem jpD :mK 179 (bX [.agg [pI,.pv Y17,.pv Y13]] [pB] (c3A (jcb N))):=
 mO (fC (jgp N) (fC (jpZ N) (fC (jcL N) ja))) func179 rfl N (.seq .no (.seq (.seq .no (.block (.loop jp0 .no))) (.seq (.seq .no (.block (.loop jtP .no))) .no))) _
def s_l1Dec_m (N:Nat):(D:Nat)->Int->Option (Z1)
 |0,_=>none
 |D+1,n=>
 bif decide (n<(-9223372036854775807))then
 some ([45,57,50,50,51,51,55,50,48,51,54,56,53,52,55,55,53,56,48,56]:List UInt8)
 else
 bif decide (n<0)then
 if fits (0-n)then oB (s_l1Dec_m N D (0-n)) fun r=>
 (if([45]:List UInt8).length+r.length<=9223372036854775807 then
 some (([45]:List UInt8)++r)
 else none)else none
 else
 bif decide (n<10)then
 if fits (48+n)then some (bytesOf ([(IntKind.u8.wrap (48+n))]:List Int))else none
 else
 if 10≠0 then
 if fits (n.tdiv 10)then oB (s_l1Dec_m N D (n.tdiv 10)) fun r2=>
 (if 10≠0 then
 if fits (48+(n.tmod 10))then if r2.length+(bytesOf ([(IntKind.u8.wrap (48+(n.tmod 10)))]:List Int)).length<=9223372036854775807 then
 some (r2++(bytesOf ([(IntKind.u8.wrap (48+(n.tmod 10)))]:List Int)))
 else none else none
 else none)else none
 else none
def jOp (N D:Nat):Model:=⟨⟨[pI],[]⟩,⟨[pS],[]⟩,c1A (s_l1Dec_m N D)⟩
theorem jPg (N D:Nat) (ih:mK 170 (jOp N D)):mK 170 (jOp N (D+1)):=
 mO (fC ih ja) func170 rfl N .no (jOp N (D+1))
theorem jOx (N:Nat):∀D,mK 170 (jOp N D)
 |0=>modelOk_none ⟨_,func170,by decide,by kernel_rfl⟩ _ (fun a=>rfl)
 |D+1=>jPg N D (jOx N D)
def jXV :Sh:=⟨.dead:: .box 1 0:: .dead::pS::pI::dz 58 [],[(1,false,[pI,.pv Y17,.pv Y13])]⟩
def jYl :Sh:=⟨.dead:: .box 1 0:: .dead::pS:: .dead::pI::dz 57 [],[(1,false,[pI,.pv Y17,.pv Y13])]⟩
def s_l6Put_m (n:Int) (q:Z6) (u:Z3):Option (Z1):=
 (oB (s_l1Dec_m N N n) fun j=>if([100,111,99,32]:List UInt8).length+j.length<=9223372036854775807 then if(([100,111,99,32]:List UInt8)++j).length+([10]:List UInt8).length<=9223372036854775807 then iter (fun w (a,h,p,f,o)=>bif decide (h<(f.length:Int))then if a.length+([102,105,101,108,100,32]:List UInt8).length<=9223372036854775807 then oB (idx f h) fun c=>(if(a++([102,105,101,108,100,32]:List UInt8)).length+c.1.length<=9223372036854775807 then if((a++([102,105,101,108,100,32]:List UInt8))++c.1).length+([32]:List UInt8).length<=9223372036854775807 then oB (idx f h) fun l=>(if(((a++([102,105,101,108,100,32]:List UInt8))++c.1)++([32]:List UInt8)).length+l.2.length<=9223372036854775807 then if((((a++([102,105,101,108,100,32]:List UInt8))++c.1)++([32]:List UInt8))++l.2).length+([10]:List UInt8).length<=9223372036854775807 then if fits (h+1)then w ((((((a++([102,105,101,108,100,32]:List UInt8))++c.1)++([32]:List UInt8))++l.2)++([10]:List UInt8)),(h+1),p,f,o)else none else none else none)else none else none)else none else iter (fun t (b,e,v,r,i)=>bif decide (e<(i.length:Int))then if b.length+([110,117,109,32]:List UInt8).length<=9223372036854775807 then oB (idx i e) fun d=>(if(b++([110,117,109,32]:List UInt8)).length+d.1.length<=9223372036854775807 then if((b++([110,117,109,32]:List UInt8))++d.1).length+([32]:List UInt8).length<=9223372036854775807 then oB (idx i e) fun x=>(oB (s_l1Dec_m N N x.2) fun k=>if(((b++([110,117,109,32]:List UInt8))++d.1)++([32]:List UInt8)).length+k.length<=9223372036854775807 then if((((b++([110,117,109,32]:List UInt8))++d.1)++([32]:List UInt8))++k).length+([10]:List UInt8).length<=9223372036854775807 then if fits (e+1)then t ((((((b++([110,117,109,32]:List UInt8))++d.1)++([32]:List UInt8))++k)++([10]:List UInt8)),(e+1),v,r,i)else none else none else none)else none else none)else none else some b) N (a,(0:Int),p,f,o)) N (((([100,111,99,32]:List UInt8)++j)++([10]:List UInt8)),(0:Int),n,q,u)else none else none)
theorem jYI :mK 184 (bX [.agg [pI,.pv Y17,.pv Y13]] [pS] (c3A (s_l6Put_m N))):=
 mO (fC (jOx N N) ja) func184 rfl N (.seq .no (.seq .no (.seq (.seq .no (.block (.loop jXV .no))) (.seq (.seq .no (.block (.loop jYl .no))) .no)))) _
def jYV :Sh:=⟨pS:: .dead:: .box 2 0:: .dead:: .box 4 0:: .own 600005 .str 9 true::pI::dz 100 [],[(2,false,[pI,.nils,.nils]),(4,false,[pI,.own 700401 Y18 155 true,.own 700402 Y15 157 true])]⟩
def s_DocGet_m (s:List UInt8):Option (Int×Z11×Z7×Bool):=
 (oB (s_l1Cut_m N s 10 8) fun r=>iter (fun go (s2,lines,i,b,d,d2,d3)=>if fits (i+1)then bif decide ((i+1)<(lines.length:Int))then oB (idx lines i) fun e=>(oB (s_l1Cut_m N e 32 2) fun r2=>bif decide (i=0)then oB (idx r2 0) fun e2=>(bif decide (e2=([100,111,99]:List UInt8))then bif decide ((r2.length:Int)=2)then oB (idx r2 1) fun e3=>(oB (s_l1Num_m N e3) fun r3=>if fits (i+1)then go (s2,lines,(i+1),b,r3,d2,d3)else none)else(bif decide ((0:Int)<i)then oB (idx r2 0) fun e4=>(bif decide (e4=([102,105,101,108,100]:List UInt8))then bif decide ((r2.length:Int)=3)then oB (idx r2 1) fun e5=>(oB (idx r2 2) fun e6=>if room d2.length ([(e5,e6)]:Z6).length 32 then if fits (i+1)then go (s2,lines,(i+1),b,d,(d2++([(e5,e6)]:Z6)),d3)else none else none)else(bif decide ((0:Int)<i)then oB (idx r2 0) fun e7=>(bif decide (e7=([110,117,109]:List UInt8))then bif decide ((r2.length:Int)=3)then oB (idx r2 1) fun e8=>(oB (idx r2 2) fun e9=>oB (s_l1Num_m N e9) fun r4=>if room d3.length ([(e8,r4)]:Z3).length 24 then if fits (i+1)then go (s2,lines,(i+1),b,d,d2,(d3++([(e8,r4)]:Z3)))else none else none)else(some (0,([]:Z6),([]:Z3),false))else some (0,([]:Z6),([]:Z3),false))else some (0,([]:Z6),([]:Z3),false))else bif decide ((0:Int)<i)then oB (idx r2 0) fun e10=>(bif decide (e10=([110,117,109]:List UInt8))then bif decide ((r2.length:Int)=3)then oB (idx r2 1) fun e11=>(oB (idx r2 2) fun e12=>oB (s_l1Num_m N e12) fun r5=>if room d3.length ([(e11,r5)]:Z3).length 24 then if fits (i+1)then go (s2,lines,(i+1),b,d,d2,(d3++([(e11,r5)]:Z3)))else none else none)else(some (0,([]:Z6),([]:Z3),false))else some (0,([]:Z6),([]:Z3),false))else some (0,([]:Z6),([]:Z3),false))else bif decide ((0:Int)<i)then oB (idx r2 0) fun e13=>(bif decide (e13=([110,117,109]:List UInt8))then bif decide ((r2.length:Int)=3)then oB (idx r2 1) fun e14=>(oB (idx r2 2) fun e15=>oB (s_l1Num_m N e15) fun r6=>if room d3.length ([(e14,r6)]:Z3).length 24 then if fits (i+1)then go (s2,lines,(i+1),b,d,d2,(d3++([(e14,r6)]:Z3)))else none else none)else(some (0,([]:Z6),([]:Z3),false))else some (0,([]:Z6),([]:Z3),false))else some (0,([]:Z6),([]:Z3),false))else bif decide ((0:Int)<i)then oB (idx r2 0) fun e16=>(bif decide (e16=([102,105,101,108,100]:List UInt8))then bif decide ((r2.length:Int)=3)then oB (idx r2 1) fun e17=>(oB (idx r2 2) fun e18=>if room d2.length ([(e17,e18)]:Z6).length 32 then if fits (i+1)then go (s2,lines,(i+1),b,d,(d2++([(e17,e18)]:Z6)),d3)else none else none)else(bif decide ((0:Int)<i)then oB (idx r2 0) fun e19=>(bif decide (e19=([110,117,109]:List UInt8))then bif decide ((r2.length:Int)=3)then oB (idx r2 1) fun e20=>(oB (idx r2 2) fun e21=>oB (s_l1Num_m N e21) fun r7=>if room d3.length ([(e20,r7)]:Z3).length 24 then if fits (i+1)then go (s2,lines,(i+1),b,d,d2,(d3++([(e20,r7)]:Z3)))else none else none)else(some (0,([]:Z6),([]:Z3),false))else some (0,([]:Z6),([]:Z3),false))else some (0,([]:Z6),([]:Z3),false))else bif decide ((0:Int)<i)then oB (idx r2 0) fun e22=>(bif decide (e22=([110,117,109]:List UInt8))then bif decide ((r2.length:Int)=3)then oB (idx r2 1) fun e23=>(oB (idx r2 2) fun e24=>oB (s_l1Num_m N e24) fun r8=>if room d3.length ([(e23,r8)]:Z3).length 24 then if fits (i+1)then go (s2,lines,(i+1),b,d,d2,(d3++([(e23,r8)]:Z3)))else none else none)else(some (0,([]:Z6),([]:Z3),false))else some (0,([]:Z6),([]:Z3),false))else some (0,([]:Z6),([]:Z3),false))else bif decide ((0:Int)<i)then oB (idx r2 0) fun e25=>(bif decide (e25=([110,117,109]:List UInt8))then bif decide ((r2.length:Int)=3)then oB (idx r2 1) fun e26=>(oB (idx r2 2) fun e27=>oB (s_l1Num_m N e27) fun r9=>if room d3.length ([(e26,r9)]:Z3).length 24 then if fits (i+1)then go (s2,lines,(i+1),b,d,d2,(d3++([(e26,r9)]:Z3)))else none else none)else(some (0,([]:Z6),([]:Z3),false))else some (0,([]:Z6),([]:Z3),false))else some (0,([]:Z6),([]:Z3),false))else bif decide ((0:Int)<i)then oB (idx r2 0) fun e28=>(bif decide (e28=([102,105,101,108,100]:List UInt8))then bif decide ((r2.length:Int)=3)then oB (idx r2 1) fun e29=>(oB (idx r2 2) fun e30=>if room d2.length ([(e29,e30)]:Z6).length 32 then if fits (i+1)then go (s2,lines,(i+1),b,d,(d2++([(e29,e30)]:Z6)),d3)else none else none)else(bif decide ((0:Int)<i)then oB (idx r2 0) fun e31=>(bif decide (e31=([110,117,109]:List UInt8))then bif decide ((r2.length:Int)=3)then oB (idx r2 1) fun e32=>(oB (idx r2 2) fun e33=>oB (s_l1Num_m N e33) fun r10=>if room d3.length ([(e32,r10)]:Z3).length 24 then if fits (i+1)then go (s2,lines,(i+1),b,d,d2,(d3++([(e32,r10)]:Z3)))else none else none)else(some (0,([]:Z6),([]:Z3),false))else some (0,([]:Z6),([]:Z3),false))else some (0,([]:Z6),([]:Z3),false))else bif decide ((0:Int)<i)then oB (idx r2 0) fun e34=>(bif decide (e34=([110,117,109]:List UInt8))then bif decide ((r2.length:Int)=3)then oB (idx r2 1) fun e35=>(oB (idx r2 2) fun e36=>oB (s_l1Num_m N e36) fun r11=>if room d3.length ([(e35,r11)]:Z3).length 24 then if fits (i+1)then go (s2,lines,(i+1),b,d,d2,(d3++([(e35,r11)]:Z3)))else none else none)else(some (0,([]:Z6),([]:Z3),false))else some (0,([]:Z6),([]:Z3),false))else some (0,([]:Z6),([]:Z3),false))else bif decide ((0:Int)<i)then oB (idx r2 0) fun e37=>(bif decide (e37=([110,117,109]:List UInt8))then bif decide ((r2.length:Int)=3)then oB (idx r2 1) fun e38=>(oB (idx r2 2) fun e39=>oB (s_l1Num_m N e39) fun r12=>if room d3.length ([(e38,r12)]:Z3).length 24 then if fits (i+1)then go (s2,lines,(i+1),b,d,d2,(d3++([(e38,r12)]:Z3)))else none else none)else(some (0,([]:Z6),([]:Z3),false))else some (0,([]:Z6),([]:Z3),false))else some (0,([]:Z6),([]:Z3),false))else(oB (jcb N d d2 d3) fun r13=>bif !r13 then some (0,([]:Z6),([]:Z3),false)else oB (s_l6Put_m N d d2 d3) fun r14=>bif !decide (r14=s2)then some (0,([]:Z6),([]:Z3),false)else some (d,d2,d3,true))else none) N (s,r,(0:Int),(0:Int),(0:Int),([]:Z6),([]:Z3)))
theorem jYP :mK 178 (bX [pS] [.tup [.agg [pI,.own 1 Y18 155 true,.own 2 Y15 157 true],pB]] (c1A (s_DocGet_m N))):=
 mO (fC (jYN N) (fC (jYO N) (fC (jpD N) (fC (jYI N) ja)))) func178 rfl N (.seq .no (.seq .no (.seq .no (.seq (.seq .no (.block (.loop jYV .no))) .no)))) _
def jYZ :Sh:=⟨dz 4 (.own 600004 Y4 95 true:: .own 600005 tI 3 true:: .own 600006 .str 9 true::pS::pI::dz 73 []),[]⟩
def jY0 :Sh:=⟨dz 4 (.own 49 Y4 95 true:: .own 600005 tI 3 true:: .own 600006 .str 9 true::pS::pI:: .own 27001 .str 9 true::dz 72 []),[]⟩
def s_l19Docs_m (w:List UInt8):Option ((List Z0)×(List Int)):=
 (oB (s_l1Cut_m N w 10 400) fun z=>iter (fun m (h,n,e,k,f)=>bif decide (f<(e.length:Int))then oB (idx e f) fun v=>(oB (s_l1Cut_m N v 32 1) fun i=>meet (fun(t:(List Z0)×(List Int)×(List Z1)×Z1×Int×(List Z1))=>match t with|(l,j,b,c,a,q)=>bif decide ((q.length:Int)=2)then oB (idx q 0) fun y=>(bif decide (y=([100,101,97,100]:List UInt8))then oB (idx q 1) fun x=>(oB (s_l1Num_m N x) fun u=>if room j.length ([u]:List Int).length 8 then if fits (a+1)then m (l,(j++([u]:List Int)),b,c,(a+1))else none else none)else if fits (a+1)then bif decide ((a+1)<(b.length:Int))then oB (idx b a) fun p=>(if c.length+p.length<=9223372036854775807 then if(c++p).length+([10]:List UInt8).length<=9223372036854775807 then if fits (a+1)then m (l,j,b,((c++p)++([10]:List UInt8)),(a+1))else none else none else none)else(if fits (a+1)then m (l,j,b,c,(a+1))else none)else none)else if fits (a+1)then bif decide ((a+1)<(b.length:Int))then oB (idx b a) fun r=>(if c.length+r.length<=9223372036854775807 then if(c++r).length+([10]:List UInt8).length<=9223372036854775807 then if fits (a+1)then m (l,j,b,((c++r)++([10]:List UInt8)),(a+1))else none else none else none)else(if fits (a+1)then m (l,j,b,c,(a+1))else none)else none) fun o=>bif !decide (k=([]:List UInt8))then oB (idx i 0) fun A=>(bif !decide (A=([102,105,101,108,100]:List UInt8))then oB (idx i 0) fun B=>(bif !decide (B=([110,117,109]:List UInt8))then oB (s_DocGet_m N k) fun d=>(if room h.length ([(d.1,d.2.1,d.2.2.1)]:List Z0).length 56 then o ((h++([(d.1,d.2.1,d.2.2.1)]:List Z0)),n,e,([]:List UInt8),f,i)else none)else o (h,n,e,k,f,i))else o (h,n,e,k,f,i))else o (h,n,e,k,f,i))else some (h,n)) N (([]:List Z0),([]:List Int),z,([]:List UInt8),(0:Int)))
theorem jYQ :mK 105 (bX [pS] [.tup [.own 1 Y4 95 true,.own 2 tI 3 true]] (c1A (s_l19Docs_m N))):=
 mO (fC (jYN N) (fC (jYP N) (fC (jYO N) ja))) func105 rfl N (.seq .no (.seq .no (.seq .no (.seq .no (.seq .no (.seq (.seq .no (.block (.loop jYZ (.seq .no (.seq (.block (.seq .no (.meet jY0 .no .no))) .no))))) .no)))))) _
def jkS :Sh:=⟨.pv Y3:: .dead:: .dead::pI::dz 33 [],[]⟩
def jbU (h:List Z0):Z8:=
 (iter (fun d (b,a)=>bif decide (a<(b.length:Int))then oB (idx b a) fun c=>(oB (jcb N c.1 c.2.1 c.2.2) fun e=>bif !e then some false else bif decide ((0:Int)<a)then oB (idx b a) fun f=>(if fits (a-1)then oB (idx b (a-1)) fun i=>(bif decide (f.1<=i.1)then some false else if fits (a+1)then d (b,(a+1))else none)else none)else if fits (a+1)then d (b,(a+1))else none)else some (decide ((b.length:Int)<=16))) N (h,(0:Int)))
theorem jpx :mK 106 (bX [.pv Y3] [pB] (c1A (jbU N))):=
 mO (fC (jpD N) ja) func106 rfl N (.seq .no (.seq (.seq .no (.block (.loop jkS .no))) .no)) _
def jl5 :Sh:=⟨.pv (.sl .str)::pS::dz 3 (pI::dz 42 []),[]⟩
def s_l7Put_m (q:List Z1) (n:List UInt8):Option ((List Z1)):=
 (iter (fun o (a,c,b)=>bif decide (b<(a.length:Int))then oB (idx a b) fun m=>(bif Op.bytesLess m c then if fits (b+1)then o (a,c,(b+1))else none else bif decide (b<(a.length:Int))then oB (idx a b) fun p=>(bif decide (p=c)then some a else oB (cut a 0 b) fun h=>if room ([]:List Z1).length h.length 16 then if room (([]:List Z1)++h).length ([c]:List Z1).length 16 then oB (cut a b (a.length:Int)) fun l=>(if room ((([]:List Z1)++h)++([c]:List Z1)).length l.length 16 then some (((([]:List Z1)++h)++([c]:List Z1))++l)else none)else none else none)else oB (cut a 0 b) fun f=>if room ([]:List Z1).length f.length 16 then if room (([]:List Z1)++f).length ([c]:List Z1).length 16 then oB (cut a b (a.length:Int)) fun k=>(if room ((([]:List Z1)++f)++([c]:List Z1)).length k.length 16 then some (((([]:List Z1)++f)++([c]:List Z1))++k)else none)else none else none)else bif decide (b<(a.length:Int))then oB (idx a b) fun r=>(bif decide (r=c)then some a else oB (cut a 0 b) fun d=>if room ([]:List Z1).length d.length 16 then if room (([]:List Z1)++d).length ([c]:List Z1).length 16 then oB (cut a b (a.length:Int)) fun j=>(if room ((([]:List Z1)++d)++([c]:List Z1)).length j.length 16 then some (((([]:List Z1)++d)++([c]:List Z1))++j)else none)else none else none)else oB (cut a 0 b) fun e=>if room ([]:List Z1).length e.length 16 then if room (([]:List Z1)++e).length ([c]:List Z1).length 16 then oB (cut a b (a.length:Int)) fun i=>(if room ((([]:List Z1)++e)++([c]:List Z1)).length i.length 16 then some (((([]:List Z1)++e)++([c]:List Z1))++i)else none)else none else none) N (q,n,(0:Int)))
theorem jgt :mK 234 (bX [.pv (.sl .str),pS] [.pv (.sl .str)] (c2A (s_l7Put_m N))):=
 mO ja func234 rfl N (.seq .no (.seq .no (.seq (.block (.loop jl5 .no)) .no))) _
def joT :Sh:=⟨.pv Y3:: .dead:: .dead:: .pv (.sl .str)::pI::dz 30 [],[]⟩
def jkn :Sh:=⟨.pv Y3:: .dead:: .dead:: .pv (.sl .str)::pI::pI::dz 29 [],[]⟩
def s_l7Names_m (m:List Z0):Option ((List Z1)):=
 (iter (fun o (e,f,h)=>bif decide (h<(e.length:Int))then iter (fun j (b,i,a,c)=>oB (idx b a) fun k=>bif decide (c<(k.2.1.length:Int))then oB (idx b a) fun n=>(oB (idx n.2.1 c) fun p=>oB (s_l7Put_m N i p.1) fun l=>if fits (c+1)then j (b,l,a,(c+1))else none)else if fits (a+1)then o (b,i,(a+1))else none) N (e,f,h,(0:Int))else some f) N (m,([]:List Z1),(0:Int)))
theorem jlz :mK 180 (bX [.pv Y3] [.pv (.sl .str)] (c1A (s_l7Names_m N))):=
 mO (fC (jgt N) ja) func180 rfl N (.seq .no (.seq .no (.seq (.seq .no (.block (.loop joT (.seq .no (.seq (.block (.seq .no (.block (.loop jkn .no)))) .no))))) .no))) _
def jl8 :Sh:=⟨.dead::pS:: .box 2 0:: .dead:: .dead::pI::dz 21 [],[(2,false,[pI,.pv Y17,.pv Y13])]⟩
def s_l6Field_m (e:Int) (h:Z6) (i:Z3) (d:List UInt8):Option (Z1):=
 (iter (fun m (c,a,k,b,j)=>bif decide (a<(b.length:Int))then oB (idx b a) fun f=>(bif decide (f.1=c)then oB (idx b a) fun l=>(some l.2)else if fits (a+1)then m (c,(a+1),k,b,j)else none)else some ([]:List UInt8)) N (d,(0:Int),e,h,i))
theorem jhA :mK 236 (bX [.agg [pI,.pv Y17,.pv Y13],pS] [pS] (c4A (s_l6Field_m N))):=
 mO ja func236 rfl N (.seq .no (.seq (.seq .no (.block (.loop jl8 .no))) .no)) _
def jo3 :Sh:=⟨pS:: .dead:: .dead:: .own 600003 Y7 233 true::pI::dz 50 [],[]⟩
def jm6 :Sh:=⟨pS:: .dead:: .dead:: .own 600003 Y7 233 true::pI:: .own 600005 (.int .u8) 5 true::pI::dz 48 [],[]⟩
def jtK :Sh:=⟨pS:: .dead:: .dead:: .own 600003 Y7 233 true::pI:: .pv (.sl (.int .u8))::pI::dz 48 [],[]⟩
def jb3 (z:List UInt8):Option ((List Z10)):=
 (iter (fun l (w,r,o)=>bif decide (o<(w.length:Int))then iter (fun C (b,i,a,c,h)=>bif decide (a<(b.length:Int))then oB (idx b a) fun A=>(oB (jt N (A.toNat:Int)) fun D=>bif !decide (D=0)then oB (idx b a) fun B=>(oB (jt N (B.toNat:Int)) fun y=>if room c.length ([y]:List Int).length 1 then if fits (a+1)then C (b,i,(a+1),(c++([y]:List Int)),h)else none else none)else meet (fun(d:Z1×(List Z10)×Int×(List Int)×Int)=>match d with|(t,j,e,n,q)=>bif decide ((0:Int)<n.length)then if room j.length ([((bytesOf n),(j.length:Int),q,e)]:List Z10).length 40 then if fits (e+1)then l (t,(j++([((bytesOf n),(j.length:Int),q,e)]:List Z10)),(e+1))else none else none else if fits (e+1)then l (t,j,(e+1))else none) fun v=>bif decide ((12:Int)<c.length)then oB (cut c 0 12) fun E=>(v (b,i,a,E,h))else v (b,i,a,c,h))else meet (fun(d:Z1×(List Z10)×Int×(List Int)×Int)=>match d with|(p,k,f,m,x)=>bif decide ((0:Int)<m.length)then if room k.length ([((bytesOf m),(k.length:Int),x,f)]:List Z10).length 40 then if fits (f+1)then l (p,(k++([((bytesOf m),(k.length:Int),x,f)]:List Z10)),(f+1))else none else none else if fits (f+1)then l (p,k,(f+1))else none) fun u=>bif decide ((12:Int)<c.length)then oB (cut c 0 12) fun G=>(u (b,i,a,G,h))else u (b,i,a,c,h)) N (w,r,o,([]:List Int),o)else some r) N (z,([]:List Z10),(0:Int)))
theorem jsr :mK 333 (bX [pS] [.own 1 Y7 233 true] (c1A (jb3 N))):=
 mO (fC (jfG N) ja) func333 rfl N (.seq .no (.seq .no (.seq (.seq .no (.block (.loop jo3 (.seq .no (.seq (.block (.seq .no (.seq .no (.seq (.block (.loop jm6 .no)) (.meet jtK .no .no))))) .no))))) .no))) _
def jmf :Sh:=⟨.dead:: .dead:: .box 2 0:: .dead:: .dead:: .own 600005 Y15 162 true:: .own 600006 Y7 233 true::pI::dz 43 [],[(2,false,[.pv (.sl .str),.pv Y14])]⟩
def jbY (m:List Z1) (n:List Z5) (l:List UInt8):Option (Z7):=
 (oB (jb3 N l) fun o=>iter (fun h (d,b,a,c,e)=>bif decide (a<(b.length:Int))then oB (idx b a) fun k=>(oB (jaq N k.1) fun f=>oB (idx b a) fun q=>oB (jap N c q.1) fun j=>bif !j then oB (jap N c f) fun p=>(bif !p then oB (idx b a) fun i=>(if room d.length ([(f,i.2.1)]:Z3).length 24 then if fits (a+1)then h ((d++([(f,i.2.1)]:Z3)),b,(a+1),c,e)else none else none)else if fits (a+1)then h (d,b,(a+1),c,e)else none)else if fits (a+1)then h (d,b,(a+1),c,e)else none)else some d) N (([]:Z3),o,(0:Int),m,n))
theorem jrk :mK 298 (bX [.agg [.pv (.sl .str),.pv Y14],pS] [.own 1 Y15 162 true] (c3A (jbY N))):=
 mO (fC (jsr N) (fC (jfZ N) (fC (jhP N) ja))) func298 rfl N (.seq .no (.seq .no (.seq .no (.seq (.seq .no (.block (.loop jmf .no))) .no)))) _
def jrL :Sh:=⟨.pv Y13:: .pv (.sl .str)::dz 3 (pI::dz 36 []),[]⟩
def jcC (k:Z3) (e:List Z1):Z8:=
 (iter (fun i (b,c,a)=>bif decide (a<(c.length:Int))then bif decide ((b.length:Int)<=a)then some false else(oB (idx b a) fun f=>oB (idx c a) fun j=>bif !decide (f.1=j)then some false else oB (idx b a) fun h=>oB (idx b 0) fun d=>if fits (d.2+a)then bif !decide (h.2=(d.2+a))then some false else(if fits (a+1)then i (b,c,(a+1))else none)else none)else some true) N (k,e,(0:Int)))
theorem jtg :mK 334 (bX [.pv Y13,.pv (.sl .str)] [pB] (c2A (jcC N))):=
 mO ja func334 rfl N (.seq .no (.seq (.seq .no (.block (.loop jrL .no))) .no)) _
def jlL :Sh:=⟨.dead:: .pv Y13:: .box 2 0:: .dead:: .dead::pI::pI::dz 38 [],[(2,false,[.pv (.sl .str),.pv Y14])]⟩
def jcJ (l:List Z1) (i:List Z5) (h:Z3):Z13:=
 (iter (fun f (d,c,a,e,b)=>bif decide (a<(b.length:Int))then oB (idx b a) fun j=>(oB (jcC N d j.1) fun k=>bif k then bif decide (c<0)then if fits (a+1)then f (d,a,(a+1),e,b)else none else(oB (idx b a) fun m=>oB (idx b c) fun n=>bif decide ((n.1.length:Int)<(m.1.length:Int))then if fits (a+1)then f (d,a,(a+1),e,b)else none else if fits (a+1)then f (d,c,(a+1),e,b)else none)else if fits (a+1)then f (d,c,(a+1),e,b)else none)else some c) N (h,((-1):Int),(0:Int),l,i))
theorem jqp :mK 299 (bX [.agg [.pv (.sl .str),.pv Y14],.pv Y13] [pI] (c3A (jcJ N))):=
 mO (fC (jtg N) ja) func299 rfl N (.seq .no (.seq .no (.seq (.seq .no (.block (.loop jlL .no))) .no))) _
def jnK :Sh:=⟨.dead:: .dead:: .box 2 0:: .dead:: .dead:: .own 600005 Y15 162 true:: .pv Y13::dz 45 [],[(2,false,[.pv (.sl .str),.pv Y14])]⟩
def ja5 (i:List Z1) (j:List Z5) (m:List UInt8):Option (Z7):=
 (oB (jbY N i j m) fun n=>iter (fun k (b,a,d,c)=>bif decide ((0:Int)<a.length)then oB (jcJ N d c a) fun e=>(bif decide (e<0)then oB (idx a 0) fun f=>(if room b.length ([f]:Z3).length 24 then oB (cut a 1 (a.length:Int)) fun o=>(k ((b++([f]:Z3)),o,d,c))else none)else oB (idx c e) fun l=>oB (idx a 0) fun h=>if room b.length ([(l.2,h.2)]:Z3).length 24 then oB (idx c e) fun q=>(oB (cut a (q.1.length:Int) (a.length:Int)) fun p=>k ((b++([(l.2,h.2)]:Z3)),p,d,c))else none)else some b) N (([]:Z3),n,i,j))
theorem jiO :mK 235 (bX [.agg [.pv (.sl .str),.pv Y14],pS] [.own 1 Y15 162 true] (c3A (ja5 N))):=
 mO (fC (jrk N) (fC (jqp N) ja)) func235 rfl N (.seq .no (.seq .no (.seq .no (.seq (.block (.loop jnK .no)) .no)))) _
def jn9 :Sh:=⟨.dead:: .pv Y3::pS:: .box 3 0::dz 3 (.pv (.sl .str)::pI::dz 31 []),[(3,false,[.pv (.sl .str),.pv Y14])]⟩
def jrT :Sh:=⟨.dead:: .pv Y3::pS:: .box 3 0::dz 3 (.pv (.sl .str)::pI:: .own 600009 Y15 162 true::pI::dz 29 []),[(3,false,[.pv (.sl .str),.pv Y14])]⟩
def s_l7Terms_m (t:List Z1) (u:List Z5) (y:List Z0) (x:List UInt8):Option ((List Z1)):=
 (iter (fun A (e,q,k,f,j,p)=>bif decide (f<(e.length:Int))then oB (idx e f) fun c=>(oB (s_l6Field_m N c.1 c.2.1 c.2.2 q) fun w=>oB (ja5 N j p w) fun z=>iter (fun v (n,i,l,d,b,a,m,o)=>bif decide (a<(b.length:Int))then oB (idx b a) fun B=>(oB (s_l7Put_m N l B.1) fun r=>if fits (a+1)then v (n,i,r,d,b,(a+1),m,o)else none)else if fits (d+1)then A (n,i,l,(d+1),m,o)else none) N (e,q,k,f,z,(0:Int),j,p))else some k) N (y,x,([]:List Z1),(0:Int),t,u))
theorem jqQ :mK 181 (bX [.agg [.pv (.sl .str),.pv Y14],.pv Y3,pS] [.pv (.sl .str)] (c4A (s_l7Terms_m N))):=
 mO (fC (jhA N) (fC (jiO N) (fC (jgt N) ja))) func181 rfl N (.seq .no (.seq .no (.seq (.seq .no (.block (.loop jn9 (.seq .no (.seq (.block (.seq .no (.seq .no (.block (.loop jrT .no))))) .no))))) .no))) _
def jnY :Sh:=⟨dz 3 (pS::dz 5 (.own 600009 tI 3 true:: .own 600010 Y15 162 true::pI::dz 28 [])),[]⟩
def s_l7Post_m (k:List Z1) (m:List Z5) (h:Int) (j:Z6) (o:Z3) (p:List UInt8) (l:List UInt8):Option ((List Int)):=
 (oB (s_l6Field_m N h j o p) fun n=>oB (ja5 N k m n) fun q=>iter (fun e (d,c,b,a)=>bif decide (a<(b.length:Int))then oB (idx b a) fun i=>(bif decide (i.1=d)then oB (idx b a) fun f=>(if room c.length ([f.2]:List Int).length 8 then if fits (a+1)then e (d,(c++([f.2]:List Int)),b,(a+1))else none else none)else if fits (a+1)then e (d,c,b,(a+1))else none)else some c) N (l,([]:List Int),q,(0:Int)))
theorem js6 :mK 237 (bX [.agg [.pv (.sl .str),.pv Y14],.agg [pI,.pv Y17,.pv Y13],pS,pS] [.own 1 tI 3 true] (c7A (s_l7Post_m N))):=
 mO (fC (jhA N) (fC (jiO N) ja)) func237 rfl N (.seq .no (.seq .no (.seq .no (.seq (.seq .no (.block (.loop jnY .no))) .no)))) _
def jkw :Sh:=⟨.dead:: .pv Y3::pS::pS:: .box 4 0::dz 3 (.box 8 0:: .box 9 0::pI::dz 34 []),[(4,false,[.pv (.sl .str),.pv Y14]),(8,false,[pS,pS,.nils]),(9,false,[pS,pS,.own 700902 Y12 241 true])]⟩
def s_l7Entry_m (t:List Z1) (u:List Z5) (v:List Z0) (q:List UInt8) (n:List UInt8):Option Z2:=
 (iter (fun r (b,h,f,a,d,j,m,o,e,k,c)=>bif decide (a<(b.length:Int))then oB (idx b a) fun l=>(oB (s_l7Post_m N d j l.1 l.2.1 l.2.2 h f) fun i=>bif decide ((0:Int)<i.length)then oB (idx b a) fun p=>(if room c.length ([(p.1,i)]:Z4).length 32 then if fits (a+1)then r (b,h,f,(a+1),d,j,m,o,e,k,(c++([(p.1,i)]:Z4)))else none else none)else if fits (a+1)then r (b,h,f,(a+1),d,j,m,o,e,k,c)else none)else some (e,k,c)) N (v,q,n,(0:Int),t,u,([]:List UInt8),([]:List UInt8),q,n,([]:Z4)))
theorem jtr :mK 182 (bX [.agg [.pv (.sl .str),.pv Y14],.pv Y3,pS,pS] [.agg [pS,pS,.own 1 Y12 241 true]] (c5A (s_l7Entry_m N))):=
 mO (fC (js6 N) ja) func182 rfl N (.seq .no (.seq .no (.seq (.seq .no (.block (.loop jkw .no))) .no))) _
def s_l7CopyDoc_m (N:Nat) (c:Int) (b:Z6) (a:Z3):Option Z0:=
 (if room ([]:Z6).length b.length 32 then if room ([]:Z3).length a.length 24 then some (c,(([]:Z6)++b),(([]:Z3)++a))else none else none)
theorem jtC :mK 183 (bX [.agg [pI,.pv Y17,.pv Y13]] [.agg [pI,.own 1 Y18 155 true,.own 2 Y15 157 true]] (c3A (s_l7CopyDoc_m N))):=
 mO ja func183 rfl N .no _
def jn8 :Sh:=⟨.dead:: .pv Y3:: .box 2 0:: .dead:: .box 4 0:: .box 5 0:: .pv (.sl .str)::pI::dz 58 [],[(2,false,[.pv (.sl .str),.pv Y14]),(4,false,[.nils,.nils]),(5,false,[.nils,.own 700501 Y6 167 true])]⟩
def jpr :Sh:=⟨.dead:: .pv Y3:: .box 2 0:: .dead:: .box 4 0:: .box 5 0:: .pv (.sl .str)::pI:: .pv (.sl .str)::pI::dz 56 [],[(2,false,[.pv (.sl .str),.pv Y14]),(4,false,[.nils,.nils]),(5,false,[.nils,.own 700501 Y6 167 true])]⟩
def jn0 :Sh:=⟨.dead:: .pv Y3:: .dead:: .dead:: .box 4 0:: .box 5 0::dz 4 (pI::dz 55 []),[(4,false,[.nils,.nils]),(5,false,[.own 700500 Y4 95 true,.own 700501 Y6 167 true])]⟩
def s_l7Of_m (B:List Z1) (C:List Z5) (x:List Z0):Option ((List Z0)×(List Z2)):=
 (oB (s_l7Names_m N x) fun E=>iter (fun I (i,f,m,t,y,u)=>bif decide (m<(f.length:Int))then oB (idx f m) fun z=>(oB (s_l7Terms_m N t y i z) fun H=>iter (fun D (l,o,d,p,b,j,n,h)=>bif decide (b<(p.length:Int))then oB (idx o d) fun K=>(oB (idx p b) fun A=>oB (s_l7Entry_m N j n l K A) fun r=>if room h.length ([r]:List Z2).length 56 then if fits (b+1)then D (l,o,d,p,(b+1),j,n,(h++([r]:List Z2)))else none else none)else if fits (d+1)then I (l,o,(d+1),j,n,h)else none) N (i,f,m,H,(0:Int),t,y,u))else iter (fun G (e,c,k,v)=>bif decide (c<(e.length:Int))then oB (idx e c) fun q=>(oB (s_l7CopyDoc_m N q.1 q.2.1 q.2.2) fun w=>if room k.length ([w]:List Z0).length 56 then if fits (c+1)then G (e,(c+1),(k++([w]:List Z0)),v)else none else none)else some (k,v)) N (i,(0:Int),([]:List Z0),u)) N (x,E,(0:Int),B,C,([]:List Z2)))
theorem jmU :mK 107 (bX [.agg [.pv (.sl .str),.pv Y14],.pv Y3] [.agg [.own 1 Y4 95 true,.own 2 Y6 167 true]] (c3A (s_l7Of_m N))):=
 mO (fC (jlz N) (fC (jqQ N) (fC (jtr N) (fC (jtC N) ja)))) func107 rfl N (.seq .no (.seq .no (.seq .no (.seq (.seq .no (.block (.loop jn8 (.seq .no (.seq (.block (.seq .no (.seq .no (.block (.loop jpr .no))))) .no))))) (.seq (.seq .no (.block (.loop jn0 .no))) .no))))) _
def jnI :Sh:=⟨.pv Y19:: .pv Y19::dz 3 (pI::dz 20 []),[]⟩
def jb1 (e:List Int) (c:List Int):Z8:=
 (bif !decide ((e.length:Int)=(c.length:Int))then some false else iter (fun j (b,d,a)=>bif decide (a<(b.length:Int))then oB (idx b a) fun h=>(oB (idx d a) fun i=>bif !decide (h=i)then some false else if fits (a+1)then j (b,d,(a+1))else none)else some true) N (e,c,(0:Int)))
theorem jlH :mK 292 (bX [.pv Y19,.pv Y19] [pB] (c2A (jb1 N))):=
 mO ja func292 rfl N (.seq .no (.seq .no (.seq (.seq .no (.block (.loop jnI .no))) .no))) _
def jnx :Sh:=⟨.dead:: .dead:: .box 2 0:: .box 3 0:: .dead::pI::dz 57 [],[(2,false,[pS,pS,.pv Y11]),(3,false,[pS,pS,.pv Y11])]⟩
def jbQ (j:List UInt8) (i:List UInt8) (e:Z4) (d:List UInt8) (h:List UInt8) (f:Z4):Z8:=
 (bif !decide (j=d)then some false else bif !decide (i=h)then some false else bif !decide ((e.length:Int)=(f.length:Int))then some false else iter (fun u (a,r,q,b,m,l,c)=>bif decide (a<(b.length:Int))then oB (idx b a) fun k=>(oB (idx c a) fun t=>bif !decide (k.1=t.1)then some false else oB (idx b a) fun v=>oB (idx c a) fun n=>oB (jb1 N v.2 n.2) fun p=>bif !p then some false else if fits (a+1)then u ((a+1),r,q,b,m,l,c)else none)else some true) N ((0:Int),j,i,e,d,h,f))
theorem jtG :mK 225 (bX [.agg [pS,pS,.pv Y11],.agg [pS,pS,.pv Y11]] [pB] (c6A (jbQ N))):=
 mO (fC (jlH N) ja) func225 rfl N (.seq .no (.seq .no (.seq (.seq .no (.block (.loop jnx .no))) .no))) _
def jrW :Sh:=⟨dz 3 (.box 3 0:: .dead:: .box 5 0::pI::dz 39 []),[(3,false,[.pv Y3,.pv Y5]),(5,false,[.own 700500 Y4 95 true,.own 700501 Y6 167 true])]⟩
def jcR (i:List Z1) (k:List Z5) (d:List Z0) (j:List Z2):Z8:=
 (oB (jcw N i k) fun n=>bif !n then some false else oB (jbU N d) fun l=>bif !l then some false else oB (s_l7Of_m N i k d) fun b=>bif !decide ((b.2.length:Int)=(j.length:Int))then some false else iter (fun q (a,p,h,m,e)=>bif decide (a<(e.length:Int))then oB (idx e a) fun c=>(oB (idx h a) fun f=>oB (jbQ N c.1 c.2.1 c.2.2 f.1 f.2.1 f.2.2) fun o=>bif !o then some false else if fits (a+1)then q ((a+1),p,h,m,e)else none)else some true) N ((0:Int),d,j,b.1,b.2))
theorem jpm :mK 166 (bX [.agg [.pv (.sl .str),.pv Y14],.agg [.pv Y3,.pv Y5]] [pB] (c4A (jcR N))):=
 mO (fC (jtf N) (fC (jpx N) (fC (jmU N) (fC (jtG N) ja)))) func166 rfl N (.seq .no (.seq .no (.seq .no (.seq .no (.seq (.seq .no (.block (.loop jrW .no))) .no))))) _
def jCI :Sh:=⟨.pv Y19:: .dead:: .dead::pI::dz 31 [],[]⟩
def jx3 (h:List Int):Z8:=
 (iter (fun c (b,a)=>bif decide (a<(b.length:Int))then oB (idx b a) fun d=>(oB (jJ N d 0 999999999) fun e=>bif !e then some false else bif decide ((0:Int)<a)then oB (idx b a) fun f=>(if fits (a-1)then oB (idx b (a-1)) fun i=>(bif decide (f<=i)then some false else if fits (a+1)then c (b,(a+1))else none)else none)else if fits (a+1)then c (b,(a+1))else none)else some (decide ((b.length:Int)<=60))) N (h,(0:Int)))
theorem jC9 :mK 167 (bX [.pv Y19] [pB] (c1A (jx3 N))):=
 mO (fC (jcL N) ja) func167 rfl N (.seq .no (.seq (.seq .no (.block (.loop jCI .no))) .no)) _
def jA0 :Sh:=⟨.dead::pI:: .box 2 0:: .dead:: .box 4 0::pI::dz 21 [],[(2,false,[.pv Y3,.pv Y5]),(4,false,[pI,.nils,.nils])]⟩
def s_l12Doc_m (i:List Z0) (l:List Z2) (e:Int):Option Z0:=
 (iter (fun k (d,a,b,j,f)=>bif decide (a<(b.length:Int))then oB (idx b a) fun h=>(bif decide (h.1=d)then oB (idx b a) fun c=>(some (c.1,c.2.1,c.2.2))else if fits (a+1)then k (d,(a+1),b,j,f)else none)else some (0,([]:Z6),([]:Z3))) N (e,(0:Int),i,l,(0:Int)))
theorem jDn :mK 168 (bX [.agg [.pv Y3,.pv Y5],pI] [.agg [pI,.pv Y17,.pv Y13]] (c3A (s_l12Doc_m N))):=
 mO ja func168 rfl N (.seq .no (.seq (.seq .no (.block (.loop jA0 .no))) .no)) _
def jJe :Sh:=⟨.pv Y19::pI::dz 3 (pI::dz 12 []),[]⟩
def s_l8Has_m (h:List Int) (e:Int):Z8:=
 (iter (fun f (b,c,a)=>bif decide (a<(b.length:Int))then oB (idx b a) fun d=>(bif decide (d=c)then some true else if fits (a+1)then f (b,c,(a+1))else none)else some false) N (h,e,(0:Int)))
theorem jIb :mK 293 (bX [.pv Y19,pI] [pB] (c2A (s_l8Has_m N))):=
 mO ja func293 rfl N (.seq .no (.seq (.seq .no (.block (.loop jJe .no))) .no)) _
def s_l18Dead_m (d:List Z0) (e:List Z2) (b:List Int) (a:Int):Z8:=
 (oB (s_l8Has_m N b a) fun c=>some c)
theorem jIy :mK 226 (bX [.agg [.pv Y3,.pv Y5,.pv Y19],pI] [pB] (c4A (s_l18Dead_m N))):=
 mO (fC (jIb N) ja) func226 rfl N .no _
def jIl :Sh:=⟨.pv Y3:: .dead:: .dead:: .box 3 0:: .dead::pI::dz 32 [],[(3,false,[pI,.pv Y17,.pv Y13])]⟩
def s_l18Put_m (r:List Z0) (m:Int) (o:Z6) (p:Z3):Z14:=
 (iter (fun q (a,b,e,i,h)=>bif decide (b<(a.length:Int))then oB (idx a b) fun n=>(bif decide (n.1<e)then if fits (b+1)then q (a,(b+1),e,i,h)else none else oB (cut a 0 b) fun d=>if room ([]:List Z0).length d.length 56 then oB (s_l7CopyDoc_m N e i h) fun f=>(if room (([]:List Z0)++d).length ([f]:List Z0).length 56 then oB (cut a b (a.length:Int)) fun l=>(if room ((([]:List Z0)++d)++([f]:List Z0)).length l.length 56 then some (((([]:List Z0)++d)++([f]:List Z0))++l)else none)else none)else none)else oB (cut a 0 b) fun c=>if room ([]:List Z0).length c.length 56 then oB (s_l7CopyDoc_m N e i h) fun j=>(if room (([]:List Z0)++c).length ([j]:List Z0).length 56 then oB (cut a b (a.length:Int)) fun k=>(if room ((([]:List Z0)++c)++([j]:List Z0)).length k.length 56 then some (((([]:List Z0)++c)++([j]:List Z0))++k)else none)else none)else none) N (r,(0:Int),m,o,p))
theorem jJy :mK 227 (bX [.pv Y3,.agg [pI,.pv Y17,.pv Y13]] [.own 1 Y4 95 false] (c4A (s_l18Put_m N))):=
 mO (fC (jtC N) ja) func227 rfl N (.seq .no (.seq .no (.seq (.block (.loop jIl .no)) .no))) _
def jI2 :Sh:=⟨.dead:: .box 1 0:: .dead:: .own 600003 Y4 95 false::pI::dz 45 [],[(1,false,[.pv (.sl .str),.pv Y14,.pv Y0])]⟩
def jJx :Sh:=⟨.dead:: .box 1 0:: .dead:: .own 600003 Y4 95 false::pI::pI::dz 44 [],[(1,false,[.pv (.sl .str),.pv Y14,.pv Y0])]⟩
def s_l18Docs_m (r:List Z1) (q:List Z5) (p:List Z9):Z14:=
 (iter (fun x (k,n,w,u,l)=>bif decide (n<(l.length:Int))then iter (fun m (e,a,c,f,h,b)=>oB (idx b a) fun o=>bif decide (c<(o.1.1.length:Int))then oB (idx b a) fun y=>(oB (idx y.1.1 c) fun d=>oB (idx b a) fun i=>oB (s_l18Dead_m N i.1.1 i.1.2 i.2 d.1) fun t=>bif !t then oB (s_l18Put_m N e d.1 d.2.1 d.2.2) fun v=>(if fits (c+1)then m (v,a,(c+1),f,h,b)else none)else if fits (c+1)then m (e,a,(c+1),f,h,b)else none)else if fits (a+1)then x (e,(a+1),f,h,b)else none) N (k,n,(0:Int),w,u,l)else some k) N (([]:List Z0),(0:Int),r,q,p))
theorem jH3 :mK 169 (bX [.agg [.pv (.sl .str),.pv Y14,.pv Y0]] [.own 1 Y4 95 false] (c3A (s_l18Docs_m N))):=
 mO (fC (jIy N) (fC (jJy N) ja)) func169 rfl N (.seq .no (.seq .no (.seq (.seq .no (.block (.loop jI2 (.seq .no (.seq (.block (.seq .no (.block (.loop jJx .no)))) .no))))) .no))) _
def jIz :Sh:=⟨.dead:: .box 1 0:: .dead::pI::dz 67 [],[(1,false,[.pv (.sl .str),.pv Y14,.pv Y0])]⟩
def jJd :Sh:=⟨.dead:: .box 1 0:: .dead::pI:: .box 4 0::pI::dz 22 (pB::dz 9 (pB::dz 32 [])),[(1,false,[.pv (.sl .str),.pv Y14,.pv Y0]),(4,false,[.pv Y3,.pv Y5,.pv Y19])]⟩
def s_l18Ok_m (w:List Z1) (v:List Z5) (t:List Z9):Z8:=
 (iter (fun B (j,e,d,b)=>bif decide (j<(b.length:Int))then oB (idx b j) fun a=>(oB (jcR N e d a.1.1 a.1.2) fun y=>bif !y then some false else oB (jx3 N a.2) fun p=>bif !p then some false else bif decide ((a.1.1.length:Int)<=(a.2.length:Int))then some false else iter (fun x (f,c,u,D,l,o,k,n,m,h)=>bif decide (c<(h.length:Int))then oB (idx h c) fun C=>(oB (s_l12Doc_m N n m C) fun q=>bif decide (q.1=0)then some false else if fits (c+1)then x (f,(c+1),u,D,l,o,k,n,m,h)else none)else if fits (f+1)then B ((f+1),l,o,k)else none) N (j,(0:Int),(!p),(decide ((a.1.1.length:Int)<=(a.2.length:Int))),e,d,b,a.1.1,a.1.2,a.2))else oB (jcw N e d) fun A=>bif A then bif decide ((b.length:Int)<=5)then oB (s_l18Docs_m N e d b) fun r=>(oB (jbU N r) fun z=>some z)else(some false)else some false) N ((0:Int),w,v,t))
theorem jIW :mK 92 (bX [.agg [.pv (.sl .str),.pv Y14,.pv Y0]] [pB] (c3A (s_l18Ok_m N))):=
 mO (fC (jpm N) (fC (jC9 N) (fC (jDn N) (fC (jtf N) (fC (jH3 N) (fC (jpx N) ja)))))) func92 rfl N (.seq .no (.seq (.seq .no (.block (.loop jIz (.seq .no (.seq (.block (.seq .no (.seq .no (.seq .no (.block (.loop jJd .no)))))) .no))))) .no)) _
def jX7 :Sh:=⟨.dead:: .box 1 0:: .dead::pS::pI::dz 36 [],[(1,false,[.pv Y3,.pv Y5,.pv Y19])]⟩
def jYu :Sh:=⟨.dead:: .box 1 0:: .dead::pS:: .dead::pI::dz 35 [],[(1,false,[.pv Y3,.pv Y5,.pv Y19])]⟩
def s_l19Seg_m (q:List Z0) (o:List Z2) (p:List Int):Option (Z1):=
 (iter (fun u (f,d,c,m,l)=>bif decide (d<(c.length:Int))then oB (idx c d) fun e=>(oB (s_l6Put_m N e.1 e.2.1 e.2.2) fun k=>if f.length+k.length<=9223372036854775807 then if fits (d+1)then u ((f++k),(d+1),c,m,l)else none else none)else iter (fun r (a,b,t,n,i)=>bif decide (b<(i.length:Int))then if a.length+([100,101,97,100,32]:List UInt8).length<=9223372036854775807 then oB (idx i b) fun v=>(oB (s_l1Dec_m N N v) fun j=>if(a++([100,101,97,100,32]:List UInt8)).length+j.length<=9223372036854775807 then if((a++([100,101,97,100,32]:List UInt8))++j).length+([10]:List UInt8).length<=9223372036854775807 then if fits (b+1)then r ((((a++([100,101,97,100,32]:List UInt8))++j)++([10]:List UInt8)),(b+1),t,n,i)else none else none else none)else none else some a) N (f,(0:Int),c,m,l)) N (([]:List UInt8),(0:Int),q,o,p))
theorem jX1 :mK 108 (bX [.agg [.pv Y3,.pv Y5,.pv Y19]] [pS] (c3A (s_l19Seg_m N))):=
 mO (fC (jYI N) (fC (jOx N N) ja)) func108 rfl N (.seq .no (.seq .no (.seq (.seq .no (.block (.loop jX7 .no))) (.seq (.seq .no (.block (.loop jYu .no))) .no)))) _
def s_l19Get_m (e:List Z1) (c:List Z5) (d:List UInt8):Option ((List Z0)×(List Z2)×(List Int)×Bool):=
 (oB (s_l19Docs_m N d) fun a=>oB (jbU N a.1) fun i=>bif !i then some (([]:List Z0),([]:List Z2),([]:List Int),false)else bif decide ((a.1.length:Int)=0)then some (([]:List Z0),([]:List Z2),([]:List Int),false)else oB (s_l7Of_m N e c a.1) fun b=>oB (s_l18Ok_m N e c ([(b,a.2)]:List Z9)) fun h=>bif !h then some (([]:List Z0),([]:List Z2),([]:List Int),false)else oB (s_l19Seg_m N b.1 b.2 a.2) fun f=>bif !decide (f=d)then some (([]:List Z0),([]:List Z2),([]:List Int),false)else some (b.1,b.2,a.2,true))
theorem jYR :mK 42 (bX [.agg [.pv (.sl .str),.pv Y14],pS] [.tup [.agg [.pv Y3,.pv Y5,.pv Y19],pB]] (c3A (s_l19Get_m N))):=
 mO (fC (jYQ N) (fC (jpx N) (fC (jmU N) (fC (jIW N) (fC (jX1 N) ja))))) func42 rfl N .no _
def s_LiveGet_m (c:List Z1) (b:List Z5) (e:List UInt8):Option ((List Z0)×(List Z2)×(List Int)×Bool):=
 (oB (jcw N c b) fun d=>bif !d then some (([]:List Z0),([]:List Z2),([]:List Int),false)else oB (s_l19Get_m N c b e) fun a=>some (a.1,a.2.1,a.2.2.1,a.2.2.2))
theorem jYT :mK 10 (bX [.agg [.pv (.sl .str),.pv Y14],pS] [.tup [.agg [.pv Y3,.pv Y5,.pv Y19],pB]] (c3A (s_LiveGet_m N))):=
 mO (fC (jtf N) (fC (jYR N) ja)) func10 rfl N .no _
def jaw (N:Nat) (a:Int):Z8:=
 (bif decide ((97:Int)<=a)then bif decide (a<=122)then some true else(bif decide ((48:Int)<=a)then some (decide (a<=57))else some false)else bif decide ((48:Int)<=a)then some (decide (a<=57))else some false)
theorem jeK :mK 148 (bX [.pv (.int .u8)] [pB] (c1A (jaw N))):=
 mO ja func148 rfl N .no _
def jm (N:Nat) (a:Int) (c:Int) (b:Int):Z8:=
 (bif decide (c<=a)then some (decide (a<=b))else some false)
theorem jY :mK 111 (bX [pI,pI,pI] [pB] (c3A (jm N))):=
 mO ja func111 rfl N .no _
def jqW :Sh:=⟨pS::dz 4 (pI::pI::dz 11 []),[]⟩
def jO (c:List UInt8):Z8:=
 (iter (fun i (b,d,a)=>bif decide (a<d)then oB (idx b a) fun f=>(oB (jaw N (f.toNat:Int)) fun e=>bif !e then some false else if fits (a+1)then i (b,d,(a+1))else none)else oB (jm N (b.length:Int) 1 12) fun h=>some h) N (c,(c.length:Int),(0:Int)))
theorem jcM :mK 71 (bX [pS] [pB] (c1A (jO N))):=
 mO (fC (jeK N) (fC (jY N) ja)) func71 rfl N (.seq .no (.seq (.seq .no (.block (.loop jqW .no))) .no)) _
def jmc :Sh:=⟨.pv (.sl .str)::dz 4 (.pv (.sl .str)::pI::pI::dz 21 []),[]⟩
def jb2 (d:List Z1):Z8:=
 (iter (fun h (c,e,b,a)=>bif decide (a<b)then oB (idx e a) fun f=>(oB (jO N f) fun i=>bif !i then some false else bif decide ((0:Int)<a)then if fits (a-1)then oB (idx c (a-1)) fun j=>(bif !Op.bytesLess j f then some false else if fits (a+1)then h (c,e,b,(a+1))else none)else none else if fits (a+1)then h (c,e,b,(a+1))else none)else some true) N (d,d,(d.length:Int),(0:Int)))
theorem jtw :mK 110 (bX [.pv (.sl .str)] [pB] (c1A (jb2 N))):=
 mO (fC (jcM N) ja) func110 rfl N (.seq .no (.seq (.seq .no (.block (.loop jmc .no))) .no)) _
def jdF (N:Nat) (a:List UInt8) (b:List UInt8):Z8:=
 (bif decide ((b.length:Int)<=(a.length:Int))then if fits ((a.length:Int)-(b.length:Int))then oB (cut a ((a.length:Int)-(b.length:Int)) (a.length:Int)) fun c=>(some (decide (c=b)))else none else some false)
theorem jpU :mK 238 (bX [pS,pS] [pB] (c2A (jdF N))):=
 mO ja func238 rfl N .no _
def jcN (c:List UInt8) (a:List UInt8):Z8:=
 (oB (jdF N c a) fun b=>some b)
theorem jsu :mK 185 (bX [pS,pS] [pB] (c2A (jcN N))):=
 mO (fC (jpU N) ja) func185 rfl N .no _
def jod :Sh:=⟨pS:: .dead:: .dead::pB::dz 32 [],[]⟩
def jnf :Sh:=⟨pS:: .dead:: .dead::pB::dz 6 (.own 600010 .str 9 true::pI::pI::dz 23 []),[]⟩
def jaB (j:List UInt8):Option (Z1):=
 (oB (jO N j) fun m=>bif !m then some ([]:List UInt8)else iter (fun l (k,o)=>bif o then iter (fun i (a,e,d,f,b)=>bif decide (b<f)then oB (idx d b) fun c=>(oB (jcN N a c) fun p=>bif p then if fits ((a.length:Int)-(c.length:Int))then bif decide ((3:Int)<=((a.length:Int)-(c.length:Int)))then if fits ((a.length:Int)-(c.length:Int))then oB (cut a 0 ((a.length:Int)-(c.length:Int))) fun n=>(l (n,true))else none else(if fits (b+1)then i (a,e,d,f,(b+1))else none)else none else if fits (b+1)then i (a,e,d,f,(b+1))else none)else l (a,e)) N (k,false,([([105,110,103]:List UInt8),([101,100]:List UInt8),([101,115]:List UInt8),([108,121]:List UInt8),([115]:List UInt8)]:List Z1),(([([105,110,103]:List UInt8),([101,100]:List UInt8),([101,115]:List UInt8),([108,121]:List UInt8),([115]:List UInt8)]:List Z1).length:Int),(0:Int))else some k) N (j,true))
theorem jio :mK 112 (bX [pS] [pS] (c1A (jaB N))):=
 mO (fC (jcM N) (fC (jsu N) ja)) func112 rfl N (.seq .no (.seq .no (.seq (.seq .no (.block (.loop jod (.seq .no (.block (.seq .no (.seq .no (.block (.loop jnf .no))))))))) .no))) _
def jkJ :Sh:=⟨.pv (.sl .str)::pS::dz 5 (pI::pI::dz 10 []),[]⟩
def jdH (d:List Z1) (f:List UInt8):Z13:=
 (iter (fun i (c,e,b,a)=>bif decide (a<b)then oB (idx c a) fun h=>(bif decide (e=h)then some a else if fits (a+1)then i (c,e,b,(a+1))else none)else some (-1)) N (d,f,(d.length:Int),(0:Int)))
theorem jkZ :mK 186 (bX [.pv (.sl .str),pS] [pI] (c2A (jdH N))):=
 mO ja func186 rfl N (.seq .no (.seq (.seq .no (.block (.loop jkJ .no))) .no)) _
def jao (c:List Z1) (a:List UInt8):Z8:=
 (oB (jdH N c a) fun b=>some (decide ((0:Int)<=b)))
theorem jh5 :mK 113 (bX [.pv (.sl .str),pS] [pB] (c2A (jao N))):=
 mO (fC (jkZ N) ja) func113 rfl N .no _
def jmj :Sh:=⟨.dead:: .box 1 0::dz 22 (.pv Y14::pI::pI::dz 46 []),[(1,false,[.pv (.sl .str),.pv Y14])]⟩
def jrC :Sh:=⟨.dead:: .box 1 0::dz 22 (.pv Y14::pI::pI::dz 12 (pB::dz 7 (pB:: .dead:: .dead:: .pv (.sl .str)::pI::pI::dz 20 []))),[(1,false,[.pv (.sl .str),.pv Y14])]⟩
def jaj (f:List Z1) (c:List Z5):Z8:=
 (bif decide ((6:Int)<f.length)then some false else oB (jb2 N f) fun z=>bif !z then some false else bif decide ((4:Int)<c.length)then some false else iter (fun E (o,p,i,u,C)=>bif decide (i<p)then oB (idx o i) fun a=>(oB (jm N (a.1.length:Int) 1 3) fun D=>bif !D then some false else oB (jO N a.2) fun l=>bif !l then some false else oB (jaB N a.2) fun r=>bif !decide (r=a.2)then some false else iter (fun y (n,k,e,x,v,t,m,b,h,q)=>bif decide (b<m)then oB (idx t b) fun d=>(oB (jO N d) fun w=>bif !w then some false else oB (jaB N d) fun A=>bif !decide (A=d)then some false else oB (jao N h d) fun B=>bif B then some false else if fits (b+1)then y (n,k,e,x,v,t,m,(b+1),h,q)else none)else if fits (e+1)then E (n,k,(e+1),h,q)else none) N (o,p,i,(!l),(!decide (r=a.2)),a.1,(a.1.length:Int),(0:Int),u,C))else some true) N (c,(c.length:Int),(0:Int),f,c))
theorem jdX :mK 45 (bX [.agg [.pv (.sl .str),.pv Y14]] [pB] (c2A (jaj N))):=
 mO (fC (jtw N) (fC (jY N) (fC (jcM N) (fC (jio N) (fC (jh5 N) ja))))) func45 rfl N (.seq .no (.seq .no (.seq (.seq .no (.block (.loop jmj (.seq .no (.seq .no (.seq (.block (.seq .no (.seq .no (.seq .no (.block (.loop jrC .no)))))) .no)))))) .no))) _
def jXx (N:Nat) (a:List UInt8) (b:List UInt8):Option ((List Z1)):=jXq a b
 
def jYt (N:Nat):Model:=⟨⟨[pS,pS],[]⟩,⟨[.pv (.sl .str)],[]⟩,c2A (jXx N)⟩
theorem jYi :mK 46 (jYt N):=jYA
def k_internal_stringslite_HasPrefix_m (N:Nat) (b:List UInt8) (a:List UInt8):Z8:=
 (bif decide ((a.length:Int)<=(b.length:Int))then oB (cut b 0 (a.length:Int)) fun c=>(some (decide (c=a)))else some false)
theorem jXE :mK 118 (bX [pS,pS] [pB] (c2A (k_internal_stringslite_HasPrefix_m N))):=
 mO ja func118 rfl N .no _
def k_internal_stringslite_CutPrefix_m (a:List UInt8) (b:List UInt8):Option (Z1×Bool):=
 (oB (k_internal_stringslite_HasPrefix_m N a b) fun c=>bif !c then some (a,false)else oB (cut a (b.length:Int) (a.length:Int)) fun d=>some (d,true))
theorem jYb :mK 115 (bX [pS,pS] [.tup [pS,pB]] (c2A (k_internal_stringslite_CutPrefix_m N))):=
 mO (fC (jXE N) ja) func115 rfl N .no _
def k_strings_CutPrefix_m (c:List UInt8) (b:List UInt8):Option (Z1×Bool):=
 (oB (k_internal_stringslite_CutPrefix_m N c b) fun a=>some (a.1,a.2))
theorem jYg :mK 47 (bX [pS,pS] [.tup [pS,pB]] (c2A (k_strings_CutPrefix_m N))):=
 mO (fC (jYb N) ja) func47 rfl N .no _
def jXn (N:Nat) (a:List UInt8):Option Int:=atoiM a
 
def jYe (N:Nat):Model:=⟨⟨[pS],[]⟩,⟨[.tup [pI,.dead]],[]⟩,c1A (jXn N)⟩
theorem jXC :mK 48 (jYe N):=jYw
def k_strings_HasPrefix_m (c:List UInt8) (a:List UInt8):Z8:=
 (oB (k_internal_stringslite_HasPrefix_m N c a) fun b=>some b)
theorem jXS :mK 49 (bX [pS,pS] [pB] (c2A (k_strings_HasPrefix_m N))):=
 mO (fC (jXE N) ja) func49 rfl N .no _
def jXr (N:Nat) (a:List UInt8) (b:List UInt8):Option (Z1×Z1×Bool):=cutM a b
 
def jYv (N:Nat):Model:=⟨⟨[pS,pS],[]⟩,⟨[.tup [pS,pS,pB]],[]⟩,c2A (jXr N)⟩
theorem jX0 :mK 119 (jYv N):=jXX
def jYp :Sh:=⟨.dead:: .dead:: .box 2 0:: .box 3 0::dz 13 (.pv (.sl .str)::pI::pI::dz 51 []),[(2,false,[pI,.nils,.nils]),(3,false,[pI,.own 700301 Y18 155 true,.own 700302 Y15 157 true])]⟩
def jXo (l:List Z1):Option Z0:=
 (iter (fun k (h,f,a,i,j,c,d)=>bif decide (a<f)then oB (idx h a) fun o=>(oB (jXr N o ([32]:List UInt8)) fun e=>oB (jXr N e.2.1 ([32]:List UInt8)) fun b=>bif decide (e.1=([100,111,99]:List UInt8))then oB (jXn N e.2.1) fun n=>(if fits (a+1)then k (h,f,(a+1),i,n,c,d)else none)else bif decide (e.1=([102,105,101,108,100]:List UInt8))then if room c.length ([(b.1,b.2.1)]:Z6).length 32 then if fits (a+1)then k (h,f,(a+1),i,j,(c++([(b.1,b.2.1)]:Z6)),d)else none else none else bif decide (e.1=([110,117,109]:List UInt8))then oB (jXn N b.2.1) fun m=>(if room d.length ([(b.1,m)]:Z3).length 24 then if fits (a+1)then k (h,f,(a+1),i,j,c,(d++([(b.1,m)]:Z3)))else none else none)else if fits (a+1)then k (h,f,(a+1),i,j,c,d)else none)else some (j,c,d)) N (l,(l.length:Int),(0:Int),(0:Int),(0:Int),([]:Z6),([]:Z3)))
theorem jYG :mK 50 (bX [.pv (.sl .str)] [.agg [pI,.own 1 Y18 155 true,.own 2 Y15 157 true]] (c1A (jXo N))):=
 mO (fC (jX0 N) (fC (jXC N) ja)) func50 rfl N (.seq .no (.seq .no (.seq (.seq .no (.block (.loop jYp .no))) .no))) _
def jtd :Sh:=⟨pS::dz 4 (pI::pI::dz 16 []),[]⟩
def jaF (c:List UInt8):Z8:=
 (iter (fun h (b,d,a)=>bif decide (a<d)then oB (idx b a) fun f=>(bif decide ((f.toNat:Int)<32)then some false else oB (idx b a) fun e=>bif decide ((126:Int)<(e.toNat:Int))then some false else if fits (a+1)then h (b,d,(a+1))else none)else some (decide ((b.length:Int)<=160))) N (c,(c.length:Int),(0:Int)))
theorem jdK :mK 197 (bX [pS] [pB] (c1A (jaF N))):=
 mO ja func197 rfl N (.seq .no (.seq (.seq .no (.block (.loop jtd .no))) .no)) _
def jlC :Sh:=⟨.dead:: .box 1 0::dz 22 (.pv Y17::pI::pI::dz 66 []),[(1,false,[pI,.pv Y17,.pv Y13])]⟩
def jpt :Sh:=⟨.dead:: .box 1 0::dz 57 (.pv Y13::pI::pI::dz 31 []),[(1,false,[pI,.pv Y17,.pv Y13])]⟩
def i_DocOk_m (p:Int) (d:Z6) (t:Z3):Z8:=
 (oB (jm N p 1 9999) fun y=>bif !y then some false else bif decide ((3:Int)<d.length)then some false else bif decide ((3:Int)<t.length)then some false else iter (fun v (k,m,b,n,e,c)=>bif decide (b<m)then oB (idx k b) fun i=>(oB (jO N i.1) fun A=>bif !A then some false else oB (jaF N i.2) fun w=>bif !w then some false else bif decide ((0:Int)<b)then if fits (b-1)then oB (idx e (b-1)) fun B=>(bif !Op.bytesLess B.1 i.1 then some false else if fits (b+1)then v (k,m,(b+1),n,e,c)else none)else none else if fits (b+1)then v (k,m,(b+1),n,e,c)else none)else iter (fun r (h,l,a,u,q,f)=>bif decide (a<l)then oB (idx h a) fun j=>(oB (jO N j.1) fun z=>bif !z then some false else oB (jm N j.2 0 999999999) fun x=>bif !x then some false else bif decide ((0:Int)<a)then if fits (a-1)then oB (idx f (a-1)) fun C=>(bif !Op.bytesLess C.1 j.1 then some false else if fits (a+1)then r (h,l,(a+1),u,q,f)else none)else none else if fits (a+1)then r (h,l,(a+1),u,q,f)else none)else some true) N (c,(c.length:Int),(0:Int),n,e,c)) N (d,(d.length:Int),(0:Int),p,d,t))
theorem jh0 :mK 153 (bX [.agg [pI,.pv Y17,.pv Y13]] [pB] (c3A (i_DocOk_m N))):=
 mO (fC (jY N) (fC (jcM N) (fC (jdK N) ja))) func153 rfl N (.seq .no (.seq .no (.seq (.seq .no (.block (.loop jlC .no))) (.seq (.seq .no (.block (.loop jpt .no))) .no)))) _
def jpj :Sh:=⟨.pv Y3::dz 4 (.pv Y3::pI::pI::dz 26 []),[]⟩
def jbf (e:List Z0):Z8:=
 (iter (fun h (c,f,d,a)=>bif decide (a<d)then oB (idx f a) fun b=>(oB (i_DocOk_m N b.1 b.2.1 b.2.2) fun i=>bif !i then some false else bif decide ((0:Int)<a)then if fits (a-1)then oB (idx c (a-1)) fun j=>(bif decide (b.1<=j.1)then some false else if fits (a+1)then h (c,f,d,(a+1))else none)else none else if fits (a+1)then h (c,f,d,(a+1))else none)else some (decide ((c.length:Int)<=16))) N (e,e,(e.length:Int),(0:Int)))
theorem jjU :mK 73 (bX [.pv Y3] [pB] (c1A (jbf N))):=
 mO (fC (jh0 N) ja) func73 rfl N (.seq .no (.seq (.seq .no (.block (.loop jpj .no))) .no)) _
def jbO (N:Nat) (c:Int) (b:Z6) (a:Z3):Option Z0:=
 (if room ([]:Z6).length b.length 32 then if room ([]:Z3).length a.length 24 then some (c,(([]:Z6)++b),(([]:Z3)++a))else none else none)
theorem jrI :mK 196 (bX [.agg [pI,.pv Y17,.pv Y13]] [.agg [pI,.own 1 Y18 155 true,.own 2 Y15 157 true]] (c3A (jbO N))):=
 mO ja func196 rfl N .no _
def joW :Sh:=⟨dz 3 (.own 600003 Y4 95 true::dz 3 (.pv Y3::pI::pI::dz 10 [])),[]⟩
def jbV (h:List Z0):Z14:=
 (iter (fun i (c,d,e,a)=>bif decide (a<e)then oB (idx d a) fun b=>(oB (jbO N b.1 b.2.1 b.2.2) fun f=>if room c.length ([f]:List Z0).length 56 then if fits (a+1)then i ((c++([f]:List Z0)),d,e,(a+1))else none else none)else some c) N (([]:List Z0),h,(h.length:Int),(0:Int)))
theorem joC :mK 120 (bX [.pv Y3] [.own 1 Y4 95 true] (c1A (jbV N))):=
 mO (fC (jrI N) ja) func120 rfl N (.seq .no (.seq .no (.seq (.seq .no (.block (.loop joW .no))) .no))) _
def jI (N:Nat) (a:Int):Z13:=
 (bif decide ((65:Int)<=a)then bif decide (a<=90)then some (IntKind.u8.wrap ((IntKind.u8.wrap (a+97))-65))else(some a)else some a)
theorem jmu :mK 246 (bX [.pv (.int .u8)] [.pv (.int .u8)] (c1A (jI N))):=
 mO ja func246 rfl N .no _
def jpB :Sh:=⟨pS:: .dead:: .dead:: .own 600003 Y7 233 true::pI::dz 57 [],[]⟩
def jo6 :Sh:=⟨pS:: .dead:: .dead:: .own 600003 Y7 233 true::pI:: .box 5 0:: .own 600006 (.int .u8) 5 true::dz 55 [],[(5,false,[pS,pI,pI,pI])]⟩
def jct (m:List UInt8):Option ((List Z10)):=
 (oB (jaF N m) fun x=>bif !x then some ([]:List Z10)else iter (fun l (j,i,f)=>bif decide (f<(j.length:Int))then oB (idx j f) fun v=>(oB (jI N (v.toNat:Int)) fun z=>oB (jaw N z) fun r=>bif !r then if fits (f+1)then l (j,i,(f+1))else none else iter (fun n (c,e,a,b,q,h,d,p)=>bif decide (a<(c.length:Int))then oB (idx c a) fun w=>(oB (jI N (w.toNat:Int)) fun y=>oB (jaw N y) fun u=>bif u then bif decide ((b.length:Int)<12)then oB (idx c a) fun t=>(oB (jI N (t.toNat:Int)) fun o=>if room b.length ([o]:List Int).length 1 then if fits (a+1)then n (c,e,(a+1),(b++([o]:List Int)),q,h,d,p)else none else none)else(if fits (a+1)then n (c,e,(a+1),b,q,h,d,p)else none)else if room e.length ([((bytesOf b),h,d,a)]:List Z10).length 40 then l (c,(e++([((bytesOf b),h,d,a)]:List Z10)),a)else none)else if room e.length ([((bytesOf b),h,d,a)]:List Z10).length 40 then l (c,(e++([((bytesOf b),h,d,a)]:List Z10)),a)else none) N (j,i,f,([]:List Int),([]:List UInt8),(i.length:Int),f,(0:Int)))else some i) N (m,([]:List Z10),(0:Int)))
theorem jqc :mK 198 (bX [pS] [.own 1 Y7 233 true] (c1A (jct N))):=
 mO (fC (jdK N) (fC (jmu N) (fC (jeK N) ja))) func198 rfl N (.seq .no (.seq .no (.seq .no (.seq (.seq .no (.block (.loop jpB (.seq .no (.block (.seq .no (.seq .no (.seq .no (.seq (.block (.loop jo6 .no)) .no))))))))) .no)))) _
def jty :Sh:=⟨.dead:: .pv Y13::pI:: .box 3 0::dz 3 (.pv (.opt Y16)::dz 8 (pI::pI::dz 73 [])),[(3,false,[.pv (.sl .str),.pv Y14])]⟩
def jss :Sh:=⟨.dead:: .pv Y13::pI:: .box 3 0::dz 3 (.pv (.opt Y16):: .dead:: .ptr Y16::pB::dz 5 (pI::pI::dz 31 (pB::dz 4 (.pv (.sl .str)::pI::pI::dz 34 [])))),[(3,false,[.pv (.sl .str),.pv Y14])]⟩
def jbH (c:List Z1) (c2:List Z5) (terms:Z3) (at0:Int):Option ((Option Z5)):=
 (iter (fun go (terms2,at02,best,t16,t17,c3,c4)=>bif decide (t17<t16)then oB (idx c4 t17) fun e=>(if fits ((terms2.length:Int)-at02)then bif decide (((terms2.length:Int)-at02)<(e.1.length:Int))then if fits (t17+1)then go (terms2,at02,best,t16,(t17+1),c3,c4)else none else(bif !(Option.isNone best)then oB best fun p=>(bif decide ((e.1.length:Int)<=(p.1.length:Int))then if fits (t17+1)then go (terms2,at02,best,t16,(t17+1),c3,c4)else none else iter (fun go2 (terms3,at03,best2,r,fits0,t162,t172,t49,t54,t55,t56,c5,c6)=>bif decide (t56<t55)then oB (idx t54 t56) fun e2=>(if fits (at03+t56)then oB (idx terms3 (at03+t56)) fun e3=>(bif fits0 then bif decide (e3.1=e2)then oB (idx terms3 at03) fun e4=>(if fits (e4.2+t56)then if fits (t56+1)then go2 (terms3,at03,best2,r,(decide (e3.2=(e4.2+t56))),t162,t172,t49,t54,t55,(t56+1),c5,c6)else none else none)else(if fits (t56+1)then go2 (terms3,at03,best2,r,false,t162,t172,t49,t54,t55,(t56+1),c5,c6)else none)else if fits (t56+1)then go2 (terms3,at03,best2,r,false,t162,t172,t49,t54,t55,(t56+1),c5,c6)else none)else none)else bif fits0 then if fits (t172+1)then go (terms3,at03,(some r),t162,(t172+1),c5,c6)else none else if fits (t172+1)then go (terms3,at03,best2,t162,(t172+1),c5,c6)else none) N (terms2,at02,best,e,true,t16,t17,(decide ((e.1.length:Int)<=(p.1.length:Int))),e.1,(e.1.length:Int),(0:Int),c3,c4))else iter (fun go3 (terms4,at04,best3,r2,fits02,t163,t173,t492,t542,t552,t562,c7,c8)=>bif decide (t562<t552)then oB (idx t542 t562) fun e5=>(if fits (at04+t562)then oB (idx terms4 (at04+t562)) fun e6=>(bif fits02 then bif decide (e6.1=e5)then oB (idx terms4 at04) fun e7=>(if fits (e7.2+t562)then if fits (t562+1)then go3 (terms4,at04,best3,r2,(decide (e6.2=(e7.2+t562))),t163,t173,t492,t542,t552,(t562+1),c7,c8)else none else none)else(if fits (t562+1)then go3 (terms4,at04,best3,r2,false,t163,t173,t492,t542,t552,(t562+1),c7,c8)else none)else if fits (t562+1)then go3 (terms4,at04,best3,r2,false,t163,t173,t492,t542,t552,(t562+1),c7,c8)else none)else none)else bif fits02 then if fits (t173+1)then go (terms4,at04,(some r2),t163,(t173+1),c7,c8)else none else if fits (t173+1)then go (terms4,at04,best3,t163,(t173+1),c7,c8)else none) N (terms2,at02,best,e,true,t16,t17,false,e.1,(e.1.length:Int),(0:Int),c3,c4))else none)else some best) N (terms,at0,(none:Option Z5),(c2.length:Int),(0:Int),c,c2))
theorem jtv :mK 199 (bX [.agg [.pv (.sl .str),.pv Y14],.pv Y13,pI] [.pv (.opt Y16)] (c4A (jbH N))):=
 mO ja func199 rfl N (.seq .no (.seq .no (.seq (.seq .no (.block (.loop jty (.seq .no (.seq .no (.seq (.block (.seq .no (.seq .no (.seq .no (.seq .no (.seq (.seq .no (.block (.loop jss .no))) .no)))))) .no)))))) .no))) _
def jlW :Sh:=⟨.dead:: .dead:: .box 2 0:: .dead:: .dead:: .own 600005 Y15 162 true:: .own 600006 Y15 162 true::dz 17 (.own 600024 Y7 233 true::pI::pI::dz 67 []),[(2,false,[.pv (.sl .str),.pv Y14])]⟩
def jnt :Sh:=⟨.dead:: .dead:: .box 2 0:: .dead:: .dead:: .own 600005 Y15 162 true:: .own 600006 Y15 162 true::dz 3 (pI::dz 83 []),[(2,false,[.pv (.sl .str),.pv Y14])]⟩
def jbw (v:List Z1) (x:List Z5) (u:List UInt8):Option (Z7):=
 (oB (jaj N v x) fun D=>bif !D then some ([]:Z3)else oB (jaF N u) fun G=>bif !G then some ([]:Z3)else oB (jct N u) fun t=>iter (fun q (i,f,j,k,b,c,l)=>bif decide (b<k)then oB (idx j b) fun h=>(oB (jaB N h.1) fun p=>oB (jao N c h.1) fun C=>bif !C then oB (jao N c p) fun E=>(bif !E then if room f.length ([(p,h.2.1)]:Z3).length 24 then if fits (b+1)then q (i,(f++([(p,h.2.1)]:Z3)),j,k,(b+1),c,l)else none else none else if fits (b+1)then q (i,f,j,k,(b+1),c,l)else none)else if fits (b+1)then q (i,f,j,k,(b+1),c,l)else none)else iter (fun z (e,d,a,m,o)=>bif decide (a<(d.length:Int))then oB (jbH N m o d a) fun n=>(bif Option.isNone n then oB (idx d a) fun A=>(if room e.length ([A]:Z3).length 24 then if fits (a+1)then z ((e++([A]:Z3)),d,(a+1),m,o)else none else none)else oB n fun y=>oB (idx d a) fun B=>if room e.length ([(y.2,B.2)]:Z3).length 24 then oB n fun w=>(if fits (a+(w.1.length:Int))then z ((e++([(y.2,B.2)]:Z3)),d,(a+(w.1.length:Int)),m,o)else none)else none)else some e) N (i,f,(0:Int),c,l)) N (([]:Z3),([]:Z3),t,(t.length:Int),(0:Int),v,x))
theorem jgO :mK 121 (bX [.agg [.pv (.sl .str),.pv Y14],pS] [.own 1 Y15 162 true] (c3A (jbw N))):=
 mO (fC (jdX N) (fC (jdK N) (fC (jqc N) (fC (jio N) (fC (jh5 N) (fC (jtv N) ja)))))) func121 rfl N (.seq .no (.seq .no (.seq .no (.seq .no (.seq (.seq .no (.block (.loop jlW .no))) (.seq (.seq .no (.block (.loop jnt .no))) .no)))))) _
def k__loop_example_fossick_impl_Seg_put_1_m (N:Nat) (c:List UInt8) (b:List UInt8) (e:Z4) (a:List UInt8) (d:Z1×Int):Z8:=
 (bif decide (c=a)then some (decide (b=d.1))else some false)
theorem jmw :mK 201 (bX [.agg [pS,pS,.pv Y11],.ptr .str,.ptr Y15] [pB] (c5A (k__loop_example_fossick_impl_Seg_put_1_m N))):=
 mO ja func201 rfl N .no _
def jnc :Sh:=⟨.pv Y5:: .clo 201 [.ptr .str,.ptr Y15]::dz 5 (pI::pI::dz 10 []),[]⟩
def k_slices_IndexFunc_146_m (f:List Z2) (j:Z1×Z1×Int):Z13:=
 (iter (fun i (e,c,d,a)=>bif decide (a<d)then oB (idx e a) fun b=>(oB (k__loop_example_fossick_impl_Seg_put_1_m N b.1 b.2.1 b.2.2 c.1 c.2) fun h=>bif h then some a else if fits (a+1)then i (e,c,d,(a+1))else none)else some (-1)) N (f,j,(f.length:Int),(0:Int)))
theorem jrl :mK 200 (bX [.pv Y5,.clo 201 [.ptr .str,.ptr Y15]] [pI] (c2A (k_slices_IndexFunc_146_m N))):=
 mO (fC (jmw N) ja) func200 rfl N (.seq .no (.seq (.seq .no (.block (.loop jnc .no))) .no)) _
end Go.Proofs.YtcinmmojlcchfaaGreatDoor
