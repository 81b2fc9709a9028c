import Derived.Test.YtcinmmojlcchfaaGreatDoorSA
import Derived.Test.YtcinmmojlcchfaaGreatDoorSC
import Derived.Test.YtcinmmojlcchfaaGreatDoorSE
import Derived.Test.YtcinmmojlcchfaaGreatDoorSN
import Derived.Test.YtcinmmojlcchfaaGreatDoorSP
set_option linter.unusedVariables false
set_option linter.unusedSimpArgs false
namespace Go.Proofs.YtcinmmojlcchfaaGreatDoor
open Go.RowKit Go.Proofs.Tryz
variable (N : Nat)
open Option renaming bind -> oB
set_option maxRecDepth 1000000
abbrev Z0 :Type:=Int×(List ((List UInt8)×(List UInt8)))×(List ((List UInt8)×Int))
abbrev Z1 :Type:=List UInt8
abbrev Z2 :Type:=Z1×Z1×(List (Int×(List Int)))
abbrev Z3 :Type:=((List Z0)×(List Z2))×(List Int)
abbrev Z4 :Type:=List (Z1×Z1)
abbrev Z5 :Type:=List (Int×(List Int))
abbrev Z6 :Type:=(List Z1)×Z1
abbrev Z7 :Type:=List (Z1×Z1)
abbrev Z8 :Type:=Option (Bool)
abbrev Z9 :Type:=List (Z1×Int)
abbrev Z10 :Type:=List (Z1×Int)
abbrev Z11 :Type:=Z1×Int×Int×Int
abbrev Z12 :Type:=Option (Int)
abbrev Z13 :Type:=List (Int×(List Int))
abbrev Z14 :Type:=Option ((List Z0))
abbrev bX (a r:List VS) (f:HD (Sh.codes ⟨a,[]⟩)->Option (HD (Sh.codes ⟨r,[]⟩))):Model:=⟨⟨a,[]⟩,⟨r,[]⟩,f⟩
abbrev mK :=ModelOk Tryz.prog
theorem mO {l:List (Nat×Model)} (hl:jR Tryz.prog l) {f:FuncId} {fn:Func} {c:Code} (hf:Tryz.prog.funcs[f]? =some fn) (hbody:fn.body=some c) (N:Nat) (h:Hint) (m:Model) (wr rs dw:List Nat:=[])
  (hname:(fn.name== "runtime.NumGoroutine")=false:=by kernel_rfl) (hres:m.arg.names.all (jbC l wr rs dw).res=true:=by kernel_rfl) (hlen:Nat.ble m.arg.vals.length fn.ntmps=true:=by kernel_rfl)
  (hrun:∀a,m.run a=runF N (jbC l wr rs dw) okDraw fn c h m.arg m.ret a:=by intro a;kernel_rfl):ModelOk Tryz.prog f m:=modelOk_of (E:=jbC l wr rs dw) (jtQ hl wr rs dw) hf hname hbody N h m hres hlen hrun
theorem fC {k:Nat} {m:Model} {l:List (Nat×Model)} (h:ModelOk Tryz.prog k m) (hl:jR Tryz.prog l):jR Tryz.prog ((k,m)::l):=jsH h hl
abbrev pI :VS:=.pv (.int .i64)
abbrev pS :VS:=.pv .str
abbrev pB :VS:=.pv .bool
abbrev tI :Tp:=.int .i64
abbrev c1A {α ρ:Type} (f:α->ρ) (a:α):ρ:=f a
abbrev c2A {α0 α1 ρ:Type} (f:α0->α1->ρ) (a:α0×α1):ρ:=f a.1 a.2
abbrev c3A {α0 α1 α2 ρ:Type} (f:α0->α1->α2->ρ) (a:α0×α1×α2):ρ:=f a.1 a.2.1 a.2.2
abbrev c4A {α0 α1 α2 α3 ρ:Type} (f:α0->α1->α2->α3->ρ) (a:α0×α1×α2×α3):ρ:=f a.1 a.2.1 a.2.2.1 a.2.2.2
abbrev c5A {α0 α1 α2 α3 α4 ρ:Type} (f:α0->α1->α2->α3->α4->ρ) (a:α0×α1×α2×α3×α4):ρ:=f a.1 a.2.1 a.2.2.1 a.2.2.2.1 a.2.2.2.2
abbrev c6A {α0 α1 α2 α3 α4 α5 ρ:Type} (f:α0->α1->α2->α3->α4->α5->ρ) (a:α0×α1×α2×α3×α4×α5):ρ:=f a.1 a.2.1 a.2.2.1 a.2.2.2.1 a.2.2.2.2.1 a.2.2.2.2.2
abbrev c7A {α0 α1 α2 α3 α4 α5 α6 ρ:Type} (f:α0->α1->α2->α3->α4->α5->α6->ρ) (a:α0×α1×α2×α3×α4×α5×α6):ρ:=f a.1 a.2.1 a.2.2.1 a.2.2.2.1 a.2.2.2.2.1 a.2.2.2.2.2.1 a.2.2.2.2.2.2
def dz :Nat->List VS->List VS
 |0,l=>l
 |n+1,l=>.dead::dz n l
abbrev Y19 :Tp:=.sl tI
abbrev Y18 :Tp:=.pair .str .str
abbrev Y17 :Tp:=.sl (.pair .str .str)
abbrev Y16 :Tp:=.pair (.sl .str) .str
abbrev Y15 :Tp:=.pair .str tI
abbrev Y14 :Tp:=.sl (.pair (.sl .str) .str)
abbrev Y13 :Tp:=.sl (.pair .str tI)
abbrev Y12 :Tp:=.pair tI (.sl tI)
abbrev Y11 :Tp:=.sl (.pair tI (.sl tI))
abbrev Y7 :Tp:=.pair .str (.pair tI (.pair tI tI))
abbrev Y6 :Tp:=.pair .str (.pair .str (.sl (.pair tI (.sl tI))))
abbrev Y5 :Tp:=.sl (.pair .str (.pair .str (.sl (.pair tI (.sl tI)))))
abbrev Y4 :Tp:=.pair tI (.pair (.sl (.pair .str .str)) (.sl (.pair .str tI)))
abbrev Y3 :Tp:=.sl (.pair tI (.pair (.sl (.pair .str .str)) (.sl (.pair .str tI))))
abbrev Y2 :Tp:=.pair (.sl (.pair tI (.pair (.sl (.pair .str .str)) (.sl (.pair .str tI))))) (.sl (.pair .str (.pair .str (.sl (.pair tI (.sl tI))))))
abbrev Y1 :Tp:=.pair (.pair (.sl (.pair tI (.pair (.sl (.pair .str .str)) (.sl (.pair .str tI))))) (.sl (.pair .str (.pair .str (.sl (.pair tI (.sl tI))))))) (.sl tI)
abbrev Y0 :Tp:=.sl (.pair (.pair (.sl (.pair tI (.pair (.sl (.pair .str .str)) (.sl (.pair .str tI))))) (.sl (.pair .str (.pair .str (.sl (.pair tI (.sl tI))))))) (.sl tI))
def jso :Sh:=⟨.pv (.sl .str)::pI::dz 3 (pI::dz 22 []),[]⟩
def jbK (a:List Z1) (f:Int):Z12:=
 (if fits (f-(a.length:Int))then bif decide ((f-(a.length:Int))<0)then some (-1)else(iter (fun h (d,b,c)=>bif decide (c<(d.length:Int))then oB (idx d c) fun e=>(if fits (b-(e.length:Int))then bif decide ((b-(e.length:Int))<0)then some (-1)else(if fits (c+1)then h (d,(b-(e.length:Int)),(c+1))else none)else none)else some b) N (a,(f-(a.length:Int)),(0:Int)))else none)
theorem jjn :mK 39 (bX [.pv (.sl .str),pI] [pI] (c2A (jbK N))):=
 mO ja func39 rfl N (.seq .no (.seq .no (.seq .no (.seq (.seq .no (.block (.loop jso .no))) .no)))) _
def jbp (c:List Z1) (b:List UInt8) (d:Int):Z12:=
 (oB (jbK N c d) fun a=>bif decide (a<0)then some (-1)else if fits (a-(b.length:Int))then bif decide ((a-(b.length:Int))<0)then some (-1)else(some (a-(b.length:Int)))else none)
theorem jsV :mK 100 (bX [.agg [.pv (.sl .str),pS],pI] [pI] (c3A (jbp N))):=
 mO (fC (jjn N) ja) func100 rfl N .no _
def jki :Sh:=⟨.pv Y14::pI::dz 3 (pI::dz 21 []),[]⟩
def jc6 (a:List Z6) (d:Int):Z12:=
 (if fits (d-(a.length:Int))then bif decide ((d-(a.length:Int))<0)then some (-1)else(iter (fun i (c,h,b)=>bif decide (b<(c.length:Int))then oB (idx c b) fun f=>(oB (jbp N f.1 f.2 h) fun e=>bif decide (e<0)then some (-1)else if fits (b+1)then i (c,e,(b+1))else none)else some h) N (a,(d-(a.length:Int)),(0:Int)))else none)
theorem jkX :mK 40 (bX [.pv Y14,pI] [pI] (c2A (jc6 N))):=
 mO (fC (jsV N) ja) func40 rfl N (.seq .no (.seq .no (.seq .no (.seq (.seq .no (.block (.loop jki .no))) .no)))) _
def jbD (d:List Z1) (c:List Z6) (e:Int):Z12:=
 (oB (jbK N d e) fun a=>bif decide (a<0)then some (-1)else oB (jc6 N c a) fun b=>bif decide (b<0)then some (-1)else some b)
theorem jm8 :mK 9 (bX [.agg [.pv (.sl .str),.pv Y14],pI] [pI] (c3A (jbD N))):=
 mO (fC (jjn N) (fC (jkX N) ja)) func9 rfl N .no _
def jqD :Sh:=⟨.pv (.sl .str):: .dead:: .dead:: .mtk 600003 .str 9 true::pI::dz 17 [],[]⟩
def jci (b:List Z1):Option ((List Z1)):=
 (if(b.length:Int)=(b.length:Int)/\0<=(b.length:Int)/\(b.length:Int)*16<=140737488355328/\(b.length:Int)<=140737488355328 then iter (fun e (d,c,a)=>bif decide (a<(d.length:Int))then oB (idx d a) fun f=>(if 0<=a/\a<(c.length:Int)then oB (c[a.toNat]?) fun i=>(if fits (a+1)then e (d,(c.set a.toNat f),(a+1))else none)else none)else some c) N (b,(List.replicate (b.length:Int).toNat ([]:List UInt8)),(0:Int))else none)
theorem jiJ :mK 43 (bX [.pv (.sl .str)] [.own 1 .str 9 true] (c1A (jci N))):=
 mO ja func43 rfl N (.seq .no (.seq .no (.seq (.seq .no (.block (.loop jqD .no))) .no))) _ (wr:=[7])
def ja0 (c:List Z1) (b:List UInt8):Option Z6:=
 (oB (jci N c) fun a=>some (a,b))
theorem jr7 :mK 109 (bX [.agg [.pv (.sl .str),pS]] [.agg [.own 1 .str 9 true,pS]] (c2A (ja0 N))):=
 mO (fC (jiJ N) ja) func109 rfl N .no _ (dw:=[6])
def jos :Sh:=⟨.pv Y14:: .dead:: .dead:: .tre 600003 Y16 142::pI::dz 18 [],[]⟩
def jeh (b:List Z6):Option ((List Z6)):=
 (if(b.length:Int)=(b.length:Int)/\0<=(b.length:Int)/\(b.length:Int)*40<=140737488355328/\(b.length:Int)<=140737488355328 then iter (fun h (d,c,a)=>bif decide (a<(d.length:Int))then oB (idx d a) fun e=>(oB (ja0 N e.1 e.2) fun f=>if 0<=a/\a<(c.length:Int)then oB (c[a.toNat]?) fun j=>(if fits (a+1)then h (d,(c.set a.toNat f),(a+1))else none)else none)else some c) N (b,(List.replicate (b.length:Int).toNat (([]:List Z1),([]:List UInt8))),(0:Int))else none)
theorem jqR :mK 44 (bX [.pv Y14] [.own 1 Y16 142 true] (c1A (jeh N))):=
 mO (fC (jr7 N) ja) func44 rfl N (.seq .no (.seq .no (.seq (.seq .no (.block (.loop jos .no))) .no))) _ (wr:=[7]) (dw:=[20])
def jad (c:List Z1) (b:List Z6):Option ((List Z1)×(List Z6)):=
 (oB (jci N c) fun a=>oB (jeh N b) fun d=>some (a,d))
theorem jtJ :mK 11 (bX [.agg [.pv (.sl .str),.pv Y14]] [.agg [.own 1 .str 9 true,.own 2 Y16 142 true]] (c2A (jad N))):=
 mO (fC (jiJ N) (fC (jqR N) ja)) func11 rfl N .no _ (dw:=[6,10])
def jt (N:Nat) (a:Int):Z12:=
 (bif decide ((65:Int)<=a)then bif decide (a<=90)then some (IntKind.u8.wrap (a+32))else(bif decide ((97:Int)<=a)then bif decide (a<=122)then some a else(bif decide ((48:Int)<=a)then bif decide (a<=57)then some a else(some 0)else some 0)else bif decide ((48:Int)<=a)then bif decide (a<=57)then some a else(some 0)else some 0)else bif decide ((97:Int)<=a)then bif decide (a<=122)then some a else(bif decide ((48:Int)<=a)then bif decide (a<=57)then some a else(some 0)else some 0)else bif decide ((48:Int)<=a)then bif decide (a<=57)then some a else(some 0)else some 0)
theorem jfG :mK 175 (bX [.pv (.int .u8)] [.pv (.int .u8)] (c1A (jt N))):=
 mO ja func175 rfl N .no _
def jJ (N:Nat) (a:Int) (b:Int) (c:Int):Z8:=
 (bif decide (b<=a)then some (decide (a<=c))else some false)
theorem jcL :mK 104 (bX [pI,pI,pI] [pB] (c3A (jJ N))):=
 mO ja func104 rfl N .no _
def jr5 :Sh:=⟨pS:: .dead:: .dead::pI::dz 23 [],[]⟩
def jT (h:List UInt8):Z8:=
 (iter (fun d (a,b)=>bif decide (b<(a.length:Int))then oB (idx a b) fun f=>(oB (jt N (f.toNat:Int)) fun c=>oB (idx a b) fun i=>bif !decide (c=(i.toNat:Int))then some false else oB (idx a b) fun k=>bif decide ((k.toNat:Int)=0)then some false else if fits (b+1)then d (a,(b+1))else none)else oB (jJ N (a.length:Int) 1 12) fun e=>some e) N (h,(0:Int)))
theorem jgp :mK 101 (bX [pS] [pB] (c1A (jT N))):=
 mO (fC (jfG N) (fC (jcL N) ja)) func101 rfl N (.seq .no (.seq (.seq .no (.block (.loop jr5 .no))) .no)) _
def jdI (N:Nat):Option ((List Z1)):=
 (some ([([105,110,103]:List UInt8),([101,100]:List UInt8),([101,115]:List UInt8),([108,121]:List UInt8),([115]:List UInt8)]:List Z1))
theorem jkj :mK 232 ⟨⟨[],[]⟩,⟨[.own 1 .str 9 true],[]⟩,fun a=>jdI N⟩:=
 mO ja func232 rfl N .no _
def jl2 :Sh:=⟨pS:: .dead:: .dead::pI::dz 30 [],[]⟩
def ja6 (h:List UInt8):Option (Z1):=
 (iter (fun d (a,b)=>oB (jdI N) fun e=>bif decide (b<(e.length:Int))then oB (jdI N) fun f=>(oB (idx f b) fun c=>if fits ((a.length:Int)-(c.length:Int))then bif decide ((3:Int)<=((a.length:Int)-(c.length:Int)))then oB (cut a ((a.length:Int)-(c.length:Int)) (a.length:Int)) fun i=>(bif decide (i=c)then oB (cut a 0 ((a.length:Int)-(c.length:Int))) fun k=>(some k)else if fits (b+1)then d (a,(b+1))else none)else(if fits (b+1)then d (a,(b+1))else none)else none)else some a) N (h,(0:Int)))
theorem jtL :mK 176 (bX [pS] [pS] (c1A (ja6 N))):=
 mO (fC (jkj N) ja) func176 rfl N (.seq .no (.seq (.seq .no (.block (.loop jl2 .no))) .no)) _
def jto :Sh:=⟨pS::dz 9 [],[]⟩
def jaq (e:List UInt8):Option (Z1):=
 (iter (fun c (b:Z1)=>let s2:=b;(oB (ja6 N s2) fun a=>bif !decide (a=s2)then oB (ja6 N s2) fun d=>(c d)else some s2)) N e)
theorem jfZ :mK 102 (bX [pS] [pS] (c1A (jaq N))):=
 mO (fC (jtL N) ja) func102 rfl N (.seq .no (.seq (.block (.loop jto .no)) .no)) _
def jlY :Sh:=⟨.pv (.sl .str)::pS::dz 3 (pI::dz 12 []),[]⟩
def jap (d:List Z1) (h:List UInt8):Z8:=
 (iter (fun e (b,c,a)=>bif decide (a<(b.length:Int))then oB (idx b a) fun f=>(bif decide (f=c)then some true else if fits (a+1)then e (b,c,(a+1))else none)else some false) N (d,h,(0:Int)))
theorem jhP :mK 103 (bX [.pv (.sl .str),pS] [pB] (c2A (jap N))):=
 mO ja func103 rfl N (.seq .no (.seq (.seq .no (.block (.loop jlY .no))) .no)) _
def jrs :Sh:=⟨.dead:: .box 1 0:: .dead::pI::dz 114 [],[(1,false,[.pv (.sl .str),.pv Y14])]⟩
def js0 :Sh:=⟨.dead:: .box 1 0:: .dead:: .dead::pI::dz 113 [],[(1,false,[.pv (.sl .str),.pv Y14])]⟩
def jrc :Sh:=⟨.dead:: .box 1 0:: .dead:: .dead::pI:: .box 5 0::pI::dz 111 [],[(1,false,[.pv (.sl .str),.pv Y14]),(5,false,[.pv (.sl .str),pS])]⟩
def jcw (v:List Z1) (H:List Z6):Z8:=
 (iter (fun p (a,c,k)=>bif decide (a<(c.length:Int))then oB (idx c a) fun D=>(oB (jT N D) fun t=>bif !t then some false else bif decide ((0:Int)<a)then oB (idx c a) fun m=>(if fits (a-1)then oB (idx c (a-1)) fun o=>(bif Op.bytesLess m o||decide (m=o)then some false else if fits (a+1)then p ((a+1),c,k)else none)else none)else if fits (a+1)then p ((a+1),c,k)else none)else iter (fun B (j,r,h)=>bif decide (j<(h.length:Int))then oB (idx h j) fun q=>(iter (fun y (l,b,i,n,d,f)=>bif decide (b<(d.length:Int))then oB (idx d b) fun z=>(oB (jT N z) fun C=>bif !C then some false else oB (idx d b) fun E=>oB (jaq N E) fun G=>oB (idx d b) fun A=>bif !decide (G=A)then some false else oB (idx d b) fun I=>oB (jap N i I) fun u=>bif u then some false else if fits (b+1)then y (l,(b+1),i,n,d,f)else none)else oB (jJ N (d.length:Int) 1 3) fun x=>bif !x then some false else oB (jT N f) fun w=>bif !w then some false else oB (jaq N f) fun K=>bif !decide (K=f)then some false else if fits (l+1)then B ((l+1),i,n)else none) N (j,(0:Int),r,h,q.1,q.2))else bif decide ((r.length:Int)<=6)then some (decide ((h.length:Int)<=4))else some false) N ((0:Int),c,k)) N ((0:Int),v,H))
theorem jtf :mK 41 (bX [.agg [.pv (.sl .str),.pv Y14]] [pB] (c2A (jcw N))):=
 mO (fC (jgp N) (fC (jfZ N) (fC (jhP N) (fC (jcL N) ja)))) func41 rfl N (.seq .no (.seq (.seq .no (.block (.loop jrs .no))) (.seq (.seq .no (.block (.loop js0 (.seq .no (.seq (.block (.seq .no (.seq (.seq .no (.block (.loop jrc .no))) .no))) .no))))) .no))) _
def jY1 :Sh:=⟨pS:: .dead:: .dead::pI::pI::dz 42 [],[]⟩
def s_l1Num_m (h:List UInt8):Z12:=
 (iter (fun e (a,c,b)=>bif decide (b<(a.length:Int))then oB (idx a b) fun f=>(bif decide ((f.toNat:Int)<48)then some (-1)else oB (idx a b) fun i=>bif decide ((57:Int)<(i.toNat:Int))then some (-1)else bif decide ((9:Int)<=b)then some (-1)else if fits (c*10)then oB (idx a b) fun d=>(if fits ((c*10)+(IntKind.i64.wrap (IntKind.u8.wrap ((d.toNat:Int)-48))))then if fits (b+1)then e (a,((c*10)+(IntKind.i64.wrap (IntKind.u8.wrap ((d.toNat:Int)-48)))),(b+1))else none else none)else none)else bif decide ((a.length:Int)=0)then some (-1)else bif decide ((1:Int)<a.length)then oB (idx a 0) fun j=>(bif decide ((j.toNat:Int)=48)then some (-1)else some c)else some c) N (h,(0:Int),(0:Int)))
theorem jYO :mK 172 (bX [pS] [pI] (c1A (s_l1Num_m N))):=
 mO ja func172 rfl N (.seq .no (.seq .no (.seq (.seq .no (.block (.loop jY1 .no))) .no))) _
def jot :Sh:=⟨pS:: .dead:: .dead::pI::dz 19 [],[]⟩
def jcu (e:List UInt8):Z8:=
 (iter (fun c (a,b)=>bif decide (b<(a.length:Int))then oB (idx a b) fun d=>(bif decide ((d.toNat:Int)<32)then some false else oB (idx a b) fun f=>bif decide ((126:Int)<(f.toNat:Int))then some false else if fits (b+1)then c (a,(b+1))else none)else some (decide ((a.length:Int)<=160))) N (e,(0:Int)))
theorem jpZ :mK 233 (bX [pS] [pB] (c1A (jcu N))):=
 mO ja func233 rfl N (.seq .no (.seq (.seq .no (.block (.loop jot .no))) .no)) _
def jp0 :Sh:=⟨.dead:: .box 1 0:: .dead::pI::dz 100 [],[(1,false,[pI,.pv Y17,.pv Y13])]⟩
def jtP :Sh:=⟨.dead:: .box 1 0::dz 3 (pI::dz 98 []),[(1,false,[pI,.pv Y17,.pv Y13])]⟩
def jcb (z:Int) (v:Z4) (y:Z9):Z8:=
 (iter (fun o (b,i,d,f)=>bif decide (b<(d.length:Int))then oB (idx d b) fun e=>(oB (jT N e.1) fun q=>bif !q then some false else oB (jcu N e.2) fun x=>bif !x then some false else bif decide ((0:Int)<b)then if fits (b-1)then oB (idx d (b-1)) fun m=>(bif Op.bytesLess e.1 m.1||decide (e.1=m.1)then some false else if fits (b+1)then o ((b+1),i,d,f)else none)else none else if fits (b+1)then o ((b+1),i,d,f)else none)else iter (fun n (a,k,j,c)=>bif decide (a<(c.length:Int))then oB (idx c a) fun w=>(oB (jT N w.1) fun A=>bif !A then some false else oB (idx c a) fun B=>oB (jJ N B.2 0 999999999) fun r=>bif !r then some false else bif decide ((0:Int)<a)then oB (idx c a) fun l=>(if fits (a-1)then oB (idx c (a-1)) fun p=>(bif Op.bytesLess l.1 p.1||decide (l.1=p.1)then some false else if fits (a+1)then n ((a+1),k,j,c)else none)else none)else if fits (a+1)then n ((a+1),k,j,c)else none)else oB (jJ N k 1 9999) fun u=>bif u then oB (jJ N (j.length:Int) 0 3) fun t=>(bif t then some (decide ((c.length:Int)<=3))else some false)else some false) N ((0:Int),i,d,f)) N ((0:Int),z,v,y))
theorem jpD :mK 179 (bX [.agg [pI,.pv Y17,.pv Y13]] [pB] (c3A (jcb N))):=
 mO (fC (jgp N) (fC (jpZ N) (fC (jcL N) ja))) func179 rfl N (.seq .no (.seq (.seq .no (.block (.loop jp0 .no))) (.seq (.seq .no (.block (.loop jtP .no))) .no))) _
def s_l1Dec_m (N:Nat):(D:Nat)->Int->Option (Z1)
 |0,_=>none
 |D+1,n=>
 bif decide (n<(-9223372036854775807))then
 some ([45,57,50,50,51,51,55,50,48,51,54,56,53,52,55,55,53,56,48,56]:List UInt8)
 else
 bif decide (n<0)then
 if fits (0-n)then oB (s_l1Dec_m N D (0-n)) fun r=>
 (if([45]:List UInt8).length+r.length<=9223372036854775807 then
 some (([45]:List UInt8)++r)
 else none)else none
 else
 bif decide (n<10)then
 if fits (48+n)then some (bytesOf ([(IntKind.u8.wrap (48+n))]:List Int))else none
 else
 if 10≠0 then
 if fits (n.tdiv 10)then oB (s_l1Dec_m N D (n.tdiv 10)) fun r2=>
 (if 10≠0 then
 if fits (48+(n.tmod 10))then if r2.length+(bytesOf ([(IntKind.u8.wrap (48+(n.tmod 10)))]:List Int)).length<=9223372036854775807 then
 some (r2++(bytesOf ([(IntKind.u8.wrap (48+(n.tmod 10)))]:List Int)))
 else none else none
 else none)else none
 else none
def jOp (N D:Nat):Model:=⟨⟨[pI],[]⟩,⟨[pS],[]⟩,c1A (s_l1Dec_m N D)⟩
theorem jPg (N D:Nat) (ih:mK 170 (jOp N D)):mK 170 (jOp N (D+1)):=
 mO (fC ih ja) func170 rfl N .no (jOp N (D+1))
theorem jOx (N:Nat):∀D,mK 170 (jOp N D)
 |0=>modelOk_none ⟨_,func170,by decide,by kernel_rfl⟩ _ (fun a=>rfl)
 |D+1=>jPg N D (jOx N D)
def jXV :Sh:=⟨.dead:: .box 1 0:: .dead::pS::pI::dz 58 [],[(1,false,[pI,.pv Y17,.pv Y13])]⟩
def jYl :Sh:=⟨.dead:: .box 1 0:: .dead::pS:: .dead::pI::dz 57 [],[(1,false,[pI,.pv Y17,.pv Y13])]⟩
def s_l6Put_m (p:Int) (r:Z4) (v:Z9):Option (Z1):=
 (oB (s_l1Dec_m N N p) fun j=>if([100,111,99,32]:List UInt8).length+j.length<=9223372036854775807 then if(([100,111,99,32]:List UInt8)++j).length+([10]:List UInt8).length<=9223372036854775807 then iter (fun u (a,h,o,d,n)=>bif decide (h<(d.length:Int))then if a.length+([102,105,101,108,100,32]:List UInt8).length<=9223372036854775807 then oB (idx d h) fun f=>(if(a++([102,105,101,108,100,32]:List UInt8)).length+f.1.length<=9223372036854775807 then if((a++([102,105,101,108,100,32]:List UInt8))++f.1).length+([32]:List UInt8).length<=9223372036854775807 then oB (idx d h) fun l=>(if(((a++([102,105,101,108,100,32]:List UInt8))++f.1)++([32]:List UInt8)).length+l.2.length<=9223372036854775807 then if((((a++([102,105,101,108,100,32]:List UInt8))++f.1)++([32]:List UInt8))++l.2).length+([10]:List UInt8).length<=9223372036854775807 then if fits (h+1)then u ((((((a++([102,105,101,108,100,32]:List UInt8))++f.1)++([32]:List UInt8))++l.2)++([10]:List UInt8)),(h+1),o,d,n)else none else none else none)else none else none)else none else iter (fun t (b,c,x,q,i)=>bif decide (c<(i.length:Int))then if b.length+([110,117,109,32]:List UInt8).length<=9223372036854775807 then oB (idx i c) fun e=>(if(b++([110,117,109,32]:List UInt8)).length+e.1.length<=9223372036854775807 then if((b++([110,117,109,32]:List UInt8))++e.1).length+([32]:List UInt8).length<=9223372036854775807 then oB (idx i c) fun w=>(oB (s_l1Dec_m N N w.2) fun m=>if(((b++([110,117,109,32]:List UInt8))++e.1)++([32]:List UInt8)).length+m.length<=9223372036854775807 then if((((b++([110,117,109,32]:List UInt8))++e.1)++([32]:List UInt8))++m).length+([10]:List UInt8).length<=9223372036854775807 then if fits (c+1)then t ((((((b++([110,117,109,32]:List UInt8))++e.1)++([32]:List UInt8))++m)++([10]:List UInt8)),(c+1),x,q,i)else none else none else none)else none else none)else none else some b) N (a,(0:Int),o,d,n)) N (((([100,111,99,32]:List UInt8)++j)++([10]:List UInt8)),(0:Int),p,r,v)else none else none)
theorem jYI :mK 184 (bX [.agg [pI,.pv Y17,.pv Y13]] [pS] (c3A (s_l6Put_m N))):=
 mO (fC (jOx N N) ja) func184 rfl N (.seq .no (.seq .no (.seq (.seq .no (.block (.loop jXV .no))) (.seq (.seq .no (.block (.loop jYl .no))) .no)))) _
def jkS :Sh:=⟨.pv Y3:: .dead:: .dead::pI::dz 33 [],[]⟩
def jbU (h:List Z0):Z8:=
 (iter (fun d (b,a)=>bif decide (a<(b.length:Int))then oB (idx b a) fun c=>(oB (jcb N c.1 c.2.1 c.2.2) fun e=>bif !e then some false else bif decide ((0:Int)<a)then oB (idx b a) fun f=>(if fits (a-1)then oB (idx b (a-1)) fun i=>(bif decide (f.1<=i.1)then some false else if fits (a+1)then d (b,(a+1))else none)else none)else if fits (a+1)then d (b,(a+1))else none)else some (decide ((b.length:Int)<=16))) N (h,(0:Int)))
theorem jpx :mK 106 (bX [.pv Y3] [pB] (c1A (jbU N))):=
 mO (fC (jpD N) ja) func106 rfl N (.seq .no (.seq (.seq .no (.block (.loop jkS .no))) .no)) _
def jl5 :Sh:=⟨.pv (.sl .str)::pS::dz 3 (pI::dz 42 []),[]⟩
def s_l7Put_m (p:List Z1) (m:List UInt8):Option ((List Z1)):=
 (iter (fun q (a,b,c)=>bif decide (c<(a.length:Int))then oB (idx a c) fun t=>(bif Op.bytesLess t b then if fits (c+1)then q (a,b,(c+1))else none else bif decide (c<(a.length:Int))then oB (idx a c) fun o=>(bif decide (o=b)then some a else oB (cut a 0 c) fun h=>if room ([]:List Z1).length h.length 16 then if room (([]:List Z1)++h).length ([b]:List Z1).length 16 then oB (cut a c (a.length:Int)) fun k=>(if room ((([]:List Z1)++h)++([b]:List Z1)).length k.length 16 then some (((([]:List Z1)++h)++([b]:List Z1))++k)else none)else none else none)else oB (cut a 0 c) fun f=>if room ([]:List Z1).length f.length 16 then if room (([]:List Z1)++f).length ([b]:List Z1).length 16 then oB (cut a c (a.length:Int)) fun j=>(if room ((([]:List Z1)++f)++([b]:List Z1)).length j.length 16 then some (((([]:List Z1)++f)++([b]:List Z1))++j)else none)else none else none)else bif decide (c<(a.length:Int))then oB (idx a c) fun r=>(bif decide (r=b)then some a else oB (cut a 0 c) fun d=>if room ([]:List Z1).length d.length 16 then if room (([]:List Z1)++d).length ([b]:List Z1).length 16 then oB (cut a c (a.length:Int)) fun l=>(if room ((([]:List Z1)++d)++([b]:List Z1)).length l.length 16 then some (((([]:List Z1)++d)++([b]:List Z1))++l)else none)else none else none)else oB (cut a 0 c) fun e=>if room ([]:List Z1).length e.length 16 then if room (([]:List Z1)++e).length ([b]:List Z1).length 16 then oB (cut a c (a.length:Int)) fun i=>(if room ((([]:List Z1)++e)++([b]:List Z1)).length i.length 16 then some (((([]:List Z1)++e)++([b]:List Z1))++i)else none)else none else none) N (p,m,(0:Int)))
theorem jgt :mK 234 (bX [.pv (.sl .str),pS] [.pv (.sl .str)] (c2A (s_l7Put_m N))):=
 mO ja func234 rfl N (.seq .no (.seq .no (.seq (.block (.loop jl5 .no)) .no))) _
def joT :Sh:=⟨.pv Y3:: .dead:: .dead:: .pv (.sl .str)::pI::dz 30 [],[]⟩
def jkn :Sh:=⟨.pv Y3:: .dead:: .dead:: .pv (.sl .str)::pI::pI::dz 29 [],[]⟩
def s_l7Names_m (o:List Z0):Option ((List Z1)):=
 (iter (fun m (f,i,h)=>bif decide (h<(f.length:Int))then iter (fun l (c,e,a,b)=>oB (idx c a) fun p=>bif decide (b<(p.2.1.length:Int))then oB (idx c a) fun j=>(oB (idx j.2.1 b) fun n=>oB (s_l7Put_m N e n.1) fun k=>if fits (b+1)then l (c,k,a,(b+1))else none)else if fits (a+1)then m (c,e,(a+1))else none) N (f,i,h,(0:Int))else some i) N (o,([]:List Z1),(0:Int)))
theorem jlz :mK 180 (bX [.pv Y3] [.pv (.sl .str)] (c1A (s_l7Names_m N))):=
 mO (fC (jgt N) ja) func180 rfl N (.seq .no (.seq .no (.seq (.seq .no (.block (.loop joT (.seq .no (.seq (.block (.seq .no (.block (.loop jkn .no)))) .no))))) .no))) _
def jl8 :Sh:=⟨.dead::pS:: .box 2 0:: .dead:: .dead::pI::dz 21 [],[(2,false,[pI,.pv Y17,.pv Y13])]⟩
def s_l6Field_m (k:Int) (n:Z4) (h:Z9) (m:List UInt8):Option (Z1):=
 (iter (fun f (c,a,i,b,e)=>bif decide (a<(b.length:Int))then oB (idx b a) fun j=>(bif decide (j.1=c)then oB (idx b a) fun d=>(some d.2)else if fits (a+1)then f (c,(a+1),i,b,e)else none)else some ([]:List UInt8)) N (m,(0:Int),k,n,h))
theorem jhA :mK 236 (bX [.agg [pI,.pv Y17,.pv Y13],pS] [pS] (c4A (s_l6Field_m N))):=
 mO ja func236 rfl N (.seq .no (.seq (.seq .no (.block (.loop jl8 .no))) .no)) _
def jo3 :Sh:=⟨pS:: .dead:: .dead:: .own 600003 Y7 233 true::pI::dz 50 [],[]⟩
def jm6 :Sh:=⟨pS:: .dead:: .dead:: .own 600003 Y7 233 true::pI:: .own 600005 (.int .u8) 5 true::pI::dz 48 [],[]⟩
def jtK :Sh:=⟨pS:: .dead:: .dead:: .own 600003 Y7 233 true::pI:: .pv (.sl (.int .u8))::pI::dz 48 [],[]⟩
def jb3 (B:List UInt8):Option ((List Z11)):=
 (iter (fun l (x,r,n)=>bif decide (n<(x.length:Int))then iter (fun D (c,k,a,b,j)=>bif decide (a<(c.length:Int))then oB (idx c a) fun A=>(oB (jt N (A.toNat:Int)) fun z=>bif !decide (z=0)then oB (idx c a) fun G=>(oB (jt N (G.toNat:Int)) fun v=>if room b.length ([v]:List Int).length 1 then if fits (a+1)then D (c,k,(a+1),(b++([v]:List Int)),j)else none else none)else meet (fun(d:Z1×(List Z11)×Int×(List Int)×Int)=>match d with|(y,h,e,m,u)=>bif decide ((0:Int)<m.length)then if room h.length ([((bytesOf m),(h.length:Int),u,e)]:List Z11).length 40 then if fits (e+1)then l (y,(h++([((bytesOf m),(h.length:Int),u,e)]:List Z11)),(e+1))else none else none else if fits (e+1)then l (y,h,(e+1))else none) fun p=>bif decide ((12:Int)<b.length)then oB (cut b 0 12) fun E=>(p (c,k,a,E,j))else p (c,k,a,b,j))else meet (fun(d:Z1×(List Z11)×Int×(List Int)×Int)=>match d with|(w,i,f,o,q)=>bif decide ((0:Int)<o.length)then if room i.length ([((bytesOf o),(i.length:Int),q,f)]:List Z11).length 40 then if fits (f+1)then l (w,(i++([((bytesOf o),(i.length:Int),q,f)]:List Z11)),(f+1))else none else none else if fits (f+1)then l (w,i,(f+1))else none) fun t=>bif decide ((12:Int)<b.length)then oB (cut b 0 12) fun C=>(t (c,k,a,C,j))else t (c,k,a,b,j)) N (x,r,n,([]:List Int),n)else some r) N (B,([]:List Z11),(0:Int)))
theorem jsr :mK 333 (bX [pS] [.own 1 Y7 233 true] (c1A (jb3 N))):=
 mO (fC (jfG N) ja) func333 rfl N (.seq .no (.seq .no (.seq (.seq .no (.block (.loop jo3 (.seq .no (.seq (.block (.seq .no (.seq .no (.seq (.block (.loop jm6 .no)) (.meet jtK .no .no))))) .no))))) .no))) _
def jmf :Sh:=⟨.dead:: .dead:: .box 2 0:: .dead:: .dead:: .own 600005 Y15 162 true:: .own 600006 Y7 233 true::pI::dz 43 [],[(2,false,[.pv (.sl .str),.pv Y14])]⟩
def jbY (l:List Z1) (q:List Z6) (m:List UInt8):Option (Z10):=
 (oB (jb3 N m) fun j=>iter (fun f (c,b,a,d,e)=>bif decide (a<(b.length:Int))then oB (idx b a) fun p=>(oB (jaq N p.1) fun h=>oB (idx b a) fun o=>oB (jap N d o.1) fun r=>bif !r then oB (jap N d h) fun k=>(bif !k then oB (idx b a) fun i=>(if room c.length ([(h,i.2.1)]:Z9).length 24 then if fits (a+1)then f ((c++([(h,i.2.1)]:Z9)),b,(a+1),d,e)else none else none)else if fits (a+1)then f (c,b,(a+1),d,e)else none)else if fits (a+1)then f (c,b,(a+1),d,e)else none)else some c) N (([]:Z9),j,(0:Int),l,q))
theorem jrk :mK 298 (bX [.agg [.pv (.sl .str),.pv Y14],pS] [.own 1 Y15 162 true] (c3A (jbY N))):=
 mO (fC (jsr N) (fC (jfZ N) (fC (jhP N) ja))) func298 rfl N (.seq .no (.seq .no (.seq .no (.seq (.seq .no (.block (.loop jmf .no))) .no)))) _
def jrL :Sh:=⟨.pv Y13:: .pv (.sl .str)::dz 3 (pI::dz 36 []),[]⟩
def jcC (f:Z9) (h:List Z1):Z8:=
 (iter (fun i (b,c,a)=>bif decide (a<(c.length:Int))then bif decide ((b.length:Int)<=a)then some false else(oB (idx b a) fun k=>oB (idx c a) fun e=>bif !decide (k.1=e)then some false else oB (idx b a) fun j=>oB (idx b 0) fun d=>if fits (d.2+a)then bif !decide (j.2=(d.2+a))then some false else(if fits (a+1)then i (b,c,(a+1))else none)else none)else some true) N (f,h,(0:Int)))
theorem jtg :mK 334 (bX [.pv Y13,.pv (.sl .str)] [pB] (c2A (jcC N))):=
 mO ja func334 rfl N (.seq .no (.seq (.seq .no (.block (.loop jrL .no))) .no)) _
def jlL :Sh:=⟨.dead:: .pv Y13:: .box 2 0:: .dead:: .dead::pI::pI::dz 38 [],[(2,false,[.pv (.sl .str),.pv Y14])]⟩
def jcJ (m:List Z1) (o:List Z6) (j:Z9):Z12:=
 (iter (fun e (d,c,a,f,b)=>bif decide (a<(b.length:Int))then oB (idx b a) fun l=>(oB (jcC N d l.1) fun h=>bif h then bif decide (c<0)then if fits (a+1)then e (d,a,(a+1),f,b)else none else(oB (idx b a) fun i=>oB (idx b c) fun k=>bif decide ((k.1.length:Int)<(i.1.length:Int))then if fits (a+1)then e (d,a,(a+1),f,b)else none else if fits (a+1)then e (d,c,(a+1),f,b)else none)else if fits (a+1)then e (d,c,(a+1),f,b)else none)else some c) N (j,((-1):Int),(0:Int),m,o))
theorem jqp :mK 299 (bX [.agg [.pv (.sl .str),.pv Y14],.pv Y13] [pI] (c3A (jcJ N))):=
 mO (fC (jtg N) ja) func299 rfl N (.seq .no (.seq .no (.seq (.seq .no (.block (.loop jlL .no))) .no))) _
def jnK :Sh:=⟨.dead:: .dead:: .box 2 0:: .dead:: .dead:: .own 600005 Y15 162 true:: .pv Y13::dz 45 [],[(2,false,[.pv (.sl .str),.pv Y14])]⟩
def ja5 (f:List Z1) (l:List Z6) (n:List UInt8):Option (Z10):=
 (oB (jbY N f l n) fun m=>iter (fun i (c,a,d,b)=>bif decide ((0:Int)<a.length)then oB (jcJ N d b a) fun e=>(bif decide (e<0)then oB (idx a 0) fun k=>(if room c.length ([k]:Z9).length 24 then oB (cut a 1 (a.length:Int)) fun q=>(i ((c++([k]:Z9)),q,d,b))else none)else oB (idx b e) fun h=>oB (idx a 0) fun j=>if room c.length ([(h.2,j.2)]:Z9).length 24 then oB (idx b e) fun r=>(oB (cut a (r.1.length:Int) (a.length:Int)) fun p=>i ((c++([(h.2,j.2)]:Z9)),p,d,b))else none)else some c) N (([]:Z9),m,f,l))
theorem jiO :mK 235 (bX [.agg [.pv (.sl .str),.pv Y14],pS] [.own 1 Y15 162 true] (c3A (ja5 N))):=
 mO (fC (jrk N) (fC (jqp N) ja)) func235 rfl N (.seq .no (.seq .no (.seq .no (.seq (.block (.loop jnK .no)) .no)))) _
def jn9 :Sh:=⟨.dead:: .pv Y3::pS:: .box 3 0::dz 3 (.pv (.sl .str)::pI::dz 31 []),[(3,false,[.pv (.sl .str),.pv Y14])]⟩
def jrT :Sh:=⟨.dead:: .pv Y3::pS:: .box 3 0::dz 3 (.pv (.sl .str)::pI:: .own 600009 Y15 162 true::pI::dz 29 []),[(3,false,[.pv (.sl .str),.pv Y14])]⟩
def s_l7Terms_m (u:List Z1) (z:List Z6) (t:List Z0) (B:List UInt8):Option ((List Z1)):=
 (iter (fun x (c,i,l,h,m,k)=>bif decide (h<(c.length:Int))then oB (idx c h) fun f=>(oB (s_l6Field_m N f.1 f.2.1 f.2.2 i) fun r=>oB (ja5 N m k r) fun y=>iter (fun w (j,p,o,b,e,a,q,n)=>bif decide (a<(e.length:Int))then oB (idx e a) fun v=>(oB (s_l7Put_m N o v.1) fun A=>if fits (a+1)then w (j,p,A,b,e,(a+1),q,n)else none)else if fits (b+1)then x (j,p,o,(b+1),q,n)else none) N (c,i,l,h,y,(0:Int),m,k))else some l) N (t,B,([]:List Z1),(0:Int),u,z))
theorem jqQ :mK 181 (bX [.agg [.pv (.sl .str),.pv Y14],.pv Y3,pS] [.pv (.sl .str)] (c4A (s_l7Terms_m N))):=
 mO (fC (jhA N) (fC (jiO N) (fC (jgt N) ja))) func181 rfl N (.seq .no (.seq .no (.seq (.seq .no (.block (.loop jn9 (.seq .no (.seq (.block (.seq .no (.seq .no (.block (.loop jrT .no))))) .no))))) .no))) _
def jnY :Sh:=⟨dz 3 (pS::dz 5 (.own 600009 tI 3 true:: .own 600010 Y15 162 true::pI::dz 28 [])),[]⟩
def s_l7Post_m (i:List Z1) (p:List Z6) (o:Int) (k:Z4) (l:Z9) (r:List UInt8) (q:List UInt8):Option ((List Int)):=
 (oB (s_l6Field_m N o k l r) fun h=>oB (ja5 N i p h) fun m=>iter (fun f (d,c,b,a)=>bif decide (a<(b.length:Int))then oB (idx b a) fun n=>(bif decide (n.1=d)then oB (idx b a) fun e=>(if room c.length ([e.2]:List Int).length 8 then if fits (a+1)then f (d,(c++([e.2]:List Int)),b,(a+1))else none else none)else if fits (a+1)then f (d,c,b,(a+1))else none)else some c) N (q,([]:List Int),m,(0:Int)))
theorem js6 :mK 237 (bX [.agg [.pv (.sl .str),.pv Y14],.agg [pI,.pv Y17,.pv Y13],pS,pS] [.own 1 tI 3 true] (c7A (s_l7Post_m N))):=
 mO (fC (jhA N) (fC (jiO N) ja)) func237 rfl N (.seq .no (.seq .no (.seq .no (.seq (.seq .no (.block (.loop jnY .no))) .no)))) _
def jkw :Sh:=⟨.dead:: .pv Y3::pS::pS:: .box 4 0::dz 3 (.box 8 0:: .box 9 0::pI::dz 34 []),[(4,false,[.pv (.sl .str),.pv Y14]),(8,false,[pS,pS,.nils]),(9,false,[pS,pS,.own 700902 Y12 241 true])]⟩
def s_l7Entry_m (u:List Z1) (w:List Z6) (t:List Z0) (r:List UInt8) (q:List UInt8):Option Z2:=
 (iter (fun o (b,e,i,a,j,f,p,m,l,k,c)=>bif decide (a<(b.length:Int))then oB (idx b a) fun h=>(oB (s_l7Post_m N j f h.1 h.2.1 h.2.2 e i) fun d=>bif decide ((0:Int)<d.length)then oB (idx b a) fun n=>(if room c.length ([(n.1,d)]:Z5).length 32 then if fits (a+1)then o (b,e,i,(a+1),j,f,p,m,l,k,(c++([(n.1,d)]:Z5)))else none else none)else if fits (a+1)then o (b,e,i,(a+1),j,f,p,m,l,k,c)else none)else some (l,k,c)) N (t,r,q,(0:Int),u,w,([]:List UInt8),([]:List UInt8),r,q,([]:Z5)))
theorem jtr :mK 182 (bX [.agg [.pv (.sl .str),.pv Y14],.pv Y3,pS,pS] [.agg [pS,pS,.own 1 Y12 241 true]] (c5A (s_l7Entry_m N))):=
 mO (fC (js6 N) ja) func182 rfl N (.seq .no (.seq .no (.seq (.seq .no (.block (.loop jkw .no))) .no))) _
def s_l7CopyDoc_m (N:Nat) (c:Int) (b:Z4) (a:Z9):Option Z0:=
 (if room ([]:Z4).length b.length 32 then if room ([]:Z9).length a.length 24 then some (c,(([]:Z4)++b),(([]:Z9)++a))else none else none)
theorem jtC :mK 183 (bX [.agg [pI,.pv Y17,.pv Y13]] [.agg [pI,.own 1 Y18 155 true,.own 2 Y15 157 true]] (c3A (s_l7CopyDoc_m N))):=
 mO ja func183 rfl N .no _
def jn8 :Sh:=⟨.dead:: .pv Y3:: .box 2 0:: .dead:: .box 4 0:: .box 5 0:: .pv (.sl .str)::pI::dz 58 [],[(2,false,[.pv (.sl .str),.pv Y14]),(4,false,[.nils,.nils]),(5,false,[.nils,.own 700501 Y6 167 true])]⟩
def jpr :Sh:=⟨.dead:: .pv Y3:: .box 2 0:: .dead:: .box 4 0:: .box 5 0:: .pv (.sl .str)::pI:: .pv (.sl .str)::pI::dz 56 [],[(2,false,[.pv (.sl .str),.pv Y14]),(4,false,[.nils,.nils]),(5,false,[.nils,.own 700501 Y6 167 true])]⟩
def jn0 :Sh:=⟨.dead:: .pv Y3:: .dead:: .dead:: .box 4 0:: .box 5 0::dz 4 (pI::dz 55 []),[(4,false,[.nils,.nils]),(5,false,[.own 700500 Y4 95 true,.own 700501 Y6 167 true])]⟩
def s_l7Of_m (A:List Z1) (K:List Z6) (t:List Z0):Option ((List Z0)×(List Z2)):=
 (oB (s_l7Names_m N t) fun z=>iter (fun E (h,o,n,w,v,u)=>bif decide (n<(o.length:Int))then oB (idx o n) fun I=>(oB (s_l7Terms_m N w v h I) fun H=>iter (fun D (i,k,c,e,b,q,l,m)=>bif decide (b<(e.length:Int))then oB (idx k c) fun C=>(oB (idx e b) fun G=>oB (s_l7Entry_m N q l i C G) fun y=>if room m.length ([y]:List Z2).length 56 then if fits (b+1)then D (i,k,c,e,(b+1),q,l,(m++([y]:List Z2)))else none else none)else if fits (c+1)then E (i,k,(c+1),q,l,m)else none) N (h,o,n,H,(0:Int),w,v,u))else iter (fun B (f,d,j,x)=>bif decide (d<(f.length:Int))then oB (idx f d) fun p=>(oB (s_l7CopyDoc_m N p.1 p.2.1 p.2.2) fun r=>if room j.length ([r]:List Z0).length 56 then if fits (d+1)then B (f,(d+1),(j++([r]:List Z0)),x)else none else none)else some (j,x)) N (h,(0:Int),([]:List Z0),u)) N (t,z,(0:Int),A,K,([]:List Z2)))
theorem jmU :mK 107 (bX [.agg [.pv (.sl .str),.pv Y14],.pv Y3] [.agg [.own 1 Y4 95 true,.own 2 Y6 167 true]] (c3A (s_l7Of_m N))):=
 mO (fC (jlz N) (fC (jqQ N) (fC (jtr N) (fC (jtC N) ja)))) func107 rfl N (.seq .no (.seq .no (.seq .no (.seq (.seq .no (.block (.loop jn8 (.seq .no (.seq (.block (.seq .no (.seq .no (.block (.loop jpr .no))))) .no))))) (.seq (.seq .no (.block (.loop jn0 .no))) .no))))) _
def jnI :Sh:=⟨.pv Y19:: .pv Y19::dz 3 (pI::dz 20 []),[]⟩
def jb1 (e:List Int) (c:List Int):Z8:=
 (bif !decide ((e.length:Int)=(c.length:Int))then some false else iter (fun h (b,d,a)=>bif decide (a<(b.length:Int))then oB (idx b a) fun i=>(oB (idx d a) fun f=>bif !decide (i=f)then some false else if fits (a+1)then h (b,d,(a+1))else none)else some true) N (e,c,(0:Int)))
theorem jlH :mK 292 (bX [.pv Y19,.pv Y19] [pB] (c2A (jb1 N))):=
 mO ja func292 rfl N (.seq .no (.seq .no (.seq (.seq .no (.block (.loop jnI .no))) .no))) _
def jnx :Sh:=⟨.dead:: .dead:: .box 2 0:: .box 3 0:: .dead::pI::dz 57 [],[(2,false,[pS,pS,.pv Y11]),(3,false,[pS,pS,.pv Y11])]⟩
def jbQ (j:List UInt8) (d:List UInt8) (f:Z5) (i:List UInt8) (e:List UInt8) (h:Z5):Z8:=
 (bif !decide (j=i)then some false else bif !decide (d=e)then some false else bif !decide ((f.length:Int)=(h.length:Int))then some false else iter (fun q (a,l,v,b,m,p,c)=>bif decide (a<(b.length:Int))then oB (idx b a) fun t=>(oB (idx c a) fun o=>bif !decide (t.1=o.1)then some false else oB (idx b a) fun r=>oB (idx c a) fun u=>oB (jb1 N r.2 u.2) fun k=>bif !k then some false else if fits (a+1)then q ((a+1),l,v,b,m,p,c)else none)else some true) N ((0:Int),j,d,f,i,e,h))
theorem jtG :mK 225 (bX [.agg [pS,pS,.pv Y11],.agg [pS,pS,.pv Y11]] [pB] (c6A (jbQ N))):=
 mO (fC (jlH N) ja) func225 rfl N (.seq .no (.seq .no (.seq (.seq .no (.block (.loop jnx .no))) .no))) _
def jrW :Sh:=⟨dz 3 (.box 3 0:: .dead:: .box 5 0::pI::dz 39 []),[(3,false,[.pv Y3,.pv Y5]),(5,false,[.own 700500 Y4 95 true,.own 700501 Y6 167 true])]⟩
def jcR (h:List Z1) (j:List Z6) (b:List Z0) (i:List Z2):Z8:=
 (oB (jcw N h j) fun l=>bif !l then some false else oB (jbU N b) fun r=>bif !r then some false else oB (s_l7Of_m N h j b) fun f=>bif !decide ((f.2.length:Int)=(i.length:Int))then some false else iter (fun q (a,p,k,m,e)=>bif decide (a<(e.length:Int))then oB (idx e a) fun d=>(oB (idx k a) fun c=>oB (jbQ N d.1 d.2.1 d.2.2 c.1 c.2.1 c.2.2) fun n=>bif !n then some false else if fits (a+1)then q ((a+1),p,k,m,e)else none)else some true) N ((0:Int),b,i,f.1,f.2))
theorem jpm :mK 166 (bX [.agg [.pv (.sl .str),.pv Y14],.agg [.pv Y3,.pv Y5]] [pB] (c4A (jcR N))):=
 mO (fC (jtf N) (fC (jpx N) (fC (jmU N) (fC (jtG N) ja)))) func166 rfl N (.seq .no (.seq .no (.seq .no (.seq .no (.seq (.seq .no (.block (.loop jrW .no))) .no))))) _
def jCI :Sh:=⟨.pv Y19:: .dead:: .dead::pI::dz 31 [],[]⟩
def jx3 (f:List Int):Z8:=
 (iter (fun c (b,a)=>bif decide (a<(b.length:Int))then oB (idx b a) fun i=>(oB (jJ N i 0 999999999) fun d=>bif !d then some false else bif decide ((0:Int)<a)then oB (idx b a) fun e=>(if fits (a-1)then oB (idx b (a-1)) fun h=>(bif decide (e<=h)then some false else if fits (a+1)then c (b,(a+1))else none)else none)else if fits (a+1)then c (b,(a+1))else none)else some (decide ((b.length:Int)<=60))) N (f,(0:Int)))
theorem jC9 :mK 167 (bX [.pv Y19] [pB] (c1A (jx3 N))):=
 mO (fC (jcL N) ja) func167 rfl N (.seq .no (.seq (.seq .no (.block (.loop jCI .no))) .no)) _
def jA0 :Sh:=⟨.dead::pI:: .box 2 0:: .dead:: .box 4 0::pI::dz 21 [],[(2,false,[.pv Y3,.pv Y5]),(4,false,[pI,.nils,.nils])]⟩
def s_l12Doc_m (j:List Z0) (k:List Z2) (e:Int):Option Z0:=
 (iter (fun f (d,a,b,m,h)=>bif decide (a<(b.length:Int))then oB (idx b a) fun i=>(bif decide (i.1=d)then oB (idx b a) fun c=>(some (c.1,c.2.1,c.2.2))else if fits (a+1)then f (d,(a+1),b,m,h)else none)else some (0,([]:Z4),([]:Z9))) N (e,(0:Int),j,k,(0:Int)))
theorem jDn :mK 168 (bX [.agg [.pv Y3,.pv Y5],pI] [.agg [pI,.pv Y17,.pv Y13]] (c3A (s_l12Doc_m N))):=
 mO ja func168 rfl N (.seq .no (.seq (.seq .no (.block (.loop jA0 .no))) .no)) _
def jJe :Sh:=⟨.pv Y19::pI::dz 3 (pI::dz 12 []),[]⟩
def s_l8Has_m (d:List Int) (i:Int):Z8:=
 (iter (fun e (b,c,a)=>bif decide (a<(b.length:Int))then oB (idx b a) fun f=>(bif decide (f=c)then some true else if fits (a+1)then e (b,c,(a+1))else none)else some false) N (d,i,(0:Int)))
theorem jIb :mK 293 (bX [.pv Y19,pI] [pB] (c2A (s_l8Has_m N))):=
 mO ja func293 rfl N (.seq .no (.seq (.seq .no (.block (.loop jJe .no))) .no)) _
def s_l18Dead_m (e:List Z0) (d:List Z2) (c:List Int) (b:Int):Z8:=
 (oB (s_l8Has_m N c b) fun a=>some a)
theorem jIy :mK 226 (bX [.agg [.pv Y3,.pv Y5,.pv Y19],pI] [pB] (c4A (s_l18Dead_m N))):=
 mO (fC (jIb N) ja) func226 rfl N .no _
def jIl :Sh:=⟨.pv Y3:: .dead:: .dead:: .box 3 0:: .dead::pI::dz 32 [],[(3,false,[pI,.pv Y17,.pv Y13])]⟩
def s_l18Put_m (o:List Z0) (t:Int) (n:Z4) (q:Z9):Z14:=
 (iter (fun p (a,b,c,i,h)=>bif decide (b<(a.length:Int))then oB (idx a b) fun r=>(bif decide (r.1<c)then if fits (b+1)then p (a,(b+1),c,i,h)else none else oB (cut a 0 b) fun e=>if room ([]:List Z0).length e.length 56 then oB (s_l7CopyDoc_m N c i h) fun f=>(if room (([]:List Z0)++e).length ([f]:List Z0).length 56 then oB (cut a b (a.length:Int)) fun l=>(if room ((([]:List Z0)++e)++([f]:List Z0)).length l.length 56 then some (((([]:List Z0)++e)++([f]:List Z0))++l)else none)else none)else none)else oB (cut a 0 b) fun d=>if room ([]:List Z0).length d.length 56 then oB (s_l7CopyDoc_m N c i h) fun j=>(if room (([]:List Z0)++d).length ([j]:List Z0).length 56 then oB (cut a b (a.length:Int)) fun k=>(if room ((([]:List Z0)++d)++([j]:List Z0)).length k.length 56 then some (((([]:List Z0)++d)++([j]:List Z0))++k)else none)else none)else none) N (o,(0:Int),t,n,q))
theorem jJy :mK 227 (bX [.pv Y3,.agg [pI,.pv Y17,.pv Y13]] [.own 1 Y4 95 false] (c4A (s_l18Put_m N))):=
 mO (fC (jtC N) ja) func227 rfl N (.seq .no (.seq .no (.seq (.block (.loop jIl .no)) .no))) _
def jI2 :Sh:=⟨.dead:: .box 1 0:: .dead:: .own 600003 Y4 95 false::pI::dz 45 [],[(1,false,[.pv (.sl .str),.pv Y14,.pv Y0])]⟩
def jJx :Sh:=⟨.dead:: .box 1 0:: .dead:: .own 600003 Y4 95 false::pI::pI::dz 44 [],[(1,false,[.pv (.sl .str),.pv Y14,.pv Y0])]⟩
def s_l18Docs_m (p:List Z1) (w:List Z6) (r:List Z3):Z14:=
 (iter (fun t (k,n,x,y,l)=>bif decide (n<(l.length:Int))then iter (fun m (h,a,c,j,f,b)=>oB (idx b a) fun v=>bif decide (c<(v.1.1.length:Int))then oB (idx b a) fun q=>(oB (idx q.1.1 c) fun d=>oB (idx b a) fun i=>oB (s_l18Dead_m N i.1.1 i.1.2 i.2 d.1) fun o=>bif !o then oB (s_l18Put_m N h d.1 d.2.1 d.2.2) fun u=>(if fits (c+1)then m (u,a,(c+1),j,f,b)else none)else if fits (c+1)then m (h,a,(c+1),j,f,b)else none)else if fits (a+1)then t (h,(a+1),j,f,b)else none) N (k,n,(0:Int),x,y,l)else some k) N (([]:List Z0),(0:Int),p,w,r))
theorem jH3 :mK 169 (bX [.agg [.pv (.sl .str),.pv Y14,.pv Y0]] [.own 1 Y4 95 false] (c3A (s_l18Docs_m N))):=
 mO (fC (jIy N) (fC (jJy N) ja)) func169 rfl N (.seq .no (.seq .no (.seq (.seq .no (.block (.loop jI2 (.seq .no (.seq (.block (.seq .no (.block (.loop jJx .no)))) .no))))) .no))) _
def jIz :Sh:=⟨.dead:: .box 1 0:: .dead::pI::dz 67 [],[(1,false,[.pv (.sl .str),.pv Y14,.pv Y0])]⟩
def jJd :Sh:=⟨.dead:: .box 1 0:: .dead::pI:: .box 4 0::pI::dz 22 (pB::dz 9 (pB::dz 32 [])),[(1,false,[.pv (.sl .str),.pv Y14,.pv Y0]),(4,false,[.pv Y3,.pv Y5,.pv Y19])]⟩
def s_l18Ok_m (r:List Z1) (C:List Z6) (A:List Z3):Z8:=
 (iter (fun B (j,d,e,b)=>bif decide (j<(b.length:Int))then oB (idx b j) fun a=>(oB (jcR N d e a.1.1 a.1.2) fun q=>bif !q then some false else oB (jx3 N a.2) fun m=>bif !m then some false else bif decide ((a.1.1.length:Int)<=(a.2.length:Int))then some false else iter (fun z (h,c,x,w,p,k,l,o,n,f)=>bif decide (c<(f.length:Int))then oB (idx f c) fun y=>(oB (s_l12Doc_m N o n y) fun D=>bif decide (D.1=0)then some false else if fits (c+1)then z (h,(c+1),x,w,p,k,l,o,n,f)else none)else if fits (h+1)then B ((h+1),p,k,l)else none) N (j,(0:Int),(!m),(decide ((a.1.1.length:Int)<=(a.2.length:Int))),d,e,b,a.1.1,a.1.2,a.2))else oB (jcw N d e) fun t=>bif t then bif decide ((b.length:Int)<=5)then oB (s_l18Docs_m N d e b) fun v=>(oB (jbU N v) fun u=>some u)else(some false)else some false) N ((0:Int),r,C,A))
theorem jIW :mK 92 (bX [.agg [.pv (.sl .str),.pv Y14,.pv Y0]] [pB] (c3A (s_l18Ok_m N))):=
 mO (fC (jpm N) (fC (jC9 N) (fC (jDn N) (fC (jtf N) (fC (jH3 N) (fC (jpx N) ja)))))) func92 rfl N (.seq .no (.seq (.seq .no (.block (.loop jIz (.seq .no (.seq (.block (.seq .no (.seq .no (.seq .no (.block (.loop jJd .no)))))) .no))))) .no)) _
def jX7 :Sh:=⟨.dead:: .box 1 0:: .dead::pS::pI::dz 36 [],[(1,false,[.pv Y3,.pv Y5,.pv Y19])]⟩
def jYu :Sh:=⟨.dead:: .box 1 0:: .dead::pS:: .dead::pI::dz 35 [],[(1,false,[.pv Y3,.pv Y5,.pv Y19])]⟩
def s_l19Seg_m (v:List Z0) (u:List Z2) (n:List Int):Option (Z1):=
 (iter (fun t (h,d,b,m,l)=>bif decide (d<(b.length:Int))then oB (idx b d) fun j=>(oB (s_l6Put_m N j.1 j.2.1 j.2.2) fun k=>if h.length+k.length<=9223372036854775807 then if fits (d+1)then t ((h++k),(d+1),b,m,l)else none else none)else iter (fun r (a,c,p,o,e)=>bif decide (c<(e.length:Int))then if a.length+([100,101,97,100,32]:List UInt8).length<=9223372036854775807 then oB (idx e c) fun q=>(oB (s_l1Dec_m N N q) fun i=>if(a++([100,101,97,100,32]:List UInt8)).length+i.length<=9223372036854775807 then if((a++([100,101,97,100,32]:List UInt8))++i).length+([10]:List UInt8).length<=9223372036854775807 then if fits (c+1)then r ((((a++([100,101,97,100,32]:List UInt8))++i)++([10]:List UInt8)),(c+1),p,o,e)else none else none else none)else none else some a) N (h,(0:Int),b,m,l)) N (([]:List UInt8),(0:Int),v,u,n))
theorem jX1 :mK 108 (bX [.agg [.pv Y3,.pv Y5,.pv Y19]] [pS] (c3A (s_l19Seg_m N))):=
 mO (fC (jYI N) (fC (jOx N N) ja)) func108 rfl N (.seq .no (.seq .no (.seq (.seq .no (.block (.loop jX7 .no))) (.seq (.seq .no (.block (.loop jYu .no))) .no)))) _
def jaw (N:Nat) (a:Int):Z8:=
 (bif decide ((97:Int)<=a)then bif decide (a<=122)then some true else(bif decide ((48:Int)<=a)then some (decide (a<=57))else some false)else bif decide ((48:Int)<=a)then some (decide (a<=57))else some false)
theorem jeK :mK 148 (bX [.pv (.int .u8)] [pB] (c1A (jaw N))):=
 mO ja func148 rfl N .no _
def jm (N:Nat) (a:Int) (b:Int) (c:Int):Z8:=
 (bif decide (b<=a)then some (decide (a<=c))else some false)
theorem jY :mK 111 (bX [pI,pI,pI] [pB] (c3A (jm N))):=
 mO ja func111 rfl N .no _
def jqW :Sh:=⟨pS::dz 4 (pI::pI::dz 11 []),[]⟩
def jO (d:List UInt8):Z8:=
 (iter (fun f (b,c,a)=>bif decide (a<c)then oB (idx b a) fun i=>(oB (jaw N (i.toNat:Int)) fun e=>bif !e then some false else if fits (a+1)then f (b,c,(a+1))else none)else oB (jm N (b.length:Int) 1 12) fun h=>some h) N (d,(d.length:Int),(0:Int)))
theorem jcM :mK 71 (bX [pS] [pB] (c1A (jO N))):=
 mO (fC (jeK N) (fC (jY N) ja)) func71 rfl N (.seq .no (.seq (.seq .no (.block (.loop jqW .no))) .no)) _
def jmc :Sh:=⟨.pv (.sl .str)::dz 4 (.pv (.sl .str)::pI::pI::dz 21 []),[]⟩
def jb2 (b:List Z1):Z8:=
 (iter (fun f (e,d,c,a)=>bif decide (a<c)then oB (idx d a) fun h=>(oB (jO N h) fun i=>bif !i then some false else bif decide ((0:Int)<a)then if fits (a-1)then oB (idx e (a-1)) fun j=>(bif !Op.bytesLess j h then some false else if fits (a+1)then f (e,d,c,(a+1))else none)else none else if fits (a+1)then f (e,d,c,(a+1))else none)else some true) N (b,b,(b.length:Int),(0:Int)))
theorem jtw :mK 110 (bX [.pv (.sl .str)] [pB] (c1A (jb2 N))):=
 mO (fC (jcM N) ja) func110 rfl N (.seq .no (.seq (.seq .no (.block (.loop jmc .no))) .no)) _
def jdF (N:Nat) (a:List UInt8) (b:List UInt8):Z8:=
 (bif decide ((b.length:Int)<=(a.length:Int))then if fits ((a.length:Int)-(b.length:Int))then oB (cut a ((a.length:Int)-(b.length:Int)) (a.length:Int)) fun c=>(some (decide (c=b)))else none else some false)
theorem jpU :mK 238 (bX [pS,pS] [pB] (c2A (jdF N))):=
 mO ja func238 rfl N .no _
def jcN (c:List UInt8) (b:List UInt8):Z8:=
 (oB (jdF N c b) fun a=>some a)
theorem jsu :mK 185 (bX [pS,pS] [pB] (c2A (jcN N))):=
 mO (fC (jpU N) ja) func185 rfl N .no _
def jod :Sh:=⟨pS:: .dead:: .dead::pB::dz 32 [],[]⟩
def jnf :Sh:=⟨pS:: .dead:: .dead::pB::dz 6 (.own 600010 .str 9 true::pI::pI::dz 23 []),[]⟩
def jaB (k:List UInt8):Option (Z1):=
 (oB (jO N k) fun m=>bif !m then some ([]:List UInt8)else iter (fun j (l,p)=>bif p then iter (fun i (a,f,e,d,b)=>bif decide (b<d)then oB (idx e b) fun c=>(oB (jcN N a c) fun n=>bif n then if fits ((a.length:Int)-(c.length:Int))then bif decide ((3:Int)<=((a.length:Int)-(c.length:Int)))then if fits ((a.length:Int)-(c.length:Int))then oB (cut a 0 ((a.length:Int)-(c.length:Int))) fun o=>(j (o,true))else none else(if fits (b+1)then i (a,f,e,d,(b+1))else none)else none else if fits (b+1)then i (a,f,e,d,(b+1))else none)else j (a,f)) N (l,false,([([105,110,103]:List UInt8),([101,100]:List UInt8),([101,115]:List UInt8),([108,121]:List UInt8),([115]:List UInt8)]:List Z1),(([([105,110,103]:List UInt8),([101,100]:List UInt8),([101,115]:List UInt8),([108,121]:List UInt8),([115]:List UInt8)]:List Z1).length:Int),(0:Int))else some l) N (k,true))
theorem jio :mK 112 (bX [pS] [pS] (c1A (jaB N))):=
 mO (fC (jcM N) (fC (jsu N) ja)) func112 rfl N (.seq .no (.seq .no (.seq (.seq .no (.block (.loop jod (.seq .no (.block (.seq .no (.seq .no (.block (.loop jnf .no))))))))) .no))) _
def jkJ :Sh:=⟨.pv (.sl .str)::pS::dz 5 (pI::pI::dz 10 []),[]⟩
def jdH (c:List Z1) (h:List UInt8):Z12:=
 (iter (fun f (d,e,b,a)=>bif decide (a<b)then oB (idx d a) fun i=>(bif decide (e=i)then some a else if fits (a+1)then f (d,e,b,(a+1))else none)else some (-1)) N (c,h,(c.length:Int),(0:Int)))
theorem jkZ :mK 186 (bX [.pv (.sl .str),pS] [pI] (c2A (jdH N))):=
 mO ja func186 rfl N (.seq .no (.seq (.seq .no (.block (.loop jkJ .no))) .no)) _
def jao (c:List Z1) (b:List UInt8):Z8:=
 (oB (jdH N c b) fun a=>some (decide ((0:Int)<=a)))
theorem jh5 :mK 113 (bX [.pv (.sl .str),pS] [pB] (c2A (jao N))):=
 mO (fC (jkZ N) ja) func113 rfl N .no _
def jmj :Sh:=⟨.dead:: .box 1 0::dz 22 (.pv Y14::pI::pI::dz 46 []),[(1,false,[.pv (.sl .str),.pv Y14])]⟩
def jrC :Sh:=⟨.dead:: .box 1 0::dz 22 (.pv Y14::pI::pI::dz 12 (pB::dz 7 (pB:: .dead:: .dead:: .pv (.sl .str)::pI::pI::dz 20 []))),[(1,false,[.pv (.sl .str),.pv Y14])]⟩
def jaj (e:List Z1) (d:List Z6):Z8:=
 (bif decide ((6:Int)<e.length)then some false else oB (jb2 N e) fun u=>bif !u then some false else bif decide ((4:Int)<d.length)then some false else iter (fun A (o,r,f,y,x)=>bif decide (f<r)then oB (idx o f) fun a=>(oB (jm N (a.1.length:Int) 1 3) fun B=>bif !B then some false else oB (jO N a.2) fun t=>bif !t then some false else oB (jaB N a.2) fun l=>bif !decide (l=a.2)then some false else iter (fun z (p,n,i,D,C,m,k,b,j,q)=>bif decide (b<k)then oB (idx m b) fun c=>(oB (jO N c) fun w=>bif !w then some false else oB (jaB N c) fun v=>bif !decide (v=c)then some false else oB (jao N j c) fun E=>bif E then some false else if fits (b+1)then z (p,n,i,D,C,m,k,(b+1),j,q)else none)else if fits (i+1)then A (p,n,(i+1),j,q)else none) N (o,r,f,(!t),(!decide (l=a.2)),a.1,(a.1.length:Int),(0:Int),y,x))else some true) N (d,(d.length:Int),(0:Int),e,d))
theorem jdX :mK 45 (bX [.agg [.pv (.sl .str),.pv Y14]] [pB] (c2A (jaj N))):=
 mO (fC (jtw N) (fC (jY N) (fC (jcM N) (fC (jio N) (fC (jh5 N) ja))))) func45 rfl N (.seq .no (.seq .no (.seq (.seq .no (.block (.loop jmj (.seq .no (.seq .no (.seq (.block (.seq .no (.seq .no (.seq .no (.block (.loop jrC .no)))))) .no)))))) .no))) _
def jXn (N:Nat) (a:List UInt8):Option Int:=atoiM a
 
def jYe (N:Nat):Model:=⟨⟨[pS],[]⟩,⟨[.tup [pI,.dead]],[]⟩,c1A (jXn N)⟩
theorem jXC :mK 48 (jYe N):=jYw
def jtd :Sh:=⟨pS::dz 4 (pI::pI::dz 16 []),[]⟩
def jaF (d:List UInt8):Z8:=
 (iter (fun e (b,c,a)=>bif decide (a<c)then oB (idx b a) fun f=>(bif decide ((f.toNat:Int)<32)then some false else oB (idx b a) fun i=>bif decide ((126:Int)<(i.toNat:Int))then some false else if fits (a+1)then e (b,c,(a+1))else none)else some (decide ((b.length:Int)<=160))) N (d,(d.length:Int),(0:Int)))
theorem jdK :mK 197 (bX [pS] [pB] (c1A (jaF N))):=
 mO ja func197 rfl N (.seq .no (.seq (.seq .no (.block (.loop jtd .no))) .no)) _
def jlC :Sh:=⟨.dead:: .box 1 0::dz 22 (.pv Y17::pI::pI::dz 66 []),[(1,false,[pI,.pv Y17,.pv Y13])]⟩
def jpt :Sh:=⟨.dead:: .box 1 0::dz 57 (.pv Y13::pI::pI::dz 31 []),[(1,false,[pI,.pv Y17,.pv Y13])]⟩
def i_DocOk_m (u:Int) (e:Z4) (t:Z9):Z8:=
 (oB (jm N u 1 9999) fun w=>bif !w then some false else bif decide ((3:Int)<e.length)then some false else bif decide ((3:Int)<t.length)then some false else iter (fun r (i,m,a,h,d,c)=>bif decide (a<m)then oB (idx i a) fun l=>(oB (jO N l.1) fun A=>bif !A then some false else oB (jaF N l.2) fun B=>bif !B then some false else bif decide ((0:Int)<a)then if fits (a-1)then oB (idx d (a-1)) fun z=>(bif !Op.bytesLess z.1 l.1 then some false else if fits (a+1)then r (i,m,(a+1),h,d,c)else none)else none else if fits (a+1)then r (i,m,(a+1),h,d,c)else none)else iter (fun q (j,n,b,v,p,o)=>bif decide (b<n)then oB (idx j b) fun k=>(oB (jO N k.1) fun x=>bif !x then some false else oB (jm N k.2 0 999999999) fun y=>bif !y then some false else bif decide ((0:Int)<b)then if fits (b-1)then oB (idx o (b-1)) fun C=>(bif !Op.bytesLess C.1 k.1 then some false else if fits (b+1)then q (j,n,(b+1),v,p,o)else none)else none else if fits (b+1)then q (j,n,(b+1),v,p,o)else none)else some true) N (c,(c.length:Int),(0:Int),h,d,c)) N (e,(e.length:Int),(0:Int),u,e,t))
theorem jh0 :mK 153 (bX [.agg [pI,.pv Y17,.pv Y13]] [pB] (c3A (i_DocOk_m N))):=
 mO (fC (jY N) (fC (jcM N) (fC (jdK N) ja))) func153 rfl N (.seq .no (.seq .no (.seq (.seq .no (.block (.loop jlC .no))) (.seq (.seq .no (.block (.loop jpt .no))) .no)))) _
def jpj :Sh:=⟨.pv Y3::dz 4 (.pv Y3::pI::pI::dz 26 []),[]⟩
def jbf (d:List Z0):Z8:=
 (iter (fun h (c,f,e,a)=>bif decide (a<e)then oB (idx f a) fun b=>(oB (i_DocOk_m N b.1 b.2.1 b.2.2) fun i=>bif !i then some false else bif decide ((0:Int)<a)then if fits (a-1)then oB (idx c (a-1)) fun j=>(bif decide (b.1<=j.1)then some false else if fits (a+1)then h (c,f,e,(a+1))else none)else none else if fits (a+1)then h (c,f,e,(a+1))else none)else some (decide ((c.length:Int)<=16))) N (d,d,(d.length:Int),(0:Int)))
theorem jjU :mK 73 (bX [.pv Y3] [pB] (c1A (jbf N))):=
 mO (fC (jh0 N) ja) func73 rfl N (.seq .no (.seq (.seq .no (.block (.loop jpj .no))) .no)) _
def jbO (N:Nat) (c:Int) (b:Z4) (a:Z9):Option Z0:=
 (if room ([]:Z4).length b.length 32 then if room ([]:Z9).length a.length 24 then some (c,(([]:Z4)++b),(([]:Z9)++a))else none else none)
theorem jrI :mK 196 (bX [.agg [pI,.pv Y17,.pv Y13]] [.agg [pI,.own 1 Y18 155 true,.own 2 Y15 157 true]] (c3A (jbO N))):=
 mO ja func196 rfl N .no _
def joW :Sh:=⟨dz 3 (.own 600003 Y4 95 true::dz 3 (.pv Y3::pI::pI::dz 10 [])),[]⟩
def jbV (e:List Z0):Z14:=
 (iter (fun i (c,f,h,a)=>bif decide (a<h)then oB (idx f a) fun b=>(oB (jbO N b.1 b.2.1 b.2.2) fun d=>if room c.length ([d]:List Z0).length 56 then if fits (a+1)then i ((c++([d]:List Z0)),f,h,(a+1))else none else none)else some c) N (([]:List Z0),e,(e.length:Int),(0:Int)))
theorem joC :mK 120 (bX [.pv Y3] [.own 1 Y4 95 true] (c1A (jbV N))):=
 mO (fC (jrI N) ja) func120 rfl N (.seq .no (.seq .no (.seq (.seq .no (.block (.loop joW .no))) .no))) _
def jI (N:Nat) (a:Int):Z12:=
 (bif decide ((65:Int)<=a)then bif decide (a<=90)then some (IntKind.u8.wrap ((IntKind.u8.wrap (a+97))-65))else(some a)else some a)
theorem jmu :mK 246 (bX [.pv (.int .u8)] [.pv (.int .u8)] (c1A (jI N))):=
 mO ja func246 rfl N .no _
def jpB :Sh:=⟨pS:: .dead:: .dead:: .own 600003 Y7 233 true::pI::dz 57 [],[]⟩
def jo6 :Sh:=⟨pS:: .dead:: .dead:: .own 600003 Y7 233 true::pI:: .box 5 0:: .own 600006 (.int .u8) 5 true::dz 55 [],[(5,false,[pS,pI,pI,pI])]⟩
def jct (o:List UInt8):Option ((List Z11)):=
 (oB (jaF N o) fun r=>bif !r then some ([]:List Z11)else iter (fun l (j,i,d)=>bif decide (d<(j.length:Int))then oB (idx j d) fun u=>(oB (jI N (u.toNat:Int)) fun x=>oB (jaw N x) fun z=>bif !z then if fits (d+1)then l (j,i,(d+1))else none else iter (fun q (c,e,a,b,p,f,h,m)=>bif decide (a<(c.length:Int))then oB (idx c a) fun y=>(oB (jI N (y.toNat:Int)) fun t=>oB (jaw N t) fun v=>bif v then bif decide ((b.length:Int)<12)then oB (idx c a) fun w=>(oB (jI N (w.toNat:Int)) fun n=>if room b.length ([n]:List Int).length 1 then if fits (a+1)then q (c,e,(a+1),(b++([n]:List Int)),p,f,h,m)else none else none)else(if fits (a+1)then q (c,e,(a+1),b,p,f,h,m)else none)else if room e.length ([((bytesOf b),f,h,a)]:List Z11).length 40 then l (c,(e++([((bytesOf b),f,h,a)]:List Z11)),a)else none)else if room e.length ([((bytesOf b),f,h,a)]:List Z11).length 40 then l (c,(e++([((bytesOf b),f,h,a)]:List Z11)),a)else none) N (j,i,d,([]:List Int),([]:List UInt8),(i.length:Int),d,(0:Int)))else some i) N (o,([]:List Z11),(0:Int)))
theorem jqc :mK 198 (bX [pS] [.own 1 Y7 233 true] (c1A (jct N))):=
 mO (fC (jdK N) (fC (jmu N) (fC (jeK N) ja))) func198 rfl N (.seq .no (.seq .no (.seq .no (.seq (.seq .no (.block (.loop jpB (.seq .no (.block (.seq .no (.seq .no (.seq .no (.seq (.block (.loop jo6 .no)) .no))))))))) .no)))) _
def jty :Sh:=⟨.dead:: .pv Y13::pI:: .box 3 0::dz 3 (.pv (.opt Y16)::dz 8 (pI::pI::dz 73 [])),[(3,false,[.pv (.sl .str),.pv Y14])]⟩
def jss :Sh:=⟨.dead:: .pv Y13::pI:: .box 3 0::dz 3 (.pv (.opt Y16):: .dead:: .ptr Y16::pB::dz 5 (pI::pI::dz 31 (pB::dz 4 (.pv (.sl .str)::pI::pI::dz 34 [])))),[(3,false,[.pv (.sl .str),.pv Y14])]⟩
def jbH (c:List Z1) (c2:List Z6) (terms:Z9) (at0:Int):Option ((Option Z6)):=
 (iter (fun go (terms2,at02,best,t16,t17,c3,c4)=>bif decide (t17<t16)then oB (idx c4 t17) fun e=>(if fits ((terms2.length:Int)-at02)then bif decide (((terms2.length:Int)-at02)<(e.1.length:Int))then if fits (t17+1)then go (terms2,at02,best,t16,(t17+1),c3,c4)else none else(bif !(Option.isNone best)then oB best fun p=>(bif decide ((e.1.length:Int)<=(p.1.length:Int))then if fits (t17+1)then go (terms2,at02,best,t16,(t17+1),c3,c4)else none else iter (fun go2 (terms3,at03,best2,r,fits0,t162,t172,t49,t54,t55,t56,c5,c6)=>bif decide (t56<t55)then oB (idx t54 t56) fun e2=>(if fits (at03+t56)then oB (idx terms3 (at03+t56)) fun e3=>(bif fits0 then bif decide (e3.1=e2)then oB (idx terms3 at03) fun e4=>(if fits (e4.2+t56)then if fits (t56+1)then go2 (terms3,at03,best2,r,(decide (e3.2=(e4.2+t56))),t162,t172,t49,t54,t55,(t56+1),c5,c6)else none else none)else(if fits (t56+1)then go2 (terms3,at03,best2,r,false,t162,t172,t49,t54,t55,(t56+1),c5,c6)else none)else if fits (t56+1)then go2 (terms3,at03,best2,r,false,t162,t172,t49,t54,t55,(t56+1),c5,c6)else none)else none)else bif fits0 then if fits (t172+1)then go (terms3,at03,(some r),t162,(t172+1),c5,c6)else none else if fits (t172+1)then go (terms3,at03,best2,t162,(t172+1),c5,c6)else none) N (terms2,at02,best,e,true,t16,t17,(decide ((e.1.length:Int)<=(p.1.length:Int))),e.1,(e.1.length:Int),(0:Int),c3,c4))else iter (fun go3 (terms4,at04,best3,r2,fits02,t163,t173,t492,t542,t552,t562,c7,c8)=>bif decide (t562<t552)then oB (idx t542 t562) fun e5=>(if fits (at04+t562)then oB (idx terms4 (at04+t562)) fun e6=>(bif fits02 then bif decide (e6.1=e5)then oB (idx terms4 at04) fun e7=>(if fits (e7.2+t562)then if fits (t562+1)then go3 (terms4,at04,best3,r2,(decide (e6.2=(e7.2+t562))),t163,t173,t492,t542,t552,(t562+1),c7,c8)else none else none)else(if fits (t562+1)then go3 (terms4,at04,best3,r2,false,t163,t173,t492,t542,t552,(t562+1),c7,c8)else none)else if fits (t562+1)then go3 (terms4,at04,best3,r2,false,t163,t173,t492,t542,t552,(t562+1),c7,c8)else none)else none)else bif fits02 then if fits (t173+1)then go (terms4,at04,(some r2),t163,(t173+1),c7,c8)else none else if fits (t173+1)then go (terms4,at04,best3,t163,(t173+1),c7,c8)else none) N (terms2,at02,best,e,true,t16,t17,false,e.1,(e.1.length:Int),(0:Int),c3,c4))else none)else some best) N (terms,at0,(none:Option Z6),(c2.length:Int),(0:Int),c,c2))
theorem jtv :mK 199 (bX [.agg [.pv (.sl .str),.pv Y14],.pv Y13,pI] [.pv (.opt Y16)] (c4A (jbH N))):=
 mO ja func199 rfl N (.seq .no (.seq .no (.seq (.seq .no (.block (.loop jty (.seq .no (.seq .no (.seq (.block (.seq .no (.seq .no (.seq .no (.seq .no (.seq (.seq .no (.block (.loop jss .no))) .no)))))) .no)))))) .no))) _
def jlW :Sh:=⟨.dead:: .dead:: .box 2 0:: .dead:: .dead:: .own 600005 Y15 162 true:: .own 600006 Y15 162 true::dz 17 (.own 600024 Y7 233 true::pI::pI::dz 67 []),[(2,false,[.pv (.sl .str),.pv Y14])]⟩
def jnt :Sh:=⟨.dead:: .dead:: .box 2 0:: .dead:: .dead:: .own 600005 Y15 162 true:: .own 600006 Y15 162 true::dz 3 (pI::dz 83 []),[(2,false,[.pv (.sl .str),.pv Y14])]⟩
def jbw (t:List Z1) (A:List Z6) (u:List UInt8):Option (Z10):=
 (oB (jaj N t A) fun C=>bif !C then some ([]:Z9)else oB (jaF N u) fun G=>bif !G then some ([]:Z9)else oB (jct N u) fun B=>iter (fun o (i,e,j,l,b,c,h)=>bif decide (b<l)then oB (idx j b) fun k=>(oB (jaB N k.1) fun m=>oB (jao N c k.1) fun E=>bif !E then oB (jao N c m) fun D=>(bif !D then if room e.length ([(m,k.2.1)]:Z9).length 24 then if fits (b+1)then o (i,(e++([(m,k.2.1)]:Z9)),j,l,(b+1),c,h)else none else none else if fits (b+1)then o (i,e,j,l,(b+1),c,h)else none)else if fits (b+1)then o (i,e,j,l,(b+1),c,h)else none)else iter (fun w (f,d,a,q,p)=>bif decide (a<(d.length:Int))then oB (jbH N q p d a) fun r=>(bif Option.isNone r then oB (idx d a) fun v=>(if room f.length ([v]:Z9).length 24 then if fits (a+1)then w ((f++([v]:Z9)),d,(a+1),q,p)else none else none)else oB r fun y=>oB (idx d a) fun x=>if room f.length ([(y.2,x.2)]:Z9).length 24 then oB r fun z=>(if fits (a+(z.1.length:Int))then w ((f++([(y.2,x.2)]:Z9)),d,(a+(z.1.length:Int)),q,p)else none)else none)else some f) N (i,e,(0:Int),c,h)) N (([]:Z9),([]:Z9),B,(B.length:Int),(0:Int),t,A))
theorem jgO :mK 121 (bX [.agg [.pv (.sl .str),.pv Y14],pS] [.own 1 Y15 162 true] (c3A (jbw N))):=
 mO (fC (jdX N) (fC (jdK N) (fC (jqc N) (fC (jio N) (fC (jh5 N) (fC (jtv N) ja)))))) func121 rfl N (.seq .no (.seq .no (.seq .no (.seq .no (.seq (.seq .no (.block (.loop jlW .no))) (.seq (.seq .no (.block (.loop jnt .no))) .no)))))) _
def k__loop_example_fossick_impl_Seg_put_1_m (N:Nat) (b:List UInt8) (a:List UInt8) (e:Z5) (d:List UInt8) (c:Z1×Int):Z8:=
 (bif decide (b=d)then some (decide (a=c.1))else some false)
theorem jmw :mK 201 (bX [.agg [pS,pS,.pv Y11],.ptr .str,.ptr Y15] [pB] (c5A (k__loop_example_fossick_impl_Seg_put_1_m N))):=
 mO ja func201 rfl N .no _
def jnc :Sh:=⟨.pv Y5:: .clo 201 [.ptr .str,.ptr Y15]::dz 5 (pI::pI::dz 10 []),[]⟩
def k_slices_IndexFunc_146_m (e:List Z2) (j:Z1×Z1×Int):Z12:=
 (iter (fun i (f,c,d,a)=>bif decide (a<d)then oB (idx f a) fun b=>(oB (k__loop_example_fossick_impl_Seg_put_1_m N b.1 b.2.1 b.2.2 c.1 c.2) fun h=>bif h then some a else if fits (a+1)then i (f,c,d,(a+1))else none)else some (-1)) N (e,j,(e.length:Int),(0:Int)))
theorem jrl :mK 200 (bX [.pv Y5,.clo 201 [.ptr .str,.ptr Y15]] [pI] (c2A (k_slices_IndexFunc_146_m N))):=
 mO (fC (jmw N) ja) func200 rfl N (.seq .no (.seq (.seq .no (.block (.loop jnc .no))) .no)) _
def i_Seg_put_m (h:List UInt8) (f:List UInt8) (i:Int) (e:Int) (q:List Z0) (a:List Z2):Option ((List Z0)×(List Z2)):=
 (oB (k_slices_IndexFunc_146_m N a (h,f,i)) fun d=>bif decide (d<0)then if room a.length ([(h,f,([]:Z5))]:List Z2).length 56 then if 0<=(a.length:Int)/\(a.length:Int)<((a++([(h,f,([]:Z5))]:List Z2)).length:Int)then oB ((a++([(h,f,([]:Z5))]:List Z2))[(a.length:Int).toNat]?) fun b=>(if fits ((b.2.2.length:Int)-1)then bif decide (((b.2.2.length:Int)-1)<0)then oB ((a++([(h,f,([]:Z5))]:List Z2))[(a.length:Int).toNat]?) fun aj=>(if(a.length:Int).toNat=(a.length:Int).toNat then if room b.2.2.length ([(e,([]:List Int))]:Z5).length 32 then if(a.length:Int).toNat=(a.length:Int).toNat then oB ((a++([(h,f,([]:Z5))]:List Z2))[(a.length:Int).toNat]?) fun l=>(if fits (((b.2.2.length:Int)-1)+1)then oB (((a++([(h,f,([]:Z5))]:List Z2)).set (a.length:Int).toNat (l.1,l.2.1,(b.2.2++([(e,([]:List Int))]:Z5))))[(a.length:Int).toNat]?) fun p=>(oB (p.2.2[(((b.2.2.length:Int)-1)+1).toNat]?) fun B=>oB (((a++([(h,f,([]:Z5))]:List Z2)).set (a.length:Int).toNat (l.1,l.2.1,(b.2.2++([(e,([]:List Int))]:Z5))))[(a.length:Int).toNat]?) fun W=>if(a.length:Int).toNat=(a.length:Int).toNat then oB (((a++([(h,f,([]:Z5))]:List Z2)).set (a.length:Int).toNat (l.1,l.2.1,(b.2.2++([(e,([]:List Int))]:Z5))))[(a.length:Int).toNat]?) fun ab=>(if(a.length:Int).toNat=(a.length:Int).toNat then if 0<=(((b.2.2.length:Int)-1)+1)/\(((b.2.2.length:Int)-1)+1)<(p.2.2.length:Int)then oB (p.2.2[(((b.2.2.length:Int)-1)+1).toNat]?) fun ap=>(if(((b.2.2.length:Int)-1)+1).toNat=(((b.2.2.length:Int)-1)+1).toNat then if room B.2.length ([i]:List Int).length 8 then if 0<=(((b.2.2.length:Int)-1)+1)/\(((b.2.2.length:Int)-1)+1)<(p.2.2.length:Int)then if(((b.2.2.length:Int)-1)+1).toNat=(((b.2.2.length:Int)-1)+1).toNat then oB (p.2.2[(((b.2.2.length:Int)-1)+1).toNat]?) fun Q=>(some (q,(((a++([(h,f,([]:Z5))]:List Z2)).set (a.length:Int).toNat (l.1,l.2.1,(b.2.2++([(e,([]:List Int))]:Z5)))).modify ((a.length:Int).toNat) fun E=>(E.1,E.2.1,(p.2.2.set (((b.2.2.length:Int)-1)+1).toNat (Q.1,(B.2++([i]:List Int))))))))else none else none else none else none)else none else none)else none)else none)else none else none else none)else(oB ((a++([(h,f,([]:Z5))]:List Z2))[(a.length:Int).toNat]?) fun al=>if(a.length:Int).toNat=(a.length:Int).toNat then if 0<=((b.2.2.length:Int)-1)/\((b.2.2.length:Int)-1)<(b.2.2.length:Int)then oB (b.2.2[((b.2.2.length:Int)-1).toNat]?) fun O=>(bif !decide (O.1=e)then oB ((a++([(h,f,([]:Z5))]:List Z2))[(a.length:Int).toNat]?) fun R=>(if(a.length:Int).toNat=(a.length:Int).toNat then if room b.2.2.length ([(e,([]:List Int))]:Z5).length 32 then if(a.length:Int).toNat=(a.length:Int).toNat then oB ((a++([(h,f,([]:Z5))]:List Z2))[(a.length:Int).toNat]?) fun m=>(if fits (((b.2.2.length:Int)-1)+1)then oB (((a++([(h,f,([]:Z5))]:List Z2)).set (a.length:Int).toNat (m.1,m.2.1,(b.2.2++([(e,([]:List Int))]:Z5))))[(a.length:Int).toNat]?) fun n=>(oB (n.2.2[(((b.2.2.length:Int)-1)+1).toNat]?) fun z=>oB (((a++([(h,f,([]:Z5))]:List Z2)).set (a.length:Int).toNat (m.1,m.2.1,(b.2.2++([(e,([]:List Int))]:Z5))))[(a.length:Int).toNat]?) fun aq=>if(a.length:Int).toNat=(a.length:Int).toNat then oB (((a++([(h,f,([]:Z5))]:List Z2)).set (a.length:Int).toNat (m.1,m.2.1,(b.2.2++([(e,([]:List Int))]:Z5))))[(a.length:Int).toNat]?) fun S=>(if(a.length:Int).toNat=(a.length:Int).toNat then if 0<=(((b.2.2.length:Int)-1)+1)/\(((b.2.2.length:Int)-1)+1)<(n.2.2.length:Int)then oB (n.2.2[(((b.2.2.length:Int)-1)+1).toNat]?) fun ag=>(if(((b.2.2.length:Int)-1)+1).toNat=(((b.2.2.length:Int)-1)+1).toNat then if room z.2.length ([i]:List Int).length 8 then if 0<=(((b.2.2.length:Int)-1)+1)/\(((b.2.2.length:Int)-1)+1)<(n.2.2.length:Int)then if(((b.2.2.length:Int)-1)+1).toNat=(((b.2.2.length:Int)-1)+1).toNat then oB (n.2.2[(((b.2.2.length:Int)-1)+1).toNat]?) fun H=>(some (q,(((a++([(h,f,([]:Z5))]:List Z2)).set (a.length:Int).toNat (m.1,m.2.1,(b.2.2++([(e,([]:List Int))]:Z5)))).modify ((a.length:Int).toNat) fun u=>(u.1,u.2.1,(n.2.2.set (((b.2.2.length:Int)-1)+1).toNat (H.1,(z.2++([i]:List Int))))))))else none else none else none else none)else none else none)else none)else none)else none else none else none)else if(a.length:Int).toNat=(a.length:Int).toNat then oB (b.2.2[((b.2.2.length:Int)-1).toNat]?) fun C=>(oB ((a++([(h,f,([]:Z5))]:List Z2))[(a.length:Int).toNat]?) fun am=>if(a.length:Int).toNat=(a.length:Int).toNat then oB ((a++([(h,f,([]:Z5))]:List Z2))[(a.length:Int).toNat]?) fun V=>(if(a.length:Int).toNat=(a.length:Int).toNat then if 0<=((b.2.2.length:Int)-1)/\((b.2.2.length:Int)-1)<(b.2.2.length:Int)then oB (b.2.2[((b.2.2.length:Int)-1).toNat]?) fun T=>(if((b.2.2.length:Int)-1).toNat=((b.2.2.length:Int)-1).toNat then if room C.2.length ([i]:List Int).length 8 then if 0<=((b.2.2.length:Int)-1)/\((b.2.2.length:Int)-1)<(b.2.2.length:Int)then if((b.2.2.length:Int)-1).toNat=((b.2.2.length:Int)-1).toNat then oB (b.2.2[((b.2.2.length:Int)-1).toNat]?) fun I=>(some (q,((a++([(h,f,([]:Z5))]:List Z2)).modify ((a.length:Int).toNat) fun v=>(v.1,v.2.1,(b.2.2.set ((b.2.2.length:Int)-1).toNat (I.1,(C.2++([i]:List Int))))))))else none else none else none else none)else none else none)else none)else none)else none else none)else none)else none else none else if 0<=d/\d<(a.length:Int)then oB (a[d.toNat]?) fun c=>(if fits ((c.2.2.length:Int)-1)then bif decide (((c.2.2.length:Int)-1)<0)then oB (a[d.toNat]?) fun ad=>(if d.toNat=d.toNat then if room c.2.2.length ([(e,([]:List Int))]:Z5).length 32 then if d.toNat=d.toNat then oB (a[d.toNat]?) fun k=>(if fits (((c.2.2.length:Int)-1)+1)then oB ((a.set d.toNat (k.1,k.2.1,(c.2.2++([(e,([]:List Int))]:Z5))))[d.toNat]?) fun r=>(oB (r.2.2[(((c.2.2.length:Int)-1)+1).toNat]?) fun x=>oB ((a.set d.toNat (k.1,k.2.1,(c.2.2++([(e,([]:List Int))]:Z5))))[d.toNat]?) fun ai=>if d.toNat=d.toNat then oB ((a.set d.toNat (k.1,k.2.1,(c.2.2++([(e,([]:List Int))]:Z5))))[d.toNat]?) fun an=>(if d.toNat=d.toNat then if 0<=(((c.2.2.length:Int)-1)+1)/\(((c.2.2.length:Int)-1)+1)<(r.2.2.length:Int)then oB (r.2.2[(((c.2.2.length:Int)-1)+1).toNat]?) fun ae=>(if(((c.2.2.length:Int)-1)+1).toNat=(((c.2.2.length:Int)-1)+1).toNat then if room x.2.length ([i]:List Int).length 8 then if 0<=(((c.2.2.length:Int)-1)+1)/\(((c.2.2.length:Int)-1)+1)<(r.2.2.length:Int)then if(((c.2.2.length:Int)-1)+1).toNat=(((c.2.2.length:Int)-1)+1).toNat then oB (r.2.2[(((c.2.2.length:Int)-1)+1).toNat]?) fun K=>(some (q,((a.set d.toNat (k.1,k.2.1,(c.2.2++([(e,([]:List Int))]:Z5)))).modify d.toNat fun t=>(t.1,t.2.1,(r.2.2.set (((c.2.2.length:Int)-1)+1).toNat (K.1,(x.2++([i]:List Int))))))))else none else none else none else none)else none else none)else none)else none)else none else none else none)else(oB (a[d.toNat]?) fun U=>if d.toNat=d.toNat then if 0<=((c.2.2.length:Int)-1)/\((c.2.2.length:Int)-1)<(c.2.2.length:Int)then oB (c.2.2[((c.2.2.length:Int)-1).toNat]?) fun G=>(bif !decide (G.1=e)then oB (a[d.toNat]?) fun ac=>(if d.toNat=d.toNat then if room c.2.2.length ([(e,([]:List Int))]:Z5).length 32 then if d.toNat=d.toNat then oB (a[d.toNat]?) fun j=>(if fits (((c.2.2.length:Int)-1)+1)then oB ((a.set d.toNat (j.1,j.2.1,(c.2.2++([(e,([]:List Int))]:Z5))))[d.toNat]?) fun o=>(oB (o.2.2[(((c.2.2.length:Int)-1)+1).toNat]?) fun y=>oB ((a.set d.toNat (j.1,j.2.1,(c.2.2++([(e,([]:List Int))]:Z5))))[d.toNat]?) fun ak=>if d.toNat=d.toNat then oB ((a.set d.toNat (j.1,j.2.1,(c.2.2++([(e,([]:List Int))]:Z5))))[d.toNat]?) fun X=>(if d.toNat=d.toNat then if 0<=(((c.2.2.length:Int)-1)+1)/\(((c.2.2.length:Int)-1)+1)<(o.2.2.length:Int)then oB (o.2.2[(((c.2.2.length:Int)-1)+1).toNat]?) fun aa=>(if(((c.2.2.length:Int)-1)+1).toNat=(((c.2.2.length:Int)-1)+1).toNat then if room y.2.length ([i]:List Int).length 8 then if 0<=(((c.2.2.length:Int)-1)+1)/\(((c.2.2.length:Int)-1)+1)<(o.2.2.length:Int)then if(((c.2.2.length:Int)-1)+1).toNat=(((c.2.2.length:Int)-1)+1).toNat then oB (o.2.2[(((c.2.2.length:Int)-1)+1).toNat]?) fun P=>(some (q,((a.set d.toNat (j.1,j.2.1,(c.2.2++([(e,([]:List Int))]:Z5)))).modify d.toNat fun A=>(A.1,A.2.1,(o.2.2.set (((c.2.2.length:Int)-1)+1).toNat (P.1,(y.2++([i]:List Int))))))))else none else none else none else none)else none else none)else none)else none)else none else none else none)else if d.toNat=d.toNat then oB (c.2.2[((c.2.2.length:Int)-1).toNat]?) fun D=>(oB (a[d.toNat]?) fun ah=>if d.toNat=d.toNat then oB (a[d.toNat]?) fun af=>(if d.toNat=d.toNat then if 0<=((c.2.2.length:Int)-1)/\((c.2.2.length:Int)-1)<(c.2.2.length:Int)then oB (c.2.2[((c.2.2.length:Int)-1).toNat]?) fun ao=>(if((c.2.2.length:Int)-1).toNat=((c.2.2.length:Int)-1).toNat then if room D.2.length ([i]:List Int).length 8 then if 0<=((c.2.2.length:Int)-1)/\((c.2.2.length:Int)-1)<(c.2.2.length:Int)then if((c.2.2.length:Int)-1).toNat=((c.2.2.length:Int)-1).toNat then oB (c.2.2[((c.2.2.length:Int)-1).toNat]?) fun L=>(some (q,(a.modify d.toNat fun w=>(w.1,w.2.1,(c.2.2.set ((c.2.2.length:Int)-1).toNat (L.1,(D.2++([i]:List Int))))))))else none else none else none else none)else none else none)else none)else none)else none else none)else none)else none)
theorem jky :mK 122 ⟨⟨[.box 900000 0,pS,.agg [pS,pI],pI],[(900000,false,[.tre 850000 Y4 95,.tre 850001 Y6 167])]⟩,⟨[.tup []],[(900000,false,[.tre 850000 Y4 95,.tre 1 Y6 167])]⟩,c6A (i_Seg_put_m N)⟩:=
 mO (fC (jrl N) ja) func122 rfl N (.seq .no (.seq .no (.seq .no (.seq .no (.seq .no (.seq .no (.touch [.out 9 [(2,79,241,10),(1,88,3,0)]]))))))) _ (wr:=[33,34,70,71,91,92]) (rs:=[900000,850000,850001]) (dw:=[16,33,70])
noncomputable def jaS (N:Nat) (a:List Z2) (b:Unit):Option (List Z2):=jWO a
 
noncomputable def jjA (N:Nat):Model:=⟨⟨[.tre 800000 Y6 167,.clo 124 []],[]⟩,⟨[.tup [],.tre 800000 Y6 167],[]⟩,c2A (jaS N)⟩
theorem jtu :mK 123 (jjA N):=jW9
def jmK :Sh:=⟨.dead:: .dead:: .box 2 0:: .dead:: .box 4 0:: .box 5 0::dz 19 (.pv Y3::pI::pI::dz 32 []),[(2,false,[.pv (.sl .str),.pv Y14]),(4,false,[.nils,.nils]),(5,false,[.tre 700500 Y4 95,.tre 700501 Y6 167])]⟩
def jor :Sh:=⟨.dead:: .dead:: .box 2 0:: .dead:: .box 4 0:: .box 5 0:: .dead:: .box 7 0::dz 17 (.pv Y3::pI::pI::dz 4 (.pv Y17::pI::pI::dz 25 [])),[(2,false,[.pv (.sl .str),.pv Y14]),(4,false,[.nils,.nils]),(5,false,[.tre 700500 Y4 95,.tre 700501 Y6 167]),(7,false,[pI,.pv Y17,.pv Y13])]⟩
def jnj :Sh:=⟨.dead:: .dead:: .box 2 0:: .dead:: .box 4 0:: .box 5 0:: .dead:: .box 7 0:: .dead:: .box 9 0::dz 15 (.pv Y3::pI::pI::dz 4 (.pv Y17::pI::pI::dz 6 (.own 600041 Y15 162 true::pI::pI::dz 16 []))),[(2,false,[.pv (.sl .str),.pv Y14]),(4,false,[.nils,.nils]),(5,false,[.tre 700500 Y4 95,.tre 700501 Y6 167]),(7,false,[pI,.pv Y17,.pv Y13]),(9,false,[pS,pS])]⟩
noncomputable def jbT (c:List Z1) (c2:List Z6) (docs:List Z0):Option ((List Z0)×(List Z2)):=
 (oB (jaj N c c2) fun r=>bif !r then some (([]:List Z0),([]:List Z2))else oB (jbf N docs) fun r2=>bif !r2 then some (([]:List Z0),([]:List Z2))else oB (jbV N docs) fun r3=>iter (fun go (t25,t26,t27,c3,c4,s,s2)=>bif decide (t27<t26)then oB (idx t25 t27) fun e=>(iter (fun go2 (t252,t262,t272,t32,t33,t34,c5,c6,s3,s4,d,d2,d3)=>bif decide (t34<t33)then oB (idx t32 t34) fun e2=>(oB (jbw N c5 c6 e2.2) fun r4=>iter (fun go3 (t253,t263,t273,t322,t332,t342,t41,t42,t43,c7,c8,s5,s6,d4,d5,d6,f,f2)=>bif decide (t43<t42)then oB (idx t41 t43) fun e3=>(oB (i_Seg_put_m N f e3.1 e3.2 d4 s5 s6) fun r5=>if fits (t43+1)then go3 (t253,t263,t273,t322,t332,t342,t41,t42,(t43+1),c7,c8,r5.1,r5.2,d4,d5,d6,f,f2)else none)else if fits (t342+1)then go2 (t253,t263,t273,t322,t332,(t342+1),c7,c8,s5,s6,d4,d5,d6)else none) N (t252,t262,t272,t32,t33,t34,r4,(r4.length:Int),(0:Int),c5,c6,s3,s4,d,d2,d3,e2.1,e2.2))else if fits (t272+1)then go (t252,t262,(t272+1),c5,c6,s3,s4)else none) N (t25,t26,t27,e.2.1,(e.2.1.length:Int),(0:Int),c3,c4,s,s2,e.1,e.2.1,e.2.2))else oB (jaS N s2 ()) fun r6=>some (s,r6)) N (docs,(docs.length:Int),(0:Int),c,c2,r3,([]:List Z2)))
theorem jqC :mK 51 (bX [.agg [.pv (.sl .str),.pv Y14],.pv Y3] [.agg [.own 1 Y4 95 true,.own 2 Y6 167 true]] (c3A (jbT N))):=
 mO (fC (jdX N) (fC (jjU N) (fC (joC N) (fC (jgO N) (fC (jky N) (fC (jtu N) ja)))))) func51 rfl N (.seq .no (.seq .no (.seq .no (.seq (.seq .no (.block (.loop jmK (.seq .no (.seq .no (.seq (.block (.seq .no (.seq .no (.block (.loop jor (.seq .no (.seq .no (.seq (.block (.seq .no (.seq .no (.block (.loop jnj .no))))) .no)))))))) .no)))))) .no)))) _ (wr:=[23]) (dw:=[22,23])
def jtB :Sh:=⟨.pv Y19:: .pv Y19::dz 10 (pI::pI::dz 12 []),[]⟩
def jbX (b:List Int) (d:List Int):Z8:=
 (bif !decide ((b.length:Int)=(d.length:Int))then some false else iter (fun i (f,c,e,a)=>bif decide (a<e)then oB (idx f a) fun j=>(oB (idx c a) fun h=>bif !decide (j=h)then some false else if fits (a+1)then i (f,c,e,(a+1))else none)else some true) N (b,d,(b.length:Int),(0:Int)))
theorem jqi :mK 318 (bX [.pv Y19,.pv Y19] [pB] (c2A (jbX N))):=
 mO ja func318 rfl N (.seq .no (.seq .no (.seq (.seq .no (.block (.loop jtB .no))) .no))) _
def jcp (c:Int) (b:List Int) (d:Int) (e:List Int):Z8:=
 (bif decide (c=d)then oB (jbX N b e) fun a=>(some a)else some false)
theorem jth :mK 270 (bX [.agg [pI,.pv Y19],.agg [pI,.pv Y19]] [pB] (c4A (jcp N))):=
 mO (fC (jqi N) ja) func270 rfl N .no _
def jlX :Sh:=⟨.dead:: .pv Y11:: .clo 270 []::dz 12 (.pv Y11::pI::pI::dz 14 []),[]⟩
def jb6 (b:Z5) (h:Z5) (n:Unit):Z8:=
 (bif !decide ((b.length:Int)=(h.length:Int))then some false else iter (fun k (f,m,d,i,a)=>bif decide (a<i)then oB (idx d a) fun e=>(oB (idx f a) fun c=>oB (jcp N e.1 e.2 c.1 c.2) fun j=>bif !j then some false else if fits (a+1)then k (f,(),d,i,(a+1))else none)else some true) N (h,(),b,(b.length:Int),(0:Int)))
theorem jnG :mK 269 (bX [.pv Y11,.pv Y11,.clo 270 []] [pB] (c3A (jb6 N))):=
 mO (fC (jth N) ja) func269 rfl N (.seq .no (.seq .no (.seq (.seq .no (.block (.loop jlX .no))) .no))) _
def jcz (h:List UInt8) (b:List UInt8) (c:Z5) (e:List UInt8) (f:List UInt8) (d:Z5):Z8:=
 (bif decide (h=e)then bif decide (b=f)then oB (jb6 N c d ()) fun a=>(some a)else(some false)else some false)
theorem jp4 :mK 219 (bX [.agg [pS,pS,.pv Y11],.agg [pS,pS,.pv Y11]] [pB] (c6A (jcz N))):=
 mO (fC (jnG N) ja) func219 rfl N .no _
def jlD :Sh:=⟨.dead:: .pv Y5:: .clo 219 []::dz 12 (.pv Y5::pI::pI::dz 14 []),[]⟩
def jcn (d:List Z2) (h:List Z2) (n:Unit):Z8:=
 (bif !decide ((d.length:Int)=(h.length:Int))then some false else iter (fun k (f,m,e,i,a)=>bif decide (a<i)then oB (idx e a) fun c=>(oB (idx f a) fun b=>oB (jcz N c.1 c.2.1 c.2.2 b.1 b.2.1 b.2.2) fun j=>bif !j then some false else if fits (a+1)then k (f,(),e,i,(a+1))else none)else some true) N (h,(),d,(d.length:Int),(0:Int)))
theorem jsa :mK 218 (bX [.pv Y5,.pv Y5,.clo 219 []] [pB] (c3A (jcn N))):=
 mO (fC (jp4 N) ja) func218 rfl N (.seq .no (.seq .no (.seq (.seq .no (.block (.loop jlD .no))) .no))) _
noncomputable def jbN (a:List Z1) (c:List Z6) (b:List Z0) (h:List Z2):Z8:=
 (oB (jaj N a c) fun d=>bif !d then some false else oB (jbf N b) fun f=>bif !f then some false else oB (jbT N a c b) fun i=>oB (jcn N i.2 h ()) fun e=>some e)
theorem joa :mK 149 (bX [.agg [.pv (.sl .str),.pv Y14],.agg [.pv Y3,.pv Y5]] [pB] (c4A (jbN N))):=
 mO (fC (jdX N) (fC (jjU N) (fC (jqC N) (fC (jsa N) ja)))) func149 rfl N .no _
def jDT :Sh:=⟨.pv Y19::dz 4 (.pv Y19::pI::pI::dz 24 []),[]⟩
def jx1 (c:List Int):Z8:=
 (iter (fun f (b,e,d,a)=>bif decide (a<d)then oB (idx e a) fun h=>(oB (jm N h 0 999999999) fun i=>bif !i then some false else bif decide ((0:Int)<a)then if fits (a-1)then oB (idx b (a-1)) fun j=>(bif decide (h<=j)then some false else if fits (a+1)then f (b,e,d,(a+1))else none)else none else if fits (a+1)then f (b,e,d,(a+1))else none)else some (decide ((b.length:Int)<=60))) N (c,c,(c.length:Int),(0:Int)))
theorem jAN :mK 150 (bX [.pv Y19] [pB] (c1A (jx1 N))):=
 mO (fC (jY N) ja) func150 rfl N (.seq .no (.seq (.seq .no (.block (.loop jDT .no))) .no)) _
def jqv :Sh:=⟨.dead::pI:: .dead:: .dead:: .box 4 0::dz 6 (.pv Y3::pI::pI::dz 10 []),[(4,false,[pI,.nils,.nils])]⟩
def i_Seg_doc_m (d:(List Z0)×(List Z2)) (h:Int):Option (Int×Z7×Z10×Bool):=
 (iter (fun i (e,c,f,b,j)=>bif decide (b<f)then oB (idx c b) fun a=>(bif decide (a.1=e)then some (a.1,a.2.1,a.2.2,true)else if fits (b+1)then i (e,c,f,(b+1),j)else none)else some (0,([]:Z4),([]:Z9),false)) N (h,d.1,(d.1.length:Int),(0:Int),(0:Int)))
theorem jlU :mK 151 (bX [.ptr Y2,pI] [.tup [.agg [pI,.pv Y17,.pv Y13],pB]] (c2A (i_Seg_doc_m N))):=
 mO ja func151 rfl N (.seq .no (.seq (.seq .no (.block (.loop jqv .no))) .no)) _
def jIP :Sh:=⟨.pv Y19::pI::dz 5 (pI::pI::dz 10 []),[]⟩
def k_slices_Index_484_m (c:List Int) (h:Int):Z12:=
 (iter (fun f (d,e,b,a)=>bif decide (a<b)then oB (idx d a) fun i=>(bif decide (e=i)then some a else if fits (a+1)then f (d,e,b,(a+1))else none)else some (-1)) N (c,h,(c.length:Int),(0:Int)))
theorem jJu :mK 271 (bX [.pv Y19,pI] [pI] (c2A (k_slices_Index_484_m N))):=
 mO ja func271 rfl N (.seq .no (.seq (.seq .no (.block (.loop jIP .no))) .no)) _
def k_slices_Contains_735_m (c:List Int) (b:Int):Z8:=
 (oB (k_slices_Index_484_m N c b) fun a=>some (decide ((0:Int)<=a)))
theorem jIT :mK 220 (bX [.pv Y19,pI] [pB] (c2A (k_slices_Contains_735_m N))):=
 mO (fC (jJu N) ja) func220 rfl N .no _
def jIi :Sh:=⟨.dead:: .box 1 0:: .dead:: .own 600003 Y4 95 false::dz 5 (.pv Y3::pI::pI::dz 15 []),[(1,false,[.pv Y3,.pv Y5,.pv Y19])]⟩
def i_Live_alive_m (h:List Z0) (n:List Z2) (m:List Int):Z14:=
 (iter (fun i (b,c,d,a,j,k,e)=>bif decide (a<d)then oB (idx c a) fun f=>(oB (k_slices_Contains_735_m N e f.1) fun l=>bif !l then if room b.length ([f]:List Z0).length 56 then if fits (a+1)then i ((b++([f]:List Z0)),c,d,(a+1),j,k,e)else none else none else if fits (a+1)then i (b,c,d,(a+1),j,k,e)else none)else some b) N (([]:List Z0),h,(h.length:Int),(0:Int),h,n,m))
theorem jH4 :mK 152 (bX [.agg [.pv Y3,.pv Y5,.pv Y19]] [.own 1 Y4 95 false] (c3A (i_Live_alive_m N))):=
 mO (fC (jIT N) ja) func152 rfl N (.seq .no (.seq .no (.seq (.seq .no (.block (.loop jIi .no))) .no))) _
def jIO :Sh:=⟨dz 3 (.box 3 0::dz 17 (.pv Y19::pI::pI::dz 16 [])),[(3,true,[.pv Y3,.pv Y5,.pv Y19])]⟩
noncomputable def i_liveOk_m (m:List Z1) (r:List Z6) (j:List Z0) (h:List Z2) (a:List Int):Z8:=
 (oB (jbN N m r j h) fun k=>bif !k then some false else oB (jx1 N a) fun p=>bif !p then some false else iter (fun o (f,i,b,c,d,e)=>bif decide (b<i)then oB (idx f b) fun q=>(oB (i_Seg_doc_m N (c,d) q) fun t=>bif !t.2.2.2 then some false else if fits (b+1)then o (f,i,(b+1),c,d,e)else none)else oB (i_Live_alive_m N c d e) fun l=>some (decide ((0:Int)<l.length))) N (a,(a.length:Int),(0:Int),j,h,a))
theorem jJD :mK 72 (bX [.agg [.pv (.sl .str),.pv Y14],.agg [.pv Y3,.pv Y5,.pv Y19]] [pB] (c5A (i_liveOk_m N))):=
 mO (fC (joa N) (fC (jAN N) (fC (jlU N) (fC (jH4 N) ja)))) func72 rfl N (.seq .no (.seq .no (.seq (.seq .no (.block (.loop jIO .no))) .no))) _
def jl0 :Sh:=⟨.pv (.int .u64):: .dead::pI::dz 22 [],[]⟩
def k_math_bits_Len64_m (N:Nat) (b:Int):Z12:=
 (meet (fun(a:Int×Int)=>match a with|(d,e)=>meet (fun(a:Int×Int)=>match a with|(c,f)=>meet (fun(a:Int×Int)=>match a with|(m,k)=>oB (idx ([0,1,2,2,3,3,3,3,4,4,4,4,4,4,4,4,5,5,5,5,5,5,5,5,5,5,5,5,5,5,5,5,6,6,6,6,6,6,6,6,6,6,6,6,6,6,6,6,6,6,6,6,6,6,6,6,6,6,6,6,6,6,6,6,7,7,7,7,7,7,7,7,7,7,7,7,7,7,7,7,7,7,7,7,7,7,7,7,7,7,7,7,7,7,7,7,7,7,7,7,7,7,7,7,7,7,7,7,7,7,7,7,7,7,7,7,7,7,7,7,7,7,7,7,7,7,7,7,8,8,8,8,8,8,8,8,8,8,8,8,8,8,8,8,8,8,8,8,8,8,8,8,8,8,8,8,8,8,8,8,8,8,8,8,8,8,8,8,8,8,8,8,8,8,8,8,8,8,8,8,8,8,8,8,8,8,8,8,8,8,8,8,8,8,8,8,8,8,8,8,8,8,8,8,8,8,8,8,8,8,8,8,8,8,8,8,8,8,8,8,8,8,8,8,8,8,8,8,8,8,8,8,8,8,8,8,8,8,8,8,8,8,8,8,8,8,8,8,8,8,8,8,8,8,8,8]:List UInt8) (IntKind.u8.wrap m)) fun j=>if fits (k+(IntKind.i64.wrap (j.toNat:Int)))then some (k+(IntKind.i64.wrap (j.toNat:Int)))else none) fun i=>bif decide ((256:Int)<=c)then if 0<=(8:Int)then if fits (f+8)then i ((c.fdiv (2^(min (8:Int).toNat (IntKind.bits .u64)))),(f+8))else none else none else i (c,f)) fun l=>bif decide ((65536:Int)<=d)then if 0<=(16:Int)then if fits (e+16)then l ((d.fdiv (2^(min (16:Int).toNat (IntKind.bits .u64)))),(e+16))else none else none else l (d,e)) fun h=>bif decide ((4294967296:Int)<=b)then if 0<=(32:Int)then h ((b.fdiv (2^(min (32:Int).toNat (IntKind.bits .u64)))),32)else none else h (b,0))
theorem jrK :mK 256 (bX [.pv (.int .u64)] [pI] (c1A (k_math_bits_Len64_m N))):=
 mO ja func256 rfl N (.seq .no (.meet jl0 .no (.meet jl0 .no (.meet jl0 .no .no)))) _
def k_math_bits_Len_m (b:Int):Z12:=
 (oB (k_math_bits_Len64_m N b) fun a=>some a)
theorem jda :mK 203 (bX [.pv (.int .u64)] [pI] (c1A (k_math_bits_Len_m N))):=
 mO (fC (jrK N) ja) func203 rfl N .no _
def k_cmp_isNaN_538_m (N:Nat) (a:Int):Z8:=
 (some (!decide (a=a)))
theorem joK :mK 222 (bX [pI] [pB] (c1A (k_cmp_isNaN_538_m N))):=
 mO ja func222 rfl N .no _
def k_cmp_Compare_992_m (b:Int) (a:Int):Z12:=
 (oB (k_cmp_isNaN_538_m N b) fun d=>oB (k_cmp_isNaN_538_m N a) fun c=>bif d then bif c then some 0 else(some (-1))else bif c then some 1 else bif decide (b<a)then some (-1)else bif decide (a<b)then some 1 else some 0)
theorem jpP :mK 156 (bX [pI,pI] [pI] (c2A (k_cmp_Compare_992_m N))):=
 mO (fC (joK N) ja) func156 rfl N .no _
def i_allAlive_1_m (c:Int) (d:Z4) (e:Z9) (b:Int) (h:Z4) (f:Z9):Z12:=
 (oB (k_cmp_Compare_992_m N c b) fun a=>some a)
theorem jHC :mK 155 (bX [.agg [pI,.pv Y17,.pv Y13],.agg [pI,.pv Y17,.pv Y13]] [pI] (c6A (i_allAlive_1_m N))):=
 mO (fC (jpP N) ja) func155 rfl N .no _
def k_slices_nextPowerOfTwo_m (b:Int):Z12:=
 (oB (k_math_bits_Len_m N (IntKind.u64.wrap b)) fun a=>if 0<=a then some (IntKind.u64.wrap ((1:Int)*2^(min a.toNat (IntKind.bits .u64))))else none)
theorem jhv :mK 308 (bX [pI] [.pv (.int .u64)] (c1A (k_slices_nextPowerOfTwo_m N))):=
 mO (fC (jda N) ja) func308 rfl N .no _
def k__slices_xorshift_Next_m (N:Nat) (a:Int):Option (Int×Int):=
 (if 0<=(13:Int)then if 0<=(7:Int)then if 0<=(17:Int)then some ((bitsI .xor .u64 (bitsI .xor .u64 (bitsI .xor .u64 a (IntKind.u64.wrap (a*2^(min (13:Int).toNat (IntKind.bits .u64))))) ((bitsI .xor .u64 a (IntKind.u64.wrap (a*2^(min (13:Int).toNat (IntKind.bits .u64))))).fdiv (2^(min (7:Int).toNat (IntKind.bits .u64))))) (IntKind.u64.wrap ((bitsI .xor .u64 (bitsI .xor .u64 a (IntKind.u64.wrap (a*2^(min (13:Int).toNat (IntKind.bits .u64))))) ((bitsI .xor .u64 a (IntKind.u64.wrap (a*2^(min (13:Int).toNat (IntKind.bits .u64))))).fdiv (2^(min (7:Int).toNat (IntKind.bits .u64)))))*2^(min (17:Int).toNat (IntKind.bits .u64))))),(bitsI .xor .u64 (bitsI .xor .u64 (bitsI .xor .u64 a (IntKind.u64.wrap (a*2^(min (13:Int).toNat (IntKind.bits .u64))))) ((bitsI .xor .u64 a (IntKind.u64.wrap (a*2^(min (13:Int).toNat (IntKind.bits .u64))))).fdiv (2^(min (7:Int).toNat (IntKind.bits .u64))))) (IntKind.u64.wrap ((bitsI .xor .u64 (bitsI .xor .u64 a (IntKind.u64.wrap (a*2^(min (13:Int).toNat (IntKind.bits .u64))))) ((bitsI .xor .u64 a (IntKind.u64.wrap (a*2^(min (13:Int).toNat (IntKind.bits .u64))))).fdiv (2^(min (7:Int).toNat (IntKind.bits .u64)))))*2^(min (17:Int).toNat (IntKind.bits .u64))))))else none else none else none)
theorem jet :mK 309 ⟨⟨[.box 900000 0],[(900000,false,[.pv (.int .u64)])]⟩,⟨[.pv (.int .u64)],[(900000,false,[.pv (.int .u64)])]⟩,c1A (k__slices_xorshift_Next_m N)⟩:=
 mO ja func309 rfl N .no _ (rs:=[900000])
section
variable {α γ ρ : Type} (c : γ -> α -> α -> Option Int)
def swpG (d:List α) (i j:Int) (k:List α->Option ρ):Option ρ:=
 if 0<=j/\j<(d.length:Int)then oB (d[j.toNat]?) fun e=>if 0<=i/\i<(d.length:Int)then oB (d[i.toNat]?) fun e2=>
  if 0<=i/\i<(d.length:Int)then oB (d[i.toNat]?) fun e3=>if 0<=j/\j<((d.set i.toNat e).length:Int)then oB ((d.set i.toNat e)[j.toNat]?) fun e4=>k ((d.set i.toNat e).set j.toNat e2)
  else none else none else none else none
def cmpG (ks:γ) (d:List α) (i j:Int) (k:Int->Option ρ):Option ρ:=
 if 0<=i/\i<(d.length:Int)then oB (d[i.toNat]?) fun e=>if 0<=j/\j<(d.length:Int)then oB (d[j.toNat]?) fun e2=>oB (c ks e e2) k else none else none
def cmpP (ks:γ) (d:List α) (j:Int) (k:Int->Option ρ):Option ρ:=
 if 0<=j/\j<(d.length:Int)then oB (d[j.toNat]?) fun e=>if fits (j-1)then if 0<=(j-1)/\(j-1)<(d.length:Int)then oB (d[(j-1).toNat]?) fun e2=>oB (c ks e e2) k else none else none else none
def swpP (d:List α) (j:Int) (k:List α->Option ρ):Option ρ:=if fits (j-1)then if fits (j-1)then swpG d j (j-1) k else none else none
def insG (N:Nat) (d:List α) (a b:Int) (ks:γ):Option (List α):=
 if fits (a+1)then iter (fun go (g:List α×Int×Int×γ×Int)=>
  match g with
  |(d2,a2,b2,ks2,i)=>
  bif decide (i<b2)then
   iter (fun go2 (g:List α×Int×Int×γ×Int×Int)=>
    match g with
    |(d3,a3,b3,ks3,i2,j)=>
    bif decide (a3<j)then cmpP c ks3 d3 j fun r=>bif decide (r<0)then swpP d3 j fun d=>if fits (j-1)then go2 (d,a3,b3,ks3,i2,j-1)else none
     else if fits (i2+1)then go (d3,a3,b3,ks3,i2+1)else none
    else if fits (i2+1)then go (d3,a3,b3,ks3,i2+1)else none) N (d2,a2,b2,ks2,i,i)
  else some d2) N (d,a,b,ks,a+1)else none
def siftG (N:Nat) (data:List α) (lo:Int) (hi:Int) (first:Int) (cmp:γ):Option ((List α)):=
 (iter (fun go (g:(List α)×Int×Int×γ×Int)=>
   match g with
   |(data2,hi2,first2,cmp2,root)=>
   (if fits (2*root)then(if fits ((2*root)+1)then(bif(decide (hi2<=((2*root)+1)))then
      (some data2)
      else
      (meet (fun(g:(List α)×Int×Int×γ×Int×Int)=>
        match g with
        |(data3,hi3,first3,cmp3,root2,child)=>
        (if fits (first3+root2)then(if 0<=(first3+root2)/\(first3+root2)<(data3.length:Int)then
          (oB (data3[(first3+root2).toNat]?) fun e3=>
           (if fits (first3+child)then(if 0<=(first3+child)/\(first3+child)<(data3.length:Int)then
             (oB (data3[(first3+child).toNat]?) fun e4=>
              (oB (c cmp3 e3 e4) fun r2=>
               (bif(!(decide (r2<0)))then
                (some data3)
                else
                (if fits (first3+root2)then(if fits (first3+child)then(if fits (first3+child)then(if 0<=(first3+child)/\(first3+child)<(data3.length:Int)then
                    (oB (data3[(first3+child).toNat]?) fun e5=>
                     (if fits (first3+root2)then(if 0<=(first3+root2)/\(first3+root2)<(data3.length:Int)then
                       (oB (data3[(first3+root2).toNat]?) fun e6=>
                        (if 0<=(first3+root2)/\(first3+root2)<(data3.length:Int)then
                         (oB (data3[(first3+root2).toNat]?) fun e7=>
                          (if 0<=(first3+child)/\(first3+child)<((data3.set (first3+root2).toNat e5).length:Int)then
                           (oB ((data3.set (first3+root2).toNat e5)[(first3+child).toNat]?) fun e8=>
                            (go (((data3.set (first3+root2).toNat e5).set (first3+child).toNat e6),hi3,first3,cmp3,child)))
                           else none))
                         else none))
                       else none)else none))
                    else none)else none)else none)else none))))
             else none)else none))
          else none)else none)) fun J=>
       (if fits (((2*root)+1)+1)then(bif(decide ((((2*root)+1)+1)<hi2))then
         (if fits (first2+((2*root)+1))then(if 0<=(first2+((2*root)+1))/\(first2+((2*root)+1))<(data2.length:Int)then
           (oB (data2[(first2+((2*root)+1)).toNat]?) fun e=>
            (if fits (first2+((2*root)+1))then(if fits ((first2+((2*root)+1))+1)then(if 0<=((first2+((2*root)+1))+1)/\((first2+((2*root)+1))+1)<(data2.length:Int)then
               (oB (data2[((first2+((2*root)+1))+1).toNat]?) fun e2=>
                (oB (c cmp2 e e2) fun r=>
                 (bif(decide (r<0))then
                  (if fits (((2*root)+1)+1)then(J (data2,hi2,first2,cmp2,root,(((2*root)+1)+1)))else none)
                  else
                  (J (data2,hi2,first2,cmp2,root,((2*root)+1))))))
               else none)else none)else none))
           else none)else none)
         else
         (J (data2,hi2,first2,cmp2,root,((2*root)+1))))else none)))else none)else none)) N (data,hi,first,cmp,lo))
def heapG (N:Nat) (data:List α) (a:Int) (b:Int) (cmp:γ):Option ((List α)):=
 (if fits (b-a)then(if fits ((b-a)-1)then(if 2≠0 then
    (if fits (((b-a)-1).tdiv 2)then(iter (fun go (g:(List α)×γ×Int×Int×Int×Int)=>
       match g with
       |(data2,cmp2,first,lo,hi,i)=>
       (bif(decide ((0:Int)<=i))then
        (oB (siftG c N data2 i hi first cmp2) fun r=>
         (if fits (i-1)then(go (r,cmp2,first,lo,hi,(i-1)))else none))
        else
        (if fits (hi-1)then(iter (fun go2 (g:(List α)×γ×Int×Int×Int)=>
           match g with
           |(data3,cmp3,first2,lo2,i2)=>
           (bif(decide ((0:Int)<=i2))then
            (if fits (first2+i2)then(if fits (first2+i2)then swpG data3 first2 (first2+i2) fun d=>(oB (siftG c N d lo2 i2 first2 cmp3) fun r2=>
                       (if fits (i2-1)then(go2 (r2,cmp3,first2,lo2,(i2-1)))else none))else none)else none)
            else
            (some data3))) N (data2,cmp2,first,lo,(hi-1)))else none))) N (data,cmp,a,0,(b-a),(((b-a)-1).tdiv 2)))else none)
    else none)else none)else none)
def breakG (N:Nat) (data:List α) (a:Int) (b:Int) (cmp:γ):Option (List α):=
 (if fits (b-a)then(bif(decide ((8:Int)<=(b-a)))then
   (oB (k_slices_nextPowerOfTwo_m N (b-a)) fun r=>
    (if 4≠0 then
     (if fits ((b-a).tdiv 4)then(if fits (((b-a).tdiv 4)*2)then(if fits (a+(((b-a).tdiv 4)*2))then(if fits ((a+(((b-a).tdiv 4)*2))-1)then(iter (fun go (g:(List α)×Int×Int×Int×Int×Int)=>
           match g with
           |(data2,a2,length,modulus,idx0,random)=>
           (if 4≠0 then
            (if fits (length.tdiv 4)then(if fits ((length.tdiv 4)*2)then(if fits (a2+((length.tdiv 4)*2))then(if fits ((a2+((length.tdiv 4)*2))+1)then(bif(decide (idx0<=((a2+((length.tdiv 4)*2))+1)))then
                 (oB (k__slices_xorshift_Next_m N random) fun r2=>
                  (meet (fun(g:(List α)×Int×Int×Int×Int×Int×Int)=>
                    match g with
                    |(data3,a3,length2,modulus2,idx02,other,random2)=>
                    (if fits (a3+other)then(if fits (a3+other)then swpG data3 idx02 (a3+other) fun d=>(if fits (idx02+1)then(go (d,a3,length2,modulus2,(idx02+1),random2))else none)else none)else none)) fun J=>
                   (bif(decide (length<=(IntKind.i64.wrap (bitsI .and .u64 r2.1 (IntKind.u64.wrap (modulus-1))))))then
                    (if fits ((IntKind.i64.wrap (bitsI .and .u64 r2.1 (IntKind.u64.wrap (modulus-1))))-length)then(J (data2,a2,length,modulus,idx0,((IntKind.i64.wrap (bitsI .and .u64 r2.1 (IntKind.u64.wrap (modulus-1))))-length),r2.2))else none)
                    else
                    (J (data2,a2,length,modulus,idx0,(IntKind.i64.wrap (bitsI .and .u64 r2.1 (IntKind.u64.wrap (modulus-1)))),r2.2)))))
                 else
                 (some data2))else none)else none)else none)else none)
            else none)) N (data,a,(b-a),r,((a+(((b-a).tdiv 4)*2))-1),(IntKind.u64.wrap (b-a))))else none)else none)else none)else none)
     else none))
   else
   (some data))else none)
def order2G (N:Nat) (data:List α) (a:Int) (b:Int) (cmp:γ) (b2:Int):Option (Int×Int×(List α)×Int):=
 cmpG c cmp data b a fun r=>(bif(decide (r<0))then(if fits (b2+1)then(some (b,a,data,(b2+1)))else none)else(some (a,b,data,b2)))
def medianG (N:Nat) (data:List α) (a:Int) (b:Int) (c0:Int) (cmp:γ) (b2:Int):Option (Int×(List α)×Int):=
 (oB (order2G c N data a b cmp b2) fun r=>
  (oB (order2G c N r.2.2.1 r.2.1 c0 cmp r.2.2.2) fun r2=>
   (oB (order2G c N r2.2.2.1 r.1 r2.1 cmp r2.2.2.2) fun r3=>
    (some (r3.2.1,r3.2.2.1,r3.2.2.2)))))
def medianAdjacentG (N:Nat) (data:List α) (a:Int) (cmp:γ) (b:Int):Option (Int×(List α)×Int):=
 (if fits (a-1)then(if fits (a+1)then(oB (medianG c N data (a-1) a (a+1) cmp b) fun r=>
    (some (r.1,r.2.1,r.2.2)))else none)else none)
def choosePivotG (N:Nat) (data:List α) (a:Int) (b:Int) (cmp:γ):Option (Int×Int×(List α)):=
 (if fits (b-a)then(if 4≠0 then
   (if fits ((b-a).tdiv 4)then(if fits (((b-a).tdiv 4)*1)then(if fits (a+(((b-a).tdiv 4)*1))then(if 4≠0 then
       (if fits ((b-a).tdiv 4)then(if fits (((b-a).tdiv 4)*2)then(if fits (a+(((b-a).tdiv 4)*2))then(if 4≠0 then
           (if fits ((b-a).tdiv 4)then(if fits (((b-a).tdiv 4)*3)then(if fits (a+(((b-a).tdiv 4)*3))then(meet (fun(g:(List α)×Int×Int)=>
                match g with
                |(data3,j2,swaps2)=>
                (bif(decide (swaps2=0))then
                 (some (j2,1,data3))
                 else
                 (bif(decide (swaps2=12))then
                  (some (j2,2,data3))
                  else
                  (some (j2,0,data3))))) fun J=>
               (bif(decide ((8:Int)<=(b-a)))then
                (meet (fun(g:(List α)×γ×Int×Int×Int×Int)=>
                  match g with
                  |(data2,cmp2,i,j,k,swaps)=>
                  (oB (medianG c N data2 i j k cmp2 swaps) fun r4=>
                   (J (r4.2.1,r4.1,r4.2.2)))) fun J2=>
                 (bif(decide ((50:Int)<=(b-a)))then
                  (oB (medianAdjacentG c N data (a+(((b-a).tdiv 4)*1)) cmp 0) fun r=>
                   (oB (medianAdjacentG c N r.2.1 (a+(((b-a).tdiv 4)*2)) cmp r.2.2) fun r2=>
                    (oB (medianAdjacentG c N r2.2.1 (a+(((b-a).tdiv 4)*3)) cmp r2.2.2) fun r3=>
                     (J2 (r3.2.1,cmp,r.1,r2.1,r3.1,r3.2.2)))))
                  else
                  (J2 (data,cmp,(a+(((b-a).tdiv 4)*1)),(a+(((b-a).tdiv 4)*2)),(a+(((b-a).tdiv 4)*3)),0))))
                else
                (J (data,(a+(((b-a).tdiv 4)*2)),0))))else none)else none)else none)
           else none)else none)else none)else none)
       else none)else none)else none)else none)
   else none)else none)
def reverseRangeG (N:Nat) (data:List α) (a:Int) (b:Int) (cmp:γ):Option ((List α)):=
 (if fits (b-1)then(iter (fun go (g:(List α)×Int×Int)=>
    match g with
    |(data2,i,j)=>
    (bif(decide (i<j))then swpG data2 i j fun d=>(if fits (i+1)then(if fits (j-1)then(go (d,(i+1),(j-1)))else none)else none)
     else
     (some data2))) N (data,a,(b-1)))else none)
def shDown (k:(List α×Int×Int×γ×Int×Int)->Option ρ) (N:Nat) (g:List α×Int×Int×γ×Int×Int×Int):Option ρ:=
 iter (fun go3 (g:(List α)×Int×Int×γ×Int×Int×Int)=>
  match g with
  |(d,a,b,ks,i,j,j4)=>
  bif decide ((1:Int)<=j4)then cmpP c ks d j4 fun r=>bif !decide (r<0)then k (d,a,b,ks,i,j)else swpP d j4 fun d'=>if fits (j4-1)then go3 (d',a,b,ks,i,j,j4-1)else none
  else k (d,a,b,ks,i,j)) N g
def shUp (k:(List α×Int×Int×γ×Int×Int)->Option ρ) (N:Nat) (g:List α×Int×Int×γ×Int×Int×Int):Option ρ:=
 iter (fun go4 (g:(List α)×Int×Int×γ×Int×Int×Int)=>
  match g with
  |(d,a,b,ks,i,j,j4)=>
  bif decide (j4<b)then cmpP c ks d j4 fun r=>bif !decide (r<0)then(if fits (j+1)then k (d,a,b,ks,i,j+1)else none)else swpP d j4 fun d'=>if fits (j4+1)then go4 (d',a,b,ks,i,j,j4+1)else none
  else if fits (j+1)then k (d,a,b,ks,i,j+1)else none) N g
def pisX (N:Nat) (go:(List α×Int×Int×γ×Int×Int)->Option (Bool×List α)) (d:List α) (a b:Int) (ks:γ) (i j:Int):Option (Bool×List α):=
 bif decide (i=b)then some (true,d)else if fits (b-a)then bif decide ((b-a)<50)then some (false,d)else
  swpP d i fun d'=>meet (fun(g:List α×Int×Int×γ×Int×Int)=>
   match g with
   |(d5,a5,b5,ks5,i4,j5)=>
   if fits (b5-i4)then bif decide ((2:Int)<=(b5-i4))then if fits (i4+1)then shUp c go N (d5,a5,b5,ks5,i4,j5,i4+1)else none
    else(if fits (j5+1)then go (d5,a5,b5,ks5,i4,j5+1)else none)else none) fun J=>
   if fits (i-a)then bif decide ((2:Int)<=(i-a))then if fits (i-1)then shDown c J N (d',a,b,ks,i,j,i-1)else none else J (d',a,b,ks,i,j)else none
 else none
def pisG (N:Nat) (d:List α) (a b:Int) (ks:γ):Option (Bool×List α):=
 if fits (a+1)then iter (fun go (g:List α×Int×Int×γ×Int×Int)=>
  match g with
  |(d2,a2,b2,ks2,i,j)=>
  bif decide (j<5)then
   iter (fun go2 (g:List α×Int×Int×γ×Int×Int)=>
    match g with
    |(d3,a3,b3,ks3,i2,j2)=>
    bif decide (i2<b3)then cmpP c ks3 d3 i2 fun r=>bif !decide (r<0)then(if fits (i2+1)then go2 (d3,a3,b3,ks3,i2+1,j2)else none)else pisX c N go d3 a3 b3 ks3 i2 j2
    else pisX c N go d3 a3 b3 ks3 i2 j2) N (d2,a2,b2,ks2,i,j)
  else some (false,d2)) N (d,a,b,ks,a+1,0)else none
def partE (go3:(List α×Int×γ×Int×Int)->Option (Int×Bool×List α)) (fl:Bool) (g:List α×Int×γ×Int×Int):Option (Int×Bool×List α):=
 match g with
 |(d,a,ks,i,j)=>
 bif decide (j<i)then swpG d j a fun d'=>some (j,fl,d')else swpG d i j fun d'=>if fits (i+1)then if fits (j-1)then go3 (d',a,ks,i+1,j-1)else none else none
def partD (k:(List α×Int×γ×Int×Int)->Option ρ) (N:Nat) (g:List α×Int×γ×Int×Int):Option ρ:=
 iter (fun go (g:List α×Int×γ×Int×Int)=>
  match g with
  |(d,a,ks,i,j)=>
  bif decide (i<=j)then cmpG c ks d j a fun r=>bif !decide (r<0)then(if fits (j-1)then go (d,a,ks,i,j-1)else none)else k (d,a,ks,i,j)
  else k (d,a,ks,i,j)) N g
def partU (k:(List α×Int×γ×Int×Int)->Option ρ) (N:Nat) (g:List α×Int×γ×Int×Int):Option ρ:=
 iter (fun go (g:List α×Int×γ×Int×Int)=>
  match g with
  |(d,a,ks,i,j)=>
  bif decide (i<=j)then cmpG c ks d i a fun r=>bif decide (r<0)then(if fits (i+1)then go (d,a,ks,i+1,j)else none)else k (d,a,ks,i,j)
  else k (d,a,ks,i,j)) N g
def partG (N:Nat) (d:List α) (a b p:Int) (ks:γ):Option (Int×Bool×List α):=
 swpG d a p fun d=>if fits (a+1)then if fits (b-1)then
  partU c (fun g=>partD c (partE (fun g=>iter (fun go3 g=>partU c (fun g=>partD c (partE go3 false) N g) N g) N g) true) N g) N (d,a,ks,a+1,b-1)
 else none else none
def peqE (go:(List α×Int×γ×Int×Int)->Option (Int×List α)) (g:List α×Int×γ×Int×Int):Option (Int×List α):=
 match g with
 |(d,a,ks,i,j)=>
 bif decide (j<i)then some (i,d)else swpG d i j fun d'=>if fits (i+1)then if fits (j-1)then go (d',a,ks,i+1,j-1)else none else none
def peqD (k:(List α×Int×γ×Int×Int)->Option ρ) (N:Nat) (g:List α×Int×γ×Int×Int):Option ρ:=
 iter (fun go (g:List α×Int×γ×Int×Int)=>
  match g with
  |(d,a,ks,i,j)=>
  bif decide (i<=j)then cmpG c ks d a j fun r=>bif decide (r<0)then(if fits (j-1)then go (d,a,ks,i,j-1)else none)else k (d,a,ks,i,j)
  else k (d,a,ks,i,j)) N g
def peqU (k:(List α×Int×γ×Int×Int)->Option ρ) (N:Nat) (g:List α×Int×γ×Int×Int):Option ρ:=
 iter (fun go (g:List α×Int×γ×Int×Int)=>
  match g with
  |(d,a,ks,i,j)=>
  bif decide (i<=j)then cmpG c ks d a i fun r=>bif !decide (r<0)then(if fits (i+1)then go (d,a,ks,i+1,j)else none)else k (d,a,ks,i,j)
  else k (d,a,ks,i,j)) N g
def peqG (N:Nat) (d:List α) (a b p:Int) (ks:γ):Option (Int×List α):=
 swpG d a p fun d=>if fits (a+1)then if fits (b-1)then iter (fun go g=>peqU c (fun g=>peqD c (peqE go) N g) N g) N (d,a,ks,a+1,b-1)else none else none
def pdqG (hs:List α->Int->Int->γ->Option (List α)) (pe:List α->Int->Int->Int->γ->Option (Int×List α)) (N:Nat):(D:Nat)->(List α)->Int->Int->Int->γ->Option ((List α))
 |0,_,_,_,_,_=>none
 |D+1,data,a,b,limit,cmp=>
 (iter (fun go (g:(List α)×Int×Int×Int×γ×Bool×Bool)=>
   match g with
   |(data2,a2,b2,limit2,cmp2,wasBalanced,wasPartitioned)=>
   (if fits (b2-a2)then(bif(decide ((b2-a2)<=12))then
     (oB (insG c N data2 a2 b2 cmp2) fun r=>
      (some r))
     else
     (bif(decide (limit2=0))then
      (oB (hs data2 a2 b2 cmp2) fun r2=>
       (some r2))
      else
      (meet (fun(g:(List α)×Int×Int×Int×γ×Bool×Bool×Int)=>
        match g with
        |(data3,a3,b3,limit3,cmp3,wasBalanced2,wasPartitioned2,length)=>
        (oB (choosePivotG c N data3 a3 b3 cmp3) fun r4=>
         (meet (fun(g:(List α)×Int×Int×Int×γ×Bool×Bool×Int×Int×Int)=>
           match g with
           |(data4,a4,b4,limit4,cmp4,wasBalanced3,wasPartitioned3,length2,pivot,hint)=>
           (meet (fun(g:(List α)×Int×Int×Int×γ×Bool×Bool×Int×Int)=>
             match g with
             |(data5,a5,b5,limit5,cmp5,wasBalanced4,wasPartitioned4,length3,pivot2)=>
             (bif(decide ((0:Int)<a5))then
              (if fits (a5-1)then(if 0<=(a5-1)/\(a5-1)<(data5.length:Int)then
                (oB (data5[(a5-1).toNat]?) fun e=>
                 (if 0<=pivot2/\pivot2<(data5.length:Int)then
                  (oB (data5[pivot2.toNat]?) fun e2=>
                   (oB (c cmp5 e e2) fun r7=>
                    (bif(!(decide (r7<0)))then
                     (oB (pe data5 a5 b5 pivot2 cmp5) fun r8=>
                      (go (r8.2,r8.1,b5,limit5,cmp5,wasBalanced4,wasPartitioned4)))
                     else
                     (oB (partG c N data5 a5 b5 pivot2 cmp5) fun r9=>
                      (if fits (r9.1-a5)then(if fits (b5-r9.1)then(if 8≠0 then
                         (if fits (length3.tdiv 8)then(bif(decide ((r9.1-a5)<(b5-r9.1)))then
                           (oB (pdqG hs pe N D r9.2.2 a5 r9.1 limit5 cmp5) fun r10=>
                            (if fits (r9.1+1)then(go (r10,(r9.1+1),b5,limit5,cmp5,(decide ((length3.tdiv 8)<=(r9.1-a5))),r9.2.1))else none))
                           else
                           (if fits (r9.1+1)then(oB (pdqG hs pe N D r9.2.2 (r9.1+1) b5 limit5 cmp5) fun r11=>
                             (go (r11,a5,r9.1,limit5,cmp5,(decide ((length3.tdiv 8)<=(b5-r9.1))),r9.2.1)))else none))else none)
                         else none)else none)else none)))))
                  else none))
                else none)else none)
              else
              (oB (partG c N data5 a5 b5 pivot2 cmp5) fun r12=>
               (if fits (r12.1-a5)then(if fits (b5-r12.1)then(if 8≠0 then
                  (if fits (length3.tdiv 8)then(bif(decide ((r12.1-a5)<(b5-r12.1)))then
                    (oB (pdqG hs pe N D r12.2.2 a5 r12.1 limit5 cmp5) fun r13=>
                     (if fits (r12.1+1)then(go (r13,(r12.1+1),b5,limit5,cmp5,(decide ((length3.tdiv 8)<=(r12.1-a5))),r12.2.1))else none))
                    else
                    (if fits (r12.1+1)then(oB (pdqG hs pe N D r12.2.2 (r12.1+1) b5 limit5 cmp5) fun r14=>
                      (go (r14,a5,r12.1,limit5,cmp5,(decide ((length3.tdiv 8)<=(b5-r12.1))),r12.2.1)))else none))else none)
                  else none)else none)else none)))) fun J3=>
            (bif wasBalanced3 then
             (bif wasPartitioned3 then
              (bif(decide (hint=1))then
               (oB (pisG c N data4 a4 b4 cmp4) fun r6=>
                (bif r6.1 then
                 (some r6.2)
                 else
                 (J3 (r6.2,a4,b4,limit4,cmp4,wasBalanced3,wasPartitioned3,length2,pivot))))
               else
               (J3 (data4,a4,b4,limit4,cmp4,wasBalanced3,wasPartitioned3,length2,pivot)))
              else
              (J3 (data4,a4,b4,limit4,cmp4,wasBalanced3,wasPartitioned3,length2,pivot)))
             else
             (J3 (data4,a4,b4,limit4,cmp4,wasBalanced3,wasPartitioned3,length2,pivot))))) fun J2=>
          (bif(decide (r4.2.1=2))then
           (oB (reverseRangeG N r4.2.2 a3 b3 cmp3) fun r5=>
            (if fits (b3-1)then(if fits (r4.1-a3)then(if fits ((b3-1)-(r4.1-a3))then(J2 (r5,a3,b3,limit3,cmp3,wasBalanced2,wasPartitioned2,length,((b3-1)-(r4.1-a3)),1))else none)else none)else none))
           else
           (J2 (r4.2.2,a3,b3,limit3,cmp3,wasBalanced2,wasPartitioned2,length,r4.1,r4.2.1)))))) fun J=>
       (bif(!wasBalanced)then
        (oB (breakG N data2 a2 b2 cmp2) fun r3=>
         (if fits (limit2-1)then(J (r3,a2,b2,(limit2-1),cmp2,wasBalanced,wasPartitioned,(b2-a2)))else none))
        else
        (J (data2,a2,b2,limit2,cmp2,wasBalanced,wasPartitioned,(b2-a2)))))))else none)) N (data,a,b,limit,cmp,true,true))
end
def cmp669 (N:Nat):(Unit)->Z0->Z0->Option Int:=(fun(cmp:Unit) (e e2:Int×Z7×Z10)=>i_allAlive_1_m N e.1 e.2.1 e.2.2 e2.1 e2.2.1 e2.2.2)
def jIw :Sh:=⟨.mtk 800000 Y4 95 false::pI::pI:: .clo 155 []::dz 4 (pI::dz 44 []),[]⟩
def jJn :Sh:=⟨.mtk 800000 Y4 95 false::pI::pI:: .clo 155 []::dz 4 (pI::pI::dz 43 []),[]⟩
def jJk (d:List Z0) (b:Int) (c:Int) (a:Unit):Z14:=insG (cmp669 N) N d b c a
 
theorem jIC :mK 272 (bX [.mtk 800000 Y4 95 false,pI,pI,.clo 155 []] [.tup [],.mtk 800000 Y4 95 false] (c4A (jJk N))):=
 mO (fC (jHC N) ja) func272 rfl N (.seq .no (.block (.loop jIw (.seq .no (.seq (.block (.seq .no (.block (.loop jJn .no)))) .no))))) _ (rs:=[800000])
end Go.Proofs.YtcinmmojlcchfaaGreatDoor
