import Derived.Test.YtabhgjdikeipdaaGreatDoorSJ
import Derived.Test.YtabhgjdikeipdaaGreatDoorSN
set_option linter.unusedVariables false
set_option linter.unusedSimpArgs false
namespace Go.Proofs.YtabhgjdikeipdaaGreatDoor
open Go.RowKit Go.Proofs.Tryz
variable (N : Nat)
open Option renaming bind -> oB
set_option maxRecDepth 1000000
abbrev Z0 :Type:=Int×(List ((List UInt8)×(List UInt8)))×(List ((List UInt8)×Int))
abbrev Z1 :Type:=List UInt8
abbrev Z2 :Type:=Z1×Z1×(List (Int×(List Int)))
abbrev Z3 :Type:=Z1×(List (Int×Int))
abbrev Z4 :Type:=(List Z1)×Z1
abbrev Z5 :Type:=List (Int×Int)
abbrev Z6 :Type:=List (Int×(List Int))
abbrev Z7 :Type:=((List Z0)×(List Z2))×(List Int)
abbrev Z8 :Type:=Option (Bool)
abbrev Z9 :Type:=List (Z1×Int)
abbrev Z10 :Type:=List (Int×Int)
abbrev Z11 :Type:=List (Z1×Int)
abbrev Z12 :Type:=Option (Int)
abbrev Z13 :Type:=Z1×Int×Int×Int
abbrev Z14 :Type:=List (Int×(List Int))
abbrev Z15 :Type:=List (Z1×Z1)
abbrev Z16 :Type:=List (Z1×Z1)
abbrev Z17 :Type:=((List Z1)×(List Z4))×(List Z0)×(List Z2)
abbrev Z18 :Type:=Int×Z1×(List Z1)×Int×Int×(List DQ)
abbrev Z19 :Type:=Int×Z1×(List Z1)×Int×Int×(List DQ)×Int×Z1×(List Z1)×Int×Int×(List DQ)
abbrev Z20 :Type:=List (List Int)
abbrev Z21 :Type:=Option ((List Z0))
abbrev Z22 :Type:=Option (Int×Int×(List Z3)×Z10×Bool)
abbrev Z23 :Type:=Z1×Z1×(List Int)×Int×Int×Int
abbrev Z24 :Type:=Int×Int×Z1×(List Z1)×Int×Int×(List DQ)×Bool×Int×Int×Int×Int×Bool×Int×Int
abbrev Z26 :Type:=Int×Z1×(List Z1)×Int×Int×(List DQ)×Int
abbrev bX (a r:List VS) (f:HD (Sh.codes ⟨a,[]⟩)->Option (HD (Sh.codes ⟨r,[]⟩))):Model:=⟨⟨a,[]⟩,⟨r,[]⟩,f⟩
abbrev mK :=ModelOk Tryz.prog
theorem mO {l:List (Nat×Model)} (hl:jR Tryz.prog l) {f:FuncId} {fn:Func} {c:Code} (hf:Tryz.prog.funcs[f]? =some fn) (hbody:fn.body=some c) (N:Nat) (h:Hint) (m:Model) (wr rs dw:List Nat:=[])
  (hname:(fn.name== "runtime.NumGoroutine")=false:=by kernel_rfl) (hres:m.arg.names.all (jbC l wr rs dw).res=true:=by kernel_rfl) (hlen:Nat.ble m.arg.vals.length fn.ntmps=true:=by kernel_rfl)
  (hrun:∀a,m.run a=runF N (jbC l wr rs dw) okDraw fn c h m.arg m.ret a:=by intro a;kernel_rfl):ModelOk Tryz.prog f m:=modelOk_of (E:=jbC l wr rs dw) (jtQ hl wr rs dw) hf hname hbody N h m hres hlen hrun
theorem fC {k:Nat} {m:Model} {l:List (Nat×Model)} (h:ModelOk Tryz.prog k m) (hl:jR Tryz.prog l):jR Tryz.prog ((k,m)::l):=jsH h hl
abbrev pI :VS:=.pv (.int .i64)
abbrev pS :VS:=.pv .str
abbrev pB :VS:=.pv .bool
abbrev tI :Tp:=.int .i64
abbrev c1A {α ρ:Type} (f:α->ρ) (a:α):ρ:=f a
abbrev c2A {α0 α1 ρ:Type} (f:α0->α1->ρ) (a:α0×α1):ρ:=f a.1 a.2
abbrev c3A {α0 α1 α2 ρ:Type} (f:α0->α1->α2->ρ) (a:α0×α1×α2):ρ:=f a.1 a.2.1 a.2.2
abbrev c4A {α0 α1 α2 α3 ρ:Type} (f:α0->α1->α2->α3->ρ) (a:α0×α1×α2×α3):ρ:=f a.1 a.2.1 a.2.2.1 a.2.2.2
abbrev c5A {α0 α1 α2 α3 α4 ρ:Type} (f:α0->α1->α2->α3->α4->ρ) (a:α0×α1×α2×α3×α4):ρ:=f a.1 a.2.1 a.2.2.1 a.2.2.2.1 a.2.2.2.2
abbrev c6A {α0 α1 α2 α3 α4 α5 ρ:Type} (f:α0->α1->α2->α3->α4->α5->ρ) (a:α0×α1×α2×α3×α4×α5):ρ:=f a.1 a.2.1 a.2.2.1 a.2.2.2.1 a.2.2.2.2.1 a.2.2.2.2.2
abbrev c7A {α0 α1 α2 α3 α4 α5 α6 ρ:Type} (f:α0->α1->α2->α3->α4->α5->α6->ρ) (a:α0×α1×α2×α3×α4×α5×α6):ρ:=f a.1 a.2.1 a.2.2.1 a.2.2.2.1 a.2.2.2.2.1 a.2.2.2.2.2.1 a.2.2.2.2.2.2
abbrev c9A {α0 α1 α2 α3 α4 α5 α6 α7 α8 ρ:Type} (f:α0->α1->α2->α3->α4->α5->α6->α7->α8->ρ) (a:α0×α1×α2×α3×α4×α5×α6×α7×α8):ρ:=f a.1 a.2.1 a.2.2.1 a.2.2.2.1 a.2.2.2.2.1 a.2.2.2.2.2.1 a.2.2.2.2.2.2.1 a.2.2.2.2.2.2.2.1 a.2.2.2.2.2.2.2.2
abbrev c10A {α0 α1 α2 α3 α4 α5 α6 α7 α8 α9 ρ:Type} (f:α0->α1->α2->α3->α4->α5->α6->α7->α8->α9->ρ) (a:α0×α1×α2×α3×α4×α5×α6×α7×α8×α9):ρ:=f a.1 a.2.1 a.2.2.1 a.2.2.2.1 a.2.2.2.2.1 a.2.2.2.2.2.1 a.2.2.2.2.2.2.1 a.2.2.2.2.2.2.2.1 a.2.2.2.2.2.2.2.2.1 a.2.2.2.2.2.2.2.2.2
abbrev c11A {α0 α1 α2 α3 α4 α5 α6 α7 α8 α9 α10 ρ:Type} (f:α0->α1->α2->α3->α4->α5->α6->α7->α8->α9->α10->ρ) (a:α0×α1×α2×α3×α4×α5×α6×α7×α8×α9×α10):ρ:=f a.1 a.2.1 a.2.2.1 a.2.2.2.1 a.2.2.2.2.1 a.2.2.2.2.2.1 a.2.2.2.2.2.2.1 a.2.2.2.2.2.2.2.1 a.2.2.2.2.2.2.2.2.1 a.2.2.2.2.2.2.2.2.2.1 a.2.2.2.2.2.2.2.2.2.2
abbrev c12A {α0 α1 α2 α3 α4 α5 α6 α7 α8 α9 α10 α11 ρ:Type} (f:α0->α1->α2->α3->α4->α5->α6->α7->α8->α9->α10->α11->ρ) (a:α0×α1×α2×α3×α4×α5×α6×α7×α8×α9×α10×α11):ρ:=f a.1 a.2.1 a.2.2.1 a.2.2.2.1 a.2.2.2.2.1 a.2.2.2.2.2.1 a.2.2.2.2.2.2.1 a.2.2.2.2.2.2.2.1 a.2.2.2.2.2.2.2.2.1 a.2.2.2.2.2.2.2.2.2.1 a.2.2.2.2.2.2.2.2.2.2.1 a.2.2.2.2.2.2.2.2.2.2.2
abbrev c13A {α0 α1 α2 α3 α4 α5 α6 α7 α8 α9 α10 α11 α12 ρ:Type} (f:α0->α1->α2->α3->α4->α5->α6->α7->α8->α9->α10->α11->α12->ρ) (a:α0×α1×α2×α3×α4×α5×α6×α7×α8×α9×α10×α11×α12):ρ:=f a.1 a.2.1 a.2.2.1 a.2.2.2.1 a.2.2.2.2.1 a.2.2.2.2.2.1 a.2.2.2.2.2.2.1 a.2.2.2.2.2.2.2.1 a.2.2.2.2.2.2.2.2.1 a.2.2.2.2.2.2.2.2.2.1 a.2.2.2.2.2.2.2.2.2.2.1 a.2.2.2.2.2.2.2.2.2.2.2.1 a.2.2.2.2.2.2.2.2.2.2.2.2
def dz :Nat->List VS->List VS
 |0,l=>l
 |n+1,l=>.dead::dz n l
abbrev Y25 :Tp:=.sl tI
abbrev Y24 :Tp:=.pair .str .str
abbrev Y23 :Tp:=.sl (.pair .str .str)
abbrev Y22 :Tp:=.pair (.sl .str) .str
abbrev Y21 :Tp:=.pair .str tI
abbrev Y20 :Tp:=.sl (.pair (.sl .str) .str)
abbrev Y19 :Tp:=.sl (.pair .str tI)
abbrev Y18 :Tp:=.pair tI tI
abbrev Y17 :Tp:=.sl (.pair tI tI)
abbrev Y16 :Tp:=.pair tI (.sl tI)
abbrev Y15 :Tp:=.sl (.pair tI (.sl tI))
abbrev Y13 :Tp:=.pair .str (.sl (.pair tI tI))
abbrev Y11 :Tp:=.sl (.pair .str (.sl (.pair tI tI)))
abbrev Y8 :Tp:=.pair .str (.pair tI (.pair tI tI))
abbrev Y7 :Tp:=.pair .str (.pair .str (.sl (.pair tI (.sl tI))))
abbrev Y6 :Tp:=.sl (.pair .str (.pair .str (.sl (.pair tI (.sl tI)))))
abbrev Y5 :Tp:=.pair tI (.pair (.sl (.pair .str .str)) (.sl (.pair .str tI)))
abbrev Y4 :Tp:=.sl (.pair tI (.pair (.sl (.pair .str .str)) (.sl (.pair .str tI))))
abbrev Y3 :Tp:=.pair (.sl (.pair tI (.pair (.sl (.pair .str .str)) (.sl (.pair .str tI))))) (.sl (.pair .str (.pair .str (.sl (.pair tI (.sl tI))))))
abbrev Y2 :Tp:=.pair (.pair (.sl (.pair tI (.pair (.sl (.pair .str .str)) (.sl (.pair .str tI))))) (.sl (.pair .str (.pair .str (.sl (.pair tI (.sl tI))))))) (.sl tI)
abbrev Y1 :Tp:=.sl (.pair (.pair (.sl (.pair tI (.pair (.sl (.pair .str .str)) (.sl (.pair .str tI))))) (.sl (.pair .str (.pair .str (.sl (.pair tI (.sl tI))))))) (.sl tI))
abbrev Y0 :Tp:=.pair (.pair (.sl .str) (.sl (.pair (.sl .str) .str))) (.pair (.sl (.pair tI (.pair (.sl (.pair .str .str)) (.sl (.pair .str tI))))) (.sl (.pair .str (.pair .str (.sl (.pair tI (.sl tI)))))))
def s_l1In_m (N:Nat) (a:Int) (c:Int) (b:Int):Z8:=
 (bif decide (c<=a)then some (decide (a<=b))else some false)
theorem jcL :mK 46 (bX [pI,pI,pI] [pB] (c3A (s_l1In_m N))):=
 mO ja func46 rfl N .no _
def jt (N:Nat) (a:Int):Z12:=
 (bif decide ((65:Int)<=a)then bif decide (a<=90)then some (IntKind.u8.wrap (a+32))else(bif decide ((97:Int)<=a)then bif decide (a<=122)then some a else(bif decide ((48:Int)<=a)then bif decide (a<=57)then some a else(some 0)else some 0)else bif decide ((48:Int)<=a)then bif decide (a<=57)then some a else(some 0)else some 0)else bif decide ((97:Int)<=a)then bif decide (a<=122)then some a else(bif decide ((48:Int)<=a)then bif decide (a<=57)then some a else(some 0)else some 0)else bif decide ((48:Int)<=a)then bif decide (a<=57)then some a else(some 0)else some 0)
theorem jfG :mK 251 (bX [.pv (.int .u8)] [.pv (.int .u8)] (c1A (jt N))):=
 mO ja func251 rfl N .no _
def jr5 :Sh:=⟨pS:: .dead:: .dead::pI::dz 23 [],[]⟩
def jT (j:List UInt8):Z8:=
 (iter (fun d (b,a)=>bif decide (a<(b.length:Int))then oB (idx b a) fun f=>(oB (jt N (f.toNat:Int)) fun e=>oB (idx b a) fun i=>bif !decide (e=(i.toNat:Int))then some false else oB (idx b a) fun k=>bif decide ((k.toNat:Int)=0)then some false else if fits (a+1)then d (b,(a+1))else none)else oB (s_l1In_m N (b.length:Int) 1 12) fun c=>some c) N (j,(0:Int)))
theorem jgp :mK 174 (bX [pS] [pB] (c1A (jT N))):=
 mO (fC (jfG N) (fC (jcL N) ja)) func174 rfl N (.seq .no (.seq (.seq .no (.block (.loop jr5 .no))) .no)) _
def jdI (N:Nat):Option ((List Z1)):=
 (some ([([105,110,103]:List UInt8),([101,100]:List UInt8),([101,115]:List UInt8),([108,121]:List UInt8),([115]:List UInt8)]:List Z1))
theorem jkj :mK 306 ⟨⟨[],[]⟩,⟨[.own 1 .str 9 true],[]⟩,fun a=>jdI N⟩:=
 mO ja func306 rfl N .no _
def jl2 :Sh:=⟨pS:: .dead:: .dead::pI::dz 30 [],[]⟩
def ja6 (i:List UInt8):Option (Z1):=
 (iter (fun d (a,b)=>oB (jdI N) fun f=>bif decide (b<(f.length:Int))then oB (jdI N) fun e=>(oB (idx e b) fun c=>if fits ((a.length:Int)-(c.length:Int))then bif decide ((3:Int)<=((a.length:Int)-(c.length:Int)))then oB (cut a ((a.length:Int)-(c.length:Int)) (a.length:Int)) fun j=>(bif decide (j=c)then oB (cut a 0 ((a.length:Int)-(c.length:Int))) fun k=>(some k)else if fits (b+1)then d (a,(b+1))else none)else(if fits (b+1)then d (a,(b+1))else none)else none)else some a) N (i,(0:Int)))
theorem jtL :mK 252 (bX [pS] [pS] (c1A (ja6 N))):=
 mO (fC (jkj N) ja) func252 rfl N (.seq .no (.seq (.seq .no (.block (.loop jl2 .no))) .no)) _
def jto :Sh:=⟨pS::dz 9 [],[]⟩
def jaq (b:List UInt8):Option (Z1):=
 (iter (fun c (e:Z1)=>let s2:=e;(oB (ja6 N s2) fun d=>bif !decide (d=s2)then oB (ja6 N s2) fun a=>(c a)else some s2)) N b)
theorem jfZ :mK 175 (bX [pS] [pS] (c1A (jaq N))):=
 mO (fC (jtL N) ja) func175 rfl N (.seq .no (.seq (.block (.loop jto .no)) .no)) _
def jlY :Sh:=⟨.pv (.sl .str)::pS::dz 3 (pI::dz 12 []),[]⟩
def jap (h:List Z1) (i:List UInt8):Z8:=
 (iter (fun d (b,c,a)=>bif decide (a<(b.length:Int))then oB (idx b a) fun f=>(bif decide (f=c)then some true else if fits (a+1)then d (b,c,(a+1))else none)else some false) N (h,i,(0:Int)))
theorem jhP :mK 176 (bX [.pv (.sl .str),pS] [pB] (c2A (jap N))):=
 mO ja func176 rfl N (.seq .no (.seq (.seq .no (.block (.loop jlY .no))) .no)) _
def jrs :Sh:=⟨.dead:: .box 1 0:: .dead::pI::dz 114 [],[(1,false,[.pv (.sl .str),.pv Y20])]⟩
def js0 :Sh:=⟨.dead:: .box 1 0:: .dead:: .dead::pI::dz 113 [],[(1,false,[.pv (.sl .str),.pv Y20])]⟩
def jrc :Sh:=⟨.dead:: .box 1 0:: .dead:: .dead::pI:: .box 5 0::pI::dz 111 [],[(1,false,[.pv (.sl .str),.pv Y20]),(5,false,[.pv (.sl .str),pS])]⟩
def jcw (H:List Z1) (A:List Z4):Z8:=
 (iter (fun m (a,c,i)=>bif decide (a<(c.length:Int))then oB (idx c a) fun C=>(oB (jT N C) fun G=>bif !G then some false else bif decide ((0:Int)<a)then oB (idx c a) fun q=>(if fits (a-1)then oB (idx c (a-1)) fun n=>(bif Op.bytesLess q n||decide (q=n)then some false else if fits (a+1)then m ((a+1),c,i)else none)else none)else if fits (a+1)then m ((a+1),c,i)else none)else iter (fun v (l,o,f)=>bif decide (l<(f.length:Int))then oB (idx f l) fun r=>(iter (fun u (j,d,k,p,b,h)=>bif decide (d<(b.length:Int))then oB (idx b d) fun I=>(oB (jT N I) fun t=>bif !t then some false else oB (idx b d) fun D=>oB (jaq N D) fun w=>oB (idx b d) fun z=>bif !decide (w=z)then some false else oB (idx b d) fun x=>oB (jap N k x) fun y=>bif y then some false else if fits (d+1)then u (j,(d+1),k,p,b,h)else none)else oB (s_l1In_m N (b.length:Int) 1 3) fun K=>bif !K then some false else oB (jT N h) fun B=>bif !B then some false else oB (jaq N h) fun E=>bif !decide (E=h)then some false else if fits (j+1)then v ((j+1),k,p)else none) N (l,(0:Int),o,f,r.1,r.2))else bif decide ((o.length:Int)<=6)then some (decide ((f.length:Int)<=4))else some false) N ((0:Int),c,i)) N ((0:Int),H,A))
theorem jtf :mK 108 (bX [.agg [.pv (.sl .str),.pv Y20]] [pB] (c2A (jcw N))):=
 mO (fC (jgp N) (fC (jfZ N) (fC (jhP N) (fC (jcL N) ja)))) func108 rfl N (.seq .no (.seq (.seq .no (.block (.loop jrs .no))) (.seq (.seq .no (.block (.loop js0 (.seq .no (.seq (.block (.seq .no (.seq (.seq .no (.block (.loop jrc .no))) .no))) .no))))) .no))) _
def jot :Sh:=⟨pS:: .dead:: .dead::pI::dz 19 [],[]⟩
def jcu (h:List UInt8):Z8:=
 (iter (fun c (b,a)=>bif decide (a<(b.length:Int))then oB (idx b a) fun d=>(bif decide ((d.toNat:Int)<32)then some false else oB (idx b a) fun f=>bif decide ((126:Int)<(f.toNat:Int))then some false else if fits (a+1)then c (b,(a+1))else none)else some (decide ((b.length:Int)<=160))) N (h,(0:Int)))
theorem jpZ :mK 253 (bX [pS] [pB] (c1A (jcu N))):=
 mO ja func253 rfl N (.seq .no (.seq (.seq .no (.block (.loop jot .no))) .no)) _
def jp0 :Sh:=⟨.dead:: .box 1 0:: .dead::pI::dz 100 [],[(1,false,[pI,.pv Y23,.pv Y19])]⟩
def jtP :Sh:=⟨.dead:: .box 1 0::dz 3 (pI::dz 98 []),[(1,false,[pI,.pv Y23,.pv Y19])]⟩
def jcb (v:Int) (z:Z16) (x:Z11):Z8:=
 (iter (fun l (b,k,d,f)=>bif decide (b<(d.length:Int))then oB (idx d b) fun e=>(oB (jT N e.1) fun y=>bif !y then some false else oB (jcu N e.2) fun q=>bif !q then some false else bif decide ((0:Int)<b)then if fits (b-1)then oB (idx d (b-1)) fun o=>(bif Op.bytesLess e.1 o.1||decide (e.1=o.1)then some false else if fits (b+1)then l ((b+1),k,d,f)else none)else none else if fits (b+1)then l ((b+1),k,d,f)else none)else iter (fun m (a,j,i,c)=>bif decide (a<(c.length:Int))then oB (idx c a) fun u=>(oB (jT N u.1) fun r=>bif !r then some false else oB (idx c a) fun A=>oB (s_l1In_m N A.2 0 999999999) fun t=>bif !t then some false else bif decide ((0:Int)<a)then oB (idx c a) fun p=>(if fits (a-1)then oB (idx c (a-1)) fun n=>(bif Op.bytesLess p.1 n.1||decide (p.1=n.1)then some false else if fits (a+1)then m ((a+1),j,i,c)else none)else none)else if fits (a+1)then m ((a+1),j,i,c)else none)else oB (s_l1In_m N j 1 9999) fun B=>bif B then oB (s_l1In_m N (i.length:Int) 0 3) fun w=>(bif w then some (decide ((c.length:Int)<=3))else some false)else some false) N ((0:Int),k,d,f)) N ((0:Int),v,z,x))
theorem jpD :mK 177 (bX [.agg [pI,.pv Y23,.pv Y19]] [pB] (c3A (jcb N))):=
 mO (fC (jgp N) (fC (jpZ N) (fC (jcL N) ja))) func177 rfl N (.seq .no (.seq (.seq .no (.block (.loop jp0 .no))) (.seq (.seq .no (.block (.loop jtP .no))) .no))) _
def jkS :Sh:=⟨.pv Y4:: .dead:: .dead::pI::dz 33 [],[]⟩
def jbU (j:List Z0):Z8:=
 (iter (fun d (b,a)=>bif decide (a<(b.length:Int))then oB (idx b a) fun c=>(oB (jcb N c.1 c.2.1 c.2.2) fun e=>bif !e then some false else bif decide ((0:Int)<a)then oB (idx b a) fun i=>(if fits (a-1)then oB (idx b (a-1)) fun h=>(bif decide (i.1<=h.1)then some false else if fits (a+1)then d (b,(a+1))else none)else none)else if fits (a+1)then d (b,(a+1))else none)else some (decide ((b.length:Int)<=16))) N (j,(0:Int)))
theorem jpx :mK 109 (bX [.pv Y4] [pB] (c1A (jbU N))):=
 mO (fC (jpD N) ja) func109 rfl N (.seq .no (.seq (.seq .no (.block (.loop jkS .no))) .no)) _
def jl5 :Sh:=⟨.pv (.sl .str)::pS::dz 3 (pI::dz 42 []),[]⟩
def s_l7Put_m (r:List Z1) (t:List UInt8):Option ((List Z1)):=
 (iter (fun m (a,c,b)=>bif decide (b<(a.length:Int))then oB (idx a b) fun p=>(bif Op.bytesLess p c then if fits (b+1)then m (a,c,(b+1))else none else bif decide (b<(a.length:Int))then oB (idx a b) fun q=>(bif decide (q=c)then some a else oB (cut a 0 b) fun e=>if room ([]:List Z1).length e.length 16 then if room (([]:List Z1)++e).length ([c]:List Z1).length 16 then oB (cut a b (a.length:Int)) fun l=>(if room ((([]:List Z1)++e)++([c]:List Z1)).length l.length 16 then some (((([]:List Z1)++e)++([c]:List Z1))++l)else none)else none else none)else oB (cut a 0 b) fun d=>if room ([]:List Z1).length d.length 16 then if room (([]:List Z1)++d).length ([c]:List Z1).length 16 then oB (cut a b (a.length:Int)) fun i=>(if room ((([]:List Z1)++d)++([c]:List Z1)).length i.length 16 then some (((([]:List Z1)++d)++([c]:List Z1))++i)else none)else none else none)else bif decide (b<(a.length:Int))then oB (idx a b) fun o=>(bif decide (o=c)then some a else oB (cut a 0 b) fun h=>if room ([]:List Z1).length h.length 16 then if room (([]:List Z1)++h).length ([c]:List Z1).length 16 then oB (cut a b (a.length:Int)) fun k=>(if room ((([]:List Z1)++h)++([c]:List Z1)).length k.length 16 then some (((([]:List Z1)++h)++([c]:List Z1))++k)else none)else none else none)else oB (cut a 0 b) fun f=>if room ([]:List Z1).length f.length 16 then if room (([]:List Z1)++f).length ([c]:List Z1).length 16 then oB (cut a b (a.length:Int)) fun j=>(if room ((([]:List Z1)++f)++([c]:List Z1)).length j.length 16 then some (((([]:List Z1)++f)++([c]:List Z1))++j)else none)else none else none) N (r,t,(0:Int)))
theorem jgt :mK 187 (bX [.pv (.sl .str),pS] [.pv (.sl .str)] (c2A (s_l7Put_m N))):=
 mO ja func187 rfl N (.seq .no (.seq .no (.seq (.block (.loop jl5 .no)) .no))) _
def joT :Sh:=⟨.pv Y4:: .dead:: .dead:: .pv (.sl .str)::pI::dz 30 [],[]⟩
def jkn :Sh:=⟨.pv Y4:: .dead:: .dead:: .pv (.sl .str)::pI::pI::dz 29 [],[]⟩
def s_l7Names_m (l:List Z0):Option ((List Z1)):=
 (iter (fun j (h,f,e)=>bif decide (e<(h.length:Int))then iter (fun m (c,i,a,b)=>oB (idx c a) fun p=>bif decide (b<(p.2.1.length:Int))then oB (idx c a) fun o=>(oB (idx o.2.1 b) fun n=>oB (s_l7Put_m N i n.1) fun k=>if fits (b+1)then m (c,k,a,(b+1))else none)else if fits (a+1)then j (c,i,(a+1))else none) N (h,f,e,(0:Int))else some f) N (l,([]:List Z1),(0:Int)))
theorem jlz :mK 113 (bX [.pv Y4] [.pv (.sl .str)] (c1A (s_l7Names_m N))):=
 mO (fC (jgt N) ja) func113 rfl N (.seq .no (.seq .no (.seq (.seq .no (.block (.loop joT (.seq .no (.seq (.block (.seq .no (.block (.loop jkn .no)))) .no))))) .no))) _
def jl8 :Sh:=⟨.dead::pS:: .box 2 0:: .dead:: .dead::pI::dz 21 [],[(2,false,[pI,.pv Y23,.pv Y19])]⟩
def s_l6Field_m (j:Int) (i:Z16) (n:Z11) (m:List UInt8):Option (Z1):=
 (iter (fun e (c,a,f,b,d)=>bif decide (a<(b.length:Int))then oB (idx b a) fun l=>(bif decide (l.1=c)then oB (idx b a) fun k=>(some k.2)else if fits (a+1)then e (c,(a+1),f,b,d)else none)else some ([]:List UInt8)) N (m,(0:Int),j,i,n))
theorem jhA :mK 189 (bX [.agg [pI,.pv Y23,.pv Y19],pS] [pS] (c4A (s_l6Field_m N))):=
 mO ja func189 rfl N (.seq .no (.seq (.seq .no (.block (.loop jl8 .no))) .no)) _
def jo3 :Sh:=⟨pS:: .dead:: .dead:: .own 600003 Y8 188 true::pI::dz 50 [],[]⟩
def jm6 :Sh:=⟨pS:: .dead:: .dead:: .own 600003 Y8 188 true::pI:: .own 600005 (.int .u8) 5 true::pI::dz 48 [],[]⟩
def jtK :Sh:=⟨pS:: .dead:: .dead:: .own 600003 Y8 188 true::pI:: .pv (.sl (.int .u8))::pI::dz 48 [],[]⟩
def jb3 (E:List UInt8):Option ((List Z13)):=
 (iter (fun l (w,q,n)=>bif decide (n<(w.length:Int))then iter (fun z (b,h,a,c,k)=>bif decide (a<(b.length:Int))then oB (idx b a) fun D=>(oB (jt N (D.toNat:Int)) fun C=>bif !decide (C=0)then oB (idx b a) fun A=>(oB (jt N (A.toNat:Int)) fun p=>if room c.length ([p]:List Int).length 1 then if fits (a+1)then z (b,h,(a+1),(c++([p]:List Int)),k)else none else none)else meet (fun(d:Z1×(List Z13)×Int×(List Int)×Int)=>match d with|(y,i,e,m,t)=>bif decide ((0:Int)<m.length)then if room i.length ([((bytesOf m),(i.length:Int),t,e)]:List Z13).length 40 then if fits (e+1)then l (y,(i++([((bytesOf m),(i.length:Int),t,e)]:List Z13)),(e+1))else none else none else if fits (e+1)then l (y,i,(e+1))else none) fun r=>bif decide ((12:Int)<c.length)then oB (cut c 0 12) fun B=>(r (b,h,a,B,k))else r (b,h,a,c,k))else meet (fun(d:Z1×(List Z13)×Int×(List Int)×Int)=>match d with|(u,j,f,o,x)=>bif decide ((0:Int)<o.length)then if room j.length ([((bytesOf o),(j.length:Int),x,f)]:List Z13).length 40 then if fits (f+1)then l (u,(j++([((bytesOf o),(j.length:Int),x,f)]:List Z13)),(f+1))else none else none else if fits (f+1)then l (u,j,(f+1))else none) fun v=>bif decide ((12:Int)<c.length)then oB (cut c 0 12) fun G=>(v (b,h,a,G,k))else v (b,h,a,c,k)) N (w,q,n,([]:List Int),n)else some q) N (E,([]:List Z13),(0:Int)))
theorem jsr :mK 311 (bX [pS] [.own 1 Y8 188 true] (c1A (jb3 N))):=
 mO (fC (jfG N) ja) func311 rfl N (.seq .no (.seq .no (.seq (.seq .no (.block (.loop jo3 (.seq .no (.seq (.block (.seq .no (.seq .no (.seq (.block (.loop jm6 .no)) (.meet jtK .no .no))))) .no))))) .no))) _
def jmf :Sh:=⟨.dead:: .dead:: .box 2 0:: .dead:: .dead:: .own 600005 Y21 111 true:: .own 600006 Y8 188 true::pI::dz 43 [],[(2,false,[.pv (.sl .str),.pv Y20])]⟩
def jbY (p:List Z1) (m:List Z4) (r:List UInt8):Option (Z9):=
 (oB (jb3 N r) fun o=>iter (fun f (c,b,a,d,h)=>bif decide (a<(b.length:Int))then oB (idx b a) fun n=>(oB (jaq N n.1) fun e=>oB (idx b a) fun q=>oB (jap N d q.1) fun j=>bif !j then oB (jap N d e) fun l=>(bif !l then oB (idx b a) fun i=>(if room c.length ([(e,i.2.1)]:Z11).length 24 then if fits (a+1)then f ((c++([(e,i.2.1)]:Z11)),b,(a+1),d,h)else none else none)else if fits (a+1)then f (c,b,(a+1),d,h)else none)else if fits (a+1)then f (c,b,(a+1),d,h)else none)else some c) N (([]:Z11),o,(0:Int),p,m))
theorem jrk :mK 266 (bX [.agg [.pv (.sl .str),.pv Y20],pS] [.own 1 Y21 111 true] (c3A (jbY N))):=
 mO (fC (jsr N) (fC (jfZ N) (fC (jhP N) ja))) func266 rfl N (.seq .no (.seq .no (.seq .no (.seq (.seq .no (.block (.loop jmf .no))) .no)))) _
def jrL :Sh:=⟨.pv Y19:: .pv (.sl .str)::dz 3 (pI::dz 36 []),[]⟩
def jcC (j:Z11) (k:List Z1):Z8:=
 (iter (fun e (b,c,a)=>bif decide (a<(c.length:Int))then bif decide ((b.length:Int)<=a)then some false else(oB (idx b a) fun l=>oB (idx c a) fun i=>bif !decide (l.1=i)then some false else oB (idx b a) fun h=>oB (idx b 0) fun d=>if fits (d.2+a)then bif !decide (h.2=(d.2+a))then some false else(if fits (a+1)then e (b,c,(a+1))else none)else none)else some true) N (j,k,(0:Int)))
theorem jtg :mK 312 (bX [.pv Y19,.pv (.sl .str)] [pB] (c2A (jcC N))):=
 mO ja func312 rfl N (.seq .no (.seq (.seq .no (.block (.loop jrL .no))) .no)) _
def jlL :Sh:=⟨.dead:: .pv Y19:: .box 2 0:: .dead:: .dead::pI::pI::dz 38 [],[(2,false,[.pv (.sl .str),.pv Y20])]⟩
def jcJ (i:List Z1) (n:List Z4) (m:Z11):Z12:=
 (iter (fun e (c,d,a,f,b)=>bif decide (a<(b.length:Int))then oB (idx b a) fun o=>(oB (jcC N c o.1) fun h=>bif h then bif decide (d<0)then if fits (a+1)then e (c,a,(a+1),f,b)else none else(oB (idx b a) fun l=>oB (idx b d) fun k=>bif decide ((k.1.length:Int)<(l.1.length:Int))then if fits (a+1)then e (c,a,(a+1),f,b)else none else if fits (a+1)then e (c,d,(a+1),f,b)else none)else if fits (a+1)then e (c,d,(a+1),f,b)else none)else some d) N (m,((-1):Int),(0:Int),i,n))
theorem jqp :mK 267 (bX [.agg [.pv (.sl .str),.pv Y20],.pv Y19] [pI] (c3A (jcJ N))):=
 mO (fC (jtg N) ja) func267 rfl N (.seq .no (.seq .no (.seq (.seq .no (.block (.loop jlL .no))) .no))) _
def jnK :Sh:=⟨.dead:: .dead:: .box 2 0:: .dead:: .dead:: .own 600005 Y21 111 true:: .pv Y19::dz 45 [],[(2,false,[.pv (.sl .str),.pv Y20])]⟩
def ja5 (k:List Z1) (i:List Z4) (p:List UInt8):Option (Z9):=
 (oB (jbY N k i p) fun o=>iter (fun f (b,a,e,c)=>bif decide ((0:Int)<a.length)then oB (jcJ N e c a) fun d=>(bif decide (d<0)then oB (idx a 0) fun j=>(if room b.length ([j]:Z11).length 24 then oB (cut a 1 (a.length:Int)) fun n=>(f ((b++([j]:Z11)),n,e,c))else none)else oB (idx c d) fun l=>oB (idx a 0) fun h=>if room b.length ([(l.2,h.2)]:Z11).length 24 then oB (idx c d) fun q=>(oB (cut a (q.1.length:Int) (a.length:Int)) fun r=>f ((b++([(l.2,h.2)]:Z11)),r,e,c))else none)else some b) N (([]:Z11),o,k,i))
theorem jiO :mK 188 (bX [.agg [.pv (.sl .str),.pv Y20],pS] [.own 1 Y21 111 true] (c3A (ja5 N))):=
 mO (fC (jrk N) (fC (jqp N) ja)) func188 rfl N (.seq .no (.seq .no (.seq .no (.seq (.block (.loop jnK .no)) .no)))) _
def jn9 :Sh:=⟨.dead:: .pv Y4::pS:: .box 3 0::dz 3 (.pv (.sl .str)::pI::dz 31 []),[(3,false,[.pv (.sl .str),.pv Y20])]⟩
def jrT :Sh:=⟨.dead:: .pv Y4::pS:: .box 3 0::dz 3 (.pv (.sl .str)::pI:: .own 600009 Y21 111 true::pI::dz 29 []),[(3,false,[.pv (.sl .str),.pv Y20])]⟩
def s_l7Terms_m (z:List Z1) (x:List Z4) (u:List Z0) (A:List UInt8):Option ((List Z1)):=
 (iter (fun t (d,l,i,b,n,j)=>bif decide (b<(d.length:Int))then oB (idx d b) fun e=>(oB (s_l6Field_m N e.1 e.2.1 e.2.2 l) fun y=>oB (ja5 N n j y) fun r=>iter (fun v (q,m,k,h,f,a,o,p)=>bif decide (a<(f.length:Int))then oB (idx f a) fun B=>(oB (s_l7Put_m N k B.1) fun w=>if fits (a+1)then v (q,m,w,h,f,(a+1),o,p)else none)else if fits (h+1)then t (q,m,k,(h+1),o,p)else none) N (d,l,i,b,r,(0:Int),n,j))else some i) N (u,A,([]:List Z1),(0:Int),z,x))
theorem jqQ :mK 114 (bX [.agg [.pv (.sl .str),.pv Y20],.pv Y4,pS] [.pv (.sl .str)] (c4A (s_l7Terms_m N))):=
 mO (fC (jhA N) (fC (jiO N) (fC (jgt N) ja))) func114 rfl N (.seq .no (.seq .no (.seq (.seq .no (.block (.loop jn9 (.seq .no (.seq (.block (.seq .no (.seq .no (.block (.loop jrT .no))))) .no))))) .no))) _
def jnY :Sh:=⟨dz 3 (pS::dz 5 (.own 600009 tI 3 true:: .own 600010 Y21 111 true::pI::dz 28 [])),[]⟩
def s_l7Post_m (o:List Z1) (k:List Z4) (j:Int) (q:Z16) (m:Z11) (p:List UInt8) (r:List UInt8):Option ((List Int)):=
 (oB (s_l6Field_m N j q m p) fun n=>oB (ja5 N o k n) fun h=>iter (fun e (d,c,b,a)=>bif decide (a<(b.length:Int))then oB (idx b a) fun l=>(bif decide (l.1=d)then oB (idx b a) fun f=>(if room c.length ([f.2]:List Int).length 8 then if fits (a+1)then e (d,(c++([f.2]:List Int)),b,(a+1))else none else none)else if fits (a+1)then e (d,c,b,(a+1))else none)else some c) N (r,([]:List Int),h,(0:Int)))
theorem js6 :mK 190 (bX [.agg [.pv (.sl .str),.pv Y20],.agg [pI,.pv Y23,.pv Y19],pS,pS] [.own 1 tI 3 true] (c7A (s_l7Post_m N))):=
 mO (fC (jhA N) (fC (jiO N) ja)) func190 rfl N (.seq .no (.seq .no (.seq .no (.seq (.seq .no (.block (.loop jnY .no))) .no)))) _
def jkw :Sh:=⟨.dead:: .pv Y4::pS::pS:: .box 4 0::dz 3 (.box 8 0:: .box 9 0::pI::dz 34 []),[(4,false,[.pv (.sl .str),.pv Y20]),(8,false,[pS,pS,.nils]),(9,false,[pS,pS,.own 700902 Y16 196 true])]⟩
def s_l7Entry_m (w:List Z1) (v:List Z4) (t:List Z0) (p:List UInt8) (q:List UInt8):Option Z2:=
 (iter (fun m (b,e,j,a,h,d,o,n,f,k,c)=>bif decide (a<(b.length:Int))then oB (idx b a) fun l=>(oB (s_l7Post_m N h d l.1 l.2.1 l.2.2 e j) fun i=>bif decide ((0:Int)<i.length)then oB (idx b a) fun r=>(if room c.length ([(r.1,i)]:Z6).length 32 then if fits (a+1)then m (b,e,j,(a+1),h,d,o,n,f,k,(c++([(r.1,i)]:Z6)))else none else none)else if fits (a+1)then m (b,e,j,(a+1),h,d,o,n,f,k,c)else none)else some (f,k,c)) N (t,p,q,(0:Int),w,v,([]:List UInt8),([]:List UInt8),p,q,([]:Z6)))
theorem jtr :mK 115 (bX [.agg [.pv (.sl .str),.pv Y20],.pv Y4,pS,pS] [.agg [pS,pS,.own 1 Y16 196 true]] (c5A (s_l7Entry_m N))):=
 mO (fC (js6 N) ja) func115 rfl N (.seq .no (.seq .no (.seq (.seq .no (.block (.loop jkw .no))) .no))) _
def s_l7CopyDoc_m (N:Nat) (c:Int) (a:Z16) (b:Z11):Option Z0:=
 (if room ([]:Z16).length a.length 32 then if room ([]:Z11).length b.length 24 then some (c,(([]:Z16)++a),(([]:Z11)++b))else none else none)
theorem jtC :mK 116 (bX [.agg [pI,.pv Y23,.pv Y19]] [.agg [pI,.own 1 Y24 107 true,.own 2 Y21 258 true]] (c3A (s_l7CopyDoc_m N))):=
 mO ja func116 rfl N .no _
def jn8 :Sh:=⟨.dead:: .pv Y4:: .box 2 0:: .dead:: .box 4 0:: .box 5 0:: .pv (.sl .str)::pI::dz 58 [],[(2,false,[.pv (.sl .str),.pv Y20]),(4,false,[.nils,.nils]),(5,false,[.nils,.own 700501 Y7 116 true])]⟩
def jpr :Sh:=⟨.dead:: .pv Y4:: .box 2 0:: .dead:: .box 4 0:: .box 5 0:: .pv (.sl .str)::pI:: .pv (.sl .str)::pI::dz 56 [],[(2,false,[.pv (.sl .str),.pv Y20]),(4,false,[.nils,.nils]),(5,false,[.nils,.own 700501 Y7 116 true])]⟩
def jn0 :Sh:=⟨.dead:: .pv Y4:: .dead:: .dead:: .box 4 0:: .box 5 0::dz 4 (pI::dz 55 []),[(4,false,[.nils,.nils]),(5,false,[.own 700500 Y5 105 true,.own 700501 Y7 116 true])]⟩
def s_l7Of_m (I:List Z1) (E:List Z4) (r:List Z0):Option ((List Z0)×(List Z2)):=
 (oB (s_l7Names_m N r) fun H=>iter (fun A (f,m,e,w,u,x)=>bif decide (e<(m.length:Int))then oB (idx m e) fun G=>(oB (s_l7Terms_m N w u f G) fun z=>iter (fun C (o,p,d,n,c,j,k,l)=>bif decide (c<(n.length:Int))then oB (idx p d) fun K=>(oB (idx n c) fun D=>oB (s_l7Entry_m N j k o K D) fun t=>if room l.length ([t]:List Z2).length 56 then if fits (c+1)then C (o,p,d,n,(c+1),j,k,(l++([t]:List Z2)))else none else none)else if fits (d+1)then A (o,p,(d+1),j,k,l)else none) N (f,m,e,z,(0:Int),w,u,x))else iter (fun B (h,b,i,y)=>bif decide (b<(h.length:Int))then oB (idx h b) fun q=>(oB (s_l7CopyDoc_m N q.1 q.2.1 q.2.2) fun v=>if room i.length ([v]:List Z0).length 56 then if fits (b+1)then B (h,(b+1),(i++([v]:List Z0)),y)else none else none)else some (i,y)) N (f,(0:Int),([]:List Z0),x)) N (r,H,(0:Int),I,E,([]:List Z2)))
theorem jmU :mK 48 (bX [.agg [.pv (.sl .str),.pv Y20],.pv Y4] [.agg [.own 1 Y5 105 true,.own 2 Y7 116 true]] (c3A (s_l7Of_m N))):=
 mO (fC (jlz N) (fC (jqQ N) (fC (jtr N) (fC (jtC N) ja)))) func48 rfl N (.seq .no (.seq .no (.seq .no (.seq (.seq .no (.block (.loop jn8 (.seq .no (.seq (.block (.seq .no (.seq .no (.block (.loop jpr .no))))) .no))))) (.seq (.seq .no (.block (.loop jn0 .no))) .no))))) _
def jnI :Sh:=⟨.pv Y25:: .pv Y25::dz 3 (pI::dz 20 []),[]⟩
def jb1 (e:List Int) (c:List Int):Z8:=
 (bif !decide ((e.length:Int)=(c.length:Int))then some false else iter (fun f (b,d,a)=>bif decide (a<(b.length:Int))then oB (idx b a) fun j=>(oB (idx d a) fun i=>bif !decide (j=i)then some false else if fits (a+1)then f (b,d,(a+1))else none)else some true) N (e,c,(0:Int)))
theorem jlH :mK 250 (bX [.pv Y25,.pv Y25] [pB] (c2A (jb1 N))):=
 mO ja func250 rfl N (.seq .no (.seq .no (.seq (.seq .no (.block (.loop jnI .no))) .no))) _
def jnx :Sh:=⟨.dead:: .dead:: .box 2 0:: .box 3 0:: .dead::pI::dz 57 [],[(2,false,[pS,pS,.pv Y15]),(3,false,[pS,pS,.pv Y15])]⟩
def jbQ (j:List UInt8) (e:List UInt8) (h:Z6) (f:List UInt8) (d:List UInt8) (i:Z6):Z8:=
 (bif !decide (j=f)then some false else bif !decide (e=d)then some false else bif !decide ((h.length:Int)=(i.length:Int))then some false else iter (fun k (a,t,q,b,p,n,c)=>bif decide (a<(b.length:Int))then oB (idx b a) fun o=>(oB (idx c a) fun u=>bif !decide (o.1=u.1)then some false else oB (idx b a) fun m=>oB (idx c a) fun v=>oB (jb1 N m.2 v.2) fun r=>bif !r then some false else if fits (a+1)then k ((a+1),t,q,b,p,n,c)else none)else some true) N ((0:Int),j,e,h,f,d,i))
theorem jtG :mK 173 (bX [.agg [pS,pS,.pv Y15],.agg [pS,pS,.pv Y15]] [pB] (c6A (jbQ N))):=
 mO (fC (jlH N) ja) func173 rfl N (.seq .no (.seq .no (.seq (.seq .no (.block (.loop jnx .no))) .no))) _
def jrW :Sh:=⟨dz 3 (.box 3 0:: .dead:: .box 5 0::pI::dz 39 []),[(3,false,[.pv Y4,.pv Y6]),(5,false,[.own 700500 Y5 105 true,.own 700501 Y7 116 true])]⟩
def jcR (i:List Z1) (h:List Z4) (f:List Z0) (j:List Z2):Z8:=
 (oB (jcw N i h) fun r=>bif !r then some false else oB (jbU N f) fun l=>bif !l then some false else oB (s_l7Of_m N i h f) fun b=>bif !decide ((b.2.length:Int)=(j.length:Int))then some false else iter (fun m (a,q,k,p,c)=>bif decide (a<(c.length:Int))then oB (idx c a) fun d=>(oB (idx k a) fun e=>oB (jbQ N d.1 d.2.1 d.2.2 e.1 e.2.1 e.2.2) fun o=>bif !o then some false else if fits (a+1)then m ((a+1),q,k,p,c)else none)else some true) N ((0:Int),f,j,b.1,b.2))
theorem jpm :mK 105 (bX [.agg [.pv (.sl .str),.pv Y20],.agg [.pv Y4,.pv Y6]] [pB] (c4A (jcR N))):=
 mO (fC (jtf N) (fC (jpx N) (fC (jmU N) (fC (jtG N) ja)))) func105 rfl N (.seq .no (.seq .no (.seq .no (.seq .no (.seq (.seq .no (.block (.loop jrW .no))) .no))))) _
def jCI :Sh:=⟨.pv Y25:: .dead:: .dead::pI::dz 31 [],[]⟩
def jx3 (i:List Int):Z8:=
 (iter (fun c (b,a)=>bif decide (a<(b.length:Int))then oB (idx b a) fun j=>(oB (s_l1In_m N j 0 999999999) fun d=>bif !d then some false else bif decide ((0:Int)<a)then oB (idx b a) fun h=>(if fits (a-1)then oB (idx b (a-1)) fun f=>(bif decide (h<=f)then some false else if fits (a+1)then c (b,(a+1))else none)else none)else if fits (a+1)then c (b,(a+1))else none)else some (decide ((b.length:Int)<=60))) N (i,(0:Int)))
theorem jC9 :mK 106 (bX [.pv Y25] [pB] (c1A (jx3 N))):=
 mO (fC (jcL N) ja) func106 rfl N (.seq .no (.seq (.seq .no (.block (.loop jCI .no))) .no)) _
def jA0 :Sh:=⟨.dead::pI:: .box 2 0:: .dead:: .box 4 0::pI::dz 21 [],[(2,false,[.pv Y4,.pv Y6]),(4,false,[pI,.nils,.nils])]⟩
def jyv (j:List Z0) (l:List Z2) (k:Int):Option Z0:=
 (iter (fun e (d,a,b,m,f)=>bif decide (a<(b.length:Int))then oB (idx b a) fun i=>(bif decide (i.1=d)then oB (idx b a) fun c=>(some (c.1,c.2.1,c.2.2))else if fits (a+1)then e (d,(a+1),b,m,f)else none)else some (0,([]:Z16),([]:Z11))) N (k,(0:Int),j,l,(0:Int)))
theorem jDn :mK 107 (bX [.agg [.pv Y4,.pv Y6],pI] [.agg [pI,.pv Y23,.pv Y19]] (c3A (jyv N))):=
 mO ja func107 rfl N (.seq .no (.seq (.seq .no (.block (.loop jA0 .no))) .no)) _
def jJe :Sh:=⟨.pv Y25::pI::dz 3 (pI::dz 12 []),[]⟩
def jHH (h:List Int) (e:Int):Z8:=
 (iter (fun d (b,c,a)=>bif decide (a<(b.length:Int))then oB (idx b a) fun i=>(bif decide (i=c)then some true else if fits (a+1)then d (b,c,(a+1))else none)else some false) N (h,e,(0:Int)))
theorem jIb :mK 191 (bX [.pv Y25,pI] [pB] (c2A (jHH N))):=
 mO ja func191 rfl N (.seq .no (.seq (.seq .no (.block (.loop jJe .no))) .no)) _
def s_l18Dead_m (d:List Z0) (e:List Z2) (c:List Int) (a:Int):Z8:=
 (oB (jHH N c a) fun b=>some b)
theorem jIy :mK 117 (bX [.agg [.pv Y4,.pv Y6,.pv Y25],pI] [pB] (c4A (s_l18Dead_m N))):=
 mO (fC (jIb N) ja) func117 rfl N .no _
def jIl :Sh:=⟨.pv Y4:: .dead:: .dead:: .box 3 0:: .dead::pI::dz 32 [],[(3,false,[pI,.pv Y23,.pv Y19])]⟩
def s_l18Put_m (t:List Z0) (o:Int) (r:Z16) (q:Z11):Z21:=
 (iter (fun m (a,b,e,j,f)=>bif decide (b<(a.length:Int))then oB (idx a b) fun p=>(bif decide (p.1<e)then if fits (b+1)then m (a,(b+1),e,j,f)else none else oB (cut a 0 b) fun d=>if room ([]:List Z0).length d.length 56 then oB (s_l7CopyDoc_m N e j f) fun i=>(if room (([]:List Z0)++d).length ([i]:List Z0).length 56 then oB (cut a b (a.length:Int)) fun l=>(if room ((([]:List Z0)++d)++([i]:List Z0)).length l.length 56 then some (((([]:List Z0)++d)++([i]:List Z0))++l)else none)else none)else none)else oB (cut a 0 b) fun c=>if room ([]:List Z0).length c.length 56 then oB (s_l7CopyDoc_m N e j f) fun h=>(if room (([]:List Z0)++c).length ([h]:List Z0).length 56 then oB (cut a b (a.length:Int)) fun k=>(if room ((([]:List Z0)++c)++([h]:List Z0)).length k.length 56 then some (((([]:List Z0)++c)++([h]:List Z0))++k)else none)else none)else none) N (t,(0:Int),o,r,q))
theorem jJy :mK 118 (bX [.pv Y4,.agg [pI,.pv Y23,.pv Y19]] [.own 1 Y5 105 false] (c4A (s_l18Put_m N))):=
 mO (fC (jtC N) ja) func118 rfl N (.seq .no (.seq .no (.seq (.block (.loop jIl .no)) .no))) _
def jI2 :Sh:=⟨.dead:: .box 1 0:: .dead:: .own 600003 Y5 105 false::pI::dz 45 [],[(1,false,[.pv (.sl .str),.pv Y20,.pv Y1])]⟩
def jJx :Sh:=⟨.dead:: .box 1 0:: .dead:: .own 600003 Y5 105 false::pI::pI::dz 44 [],[(1,false,[.pv (.sl .str),.pv Y20,.pv Y1])]⟩
def s_l18Docs_m (u:List Z1) (q:List Z4) (w:List Z7):Z21:=
 (iter (fun p (l,k,r,t,n)=>bif decide (k<(n.length:Int))then iter (fun m (f,a,b,j,h,c)=>oB (idx c a) fun v=>bif decide (b<(v.1.1.length:Int))then oB (idx c a) fun y=>(oB (idx y.1.1 b) fun d=>oB (idx c a) fun i=>oB (s_l18Dead_m N i.1.1 i.1.2 i.2 d.1) fun x=>bif !x then oB (s_l18Put_m N f d.1 d.2.1 d.2.2) fun o=>(if fits (b+1)then m (o,a,(b+1),j,h,c)else none)else if fits (b+1)then m (f,a,(b+1),j,h,c)else none)else if fits (a+1)then p (f,(a+1),j,h,c)else none) N (l,k,(0:Int),r,t,n)else some l) N (([]:List Z0),(0:Int),u,q,w))
theorem jH3 :mK 49 (bX [.agg [.pv (.sl .str),.pv Y20,.pv Y1]] [.own 1 Y5 105 false] (c3A (s_l18Docs_m N))):=
 mO (fC (jIy N) (fC (jJy N) ja)) func49 rfl N (.seq .no (.seq .no (.seq (.seq .no (.block (.loop jI2 (.seq .no (.seq (.block (.seq .no (.block (.loop jJx .no)))) .no))))) .no))) _
def jIz :Sh:=⟨.dead:: .box 1 0:: .dead::pI::dz 67 [],[(1,false,[.pv (.sl .str),.pv Y20,.pv Y1])]⟩
def jJd :Sh:=⟨.dead:: .box 1 0:: .dead::pI:: .box 4 0::pI::dz 22 (pB::dz 9 (pB::dz 32 [])),[(1,false,[.pv (.sl .str),.pv Y20,.pv Y1]),(4,false,[.pv Y4,.pv Y6,.pv Y25])]⟩
def s_l18Ok_m (w:List Z1) (u:List Z4) (z:List Z7):Z8:=
 (iter (fun q (f,c,d,b)=>bif decide (f<(b.length:Int))then oB (idx b f) fun a=>(oB (jcR N c d a.1.1 a.1.2) fun B=>bif !B then some false else oB (jx3 N a.2) fun k=>bif !k then some false else bif decide ((a.1.1.length:Int)<=(a.2.length:Int))then some false else iter (fun r (i,e,x,A,p,n,m,o,l,j)=>bif decide (e<(j.length:Int))then oB (idx j e) fun C=>(oB (jyv N o l C) fun t=>bif decide (t.1=0)then some false else if fits (e+1)then r (i,(e+1),x,A,p,n,m,o,l,j)else none)else if fits (i+1)then q ((i+1),p,n,m)else none) N (f,(0:Int),(!k),(decide ((a.1.1.length:Int)<=(a.2.length:Int))),c,d,b,a.1.1,a.1.2,a.2))else oB (jcw N c d) fun v=>bif v then bif decide ((b.length:Int)<=5)then oB (s_l18Docs_m N c d b) fun D=>(oB (jbU N D) fun y=>some y)else(some false)else some false) N ((0:Int),w,u,z))
theorem jIW :mK 44 (bX [.agg [.pv (.sl .str),.pv Y20,.pv Y1]] [pB] (c3A (s_l18Ok_m N))):=
 mO (fC (jpm N) (fC (jC9 N) (fC (jDn N) (fC (jtf N) (fC (jH3 N) (fC (jpx N) ja)))))) func44 rfl N (.seq .no (.seq (.seq .no (.block (.loop jIz (.seq .no (.seq (.block (.seq .no (.seq .no (.seq .no (.block (.loop jJd .no)))))) .no))))) .no)) _
def s_l1Dec_m (N:Nat):(D:Nat)->Int->Option (Z1)
 |0,_=>none
 |D+1,n=>
 bif decide (n<(-9223372036854775807))then
 some ([45,57,50,50,51,51,55,50,48,51,54,56,53,52,55,55,53,56,48,56]:List UInt8)
 else
 bif decide (n<0)then
 if fits (0-n)then oB (s_l1Dec_m N D (0-n)) fun r=>
 (if([45]:List UInt8).length+r.length<=9223372036854775807 then
 some (([45]:List UInt8)++r)
 else none)else none
 else
 bif decide (n<10)then
 if fits (48+n)then some (bytesOf ([(IntKind.u8.wrap (48+n))]:List Int))else none
 else
 if 10≠0 then
 if fits (n.tdiv 10)then oB (s_l1Dec_m N D (n.tdiv 10)) fun r2=>
 (if 10≠0 then
 if fits (48+(n.tmod 10))then if r2.length+(bytesOf ([(IntKind.u8.wrap (48+(n.tmod 10)))]:List Int)).length<=9223372036854775807 then
 some (r2++(bytesOf ([(IntKind.u8.wrap (48+(n.tmod 10)))]:List Int)))
 else none else none
 else none)else none
 else none
def jOp (N D:Nat):Model:=⟨⟨[pI],[]⟩,⟨[pS],[]⟩,c1A (s_l1Dec_m N D)⟩
theorem jPg (N D:Nat) (ih:mK 142 (jOp N D)):mK 142 (jOp N (D+1)):=
 mO (fC ih ja) func142 rfl N .no (jOp N (D+1))
theorem jOx (N:Nat):∀D,mK 142 (jOp N D)
 |0=>modelOk_none ⟨_,func142,by decide,by kernel_rfl⟩ _ (fun a=>rfl)
 |D+1=>jPg N D (jOx N D)
def jAu :Sh:=⟨.pv (.sl .str)::pS::dz 3 (pS::pI::dz 18 []),[]⟩
def jxS (n:List Z1) (m:List UInt8):Option (Z1):=
 (iter (fun l (f,b,c,a)=>bif decide (a<(f.length:Int))then meet (fun(d:(List Z1)×Z1×Z1×Int)=>match d with|(i,o,j,e)=>oB (idx i e) fun k=>if j.length+k.length<=9223372036854775807 then if fits (e+1)then l (i,o,(j++k),(e+1))else none else none) fun h=>(bif decide ((0:Int)<a)then if c.length+b.length<=9223372036854775807 then h (f,b,(c++b),a)else none else h (f,b,c,a))else some c) N (n,m,([]:List UInt8),(0:Int)))
theorem jAy :mK 143 (bX [.pv (.sl .str),pS] [pS] (c2A (jxS N))):=
 mO ja func143 rfl N (.seq .no (.seq .no (.seq (.seq .no (.block (.loop jAu (.seq .no (.seq (.block (.meet jAu .no .no)) .no))))) .no))) _
def jOX :Sh:=⟨.dead:: .box 1 0:: .dead:: .own 10 .str 9 true::dz 8 (pI:: .dead:: .dead::pB::dz 77 []),[(1,false,[pI,pS,.pv (.sl .str),pI,pI,.pv (.sl .q)])]⟩
def jPo :Sh:=⟨.dead:: .box 1 0:: .dead:: .dead::pS::pI::dz 87 [],[(1,false,[pI,pS,.pv (.sl .str),pI,pI,.pv (.sl .q)])]⟩
def s_l11Put_m (N:Nat):(D:Nat)->Int->Z1->(List Z1)->Int->Int->(List DQ)->Option (Z1)
 |0,_,_,_,_,_,_=>none
 |D+1,q,q2,q3,q4,q5,q6=>
 oB (s_l1Dec_m N N q4) fun r=>
 if([116,105,109,101,115,32]:List UInt8).length+r.length<=9223372036854775807 then
 bif decide (q=1)then
 some ([97,108,108]:List UInt8)
 else
 (meet (fun(g:(List Z1)×Int×Bool×Int×Z1×(List Z1)×Int×Int×(List DQ))=>
 match g with
 |(heads,t12,t15,q7,q8,q9,q10,q11,q12)=>
 bif t15 then
 if q8.length+([58]:List UInt8).length<=9223372036854775807 then
 oB (idx q9 0) fun e=>
 (if(q8++([58]:List UInt8)).length+e.length<=9223372036854775807 then
 some ((q8++([58]:List UInt8))++e)
 else none)
 else none
 else
 bif decide (t12=3)then
 if q8.length+([58]:List UInt8).length<=9223372036854775807 then
 oB (jxS N q9 ([43]:List UInt8)) fun r2=>
 (if(q8++([58]:List UInt8)).length+r2.length<=9223372036854775807 then
 if((q8++([58]:List UInt8))++r2).length+([126]:List UInt8).length<=9223372036854775807 then
 oB (s_l1Dec_m N N q10) fun r3=>
 (if(((q8++([58]:List UInt8))++r2)++([126]:List UInt8)).length+r3.length<=9223372036854775807 then
 some ((((q8++([58]:List UInt8))++r2)++([126]:List UInt8))++r3)
 else none)
 else none
 else none)
 else none
 else
 bif decide (t12=4)then
 if q8.length+([58]:List UInt8).length<=9223372036854775807 then
 oB (idx q9 0) fun e2=>
 (if(q8++([58]:List UInt8)).length+e2.length<=9223372036854775807 then
 if((q8++([58]:List UInt8))++e2).length+([37]:List UInt8).length<=9223372036854775807 then
 oB (s_l1Dec_m N N q10) fun r4=>
 (if(((q8++([58]:List UInt8))++e2)++([37]:List UInt8)).length+r4.length<=9223372036854775807 then
 some ((((q8++([58]:List UInt8))++e2)++([37]:List UInt8))++r4)
 else none)
 else none
 else none)
 else none
 else
 bif decide (t12=6)then
 if q8.length+([61]:List UInt8).length<=9223372036854775807 then
 oB (s_l1Dec_m N N q10) fun r5=>
 (if(q8++([61]:List UInt8)).length+r5.length<=9223372036854775807 then
 if((q8++([61]:List UInt8))++r5).length+([46,46]:List UInt8).length<=9223372036854775807 then
 oB (s_l1Dec_m N N q11) fun r6=>
 (if(((q8++([61]:List UInt8))++r5)++([46,46]:List UInt8)).length+r6.length<=9223372036854775807 then
 some ((((q8++([61]:List UInt8))++r5)++([46,46]:List UInt8))++r6)
 else none)
 else none
 else none)
 else none
 else
 oB (idx heads q7) fun e3=>
 if([40]:List UInt8).length+e3.length<=9223372036854775807 then
 iter (fun go (g:Z1×Int×Int×Z1×(List Z1)×Int×Int×(List DQ))=>
 match g with
 |(out,i,q13,q14,q15,q16,q17,q18)=>
 bif decide (i<(q18.length:Int))then
 if out.length+([32]:List UInt8).length<=9223372036854775807 then
 oB (idx q18 i) fun e4=>
 (oB (s_l11Put_m N D e4.kind e4.field e4.words e4.lo e4.hi e4.kids) fun r7=>
 if(out++([32]:List UInt8)).length+r7.length<=9223372036854775807 then
 if fits (i+1)then go (((out++([32]:List UInt8))++r7),(i+1),q13,q14,q15,q16,q17,q18)else none
 else none)
 else none
 else
 if out.length+([41]:List UInt8).length<=9223372036854775807 then
 some (out++([41]:List UInt8))
 else none) N ((([40]:List UInt8)++e3),0,q7,q8,q9,q10,q11,q12)
 else none) fun J=>
 bif decide (q=2)then
 J (([([]:List UInt8),([]:List UInt8),([]:List UInt8),([]:List UInt8),([]:List UInt8),([]:List UInt8),([]:List UInt8),([97,110,100]:List UInt8),([111,114]:List UInt8),([108,101,115,115]:List UInt8),(([116,105,109,101,115,32]:List UInt8)++r)]:List Z1),q,true,q,q2,q3,q4,q5,q6)
 else
 J (([([]:List UInt8),([]:List UInt8),([]:List UInt8),([]:List UInt8),([]:List UInt8),([]:List UInt8),([]:List UInt8),([97,110,100]:List UInt8),([111,114]:List UInt8),([108,101,115,115]:List UInt8),(([116,105,109,101,115,32]:List UInt8)++r)]:List Z1),q,(decide (q=5)),q,q2,q3,q4,q5,q6))
 else none
def jOs (N D:Nat):Model:=⟨⟨[.agg [pI,pS,.pv (.sl .str),pI,pI,.pv (.sl .q)]],[]⟩,⟨[pS],[]⟩,c6A (s_l11Put_m N D)⟩
theorem jPl (N D:Nat) (ih:mK 66 (jOs N D)):mK 66 (jOs N (D+1)):=
 mO (fC ih (fC (jOx N N) (fC (jAy N) ja))) func66 rfl N (.seq .no (.seq .no (.seq (.seq .no (.block (.seq .no (.cond .no (.meet jOX .no .no))))) (.seq .no (.seq (.seq .no (.block (.loop jPo .no))) .no))))) (jOs N (D+1))
theorem jOu (N:Nat):∀D,mK 66 (jOs N D)
 |0=>modelOk_none ⟨_,func66,by decide,by kernel_rfl⟩ _ (fun a=>rfl)
 |D+1=>jPl N D (jOu N D)
def jyC (a:List Z1) (c:List Z4) (d:List UInt8):Option (Z1):=
 (oB (jcw N a c) fun f=>bif !f then some ([]:List UInt8)else oB (jT N d) fun e=>bif !e then some ([]:List UInt8)else oB (ja5 N a c d) fun b=>bif decide ((b.length:Int)=0)then some ([]:List UInt8)else oB (idx b 0) fun h=>some h.1)
theorem jCy :mK 180 (bX [.agg [.pv (.sl .str),.pv Y20],pS] [pS] (c3A (jyC N))):=
 mO (fC (jtf N) (fC (jgp N) (fC (jiO N) ja))) func180 rfl N .no _
def jtm :Sh:=⟨.dead::pS::pS:: .box 3 0::dz 3 (pI::dz 31 []),[(3,false,[.pv Y4,.pv Y6])]⟩
def s_l7Posts_m (n:List Z0) (h:List Z2) (i:List UInt8) (l:List UInt8):Option (Z14):=
 (iter (fun e (d,c,a,f,b)=>bif decide (a<(b.length:Int))then oB (idx b a) fun o=>(bif decide (o.1=d)then oB (idx b a) fun m=>(bif decide (m.2.1=c)then oB (idx b a) fun k=>(some k.2.2)else if fits (a+1)then e (d,c,(a+1),f,b)else none)else if fits (a+1)then e (d,c,(a+1),f,b)else none)else some ([]:Z6)) N (i,l,(0:Int),n,h))
theorem jh6 :mK 261 (bX [.agg [.pv Y4,.pv Y6],pS,pS] [.pv Y15] (c4A (s_l7Posts_m N))):=
 mO ja func261 rfl N (.seq .no (.seq (.seq .no (.block (.loop jtm .no))) .no)) _
def jst :Sh:=⟨dz 3 (pI::dz 5 (.pv Y15::pI::dz 22 [])),[]⟩
def s_l12At_m (l:List Z0) (d:List Z2) (h:List UInt8) (j:List UInt8) (m:Int):Option ((List Int)):=
 (oB (s_l7Posts_m N l d h j) fun f=>iter (fun e (c,b,a)=>bif decide (a<(b.length:Int))then oB (idx b a) fun n=>(bif decide (n.1=c)then oB (idx b a) fun k=>(some k.2)else if fits (a+1)then e (c,b,(a+1))else none)else some ([]:List Int)) N (m,f,(0:Int)))
theorem jn1 :mK 257 (bX [.agg [.pv Y4,.pv Y6],pS,pS,pI] [.pv Y25] (c5A (s_l12At_m N))):=
 mO (fC (jh6 N) ja) func257 rfl N (.seq .no (.seq .no (.seq (.seq .no (.block (.loop jst .no))) .no))) _
def jqS :Sh:=⟨.dead::pS::pI:: .box 3 0::dz 3 (pI::pI::dz 55 []),[(3,false,[.pv Y4,.pv Y6])]⟩
def jm7 :Sh:=⟨.dead::pS::pI:: .box 3 0::dz 3 (pI::pI::pI::dz 54 []),[(3,false,[.pv Y4,.pv Y6])]⟩
def s_l7Long_m (x:List Z0) (y:List Z2) (v:List UInt8) (q:Int):Z12:=
 (iter (fun k (t,B,n,j,r,o)=>bif decide (j<(o.length:Int))then iter (fun l (e,f,d,a,c,h,b)=>oB (idx b a) fun u=>bif decide (c<(u.2.2.length:Int))then oB (idx b a) fun w=>(bif decide (w.1=e)then oB (idx b a) fun p=>(oB (idx p.2.2 c) fun A=>bif decide (A.1=f)then oB (idx b a) fun z=>(oB (idx z.2.2 c) fun m=>if fits (d+(m.2.length:Int))then if fits (c+1)then l (e,f,(d+(m.2.length:Int)),a,(c+1),h,b)else none else none)else if fits (c+1)then l (e,f,d,a,(c+1),h,b)else none)else if fits (a+1)then k (e,f,d,(a+1),h,b)else none)else if fits (a+1)then k (e,f,d,(a+1),h,b)else none) N (t,B,n,j,(0:Int),r,o)else some n) N (v,q,(0:Int),(0:Int),x,y))
theorem jrY :mK 259 (bX [.agg [.pv Y4,.pv Y6],pS,pI] [pI] (c4A (s_l7Long_m N))):=
 mO ja func259 rfl N (.seq .no (.seq .no (.seq (.seq .no (.block (.loop jqS (.seq .no (.seq (.block (.seq .no (.block (.loop jm7 .no)))) .no))))) .no))) _
def jsB :Sh:=⟨.dead::pS:: .box 2 0:: .dead:: .dead::pI::pI::dz 43 [],[(2,false,[.pv Y4,.pv Y6])]⟩
def jnl :Sh:=⟨.dead::pS:: .box 2 0:: .dead:: .dead::pI::pI::pI::dz 42 [],[(2,false,[.pv Y4,.pv Y6])]⟩
def s_l12Total_m (v:List Z0) (w:List Z2) (t:List UInt8):Z12:=
 (iter (fun j (q,k,i,p,m)=>bif decide (i<(m.length:Int))then iter (fun n (d,c,a,e,h,b)=>oB (idx b a) fun r=>bif decide (e<(r.2.2.length:Int))then oB (idx b a) fun u=>(bif decide (u.1=d)then oB (idx b a) fun o=>(oB (idx o.2.2 e) fun l=>if fits (c+(l.2.length:Int))then if fits (e+1)then n (d,(c+(l.2.length:Int)),a,(e+1),h,b)else none else none)else if fits (a+1)then j (d,c,(a+1),h,b)else none)else if fits (a+1)then j (d,c,(a+1),h,b)else none) N (q,k,i,(0:Int),p,m)else some k) N (t,(0:Int),(0:Int),v,w))
theorem jn2 :mK 260 (bX [.agg [.pv Y4,.pv Y6],pS] [pI] (c3A (s_l12Total_m N))):=
 mO ja func260 rfl N (.seq .no (.seq .no (.seq (.seq .no (.block (.loop jsB (.seq .no (.seq (.block (.seq .no (.block (.loop jnl .no)))) .no))))) .no))) _
def jsx :Sh:=⟨pI::pI::dz 3 (pI::dz 13 []),[]⟩
def jbz (h:Int) (e:Int):Z12:=
 (iter (fun d (a,c,b)=>bif decide ((0:Int)<a)then if fits (a*2)then bif decide ((a*2)<=c)then if fits (a*2)then if fits (b+1)then d ((a*2),c,(b+1))else none else none else(some b)else none else some b) N (h,e,(0:Int)))
theorem jkd :mK 308 (bX [pI,pI] [pI] (c2A (jbz N))):=
 mO ja func308 rfl N (.seq .no (.seq .no (.seq (.block (.loop jsx .no)) .no))) _
def jkC :Sh:=⟨pI::pI::dz 15 [],[]⟩
def jaY (N:Nat):(D:Nat)->Int->Int->Z12
 |0,_,_=>none
 |D+1,a,b=>
 meet (fun(g:Int×Int)=>
 match g with
 |(a2,b2)=>
 bif decide (b2=0)then
 some a2
 else
 if b2≠0 then
 oB (jaY N D b2 (a2.tmod b2)) fun r=>
 (some r)
 else none) fun J=>
 bif decide (a<0)then
 if fits (0-a)then J ((0-a),b)else none
 else
 J (a,b)
def jcQ (N D:Nat):Model:=⟨⟨[pI,pI],[]⟩,⟨[pI],[]⟩,c2A (jaY N D)⟩
theorem jlI (N D:Nat) (ih:mK 337 (jcQ N D)):mK 337 (jcQ N (D+1)):=
 mO (fC ih ja) func337 rfl N (.seq .no (.meet jkC .no .no)) (jcQ N (D+1))
theorem jeF (N:Nat):∀D,mK 337 (jcQ N D)
 |0=>modelOk_none ⟨_,func337,by decide,by kernel_rfl⟩ _ (fun a=>rfl)
 |D+1=>jlI N D (jeF N D)
def jlg :Sh:=⟨pI::pI:: .dead:: .dead:: .box 4 0::dz 17 [],[(4,false,[pI,pI])]⟩
def jcf (e:Int) (b:Int):Option (Int×Int):=
 (meet (fun(h:Int×Int×Int×Int)=>match h with|(d,c,i,j)=>oB (jaY N N d c) fun a=>if a≠0 then if fits (d.tdiv a)then if a≠0 then if fits (c.tdiv a)then some ((d.tdiv a),(c.tdiv a))else none else none else none else none) fun f=>bif decide (b<0)then if fits (0-e)then if fits (0-b)then f ((0-e),(0-b),0,0)else none else none else f (e,b,0,0))
theorem jn4 :mK 307 (bX [pI,pI] [.agg [pI,pI]] (c2A (jcf N))):=
 mO (fC (jeF N N) ja) func307 rfl N (.seq .no (.meet jlg .no .no)) _
def jqT :Sh:=⟨pI:: .dead:: .dead::pI::pI::dz 5 (.box 10 0::pI::dz 21 []),[(10,false,[pI,pI])]⟩
def s_l12Term_m (i:Int) (c:Int) (e:Int) (a:Int) (k:Int):Option (Int×Int):=
 (meet (fun(l:Int×Int×Int×Int×Int×Int)=>match l with|(b,m,n,j,o,p)=>oB (jbz N n m) fun d=>if fits (1+d)then if fits ((1+d)*22)then if fits (((1+d)*22)*b)then if fits (10*b)then if fits ((10*b)+3)then if fits (((10*b)+3)+j)then oB (jcf N (((1+d)*22)*b) (((10*b)+3)+j)) fun f=>(some (f.1,f.2))else none else none else none else none else none else none) fun h=>bif decide ((0:Int)<e)then if fits (c*a)then if fits ((c*a)*9)then if e≠0 then if fits (((c*a)*9).tdiv e)then h (i,a,k,(((c*a)*9).tdiv e),0,0)else none else none else none else none else h (i,a,k,1,0,0))
theorem jtF :mK 258 (bX [pI,pI,pI,pI,pI] [.agg [pI,pI]] (c5A (s_l12Term_m N))):=
 mO (fC (jkd N) (fC (jn4 N) ja)) func258 rfl N (.seq .no (.seq .no (.meet jqT .no .no))) _
def s_l12Points_m (b:List Z0) (c:List Z2) (d:List UInt8) (f:List UInt8) (h:Int):Z12:=
 (oB (s_l12At_m N b c d f h) fun e=>bif decide ((e.length:Int)=0)then some 0 else oB (s_l7Long_m N b c d h) fun i=>oB (s_l12Total_m N b c d) fun j=>oB (s_l7Posts_m N b c d f) fun k=>oB (s_l12Term_m N (e.length:Int) i j (b.length:Int) (k.length:Int)) fun a=>if fits (a.1*1000)then if a.2≠0 then if fits ((a.1*1000).tdiv a.2)then some ((a.1*1000).tdiv a.2)else none else none else none)
theorem jrZ :mK 179 (bX [.agg [.pv Y4,.pv Y6],pS,pS,pI] [pI] (c5A (s_l12Points_m N))):=
 mO (fC (jn1 N) (fC (jrY N) (fC (jn2 N) (fC (jh6 N) (fC (jtF N) ja))))) func179 rfl N .no _
def jB2 :Sh:=⟨dz 3 (pI:: .dead:: .box 5 0:: .box 6 0:: .dead:: .dead:: .own 600009 Y25 89 true:: .own 600010 Y21 111 true::pI::dz 65 []),[(5,false,[.pv Y4,.pv Y6]),(6,false,[pI,pS,.pv (.sl .str),pI,pI,.pv (.sl .q)])]⟩
def jCf :Sh:=⟨dz 3 (pI:: .dead:: .box 5 0:: .box 6 0:: .dead:: .dead:: .own 600009 Y25 89 true:: .own 600010 Y21 111 true::pI::pI:: .pv Y25:: .own 600014 tI 3 true::pI::dz 61 []),[(5,false,[.pv Y4,.pv Y6]),(6,false,[pI,pS,.pv (.sl .str),pI,pI,.pv (.sl .q)])]⟩
def jyf (c:List Z1) (c2:List Z4) (s:List Z0) (s2:List Z2) (q:Int) (q2:List UInt8) (q3:List Z1) (q4:Int) (q5:Int) (q6:List DQ) (id:Int):Option (Z20):=
 (oB (jxS N q3 ([32]:List UInt8)) fun r=>oB (ja5 N c c2 r) fun r2=>iter (fun go (id2,out,terms,i,s3,s4,q7,q8,q9,q10,q11,q12)=>bif decide (i<(terms.length:Int))then oB (idx terms i) fun e=>(oB (idx terms 0) fun e2=>if fits (e.2-e2.2)then if fits ((e.2-e2.2)-i)then oB (idx terms i) fun e3=>(oB (s_l12At_m N s3 s4 q8 e3.1 id2) fun r3=>iter (fun go2 (id3,out2,terms2,i2,shift,at0,list,k,s5,s6,q13,q14,q15,q16,q17,q18)=>bif decide (k<(at0.length:Int))then oB (idx at0 k) fun e4=>(bif decide (shift<=e4)then oB (idx at0 k) fun e5=>(if fits (e5-shift)then if room list.length ([(e5-shift)]:List Int).length 8 then if fits (k+1)then go2 (id3,out2,terms2,i2,shift,at0,(list++([(e5-shift)]:List Int)),(k+1),s5,s6,q13,q14,q15,q16,q17,q18)else none else none else none)else if fits (k+1)then go2 (id3,out2,terms2,i2,shift,at0,list,(k+1),s5,s6,q13,q14,q15,q16,q17,q18)else none)else if room out2.length ([list]:List (List Int)).length 24 then if fits (i2+1)then go (id3,(out2++([list]:List (List Int))),terms2,(i2+1),s5,s6,q13,q14,q15,q16,q17,q18)else none else none) N (id2,out,terms,i,((e.2-e2.2)-i),r3,([]:List Int),(0:Int),s3,s4,q7,q8,q9,q10,q11,q12))else none else none)else some out) N (id,([]:List (List Int)),r2,(0:Int),s,s2,q,q2,q3,q4,q5,q6))
theorem jCm :mK 262 (bX [.agg [.pv (.sl .str),.pv Y20],.agg [.pv Y4,.pv Y6],.agg [pI,pS,.pv (.sl .str),pI,pI,.pv (.sl .q)],pI] [.own 1 Y25 89 true] (c11A (jyf N))):=
 mO (fC (jAy N) (fC (jiO N) (fC (jn1 N) ja))) func262 rfl N (.seq .no (.seq .no (.seq .no (.seq (.seq .no (.block (.loop jB2 (.seq .no (.seq (.block (.seq .no (.seq .no (.seq .no (.seq (.seq .no (.block (.loop jCf .no))) .no))))) .no))))) .no)))) _
def jBI :Sh:=⟨.pv (.sl Y25)::pI::pI::pI::pI::dz 6 (pI::dz 46 []),[]⟩
def jxJ (N:Nat):(D:Nat)->Z20->Int->Int->Int->Int->Z8
 |0,_,_,_,_,_=>none
 |D+1,lists,k,last,start,slop=>
 bif decide (k=(lists.length:Int))then
 if fits (last-start)then if fits ((lists.length:Int)-1)then if fits ((last-start)-((lists.length:Int)-1))then some (decide (((last-start)-((lists.length:Int)-1))<=slop))else none else none else none
 else
 iter (fun go (g:Z20×Int×Int×Int×Int×Int)=>
 match g with
 |(lists2,k2,last2,start2,slop2,i)=>
 oB (idx lists2 k2) fun e=>
 bif decide (i<(e.length:Int))then
 oB (idx lists2 k2) fun e2=>
 (oB (idx e2 i) fun e3=>
 bif decide (last2<e3)then
 if fits (k2+1)then oB (idx lists2 k2) fun e4=>
 (oB (idx e4 i) fun e5=>
 oB (jxJ N D lists2 (k2+1) e5 start2 slop2) fun r=>
 bif r then
 some true
 else
 if fits (i+1)then go (lists2,k2,last2,start2,slop2,(i+1))else none)else none
 else
 if fits (i+1)then go (lists2,k2,last2,start2,slop2,(i+1))else none)
 else
 some false) N (lists,k,last,start,slop,0)
def jyj (N D:Nat):Model:=⟨⟨[.pv (.sl Y25),pI,pI,pI,pI],[]⟩,⟨[pB],[]⟩,c5A (jxJ N D)⟩
theorem jD8 (N D:Nat) (ih:mK 309 (jyj N D)):mK 309 (jyj N (D+1)):=
 mO (fC ih ja) func309 rfl N (.seq .no (.seq .no (.seq (.seq .no (.block (.loop jBI .no))) .no))) (jyj N (D+1))
theorem jzt (N:Nat):∀D,mK 309 (jyj N D)
 |0=>modelOk_none ⟨_,func309,by decide,by kernel_rfl⟩ _ (fun a=>rfl)
 |D+1=>jD8 N D (jzt N D)
def jCF :Sh:=⟨.pv (.sl Y25)::pI::dz 3 (.own 600005 tI 3 true::pI::dz 56 []),[]⟩
def jBd :Sh:=⟨.pv (.sl Y25)::pI::dz 3 (.own 600005 tI 3 true:: .dead::pI::dz 55 []),[]⟩
def jyb (w:List (List Int)) (t:Int):Option ((List Int)):=
 (iter (fun n (c,i,j,d)=>bif decide (d<(c.length:Int))then oB (idx c d) fun u=>(oB (jx3 N u) fun x=>bif !x then some ([]:List Int)else if fits (d+1)then n (c,i,j,(d+1))else none)else oB (s_l1In_m N (c.length:Int) 1 6) fun m=>bif !m then some ([]:List Int)else oB (s_l1In_m N i 0 5) fun o=>bif !o then some ([]:List Int)else iter (fun k (b,h,e,a)=>oB (idx b 0) fun y=>bif decide (a<(y.length:Int))then oB (idx b 0) fun q=>(oB (idx q a) fun A=>oB (idx b 0) fun z=>oB (idx z a) fun v=>oB (jxJ N N b 1 A v h) fun p=>bif p then oB (idx b 0) fun r=>(oB (idx r a) fun l=>if room e.length ([l]:List Int).length 8 then if fits (a+1)then k (b,h,(e++([l]:List Int)),(a+1))else none else none)else if fits (a+1)then k (b,h,e,(a+1))else none)else some e) N (c,i,j,(0:Int))) N (w,t,([]:List Int),(0:Int)))
theorem jAW :mK 263 (bX [.pv (.sl Y25),pI] [.own 1 tI 3 true] (c2A (jyb N))):=
 mO (fC (jC9 N) (fC (jcL N) (fC (jzt N N) ja))) func263 rfl N (.seq .no (.seq .no (.seq (.seq .no (.block (.loop jCF .no))) (.seq .no (.seq (.seq .no (.block (.loop jBd .no))) .no))))) _
def jCQ :Sh:=⟨dz 3 (pI:: .dead:: .box 5 0:: .box 6 0::dz 3 (pI::pI:: .own 600012 Y21 111 true::pI::dz 41 [])),[(5,false,[.pv Y4,.pv Y6]),(6,false,[pI,pS,.pv (.sl .str),pI,pI,.pv (.sl .q)])]⟩
def jCS :Sh:=⟨dz 3 (pI:: .box 4 0:: .box 5 0:: .box 6 0::dz 3 (pI::dz 44 [])),[(4,false,[.pv (.sl .str),.pv Y20]),(5,false,[.pv Y4,.pv Y6]),(6,false,[pI,pS,.pv (.sl .str),pI,pI,.pv (.sl .q)])]⟩
def jx2 (i:List Z1) (d:List Z4) (p:List Z0) (h:List Z2) (q:Int) (k:List UInt8) (e:List Z1) (c:Int) (l:Int) (f:List DQ) (n:Int):Z12:=
 (oB (jyf N i d p h q k e c l f n) fun w=>bif decide ((w.length:Int)=0)then some 0 else oB (jyb N w c) fun r=>meet (fun(m:Int×Int×(List Z1)×(List Z4)×(List Z0)×(List Z2)×Int×Z1×(List Z1)×Int×Int×(List DQ))=>match m with|(aa,V,T,P,C,L,K,U,u,H,X,E)=>oB (jxS N u ([32]:List UInt8)) fun Q=>oB (ja5 N T P Q) fun R=>iter (fun B (z,o,a,j,b,y,v,I,A,W,S,G,O)=>bif decide (b<(j.length:Int))then oB (idx j b) fun D=>(oB (s_l12Points_m N y v A D.1 z) fun x=>if fits (a+x)then if fits (b+1)then B (z,o,(a+x),j,(b+1),y,v,I,A,W,S,G,O)else none else none)else if fits (a*o)then some (a*o)else none) N (aa,V,(0:Int),R,(0:Int),C,L,K,U,u,H,X,E)) fun t=>bif decide ((3:Int)<r.length)then t (n,3,i,d,p,h,q,k,e,c,l,f)else t (n,(r.length:Int),i,d,p,h,q,k,e,c,l,f))
theorem jAL :mK 181 (bX [.agg [.pv (.sl .str),.pv Y20],.agg [.pv Y4,.pv Y6],.agg [pI,pS,.pv (.sl .str),pI,pI,.pv (.sl .q)],pI] [pI] (c11A (jx2 N))):=
 mO (fC (jCm N) (fC (jAW N) (fC (jAy N) (fC (jiO N) (fC (jrZ N) ja))))) func181 rfl N (.seq .no (.seq .no (.seq .no (.seq .no (.meet jCS .no (.seq .no (.seq .no (.seq (.seq .no (.block (.loop jCQ .no))) .no)))))))) _
def s_l5Min_m (N:Nat) (b:Int) (a:Int):Z12:=
 (bif decide (b<a)then some b else some a)
theorem jDQ :mK 310 (bX [pI,pI] [pI] (c2A (s_l5Min_m N))):=
 mO ja func310 rfl N .no _
def jCw :Sh:=⟨pS::pS::dz 3 (.mtk 600005 tI 3 true::pI::dz 74 []),[]⟩
def jDJ :Sh:=⟨pS::pS::dz 3 (.mtk 600005 tI 3 true:: .dead::pI::dz 73 []),[]⟩
def jDM :Sh:=⟨pS::pS::dz 3 (.mtk 600005 tI 3 true:: .dead::pI::pI::pI::dz 71 []),[]⟩
def jBZ :Sh:=⟨pS::pS::dz 3 (.mtk 600005 tI 3 true:: .dead::pI:: .dead::pI::pI::dz 70 []),[]⟩
def s_l5Far_m (L:List UInt8) (c:List UInt8):Z12:=
 (if fits ((c.length:Int)+1)then if((c.length:Int)+1)=((c.length:Int)+1)/\0<=((c.length:Int)+1)/\((c.length:Int)+1)*8<=140737488355328/\((c.length:Int)+1)<=140737488355328 then iter (fun x (v,o,m,d)=>bif decide (d<=(o.length:Int))then if 0<=d/\d<(m.length:Int)then oB (m[d.toNat]?) fun Q=>(if fits (d+1)then x (v,o,(m.set d.toNat d),(d+1))else none)else none else iter (fun H (u,k,f,l)=>bif decide (l<(u.length:Int))then if 0<=(0:Int)/\(0:Int)<f.length then oB (f[(0:Int).toNat]?) fun K=>(if fits (l+1)then if 0<=(0:Int)/\(0:Int)<f.length then oB (f[(0:Int).toNat]?) fun R=>(iter (fun G (j,h,p,i,q,n)=>bif decide (n<(h.length:Int))then meet (fun(e:Z23)=>match e with|(I,z,b,C,a,E)=>if fits (a+1)then if 0<=(a+1)/\(a+1)<(b.length:Int)then oB (b[(a+1).toNat]?) fun P=>(if fits (a+1)then if 0<=a/\a<(b.length:Int)then oB (b[a.toNat]?) fun O=>(if fits (a+1)then if 0<=(a+1)/\(a+1)<(b.length:Int)then oB (b[(a+1).toNat]?) fun B=>(oB (s_l5Min_m N O B) fun t=>if fits (t+1)then oB (s_l5Min_m N E (t+1)) fun w=>(if 0<=(a+1)/\(a+1)<(b.length:Int)then oB (b[(a+1).toNat]?) fun S=>(if fits (a+1)then G (I,z,(b.set (a+1).toNat w),C,P,(a+1))else none)else none)else none)else none else none)else none else none)else none else none) fun r=>(oB (idx j i) fun D=>oB (idx h n) fun A=>bif !decide ((D.toNat:Int)=(A.toNat:Int))then if fits (q+1)then r (j,h,p,i,n,(q+1))else none else r (j,h,p,i,n,q))else if fits (i+1)then H (j,h,p,(i+1))else none) N (u,k,(f.set (0:Int).toNat (l+1)),l,K,(0:Int)))else none else none)else none else if 0<=(k.length:Int)/\(k.length:Int)<(f.length:Int)then oB (f[(k.length:Int).toNat]?) fun y=>(some y)else none) N (v,o,m,(0:Int))) N (L,c,(List.replicate ((c.length:Int)+1).toNat 0),(0:Int))else none else none)
theorem jBt :mK 264 (bX [pS,pS] [pI] (c2A (s_l5Far_m N))):=
 mO (fC (jDQ N) ja) func264 rfl N (.seq .no (.seq .no (.seq (.seq .no (.block (.loop jCw .no))) (.seq (.seq .no (.block (.loop jDJ (.seq .no (.seq (.block (.seq .no (.seq .no (.seq .no (.block (.loop jDM (.seq .no (.seq (.block (.seq .no (.meet jBZ .no .no))) .no)))))))) .no))))) .no)))) _ (wr:=[14])
def jC5 :Sh:=⟨.dead:: .dead::pI:: .box 3 0:: .box 4 0:: .dead:: .dead::pI::pI::dz 49 [],[(3,false,[.pv Y4,.pv Y6]),(4,false,[pI,pS,.pv (.sl .str),pI,pI,.pv (.sl .q)])]⟩
def jx5 (x:List Z0) (A:List Z2) (y:Int) (v:List UInt8) (t:List Z1) (z:Int) (B:Int) (u:List DQ) (r:Int):Z12:=
 (iter (fun l (j,h,a,f,b,o,c,e,i,m,n)=>bif decide (a<(b.length:Int))then oB (idx b a) fun p=>(oB (idx e 0) fun w=>oB (s_l5Far_m N p.2.1 w) fun d=>bif !decide (p.1=c)then if fits (a+1)then l (j,h,(a+1),f,b,o,c,e,i,m,n)else none else bif decide (i<d)then if fits (a+1)then l (j,h,(a+1),f,b,o,c,e,i,m,n)else none else oB (s_l12Points_m N f b c p.2.1 j) fun k=>if fits (3-d)then if fits (k*(3-d))then if 3≠0 then if fits ((k*(3-d)).tdiv 3)then bif decide (h<((k*(3-d)).tdiv 3))then if fits (a+1)then l (j,((k*(3-d)).tdiv 3),(a+1),f,b,o,c,e,i,m,n)else none else(if fits (a+1)then l (j,h,(a+1),f,b,o,c,e,i,m,n)else none)else none else none else none else none)else some h) N (r,(0:Int),(0:Int),x,A,y,v,t,z,B,u))
theorem jCb :mK 182 (bX [.agg [.pv Y4,.pv Y6],.agg [pI,pS,.pv (.sl .str),pI,pI,.pv (.sl .q)],pI] [pI] (c9A (jx5 N))):=
 mO (fC (jBt N) (fC (jrZ N) ja)) func182 rfl N (.seq .no (.seq .no (.seq (.seq .no (.block (.loop jC5 .no))) .no))) _
def jxB (N:Nat):(D:Nat)->Z1->Z1->Z8
 |0,_,_=>none
 |D+1,p,s=>
 bif decide (p=([]:List UInt8))then
 some (decide (s=([]:List UInt8)))
 else
 oB (idx p 0) fun c=>
 bif decide ((c.toNat:Int)=42)then
 oB (cut p 1 (p.length:Int)) fun y=>
 (oB (jxB N D y s) fun r=>
 bif r then
 some true
 else
 bif !decide (s=([]:List UInt8))then
 oB (cut s 1 (s.length:Int)) fun y2=>
 (oB (jxB N D p y2) fun r2=>
 some r2)
 else
 some false)
 else
 bif !decide (s=([]:List UInt8))then
 oB (idx p 0) fun c2=>
 (bif decide ((c2.toNat:Int)=63)then
 oB (cut p 1 (p.length:Int)) fun y3=>
 (oB (cut s 1 (s.length:Int)) fun y4=>
 oB (jxB N D y3 y4) fun r3=>
 some r3)
 else
 oB (idx p 0) fun c3=>
 oB (idx s 0) fun c4=>
 bif decide ((c3.toNat:Int)=(c4.toNat:Int))then
 oB (cut p 1 (p.length:Int)) fun y5=>
 (oB (cut s 1 (s.length:Int)) fun y6=>
 oB (jxB N D y5 y6) fun r4=>
 some r4)
 else
 some false)
 else
 some false
def jyr (N D:Nat):Model:=⟨⟨[pS,pS],[]⟩,⟨[pB],[]⟩,c2A (jxB N D)⟩
theorem jDg (N D:Nat) (ih:mK 265 (jyr N D)):mK 265 (jyr N (D+1)):=
 mO (fC ih ja) func265 rfl N .no (jyr N (D+1))
theorem jzM (N:Nat):∀D,mK 265 (jyr N D)
 |0=>modelOk_none ⟨_,func265,by decide,by kernel_rfl⟩ _ (fun a=>rfl)
 |D+1=>jDg N D (jzM N D)
def jBi :Sh:=⟨.dead:: .dead::pI:: .box 3 0:: .box 4 0:: .dead:: .dead::pI::dz 38 [],[(3,false,[.pv Y4,.pv Y6]),(4,false,[pI,pS,.pv (.sl .str),pI,pI,.pv (.sl .q)])]⟩
def jyd (w:List Z0) (z:List Z2) (x:Int) (u:List UInt8) (q:List Z1) (y:Int) (A:Int) (r:List DQ) (p:Int):Z8:=
 (iter (fun h (f,a,e,b,m,c,d,l,i,k)=>bif decide (a<(b.length:Int))then oB (idx b a) fun j=>(bif decide (j.1=c)then oB (idx d 0) fun v=>(oB (jxB N N v j.2.1) fun t=>bif t then oB (s_l12At_m N e b c j.2.1 f) fun n=>(bif decide ((0:Int)<n.length)then some true else if fits (a+1)then h (f,(a+1),e,b,m,c,d,l,i,k)else none)else if fits (a+1)then h (f,(a+1),e,b,m,c,d,l,i,k)else none)else if fits (a+1)then h (f,(a+1),e,b,m,c,d,l,i,k)else none)else some false) N (p,(0:Int),w,z,x,u,q,y,A,r))
theorem jCi :mK 184 (bX [.agg [.pv Y4,.pv Y6],.agg [pI,pS,.pv (.sl .str),pI,pI,.pv (.sl .q)],pI] [pB] (c9A (jyd N))):=
 mO (fC (jzM N N) (fC (jn1 N) ja)) func184 rfl N (.seq .no (.seq (.seq .no (.block (.loop jBi .no))) .no)) _
def jyV (N:Nat) (a:Bool):Z12:=
 (bif a then some 100 else some 0)
theorem jCo :mK 183 (bX [pB] [pI] (c1A (jyV N))):=
 mO ja func183 rfl N .no _
def jym (j:Int) (i:Z16) (n:Z11) (m:List UInt8):Z12:=
 (iter (fun e (c,a,f,d,b)=>bif decide (a<(b.length:Int))then oB (idx b a) fun l=>(bif decide (l.1=c)then oB (idx b a) fun k=>(some k.2)else if fits (a+1)then e (c,(a+1),f,d,b)else none)else some (-1)) N (m,(0:Int),j,i,n))
theorem jDS :mK 185 (bX [.agg [pI,.pv Y23,.pv Y19],pS] [pI] (c4A (jym N))):=
 mO ja func185 rfl N (.seq .no (.seq (.seq .no (.block (.loop jl8 .no))) .no)) _
def jDX :Sh:=⟨dz 3 (pI:: .box 4 0:: .box 5 0:: .box 6 0:: .dead:: .dead::pI::pI::dz 111 []),[(4,false,[.pv (.sl .str),.pv Y20]),(5,false,[.pv Y4,.pv Y6]),(6,false,[pI,pS,.pv (.sl .str),pI,pI,.pv (.sl .q)])]⟩
def s_l12Score_m (N:Nat):(D:Nat)->(List Z1)->(List Z4)->(List Z0)->(List Z2)->Int->Z1->(List Z1)->Int->Int->(List DQ)->Int->Z12
 |0,_,_,_,_,_,_,_,_,_,_,_=>none
 |D+1,c,c2,s,s2,q,q2,q3,q4,q5,q6,id=>
 bif decide (q=1)then
 some 100
 else
 bif decide (q=2)then
 oB (idx q3 0) fun e=>
 (oB (jyC N c c2 e) fun r=>
 oB (s_l12Points_m N s s2 q2 r id) fun r2=>
 some r2)
 else
 bif decide (q=3)then
 oB (jx2 N c c2 s s2 q q2 q3 q4 q5 q6 id) fun r3=>
 (some r3)
 else
 bif decide (q=4)then
 oB (jx5 N s s2 q q2 q3 q4 q5 q6 id) fun r4=>
 (some r4)
 else
 bif decide (q=5)then
 oB (jyd N s s2 q q2 q3 q4 q5 q6 id) fun r5=>
 (oB (jyV N r5) fun r6=>
 some r6)
 else
 bif decide (q=6)then
 oB (jyv N s s2 id) fun r7=>
 (oB (jym N r7.1 r7.2.1 r7.2.2 q2) fun r8=>
 oB (s_l1In_m N r8 q4 q5) fun r9=>
 oB (jyV N r9) fun r10=>
 some r10)
 else
 bif decide (q=10)then
 oB (idx q6 0) fun e2=>
 (oB (s_l12Score_m N D c c2 s s2 e2.kind e2.field e2.words e2.lo e2.hi e2.kids id) fun r11=>
 if fits (q4*r11)then some (q4*r11)else none)
 else
 bif decide (q=9)then
 oB (idx q6 1) fun e3=>
 (oB (s_l12Score_m N D c c2 s s2 e3.kind e3.field e3.words e3.lo e3.hi e3.kids id) fun r12=>
 bif decide ((0:Int)<r12)then
 some 0
 else
 oB (idx q6 0) fun e4=>
 oB (s_l12Score_m N D c c2 s s2 e4.kind e4.field e4.words e4.lo e4.hi e4.kids id) fun r13=>
 some r13)
 else
 iter (fun go (g:Int×Int×Int×(List Z1)×(List Z4)×(List Z0)×(List Z2)×Int×Z1×(List Z1)×Int×Int×(List DQ))=>
 match g with
 |(id2,sum,i,c3,c4,s3,s4,q7,q8,q9,q10,q11,q12)=>
 bif decide (i<(q12.length:Int))then
 oB (idx q12 i) fun e5=>
 (oB (s_l12Score_m N D c3 c4 s3 s4 e5.kind e5.field e5.words e5.lo e5.hi e5.kids id2) fun r14=>
 bif decide (r14=0)then
 bif decide (q7=7)then
 some 0
 else
 (if fits (sum+r14)then if fits (i+1)then go (id2,(sum+r14),(i+1),c3,c4,s3,s4,q7,q8,q9,q10,q11,q12)else none else none)
 else
 if fits (sum+r14)then if fits (i+1)then go (id2,(sum+r14),(i+1),c3,c4,s3,s4,q7,q8,q9,q10,q11,q12)else none else none)
 else
 some sum) N (id,0,0,c,c2,s,s2,q,q2,q3,q4,q5,q6)
def jyz (N D:Nat):Model:=⟨⟨[.agg [.pv (.sl .str),.pv Y20],.agg [.pv Y4,.pv Y6],.agg [pI,pS,.pv (.sl .str),pI,pI,.pv (.sl .q)],pI],[]⟩,⟨[pI],[]⟩,c11A (s_l12Score_m N D)⟩
theorem jBH (N D:Nat) (ih:mK 111 (jyz N D)):mK 111 (jyz N (D+1)):=
 mO (fC ih (fC (jCy N) (fC (jrZ N) (fC (jAL N) (fC (jCb N) (fC (jCi N) (fC (jCo N) (fC (jDn N) (fC (jDS N) (fC (jcL N) ja)))))))))) func111 rfl N (.seq .no (.seq .no (.seq .no (.seq (.seq .no (.block (.loop jDX .no))) .no)))) (jyz N (D+1))
theorem jz7 (N:Nat):∀D,mK 111 (jyz N D)
 |0=>modelOk_none ⟨_,func111,by decide,by kernel_rfl⟩ _ (fun a=>rfl)
 |D+1=>jBH N D (jz7 N D)
def s_l13Less_m (N:Nat) (d:Int) (a:Int) (c:Int) (b:Int):Z8:=
 (bif decide (b<a)then some true else bif decide (a=b)then some (decide (d<c))else some false)
theorem jw8 :mK 186 (bX [.agg [pI,pI],.agg [pI,pI]] [pB] (c4A (s_l13Less_m N))):=
 mO ja func186 rfl N .no _
def jwc :Sh:=⟨.pv Y17:: .dead::pI:: .dead:: .box 4 0:: .dead:: .dead::pI::dz 37 [],[(4,false,[pI,pI])]⟩
def s_l13Push_m (r:Z5) (p:Int) (u:Int) (n:Int):Option (Z10):=
 (iter (fun l (c,h,d,b,a)=>bif decide (d<(c.length:Int))then oB (idx c d) fun k=>(oB (s_l13Less_m N k.1 k.2 b a) fun q=>bif q then if fits (d+1)then l (c,h,(d+1),b,a)else none else oB (cut c 0 d) fun f=>if room ([]:Z5).length f.length 16 then if room (([]:Z5)++f).length ([(b,a)]:Z5).length 16 then oB (cut c d (c.length:Int)) fun i=>(if room ((([]:Z5)++f)++([(b,a)]:Z5)).length i.length 16 then bif decide (h<((((([]:Z5)++f)++([(b,a)]:Z5))++i).length:Int))then oB (cut (((([]:Z5)++f)++([(b,a)]:Z5))++i) 0 h) fun m=>(some m)else(some (((([]:Z5)++f)++([(b,a)]:Z5))++i))else none)else none else none)else oB (cut c 0 d) fun e=>if room ([]:Z5).length e.length 16 then if room (([]:Z5)++e).length ([(b,a)]:Z5).length 16 then oB (cut c d (c.length:Int)) fun j=>(if room ((([]:Z5)++e)++([(b,a)]:Z5)).length j.length 16 then bif decide (h<((((([]:Z5)++e)++([(b,a)]:Z5))++j).length:Int))then oB (cut (((([]:Z5)++e)++([(b,a)]:Z5))++j) 0 h) fun t=>(some t)else(some (((([]:Z5)++e)++([(b,a)]:Z5))++j))else none)else none else none) N (r,n,(0:Int),p,u))
theorem jwx :mK 112 (bX [.pv Y17,.agg [pI,pI],pI] [.own 1 Y18 93 true] (c4A (s_l13Push_m N))):=
 mO (fC (jw8 N) ja) func112 rfl N (.seq .no (.seq .no (.seq (.block (.loop jwc .no)) .no))) _ (wr:=[23,26,27,30,31,35,36,43])
def jCE :Sh:=⟨dz 3 (pI:: .box 4 0:: .box 5 0:: .box 6 0:: .dead:: .dead:: .own 600009 Y18 93 true::pI::dz 33 []),[(4,false,[.pv (.sl .str),.pv Y20]),(5,false,[.pv Y4,.pv Y6]),(6,false,[pI,pS,.pv (.sl .str),pI,pI,.pv (.sl .q)])]⟩
def s_l13Top_m (z:List Z1) (u:List Z4) (C:List Z0) (y:List Z2) (D:Int) (A:List UInt8) (w:List Z1) (E:Int) (G:Int) (x:List DQ) (r:Int):Option (Z10):=
 (iter (fun o (m,c,a,h,e,b,n,l,j,f,k,d,i)=>bif decide (a<(b.length:Int))then oB (idx b a) fun v=>(oB (s_l12Score_m N N h e b n l j f k d i v.1) fun p=>bif decide ((0:Int)<p)then oB (idx b a) fun B=>(oB (s_l13Push_m N c B.1 p m) fun q=>if fits (a+1)then o (m,q,(a+1),h,e,b,n,l,j,f,k,d,i)else none)else if fits (a+1)then o (m,c,(a+1),h,e,b,n,l,j,f,k,d,i)else none)else some c) N (r,([]:Z5),(0:Int),z,u,C,y,D,A,w,E,G,x))
theorem jBA :mK 47 (bX [.agg [.pv (.sl .str),.pv Y20],.agg [.pv Y4,.pv Y6],.agg [pI,pS,.pv (.sl .str),pI,pI,.pv (.sl .q)],pI] [.own 1 Y18 93 true] (c11A (s_l13Top_m N))):=
 mO (fC (jz7 N N) (fC (jwx N) ja)) func47 rfl N (.seq .no (.seq .no (.seq (.seq .no (.block (.loop jCE .no))) .no))) _
def jOZ :Sh:=⟨.pv Y17:: .dead:: .dead::pI::dz 58 [],[]⟩
def jO4 :Sh:=⟨.pv Y17:: .dead:: .dead::pI::pI::dz 19 (pB::dz 16 (pB::dz 20 [])),[]⟩
def s_l13Ok_m (A:Z5):Z8:=
 (iter (fun m (b,a)=>bif decide (a<(b.length:Int))then oB (idx b a) fun v=>(oB (s_l1In_m N v.1 1 9999) fun z=>bif !z then some false else oB (idx b a) fun k=>bif decide (k.2<1)then some false else bif decide ((0:Int)<a)then if fits (a-1)then oB (idx b (a-1)) fun n=>(oB (idx b a) fun o=>oB (s_l13Less_m N n.1 n.2 o.1 o.2) fun l=>bif !l then some false else iter (fun q (i,e,h,B,x)=>bif decide (h<e)then oB (idx i h) fun C=>(oB (idx i e) fun w=>bif decide (C.1=w.1)then some false else if fits (h+1)then q (i,e,(h+1),B,x)else none)else if fits (e+1)then m (i,(e+1))else none) N (b,a,(0:Int),(decide (k.2<1)),(!l)))else none else iter (fun p (j,d,f,t,y)=>bif decide (f<d)then oB (idx j f) fun u=>(oB (idx j d) fun r=>bif decide (u.1=r.1)then some false else if fits (f+1)then p (j,d,(f+1),t,y)else none)else if fits (d+1)then m (j,(d+1))else none) N (b,a,(0:Int),(decide (k.2<1)),false))else some (decide ((b.length:Int)<=16))) N (A,(0:Int)))
theorem jOE :mK 141 (bX [.pv Y17] [pB] (c1A (s_l13Ok_m N))):=
 mO (fC (jcL N) (fC (jw8 N) ja)) func141 rfl N (.seq .no (.seq (.seq .no (.block (.loop jOZ (.seq .no (.seq (.block (.seq .no (.seq .no (.block (.loop jO4 .no))))) .no))))) .no)) _
def jPf :Sh:=⟨.dead:: .box 1 0:: .dead::pI::dz 59 [],[(1,false,[pI,pI,.pv Y11])]⟩
def jPh :Sh:=⟨.dead:: .box 1 0:: .dead::pI::pI::dz 22 (pB::dz 35 []),[(1,false,[pI,pI,.pv Y11])]⟩
def s_l24Ok_m (w:Int) (t:Int) (u:List Z3):Z8:=
 (iter (fun n (c,f,i,a)=>bif decide (c<(a.length:Int))then oB (idx a c) fun v=>(bif decide (v.1=([]:List UInt8))then some false else oB (idx a c) fun x=>oB (s_l13Ok_m N x.2) fun l=>bif !l then some false else iter (fun o (b,e,q,k,j,d)=>bif decide (e<b)then oB (idx d e) fun r=>(oB (idx d b) fun y=>bif decide (r.1=y.1)then some false else if fits (e+1)then o (b,(e+1),q,k,j,d)else none)else if fits (b+1)then n ((b+1),k,j,d)else none) N (c,(0:Int),(!l),f,i,a))else oB (s_l1In_m N f 1 5) fun m=>bif m then bif decide ((a.length:Int)<=f)then oB (s_l1In_m N i 0 999999999) fun p=>(some p)else(some false)else some false) N ((0:Int),w,t,u))
theorem jOt :mK 69 (bX [.agg [pI,pI,.pv Y11]] [pB] (c3A (s_l24Ok_m N))):=
 mO (fC (jOE N) (fC (jcL N) ja)) func69 rfl N (.seq .no (.seq (.seq .no (.block (.loop jPf (.seq .no (.seq (.block (.seq .no (.seq .no (.block (.loop jPh .no))))) .no))))) .no)) _
def jOO :Sh:=⟨.dead:: .box 1 0:: .box 2 0:: .box 3 0::pI::dz 33 [],[(1,false,[pI,pI,.pv Y11]),(2,false,[pI,pI,.nils]),(3,false,[pI,pI,.own 700302 Y13 128 true])]⟩
def s_l24Copy_m (j:Int) (f:Int) (o:List Z3):Option (Int×Int×(List Z3)):=
 (iter (fun k (a,l,p,b,q,n,e,h,c)=>bif decide (a<(b.length:Int))then oB (idx b a) fun i=>(oB (idx b a) fun d=>if room ([]:Z5).length d.2.length 16 then if room c.length ([(i.1,(([]:Z5)++d.2))]:List Z3).length 40 then if fits (a+1)then k ((a+1),l,p,b,q,n,e,h,(c++([(i.1,(([]:Z5)++d.2))]:List Z3)))else none else none else none)else some (e,h,c)) N ((0:Int),j,f,o,(0:Int),(0:Int),j,f,([]:List Z3)))
theorem jOv :mK 67 (bX [.agg [pI,pI,.pv Y11]] [.agg [pI,pI,.own 1 Y13 128 true]] (c3A (s_l24Copy_m N))):=
 mO ja func67 rfl N (.seq .no (.seq .no (.seq (.seq .no (.block (.loop jOO .no))) .no))) _
def jPr :Sh:=⟨.dead::pS::pI:: .dead:: .box 4 0::dz 3 (.box 8 0:: .box 9 0:: .box 10 0::pI::dz 70 []),[(4,false,[pI,pI,.pv Y11]),(8,false,[pI,pI,.nils]),(9,false,[pI,pI,.own 700902 Y13 128 false]),(10,false,[pI,pI,.own 701002 Y13 128 true])]⟩
def s_CachePut_m (b:Int) (d:Int) (e:List Z3) (o:List UInt8) (l:Int) (u:Z5):Option (Int×Int×(List Z3)):=
 (oB (s_l24Ok_m N b d e) fun G=>bif !G then some (0,0,([]:List Z3))else bif decide (o=([]:List UInt8))then oB (s_l24Copy_m N b d e) fun j=>(some (j.1,j.2.1,j.2.2))else oB (s_l13Ok_m N u) fun C=>bif !C then oB (s_l24Copy_m N b d e) fun m=>(some (m.1,m.2.1,m.2.2))else oB (s_l1In_m N l 0 999999999) fun H=>bif !H then oB (s_l24Copy_m N b d e) fun p=>(some (p.1,p.2.1,p.2.2))else if room ([]:Z5).length u.length 16 then oB (s_l24Copy_m N b d e) fun q=>(iter (fun v (n,t,a,k,r,y,z,w,f,i,c,B,x,h)=>bif decide (a<(h.length:Int))then bif decide (t=r)then bif decide ((c.length:Int)<k)then oB (idx h a) fun E=>(bif !decide (E.1=n)then oB (idx h a) fun A=>(if room c.length ([A]:List Z3).length 40 then if fits (a+1)then v (n,t,(a+1),k,r,y,z,w,f,i,(c++([A]:List Z3)),B,x,h)else none else none)else if fits (a+1)then v (n,t,(a+1),k,r,y,z,w,f,i,c,B,x,h)else none)else(some (f,i,c))else(some (f,i,c))else some (f,i,c)) N (o,l,(0:Int),b,d,e,(0:Int),(0:Int),b,l,([(o,(([]:Z5)++u))]:List Z3),q.1,q.2.1,q.2.2))else none)
theorem jOw :mK 65 (bX [.agg [pI,pI,.pv Y11],pS,pI,.pv Y17] [.agg [pI,pI,.own 1 Y13 128 false]] (c6A (s_CachePut_m N))):=
 mO (fC (jOt N) (fC (jOv N) (fC (jOE N) (fC (jcL N) ja)))) func65 rfl N (.seq .no (.seq .no (.seq .no (.seq .no (.seq .no (.seq (.seq .no (.block (.loop jPr .no))) .no)))))) _
def i_within_m (N:Nat) (a:Int) (c:Int) (b:Int):Z8:=
 (bif decide (c<=a)then some (decide (a<=b))else some false)
theorem jY :mK 42 (bX [pI,pI,pI] [pB] (c3A (i_within_m N))):=
 mO ja func42 rfl N .no _
def i_hasDoc_1_m (N:Nat) (a:Int) (c:Int) (b:Int):Z8:=
 (some (decide (a=b)))
theorem jwE :mK 218 (bX [.agg [pI,pI],.ptr tI] [pB] (c3A (i_hasDoc_1_m N))):=
 mO ja func218 rfl N .no _
def jwa :Sh:=⟨.pv Y17:: .clo 218 [.ptr tI]::dz 5 (pI::pI::dz 10 []),[]⟩
def k_slices_IndexFunc_200_m (c:Z5) (j:Int):Z12:=
 (iter (fun h (b,f,e,a)=>bif decide (a<e)then oB (idx b a) fun d=>(oB (i_hasDoc_1_m N d.1 d.2 f) fun i=>bif i then some a else if fits (a+1)then h (b,f,e,(a+1))else none)else some (-1)) N (c,j,(c.length:Int),(0:Int)))
theorem jwl :mK 290 (bX [.pv Y17,.clo 218 [.ptr tI]] [pI] (c2A (k_slices_IndexFunc_200_m N))):=
 mO (fC (jwE N) ja) func290 rfl N (.seq .no (.seq (.seq .no (.block (.loop jwa .no))) .no)) _
def k_slices_ContainsFunc_50_m (a:Z5) (b:Int):Z8:=
 (oB (k_slices_IndexFunc_200_m N a b) fun c=>some (decide ((0:Int)<=c)))
theorem jwg :mK 217 (bX [.pv Y17,.clo 218 [.ptr tI]] [pB] (c2A (k_slices_ContainsFunc_50_m N))):=
 mO (fC (jwl N) ja) func217 rfl N .no _
def i_hasDoc_m (a:Z5) (b:Int):Z8:=
 (oB (k_slices_ContainsFunc_50_m N a b) fun c=>some c)
theorem jwB :mK 145 (bX [.pv Y17,pI] [pB] (c2A (i_hasDoc_m N))):=
 mO (fC (jwg N) ja) func145 rfl N .no _
def k_cmp_isNaN_538_m (N:Nat) (a:Int):Z8:=
 (some (!decide (a=a)))
theorem joK :mK 172 (bX [pI] [pB] (c1A (k_cmp_isNaN_538_m N))):=
 mO ja func172 rfl N .no _
def k_cmp_Compare_992_m (a:Int) (b:Int):Z12:=
 (oB (k_cmp_isNaN_538_m N a) fun d=>oB (k_cmp_isNaN_538_m N b) fun c=>bif d then bif c then some 0 else(some (-1))else bif c then some 1 else bif decide (a<b)then some (-1)else bif decide (b<a)then some 1 else some 0)
theorem jpP :mK 104 (bX [pI,pI] [pI] (c2A (k_cmp_Compare_992_m N))):=
 mO (fC (joK N) ja) func104 rfl N .no _
def jlp :Sh:=⟨dz 3 (pI:: .dead:: .dead:: .pv Y25::pI::pI::dz 9 []),[]⟩
def k_cmp_Or_892_m (e:List Int):Z12:=
 (iter (fun h (b,c,f,a)=>bif decide (a<f)then oB (idx c a) fun d=>(bif !decide (d=b)then some d else if fits (a+1)then h (b,c,f,(a+1))else none)else some b) N ((0:Int),e,(e.length:Int),(0:Int)))
theorem jhC :mK 60 (bX [.pv Y25] [pI] (c1A (k_cmp_Or_892_m N))):=
 mO ja func60 rfl N (.seq .no (.seq .no (.seq (.seq .no (.block (.loop jlp .no))) .no))) _
def i_hitOrder_m (h:Int) (f:Int) (c:Int) (e:Int):Z12:=
 (oB (k_cmp_Compare_992_m N e f) fun b=>oB (k_cmp_Compare_992_m N h c) fun a=>oB (k_cmp_Or_892_m N ([b,a]:List Int)) fun d=>some d)
theorem jvi :mK 128 (bX [.agg [pI,pI],.agg [pI,pI]] [pI] (c4A (i_hitOrder_m N))):=
 mO (fC (jpP N) (fC (jhC N) ja)) func128 rfl N .no _
def jw3 :Sh:=⟨.pv Y17::dz 4 (.pv Y17::pI::pI::dz 39 []),[]⟩
def i_HitsOk_m (f:Z5):Z8:=
 (iter (fun h (c,e,d,a)=>bif decide (a<d)then oB (idx e a) fun b=>(oB (i_within_m N b.1 1 9999) fun k=>bif !k then some false else bif decide (b.2<1)then some false else oB (cut c 0 a) fun n=>oB (i_hasDoc_m N n b.1) fun j=>bif j then some false else bif decide ((0:Int)<a)then if fits (a-1)then oB (idx c (a-1)) fun i=>(oB (i_hitOrder_m N i.1 i.2 b.1 b.2) fun l=>bif decide ((0:Int)<=l)then some false else if fits (a+1)then h (c,e,d,(a+1))else none)else none else if fits (a+1)then h (c,e,d,(a+1))else none)else some (decide ((c.length:Int)<=16))) N (f,f,(f.length:Int),(0:Int)))
theorem jwk :mK 73 (bX [.pv Y17] [pB] (c1A (i_HitsOk_m N))):=
 mO (fC (jY N) (fC (jwB N) (fC (jvi N) ja))) func73 rfl N (.seq .no (.seq (.seq .no (.block (.loop jw3 .no))) .no)) _
def jOJ :Sh:=⟨.dead::pS::dz 6 (.pv Y11::pI::pI::dz 10 []),[]⟩
def i_Cache_find_m (k:Int) (l:Int) (c:List Z3) (i:List UInt8):Z12:=
 (iter (fun f (d,e,b,a)=>bif decide (a<b)then oB (idx e a) fun j=>(bif decide (j.1=d)then some a else if fits (a+1)then f (d,e,b,(a+1))else none)else some (-1)) N (i,c,(c.length:Int),(0:Int)))
theorem jOF :mK 74 (bX [.agg [pI,pI,.pv Y11],pS] [pI] (c4A (i_Cache_find_m N))):=
 mO ja func74 rfl N (.seq .no (.seq (.seq .no (.block (.loop jOJ .no))) .no)) _
def jO3 :Sh:=⟨.dead:: .box 1 0::dz 22 (.pv Y11::pI::pI::dz 22 []),[(1,false,[pI,pI,.pv Y11])]⟩
def i_CacheOk_m (c:Int) (j:Int) (b:List Z3):Z8:=
 (oB (i_within_m N c 1 5) fun n=>bif !n then some false else oB (i_within_m N j 0 999999999) fun l=>bif !l then some false else bif decide (c<(b.length:Int))then some false else iter (fun m (i,k,a,f,h,e)=>bif decide (a<k)then oB (idx i a) fun d=>(bif decide (d.1=([]:List UInt8))then some false else oB (i_HitsOk_m N d.2) fun o=>bif !o then some false else oB (i_Cache_find_m N f h e d.1) fun p=>bif !decide (p=a)then some false else if fits (a+1)then m (i,k,(a+1),f,h,e)else none)else some true) N (b,(b.length:Int),(0:Int),c,j,b))
theorem jOo :mK 19 (bX [.agg [pI,pI,.pv Y11]] [pB] (c3A (i_CacheOk_m N))):=
 mO (fC (jY N) (fC (jwk N) (fC (jOF N) ja))) func19 rfl N (.seq .no (.seq .no (.seq (.seq .no (.block (.loop jO3 .no))) .no))) _
def jaw (N:Nat) (a:Int):Z8:=
 (bif decide ((97:Int)<=a)then bif decide (a<=122)then some true else(bif decide ((48:Int)<=a)then some (decide (a<=57))else some false)else bif decide ((48:Int)<=a)then some (decide (a<=57))else some false)
theorem jeK :mK 192 (bX [.pv (.int .u8)] [pB] (c1A (jaw N))):=
 mO ja func192 rfl N .no _
def jqW :Sh:=⟨pS::dz 4 (pI::pI::dz 11 []),[]⟩
def jO (d:List UInt8):Z8:=
 (iter (fun f (b,c,a)=>bif decide (a<c)then oB (idx b a) fun i=>(oB (jaw N (i.toNat:Int)) fun h=>bif !h then some false else if fits (a+1)then f (b,c,(a+1))else none)else oB (i_within_m N (b.length:Int) 1 12) fun e=>some e) N (d,(d.length:Int),(0:Int)))
theorem jcM :mK 120 (bX [pS] [pB] (c1A (jO N))):=
 mO (fC (jeK N) (fC (jY N) ja)) func120 rfl N (.seq .no (.seq (.seq .no (.block (.loop jqW .no))) .no)) _
def jmc :Sh:=⟨.pv (.sl .str)::dz 4 (.pv (.sl .str)::pI::pI::dz 21 []),[]⟩
def jb2 (d:List Z1):Z8:=
 (iter (fun f (e,c,b,a)=>bif decide (a<b)then oB (idx c a) fun h=>(oB (jO N h) fun i=>bif !i then some false else bif decide ((0:Int)<a)then if fits (a-1)then oB (idx e (a-1)) fun k=>(bif !Op.bytesLess k h then some false else if fits (a+1)then f (e,c,b,(a+1))else none)else none else if fits (a+1)then f (e,c,b,(a+1))else none)else some true) N (d,d,(d.length:Int),(0:Int)))
theorem jtw :mK 119 (bX [.pv (.sl .str)] [pB] (c1A (jb2 N))):=
 mO (fC (jcM N) ja) func119 rfl N (.seq .no (.seq (.seq .no (.block (.loop jmc .no))) .no)) _
def jdF (N:Nat) (a:List UInt8) (b:List UInt8):Z8:=
 (bif decide ((b.length:Int)<=(a.length:Int))then if fits ((a.length:Int)-(b.length:Int))then oB (cut a ((a.length:Int)-(b.length:Int)) (a.length:Int)) fun c=>(some (decide (c=b)))else none else some false)
theorem jpU :mK 268 (bX [pS,pS] [pB] (c2A (jdF N))):=
 mO ja func268 rfl N .no _
def jcN (a:List UInt8) (c:List UInt8):Z8:=
 (oB (jdF N a c) fun b=>some b)
theorem jsu :mK 193 (bX [pS,pS] [pB] (c2A (jcN N))):=
 mO (fC (jpU N) ja) func193 rfl N .no _
def jod :Sh:=⟨pS:: .dead:: .dead::pB::dz 32 [],[]⟩
def jnf :Sh:=⟨pS:: .dead:: .dead::pB::dz 6 (.own 600010 .str 9 true::pI::pI::dz 23 []),[]⟩
def jaB (l:List UInt8):Option (Z1):=
 (oB (jO N l) fun n=>bif !n then some ([]:List UInt8)else iter (fun j (i,o)=>bif o then iter (fun k (a,d,h,f,b)=>bif decide (b<f)then oB (idx h b) fun c=>(oB (jcN N a c) fun m=>bif m then if fits ((a.length:Int)-(c.length:Int))then bif decide ((3:Int)<=((a.length:Int)-(c.length:Int)))then if fits ((a.length:Int)-(c.length:Int))then oB (cut a 0 ((a.length:Int)-(c.length:Int))) fun p=>(j (p,true))else none else(if fits (b+1)then k (a,d,h,f,(b+1))else none)else none else if fits (b+1)then k (a,d,h,f,(b+1))else none)else j (a,d)) N (i,false,([([105,110,103]:List UInt8),([101,100]:List UInt8),([101,115]:List UInt8),([108,121]:List UInt8),([115]:List UInt8)]:List Z1),(([([105,110,103]:List UInt8),([101,100]:List UInt8),([101,115]:List UInt8),([108,121]:List UInt8),([115]:List UInt8)]:List Z1).length:Int),(0:Int))else some i) N (l,true))
theorem jio :mK 121 (bX [pS] [pS] (c1A (jaB N))):=
 mO (fC (jcM N) (fC (jsu N) ja)) func121 rfl N (.seq .no (.seq .no (.seq (.seq .no (.block (.loop jod (.seq .no (.block (.seq .no (.seq .no (.block (.loop jnf .no))))))))) .no))) _
def jkJ :Sh:=⟨.pv (.sl .str)::pS::dz 5 (pI::pI::dz 10 []),[]⟩
def jdH (d:List Z1) (j:List UInt8):Z12:=
 (iter (fun f (b,c,e,a)=>bif decide (a<e)then oB (idx b a) fun i=>(bif decide (c=i)then some a else if fits (a+1)then f (b,c,e,(a+1))else none)else some (-1)) N (d,j,(d.length:Int),(0:Int)))
theorem jkZ :mK 194 (bX [.pv (.sl .str),pS] [pI] (c2A (jdH N))):=
 mO ja func194 rfl N (.seq .no (.seq (.seq .no (.block (.loop jkJ .no))) .no)) _
def jao (a:List Z1) (c:List UInt8):Z8:=
 (oB (jdH N a c) fun b=>some (decide ((0:Int)<=b)))
theorem jh5 :mK 122 (bX [.pv (.sl .str),pS] [pB] (c2A (jao N))):=
 mO (fC (jkZ N) ja) func122 rfl N .no _
def jmj :Sh:=⟨.dead:: .box 1 0::dz 22 (.pv Y20::pI::pI::dz 46 []),[(1,false,[.pv (.sl .str),.pv Y20])]⟩
def jrC :Sh:=⟨.dead:: .box 1 0::dz 22 (.pv Y20::pI::pI::dz 12 (pB::dz 7 (pB:: .dead:: .dead:: .pv (.sl .str)::pI::pI::dz 20 []))),[(1,false,[.pv (.sl .str),.pv Y20])]⟩
def jaj (h:List Z1) (b:List Z4):Z8:=
 (bif decide ((6:Int)<h.length)then some false else oB (jb2 N h) fun C=>bif !C then some false else bif decide ((4:Int)<b.length)then some false else iter (fun v (r,p,i,A,x)=>bif decide (i<p)then oB (idx r i) fun a=>(oB (i_within_m N (a.1.length:Int) 1 3) fun u=>bif !u then some false else oB (jO N a.2) fun k=>bif !k then some false else oB (jaB N a.2) fun m=>bif !decide (m=a.2)then some false else iter (fun w (l,t,j,D,y,n,o,c,f,q)=>bif decide (c<o)then oB (idx n c) fun d=>(oB (jO N d) fun E=>bif !E then some false else oB (jaB N d) fun z=>bif !decide (z=d)then some false else oB (jao N f d) fun B=>bif B then some false else if fits (c+1)then w (l,t,j,D,y,n,o,(c+1),f,q)else none)else if fits (j+1)then v (l,t,(j+1),f,q)else none) N (r,p,i,(!k),(!decide (m=a.2)),a.1,(a.1.length:Int),(0:Int),A,x))else some true) N (b,(b.length:Int),(0:Int),h,b))
theorem jdX :mK 50 (bX [.agg [.pv (.sl .str),.pv Y20]] [pB] (c2A (jaj N))):=
 mO (fC (jtw N) (fC (jY N) (fC (jcM N) (fC (jio N) (fC (jh5 N) ja))))) func50 rfl N (.seq .no (.seq .no (.seq (.seq .no (.block (.loop jmj (.seq .no (.seq .no (.seq (.block (.seq .no (.seq .no (.seq .no (.block (.loop jrC .no)))))) .no)))))) .no))) _
def jtd :Sh:=⟨pS::dz 4 (pI::pI::dz 16 []),[]⟩
def jaF (d:List UInt8):Z8:=
 (iter (fun e (b,c,a)=>bif decide (a<c)then oB (idx b a) fun f=>(bif decide ((f.toNat:Int)<32)then some false else oB (idx b a) fun i=>bif decide ((126:Int)<(i.toNat:Int))then some false else if fits (a+1)then e (b,c,(a+1))else none)else some (decide ((b.length:Int)<=160))) N (d,(d.length:Int),(0:Int)))
theorem jdK :mK 131 (bX [pS] [pB] (c1A (jaF N))):=
 mO ja func131 rfl N (.seq .no (.seq (.seq .no (.block (.loop jtd .no))) .no)) _
def jlC :Sh:=⟨.dead:: .box 1 0::dz 22 (.pv Y23::pI::pI::dz 66 []),[(1,false,[pI,.pv Y23,.pv Y19])]⟩
def jpt :Sh:=⟨.dead:: .box 1 0::dz 57 (.pv Y19::pI::pI::dz 31 []),[(1,false,[pI,.pv Y23,.pv Y19])]⟩
def jbx (u:Int) (e:Z16) (v:Z11):Z8:=
 (oB (i_within_m N u 1 9999) fun z=>bif !z then some false else bif decide ((3:Int)<e.length)then some false else bif decide ((3:Int)<v.length)then some false else iter (fun p (o,l,b,m,d,c)=>bif decide (b<l)then oB (idx o b) fun k=>(oB (jO N k.1) fun w=>bif !w then some false else oB (jaF N k.2) fun x=>bif !x then some false else bif decide ((0:Int)<b)then if fits (b-1)then oB (idx d (b-1)) fun A=>(bif !Op.bytesLess A.1 k.1 then some false else if fits (b+1)then p (o,l,(b+1),m,d,c)else none)else none else if fits (b+1)then p (o,l,(b+1),m,d,c)else none)else iter (fun q (j,f,a,t,r,n)=>bif decide (a<f)then oB (idx j a) fun i=>(oB (jO N i.1) fun y=>bif !y then some false else oB (i_within_m N i.2 0 999999999) fun C=>bif !C then some false else bif decide ((0:Int)<a)then if fits (a-1)then oB (idx n (a-1)) fun B=>(bif !Op.bytesLess B.1 i.1 then some false else if fits (a+1)then q (j,f,(a+1),t,r,n)else none)else none else if fits (a+1)then q (j,f,(a+1),t,r,n)else none)else some true) N (c,(c.length:Int),(0:Int),m,d,c)) N (e,(e.length:Int),(0:Int),u,e,v))
theorem jh0 :mK 126 (bX [.agg [pI,.pv Y23,.pv Y19]] [pB] (c3A (jbx N))):=
 mO (fC (jY N) (fC (jcM N) (fC (jdK N) ja))) func126 rfl N (.seq .no (.seq .no (.seq (.seq .no (.block (.loop jlC .no))) (.seq (.seq .no (.block (.loop jpt .no))) .no)))) _
def jpj :Sh:=⟨.pv Y4::dz 4 (.pv Y4::pI::pI::dz 26 []),[]⟩
def jbf (f:List Z0):Z8:=
 (iter (fun h (c,e,d,a)=>bif decide (a<d)then oB (idx e a) fun b=>(oB (jbx N b.1 b.2.1 b.2.2) fun i=>bif !i then some false else bif decide ((0:Int)<a)then if fits (a-1)then oB (idx c (a-1)) fun k=>(bif decide (b.1<=k.1)then some false else if fits (a+1)then h (c,e,d,(a+1))else none)else none else if fits (a+1)then h (c,e,d,(a+1))else none)else some (decide ((c.length:Int)<=16))) N (f,f,(f.length:Int),(0:Int)))
theorem jjU :mK 52 (bX [.pv Y4] [pB] (c1A (jbf N))):=
 mO (fC (jh0 N) ja) func52 rfl N (.seq .no (.seq (.seq .no (.block (.loop jpj .no))) .no)) _
def jbO (N:Nat) (c:Int) (a:Z16) (b:Z11):Option Z0:=
 (if room ([]:Z16).length a.length 32 then if room ([]:Z11).length b.length 24 then some (c,(([]:Z16)++a),(([]:Z11)++b))else none else none)
theorem jrI :mK 130 (bX [.agg [pI,.pv Y23,.pv Y19]] [.agg [pI,.own 1 Y24 107 true,.own 2 Y21 258 true]] (c3A (jbO N))):=
 mO ja func130 rfl N .no _
def joW :Sh:=⟨dz 3 (.own 600003 Y5 105 true::dz 3 (.pv Y4::pI::pI::dz 10 [])),[]⟩
def jbV (e:List Z0):Z21:=
 (iter (fun i (b,f,h,a)=>bif decide (a<h)then oB (idx f a) fun c=>(oB (jbO N c.1 c.2.1 c.2.2) fun d=>if room b.length ([d]:List Z0).length 56 then if fits (a+1)then i ((b++([d]:List Z0)),f,h,(a+1))else none else none)else some b) N (([]:List Z0),e,(e.length:Int),(0:Int)))
theorem joC :mK 55 (bX [.pv Y4] [.own 1 Y5 105 true] (c1A (jbV N))):=
 mO (fC (jrI N) ja) func55 rfl N (.seq .no (.seq .no (.seq (.seq .no (.block (.loop joW .no))) .no))) _
def jI (N:Nat) (a:Int):Z12:=
 (bif decide ((65:Int)<=a)then bif decide (a<=90)then some (IntKind.u8.wrap ((IntKind.u8.wrap (a+97))-65))else(some a)else some a)
theorem jmu :mK 206 (bX [.pv (.int .u8)] [.pv (.int .u8)] (c1A (jI N))):=
 mO ja func206 rfl N .no _
def jpB :Sh:=⟨pS:: .dead:: .dead:: .own 600003 Y8 188 true::pI::dz 57 [],[]⟩
def jo6 :Sh:=⟨pS:: .dead:: .dead:: .own 600003 Y8 188 true::pI:: .box 5 0:: .own 600006 (.int .u8) 5 true::dz 55 [],[(5,false,[pS,pI,pI,pI])]⟩
def jct (q:List UInt8):Option ((List Z13)):=
 (oB (jaF N q) fun x=>bif !x then some ([]:List Z13)else iter (fun k (j,i,f)=>bif decide (f<(j.length:Int))then oB (idx j f) fun y=>(oB (jI N (y.toNat:Int)) fun r=>oB (jaw N r) fun t=>bif !t then if fits (f+1)then k (j,i,(f+1))else none else iter (fun n (c,e,a,b,p,d,h,m)=>bif decide (a<(c.length:Int))then oB (idx c a) fun v=>(oB (jI N (v.toNat:Int)) fun u=>oB (jaw N u) fun z=>bif z then bif decide ((b.length:Int)<12)then oB (idx c a) fun w=>(oB (jI N (w.toNat:Int)) fun o=>if room b.length ([o]:List Int).length 1 then if fits (a+1)then n (c,e,(a+1),(b++([o]:List Int)),p,d,h,m)else none else none)else(if fits (a+1)then n (c,e,(a+1),b,p,d,h,m)else none)else if room e.length ([((bytesOf b),d,h,a)]:List Z13).length 40 then k (c,(e++([((bytesOf b),d,h,a)]:List Z13)),a)else none)else if room e.length ([((bytesOf b),d,h,a)]:List Z13).length 40 then k (c,(e++([((bytesOf b),d,h,a)]:List Z13)),a)else none) N (j,i,f,([]:List Int),([]:List UInt8),(i.length:Int),f,(0:Int)))else some i) N (q,([]:List Z13),(0:Int)))
theorem jqc :mK 132 (bX [pS] [.own 1 Y8 188 true] (c1A (jct N))):=
 mO (fC (jdK N) (fC (jmu N) (fC (jeK N) ja))) func132 rfl N (.seq .no (.seq .no (.seq .no (.seq (.seq .no (.block (.loop jpB (.seq .no (.block (.seq .no (.seq .no (.seq .no (.seq (.block (.loop jo6 .no)) .no))))))))) .no)))) _
def jty :Sh:=⟨.dead:: .pv Y19::pI:: .box 3 0::dz 3 (.pv (.opt Y22)::dz 8 (pI::pI::dz 73 [])),[(3,false,[.pv (.sl .str),.pv Y20])]⟩
def jss :Sh:=⟨.dead:: .pv Y19::pI:: .box 3 0::dz 3 (.pv (.opt Y22):: .dead:: .ptr Y22::pB::dz 5 (pI::pI::dz 31 (pB::dz 4 (.pv (.sl .str)::pI::pI::dz 34 [])))),[(3,false,[.pv (.sl .str),.pv Y20])]⟩
def jbH (c:List Z1) (c2:List Z4) (terms:Z11) (at0:Int):Option ((Option Z4)):=
 (iter (fun go (terms2,at02,best,t16,t17,c3,c4)=>bif decide (t17<t16)then oB (idx c4 t17) fun e=>(if fits ((terms2.length:Int)-at02)then bif decide (((terms2.length:Int)-at02)<(e.1.length:Int))then if fits (t17+1)then go (terms2,at02,best,t16,(t17+1),c3,c4)else none else(bif !(Option.isNone best)then oB best fun p=>(bif decide ((e.1.length:Int)<=(p.1.length:Int))then if fits (t17+1)then go (terms2,at02,best,t16,(t17+1),c3,c4)else none else iter (fun go2 (terms3,at03,best2,r,fits0,t162,t172,t49,t54,t55,t56,c5,c6)=>bif decide (t56<t55)then oB (idx t54 t56) fun e2=>(if fits (at03+t56)then oB (idx terms3 (at03+t56)) fun e3=>(bif fits0 then bif decide (e3.1=e2)then oB (idx terms3 at03) fun e4=>(if fits (e4.2+t56)then if fits (t56+1)then go2 (terms3,at03,best2,r,(decide (e3.2=(e4.2+t56))),t162,t172,t49,t54,t55,(t56+1),c5,c6)else none else none)else(if fits (t56+1)then go2 (terms3,at03,best2,r,false,t162,t172,t49,t54,t55,(t56+1),c5,c6)else none)else if fits (t56+1)then go2 (terms3,at03,best2,r,false,t162,t172,t49,t54,t55,(t56+1),c5,c6)else none)else none)else bif fits0 then if fits (t172+1)then go (terms3,at03,(some r),t162,(t172+1),c5,c6)else none else if fits (t172+1)then go (terms3,at03,best2,t162,(t172+1),c5,c6)else none) N (terms2,at02,best,e,true,t16,t17,(decide ((e.1.length:Int)<=(p.1.length:Int))),e.1,(e.1.length:Int),(0:Int),c3,c4))else iter (fun go3 (terms4,at04,best3,r2,fits02,t163,t173,t492,t542,t552,t562,c7,c8)=>bif decide (t562<t552)then oB (idx t542 t562) fun e5=>(if fits (at04+t562)then oB (idx terms4 (at04+t562)) fun e6=>(bif fits02 then bif decide (e6.1=e5)then oB (idx terms4 at04) fun e7=>(if fits (e7.2+t562)then if fits (t562+1)then go3 (terms4,at04,best3,r2,(decide (e6.2=(e7.2+t562))),t163,t173,t492,t542,t552,(t562+1),c7,c8)else none else none)else(if fits (t562+1)then go3 (terms4,at04,best3,r2,false,t163,t173,t492,t542,t552,(t562+1),c7,c8)else none)else if fits (t562+1)then go3 (terms4,at04,best3,r2,false,t163,t173,t492,t542,t552,(t562+1),c7,c8)else none)else none)else bif fits02 then if fits (t173+1)then go (terms4,at04,(some r2),t163,(t173+1),c7,c8)else none else if fits (t173+1)then go (terms4,at04,best3,t163,(t173+1),c7,c8)else none) N (terms2,at02,best,e,true,t16,t17,false,e.1,(e.1.length:Int),(0:Int),c3,c4))else none)else some best) N (terms,at0,(none:Option Z4),(c2.length:Int),(0:Int),c,c2))
theorem jtv :mK 133 (bX [.agg [.pv (.sl .str),.pv Y20],.pv Y19,pI] [.pv (.opt Y22)] (c4A (jbH N))):=
 mO ja func133 rfl N (.seq .no (.seq .no (.seq (.seq .no (.block (.loop jty (.seq .no (.seq .no (.seq (.block (.seq .no (.seq .no (.seq .no (.seq .no (.seq (.seq .no (.block (.loop jss .no))) .no)))))) .no)))))) .no))) _
def jlW :Sh:=⟨.dead:: .dead:: .box 2 0:: .dead:: .dead:: .own 600005 Y21 111 true:: .own 600006 Y21 111 true::dz 17 (.own 600024 Y8 188 true::pI::pI::dz 67 []),[(2,false,[.pv (.sl .str),.pv Y20])]⟩
def jnt :Sh:=⟨.dead:: .dead:: .box 2 0:: .dead:: .dead:: .own 600005 Y21 111 true:: .own 600006 Y21 111 true::dz 3 (pI::dz 83 []),[(2,false,[.pv (.sl .str),.pv Y20])]⟩
def jbw (x:List Z1) (w:List Z4) (B:List UInt8):Option (Z9):=
 (oB (jaj N x w) fun E=>bif !E then some ([]:Z11)else oB (jaF N B) fun C=>bif !C then some ([]:Z11)else oB (jct N B) fun u=>iter (fun m (h,f,l,k,b,d,i)=>bif decide (b<k)then oB (idx l b) fun j=>(oB (jaB N j.1) fun o=>oB (jao N d j.1) fun G=>bif !G then oB (jao N d o) fun D=>(bif !D then if room f.length ([(o,j.2.1)]:Z11).length 24 then if fits (b+1)then m (h,(f++([(o,j.2.1)]:Z11)),l,k,(b+1),d,i)else none else none else if fits (b+1)then m (h,f,l,k,(b+1),d,i)else none)else if fits (b+1)then m (h,f,l,k,(b+1),d,i)else none)else iter (fun t (e,c,a,q,r)=>bif decide (a<(c.length:Int))then oB (jbH N q r c a) fun p=>(bif Option.isNone p then oB (idx c a) fun z=>(if room e.length ([z]:Z11).length 24 then if fits (a+1)then t ((e++([z]:Z11)),c,(a+1),q,r)else none else none)else oB p fun A=>oB (idx c a) fun v=>if room e.length ([(A.2,v.2)]:Z11).length 24 then oB p fun y=>(if fits (a+(y.1.length:Int))then t ((e++([(A.2,v.2)]:Z11)),c,(a+(y.1.length:Int)),q,r)else none)else none)else some e) N (h,f,(0:Int),d,i)) N (([]:Z11),([]:Z11),u,(u.length:Int),(0:Int),x,w))
theorem jgO :mK 56 (bX [.agg [.pv (.sl .str),.pv Y20],pS] [.own 1 Y21 111 true] (c3A (jbw N))):=
 mO (fC (jdX N) (fC (jdK N) (fC (jqc N) (fC (jio N) (fC (jh5 N) (fC (jtv N) ja)))))) func56 rfl N (.seq .no (.seq .no (.seq .no (.seq .no (.seq (.seq .no (.block (.loop jlW .no))) (.seq (.seq .no (.block (.loop jnt .no))) .no)))))) _
def k__loop_example_fossick_impl_Seg_put_1_m (N:Nat) (c:List UInt8) (a:List UInt8) (e:Z6) (d:List UInt8) (b:Z1×Int):Z8:=
 (bif decide (c=d)then some (decide (a=b.1))else some false)
theorem jmw :mK 135 (bX [.agg [pS,pS,.pv Y15],.ptr .str,.ptr Y21] [pB] (c5A (k__loop_example_fossick_impl_Seg_put_1_m N))):=
 mO ja func135 rfl N .no _
def jnc :Sh:=⟨.pv Y6:: .clo 135 [.ptr .str,.ptr Y21]::dz 5 (pI::pI::dz 10 []),[]⟩
def k_slices_IndexFunc_146_m (e:List Z2) (j:Z1×Z1×Int):Z12:=
 (iter (fun h (d,c,f,a)=>bif decide (a<f)then oB (idx d a) fun b=>(oB (k__loop_example_fossick_impl_Seg_put_1_m N b.1 b.2.1 b.2.2 c.1 c.2) fun i=>bif i then some a else if fits (a+1)then h (d,c,f,(a+1))else none)else some (-1)) N (e,j,(e.length:Int),(0:Int)))
theorem jrl :mK 134 (bX [.pv Y6,.clo 135 [.ptr .str,.ptr Y21]] [pI] (c2A (k_slices_IndexFunc_146_m N))):=
 mO (fC (jmw N) ja) func134 rfl N (.seq .no (.seq (.seq .no (.block (.loop jnc .no))) .no)) _
def i_Seg_put_m (f:List UInt8) (h:List UInt8) (i:Int) (e:Int) (o:List Z0) (a:List Z2):Option ((List Z0)×(List Z2)):=
 (oB (k_slices_IndexFunc_146_m N a (f,h,i)) fun d=>bif decide (d<0)then if room a.length ([(f,h,([]:Z6))]:List Z2).length 56 then if 0<=(a.length:Int)/\(a.length:Int)<((a++([(f,h,([]:Z6))]:List Z2)).length:Int)then oB ((a++([(f,h,([]:Z6))]:List Z2))[(a.length:Int).toNat]?) fun b=>(if fits ((b.2.2.length:Int)-1)then bif decide (((b.2.2.length:Int)-1)<0)then oB ((a++([(f,h,([]:Z6))]:List Z2))[(a.length:Int).toNat]?) fun ap=>(if(a.length:Int).toNat=(a.length:Int).toNat then if room b.2.2.length ([(e,([]:List Int))]:Z6).length 32 then if(a.length:Int).toNat=(a.length:Int).toNat then oB ((a++([(f,h,([]:Z6))]:List Z2))[(a.length:Int).toNat]?) fun k=>(if fits (((b.2.2.length:Int)-1)+1)then oB (((a++([(f,h,([]:Z6))]:List Z2)).set (a.length:Int).toNat (k.1,k.2.1,(b.2.2++([(e,([]:List Int))]:Z6))))[(a.length:Int).toNat]?) fun r=>(oB (r.2.2[(((b.2.2.length:Int)-1)+1).toNat]?) fun D=>oB (((a++([(f,h,([]:Z6))]:List Z2)).set (a.length:Int).toNat (k.1,k.2.1,(b.2.2++([(e,([]:List Int))]:Z6))))[(a.length:Int).toNat]?) fun aa=>if(a.length:Int).toNat=(a.length:Int).toNat then oB (((a++([(f,h,([]:Z6))]:List Z2)).set (a.length:Int).toNat (k.1,k.2.1,(b.2.2++([(e,([]:List Int))]:Z6))))[(a.length:Int).toNat]?) fun ai=>(if(a.length:Int).toNat=(a.length:Int).toNat then if 0<=(((b.2.2.length:Int)-1)+1)/\(((b.2.2.length:Int)-1)+1)<(r.2.2.length:Int)then oB (r.2.2[(((b.2.2.length:Int)-1)+1).toNat]?) fun T=>(if(((b.2.2.length:Int)-1)+1).toNat=(((b.2.2.length:Int)-1)+1).toNat then if room D.2.length ([i]:List Int).length 8 then if 0<=(((b.2.2.length:Int)-1)+1)/\(((b.2.2.length:Int)-1)+1)<(r.2.2.length:Int)then if(((b.2.2.length:Int)-1)+1).toNat=(((b.2.2.length:Int)-1)+1).toNat then oB (r.2.2[(((b.2.2.length:Int)-1)+1).toNat]?) fun O=>(some (o,(((a++([(f,h,([]:Z6))]:List Z2)).set (a.length:Int).toNat (k.1,k.2.1,(b.2.2++([(e,([]:List Int))]:Z6)))).modify ((a.length:Int).toNat) fun A=>(A.1,A.2.1,(r.2.2.set (((b.2.2.length:Int)-1)+1).toNat (O.1,(D.2++([i]:List Int))))))))else none else none else none else none)else none else none)else none)else none)else none else none else none)else(oB ((a++([(f,h,([]:Z6))]:List Z2))[(a.length:Int).toNat]?) fun ab=>if(a.length:Int).toNat=(a.length:Int).toNat then if 0<=((b.2.2.length:Int)-1)/\((b.2.2.length:Int)-1)<(b.2.2.length:Int)then oB (b.2.2[((b.2.2.length:Int)-1).toNat]?) fun I=>(bif !decide (I.1=e)then oB ((a++([(f,h,([]:Z6))]:List Z2))[(a.length:Int).toNat]?) fun S=>(if(a.length:Int).toNat=(a.length:Int).toNat then if room b.2.2.length ([(e,([]:List Int))]:Z6).length 32 then if(a.length:Int).toNat=(a.length:Int).toNat then oB ((a++([(f,h,([]:Z6))]:List Z2))[(a.length:Int).toNat]?) fun j=>(if fits (((b.2.2.length:Int)-1)+1)then oB (((a++([(f,h,([]:Z6))]:List Z2)).set (a.length:Int).toNat (j.1,j.2.1,(b.2.2++([(e,([]:List Int))]:Z6))))[(a.length:Int).toNat]?) fun q=>(oB (q.2.2[(((b.2.2.length:Int)-1)+1).toNat]?) fun u=>oB (((a++([(f,h,([]:Z6))]:List Z2)).set (a.length:Int).toNat (j.1,j.2.1,(b.2.2++([(e,([]:List Int))]:Z6))))[(a.length:Int).toNat]?) fun an=>if(a.length:Int).toNat=(a.length:Int).toNat then oB (((a++([(f,h,([]:Z6))]:List Z2)).set (a.length:Int).toNat (j.1,j.2.1,(b.2.2++([(e,([]:List Int))]:Z6))))[(a.length:Int).toNat]?) fun am=>(if(a.length:Int).toNat=(a.length:Int).toNat then if 0<=(((b.2.2.length:Int)-1)+1)/\(((b.2.2.length:Int)-1)+1)<(q.2.2.length:Int)then oB (q.2.2[(((b.2.2.length:Int)-1)+1).toNat]?) fun aq=>(if(((b.2.2.length:Int)-1)+1).toNat=(((b.2.2.length:Int)-1)+1).toNat then if room u.2.length ([i]:List Int).length 8 then if 0<=(((b.2.2.length:Int)-1)+1)/\(((b.2.2.length:Int)-1)+1)<(q.2.2.length:Int)then if(((b.2.2.length:Int)-1)+1).toNat=(((b.2.2.length:Int)-1)+1).toNat then oB (q.2.2[(((b.2.2.length:Int)-1)+1).toNat]?) fun P=>(some (o,(((a++([(f,h,([]:Z6))]:List Z2)).set (a.length:Int).toNat (j.1,j.2.1,(b.2.2++([(e,([]:List Int))]:Z6)))).modify ((a.length:Int).toNat) fun E=>(E.1,E.2.1,(q.2.2.set (((b.2.2.length:Int)-1)+1).toNat (P.1,(u.2++([i]:List Int))))))))else none else none else none else none)else none else none)else none)else none)else none else none else none)else if(a.length:Int).toNat=(a.length:Int).toNat then oB (b.2.2[((b.2.2.length:Int)-1).toNat]?) fun t=>(oB ((a++([(f,h,([]:Z6))]:List Z2))[(a.length:Int).toNat]?) fun ah=>if(a.length:Int).toNat=(a.length:Int).toNat then oB ((a++([(f,h,([]:Z6))]:List Z2))[(a.length:Int).toNat]?) fun W=>(if(a.length:Int).toNat=(a.length:Int).toNat then if 0<=((b.2.2.length:Int)-1)/\((b.2.2.length:Int)-1)<(b.2.2.length:Int)then oB (b.2.2[((b.2.2.length:Int)-1).toNat]?) fun ac=>(if((b.2.2.length:Int)-1).toNat=((b.2.2.length:Int)-1).toNat then if room t.2.length ([i]:List Int).length 8 then if 0<=((b.2.2.length:Int)-1)/\((b.2.2.length:Int)-1)<(b.2.2.length:Int)then if((b.2.2.length:Int)-1).toNat=((b.2.2.length:Int)-1).toNat then oB (b.2.2[((b.2.2.length:Int)-1).toNat]?) fun K=>(some (o,((a++([(f,h,([]:Z6))]:List Z2)).modify ((a.length:Int).toNat) fun y=>(y.1,y.2.1,(b.2.2.set ((b.2.2.length:Int)-1).toNat (K.1,(t.2++([i]:List Int))))))))else none else none else none else none)else none else none)else none)else none)else none else none)else none)else none else none else if 0<=d/\d<(a.length:Int)then oB (a[d.toNat]?) fun c=>(if fits ((c.2.2.length:Int)-1)then bif decide (((c.2.2.length:Int)-1)<0)then oB (a[d.toNat]?) fun ak=>(if d.toNat=d.toNat then if room c.2.2.length ([(e,([]:List Int))]:Z6).length 32 then if d.toNat=d.toNat then oB (a[d.toNat]?) fun l=>(if fits (((c.2.2.length:Int)-1)+1)then oB ((a.set d.toNat (l.1,l.2.1,(c.2.2++([(e,([]:List Int))]:Z6))))[d.toNat]?) fun p=>(oB (p.2.2[(((c.2.2.length:Int)-1)+1).toNat]?) fun z=>oB ((a.set d.toNat (l.1,l.2.1,(c.2.2++([(e,([]:List Int))]:Z6))))[d.toNat]?) fun ad=>if d.toNat=d.toNat then oB ((a.set d.toNat (l.1,l.2.1,(c.2.2++([(e,([]:List Int))]:Z6))))[d.toNat]?) fun ao=>(if d.toNat=d.toNat then if 0<=(((c.2.2.length:Int)-1)+1)/\(((c.2.2.length:Int)-1)+1)<(p.2.2.length:Int)then oB (p.2.2[(((c.2.2.length:Int)-1)+1).toNat]?) fun af=>(if(((c.2.2.length:Int)-1)+1).toNat=(((c.2.2.length:Int)-1)+1).toNat then if room z.2.length ([i]:List Int).length 8 then if 0<=(((c.2.2.length:Int)-1)+1)/\(((c.2.2.length:Int)-1)+1)<(p.2.2.length:Int)then if(((c.2.2.length:Int)-1)+1).toNat=(((c.2.2.length:Int)-1)+1).toNat then oB (p.2.2[(((c.2.2.length:Int)-1)+1).toNat]?) fun H=>(some (o,((a.set d.toNat (l.1,l.2.1,(c.2.2++([(e,([]:List Int))]:Z6)))).modify d.toNat fun x=>(x.1,x.2.1,(p.2.2.set (((c.2.2.length:Int)-1)+1).toNat (H.1,(z.2++([i]:List Int))))))))else none else none else none else none)else none else none)else none)else none)else none else none else none)else(oB (a[d.toNat]?) fun ae=>if d.toNat=d.toNat then if 0<=((c.2.2.length:Int)-1)/\((c.2.2.length:Int)-1)<(c.2.2.length:Int)then oB (c.2.2[((c.2.2.length:Int)-1).toNat]?) fun L=>(bif !decide (L.1=e)then oB (a[d.toNat]?) fun X=>(if d.toNat=d.toNat then if room c.2.2.length ([(e,([]:List Int))]:Z6).length 32 then if d.toNat=d.toNat then oB (a[d.toNat]?) fun m=>(if fits (((c.2.2.length:Int)-1)+1)then oB ((a.set d.toNat (m.1,m.2.1,(c.2.2++([(e,([]:List Int))]:Z6))))[d.toNat]?) fun n=>(oB (n.2.2[(((c.2.2.length:Int)-1)+1).toNat]?) fun v=>oB ((a.set d.toNat (m.1,m.2.1,(c.2.2++([(e,([]:List Int))]:Z6))))[d.toNat]?) fun ag=>if d.toNat=d.toNat then oB ((a.set d.toNat (m.1,m.2.1,(c.2.2++([(e,([]:List Int))]:Z6))))[d.toNat]?) fun V=>(if d.toNat=d.toNat then if 0<=(((c.2.2.length:Int)-1)+1)/\(((c.2.2.length:Int)-1)+1)<(n.2.2.length:Int)then oB (n.2.2[(((c.2.2.length:Int)-1)+1).toNat]?) fun R=>(if(((c.2.2.length:Int)-1)+1).toNat=(((c.2.2.length:Int)-1)+1).toNat then if room v.2.length ([i]:List Int).length 8 then if 0<=(((c.2.2.length:Int)-1)+1)/\(((c.2.2.length:Int)-1)+1)<(n.2.2.length:Int)then if(((c.2.2.length:Int)-1)+1).toNat=(((c.2.2.length:Int)-1)+1).toNat then oB (n.2.2[(((c.2.2.length:Int)-1)+1).toNat]?) fun G=>(some (o,((a.set d.toNat (m.1,m.2.1,(c.2.2++([(e,([]:List Int))]:Z6)))).modify d.toNat fun B=>(B.1,B.2.1,(n.2.2.set (((c.2.2.length:Int)-1)+1).toNat (G.1,(v.2++([i]:List Int))))))))else none else none else none else none)else none else none)else none)else none)else none else none else none)else if d.toNat=d.toNat then oB (c.2.2[((c.2.2.length:Int)-1).toNat]?) fun w=>(oB (a[d.toNat]?) fun al=>if d.toNat=d.toNat then oB (a[d.toNat]?) fun U=>(if d.toNat=d.toNat then if 0<=((c.2.2.length:Int)-1)/\((c.2.2.length:Int)-1)<(c.2.2.length:Int)then oB (c.2.2[((c.2.2.length:Int)-1).toNat]?) fun aj=>(if((c.2.2.length:Int)-1).toNat=((c.2.2.length:Int)-1).toNat then if room w.2.length ([i]:List Int).length 8 then if 0<=((c.2.2.length:Int)-1)/\((c.2.2.length:Int)-1)<(c.2.2.length:Int)then if((c.2.2.length:Int)-1).toNat=((c.2.2.length:Int)-1).toNat then oB (c.2.2[((c.2.2.length:Int)-1).toNat]?) fun Q=>(some (o,(a.modify d.toNat fun C=>(C.1,C.2.1,(c.2.2.set ((c.2.2.length:Int)-1).toNat (Q.1,(w.2++([i]:List Int))))))))else none else none else none else none)else none else none)else none)else none)else none else none)else none)else none)
theorem jky :mK 57 ⟨⟨[.box 900000 0,pS,.agg [pS,pI],pI],[(900000,false,[.pv Y4,.tre 850001 Y7 116])]⟩,⟨[.tup []],[(900000,false,[.pv Y4,.tre 1 Y7 116])]⟩,c6A (i_Seg_put_m N)⟩:=
 mO (fC (jrl N) ja) func57 rfl N (.seq .no (.seq .no (.seq .no (.seq .no (.seq .no (.seq .no (.touch [.out 9 [(2,79,196,10),(1,88,3,0)]]))))))) _ (wr:=[33,34,70,71,91,92]) (rs:=[900000,850001]) (dw:=[16,33,70])
def jl0 :Sh:=⟨.pv (.int .u64):: .dead::pI::dz 22 [],[]⟩
def k_math_bits_Len64_m (N:Nat) (e:Int):Z12:=
 (meet (fun(a:Int×Int)=>match a with|(c,b)=>meet (fun(a:Int×Int)=>match a with|(f,d)=>meet (fun(a:Int×Int)=>match a with|(m,i)=>oB (idx ([0,1,2,2,3,3,3,3,4,4,4,4,4,4,4,4,5,5,5,5,5,5,5,5,5,5,5,5,5,5,5,5,6,6,6,6,6,6,6,6,6,6,6,6,6,6,6,6,6,6,6,6,6,6,6,6,6,6,6,6,6,6,6,6,7,7,7,7,7,7,7,7,7,7,7,7,7,7,7,7,7,7,7,7,7,7,7,7,7,7,7,7,7,7,7,7,7,7,7,7,7,7,7,7,7,7,7,7,7,7,7,7,7,7,7,7,7,7,7,7,7,7,7,7,7,7,7,7,8,8,8,8,8,8,8,8,8,8,8,8,8,8,8,8,8,8,8,8,8,8,8,8,8,8,8,8,8,8,8,8,8,8,8,8,8,8,8,8,8,8,8,8,8,8,8,8,8,8,8,8,8,8,8,8,8,8,8,8,8,8,8,8,8,8,8,8,8,8,8,8,8,8,8,8,8,8,8,8,8,8,8,8,8,8,8,8,8,8,8,8,8,8,8,8,8,8,8,8,8,8,8,8,8,8,8,8,8,8,8,8,8,8,8,8,8,8,8,8,8,8,8,8,8,8,8,8]:List UInt8) (IntKind.u8.wrap m)) fun j=>if fits (i+(IntKind.i64.wrap (j.toNat:Int)))then some (i+(IntKind.i64.wrap (j.toNat:Int)))else none) fun h=>bif decide ((256:Int)<=f)then if 0<=(8:Int)then if fits (d+8)then h ((f.fdiv (2^(min (8:Int).toNat (IntKind.bits .u64)))),(d+8))else none else none else h (f,d)) fun k=>bif decide ((65536:Int)<=c)then if 0<=(16:Int)then if fits (b+16)then k ((c.fdiv (2^(min (16:Int).toNat (IntKind.bits .u64)))),(b+16))else none else none else k (c,b)) fun l=>bif decide ((4294967296:Int)<=e)then if 0<=(32:Int)then l ((e.fdiv (2^(min (32:Int).toNat (IntKind.bits .u64)))),32)else none else l (e,0))
theorem jrK :mK 216 (bX [.pv (.int .u64)] [pI] (c1A (k_math_bits_Len64_m N))):=
 mO ja func216 rfl N (.seq .no (.meet jl0 .no (.meet jl0 .no (.meet jl0 .no .no)))) _
def k_math_bits_Len_m (a:Int):Z12:=
 (oB (k_math_bits_Len64_m N a) fun b=>some b)
theorem jda :mK 137 (bX [.pv (.int .u64)] [pI] (c1A (k_math_bits_Len_m N))):=
 mO (fC (jrK N) ja) func137 rfl N .no _
def jbn (N:Nat) (a:List UInt8):Z8:=
 (some (!decide (a=a)))
theorem jkt :mK 138 (bX [pS] [pB] (c1A (jbn N))):=
 mO ja func138 rfl N .no _
def jam (a:List UInt8) (b:List UInt8):Z12:=
 (oB (jbn N a) fun d=>oB (jbn N b) fun c=>bif d then bif c then some 0 else(some (-1))else bif c then some 1 else bif Op.bytesLess a b then some (-1)else bif !(Op.bytesLess a b||decide (a=b))then some 1 else some 0)
theorem ji2 :mK 61 (bX [pS,pS] [pI] (c2A (jam N))):=
 mO (fC (jkt N) ja) func61 rfl N .no _
def je (h:List UInt8) (f:List UInt8) (i:Z6) (c:List UInt8) (e:List UInt8) (j:Z6):Z12:=
 (oB (jam N h c) fun b=>oB (jam N f e) fun a=>oB (k_cmp_Or_892_m N ([b,a]:List Int)) fun d=>some d)
theorem jaf :mK 59 (bX [.agg [pS,pS,.pv Y15],.agg [pS,pS,.pv Y15]] [pI] (c6A (je N))):=
 mO (fC (ji2 N) (fC (jhC N) ja)) func59 rfl N .no _
def k_slices_nextPowerOfTwo_m (b:Int):Z12:=
 (oB (k_math_bits_Len_m N (IntKind.u64.wrap b)) fun a=>if 0<=a then some (IntKind.u64.wrap ((1:Int)*2^(min a.toNat (IntKind.bits .u64))))else none)
theorem jhv :mK 286 (bX [pI] [.pv (.int .u64)] (c1A (k_slices_nextPowerOfTwo_m N))):=
 mO (fC (jda N) ja) func286 rfl N .no _
def k__slices_xorshift_Next_m (N:Nat) (a:Int):Option (Int×Int):=
 (if 0<=(13:Int)then if 0<=(7:Int)then if 0<=(17:Int)then some ((bitsI .xor .u64 (bitsI .xor .u64 (bitsI .xor .u64 a (IntKind.u64.wrap (a*2^(min (13:Int).toNat (IntKind.bits .u64))))) ((bitsI .xor .u64 a (IntKind.u64.wrap (a*2^(min (13:Int).toNat (IntKind.bits .u64))))).fdiv (2^(min (7:Int).toNat (IntKind.bits .u64))))) (IntKind.u64.wrap ((bitsI .xor .u64 (bitsI .xor .u64 a (IntKind.u64.wrap (a*2^(min (13:Int).toNat (IntKind.bits .u64))))) ((bitsI .xor .u64 a (IntKind.u64.wrap (a*2^(min (13:Int).toNat (IntKind.bits .u64))))).fdiv (2^(min (7:Int).toNat (IntKind.bits .u64)))))*2^(min (17:Int).toNat (IntKind.bits .u64))))),(bitsI .xor .u64 (bitsI .xor .u64 (bitsI .xor .u64 a (IntKind.u64.wrap (a*2^(min (13:Int).toNat (IntKind.bits .u64))))) ((bitsI .xor .u64 a (IntKind.u64.wrap (a*2^(min (13:Int).toNat (IntKind.bits .u64))))).fdiv (2^(min (7:Int).toNat (IntKind.bits .u64))))) (IntKind.u64.wrap ((bitsI .xor .u64 (bitsI .xor .u64 a (IntKind.u64.wrap (a*2^(min (13:Int).toNat (IntKind.bits .u64))))) ((bitsI .xor .u64 a (IntKind.u64.wrap (a*2^(min (13:Int).toNat (IntKind.bits .u64))))).fdiv (2^(min (7:Int).toNat (IntKind.bits .u64)))))*2^(min (17:Int).toNat (IntKind.bits .u64))))))else none else none else none)
theorem jet :mK 287 ⟨⟨[.box 900000 0],[(900000,false,[.pv (.int .u64)])]⟩,⟨[.pv (.int .u64)],[(900000,false,[.pv (.int .u64)])]⟩,c1A (k__slices_xorshift_Next_m N)⟩:=
 mO ja func287 rfl N .no _ (rs:=[900000])
section
variable {α γ ρ : Type} (c : γ -> α -> α -> Option Int)
def swpG (d:List α) (i j:Int) (k:List α->Option ρ):Option ρ:=
 if 0<=j/\j<(d.length:Int)then oB (d[j.toNat]?) fun e=>if 0<=i/\i<(d.length:Int)then oB (d[i.toNat]?) fun e2=>
  if 0<=i/\i<(d.length:Int)then oB (d[i.toNat]?) fun e3=>if 0<=j/\j<((d.set i.toNat e).length:Int)then oB ((d.set i.toNat e)[j.toNat]?) fun e4=>k ((d.set i.toNat e).set j.toNat e2)
  else none else none else none else none
def cmpG (ks:γ) (d:List α) (i j:Int) (k:Int->Option ρ):Option ρ:=
 if 0<=i/\i<(d.length:Int)then oB (d[i.toNat]?) fun e=>if 0<=j/\j<(d.length:Int)then oB (d[j.toNat]?) fun e2=>oB (c ks e e2) k else none else none
def cmpP (ks:γ) (d:List α) (j:Int) (k:Int->Option ρ):Option ρ:=
 if 0<=j/\j<(d.length:Int)then oB (d[j.toNat]?) fun e=>if fits (j-1)then if 0<=(j-1)/\(j-1)<(d.length:Int)then oB (d[(j-1).toNat]?) fun e2=>oB (c ks e e2) k else none else none else none
def swpP (d:List α) (j:Int) (k:List α->Option ρ):Option ρ:=if fits (j-1)then if fits (j-1)then swpG d j (j-1) k else none else none
def insG (N:Nat) (d:List α) (a b:Int) (ks:γ):Option (List α):=
 if fits (a+1)then iter (fun go (g:List α×Int×Int×γ×Int)=>
  match g with
  |(d2,a2,b2,ks2,i)=>
  bif decide (i<b2)then
   iter (fun go2 (g:List α×Int×Int×γ×Int×Int)=>
    match g with
    |(d3,a3,b3,ks3,i2,j)=>
    bif decide (a3<j)then cmpP c ks3 d3 j fun r=>bif decide (r<0)then swpP d3 j fun d=>if fits (j-1)then go2 (d,a3,b3,ks3,i2,j-1)else none
     else if fits (i2+1)then go (d3,a3,b3,ks3,i2+1)else none
    else if fits (i2+1)then go (d3,a3,b3,ks3,i2+1)else none) N (d2,a2,b2,ks2,i,i)
  else some d2) N (d,a,b,ks,a+1)else none
def siftG (N:Nat) (data:List α) (lo:Int) (hi:Int) (first:Int) (cmp:γ):Option ((List α)):=
 (iter (fun go (g:(List α)×Int×Int×γ×Int)=>
   match g with
   |(data2,hi2,first2,cmp2,root)=>
   (if fits (2*root)then(if fits ((2*root)+1)then(bif(decide (hi2<=((2*root)+1)))then
      (some data2)
      else
      (meet (fun(g:(List α)×Int×Int×γ×Int×Int)=>
        match g with
        |(data3,hi3,first3,cmp3,root2,child)=>
        (if fits (first3+root2)then(if 0<=(first3+root2)/\(first3+root2)<(data3.length:Int)then
          (oB (data3[(first3+root2).toNat]?) fun e3=>
           (if fits (first3+child)then(if 0<=(first3+child)/\(first3+child)<(data3.length:Int)then
             (oB (data3[(first3+child).toNat]?) fun e4=>
              (oB (c cmp3 e3 e4) fun r2=>
               (bif(!(decide (r2<0)))then
                (some data3)
                else
                (if fits (first3+root2)then(if fits (first3+child)then(if fits (first3+child)then(if 0<=(first3+child)/\(first3+child)<(data3.length:Int)then
                    (oB (data3[(first3+child).toNat]?) fun e5=>
                     (if fits (first3+root2)then(if 0<=(first3+root2)/\(first3+root2)<(data3.length:Int)then
                       (oB (data3[(first3+root2).toNat]?) fun e6=>
                        (if 0<=(first3+root2)/\(first3+root2)<(data3.length:Int)then
                         (oB (data3[(first3+root2).toNat]?) fun e7=>
                          (if 0<=(first3+child)/\(first3+child)<((data3.set (first3+root2).toNat e5).length:Int)then
                           (oB ((data3.set (first3+root2).toNat e5)[(first3+child).toNat]?) fun e8=>
                            (go (((data3.set (first3+root2).toNat e5).set (first3+child).toNat e6),hi3,first3,cmp3,child)))
                           else none))
                         else none))
                       else none)else none))
                    else none)else none)else none)else none))))
             else none)else none))
          else none)else none)) fun J=>
       (if fits (((2*root)+1)+1)then(bif(decide ((((2*root)+1)+1)<hi2))then
         (if fits (first2+((2*root)+1))then(if 0<=(first2+((2*root)+1))/\(first2+((2*root)+1))<(data2.length:Int)then
           (oB (data2[(first2+((2*root)+1)).toNat]?) fun e=>
            (if fits (first2+((2*root)+1))then(if fits ((first2+((2*root)+1))+1)then(if 0<=((first2+((2*root)+1))+1)/\((first2+((2*root)+1))+1)<(data2.length:Int)then
               (oB (data2[((first2+((2*root)+1))+1).toNat]?) fun e2=>
                (oB (c cmp2 e e2) fun r=>
                 (bif(decide (r<0))then
                  (if fits (((2*root)+1)+1)then(J (data2,hi2,first2,cmp2,root,(((2*root)+1)+1)))else none)
                  else
                  (J (data2,hi2,first2,cmp2,root,((2*root)+1))))))
               else none)else none)else none))
           else none)else none)
         else
         (J (data2,hi2,first2,cmp2,root,((2*root)+1))))else none)))else none)else none)) N (data,hi,first,cmp,lo))
def heapG (N:Nat) (data:List α) (a:Int) (b:Int) (cmp:γ):Option ((List α)):=
 (if fits (b-a)then(if fits ((b-a)-1)then(if 2≠0 then
    (if fits (((b-a)-1).tdiv 2)then(iter (fun go (g:(List α)×γ×Int×Int×Int×Int)=>
       match g with
       |(data2,cmp2,first,lo,hi,i)=>
       (bif(decide ((0:Int)<=i))then
        (oB (siftG c N data2 i hi first cmp2) fun r=>
         (if fits (i-1)then(go (r,cmp2,first,lo,hi,(i-1)))else none))
        else
        (if fits (hi-1)then(iter (fun go2 (g:(List α)×γ×Int×Int×Int)=>
           match g with
           |(data3,cmp3,first2,lo2,i2)=>
           (bif(decide ((0:Int)<=i2))then
            (if fits (first2+i2)then(if fits (first2+i2)then swpG data3 first2 (first2+i2) fun d=>(oB (siftG c N d lo2 i2 first2 cmp3) fun r2=>
                       (if fits (i2-1)then(go2 (r2,cmp3,first2,lo2,(i2-1)))else none))else none)else none)
            else
            (some data3))) N (data2,cmp2,first,lo,(hi-1)))else none))) N (data,cmp,a,0,(b-a),(((b-a)-1).tdiv 2)))else none)
    else none)else none)else none)
def breakG (N:Nat) (data:List α) (a:Int) (b:Int) (cmp:γ):Option (List α):=
 (if fits (b-a)then(bif(decide ((8:Int)<=(b-a)))then
   (oB (k_slices_nextPowerOfTwo_m N (b-a)) fun r=>
    (if 4≠0 then
     (if fits ((b-a).tdiv 4)then(if fits (((b-a).tdiv 4)*2)then(if fits (a+(((b-a).tdiv 4)*2))then(if fits ((a+(((b-a).tdiv 4)*2))-1)then(iter (fun go (g:(List α)×Int×Int×Int×Int×Int)=>
           match g with
           |(data2,a2,length,modulus,idx0,random)=>
           (if 4≠0 then
            (if fits (length.tdiv 4)then(if fits ((length.tdiv 4)*2)then(if fits (a2+((length.tdiv 4)*2))then(if fits ((a2+((length.tdiv 4)*2))+1)then(bif(decide (idx0<=((a2+((length.tdiv 4)*2))+1)))then
                 (oB (k__slices_xorshift_Next_m N random) fun r2=>
                  (meet (fun(g:(List α)×Int×Int×Int×Int×Int×Int)=>
                    match g with
                    |(data3,a3,length2,modulus2,idx02,other,random2)=>
                    (if fits (a3+other)then(if fits (a3+other)then swpG data3 idx02 (a3+other) fun d=>(if fits (idx02+1)then(go (d,a3,length2,modulus2,(idx02+1),random2))else none)else none)else none)) fun J=>
                   (bif(decide (length<=(IntKind.i64.wrap (bitsI .and .u64 r2.1 (IntKind.u64.wrap (modulus-1))))))then
                    (if fits ((IntKind.i64.wrap (bitsI .and .u64 r2.1 (IntKind.u64.wrap (modulus-1))))-length)then(J (data2,a2,length,modulus,idx0,((IntKind.i64.wrap (bitsI .and .u64 r2.1 (IntKind.u64.wrap (modulus-1))))-length),r2.2))else none)
                    else
                    (J (data2,a2,length,modulus,idx0,(IntKind.i64.wrap (bitsI .and .u64 r2.1 (IntKind.u64.wrap (modulus-1)))),r2.2)))))
                 else
                 (some data2))else none)else none)else none)else none)
            else none)) N (data,a,(b-a),r,((a+(((b-a).tdiv 4)*2))-1),(IntKind.u64.wrap (b-a))))else none)else none)else none)else none)
     else none))
   else
   (some data))else none)
def order2G (N:Nat) (data:List α) (a:Int) (b:Int) (cmp:γ) (b2:Int):Option (Int×Int×(List α)×Int):=
 cmpG c cmp data b a fun r=>(bif(decide (r<0))then(if fits (b2+1)then(some (b,a,data,(b2+1)))else none)else(some (a,b,data,b2)))
def medianG (N:Nat) (data:List α) (a:Int) (b:Int) (c0:Int) (cmp:γ) (b2:Int):Option (Int×(List α)×Int):=
 (oB (order2G c N data a b cmp b2) fun r=>
  (oB (order2G c N r.2.2.1 r.2.1 c0 cmp r.2.2.2) fun r2=>
   (oB (order2G c N r2.2.2.1 r.1 r2.1 cmp r2.2.2.2) fun r3=>
    (some (r3.2.1,r3.2.2.1,r3.2.2.2)))))
def medianAdjacentG (N:Nat) (data:List α) (a:Int) (cmp:γ) (b:Int):Option (Int×(List α)×Int):=
 (if fits (a-1)then(if fits (a+1)then(oB (medianG c N data (a-1) a (a+1) cmp b) fun r=>
    (some (r.1,r.2.1,r.2.2)))else none)else none)
def choosePivotG (N:Nat) (data:List α) (a:Int) (b:Int) (cmp:γ):Option (Int×Int×(List α)):=
 (if fits (b-a)then(if 4≠0 then
   (if fits ((b-a).tdiv 4)then(if fits (((b-a).tdiv 4)*1)then(if fits (a+(((b-a).tdiv 4)*1))then(if 4≠0 then
       (if fits ((b-a).tdiv 4)then(if fits (((b-a).tdiv 4)*2)then(if fits (a+(((b-a).tdiv 4)*2))then(if 4≠0 then
           (if fits ((b-a).tdiv 4)then(if fits (((b-a).tdiv 4)*3)then(if fits (a+(((b-a).tdiv 4)*3))then(meet (fun(g:(List α)×Int×Int)=>
                match g with
                |(data3,j2,swaps2)=>
                (bif(decide (swaps2=0))then
                 (some (j2,1,data3))
                 else
                 (bif(decide (swaps2=12))then
                  (some (j2,2,data3))
                  else
                  (some (j2,0,data3))))) fun J=>
               (bif(decide ((8:Int)<=(b-a)))then
                (meet (fun(g:(List α)×γ×Int×Int×Int×Int)=>
                  match g with
                  |(data2,cmp2,i,j,k,swaps)=>
                  (oB (medianG c N data2 i j k cmp2 swaps) fun r4=>
                   (J (r4.2.1,r4.1,r4.2.2)))) fun J2=>
                 (bif(decide ((50:Int)<=(b-a)))then
                  (oB (medianAdjacentG c N data (a+(((b-a).tdiv 4)*1)) cmp 0) fun r=>
                   (oB (medianAdjacentG c N r.2.1 (a+(((b-a).tdiv 4)*2)) cmp r.2.2) fun r2=>
                    (oB (medianAdjacentG c N r2.2.1 (a+(((b-a).tdiv 4)*3)) cmp r2.2.2) fun r3=>
                     (J2 (r3.2.1,cmp,r.1,r2.1,r3.1,r3.2.2)))))
                  else
                  (J2 (data,cmp,(a+(((b-a).tdiv 4)*1)),(a+(((b-a).tdiv 4)*2)),(a+(((b-a).tdiv 4)*3)),0))))
                else
                (J (data,(a+(((b-a).tdiv 4)*2)),0))))else none)else none)else none)
           else none)else none)else none)else none)
       else none)else none)else none)else none)
   else none)else none)
def reverseRangeG (N:Nat) (data:List α) (a:Int) (b:Int) (cmp:γ):Option ((List α)):=
 (if fits (b-1)then(iter (fun go (g:(List α)×Int×Int)=>
    match g with
    |(data2,i,j)=>
    (bif(decide (i<j))then swpG data2 i j fun d=>(if fits (i+1)then(if fits (j-1)then(go (d,(i+1),(j-1)))else none)else none)
     else
     (some data2))) N (data,a,(b-1)))else none)
def shDown (k:(List α×Int×Int×γ×Int×Int)->Option ρ) (N:Nat) (g:List α×Int×Int×γ×Int×Int×Int):Option ρ:=
 iter (fun go3 (g:(List α)×Int×Int×γ×Int×Int×Int)=>
  match g with
  |(d,a,b,ks,i,j,j4)=>
  bif decide ((1:Int)<=j4)then cmpP c ks d j4 fun r=>bif !decide (r<0)then k (d,a,b,ks,i,j)else swpP d j4 fun d'=>if fits (j4-1)then go3 (d',a,b,ks,i,j,j4-1)else none
  else k (d,a,b,ks,i,j)) N g
def shUp (k:(List α×Int×Int×γ×Int×Int)->Option ρ) (N:Nat) (g:List α×Int×Int×γ×Int×Int×Int):Option ρ:=
 iter (fun go4 (g:(List α)×Int×Int×γ×Int×Int×Int)=>
  match g with
  |(d,a,b,ks,i,j,j4)=>
  bif decide (j4<b)then cmpP c ks d j4 fun r=>bif !decide (r<0)then(if fits (j+1)then k (d,a,b,ks,i,j+1)else none)else swpP d j4 fun d'=>if fits (j4+1)then go4 (d',a,b,ks,i,j,j4+1)else none
  else if fits (j+1)then k (d,a,b,ks,i,j+1)else none) N g
def pisX (N:Nat) (go:(List α×Int×Int×γ×Int×Int)->Option (Bool×List α)) (d:List α) (a b:Int) (ks:γ) (i j:Int):Option (Bool×List α):=
 bif decide (i=b)then some (true,d)else if fits (b-a)then bif decide ((b-a)<50)then some (false,d)else
  swpP d i fun d'=>meet (fun(g:List α×Int×Int×γ×Int×Int)=>
   match g with
   |(d5,a5,b5,ks5,i4,j5)=>
   if fits (b5-i4)then bif decide ((2:Int)<=(b5-i4))then if fits (i4+1)then shUp c go N (d5,a5,b5,ks5,i4,j5,i4+1)else none
    else(if fits (j5+1)then go (d5,a5,b5,ks5,i4,j5+1)else none)else none) fun J=>
   if fits (i-a)then bif decide ((2:Int)<=(i-a))then if fits (i-1)then shDown c J N (d',a,b,ks,i,j,i-1)else none else J (d',a,b,ks,i,j)else none
 else none
def pisG (N:Nat) (d:List α) (a b:Int) (ks:γ):Option (Bool×List α):=
 if fits (a+1)then iter (fun go (g:List α×Int×Int×γ×Int×Int)=>
  match g with
  |(d2,a2,b2,ks2,i,j)=>
  bif decide (j<5)then
   iter (fun go2 (g:List α×Int×Int×γ×Int×Int)=>
    match g with
    |(d3,a3,b3,ks3,i2,j2)=>
    bif decide (i2<b3)then cmpP c ks3 d3 i2 fun r=>bif !decide (r<0)then(if fits (i2+1)then go2 (d3,a3,b3,ks3,i2+1,j2)else none)else pisX c N go d3 a3 b3 ks3 i2 j2
    else pisX c N go d3 a3 b3 ks3 i2 j2) N (d2,a2,b2,ks2,i,j)
  else some (false,d2)) N (d,a,b,ks,a+1,0)else none
def partE (go3:(List α×Int×γ×Int×Int)->Option (Int×Bool×List α)) (fl:Bool) (g:List α×Int×γ×Int×Int):Option (Int×Bool×List α):=
 match g with
 |(d,a,ks,i,j)=>
 bif decide (j<i)then swpG d j a fun d'=>some (j,fl,d')else swpG d i j fun d'=>if fits (i+1)then if fits (j-1)then go3 (d',a,ks,i+1,j-1)else none else none
def partD (k:(List α×Int×γ×Int×Int)->Option ρ) (N:Nat) (g:List α×Int×γ×Int×Int):Option ρ:=
 iter (fun go (g:List α×Int×γ×Int×Int)=>
  match g with
  |(d,a,ks,i,j)=>
  bif decide (i<=j)then cmpG c ks d j a fun r=>bif !decide (r<0)then(if fits (j-1)then go (d,a,ks,i,j-1)else none)else k (d,a,ks,i,j)
  else k (d,a,ks,i,j)) N g
def partU (k:(List α×Int×γ×Int×Int)->Option ρ) (N:Nat) (g:List α×Int×γ×Int×Int):Option ρ:=
 iter (fun go (g:List α×Int×γ×Int×Int)=>
  match g with
  |(d,a,ks,i,j)=>
  bif decide (i<=j)then cmpG c ks d i a fun r=>bif decide (r<0)then(if fits (i+1)then go (d,a,ks,i+1,j)else none)else k (d,a,ks,i,j)
  else k (d,a,ks,i,j)) N g
def partG (N:Nat) (d:List α) (a b p:Int) (ks:γ):Option (Int×Bool×List α):=
 swpG d a p fun d=>if fits (a+1)then if fits (b-1)then
  partU c (fun g=>partD c (partE (fun g=>iter (fun go3 g=>partU c (fun g=>partD c (partE go3 false) N g) N g) N g) true) N g) N (d,a,ks,a+1,b-1)
 else none else none
def peqE (go:(List α×Int×γ×Int×Int)->Option (Int×List α)) (g:List α×Int×γ×Int×Int):Option (Int×List α):=
 match g with
 |(d,a,ks,i,j)=>
 bif decide (j<i)then some (i,d)else swpG d i j fun d'=>if fits (i+1)then if fits (j-1)then go (d',a,ks,i+1,j-1)else none else none
def peqD (k:(List α×Int×γ×Int×Int)->Option ρ) (N:Nat) (g:List α×Int×γ×Int×Int):Option ρ:=
 iter (fun go (g:List α×Int×γ×Int×Int)=>
  match g with
  |(d,a,ks,i,j)=>
  bif decide (i<=j)then cmpG c ks d a j fun r=>bif decide (r<0)then(if fits (j-1)then go (d,a,ks,i,j-1)else none)else k (d,a,ks,i,j)
  else k (d,a,ks,i,j)) N g
def peqU (k:(List α×Int×γ×Int×Int)->Option ρ) (N:Nat) (g:List α×Int×γ×Int×Int):Option ρ:=
 iter (fun go (g:List α×Int×γ×Int×Int)=>
  match g with
  |(d,a,ks,i,j)=>
  bif decide (i<=j)then cmpG c ks d a i fun r=>bif !decide (r<0)then(if fits (i+1)then go (d,a,ks,i+1,j)else none)else k (d,a,ks,i,j)
  else k (d,a,ks,i,j)) N g
def peqG (N:Nat) (d:List α) (a b p:Int) (ks:γ):Option (Int×List α):=
 swpG d a p fun d=>if fits (a+1)then if fits (b-1)then iter (fun go g=>peqU c (fun g=>peqD c (peqE go) N g) N g) N (d,a,ks,a+1,b-1)else none else none
def pdqG (hs:List α->Int->Int->γ->Option (List α)) (pe:List α->Int->Int->Int->γ->Option (Int×List α)) (N:Nat):(D:Nat)->(List α)->Int->Int->Int->γ->Option ((List α))
 |0,_,_,_,_,_=>none
 |D+1,data,a,b,limit,cmp=>
 (iter (fun go (g:(List α)×Int×Int×Int×γ×Bool×Bool)=>
   match g with
   |(data2,a2,b2,limit2,cmp2,wasBalanced,wasPartitioned)=>
   (if fits (b2-a2)then(bif(decide ((b2-a2)<=12))then
     (oB (insG c N data2 a2 b2 cmp2) fun r=>
      (some r))
     else
     (bif(decide (limit2=0))then
      (oB (hs data2 a2 b2 cmp2) fun r2=>
       (some r2))
      else
      (meet (fun(g:(List α)×Int×Int×Int×γ×Bool×Bool×Int)=>
        match g with
        |(data3,a3,b3,limit3,cmp3,wasBalanced2,wasPartitioned2,length)=>
        (oB (choosePivotG c N data3 a3 b3 cmp3) fun r4=>
         (meet (fun(g:(List α)×Int×Int×Int×γ×Bool×Bool×Int×Int×Int)=>
           match g with
           |(data4,a4,b4,limit4,cmp4,wasBalanced3,wasPartitioned3,length2,pivot,hint)=>
           (meet (fun(g:(List α)×Int×Int×Int×γ×Bool×Bool×Int×Int)=>
             match g with
             |(data5,a5,b5,limit5,cmp5,wasBalanced4,wasPartitioned4,length3,pivot2)=>
             (bif(decide ((0:Int)<a5))then
              (if fits (a5-1)then(if 0<=(a5-1)/\(a5-1)<(data5.length:Int)then
                (oB (data5[(a5-1).toNat]?) fun e=>
                 (if 0<=pivot2/\pivot2<(data5.length:Int)then
                  (oB (data5[pivot2.toNat]?) fun e2=>
                   (oB (c cmp5 e e2) fun r7=>
                    (bif(!(decide (r7<0)))then
                     (oB (pe data5 a5 b5 pivot2 cmp5) fun r8=>
                      (go (r8.2,r8.1,b5,limit5,cmp5,wasBalanced4,wasPartitioned4)))
                     else
                     (oB (partG c N data5 a5 b5 pivot2 cmp5) fun r9=>
                      (if fits (r9.1-a5)then(if fits (b5-r9.1)then(if 8≠0 then
                         (if fits (length3.tdiv 8)then(bif(decide ((r9.1-a5)<(b5-r9.1)))then
                           (oB (pdqG hs pe N D r9.2.2 a5 r9.1 limit5 cmp5) fun r10=>
                            (if fits (r9.1+1)then(go (r10,(r9.1+1),b5,limit5,cmp5,(decide ((length3.tdiv 8)<=(r9.1-a5))),r9.2.1))else none))
                           else
                           (if fits (r9.1+1)then(oB (pdqG hs pe N D r9.2.2 (r9.1+1) b5 limit5 cmp5) fun r11=>
                             (go (r11,a5,r9.1,limit5,cmp5,(decide ((length3.tdiv 8)<=(b5-r9.1))),r9.2.1)))else none))else none)
                         else none)else none)else none)))))
                  else none))
                else none)else none)
              else
              (oB (partG c N data5 a5 b5 pivot2 cmp5) fun r12=>
               (if fits (r12.1-a5)then(if fits (b5-r12.1)then(if 8≠0 then
                  (if fits (length3.tdiv 8)then(bif(decide ((r12.1-a5)<(b5-r12.1)))then
                    (oB (pdqG hs pe N D r12.2.2 a5 r12.1 limit5 cmp5) fun r13=>
                     (if fits (r12.1+1)then(go (r13,(r12.1+1),b5,limit5,cmp5,(decide ((length3.tdiv 8)<=(r12.1-a5))),r12.2.1))else none))
                    else
                    (if fits (r12.1+1)then(oB (pdqG hs pe N D r12.2.2 (r12.1+1) b5 limit5 cmp5) fun r14=>
                      (go (r14,a5,r12.1,limit5,cmp5,(decide ((length3.tdiv 8)<=(b5-r12.1))),r12.2.1)))else none))else none)
                  else none)else none)else none)))) fun J3=>
            (bif wasBalanced3 then
             (bif wasPartitioned3 then
              (bif(decide (hint=1))then
               (oB (pisG c N data4 a4 b4 cmp4) fun r6=>
                (bif r6.1 then
                 (some r6.2)
                 else
                 (J3 (r6.2,a4,b4,limit4,cmp4,wasBalanced3,wasPartitioned3,length2,pivot))))
               else
               (J3 (data4,a4,b4,limit4,cmp4,wasBalanced3,wasPartitioned3,length2,pivot)))
              else
              (J3 (data4,a4,b4,limit4,cmp4,wasBalanced3,wasPartitioned3,length2,pivot)))
             else
             (J3 (data4,a4,b4,limit4,cmp4,wasBalanced3,wasPartitioned3,length2,pivot))))) fun J2=>
          (bif(decide (r4.2.1=2))then
           (oB (reverseRangeG N r4.2.2 a3 b3 cmp3) fun r5=>
            (if fits (b3-1)then(if fits (r4.1-a3)then(if fits ((b3-1)-(r4.1-a3))then(J2 (r5,a3,b3,limit3,cmp3,wasBalanced2,wasPartitioned2,length,((b3-1)-(r4.1-a3)),1))else none)else none)else none))
           else
           (J2 (r4.2.2,a3,b3,limit3,cmp3,wasBalanced2,wasPartitioned2,length,r4.1,r4.2.1)))))) fun J=>
       (bif(!wasBalanced)then
        (oB (breakG N data2 a2 b2 cmp2) fun r3=>
         (if fits (limit2-1)then(J (r3,a2,b2,(limit2-1),cmp2,wasBalanced,wasPartitioned,(b2-a2)))else none))
        else
        (J (data2,a2,b2,limit2,cmp2,wasBalanced,wasPartitioned,(b2-a2)))))))else none)) N (data,a,b,limit,cmp,true,true))
end
def cmp105 (N:Nat):(Unit)->Z2->Z2->Option Int:=(fun(cmp:Unit) (e e2:Z1×Z1×Z14)=>je N e.1 e.2.1 e.2.2 e2.1 e2.2.1 e2.2.2)
def jny :Sh:=⟨.mtk 800000 Y7 116 false::pI::pI:: .clo 59 []::dz 4 (pI::dz 44 []),[]⟩
def jll :Sh:=⟨.mtk 800000 Y7 116 false::pI::pI:: .clo 59 []::dz 4 (pI::pI::dz 43 []),[]⟩
def jeC (c:List Z2) (b:Int) (a:Int) (d:Unit):Option ((List Z2)):=insG (cmp105 N) N c b a d
 
theorem jqw :mK 207 (bX [.mtk 800000 Y7 116 false,pI,pI,.clo 59 []] [.tup [],.mtk 800000 Y7 116 false] (c4A (jeC N))):=
 mO (fC (jaf N) ja) func207 rfl N (.seq .no (.block (.loop jny (.seq .no (.seq (.block (.seq .no (.block (.loop jll .no)))) .no))))) _ (rs:=[800000])
def jnV :Sh:=⟨.mtk 800000 Y7 116 false:: .dead::pI::pI:: .clo 59 []::dz 5 (pI::dz 71 []),[]⟩
def jmo :Sh:=⟨.mtk 800000 Y7 116 false:: .dead::pI::pI:: .clo 59 []::dz 5 (pI::pI::dz 70 []),[]⟩
def jdy (a:List Z2) (e:Int) (c:Int) (b:Int) (d:Unit):Option ((List Z2)):=siftG (cmp105 N) N a e c b d
 
theorem jqE :mK 285 (bX [.mtk 800000 Y7 116 false,pI,pI,pI,.clo 59 []] [.tup [],.mtk 800000 Y7 116 false] (c5A (jdy N))):=
 mO (fC (jaf N) ja) func285 rfl N (.seq .no (.block (.loop jnV (.block (.seq .no (.seq .no (.meet jmo .no .no))))))) _ (rs:=[800000])
def jmY :Sh:=⟨.mtk 800000 Y7 116 false:: .dead:: .dead:: .clo 59 []::dz 4 (pI::pI::pI::pI::dz 48 []),[]⟩
def jq3 :Sh:=⟨.mtk 800000 Y7 116 false:: .dead:: .dead:: .clo 59 []::dz 4 (pI::pI:: .dead:: .dead::pI::dz 47 []),[]⟩
def jaC (c:List Z2) (b:Int) (a:Int) (d:Unit):Option ((List Z2)):=heapG (cmp105 N) N c b a d
 
theorem jqz :mK 208 (bX [.mtk 800000 Y7 116 false,pI,pI,.clo 59 []] [.tup [],.mtk 800000 Y7 116 false] (c4A (jaC N))):=
 mO (fC (jqE N) ja) func208 rfl N (.seq .no (.seq .no (.seq .no (.seq (.seq .no (.block (.loop jmY .no))) (.seq .no (.block (.loop jq3 .no))))))) _ (rs:=[800000])
def jkH :Sh:=⟨.mtk 800000 Y7 116 false::pI::dz 6 (pI:: .box 9 0:: .pv (.int .u64)::pI::dz 55 []),[(9,false,[.pv (.int .u64)])]⟩
def jmx :Sh:=⟨.mtk 800000 Y7 116 false::pI::dz 6 (pI:: .box 9 0:: .pv (.int .u64)::pI::pI::dz 54 []),[(9,false,[.pv (.int .u64)])]⟩
def jez (c:List Z2) (b:Int) (a:Int) (d:Unit):Option ((List Z2)):=breakG N c b a d
 
theorem jlO :mK 209 (bX [.mtk 800000 Y7 116 false,pI,pI,.clo 59 []] [.tup [],.mtk 800000 Y7 116 false] (c4A (jez N))):=
 mO (fC (jhv N) (fC (jet N) ja)) func209 rfl N (.seq .no (.seq .no (.cond (.seq .no (.seq .no (.seq .no (.block (.loop jkH (.seq .no (.seq (.block (.seq .no (.meet jmx .no .no))) .no))))))) .no))) _ (rs:=[800000])
def jcG (c:List Z2) (b:Int) (a:Int) (d:Unit) (e:Int):Option (Int×Int×(List Z2)×Int):=order2G (cmp105 N) N c b a d e
 
theorem jrN :mK 322 ⟨⟨[.mtk 800000 Y7 116 false,pI,pI,.box 900003 0,.clo 59 []],[(900003,false,[pI])]⟩,⟨[.tup [pI,pI],.mtk 800000 Y7 116 false],[(900003,false,[pI])]⟩,c5A (jcG N)⟩:=
 mO (fC (jaf N) ja) func322 rfl N .no _ (rs:=[900003,800000])
def jdE (d:List Z2) (c:Int) (b:Int) (a:Int) (e:Unit) (f:Int):Option (Int×(List Z2)×Int):=medianG (cmp105 N) N d c b a e f
 
theorem jfr :mK 289 ⟨⟨[.mtk 800000 Y7 116 false,pI,pI,pI,.box 900004 0,.clo 59 []],[(900004,false,[pI])]⟩,⟨[pI,.mtk 800000 Y7 116 false],[(900004,false,[pI])]⟩,c6A (jdE N)⟩:=
 mO (fC (jrN N) ja) func289 rfl N .no _ (rs:=[900004,800000])
def jca (c:List Z2) (b:Int) (d:Unit) (a:Int):Option (Int×(List Z2)×Int):=medianAdjacentG (cmp105 N) N c b d a
 
theorem jko :mK 288 ⟨⟨[.mtk 800000 Y7 116 false,pI,.box 900002 0,.clo 59 []],[(900002,false,[pI])]⟩,⟨[pI,.mtk 800000 Y7 116 false],[(900002,false,[pI])]⟩,c4A (jca N)⟩:=
 mO (fC (jfr N) ja) func288 rfl N .no _ (rs:=[900002,800000])
def jnR :Sh:=⟨.mtk 800000 Y7 116 false:: .dead:: .dead:: .clo 59 []::dz 7 (.box 11 0::pI::pI::pI::dz 48 []),[(11,false,[pI])]⟩
def jrt :Sh:=⟨.mtk 800000 Y7 116 false::dz 10 (.box 11 0:: .dead::pI::dz 49 []),[(11,false,[pI])]⟩
def jjM (c:List Z2) (b:Int) (a:Int) (d:Unit):Option (Int×Int×(List Z2)):=choosePivotG (cmp105 N) N c b a d
 
theorem joO :mK 210 (bX [.mtk 800000 Y7 116 false,pI,pI,.clo 59 []] [.tup [pI,pI],.mtk 800000 Y7 116 false] (c4A (jjM N))):=
 mO (fC (jko N) (fC (jfr N) ja)) func210 rfl N (.seq .no (.seq .no (.seq .no (.seq .no (.seq .no (.seq .no (.meet jrt (.seq .no (.cond (.meet jnR .no .no) .no)) .no))))))) _ (rs:=[800000])
def jpl :Sh:=⟨.mtk 800000 Y7 116 false::dz 7 (pI::pI::dz 24 []),[]⟩
def jeV (c:List Z2) (b:Int) (a:Int) (d:Unit):Option ((List Z2)):=reverseRangeG N c b a d
 
theorem jma :mK 211 (bX [.mtk 800000 Y7 116 false,pI,pI,.clo 59 []] [.tup [],.mtk 800000 Y7 116 false] (c4A (jeV N))):=
 mO ja func211 rfl N (.seq .no (.seq .no (.block (.loop jpl .no)))) _ (rs:=[800000])
def jn3 :Sh:=⟨.mtk 800000 Y7 116 false::pI::pI:: .clo 59 []::dz 5 (pI::pI::dz 130 []),[]⟩
def jsj :Sh:=⟨.mtk 800000 Y7 116 false::pI::pI:: .clo 59 []::dz 5 (pI::pI::pI::dz 129 []),[]⟩
def jnQ :Sh:=⟨.mtk 800000 Y7 116 false::pI::pI:: .clo 59 []::dz 5 (pI::pI:: .dead::pI::dz 128 []),[]⟩
def jhb (c:List Z2) (b:Int) (a:Int) (d:Unit):Option (Bool×(List Z2)):=pisG (cmp105 N) N c b a d
 
theorem jnw :mK 212 (bX [.mtk 800000 Y7 116 false,pI,pI,.clo 59 []] [pB,.mtk 800000 Y7 116 false] (c4A (jhb N))):=
 mO (fC (jaf N) ja) func212 rfl N (.seq .no (.seq .no (.seq (.seq .no (.block (.loop jn3 (.seq .no (.seq (.block (.seq (.block (.loop jn3 .no)) (.seq .no (.seq .no (.seq .no (.meet jn3 (.seq .no (.cond (.seq .no (.block (.loop jsj .no))) .no)) (.seq .no (.cond (.seq .no (.block (.loop jnQ .no))) .no)))))))) .no))))) .no))) _ (rs:=[800000])
def jnv :Sh:=⟨.mtk 800000 Y7 116 false::pI:: .dead:: .dead:: .clo 59 []::dz 6 (pI::pI::dz 77 []),[]⟩
def jbG (c:List Z2) (b:Int) (a:Int) (d:Int) (e:Unit):Option (Int×(List Z2)):=peqG (cmp105 N) N c b a d e
 
theorem jp1 :mK 213 (bX [.mtk 800000 Y7 116 false,pI,pI,pI,.clo 59 []] [pI,.mtk 800000 Y7 116 false] (c5A (jbG N))):=
 mO (fC (jaf N) ja) func213 rfl N (.seq .no (.seq .no (.seq .no (.seq (.block (.loop jnv (.block (.seq (.block (.loop jnv .no)) (.seq (.block (.loop jnv .no)) .no))))) .no)))) _ (rs:=[800000])
def jru :Sh:=⟨.mtk 800000 Y7 116 false::pI:: .dead:: .dead:: .clo 59 []::dz 7 (pI::pI::dz 164 []),[]⟩
def jcT (c:List Z2) (b:Int) (a:Int) (d:Int) (e:Unit):Option (Int×Bool×(List Z2)):=partG (cmp105 N) N c b a d e
 
theorem jrO :mK 214 (bX [.mtk 800000 Y7 116 false,pI,pI,pI,.clo 59 []] [.tup [pI,pB],.mtk 800000 Y7 116 false] (c5A (jcT N))):=
 mO (fC (jaf N) ja) func214 rfl N (.seq .no (.seq .no (.seq .no (.seq (.block (.loop jru .no)) (.seq (.block (.loop jru .no)) (.seq .no (.seq .no (.seq .no (.seq .no (.seq (.block (.loop jru (.block (.seq (.block (.loop jru .no)) (.seq (.block (.loop jru .no)) .no))))) .no)))))))))) _ (rs:=[800000])
def jmM :Sh:=⟨.mtk 800000 Y7 116 false::pI::pI::pI:: .clo 59 []::dz 5 (pB::pB::dz 136 []),[]⟩
def jnd :Sh:=⟨.mtk 800000 Y7 116 false::pI::pI::pI:: .clo 59 []::dz 5 (pB::pB::pI::pI::dz 134 []),[]⟩
def jmi :Sh:=⟨.mtk 800000 Y7 116 false::pI::pI::pI:: .clo 59 []::dz 5 (pB::pB::pI::pI::pI::dz 133 []),[]⟩
def js7 :Sh:=⟨.mtk 800000 Y7 116 false::pI::pI::pI:: .clo 59 []::dz 5 (pB::pB::pI::dz 135 []),[]⟩
def jK (N D:Nat) (h:List Z2) (b a limit:Int) (e:Unit):Option ((List Z2)):=pdqG (cmp105 N) (fun d b a c=>heapG (cmp105 N) N d b a c) (fun d b a f c=>peqG (cmp105 N) N d b a f c) N D h b a limit e
 
def jcj (N D:Nat):Model:=⟨⟨[.mtk 800000 Y7 116 false,pI,pI,pI,.clo 59 []],[]⟩,⟨[.tup [],.mtk 800000 Y7 116 false],[]⟩,c5A (jK N D)⟩
theorem jrm (N D:Nat) (ih:mK 136 (jcj N D)):mK 136 (jcj N (D+1)):=
 mO (fC ih (fC (jqw N) (fC (jqz N) (fC (jlO N) (fC (joO N) (fC (jma N) (fC (jnw N) (fC (jaf N) (fC (jp1 N) (fC (jrO N) ja)))))))))) func136 rfl N (.seq .no (.seq .no (.block (.loop jmM (.block (.seq .no (.seq .no (.seq .no (.meet js7 .no (.seq .no (.meet jmi .no (.meet jnd .no .no)))))))))))) (jcj N (D+1)) (rs:=[800000])
theorem jix (N:Nat):∀D,mK 136 (jcj N D)
 |0=>modelOk_none ⟨_,func136,by decide,by kernel_rfl⟩ _ (fun a=>rfl)
 |D+1=>jrm N D (jix N D)
def k_slices_SortFunc_105_m (a:List Z2) (d:Unit):Option ((List Z2)):=
 (oB (k_math_bits_Len_m N (IntKind.u64.wrap (a.length:Int))) fun c=>oB (jK N N a 0 (a.length:Int) c ()) fun b=>some b)
theorem jtu :mK 58 (bX [.mtk 800000 Y7 116 false,.clo 59 []] [.tup [],.mtk 800000 Y7 116 false] (c2A (k_slices_SortFunc_105_m N))):=
 mO (fC (jda N) (fC (jix N N) ja)) func58 rfl N .no _ (rs:=[800000])
def jmK :Sh:=⟨.dead:: .dead:: .box 2 0:: .dead:: .box 4 0:: .box 5 0::dz 19 (.pv Y4::pI::pI::dz 32 []),[(2,false,[.pv (.sl .str),.pv Y20]),(4,false,[.nils,.nils]),(5,false,[.pv Y4,.tre 700501 Y7 116])]⟩
def jor :Sh:=⟨.dead:: .dead:: .box 2 0:: .dead:: .box 4 0:: .box 5 0:: .dead:: .box 7 0::dz 17 (.pv Y4::pI::pI::dz 4 (.pv Y23::pI::pI::dz 25 [])),[(2,false,[.pv (.sl .str),.pv Y20]),(4,false,[.nils,.nils]),(5,false,[.pv Y4,.tre 700501 Y7 116]),(7,false,[pI,.pv Y23,.pv Y19])]⟩
def jnj :Sh:=⟨.dead:: .dead:: .box 2 0:: .dead:: .box 4 0:: .box 5 0:: .dead:: .box 7 0:: .dead:: .box 9 0::dz 15 (.pv Y4::pI::pI::dz 4 (.pv Y23::pI::pI::dz 6 (.own 600041 Y21 111 true::pI::pI::dz 16 []))),[(2,false,[.pv (.sl .str),.pv Y20]),(4,false,[.nils,.nils]),(5,false,[.pv Y4,.tre 700501 Y7 116]),(7,false,[pI,.pv Y23,.pv Y19]),(9,false,[pS,pS])]⟩
def i_SegOf_m (c:List Z1) (c2:List Z4) (docs:List Z0):Option ((List Z0)×(List Z2)):=
 (oB (jaj N c c2) fun r=>bif !r then some (([]:List Z0),([]:List Z2))else oB (jbf N docs) fun r2=>bif !r2 then some (([]:List Z0),([]:List Z2))else oB (jbV N docs) fun r3=>iter (fun go (t25,t26,t27,c3,c4,s,s2)=>bif decide (t27<t26)then oB (idx t25 t27) fun e=>(iter (fun go2 (t252,t262,t272,t32,t33,t34,c5,c6,s3,s4,d,d2,d3)=>bif decide (t34<t33)then oB (idx t32 t34) fun e2=>(oB (jbw N c5 c6 e2.2) fun r4=>iter (fun go3 (t253,t263,t273,t322,t332,t342,t41,t42,t43,c7,c8,s5,s6,d4,d5,d6,f,f2)=>bif decide (t43<t42)then oB (idx t41 t43) fun e3=>(oB (i_Seg_put_m N f e3.1 e3.2 d4 s5 s6) fun r5=>if fits (t43+1)then go3 (t253,t263,t273,t322,t332,t342,t41,t42,(t43+1),c7,c8,r5.1,r5.2,d4,d5,d6,f,f2)else none)else if fits (t342+1)then go2 (t253,t263,t273,t322,t332,(t342+1),c7,c8,s5,s6,d4,d5,d6)else none) N (t252,t262,t272,t32,t33,t34,r4,(r4.length:Int),(0:Int),c5,c6,s3,s4,d,d2,d3,e2.1,e2.2))else if fits (t272+1)then go (t252,t262,(t272+1),c5,c6,s3,s4)else none) N (t25,t26,t27,e.2.1,(e.2.1.length:Int),(0:Int),c3,c4,s,s2,e.1,e.2.1,e.2.2))else oB (k_slices_SortFunc_105_m N s2 ()) fun r6=>some (s,r6)) N (docs,(docs.length:Int),(0:Int),c,c2,r3,([]:List Z2)))
theorem jqC :mK 12 (bX [.agg [.pv (.sl .str),.pv Y20],.pv Y4] [.agg [.pv Y4,.own 1 Y7 116 false]] (c3A (i_SegOf_m N))):=
 mO (fC (jdX N) (fC (jjU N) (fC (joC N) (fC (jgO N) (fC (jky N) (fC (jtu N) ja)))))) func12 rfl N (.seq .no (.seq .no (.seq .no (.seq (.seq .no (.block (.loop jmK (.seq .no (.seq .no (.seq (.block (.seq .no (.seq .no (.block (.loop jor (.seq .no (.seq .no (.seq (.block (.seq .no (.seq .no (.block (.loop jnj .no))))) .no)))))))) .no)))))) .no)))) _ (wr:=[23]) (dw:=[23,57])
end Go.Proofs.YtabhgjdikeipdaaGreatDoor
