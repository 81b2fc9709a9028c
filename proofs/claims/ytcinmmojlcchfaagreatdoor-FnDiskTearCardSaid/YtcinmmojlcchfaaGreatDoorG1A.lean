import Derived.Test.YtcinmmojlcchfaaGreatDoorSA
import Derived.Test.YtcinmmojlcchfaaGreatDoorSC
import Derived.Test.YtcinmmojlcchfaaGreatDoorSE
import Derived.Test.YtcinmmojlcchfaaGreatDoorSN
import Derived.Test.YtcinmmojlcchfaaGreatDoorSP
set_option linter.unusedVariables false
set_option linter.unusedSimpArgs false
namespace Go.Proofs.YtcinmmojlcchfaaGreatDoor
open Go.RowKit Go.Proofs.Tryz
variable (N : Nat)
open Option renaming bind -> oB
set_option maxRecDepth 1000000
abbrev Z0 :Type:=Int×(List ((List UInt8)×(List UInt8)))×(List ((List UInt8)×Int))
abbrev Z1 :Type:=List UInt8
abbrev Z2 :Type:=((List Z0)×(List (Z1×Z1×(List (Int×(List Int))))))×(List Int)
abbrev Z3 :Type:=Z1×Z1×(List (Int×(List Int)))
abbrev Z4 :Type:=(List Z1)×Z1
abbrev Z5 :Type:=List (Z1×Z1)
abbrev Z6 :Type:=List (Int×(List Int))
abbrev Z7 :Type:=List (Z1×Z1)
abbrev Z8 :Type:=List (Z1×Int)
abbrev Z9 :Type:=List (Z1×Int)
abbrev Z10 :Type:=Option (Bool)
abbrev Z11 :Type:=Z1×Int×Int×Int
abbrev Z12 :Type:=List (Int×(List Int))
abbrev Z13 :Type:=Option ((List Z1)×(List Z4)×(List Z2)×Bool)
abbrev Z14 :Type:=Option ((List Z0))
abbrev Z16 :Type:=Option (Int)
abbrev bX (a r:List VS) (f:HD (Sh.codes ⟨a,[]⟩)->Option (HD (Sh.codes ⟨r,[]⟩))):Model:=⟨⟨a,[]⟩,⟨r,[]⟩,f⟩
abbrev mK :=ModelOk Tryz.prog
theorem mO {l:List (Nat×Model)} (hl:jR Tryz.prog l) {f:FuncId} {fn:Func} {c:Code} (hf:Tryz.prog.funcs[f]? =some fn) (hbody:fn.body=some c) (N:Nat) (h:Hint) (m:Model) (wr rs dw:List Nat:=[])
  (hname:(fn.name== "runtime.NumGoroutine")=false:=by kernel_rfl) (hres:m.arg.names.all (jbC l wr rs dw).res=true:=by kernel_rfl) (hlen:Nat.ble m.arg.vals.length fn.ntmps=true:=by kernel_rfl)
  (hrun:∀a,m.run a=runF N (jbC l wr rs dw) okDraw fn c h m.arg m.ret a:=by intro a;kernel_rfl):ModelOk Tryz.prog f m:=modelOk_of (E:=jbC l wr rs dw) (jtQ hl wr rs dw) hf hname hbody N h m hres hlen hrun
theorem fC {k:Nat} {m:Model} {l:List (Nat×Model)} (h:ModelOk Tryz.prog k m) (hl:jR Tryz.prog l):jR Tryz.prog ((k,m)::l):=jsH h hl
abbrev pI :VS:=.pv (.int .i64)
abbrev pS :VS:=.pv .str
abbrev pB :VS:=.pv .bool
abbrev tI :Tp:=.int .i64
abbrev c1A {α ρ:Type} (f:α->ρ) (a:α):ρ:=f a
abbrev c2A {α0 α1 ρ:Type} (f:α0->α1->ρ) (a:α0×α1):ρ:=f a.1 a.2
abbrev c3A {α0 α1 α2 ρ:Type} (f:α0->α1->α2->ρ) (a:α0×α1×α2):ρ:=f a.1 a.2.1 a.2.2
abbrev c4A {α0 α1 α2 α3 ρ:Type} (f:α0->α1->α2->α3->ρ) (a:α0×α1×α2×α3):ρ:=f a.1 a.2.1 a.2.2.1 a.2.2.2
abbrev c5A {α0 α1 α2 α3 α4 ρ:Type} (f:α0->α1->α2->α3->α4->ρ) (a:α0×α1×α2×α3×α4):ρ:=f a.1 a.2.1 a.2.2.1 a.2.2.2.1 a.2.2.2.2
abbrev c6A {α0 α1 α2 α3 α4 α5 ρ:Type} (f:α0->α1->α2->α3->α4->α5->ρ) (a:α0×α1×α2×α3×α4×α5):ρ:=f a.1 a.2.1 a.2.2.1 a.2.2.2.1 a.2.2.2.2.1 a.2.2.2.2.2
abbrev c7A {α0 α1 α2 α3 α4 α5 α6 ρ:Type} (f:α0->α1->α2->α3->α4->α5->α6->ρ) (a:α0×α1×α2×α3×α4×α5×α6):ρ:=f a.1 a.2.1 a.2.2.1 a.2.2.2.1 a.2.2.2.2.1 a.2.2.2.2.2.1 a.2.2.2.2.2.2
def dz :Nat->List VS->List VS
 |0,l=>l
 |n+1,l=>.dead::dz n l
abbrev Y19 :Tp:=.sl tI
abbrev Y18 :Tp:=.pair .str .str
abbrev Y17 :Tp:=.sl (.pair .str .str)
abbrev Y16 :Tp:=.pair (.sl .str) .str
abbrev Y15 :Tp:=.pair .str tI
abbrev Y14 :Tp:=.sl (.pair (.sl .str) .str)
abbrev Y13 :Tp:=.sl (.pair .str tI)
abbrev Y12 :Tp:=.pair tI (.sl tI)
abbrev Y11 :Tp:=.sl (.pair tI (.sl tI))
abbrev Y7 :Tp:=.pair .str (.pair tI (.pair tI tI))
abbrev Y6 :Tp:=.pair .str (.pair .str (.sl (.pair tI (.sl tI))))
abbrev Y5 :Tp:=.sl (.pair .str (.pair .str (.sl (.pair tI (.sl tI)))))
abbrev Y4 :Tp:=.pair tI (.pair (.sl (.pair .str .str)) (.sl (.pair .str tI)))
abbrev Y3 :Tp:=.sl (.pair tI (.pair (.sl (.pair .str .str)) (.sl (.pair .str tI))))
abbrev Y2 :Tp:=.pair (.sl (.pair tI (.pair (.sl (.pair .str .str)) (.sl (.pair .str tI))))) (.sl (.pair .str (.pair .str (.sl (.pair tI (.sl tI))))))
abbrev Y1 :Tp:=.pair (.pair (.sl (.pair tI (.pair (.sl (.pair .str .str)) (.sl (.pair .str tI))))) (.sl (.pair .str (.pair .str (.sl (.pair tI (.sl tI))))))) (.sl tI)
abbrev Y0 :Tp:=.sl (.pair (.pair (.sl (.pair tI (.pair (.sl (.pair .str .str)) (.sl (.pair .str tI))))) (.sl (.pair .str (.pair .str (.sl (.pair tI (.sl tI))))))) (.sl tI))
def jt (N:Nat) (a:Int):Z16:=
 (bif decide ((65:Int)<=a)then bif decide (a<=90)then some (IntKind.u8.wrap (a+32))else(bif decide ((97:Int)<=a)then bif decide (a<=122)then some a else(bif decide ((48:Int)<=a)then bif decide (a<=57)then some a else(some 0)else some 0)else bif decide ((48:Int)<=a)then bif decide (a<=57)then some a else(some 0)else some 0)else bif decide ((97:Int)<=a)then bif decide (a<=122)then some a else(bif decide ((48:Int)<=a)then bif decide (a<=57)then some a else(some 0)else some 0)else bif decide ((48:Int)<=a)then bif decide (a<=57)then some a else(some 0)else some 0)
theorem jfG :mK 175 (bX [.pv (.int .u8)] [.pv (.int .u8)] (c1A (jt N))):=
 mO ja func175 rfl N .no _
def jJ (N:Nat) (a:Int) (c:Int) (b:Int):Z10:=
 (bif decide (c<=a)then some (decide (a<=b))else some false)
theorem jcL :mK 104 (bX [pI,pI,pI] [pB] (c3A (jJ N))):=
 mO ja func104 rfl N .no _
def jr5 :Sh:=⟨pS:: .dead:: .dead::pI::dz 23 [],[]⟩
def jT (j:List UInt8):Z10:=
 (iter (fun d (a,b)=>bif decide (b<(a.length:Int))then oB (idx a b) fun f=>(oB (jt N (f.toNat:Int)) fun c=>oB (idx a b) fun e=>bif !decide (c=(e.toNat:Int))then some false else oB (idx a b) fun i=>bif decide ((i.toNat:Int)=0)then some false else if fits (b+1)then d (a,(b+1))else none)else oB (jJ N (a.length:Int) 1 12) fun k=>some k) N (j,(0:Int)))
theorem jgp :mK 101 (bX [pS] [pB] (c1A (jT N))):=
 mO (fC (jfG N) (fC (jcL N) ja)) func101 rfl N (.seq .no (.seq (.seq .no (.block (.loop jr5 .no))) .no)) _
def jdI (N:Nat):Option ((List Z1)):=
 (some ([([105,110,103]:List UInt8),([101,100]:List UInt8),([101,115]:List UInt8),([108,121]:List UInt8),([115]:List UInt8)]:List Z1))
theorem jkj :mK 232 ⟨⟨[],[]⟩,⟨[.own 1 .str 9 true],[]⟩,fun a=>jdI N⟩:=
 mO ja func232 rfl N .no _
def jl2 :Sh:=⟨pS:: .dead:: .dead::pI::dz 30 [],[]⟩
def ja6 (j:List UInt8):Option (Z1):=
 (iter (fun d (a,b)=>oB (jdI N) fun e=>bif decide (b<(e.length:Int))then oB (jdI N) fun k=>(oB (idx k b) fun c=>if fits ((a.length:Int)-(c.length:Int))then bif decide ((3:Int)<=((a.length:Int)-(c.length:Int)))then oB (cut a ((a.length:Int)-(c.length:Int)) (a.length:Int)) fun f=>(bif decide (f=c)then oB (cut a 0 ((a.length:Int)-(c.length:Int))) fun i=>(some i)else if fits (b+1)then d (a,(b+1))else none)else(if fits (b+1)then d (a,(b+1))else none)else none)else some a) N (j,(0:Int)))
theorem jtL :mK 176 (bX [pS] [pS] (c1A (ja6 N))):=
 mO (fC (jkj N) ja) func176 rfl N (.seq .no (.seq (.seq .no (.block (.loop jl2 .no))) .no)) _
def jto :Sh:=⟨pS::dz 9 [],[]⟩
def jaq (c:List UInt8):Option (Z1):=
 (iter (fun b (d:Z1)=>let s2:=d;(oB (ja6 N s2) fun a=>bif !decide (a=s2)then oB (ja6 N s2) fun e=>(b e)else some s2)) N c)
theorem jfZ :mK 102 (bX [pS] [pS] (c1A (jaq N))):=
 mO (fC (jtL N) ja) func102 rfl N (.seq .no (.seq (.block (.loop jto .no)) .no)) _
def jlY :Sh:=⟨.pv (.sl .str)::pS::dz 3 (pI::dz 12 []),[]⟩
def jap (i:List Z1) (h:List UInt8):Z10:=
 (iter (fun d (b,c,a)=>bif decide (a<(b.length:Int))then oB (idx b a) fun e=>(bif decide (e=c)then some true else if fits (a+1)then d (b,c,(a+1))else none)else some false) N (i,h,(0:Int)))
theorem jhP :mK 103 (bX [.pv (.sl .str),pS] [pB] (c2A (jap N))):=
 mO ja func103 rfl N (.seq .no (.seq (.seq .no (.block (.loop jlY .no))) .no)) _
def jrs :Sh:=⟨.dead:: .box 1 0:: .dead::pI::dz 114 [],[(1,false,[.pv (.sl .str),.pv Y14])]⟩
def js0 :Sh:=⟨.dead:: .box 1 0:: .dead:: .dead::pI::dz 113 [],[(1,false,[.pv (.sl .str),.pv Y14])]⟩
def jrc :Sh:=⟨.dead:: .box 1 0:: .dead:: .dead::pI:: .box 5 0::pI::dz 111 [],[(1,false,[.pv (.sl .str),.pv Y14]),(5,false,[.pv (.sl .str),pS])]⟩
def jcw (y:List Z1) (x:List Z4):Z10:=
 (iter (fun n (a,d,k)=>bif decide (a<(d.length:Int))then oB (idx d a) fun v=>(oB (jT N v) fun D=>bif !D then some false else bif decide ((0:Int)<a)then oB (idx d a) fun p=>(if fits (a-1)then oB (idx d (a-1)) fun o=>(bif Op.bytesLess p o||decide (p=o)then some false else if fits (a+1)then n ((a+1),d,k)else none)else none)else if fits (a+1)then n ((a+1),d,k)else none)else iter (fun E (i,q,f)=>bif decide (i<(f.length:Int))then oB (idx f i) fun r=>(iter (fun B (j,c,l,m,b,h)=>bif decide (c<(b.length:Int))then oB (idx b c) fun A=>(oB (jT N A) fun K=>bif !K then some false else oB (idx b c) fun H=>oB (jaq N H) fun G=>oB (idx b c) fun z=>bif !decide (G=z)then some false else oB (idx b c) fun u=>oB (jap N l u) fun C=>bif C then some false else if fits (c+1)then B (j,(c+1),l,m,b,h)else none)else oB (jJ N (b.length:Int) 1 3) fun I=>bif !I then some false else oB (jT N h) fun w=>bif !w then some false else oB (jaq N h) fun t=>bif !decide (t=h)then some false else if fits (j+1)then E ((j+1),l,m)else none) N (i,(0:Int),q,f,r.1,r.2))else bif decide ((q.length:Int)<=6)then some (decide ((f.length:Int)<=4))else some false) N ((0:Int),d,k)) N ((0:Int),y,x))
theorem jtf :mK 41 (bX [.agg [.pv (.sl .str),.pv Y14]] [pB] (c2A (jcw N))):=
 mO (fC (jgp N) (fC (jfZ N) (fC (jhP N) (fC (jcL N) ja)))) func41 rfl N (.seq .no (.seq (.seq .no (.block (.loop jrs .no))) (.seq (.seq .no (.block (.loop js0 (.seq .no (.seq (.block (.seq .no (.seq (.seq .no (.block (.loop jrc .no))) .no))) .no))))) .no))) _
def jY1 :Sh:=⟨pS:: .dead:: .dead::pI::pI::dz 42 [],[]⟩
def s_l1Num_m (j:List UInt8):Z16:=
 (iter (fun e (a,c,b)=>bif decide (b<(a.length:Int))then oB (idx a b) fun h=>(bif decide ((h.toNat:Int)<48)then some (-1)else oB (idx a b) fun f=>bif decide ((57:Int)<(f.toNat:Int))then some (-1)else bif decide ((9:Int)<=b)then some (-1)else if fits (c*10)then oB (idx a b) fun d=>(if fits ((c*10)+(IntKind.i64.wrap (IntKind.u8.wrap ((d.toNat:Int)-48))))then if fits (b+1)then e (a,((c*10)+(IntKind.i64.wrap (IntKind.u8.wrap ((d.toNat:Int)-48)))),(b+1))else none else none)else none)else bif decide ((a.length:Int)=0)then some (-1)else bif decide ((1:Int)<a.length)then oB (idx a 0) fun k=>(bif decide ((k.toNat:Int)=48)then some (-1)else some c)else some c) N (j,(0:Int),(0:Int)))
theorem jYO :mK 172 (bX [pS] [pI] (c1A (s_l1Num_m N))):=
 mO ja func172 rfl N (.seq .no (.seq .no (.seq (.seq .no (.block (.loop jY1 .no))) .no))) _
def jot :Sh:=⟨pS:: .dead:: .dead::pI::dz 19 [],[]⟩
def jcu (h:List UInt8):Z10:=
 (iter (fun c (a,b)=>bif decide (b<(a.length:Int))then oB (idx a b) fun e=>(bif decide ((e.toNat:Int)<32)then some false else oB (idx a b) fun d=>bif decide ((126:Int)<(d.toNat:Int))then some false else if fits (b+1)then c (a,(b+1))else none)else some (decide ((a.length:Int)<=160))) N (h,(0:Int)))
theorem jpZ :mK 233 (bX [pS] [pB] (c1A (jcu N))):=
 mO ja func233 rfl N (.seq .no (.seq (.seq .no (.block (.loop jot .no))) .no)) _
def jp0 :Sh:=⟨.dead:: .box 1 0:: .dead::pI::dz 100 [],[(1,false,[pI,.pv Y17,.pv Y13])]⟩
def jtP :Sh:=⟨.dead:: .box 1 0::dz 3 (pI::dz 98 []),[(1,false,[pI,.pv Y17,.pv Y13])]⟩
def jcb (y:Int) (q:Z5) (A:Z8):Z10:=
 (iter (fun l (b,k,d,j)=>bif decide (b<(d.length:Int))then oB (idx d b) fun e=>(oB (jT N e.1) fun v=>bif !v then some false else oB (jcu N e.2) fun B=>bif !B then some false else bif decide ((0:Int)<b)then if fits (b-1)then oB (idx d (b-1)) fun n=>(bif Op.bytesLess e.1 n.1||decide (e.1=n.1)then some false else if fits (b+1)then l ((b+1),k,d,j)else none)else none else if fits (b+1)then l ((b+1),k,d,j)else none)else iter (fun o (a,i,h,c)=>bif decide (a<(c.length:Int))then oB (idx c a) fun t=>(oB (jT N t.1) fun w=>bif !w then some false else oB (idx c a) fun x=>oB (jJ N x.2 0 999999999) fun u=>bif !u then some false else bif decide ((0:Int)<a)then oB (idx c a) fun m=>(if fits (a-1)then oB (idx c (a-1)) fun p=>(bif Op.bytesLess m.1 p.1||decide (m.1=p.1)then some false else if fits (a+1)then o ((a+1),i,h,c)else none)else none)else if fits (a+1)then o ((a+1),i,h,c)else none)else oB (jJ N i 1 9999) fun z=>bif z then oB (jJ N (h.length:Int) 0 3) fun r=>(bif r then some (decide ((c.length:Int)<=3))else some false)else some false) N ((0:Int),k,d,j)) N ((0:Int),y,q,A))
theorem jpD :mK 179 (bX [.agg [pI,.pv Y17,.pv Y13]] [pB] (c3A (jcb N))):=
 mO (fC (jgp N) (fC (jpZ N) (fC (jcL N) ja))) func179 rfl N (.seq .no (.seq (.seq .no (.block (.loop jp0 .no))) (.seq (.seq .no (.block (.loop jtP .no))) .no))) _
def s_l1Dec_m (N:Nat):(D:Nat)->Int->Option (Z1)
 |0,_=>none
 |D+1,n=>
 bif decide (n<(-9223372036854775807))then
 some ([45,57,50,50,51,51,55,50,48,51,54,56,53,52,55,55,53,56,48,56]:List UInt8)
 else
 bif decide (n<0)then
 if fits (0-n)then oB (s_l1Dec_m N D (0-n)) fun r=>
 (if([45]:List UInt8).length+r.length<=9223372036854775807 then
 some (([45]:List UInt8)++r)
 else none)else none
 else
 bif decide (n<10)then
 if fits (48+n)then some (bytesOf ([(IntKind.u8.wrap (48+n))]:List Int))else none
 else
 if 10≠0 then
 if fits (n.tdiv 10)then oB (s_l1Dec_m N D (n.tdiv 10)) fun r2=>
 (if 10≠0 then
 if fits (48+(n.tmod 10))then if r2.length+(bytesOf ([(IntKind.u8.wrap (48+(n.tmod 10)))]:List Int)).length<=9223372036854775807 then
 some (r2++(bytesOf ([(IntKind.u8.wrap (48+(n.tmod 10)))]:List Int)))
 else none else none
 else none)else none
 else none
def jOp (N D:Nat):Model:=⟨⟨[pI],[]⟩,⟨[pS],[]⟩,c1A (s_l1Dec_m N D)⟩
theorem jPg (N D:Nat) (ih:mK 170 (jOp N D)):mK 170 (jOp N (D+1)):=
 mO (fC ih ja) func170 rfl N .no (jOp N (D+1))
theorem jOx (N:Nat):∀D,mK 170 (jOp N D)
 |0=>modelOk_none ⟨_,func170,by decide,by kernel_rfl⟩ _ (fun a=>rfl)
 |D+1=>jPg N D (jOx N D)
def jXV :Sh:=⟨.dead:: .box 1 0:: .dead::pS::pI::dz 58 [],[(1,false,[pI,.pv Y17,.pv Y13])]⟩
def jYl :Sh:=⟨.dead:: .box 1 0:: .dead::pS:: .dead::pI::dz 57 [],[(1,false,[pI,.pv Y17,.pv Y13])]⟩
def s_l6Put_m (o:Int) (q:Z5) (x:Z8):Option (Z1):=
 (oB (s_l1Dec_m N N o) fun k=>if([100,111,99,32]:List UInt8).length+k.length<=9223372036854775807 then if(([100,111,99,32]:List UInt8)++k).length+([10]:List UInt8).length<=9223372036854775807 then iter (fun r (a,h,p,f,n)=>bif decide (h<(f.length:Int))then if a.length+([102,105,101,108,100,32]:List UInt8).length<=9223372036854775807 then oB (idx f h) fun c=>(if(a++([102,105,101,108,100,32]:List UInt8)).length+c.1.length<=9223372036854775807 then if((a++([102,105,101,108,100,32]:List UInt8))++c.1).length+([32]:List UInt8).length<=9223372036854775807 then oB (idx f h) fun l=>(if(((a++([102,105,101,108,100,32]:List UInt8))++c.1)++([32]:List UInt8)).length+l.2.length<=9223372036854775807 then if((((a++([102,105,101,108,100,32]:List UInt8))++c.1)++([32]:List UInt8))++l.2).length+([10]:List UInt8).length<=9223372036854775807 then if fits (h+1)then r ((((((a++([102,105,101,108,100,32]:List UInt8))++c.1)++([32]:List UInt8))++l.2)++([10]:List UInt8)),(h+1),p,f,n)else none else none else none)else none else none)else none else iter (fun v (b,e,t,u,i)=>bif decide (e<(i.length:Int))then if b.length+([110,117,109,32]:List UInt8).length<=9223372036854775807 then oB (idx i e) fun d=>(if(b++([110,117,109,32]:List UInt8)).length+d.1.length<=9223372036854775807 then if((b++([110,117,109,32]:List UInt8))++d.1).length+([32]:List UInt8).length<=9223372036854775807 then oB (idx i e) fun w=>(oB (s_l1Dec_m N N w.2) fun m=>if(((b++([110,117,109,32]:List UInt8))++d.1)++([32]:List UInt8)).length+m.length<=9223372036854775807 then if((((b++([110,117,109,32]:List UInt8))++d.1)++([32]:List UInt8))++m).length+([10]:List UInt8).length<=9223372036854775807 then if fits (e+1)then v ((((((b++([110,117,109,32]:List UInt8))++d.1)++([32]:List UInt8))++m)++([10]:List UInt8)),(e+1),t,u,i)else none else none else none)else none else none)else none else some b) N (a,(0:Int),p,f,n)) N (((([100,111,99,32]:List UInt8)++k)++([10]:List UInt8)),(0:Int),o,q,x)else none else none)
theorem jYI :mK 184 (bX [.agg [pI,.pv Y17,.pv Y13]] [pS] (c3A (s_l6Put_m N))):=
 mO (fC (jOx N N) ja) func184 rfl N (.seq .no (.seq .no (.seq (.seq .no (.block (.loop jXV .no))) (.seq (.seq .no (.block (.loop jYl .no))) .no)))) _
def jkS :Sh:=⟨.pv Y3:: .dead:: .dead::pI::dz 33 [],[]⟩
def jbU (j:List Z0):Z10:=
 (iter (fun d (b,a)=>bif decide (a<(b.length:Int))then oB (idx b a) fun c=>(oB (jcb N c.1 c.2.1 c.2.2) fun e=>bif !e then some false else bif decide ((0:Int)<a)then oB (idx b a) fun f=>(if fits (a-1)then oB (idx b (a-1)) fun h=>(bif decide (f.1<=h.1)then some false else if fits (a+1)then d (b,(a+1))else none)else none)else if fits (a+1)then d (b,(a+1))else none)else some (decide ((b.length:Int)<=16))) N (j,(0:Int)))
theorem jpx :mK 106 (bX [.pv Y3] [pB] (c1A (jbU N))):=
 mO (fC (jpD N) ja) func106 rfl N (.seq .no (.seq (.seq .no (.block (.loop jkS .no))) .no)) _
def jl5 :Sh:=⟨.pv (.sl .str)::pS::dz 3 (pI::dz 42 []),[]⟩
def s_l7Put_m (t:List Z1) (r:List UInt8):Option ((List Z1)):=
 (iter (fun n (a,b,c)=>bif decide (c<(a.length:Int))then oB (idx a c) fun m=>(bif Op.bytesLess m b then if fits (c+1)then n (a,b,(c+1))else none else bif decide (c<(a.length:Int))then oB (idx a c) fun q=>(bif decide (q=b)then some a else oB (cut a 0 c) fun f=>if room ([]:List Z1).length f.length 16 then if room (([]:List Z1)++f).length ([b]:List Z1).length 16 then oB (cut a c (a.length:Int)) fun l=>(if room ((([]:List Z1)++f)++([b]:List Z1)).length l.length 16 then some (((([]:List Z1)++f)++([b]:List Z1))++l)else none)else none else none)else oB (cut a 0 c) fun e=>if room ([]:List Z1).length e.length 16 then if room (([]:List Z1)++e).length ([b]:List Z1).length 16 then oB (cut a c (a.length:Int)) fun j=>(if room ((([]:List Z1)++e)++([b]:List Z1)).length j.length 16 then some (((([]:List Z1)++e)++([b]:List Z1))++j)else none)else none else none)else bif decide (c<(a.length:Int))then oB (idx a c) fun o=>(bif decide (o=b)then some a else oB (cut a 0 c) fun d=>if room ([]:List Z1).length d.length 16 then if room (([]:List Z1)++d).length ([b]:List Z1).length 16 then oB (cut a c (a.length:Int)) fun i=>(if room ((([]:List Z1)++d)++([b]:List Z1)).length i.length 16 then some (((([]:List Z1)++d)++([b]:List Z1))++i)else none)else none else none)else oB (cut a 0 c) fun h=>if room ([]:List Z1).length h.length 16 then if room (([]:List Z1)++h).length ([b]:List Z1).length 16 then oB (cut a c (a.length:Int)) fun k=>(if room ((([]:List Z1)++h)++([b]:List Z1)).length k.length 16 then some (((([]:List Z1)++h)++([b]:List Z1))++k)else none)else none else none) N (t,r,(0:Int)))
theorem jgt :mK 234 (bX [.pv (.sl .str),pS] [.pv (.sl .str)] (c2A (s_l7Put_m N))):=
 mO ja func234 rfl N (.seq .no (.seq .no (.seq (.block (.loop jl5 .no)) .no))) _
def joT :Sh:=⟨.pv Y3:: .dead:: .dead:: .pv (.sl .str)::pI::dz 30 [],[]⟩
def jkn :Sh:=⟨.pv Y3:: .dead:: .dead:: .pv (.sl .str)::pI::pI::dz 29 [],[]⟩
def s_l7Names_m (p:List Z0):Option ((List Z1)):=
 (iter (fun m (e,i,h)=>bif decide (h<(e.length:Int))then iter (fun l (c,f,a,b)=>oB (idx c a) fun n=>bif decide (b<(n.2.1.length:Int))then oB (idx c a) fun k=>(oB (idx k.2.1 b) fun o=>oB (s_l7Put_m N f o.1) fun j=>if fits (b+1)then l (c,j,a,(b+1))else none)else if fits (a+1)then m (c,f,(a+1))else none) N (e,i,h,(0:Int))else some i) N (p,([]:List Z1),(0:Int)))
theorem jlz :mK 180 (bX [.pv Y3] [.pv (.sl .str)] (c1A (s_l7Names_m N))):=
 mO (fC (jgt N) ja) func180 rfl N (.seq .no (.seq .no (.seq (.seq .no (.block (.loop joT (.seq .no (.seq (.block (.seq .no (.block (.loop jkn .no)))) .no))))) .no))) _
def jl8 :Sh:=⟨.dead::pS:: .box 2 0:: .dead:: .dead::pI::dz 21 [],[(2,false,[pI,.pv Y17,.pv Y13])]⟩
def s_l6Field_m (l:Int) (e:Z5) (m:Z8) (j:List UInt8):Option (Z1):=
 (iter (fun i (c,a,n,b,f)=>bif decide (a<(b.length:Int))then oB (idx b a) fun h=>(bif decide (h.1=c)then oB (idx b a) fun d=>(some d.2)else if fits (a+1)then i (c,(a+1),n,b,f)else none)else some ([]:List UInt8)) N (j,(0:Int),l,e,m))
theorem jhA :mK 236 (bX [.agg [pI,.pv Y17,.pv Y13],pS] [pS] (c4A (s_l6Field_m N))):=
 mO ja func236 rfl N (.seq .no (.seq (.seq .no (.block (.loop jl8 .no))) .no)) _
def jo3 :Sh:=⟨pS:: .dead:: .dead:: .own 600003 Y7 233 true::pI::dz 50 [],[]⟩
def jm6 :Sh:=⟨pS:: .dead:: .dead:: .own 600003 Y7 233 true::pI:: .own 600005 (.int .u8) 5 true::pI::dz 48 [],[]⟩
def jtK :Sh:=⟨pS:: .dead:: .dead:: .own 600003 Y7 233 true::pI:: .pv (.sl (.int .u8))::pI::dz 48 [],[]⟩
def jb3 (G:List UInt8):Option ((List Z11)):=
 (iter (fun l (t,r,o)=>bif decide (o<(t.length:Int))then iter (fun C (b,i,a,c,h)=>bif decide (a<(b.length:Int))then oB (idx b a) fun A=>(oB (jt N (A.toNat:Int)) fun B=>bif !decide (B=0)then oB (idx b a) fun z=>(oB (jt N (z.toNat:Int)) fun y=>if room c.length ([y]:List Int).length 1 then if fits (a+1)then C (b,i,(a+1),(c++([y]:List Int)),h)else none else none)else meet (fun(d:Z1×(List Z11)×Int×(List Int)×Int)=>match d with|(p,j,e,n,u)=>bif decide ((0:Int)<n.length)then if room j.length ([((bytesOf n),(j.length:Int),u,e)]:List Z11).length 40 then if fits (e+1)then l (p,(j++([((bytesOf n),(j.length:Int),u,e)]:List Z11)),(e+1))else none else none else if fits (e+1)then l (p,j,(e+1))else none) fun v=>bif decide ((12:Int)<c.length)then oB (cut c 0 12) fun D=>(v (b,i,a,D,h))else v (b,i,a,c,h))else meet (fun(d:Z1×(List Z11)×Int×(List Int)×Int)=>match d with|(q,k,f,m,x)=>bif decide ((0:Int)<m.length)then if room k.length ([((bytesOf m),(k.length:Int),x,f)]:List Z11).length 40 then if fits (f+1)then l (q,(k++([((bytesOf m),(k.length:Int),x,f)]:List Z11)),(f+1))else none else none else if fits (f+1)then l (q,k,(f+1))else none) fun w=>bif decide ((12:Int)<c.length)then oB (cut c 0 12) fun E=>(w (b,i,a,E,h))else w (b,i,a,c,h)) N (t,r,o,([]:List Int),o)else some r) N (G,([]:List Z11),(0:Int)))
theorem jsr :mK 333 (bX [pS] [.own 1 Y7 233 true] (c1A (jb3 N))):=
 mO (fC (jfG N) ja) func333 rfl N (.seq .no (.seq .no (.seq (.seq .no (.block (.loop jo3 (.seq .no (.seq (.block (.seq .no (.seq .no (.seq (.block (.loop jm6 .no)) (.meet jtK .no .no))))) .no))))) .no))) _
def jmf :Sh:=⟨.dead:: .dead:: .box 2 0:: .dead:: .dead:: .own 600005 Y15 162 true:: .own 600006 Y7 233 true::pI::dz 43 [],[(2,false,[.pv (.sl .str),.pv Y14])]⟩
def jbY (l:List Z1) (k:List Z4) (r:List UInt8):Option (Z9):=
 (oB (jb3 N r) fun o=>iter (fun e (c,b,a,d,f)=>bif decide (a<(b.length:Int))then oB (idx b a) fun j=>(oB (jaq N j.1) fun h=>oB (idx b a) fun p=>oB (jap N d p.1) fun q=>bif !q then oB (jap N d h) fun n=>(bif !n then oB (idx b a) fun i=>(if room c.length ([(h,i.2.1)]:Z8).length 24 then if fits (a+1)then e ((c++([(h,i.2.1)]:Z8)),b,(a+1),d,f)else none else none)else if fits (a+1)then e (c,b,(a+1),d,f)else none)else if fits (a+1)then e (c,b,(a+1),d,f)else none)else some c) N (([]:Z8),o,(0:Int),l,k))
theorem jrk :mK 298 (bX [.agg [.pv (.sl .str),.pv Y14],pS] [.own 1 Y15 162 true] (c3A (jbY N))):=
 mO (fC (jsr N) (fC (jfZ N) (fC (jhP N) ja))) func298 rfl N (.seq .no (.seq .no (.seq .no (.seq (.seq .no (.block (.loop jmf .no))) .no)))) _
def jrL :Sh:=⟨.pv Y13:: .pv (.sl .str)::dz 3 (pI::dz 36 []),[]⟩
def jcC (k:Z8) (l:List Z1):Z10:=
 (iter (fun f (b,c,a)=>bif decide (a<(c.length:Int))then bif decide ((b.length:Int)<=a)then some false else(oB (idx b a) fun h=>oB (idx c a) fun e=>bif !decide (h.1=e)then some false else oB (idx b a) fun i=>oB (idx b 0) fun d=>if fits (d.2+a)then bif !decide (i.2=(d.2+a))then some false else(if fits (a+1)then f (b,c,(a+1))else none)else none)else some true) N (k,l,(0:Int)))
theorem jtg :mK 334 (bX [.pv Y13,.pv (.sl .str)] [pB] (c2A (jcC N))):=
 mO ja func334 rfl N (.seq .no (.seq (.seq .no (.block (.loop jrL .no))) .no)) _
def jlL :Sh:=⟨.dead:: .pv Y13:: .box 2 0:: .dead:: .dead::pI::pI::dz 38 [],[(2,false,[.pv (.sl .str),.pv Y14])]⟩
def jcJ (l:List Z1) (k:List Z4) (o:Z8):Z16:=
 (iter (fun e (d,c,a,f,b)=>bif decide (a<(b.length:Int))then oB (idx b a) fun j=>(oB (jcC N d j.1) fun h=>bif h then bif decide (c<0)then if fits (a+1)then e (d,a,(a+1),f,b)else none else(oB (idx b a) fun i=>oB (idx b c) fun m=>bif decide ((m.1.length:Int)<(i.1.length:Int))then if fits (a+1)then e (d,a,(a+1),f,b)else none else if fits (a+1)then e (d,c,(a+1),f,b)else none)else if fits (a+1)then e (d,c,(a+1),f,b)else none)else some c) N (o,((-1):Int),(0:Int),l,k))
theorem jqp :mK 299 (bX [.agg [.pv (.sl .str),.pv Y14],.pv Y13] [pI] (c3A (jcJ N))):=
 mO (fC (jtg N) ja) func299 rfl N (.seq .no (.seq .no (.seq (.seq .no (.block (.loop jlL .no))) .no))) _
def jnK :Sh:=⟨.dead:: .dead:: .box 2 0:: .dead:: .dead:: .own 600005 Y15 162 true:: .pv Y13::dz 45 [],[(2,false,[.pv (.sl .str),.pv Y14])]⟩
def ja5 (j:List Z1) (i:List Z4) (r:List UInt8):Option (Z9):=
 (oB (jbY N j i r) fun n=>iter (fun h (b,a,d,c)=>bif decide ((0:Int)<a.length)then oB (jcJ N d c a) fun e=>(bif decide (e<0)then oB (idx a 0) fun f=>(if room b.length ([f]:Z8).length 24 then oB (cut a 1 (a.length:Int)) fun p=>(h ((b++([f]:Z8)),p,d,c))else none)else oB (idx c e) fun l=>oB (idx a 0) fun k=>if room b.length ([(l.2,k.2)]:Z8).length 24 then oB (idx c e) fun o=>(oB (cut a (o.1.length:Int) (a.length:Int)) fun q=>h ((b++([(l.2,k.2)]:Z8)),q,d,c))else none)else some b) N (([]:Z8),n,j,i))
theorem jiO :mK 235 (bX [.agg [.pv (.sl .str),.pv Y14],pS] [.own 1 Y15 162 true] (c3A (ja5 N))):=
 mO (fC (jrk N) (fC (jqp N) ja)) func235 rfl N (.seq .no (.seq .no (.seq .no (.seq (.block (.loop jnK .no)) .no)))) _
def jn9 :Sh:=⟨.dead:: .pv Y3::pS:: .box 3 0::dz 3 (.pv (.sl .str)::pI::dz 31 []),[(3,false,[.pv (.sl .str),.pv Y14])]⟩
def jrT :Sh:=⟨.dead:: .pv Y3::pS:: .box 3 0::dz 3 (.pv (.sl .str)::pI:: .own 600009 Y15 162 true::pI::dz 29 []),[(3,false,[.pv (.sl .str),.pv Y14])]⟩
def s_l7Terms_m (u:List Z1) (t:List Z4) (A:List Z0) (v:List UInt8):Option ((List Z1)):=
 (iter (fun r (b,o,j,f,p,k)=>bif decide (f<(b.length:Int))then oB (idx b f) fun c=>(oB (s_l6Field_m N c.1 c.2.1 c.2.2 o) fun w=>oB (ja5 N p k w) fun B=>iter (fun y (q,i,m,e,h,a,l,n)=>bif decide (a<(h.length:Int))then oB (idx h a) fun x=>(oB (s_l7Put_m N m x.1) fun z=>if fits (a+1)then y (q,i,z,e,h,(a+1),l,n)else none)else if fits (e+1)then r (q,i,m,(e+1),l,n)else none) N (b,o,j,f,B,(0:Int),p,k))else some j) N (A,v,([]:List Z1),(0:Int),u,t))
theorem jqQ :mK 181 (bX [.agg [.pv (.sl .str),.pv Y14],.pv Y3,pS] [.pv (.sl .str)] (c4A (s_l7Terms_m N))):=
 mO (fC (jhA N) (fC (jiO N) (fC (jgt N) ja))) func181 rfl N (.seq .no (.seq .no (.seq (.seq .no (.block (.loop jn9 (.seq .no (.seq (.block (.seq .no (.seq .no (.block (.loop jrT .no))))) .no))))) .no))) _
def jnY :Sh:=⟨dz 3 (pS::dz 5 (.own 600009 tI 3 true:: .own 600010 Y15 162 true::pI::dz 28 [])),[]⟩
def s_l7Post_m (l:List Z1) (k:List Z4) (p:Int) (h:Z5) (q:Z8) (n:List UInt8) (i:List UInt8):Option ((List Int)):=
 (oB (s_l6Field_m N p h q n) fun o=>oB (ja5 N l k o) fun r=>iter (fun e (d,c,b,a)=>bif decide (a<(b.length:Int))then oB (idx b a) fun j=>(bif decide (j.1=d)then oB (idx b a) fun f=>(if room c.length ([f.2]:List Int).length 8 then if fits (a+1)then e (d,(c++([f.2]:List Int)),b,(a+1))else none else none)else if fits (a+1)then e (d,c,b,(a+1))else none)else some c) N (i,([]:List Int),r,(0:Int)))
theorem js6 :mK 237 (bX [.agg [.pv (.sl .str),.pv Y14],.agg [pI,.pv Y17,.pv Y13],pS,pS] [.own 1 tI 3 true] (c7A (s_l7Post_m N))):=
 mO (fC (jhA N) (fC (jiO N) ja)) func237 rfl N (.seq .no (.seq .no (.seq .no (.seq (.seq .no (.block (.loop jnY .no))) .no)))) _
def jkw :Sh:=⟨.dead:: .pv Y3::pS::pS:: .box 4 0::dz 3 (.box 8 0:: .box 9 0::pI::dz 34 []),[(4,false,[.pv (.sl .str),.pv Y14]),(8,false,[pS,pS,.nils]),(9,false,[pS,pS,.own 700902 Y12 241 true])]⟩
def s_l7Entry_m (u:List Z1) (t:List Z4) (w:List Z0) (p:List UInt8) (n:List UInt8):Option Z3:=
 (iter (fun o (b,k,e,a,l,f,r,m,d,i,c)=>bif decide (a<(b.length:Int))then oB (idx b a) fun j=>(oB (s_l7Post_m N l f j.1 j.2.1 j.2.2 k e) fun h=>bif decide ((0:Int)<h.length)then oB (idx b a) fun q=>(if room c.length ([(q.1,h)]:Z6).length 32 then if fits (a+1)then o (b,k,e,(a+1),l,f,r,m,d,i,(c++([(q.1,h)]:Z6)))else none else none)else if fits (a+1)then o (b,k,e,(a+1),l,f,r,m,d,i,c)else none)else some (d,i,c)) N (w,p,n,(0:Int),u,t,([]:List UInt8),([]:List UInt8),p,n,([]:Z6)))
theorem jtr :mK 182 (bX [.agg [.pv (.sl .str),.pv Y14],.pv Y3,pS,pS] [.agg [pS,pS,.own 1 Y12 241 true]] (c5A (s_l7Entry_m N))):=
 mO (fC (js6 N) ja) func182 rfl N (.seq .no (.seq .no (.seq (.seq .no (.block (.loop jkw .no))) .no))) _
def s_l7CopyDoc_m (N:Nat) (c:Int) (b:Z5) (a:Z8):Option Z0:=
 (if room ([]:Z5).length b.length 32 then if room ([]:Z8).length a.length 24 then some (c,(([]:Z5)++b),(([]:Z8)++a))else none else none)
theorem jtC :mK 183 (bX [.agg [pI,.pv Y17,.pv Y13]] [.agg [pI,.own 1 Y18 155 true,.own 2 Y15 157 true]] (c3A (s_l7CopyDoc_m N))):=
 mO ja func183 rfl N .no _
def jn8 :Sh:=⟨.dead:: .pv Y3:: .box 2 0:: .dead:: .box 4 0:: .box 5 0:: .pv (.sl .str)::pI::dz 58 [],[(2,false,[.pv (.sl .str),.pv Y14]),(4,false,[.nils,.nils]),(5,false,[.nils,.own 700501 Y6 167 true])]⟩
def jpr :Sh:=⟨.dead:: .pv Y3:: .box 2 0:: .dead:: .box 4 0:: .box 5 0:: .pv (.sl .str)::pI:: .pv (.sl .str)::pI::dz 56 [],[(2,false,[.pv (.sl .str),.pv Y14]),(4,false,[.nils,.nils]),(5,false,[.nils,.own 700501 Y6 167 true])]⟩
def jn0 :Sh:=⟨.dead:: .pv Y3:: .dead:: .dead:: .box 4 0:: .box 5 0::dz 4 (pI::dz 55 []),[(4,false,[.nils,.nils]),(5,false,[.own 700500 Y4 95 true,.own 700501 Y6 167 true])]⟩
def s_l7Of_m (C:List Z1) (B:List Z4) (w:List Z0):Option ((List Z0)×(List Z3)):=
 (oB (s_l7Names_m N w) fun G=>iter (fun A (e,l,n,x,u,y)=>bif decide (n<(l.length:Int))then oB (idx l n) fun z=>(oB (s_l7Terms_m N x u e z) fun K=>iter (fun I (q,i,b,h,d,j,o,k)=>bif decide (d<(h.length:Int))then oB (idx i b) fun H=>(oB (idx h d) fun D=>oB (s_l7Entry_m N j o q H D) fun v=>if room k.length ([v]:List Z3).length 56 then if fits (d+1)then I (q,i,b,h,(d+1),j,o,(k++([v]:List Z3)))else none else none)else if fits (b+1)then A (q,i,(b+1),j,o,k)else none) N (e,l,n,K,(0:Int),x,u,y))else iter (fun E (p,c,f,r)=>bif decide (c<(p.length:Int))then oB (idx p c) fun m=>(oB (s_l7CopyDoc_m N m.1 m.2.1 m.2.2) fun t=>if room f.length ([t]:List Z0).length 56 then if fits (c+1)then E (p,(c+1),(f++([t]:List Z0)),r)else none else none)else some (f,r)) N (e,(0:Int),([]:List Z0),y)) N (w,G,(0:Int),C,B,([]:List Z3)))
theorem jmU :mK 107 (bX [.agg [.pv (.sl .str),.pv Y14],.pv Y3] [.agg [.own 1 Y4 95 true,.own 2 Y6 167 true]] (c3A (s_l7Of_m N))):=
 mO (fC (jlz N) (fC (jqQ N) (fC (jtr N) (fC (jtC N) ja)))) func107 rfl N (.seq .no (.seq .no (.seq .no (.seq (.seq .no (.block (.loop jn8 (.seq .no (.seq (.block (.seq .no (.seq .no (.block (.loop jpr .no))))) .no))))) (.seq (.seq .no (.block (.loop jn0 .no))) .no))))) _
def jnI :Sh:=⟨.pv Y19:: .pv Y19::dz 3 (pI::dz 20 []),[]⟩
def jb1 (e:List Int) (d:List Int):Z10:=
 (bif !decide ((e.length:Int)=(d.length:Int))then some false else iter (fun h (b,c,a)=>bif decide (a<(b.length:Int))then oB (idx b a) fun i=>(oB (idx c a) fun f=>bif !decide (i=f)then some false else if fits (a+1)then h (b,c,(a+1))else none)else some true) N (e,d,(0:Int)))
theorem jlH :mK 292 (bX [.pv Y19,.pv Y19] [pB] (c2A (jb1 N))):=
 mO ja func292 rfl N (.seq .no (.seq .no (.seq (.seq .no (.block (.loop jnI .no))) .no))) _
def jnx :Sh:=⟨.dead:: .dead:: .box 2 0:: .box 3 0:: .dead::pI::dz 57 [],[(2,false,[pS,pS,.pv Y11]),(3,false,[pS,pS,.pv Y11])]⟩
def jbQ (h:List UInt8) (e:List UInt8) (f:Z6) (i:List UInt8) (d:List UInt8) (j:Z6):Z10:=
 (bif !decide (h=i)then some false else bif !decide (e=d)then some false else bif !decide ((f.length:Int)=(j.length:Int))then some false else iter (fun k (a,v,u,b,p,o,c)=>bif decide (a<(b.length:Int))then oB (idx b a) fun l=>(oB (idx c a) fun r=>bif !decide (l.1=r.1)then some false else oB (idx b a) fun m=>oB (idx c a) fun t=>oB (jb1 N m.2 t.2) fun q=>bif !q then some false else if fits (a+1)then k ((a+1),v,u,b,p,o,c)else none)else some true) N ((0:Int),h,e,f,i,d,j))
theorem jtG :mK 225 (bX [.agg [pS,pS,.pv Y11],.agg [pS,pS,.pv Y11]] [pB] (c6A (jbQ N))):=
 mO (fC (jlH N) ja) func225 rfl N (.seq .no (.seq .no (.seq (.seq .no (.block (.loop jnx .no))) .no))) _
def jrW :Sh:=⟨dz 3 (.box 3 0:: .dead:: .box 5 0::pI::dz 39 []),[(3,false,[.pv Y3,.pv Y5]),(5,false,[.own 700500 Y4 95 true,.own 700501 Y6 167 true])]⟩
def jcR (i:List Z1) (h:List Z4) (f:List Z0) (k:List Z3):Z10:=
 (oB (jcw N i h) fun p=>bif !p then some false else oB (jbU N f) fun r=>bif !r then some false else oB (s_l7Of_m N i h f) fun d=>bif !decide ((d.2.length:Int)=(k.length:Int))then some false else iter (fun l (a,m,j,q,e)=>bif decide (a<(e.length:Int))then oB (idx e a) fun b=>(oB (idx j a) fun c=>oB (jbQ N b.1 b.2.1 b.2.2 c.1 c.2.1 c.2.2) fun o=>bif !o then some false else if fits (a+1)then l ((a+1),m,j,q,e)else none)else some true) N ((0:Int),f,k,d.1,d.2))
theorem jpm :mK 166 (bX [.agg [.pv (.sl .str),.pv Y14],.agg [.pv Y3,.pv Y5]] [pB] (c4A (jcR N))):=
 mO (fC (jtf N) (fC (jpx N) (fC (jmU N) (fC (jtG N) ja)))) func166 rfl N (.seq .no (.seq .no (.seq .no (.seq .no (.seq (.seq .no (.block (.loop jrW .no))) .no))))) _
def jCI :Sh:=⟨.pv Y19:: .dead:: .dead::pI::dz 31 [],[]⟩
def jx3 (j:List Int):Z10:=
 (iter (fun c (b,a)=>bif decide (a<(b.length:Int))then oB (idx b a) fun f=>(oB (jJ N f 0 999999999) fun d=>bif !d then some false else bif decide ((0:Int)<a)then oB (idx b a) fun e=>(if fits (a-1)then oB (idx b (a-1)) fun h=>(bif decide (e<=h)then some false else if fits (a+1)then c (b,(a+1))else none)else none)else if fits (a+1)then c (b,(a+1))else none)else some (decide ((b.length:Int)<=60))) N (j,(0:Int)))
theorem jC9 :mK 167 (bX [.pv Y19] [pB] (c1A (jx3 N))):=
 mO (fC (jcL N) ja) func167 rfl N (.seq .no (.seq (.seq .no (.block (.loop jCI .no))) .no)) _
def jA0 :Sh:=⟨.dead::pI:: .box 2 0:: .dead:: .box 4 0::pI::dz 21 [],[(2,false,[.pv Y3,.pv Y5]),(4,false,[pI,.nils,.nils])]⟩
def s_l12Doc_m (m:List Z0) (e:List Z3) (j:Int):Option Z0:=
 (iter (fun f (d,a,b,i,l)=>bif decide (a<(b.length:Int))then oB (idx b a) fun h=>(bif decide (h.1=d)then oB (idx b a) fun c=>(some (c.1,c.2.1,c.2.2))else if fits (a+1)then f (d,(a+1),b,i,l)else none)else some (0,([]:Z5),([]:Z8))) N (j,(0:Int),m,e,(0:Int)))
theorem jDn :mK 168 (bX [.agg [.pv Y3,.pv Y5],pI] [.agg [pI,.pv Y17,.pv Y13]] (c3A (s_l12Doc_m N))):=
 mO ja func168 rfl N (.seq .no (.seq (.seq .no (.block (.loop jA0 .no))) .no)) _
def jJe :Sh:=⟨.pv Y19::pI::dz 3 (pI::dz 12 []),[]⟩
def s_l8Has_m (i:List Int) (h:Int):Z10:=
 (iter (fun d (b,c,a)=>bif decide (a<(b.length:Int))then oB (idx b a) fun e=>(bif decide (e=c)then some true else if fits (a+1)then d (b,c,(a+1))else none)else some false) N (i,h,(0:Int)))
theorem jIb :mK 293 (bX [.pv Y19,pI] [pB] (c2A (s_l8Has_m N))):=
 mO ja func293 rfl N (.seq .no (.seq (.seq .no (.block (.loop jJe .no))) .no)) _
def s_l18Dead_m (e:List Z0) (d:List Z3) (b:List Int) (c:Int):Z10:=
 (oB (s_l8Has_m N b c) fun a=>some a)
theorem jIy :mK 226 (bX [.agg [.pv Y3,.pv Y5,.pv Y19],pI] [pB] (c4A (s_l18Dead_m N))):=
 mO (fC (jIb N) ja) func226 rfl N .no _
def jIl :Sh:=⟨.pv Y3:: .dead:: .dead:: .box 3 0:: .dead::pI::dz 32 [],[(3,false,[pI,.pv Y17,.pv Y13])]⟩
def s_l18Put_m (q:List Z0) (r:Int) (m:Z5) (t:Z8):Z14:=
 (iter (fun o (a,b,e,f,i)=>bif decide (b<(a.length:Int))then oB (idx a b) fun n=>(bif decide (n.1<e)then if fits (b+1)then o (a,(b+1),e,f,i)else none else oB (cut a 0 b) fun d=>if room ([]:List Z0).length d.length 56 then oB (s_l7CopyDoc_m N e f i) fun h=>(if room (([]:List Z0)++d).length ([h]:List Z0).length 56 then oB (cut a b (a.length:Int)) fun l=>(if room ((([]:List Z0)++d)++([h]:List Z0)).length l.length 56 then some (((([]:List Z0)++d)++([h]:List Z0))++l)else none)else none)else none)else oB (cut a 0 b) fun c=>if room ([]:List Z0).length c.length 56 then oB (s_l7CopyDoc_m N e f i) fun j=>(if room (([]:List Z0)++c).length ([j]:List Z0).length 56 then oB (cut a b (a.length:Int)) fun k=>(if room ((([]:List Z0)++c)++([j]:List Z0)).length k.length 56 then some (((([]:List Z0)++c)++([j]:List Z0))++k)else none)else none)else none) N (q,(0:Int),r,m,t))
theorem jJy :mK 227 (bX [.pv Y3,.agg [pI,.pv Y17,.pv Y13]] [.own 1 Y4 95 false] (c4A (s_l18Put_m N))):=
 mO (fC (jtC N) ja) func227 rfl N (.seq .no (.seq .no (.seq (.block (.loop jIl .no)) .no))) _
def jI2 :Sh:=⟨.dead:: .box 1 0:: .dead:: .own 600003 Y4 95 false::pI::dz 45 [],[(1,false,[.pv (.sl .str),.pv Y14,.pv Y0])]⟩
def jJx :Sh:=⟨.dead:: .box 1 0:: .dead:: .own 600003 Y4 95 false::pI::pI::dz 44 [],[(1,false,[.pv (.sl .str),.pv Y14,.pv Y0])]⟩
def s_l18Docs_m (w:List Z1) (u:List Z4) (v:List Z2):Z14:=
 (iter (fun p (l,n,x,t,k)=>bif decide (n<(k.length:Int))then iter (fun m (h,a,c,j,f,b)=>oB (idx b a) fun o=>bif decide (c<(o.1.1.length:Int))then oB (idx b a) fun r=>(oB (idx r.1.1 c) fun d=>oB (idx b a) fun i=>oB (s_l18Dead_m N i.1.1 i.1.2 i.2 d.1) fun q=>bif !q then oB (s_l18Put_m N h d.1 d.2.1 d.2.2) fun y=>(if fits (c+1)then m (y,a,(c+1),j,f,b)else none)else if fits (c+1)then m (h,a,(c+1),j,f,b)else none)else if fits (a+1)then p (h,(a+1),j,f,b)else none) N (l,n,(0:Int),x,t,k)else some l) N (([]:List Z0),(0:Int),w,u,v))
theorem jH3 :mK 169 (bX [.agg [.pv (.sl .str),.pv Y14,.pv Y0]] [.own 1 Y4 95 false] (c3A (s_l18Docs_m N))):=
 mO (fC (jIy N) (fC (jJy N) ja)) func169 rfl N (.seq .no (.seq .no (.seq (.seq .no (.block (.loop jI2 (.seq .no (.seq (.block (.seq .no (.block (.loop jJx .no)))) .no))))) .no))) _
def jIz :Sh:=⟨.dead:: .box 1 0:: .dead::pI::dz 67 [],[(1,false,[.pv (.sl .str),.pv Y14,.pv Y0])]⟩
def jJd :Sh:=⟨.dead:: .box 1 0:: .dead::pI:: .box 4 0::pI::dz 22 (pB::dz 9 (pB::dz 32 [])),[(1,false,[.pv (.sl .str),.pv Y14,.pv Y0]),(4,false,[.pv Y3,.pv Y5,.pv Y19])]⟩
def s_l18Ok_m (C:List Z1) (A:List Z4) (B:List Z2):Z10:=
 (iter (fun q (j,d,c,b)=>bif decide (j<(b.length:Int))then oB (idx b j) fun a=>(oB (jcR N d c a.1.1 a.1.2) fun v=>bif !v then some false else oB (jx3 N a.2) fun p=>bif !p then some false else bif decide ((a.1.1.length:Int)<=(a.2.length:Int))then some false else iter (fun x (h,e,t,z,n,m,k,o,l,i)=>bif decide (e<(i.length:Int))then oB (idx i e) fun w=>(oB (s_l12Doc_m N o l w) fun y=>bif decide (y.1=0)then some false else if fits (e+1)then x (h,(e+1),t,z,n,m,k,o,l,i)else none)else if fits (h+1)then q ((h+1),n,m,k)else none) N (j,(0:Int),(!p),(decide ((a.1.1.length:Int)<=(a.2.length:Int))),d,c,b,a.1.1,a.1.2,a.2))else oB (jcw N d c) fun u=>bif u then bif decide ((b.length:Int)<=5)then oB (s_l18Docs_m N d c b) fun D=>(oB (jbU N D) fun r=>some r)else(some false)else some false) N ((0:Int),C,A,B))
theorem jIW :mK 92 (bX [.agg [.pv (.sl .str),.pv Y14,.pv Y0]] [pB] (c3A (s_l18Ok_m N))):=
 mO (fC (jpm N) (fC (jC9 N) (fC (jDn N) (fC (jtf N) (fC (jH3 N) (fC (jpx N) ja)))))) func92 rfl N (.seq .no (.seq (.seq .no (.block (.loop jIz (.seq .no (.seq (.block (.seq .no (.seq .no (.seq .no (.block (.loop jJd .no)))))) .no))))) .no)) _
def jX7 :Sh:=⟨.dead:: .box 1 0:: .dead::pS::pI::dz 36 [],[(1,false,[.pv Y3,.pv Y5,.pv Y19])]⟩
def jYu :Sh:=⟨.dead:: .box 1 0:: .dead::pS:: .dead::pI::dz 35 [],[(1,false,[.pv Y3,.pv Y5,.pv Y19])]⟩
def s_l19Seg_m (v:List Z0) (n:List Z3) (u:List Int):Option (Z1):=
 (iter (fun p (h,d,c,k,l)=>bif decide (d<(c.length:Int))then oB (idx c d) fun e=>(oB (s_l6Put_m N e.1 e.2.1 e.2.2) fun m=>if h.length+m.length<=9223372036854775807 then if fits (d+1)then p ((h++m),(d+1),c,k,l)else none else none)else iter (fun t (a,b,q,o,i)=>bif decide (b<(i.length:Int))then if a.length+([100,101,97,100,32]:List UInt8).length<=9223372036854775807 then oB (idx i b) fun r=>(oB (s_l1Dec_m N N r) fun j=>if(a++([100,101,97,100,32]:List UInt8)).length+j.length<=9223372036854775807 then if((a++([100,101,97,100,32]:List UInt8))++j).length+([10]:List UInt8).length<=9223372036854775807 then if fits (b+1)then t ((((a++([100,101,97,100,32]:List UInt8))++j)++([10]:List UInt8)),(b+1),q,o,i)else none else none else none)else none else some a) N (h,(0:Int),c,k,l)) N (([]:List UInt8),(0:Int),v,n,u))
theorem jX1 :mK 108 (bX [.agg [.pv Y3,.pv Y5,.pv Y19]] [pS] (c3A (s_l19Seg_m N))):=
 mO (fC (jYI N) (fC (jOx N N) ja)) func108 rfl N (.seq .no (.seq .no (.seq (.seq .no (.block (.loop jX7 .no))) (.seq (.seq .no (.block (.loop jYu .no))) .no)))) _
def jaw (N:Nat) (a:Int):Z10:=
 (bif decide ((97:Int)<=a)then bif decide (a<=122)then some true else(bif decide ((48:Int)<=a)then some (decide (a<=57))else some false)else bif decide ((48:Int)<=a)then some (decide (a<=57))else some false)
theorem jeK :mK 148 (bX [.pv (.int .u8)] [pB] (c1A (jaw N))):=
 mO ja func148 rfl N .no _
def jm (N:Nat) (a:Int) (c:Int) (b:Int):Z10:=
 (bif decide (c<=a)then some (decide (a<=b))else some false)
theorem jY :mK 111 (bX [pI,pI,pI] [pB] (c3A (jm N))):=
 mO ja func111 rfl N .no _
def jqW :Sh:=⟨pS::dz 4 (pI::pI::dz 11 []),[]⟩
def jO (d:List UInt8):Z10:=
 (iter (fun f (b,c,a)=>bif decide (a<c)then oB (idx b a) fun h=>(oB (jaw N (h.toNat:Int)) fun e=>bif !e then some false else if fits (a+1)then f (b,c,(a+1))else none)else oB (jm N (b.length:Int) 1 12) fun j=>some j) N (d,(d.length:Int),(0:Int)))
theorem jcM :mK 71 (bX [pS] [pB] (c1A (jO N))):=
 mO (fC (jeK N) (fC (jY N) ja)) func71 rfl N (.seq .no (.seq (.seq .no (.block (.loop jqW .no))) .no)) _
def jmc :Sh:=⟨.pv (.sl .str)::dz 4 (.pv (.sl .str)::pI::pI::dz 21 []),[]⟩
def jb2 (e:List Z1):Z10:=
 (iter (fun f (b,c,d,a)=>bif decide (a<d)then oB (idx c a) fun h=>(oB (jO N h) fun i=>bif !i then some false else bif decide ((0:Int)<a)then if fits (a-1)then oB (idx b (a-1)) fun j=>(bif !Op.bytesLess j h then some false else if fits (a+1)then f (b,c,d,(a+1))else none)else none else if fits (a+1)then f (b,c,d,(a+1))else none)else some true) N (e,e,(e.length:Int),(0:Int)))
theorem jtw :mK 110 (bX [.pv (.sl .str)] [pB] (c1A (jb2 N))):=
 mO (fC (jcM N) ja) func110 rfl N (.seq .no (.seq (.seq .no (.block (.loop jmc .no))) .no)) _
def jdF (N:Nat) (a:List UInt8) (b:List UInt8):Z10:=
 (bif decide ((b.length:Int)<=(a.length:Int))then if fits ((a.length:Int)-(b.length:Int))then oB (cut a ((a.length:Int)-(b.length:Int)) (a.length:Int)) fun c=>(some (decide (c=b)))else none else some false)
theorem jpU :mK 238 (bX [pS,pS] [pB] (c2A (jdF N))):=
 mO ja func238 rfl N .no _
def jcN (c:List UInt8) (b:List UInt8):Z10:=
 (oB (jdF N c b) fun a=>some a)
theorem jsu :mK 185 (bX [pS,pS] [pB] (c2A (jcN N))):=
 mO (fC (jpU N) ja) func185 rfl N .no _
def jod :Sh:=⟨pS:: .dead:: .dead::pB::dz 32 [],[]⟩
def jnf :Sh:=⟨pS:: .dead:: .dead::pB::dz 6 (.own 600010 .str 9 true::pI::pI::dz 23 []),[]⟩
def jaB (l:List UInt8):Option (Z1):=
 (oB (jO N l) fun m=>bif !m then some ([]:List UInt8)else iter (fun k (j,o)=>bif o then iter (fun i (a,e,h,d,b)=>bif decide (b<d)then oB (idx h b) fun c=>(oB (jcN N a c) fun p=>bif p then if fits ((a.length:Int)-(c.length:Int))then bif decide ((3:Int)<=((a.length:Int)-(c.length:Int)))then if fits ((a.length:Int)-(c.length:Int))then oB (cut a 0 ((a.length:Int)-(c.length:Int))) fun n=>(k (n,true))else none else(if fits (b+1)then i (a,e,h,d,(b+1))else none)else none else if fits (b+1)then i (a,e,h,d,(b+1))else none)else k (a,e)) N (j,false,([([105,110,103]:List UInt8),([101,100]:List UInt8),([101,115]:List UInt8),([108,121]:List UInt8),([115]:List UInt8)]:List Z1),(([([105,110,103]:List UInt8),([101,100]:List UInt8),([101,115]:List UInt8),([108,121]:List UInt8),([115]:List UInt8)]:List Z1).length:Int),(0:Int))else some j) N (l,true))
theorem jio :mK 112 (bX [pS] [pS] (c1A (jaB N))):=
 mO (fC (jcM N) (fC (jsu N) ja)) func112 rfl N (.seq .no (.seq .no (.seq (.seq .no (.block (.loop jod (.seq .no (.block (.seq .no (.seq .no (.block (.loop jnf .no))))))))) .no))) _
def jkJ :Sh:=⟨.pv (.sl .str)::pS::dz 5 (pI::pI::dz 10 []),[]⟩
def jdH (e:List Z1) (i:List UInt8):Z16:=
 (iter (fun f (b,d,c,a)=>bif decide (a<c)then oB (idx b a) fun h=>(bif decide (d=h)then some a else if fits (a+1)then f (b,d,c,(a+1))else none)else some (-1)) N (e,i,(e.length:Int),(0:Int)))
theorem jkZ :mK 186 (bX [.pv (.sl .str),pS] [pI] (c2A (jdH N))):=
 mO ja func186 rfl N (.seq .no (.seq (.seq .no (.block (.loop jkJ .no))) .no)) _
def jao (c:List Z1) (b:List UInt8):Z10:=
 (oB (jdH N c b) fun a=>some (decide ((0:Int)<=a)))
theorem jh5 :mK 113 (bX [.pv (.sl .str),pS] [pB] (c2A (jao N))):=
 mO (fC (jkZ N) ja) func113 rfl N .no _
def jmj :Sh:=⟨.dead:: .box 1 0::dz 22 (.pv Y14::pI::pI::dz 46 []),[(1,false,[.pv (.sl .str),.pv Y14])]⟩
def jrC :Sh:=⟨.dead:: .box 1 0::dz 22 (.pv Y14::pI::pI::dz 12 (pB::dz 7 (pB:: .dead:: .dead:: .pv (.sl .str)::pI::pI::dz 20 []))),[(1,false,[.pv (.sl .str),.pv Y14])]⟩
def jaj (e:List Z1) (b:List Z4):Z10:=
 (bif decide ((6:Int)<e.length)then some false else oB (jb2 N e) fun A=>bif !A then some false else bif decide ((4:Int)<b.length)then some false else iter (fun v (r,q,j,C,z)=>bif decide (j<q)then oB (idx r j) fun a=>(oB (jm N (a.1.length:Int) 1 3) fun E=>bif !E then some false else oB (jO N a.2) fun o=>bif !o then some false else oB (jaB N a.2) fun m=>bif !decide (m=a.2)then some false else iter (fun B (n,l,i,y,x,p,k,d,h,t)=>bif decide (d<k)then oB (idx p d) fun c=>(oB (jO N c) fun D=>bif !D then some false else oB (jaB N c) fun w=>bif !decide (w=c)then some false else oB (jao N h c) fun u=>bif u then some false else if fits (d+1)then B (n,l,i,y,x,p,k,(d+1),h,t)else none)else if fits (i+1)then v (n,l,(i+1),h,t)else none) N (r,q,j,(!o),(!decide (m=a.2)),a.1,(a.1.length:Int),(0:Int),C,z))else some true) N (b,(b.length:Int),(0:Int),e,b))
theorem jdX :mK 45 (bX [.agg [.pv (.sl .str),.pv Y14]] [pB] (c2A (jaj N))):=
 mO (fC (jtw N) (fC (jY N) (fC (jcM N) (fC (jio N) (fC (jh5 N) ja))))) func45 rfl N (.seq .no (.seq .no (.seq (.seq .no (.block (.loop jmj (.seq .no (.seq .no (.seq (.block (.seq .no (.seq .no (.seq .no (.block (.loop jrC .no)))))) .no)))))) .no))) _
def k_strings_Split_m (N:Nat) (b:List UInt8) (a:List UInt8):Option ((List Z1)):=splitM b a
 
def jYt (N:Nat):Model:=⟨⟨[pS,pS],[]⟩,⟨[.pv (.sl .str)],[]⟩,c2A (k_strings_Split_m N)⟩
theorem jYi :mK 46 (jYt N):=jYA
def k_internal_stringslite_HasPrefix_m (N:Nat) (b:List UInt8) (a:List UInt8):Z10:=
 (bif decide ((a.length:Int)<=(b.length:Int))then oB (cut b 0 (a.length:Int)) fun c=>(some (decide (c=a)))else some false)
theorem jXE :mK 118 (bX [pS,pS] [pB] (c2A (k_internal_stringslite_HasPrefix_m N))):=
 mO ja func118 rfl N .no _
def k_internal_stringslite_CutPrefix_m (a:List UInt8) (b:List UInt8):Option (Z1×Bool):=
 (oB (k_internal_stringslite_HasPrefix_m N a b) fun c=>bif !c then some (a,false)else oB (cut a (b.length:Int) (a.length:Int)) fun d=>some (d,true))
theorem jYb :mK 115 (bX [pS,pS] [.tup [pS,pB]] (c2A (k_internal_stringslite_CutPrefix_m N))):=
 mO (fC (jXE N) ja) func115 rfl N .no _
def k_strings_CutPrefix_m (b:List UInt8) (c:List UInt8):Option (Z1×Bool):=
 (oB (k_internal_stringslite_CutPrefix_m N b c) fun a=>some (a.1,a.2))
theorem jYg :mK 47 (bX [pS,pS] [.tup [pS,pB]] (c2A (k_strings_CutPrefix_m N))):=
 mO (fC (jYb N) ja) func47 rfl N .no _
def jXn (N:Nat) (a:List UInt8):Option Int:=atoiM a
 
def jYe (N:Nat):Model:=⟨⟨[pS],[]⟩,⟨[.tup [pI,.dead]],[]⟩,c1A (jXn N)⟩
theorem jXC :mK 48 (jYe N):=jYw
def k_strings_HasPrefix_m (b:List UInt8) (c:List UInt8):Z10:=
 (oB (k_internal_stringslite_HasPrefix_m N b c) fun a=>some a)
theorem jXS :mK 49 (bX [pS,pS] [pB] (c2A (k_strings_HasPrefix_m N))):=
 mO (fC (jXE N) ja) func49 rfl N .no _
def k_strings_Cut_m (N:Nat) (b:List UInt8) (a:List UInt8):Option (Z1×Z1×Bool):=cutM b a
 
def jYv (N:Nat):Model:=⟨⟨[pS,pS],[]⟩,⟨[.tup [pS,pS,pB]],[]⟩,c2A (k_strings_Cut_m N)⟩
theorem jX0 :mK 119 (jYv N):=jXX
def jYp :Sh:=⟨.dead:: .dead:: .box 2 0:: .box 3 0::dz 13 (.pv (.sl .str)::pI::pI::dz 51 []),[(2,false,[pI,.nils,.nils]),(3,false,[pI,.own 700301 Y18 155 true,.own 700302 Y15 157 true])]⟩
def jXo (l:List Z1):Option Z0:=
 (iter (fun i (h,f,a,k,j,c,d)=>bif decide (a<f)then oB (idx h a) fun o=>(oB (k_strings_Cut_m N o ([32]:List UInt8)) fun e=>oB (k_strings_Cut_m N e.2.1 ([32]:List UInt8)) fun b=>bif decide (e.1=([100,111,99]:List UInt8))then oB (jXn N e.2.1) fun n=>(if fits (a+1)then i (h,f,(a+1),k,n,c,d)else none)else bif decide (e.1=([102,105,101,108,100]:List UInt8))then if room c.length ([(b.1,b.2.1)]:Z5).length 32 then if fits (a+1)then i (h,f,(a+1),k,j,(c++([(b.1,b.2.1)]:Z5)),d)else none else none else bif decide (e.1=([110,117,109]:List UInt8))then oB (jXn N b.2.1) fun m=>(if room d.length ([(b.1,m)]:Z8).length 24 then if fits (a+1)then i (h,f,(a+1),k,j,c,(d++([(b.1,m)]:Z8)))else none else none)else if fits (a+1)then i (h,f,(a+1),k,j,c,d)else none)else some (j,c,d)) N (l,(l.length:Int),(0:Int),(0:Int),(0:Int),([]:Z5),([]:Z8)))
theorem jYG :mK 50 (bX [.pv (.sl .str)] [.agg [pI,.own 1 Y18 155 true,.own 2 Y15 157 true]] (c1A (jXo N))):=
 mO (fC (jX0 N) (fC (jXC N) ja)) func50 rfl N (.seq .no (.seq .no (.seq (.seq .no (.block (.loop jYp .no))) .no))) _
def jtd :Sh:=⟨pS::dz 4 (pI::pI::dz 16 []),[]⟩
def jaF (d:List UInt8):Z10:=
 (iter (fun e (b,c,a)=>bif decide (a<c)then oB (idx b a) fun h=>(bif decide ((h.toNat:Int)<32)then some false else oB (idx b a) fun f=>bif decide ((126:Int)<(f.toNat:Int))then some false else if fits (a+1)then e (b,c,(a+1))else none)else some (decide ((b.length:Int)<=160))) N (d,(d.length:Int),(0:Int)))
theorem jdK :mK 197 (bX [pS] [pB] (c1A (jaF N))):=
 mO ja func197 rfl N (.seq .no (.seq (.seq .no (.block (.loop jtd .no))) .no)) _
def jlC :Sh:=⟨.dead:: .box 1 0::dz 22 (.pv Y17::pI::pI::dz 66 []),[(1,false,[pI,.pv Y17,.pv Y13])]⟩
def jpt :Sh:=⟨.dead:: .box 1 0::dz 57 (.pv Y13::pI::pI::dz 31 []),[(1,false,[pI,.pv Y17,.pv Y13])]⟩
def i_DocOk_m (u:Int) (d:Z5) (v:Z8):Z10:=
 (oB (jm N u 1 9999) fun x=>bif !x then some false else bif decide ((3:Int)<d.length)then some false else bif decide ((3:Int)<v.length)then some false else iter (fun p (n,m,a,o,e,c)=>bif decide (a<m)then oB (idx n a) fun f=>(oB (jO N f.1) fun C=>bif !C then some false else oB (jaF N f.2) fun z=>bif !z then some false else bif decide ((0:Int)<a)then if fits (a-1)then oB (idx e (a-1)) fun y=>(bif !Op.bytesLess y.1 f.1 then some false else if fits (a+1)then p (n,m,(a+1),o,e,c)else none)else none else if fits (a+1)then p (n,m,(a+1),o,e,c)else none)else iter (fun t (l,h,b,q,r,i)=>bif decide (b<h)then oB (idx l b) fun j=>(oB (jO N j.1) fun w=>bif !w then some false else oB (jm N j.2 0 999999999) fun B=>bif !B then some false else bif decide ((0:Int)<b)then if fits (b-1)then oB (idx i (b-1)) fun A=>(bif !Op.bytesLess A.1 j.1 then some false else if fits (b+1)then t (l,h,(b+1),q,r,i)else none)else none else if fits (b+1)then t (l,h,(b+1),q,r,i)else none)else some true) N (c,(c.length:Int),(0:Int),o,e,c)) N (d,(d.length:Int),(0:Int),u,d,v))
theorem jh0 :mK 153 (bX [.agg [pI,.pv Y17,.pv Y13]] [pB] (c3A (i_DocOk_m N))):=
 mO (fC (jY N) (fC (jcM N) (fC (jdK N) ja))) func153 rfl N (.seq .no (.seq .no (.seq (.seq .no (.block (.loop jlC .no))) (.seq (.seq .no (.block (.loop jpt .no))) .no)))) _
def jpj :Sh:=⟨.pv Y3::dz 4 (.pv Y3::pI::pI::dz 26 []),[]⟩
def jbf (f:List Z0):Z10:=
 (iter (fun h (b,d,e,a)=>bif decide (a<e)then oB (idx d a) fun c=>(oB (i_DocOk_m N c.1 c.2.1 c.2.2) fun i=>bif !i then some false else bif decide ((0:Int)<a)then if fits (a-1)then oB (idx b (a-1)) fun j=>(bif decide (c.1<=j.1)then some false else if fits (a+1)then h (b,d,e,(a+1))else none)else none else if fits (a+1)then h (b,d,e,(a+1))else none)else some (decide ((b.length:Int)<=16))) N (f,f,(f.length:Int),(0:Int)))
theorem jjU :mK 73 (bX [.pv Y3] [pB] (c1A (jbf N))):=
 mO (fC (jh0 N) ja) func73 rfl N (.seq .no (.seq (.seq .no (.block (.loop jpj .no))) .no)) _
def jbO (N:Nat) (c:Int) (b:Z5) (a:Z8):Option Z0:=
 (if room ([]:Z5).length b.length 32 then if room ([]:Z8).length a.length 24 then some (c,(([]:Z5)++b),(([]:Z8)++a))else none else none)
theorem jrI :mK 196 (bX [.agg [pI,.pv Y17,.pv Y13]] [.agg [pI,.own 1 Y18 155 true,.own 2 Y15 157 true]] (c3A (jbO N))):=
 mO ja func196 rfl N .no _
def joW :Sh:=⟨dz 3 (.own 600003 Y4 95 true::dz 3 (.pv Y3::pI::pI::dz 10 [])),[]⟩
def jbV (h:List Z0):Z14:=
 (iter (fun i (c,e,f,a)=>bif decide (a<f)then oB (idx e a) fun b=>(oB (jbO N b.1 b.2.1 b.2.2) fun d=>if room c.length ([d]:List Z0).length 56 then if fits (a+1)then i ((c++([d]:List Z0)),e,f,(a+1))else none else none)else some c) N (([]:List Z0),h,(h.length:Int),(0:Int)))
theorem joC :mK 120 (bX [.pv Y3] [.own 1 Y4 95 true] (c1A (jbV N))):=
 mO (fC (jrI N) ja) func120 rfl N (.seq .no (.seq .no (.seq (.seq .no (.block (.loop joW .no))) .no))) _
def jI (N:Nat) (a:Int):Z16:=
 (bif decide ((65:Int)<=a)then bif decide (a<=90)then some (IntKind.u8.wrap ((IntKind.u8.wrap (a+97))-65))else(some a)else some a)
theorem jmu :mK 246 (bX [.pv (.int .u8)] [.pv (.int .u8)] (c1A (jI N))):=
 mO ja func246 rfl N .no _
def jpB :Sh:=⟨pS:: .dead:: .dead:: .own 600003 Y7 233 true::pI::dz 57 [],[]⟩
def jo6 :Sh:=⟨pS:: .dead:: .dead:: .own 600003 Y7 233 true::pI:: .box 5 0:: .own 600006 (.int .u8) 5 true::dz 55 [],[(5,false,[pS,pI,pI,pI])]⟩
def jct (q:List UInt8):Option ((List Z11)):=
 (oB (jaF N q) fun v=>bif !v then some ([]:List Z11)else iter (fun k (j,i,d)=>bif decide (d<(j.length:Int))then oB (idx j d) fun t=>(oB (jI N (t.toNat:Int)) fun z=>oB (jaw N z) fun w=>bif !w then if fits (d+1)then k (j,i,(d+1))else none else iter (fun o (c,e,a,b,p,f,h,n)=>bif decide (a<(c.length:Int))then oB (idx c a) fun r=>(oB (jI N (r.toNat:Int)) fun u=>oB (jaw N u) fun y=>bif y then bif decide ((b.length:Int)<12)then oB (idx c a) fun x=>(oB (jI N (x.toNat:Int)) fun m=>if room b.length ([m]:List Int).length 1 then if fits (a+1)then o (c,e,(a+1),(b++([m]:List Int)),p,f,h,n)else none else none)else(if fits (a+1)then o (c,e,(a+1),b,p,f,h,n)else none)else if room e.length ([((bytesOf b),f,h,a)]:List Z11).length 40 then k (c,(e++([((bytesOf b),f,h,a)]:List Z11)),a)else none)else if room e.length ([((bytesOf b),f,h,a)]:List Z11).length 40 then k (c,(e++([((bytesOf b),f,h,a)]:List Z11)),a)else none) N (j,i,d,([]:List Int),([]:List UInt8),(i.length:Int),d,(0:Int)))else some i) N (q,([]:List Z11),(0:Int)))
theorem jqc :mK 198 (bX [pS] [.own 1 Y7 233 true] (c1A (jct N))):=
 mO (fC (jdK N) (fC (jmu N) (fC (jeK N) ja))) func198 rfl N (.seq .no (.seq .no (.seq .no (.seq (.seq .no (.block (.loop jpB (.seq .no (.block (.seq .no (.seq .no (.seq .no (.seq (.block (.loop jo6 .no)) .no))))))))) .no)))) _
def jty :Sh:=⟨.dead:: .pv Y13::pI:: .box 3 0::dz 3 (.pv (.opt Y16)::dz 8 (pI::pI::dz 73 [])),[(3,false,[.pv (.sl .str),.pv Y14])]⟩
def jss :Sh:=⟨.dead:: .pv Y13::pI:: .box 3 0::dz 3 (.pv (.opt Y16):: .dead:: .ptr Y16::pB::dz 5 (pI::pI::dz 31 (pB::dz 4 (.pv (.sl .str)::pI::pI::dz 34 [])))),[(3,false,[.pv (.sl .str),.pv Y14])]⟩
def jbH (c:List Z1) (c2:List Z4) (terms:Z8) (at0:Int):Option ((Option Z4)):=
 (iter (fun go (terms2,at02,best,t16,t17,c3,c4)=>bif decide (t17<t16)then oB (idx c4 t17) fun e=>(if fits ((terms2.length:Int)-at02)then bif decide (((terms2.length:Int)-at02)<(e.1.length:Int))then if fits (t17+1)then go (terms2,at02,best,t16,(t17+1),c3,c4)else none else(bif !(Option.isNone best)then oB best fun p=>(bif decide ((e.1.length:Int)<=(p.1.length:Int))then if fits (t17+1)then go (terms2,at02,best,t16,(t17+1),c3,c4)else none else iter (fun go2 (terms3,at03,best2,r,fits0,t162,t172,t49,t54,t55,t56,c5,c6)=>bif decide (t56<t55)then oB (idx t54 t56) fun e2=>(if fits (at03+t56)then oB (idx terms3 (at03+t56)) fun e3=>(bif fits0 then bif decide (e3.1=e2)then oB (idx terms3 at03) fun e4=>(if fits (e4.2+t56)then if fits (t56+1)then go2 (terms3,at03,best2,r,(decide (e3.2=(e4.2+t56))),t162,t172,t49,t54,t55,(t56+1),c5,c6)else none else none)else(if fits (t56+1)then go2 (terms3,at03,best2,r,false,t162,t172,t49,t54,t55,(t56+1),c5,c6)else none)else if fits (t56+1)then go2 (terms3,at03,best2,r,false,t162,t172,t49,t54,t55,(t56+1),c5,c6)else none)else none)else bif fits0 then if fits (t172+1)then go (terms3,at03,(some r),t162,(t172+1),c5,c6)else none else if fits (t172+1)then go (terms3,at03,best2,t162,(t172+1),c5,c6)else none) N (terms2,at02,best,e,true,t16,t17,(decide ((e.1.length:Int)<=(p.1.length:Int))),e.1,(e.1.length:Int),(0:Int),c3,c4))else iter (fun go3 (terms4,at04,best3,r2,fits02,t163,t173,t492,t542,t552,t562,c7,c8)=>bif decide (t562<t552)then oB (idx t542 t562) fun e5=>(if fits (at04+t562)then oB (idx terms4 (at04+t562)) fun e6=>(bif fits02 then bif decide (e6.1=e5)then oB (idx terms4 at04) fun e7=>(if fits (e7.2+t562)then if fits (t562+1)then go3 (terms4,at04,best3,r2,(decide (e6.2=(e7.2+t562))),t163,t173,t492,t542,t552,(t562+1),c7,c8)else none else none)else(if fits (t562+1)then go3 (terms4,at04,best3,r2,false,t163,t173,t492,t542,t552,(t562+1),c7,c8)else none)else if fits (t562+1)then go3 (terms4,at04,best3,r2,false,t163,t173,t492,t542,t552,(t562+1),c7,c8)else none)else none)else bif fits02 then if fits (t173+1)then go (terms4,at04,(some r2),t163,(t173+1),c7,c8)else none else if fits (t173+1)then go (terms4,at04,best3,t163,(t173+1),c7,c8)else none) N (terms2,at02,best,e,true,t16,t17,false,e.1,(e.1.length:Int),(0:Int),c3,c4))else none)else some best) N (terms,at0,(none:Option Z4),(c2.length:Int),(0:Int),c,c2))
theorem jtv :mK 199 (bX [.agg [.pv (.sl .str),.pv Y14],.pv Y13,pI] [.pv (.opt Y16)] (c4A (jbH N))):=
 mO ja func199 rfl N (.seq .no (.seq .no (.seq (.seq .no (.block (.loop jty (.seq .no (.seq .no (.seq (.block (.seq .no (.seq .no (.seq .no (.seq .no (.seq (.seq .no (.block (.loop jss .no))) .no)))))) .no)))))) .no))) _
def jlW :Sh:=⟨.dead:: .dead:: .box 2 0:: .dead:: .dead:: .own 600005 Y15 162 true:: .own 600006 Y15 162 true::dz 17 (.own 600024 Y7 233 true::pI::pI::dz 67 []),[(2,false,[.pv (.sl .str),.pv Y14])]⟩
def jnt :Sh:=⟨.dead:: .dead:: .box 2 0:: .dead:: .dead:: .own 600005 Y15 162 true:: .own 600006 Y15 162 true::dz 3 (pI::dz 83 []),[(2,false,[.pv (.sl .str),.pv Y14])]⟩
def jbw (v:List Z1) (u:List Z4) (B:List UInt8):Option (Z9):=
 (oB (jaj N v u) fun D=>bif !D then some ([]:Z8)else oB (jaF N B) fun G=>bif !G then some ([]:Z8)else oB (jct N B) fun A=>iter (fun n (i,e,l,k,b,d,j)=>bif decide (b<k)then oB (idx l b) fun h=>(oB (jaB N h.1) fun p=>oB (jao N d h.1) fun E=>bif !E then oB (jao N d p) fun C=>(bif !C then if room e.length ([(p,h.2.1)]:Z8).length 24 then if fits (b+1)then n (i,(e++([(p,h.2.1)]:Z8)),l,k,(b+1),d,j)else none else none else if fits (b+1)then n (i,e,l,k,(b+1),d,j)else none)else if fits (b+1)then n (i,e,l,k,(b+1),d,j)else none)else iter (fun z (f,c,a,q,r)=>bif decide (a<(c.length:Int))then oB (jbH N q r c a) fun m=>(bif Option.isNone m then oB (idx c a) fun y=>(if room f.length ([y]:Z8).length 24 then if fits (a+1)then z ((f++([y]:Z8)),c,(a+1),q,r)else none else none)else oB m fun t=>oB (idx c a) fun w=>if room f.length ([(t.2,w.2)]:Z8).length 24 then oB m fun x=>(if fits (a+(x.1.length:Int))then z ((f++([(t.2,w.2)]:Z8)),c,(a+(x.1.length:Int)),q,r)else none)else none)else some f) N (i,e,(0:Int),d,j)) N (([]:Z8),([]:Z8),A,(A.length:Int),(0:Int),v,u))
theorem jgO :mK 121 (bX [.agg [.pv (.sl .str),.pv Y14],pS] [.own 1 Y15 162 true] (c3A (jbw N))):=
 mO (fC (jdX N) (fC (jdK N) (fC (jqc N) (fC (jio N) (fC (jh5 N) (fC (jtv N) ja)))))) func121 rfl N (.seq .no (.seq .no (.seq .no (.seq .no (.seq (.seq .no (.block (.loop jlW .no))) (.seq (.seq .no (.block (.loop jnt .no))) .no)))))) _
def k__loop_example_fossick_impl_Seg_put_1_m (N:Nat) (b:List UInt8) (a:List UInt8) (e:Z6) (d:List UInt8) (c:Z1×Int):Z10:=
 (bif decide (b=d)then some (decide (a=c.1))else some false)
theorem jmw :mK 201 (bX [.agg [pS,pS,.pv Y11],.ptr .str,.ptr Y15] [pB] (c5A (k__loop_example_fossick_impl_Seg_put_1_m N))):=
 mO ja func201 rfl N .no _
def jnc :Sh:=⟨.pv Y5:: .clo 201 [.ptr .str,.ptr Y15]::dz 5 (pI::pI::dz 10 []),[]⟩
def k_slices_IndexFunc_146_m (f:List Z3) (k:Z1×Z1×Int):Z16:=
 (iter (fun i (d,c,e,a)=>bif decide (a<e)then oB (idx d a) fun b=>(oB (k__loop_example_fossick_impl_Seg_put_1_m N b.1 b.2.1 b.2.2 c.1 c.2) fun h=>bif h then some a else if fits (a+1)then i (d,c,e,(a+1))else none)else some (-1)) N (f,k,(f.length:Int),(0:Int)))
theorem jrl :mK 200 (bX [.pv Y5,.clo 201 [.ptr .str,.ptr Y15]] [pI] (c2A (k_slices_IndexFunc_146_m N))):=
 mO (fC (jmw N) ja) func200 rfl N (.seq .no (.seq (.seq .no (.block (.loop jnc .no))) .no)) _
def i_Seg_put_m (h:List UInt8) (f:List UInt8) (i:Int) (e:Int) (r:List Z0) (a:List Z3):Option ((List Z0)×(List Z3)):=
 (oB (k_slices_IndexFunc_146_m N a (h,f,i)) fun d=>bif decide (d<0)then if room a.length ([(h,f,([]:Z6))]:List Z3).length 56 then if 0<=(a.length:Int)/\(a.length:Int)<((a++([(h,f,([]:Z6))]:List Z3)).length:Int)then oB ((a++([(h,f,([]:Z6))]:List Z3))[(a.length:Int).toNat]?) fun b=>(if fits ((b.2.2.length:Int)-1)then bif decide (((b.2.2.length:Int)-1)<0)then oB ((a++([(h,f,([]:Z6))]:List Z3))[(a.length:Int).toNat]?) fun U=>(if(a.length:Int).toNat=(a.length:Int).toNat then if room b.2.2.length ([(e,([]:List Int))]:Z6).length 32 then if(a.length:Int).toNat=(a.length:Int).toNat then oB ((a++([(h,f,([]:Z6))]:List Z3))[(a.length:Int).toNat]?) fun j=>(if fits (((b.2.2.length:Int)-1)+1)then oB (((a++([(h,f,([]:Z6))]:List Z3)).set (a.length:Int).toNat (j.1,j.2.1,(b.2.2++([(e,([]:List Int))]:Z6))))[(a.length:Int).toNat]?) fun q=>(oB (q.2.2[(((b.2.2.length:Int)-1)+1).toNat]?) fun A=>oB (((a++([(h,f,([]:Z6))]:List Z3)).set (a.length:Int).toNat (j.1,j.2.1,(b.2.2++([(e,([]:List Int))]:Z6))))[(a.length:Int).toNat]?) fun an=>if(a.length:Int).toNat=(a.length:Int).toNat then oB (((a++([(h,f,([]:Z6))]:List Z3)).set (a.length:Int).toNat (j.1,j.2.1,(b.2.2++([(e,([]:List Int))]:Z6))))[(a.length:Int).toNat]?) fun ai=>(if(a.length:Int).toNat=(a.length:Int).toNat then if 0<=(((b.2.2.length:Int)-1)+1)/\(((b.2.2.length:Int)-1)+1)<(q.2.2.length:Int)then oB (q.2.2[(((b.2.2.length:Int)-1)+1).toNat]?) fun ad=>(if(((b.2.2.length:Int)-1)+1).toNat=(((b.2.2.length:Int)-1)+1).toNat then if room A.2.length ([i]:List Int).length 8 then if 0<=(((b.2.2.length:Int)-1)+1)/\(((b.2.2.length:Int)-1)+1)<(q.2.2.length:Int)then if(((b.2.2.length:Int)-1)+1).toNat=(((b.2.2.length:Int)-1)+1).toNat then oB (q.2.2[(((b.2.2.length:Int)-1)+1).toNat]?) fun O=>(some (r,(((a++([(h,f,([]:Z6))]:List Z3)).set (a.length:Int).toNat (j.1,j.2.1,(b.2.2++([(e,([]:List Int))]:Z6)))).modify ((a.length:Int).toNat) fun C=>(C.1,C.2.1,(q.2.2.set (((b.2.2.length:Int)-1)+1).toNat (O.1,(A.2++([i]:List Int))))))))else none else none else none else none)else none else none)else none)else none)else none else none else none)else(oB ((a++([(h,f,([]:Z6))]:List Z3))[(a.length:Int).toNat]?) fun R=>if(a.length:Int).toNat=(a.length:Int).toNat then if 0<=((b.2.2.length:Int)-1)/\((b.2.2.length:Int)-1)<(b.2.2.length:Int)then oB (b.2.2[((b.2.2.length:Int)-1).toNat]?) fun G=>(bif !decide (G.1=e)then oB ((a++([(h,f,([]:Z6))]:List Z3))[(a.length:Int).toNat]?) fun ap=>(if(a.length:Int).toNat=(a.length:Int).toNat then if room b.2.2.length ([(e,([]:List Int))]:Z6).length 32 then if(a.length:Int).toNat=(a.length:Int).toNat then oB ((a++([(h,f,([]:Z6))]:List Z3))[(a.length:Int).toNat]?) fun m=>(if fits (((b.2.2.length:Int)-1)+1)then oB (((a++([(h,f,([]:Z6))]:List Z3)).set (a.length:Int).toNat (m.1,m.2.1,(b.2.2++([(e,([]:List Int))]:Z6))))[(a.length:Int).toNat]?) fun n=>(oB (n.2.2[(((b.2.2.length:Int)-1)+1).toNat]?) fun D=>oB (((a++([(h,f,([]:Z6))]:List Z3)).set (a.length:Int).toNat (m.1,m.2.1,(b.2.2++([(e,([]:List Int))]:Z6))))[(a.length:Int).toNat]?) fun aa=>if(a.length:Int).toNat=(a.length:Int).toNat then oB (((a++([(h,f,([]:Z6))]:List Z3)).set (a.length:Int).toNat (m.1,m.2.1,(b.2.2++([(e,([]:List Int))]:Z6))))[(a.length:Int).toNat]?) fun ao=>(if(a.length:Int).toNat=(a.length:Int).toNat then if 0<=(((b.2.2.length:Int)-1)+1)/\(((b.2.2.length:Int)-1)+1)<(n.2.2.length:Int)then oB (n.2.2[(((b.2.2.length:Int)-1)+1).toNat]?) fun ab=>(if(((b.2.2.length:Int)-1)+1).toNat=(((b.2.2.length:Int)-1)+1).toNat then if room D.2.length ([i]:List Int).length 8 then if 0<=(((b.2.2.length:Int)-1)+1)/\(((b.2.2.length:Int)-1)+1)<(n.2.2.length:Int)then if(((b.2.2.length:Int)-1)+1).toNat=(((b.2.2.length:Int)-1)+1).toNat then oB (n.2.2[(((b.2.2.length:Int)-1)+1).toNat]?) fun H=>(some (r,(((a++([(h,f,([]:Z6))]:List Z3)).set (a.length:Int).toNat (m.1,m.2.1,(b.2.2++([(e,([]:List Int))]:Z6)))).modify ((a.length:Int).toNat) fun E=>(E.1,E.2.1,(n.2.2.set (((b.2.2.length:Int)-1)+1).toNat (H.1,(D.2++([i]:List Int))))))))else none else none else none else none)else none else none)else none)else none)else none else none else none)else if(a.length:Int).toNat=(a.length:Int).toNat then oB (b.2.2[((b.2.2.length:Int)-1).toNat]?) fun B=>(oB ((a++([(h,f,([]:Z6))]:List Z3))[(a.length:Int).toNat]?) fun ah=>if(a.length:Int).toNat=(a.length:Int).toNat then oB ((a++([(h,f,([]:Z6))]:List Z3))[(a.length:Int).toNat]?) fun V=>(if(a.length:Int).toNat=(a.length:Int).toNat then if 0<=((b.2.2.length:Int)-1)/\((b.2.2.length:Int)-1)<(b.2.2.length:Int)then oB (b.2.2[((b.2.2.length:Int)-1).toNat]?) fun S=>(if((b.2.2.length:Int)-1).toNat=((b.2.2.length:Int)-1).toNat then if room B.2.length ([i]:List Int).length 8 then if 0<=((b.2.2.length:Int)-1)/\((b.2.2.length:Int)-1)<(b.2.2.length:Int)then if((b.2.2.length:Int)-1).toNat=((b.2.2.length:Int)-1).toNat then oB (b.2.2[((b.2.2.length:Int)-1).toNat]?) fun L=>(some (r,((a++([(h,f,([]:Z6))]:List Z3)).modify ((a.length:Int).toNat) fun w=>(w.1,w.2.1,(b.2.2.set ((b.2.2.length:Int)-1).toNat (L.1,(B.2++([i]:List Int))))))))else none else none else none else none)else none else none)else none)else none)else none else none)else none)else none else none else if 0<=d/\d<(a.length:Int)then oB (a[d.toNat]?) fun c=>(if fits ((c.2.2.length:Int)-1)then bif decide (((c.2.2.length:Int)-1)<0)then oB (a[d.toNat]?) fun aj=>(if d.toNat=d.toNat then if room c.2.2.length ([(e,([]:List Int))]:Z6).length 32 then if d.toNat=d.toNat then oB (a[d.toNat]?) fun l=>(if fits (((c.2.2.length:Int)-1)+1)then oB ((a.set d.toNat (l.1,l.2.1,(c.2.2++([(e,([]:List Int))]:Z6))))[d.toNat]?) fun p=>(oB (p.2.2[(((c.2.2.length:Int)-1)+1).toNat]?) fun u=>oB ((a.set d.toNat (l.1,l.2.1,(c.2.2++([(e,([]:List Int))]:Z6))))[d.toNat]?) fun T=>if d.toNat=d.toNat then oB ((a.set d.toNat (l.1,l.2.1,(c.2.2++([(e,([]:List Int))]:Z6))))[d.toNat]?) fun al=>(if d.toNat=d.toNat then if 0<=(((c.2.2.length:Int)-1)+1)/\(((c.2.2.length:Int)-1)+1)<(p.2.2.length:Int)then oB (p.2.2[(((c.2.2.length:Int)-1)+1).toNat]?) fun X=>(if(((c.2.2.length:Int)-1)+1).toNat=(((c.2.2.length:Int)-1)+1).toNat then if room u.2.length ([i]:List Int).length 8 then if 0<=(((c.2.2.length:Int)-1)+1)/\(((c.2.2.length:Int)-1)+1)<(p.2.2.length:Int)then if(((c.2.2.length:Int)-1)+1).toNat=(((c.2.2.length:Int)-1)+1).toNat then oB (p.2.2[(((c.2.2.length:Int)-1)+1).toNat]?) fun P=>(some (r,((a.set d.toNat (l.1,l.2.1,(c.2.2++([(e,([]:List Int))]:Z6)))).modify d.toNat fun z=>(z.1,z.2.1,(p.2.2.set (((c.2.2.length:Int)-1)+1).toNat (P.1,(u.2++([i]:List Int))))))))else none else none else none else none)else none else none)else none)else none)else none else none else none)else(oB (a[d.toNat]?) fun ae=>if d.toNat=d.toNat then if 0<=((c.2.2.length:Int)-1)/\((c.2.2.length:Int)-1)<(c.2.2.length:Int)then oB (c.2.2[((c.2.2.length:Int)-1).toNat]?) fun Q=>(bif !decide (Q.1=e)then oB (a[d.toNat]?) fun ak=>(if d.toNat=d.toNat then if room c.2.2.length ([(e,([]:List Int))]:Z6).length 32 then if d.toNat=d.toNat then oB (a[d.toNat]?) fun k=>(if fits (((c.2.2.length:Int)-1)+1)then oB ((a.set d.toNat (k.1,k.2.1,(c.2.2++([(e,([]:List Int))]:Z6))))[d.toNat]?) fun o=>(oB (o.2.2[(((c.2.2.length:Int)-1)+1).toNat]?) fun x=>oB ((a.set d.toNat (k.1,k.2.1,(c.2.2++([(e,([]:List Int))]:Z6))))[d.toNat]?) fun ag=>if d.toNat=d.toNat then oB ((a.set d.toNat (k.1,k.2.1,(c.2.2++([(e,([]:List Int))]:Z6))))[d.toNat]?) fun aq=>(if d.toNat=d.toNat then if 0<=(((c.2.2.length:Int)-1)+1)/\(((c.2.2.length:Int)-1)+1)<(o.2.2.length:Int)then oB (o.2.2[(((c.2.2.length:Int)-1)+1).toNat]?) fun ac=>(if(((c.2.2.length:Int)-1)+1).toNat=(((c.2.2.length:Int)-1)+1).toNat then if room x.2.length ([i]:List Int).length 8 then if 0<=(((c.2.2.length:Int)-1)+1)/\(((c.2.2.length:Int)-1)+1)<(o.2.2.length:Int)then if(((c.2.2.length:Int)-1)+1).toNat=(((c.2.2.length:Int)-1)+1).toNat then oB (o.2.2[(((c.2.2.length:Int)-1)+1).toNat]?) fun I=>(some (r,((a.set d.toNat (k.1,k.2.1,(c.2.2++([(e,([]:List Int))]:Z6)))).modify d.toNat fun y=>(y.1,y.2.1,(o.2.2.set (((c.2.2.length:Int)-1)+1).toNat (I.1,(x.2++([i]:List Int))))))))else none else none else none else none)else none else none)else none)else none)else none else none else none)else if d.toNat=d.toNat then oB (c.2.2[((c.2.2.length:Int)-1).toNat]?) fun t=>(oB (a[d.toNat]?) fun am=>if d.toNat=d.toNat then oB (a[d.toNat]?) fun W=>(if d.toNat=d.toNat then if 0<=((c.2.2.length:Int)-1)/\((c.2.2.length:Int)-1)<(c.2.2.length:Int)then oB (c.2.2[((c.2.2.length:Int)-1).toNat]?) fun af=>(if((c.2.2.length:Int)-1).toNat=((c.2.2.length:Int)-1).toNat then if room t.2.length ([i]:List Int).length 8 then if 0<=((c.2.2.length:Int)-1)/\((c.2.2.length:Int)-1)<(c.2.2.length:Int)then if((c.2.2.length:Int)-1).toNat=((c.2.2.length:Int)-1).toNat then oB (c.2.2[((c.2.2.length:Int)-1).toNat]?) fun K=>(some (r,(a.modify d.toNat fun v=>(v.1,v.2.1,(c.2.2.set ((c.2.2.length:Int)-1).toNat (K.1,(t.2++([i]:List Int))))))))else none else none else none else none)else none else none)else none)else none)else none else none)else none)else none)
theorem jky :mK 122 ⟨⟨[.box 900000 0,pS,.agg [pS,pI],pI],[(900000,false,[.tre 850000 Y4 95,.tre 850001 Y6 167])]⟩,⟨[.tup []],[(900000,false,[.tre 850000 Y4 95,.tre 1 Y6 167])]⟩,c6A (i_Seg_put_m N)⟩:=
 mO (fC (jrl N) ja) func122 rfl N (.seq .no (.seq .no (.seq .no (.seq .no (.seq .no (.seq .no (.touch [.out 9 [(2,79,241,10),(1,88,3,0)]]))))))) _ (wr:=[33,34,70,71,91,92]) (rs:=[900000,850000,850001]) (dw:=[16,33,70])
noncomputable def jaS (N:Nat) (a:List Z3) (b:Unit):Option (List Z3):=jWO a
 
noncomputable def jjA (N:Nat):Model:=⟨⟨[.tre 800000 Y6 167,.clo 124 []],[]⟩,⟨[.tup [],.tre 800000 Y6 167],[]⟩,c2A (jaS N)⟩
theorem jtu :mK 123 (jjA N):=jW9
def jmK :Sh:=⟨.dead:: .dead:: .box 2 0:: .dead:: .box 4 0:: .box 5 0::dz 19 (.pv Y3::pI::pI::dz 32 []),[(2,false,[.pv (.sl .str),.pv Y14]),(4,false,[.nils,.nils]),(5,false,[.tre 700500 Y4 95,.tre 700501 Y6 167])]⟩
def jor :Sh:=⟨.dead:: .dead:: .box 2 0:: .dead:: .box 4 0:: .box 5 0:: .dead:: .box 7 0::dz 17 (.pv Y3::pI::pI::dz 4 (.pv Y17::pI::pI::dz 25 [])),[(2,false,[.pv (.sl .str),.pv Y14]),(4,false,[.nils,.nils]),(5,false,[.tre 700500 Y4 95,.tre 700501 Y6 167]),(7,false,[pI,.pv Y17,.pv Y13])]⟩
def jnj :Sh:=⟨.dead:: .dead:: .box 2 0:: .dead:: .box 4 0:: .box 5 0:: .dead:: .box 7 0:: .dead:: .box 9 0::dz 15 (.pv Y3::pI::pI::dz 4 (.pv Y17::pI::pI::dz 6 (.own 600041 Y15 162 true::pI::pI::dz 16 []))),[(2,false,[.pv (.sl .str),.pv Y14]),(4,false,[.nils,.nils]),(5,false,[.tre 700500 Y4 95,.tre 700501 Y6 167]),(7,false,[pI,.pv Y17,.pv Y13]),(9,false,[pS,pS])]⟩
noncomputable def jbT (c:List Z1) (c2:List Z4) (docs:List Z0):Option ((List Z0)×(List Z3)):=
 (oB (jaj N c c2) fun r=>bif !r then some (([]:List Z0),([]:List Z3))else oB (jbf N docs) fun r2=>bif !r2 then some (([]:List Z0),([]:List Z3))else oB (jbV N docs) fun r3=>iter (fun go (t25,t26,t27,c3,c4,s,s2)=>bif decide (t27<t26)then oB (idx t25 t27) fun e=>(iter (fun go2 (t252,t262,t272,t32,t33,t34,c5,c6,s3,s4,d,d2,d3)=>bif decide (t34<t33)then oB (idx t32 t34) fun e2=>(oB (jbw N c5 c6 e2.2) fun r4=>iter (fun go3 (t253,t263,t273,t322,t332,t342,t41,t42,t43,c7,c8,s5,s6,d4,d5,d6,f,f2)=>bif decide (t43<t42)then oB (idx t41 t43) fun e3=>(oB (i_Seg_put_m N f e3.1 e3.2 d4 s5 s6) fun r5=>if fits (t43+1)then go3 (t253,t263,t273,t322,t332,t342,t41,t42,(t43+1),c7,c8,r5.1,r5.2,d4,d5,d6,f,f2)else none)else if fits (t342+1)then go2 (t253,t263,t273,t322,t332,(t342+1),c7,c8,s5,s6,d4,d5,d6)else none) N (t252,t262,t272,t32,t33,t34,r4,(r4.length:Int),(0:Int),c5,c6,s3,s4,d,d2,d3,e2.1,e2.2))else if fits (t272+1)then go (t252,t262,(t272+1),c5,c6,s3,s4)else none) N (t25,t26,t27,e.2.1,(e.2.1.length:Int),(0:Int),c3,c4,s,s2,e.1,e.2.1,e.2.2))else oB (jaS N s2 ()) fun r6=>some (s,r6)) N (docs,(docs.length:Int),(0:Int),c,c2,r3,([]:List Z3)))
theorem jqC :mK 51 (bX [.agg [.pv (.sl .str),.pv Y14],.pv Y3] [.agg [.own 1 Y4 95 true,.own 2 Y6 167 true]] (c3A (jbT N))):=
 mO (fC (jdX N) (fC (jjU N) (fC (joC N) (fC (jgO N) (fC (jky N) (fC (jtu N) ja)))))) func51 rfl N (.seq .no (.seq .no (.seq .no (.seq (.seq .no (.block (.loop jmK (.seq .no (.seq .no (.seq (.block (.seq .no (.seq .no (.block (.loop jor (.seq .no (.seq .no (.seq (.block (.seq .no (.seq .no (.block (.loop jnj .no))))) .no)))))))) .no)))))) .no)))) _ (wr:=[23]) (dw:=[22,23])
def jtB :Sh:=⟨.pv Y19:: .pv Y19::dz 10 (pI::pI::dz 12 []),[]⟩
def jbX (b:List Int) (c:List Int):Z10:=
 (bif !decide ((b.length:Int)=(c.length:Int))then some false else iter (fun i (d,f,e,a)=>bif decide (a<e)then oB (idx d a) fun j=>(oB (idx f a) fun h=>bif !decide (j=h)then some false else if fits (a+1)then i (d,f,e,(a+1))else none)else some true) N (b,c,(b.length:Int),(0:Int)))
theorem jqi :mK 318 (bX [.pv Y19,.pv Y19] [pB] (c2A (jbX N))):=
 mO ja func318 rfl N (.seq .no (.seq .no (.seq (.seq .no (.block (.loop jtB .no))) .no))) _
def jcp (e:Int) (c:List Int) (d:Int) (b:List Int):Z10:=
 (bif decide (e=d)then oB (jbX N c b) fun a=>(some a)else some false)
theorem jth :mK 270 (bX [.agg [pI,.pv Y19],.agg [pI,.pv Y19]] [pB] (c4A (jcp N))):=
 mO (fC (jqi N) ja) func270 rfl N .no _
def jlX :Sh:=⟨.dead:: .pv Y11:: .clo 270 []::dz 12 (.pv Y11::pI::pI::dz 14 []),[]⟩
def jb6 (b:Z6) (d:Z6) (n:Unit):Z10:=
 (bif !decide ((b.length:Int)=(d.length:Int))then some false else iter (fun k (i,m,f,h,a)=>bif decide (a<h)then oB (idx f a) fun e=>(oB (idx i a) fun c=>oB (jcp N e.1 e.2 c.1 c.2) fun j=>bif !j then some false else if fits (a+1)then k (i,(),f,h,(a+1))else none)else some true) N (d,(),b,(b.length:Int),(0:Int)))
theorem jnG :mK 269 (bX [.pv Y11,.pv Y11,.clo 270 []] [pB] (c3A (jb6 N))):=
 mO (fC (jth N) ja) func269 rfl N (.seq .no (.seq .no (.seq (.seq .no (.block (.loop jlX .no))) .no))) _
def jcz (h:List UInt8) (c:List UInt8) (e:Z6) (d:List UInt8) (b:List UInt8) (f:Z6):Z10:=
 (bif decide (h=d)then bif decide (c=b)then oB (jb6 N e f ()) fun a=>(some a)else(some false)else some false)
theorem jp4 :mK 219 (bX [.agg [pS,pS,.pv Y11],.agg [pS,pS,.pv Y11]] [pB] (c6A (jcz N))):=
 mO (fC (jnG N) ja) func219 rfl N .no _
def jlD :Sh:=⟨.dead:: .pv Y5:: .clo 219 []::dz 12 (.pv Y5::pI::pI::dz 14 []),[]⟩
def jcn (d:List Z3) (e:List Z3) (n:Unit):Z10:=
 (bif !decide ((d.length:Int)=(e.length:Int))then some false else iter (fun k (i,m,f,h,a)=>bif decide (a<h)then oB (idx f a) fun c=>(oB (idx i a) fun b=>oB (jcz N c.1 c.2.1 c.2.2 b.1 b.2.1 b.2.2) fun j=>bif !j then some false else if fits (a+1)then k (i,(),f,h,(a+1))else none)else some true) N (e,(),d,(d.length:Int),(0:Int)))
theorem jsa :mK 218 (bX [.pv Y5,.pv Y5,.clo 219 []] [pB] (c3A (jcn N))):=
 mO (fC (jp4 N) ja) func218 rfl N (.seq .no (.seq .no (.seq (.seq .no (.block (.loop jlD .no))) .no))) _
noncomputable def jbN (b:List Z1) (a:List Z4) (c:List Z0) (e:List Z3):Z10:=
 (oB (jaj N b a) fun d=>bif !d then some false else oB (jbf N c) fun i=>bif !i then some false else oB (jbT N b a c) fun f=>oB (jcn N f.2 e ()) fun h=>some h)
theorem joa :mK 149 (bX [.agg [.pv (.sl .str),.pv Y14],.agg [.pv Y3,.pv Y5]] [pB] (c4A (jbN N))):=
 mO (fC (jdX N) (fC (jjU N) (fC (jqC N) (fC (jsa N) ja)))) func149 rfl N .no _
def jDT :Sh:=⟨.pv Y19::dz 4 (.pv Y19::pI::pI::dz 24 []),[]⟩
def jx1 (e:List Int):Z10:=
 (iter (fun f (b,c,d,a)=>bif decide (a<d)then oB (idx c a) fun h=>(oB (jm N h 0 999999999) fun i=>bif !i then some false else bif decide ((0:Int)<a)then if fits (a-1)then oB (idx b (a-1)) fun j=>(bif decide (h<=j)then some false else if fits (a+1)then f (b,c,d,(a+1))else none)else none else if fits (a+1)then f (b,c,d,(a+1))else none)else some (decide ((b.length:Int)<=60))) N (e,e,(e.length:Int),(0:Int)))
theorem jAN :mK 150 (bX [.pv Y19] [pB] (c1A (jx1 N))):=
 mO (fC (jY N) ja) func150 rfl N (.seq .no (.seq (.seq .no (.block (.loop jDT .no))) .no)) _
def jqv :Sh:=⟨.dead::pI:: .dead:: .dead:: .box 4 0::dz 6 (.pv Y3::pI::pI::dz 10 []),[(4,false,[pI,.nils,.nils])]⟩
def i_Seg_doc_m (f:(List Z0)×(List Z3)) (i:Int):Option (Int×Z7×Z9×Bool):=
 (iter (fun h (d,c,e,b,k)=>bif decide (b<e)then oB (idx c b) fun a=>(bif decide (a.1=d)then some (a.1,a.2.1,a.2.2,true)else if fits (b+1)then h (d,c,e,(b+1),k)else none)else some (0,([]:Z5),([]:Z8),false)) N (i,f.1,(f.1.length:Int),(0:Int),(0:Int)))
theorem jlU :mK 151 (bX [.ptr Y2,pI] [.tup [.agg [pI,.pv Y17,.pv Y13],pB]] (c2A (i_Seg_doc_m N))):=
 mO ja func151 rfl N (.seq .no (.seq (.seq .no (.block (.loop jqv .no))) .no)) _
def jIP :Sh:=⟨.pv Y19::pI::dz 5 (pI::pI::dz 10 []),[]⟩
def k_slices_Index_484_m (e:List Int) (i:Int):Z16:=
 (iter (fun f (b,d,c,a)=>bif decide (a<c)then oB (idx b a) fun h=>(bif decide (d=h)then some a else if fits (a+1)then f (b,d,c,(a+1))else none)else some (-1)) N (e,i,(e.length:Int),(0:Int)))
theorem jJu :mK 271 (bX [.pv Y19,pI] [pI] (c2A (k_slices_Index_484_m N))):=
 mO ja func271 rfl N (.seq .no (.seq (.seq .no (.block (.loop jIP .no))) .no)) _
def k_slices_Contains_735_m (c:List Int) (b:Int):Z10:=
 (oB (k_slices_Index_484_m N c b) fun a=>some (decide ((0:Int)<=a)))
theorem jIT :mK 220 (bX [.pv Y19,pI] [pB] (c2A (k_slices_Contains_735_m N))):=
 mO (fC (jJu N) ja) func220 rfl N .no _
def jIi :Sh:=⟨.dead:: .box 1 0:: .dead:: .own 600003 Y4 95 false::dz 5 (.pv Y3::pI::pI::dz 15 []),[(1,false,[.pv Y3,.pv Y5,.pv Y19])]⟩
def i_Live_alive_m (f:List Z0) (m:List Z3) (n:List Int):Z14:=
 (iter (fun i (b,c,h,a,j,k,e)=>bif decide (a<h)then oB (idx c a) fun d=>(oB (k_slices_Contains_735_m N e d.1) fun l=>bif !l then if room b.length ([d]:List Z0).length 56 then if fits (a+1)then i ((b++([d]:List Z0)),c,h,(a+1),j,k,e)else none else none else if fits (a+1)then i (b,c,h,(a+1),j,k,e)else none)else some b) N (([]:List Z0),f,(f.length:Int),(0:Int),f,m,n))
theorem jH4 :mK 152 (bX [.agg [.pv Y3,.pv Y5,.pv Y19]] [.own 1 Y4 95 false] (c3A (i_Live_alive_m N))):=
 mO (fC (jIT N) ja) func152 rfl N (.seq .no (.seq .no (.seq (.seq .no (.block (.loop jIi .no))) .no))) _
def jIO :Sh:=⟨dz 3 (.box 3 0::dz 17 (.pv Y19::pI::pI::dz 16 [])),[(3,true,[.pv Y3,.pv Y5,.pv Y19])]⟩
noncomputable def i_liveOk_m (n:List Z1) (m:List Z4) (i:List Z0) (e:List Z3) (a:List Int):Z10:=
 (oB (jbN N n m i e) fun q=>bif !q then some false else oB (jx1 N a) fun t=>bif !t then some false else iter (fun k (j,h,b,d,c,f)=>bif decide (b<h)then oB (idx j b) fun l=>(oB (i_Seg_doc_m N (d,c) l) fun r=>bif !r.2.2.2 then some false else if fits (b+1)then k (j,h,(b+1),d,c,f)else none)else oB (i_Live_alive_m N d c f) fun p=>some (decide ((0:Int)<p.length))) N (a,(a.length:Int),(0:Int),i,e,a))
theorem jJD :mK 72 (bX [.agg [.pv (.sl .str),.pv Y14],.agg [.pv Y3,.pv Y5,.pv Y19]] [pB] (c5A (i_liveOk_m N))):=
 mO (fC (joa N) (fC (jAN N) (fC (jlU N) (fC (jH4 N) ja)))) func72 rfl N (.seq .no (.seq .no (.seq (.seq .no (.block (.loop jIO .no))) .no))) _
def jl0 :Sh:=⟨.pv (.int .u64):: .dead::pI::dz 22 [],[]⟩
def k_math_bits_Len64_m (N:Nat) (e:Int):Z16:=
 (meet (fun(a:Int×Int)=>match a with|(b,f)=>meet (fun(a:Int×Int)=>match a with|(d,c)=>meet (fun(a:Int×Int)=>match a with|(m,i)=>oB (idx ([0,1,2,2,3,3,3,3,4,4,4,4,4,4,4,4,5,5,5,5,5,5,5,5,5,5,5,5,5,5,5,5,6,6,6,6,6,6,6,6,6,6,6,6,6,6,6,6,6,6,6,6,6,6,6,6,6,6,6,6,6,6,6,6,7,7,7,7,7,7,7,7,7,7,7,7,7,7,7,7,7,7,7,7,7,7,7,7,7,7,7,7,7,7,7,7,7,7,7,7,7,7,7,7,7,7,7,7,7,7,7,7,7,7,7,7,7,7,7,7,7,7,7,7,7,7,7,7,8,8,8,8,8,8,8,8,8,8,8,8,8,8,8,8,8,8,8,8,8,8,8,8,8,8,8,8,8,8,8,8,8,8,8,8,8,8,8,8,8,8,8,8,8,8,8,8,8,8,8,8,8,8,8,8,8,8,8,8,8,8,8,8,8,8,8,8,8,8,8,8,8,8,8,8,8,8,8,8,8,8,8,8,8,8,8,8,8,8,8,8,8,8,8,8,8,8,8,8,8,8,8,8,8,8,8,8,8,8,8,8,8,8,8,8,8,8,8,8,8,8,8,8,8,8,8,8]:List UInt8) (IntKind.u8.wrap m)) fun j=>if fits (i+(IntKind.i64.wrap (j.toNat:Int)))then some (i+(IntKind.i64.wrap (j.toNat:Int)))else none) fun h=>bif decide ((256:Int)<=d)then if 0<=(8:Int)then if fits (c+8)then h ((d.fdiv (2^(min (8:Int).toNat (IntKind.bits .u64)))),(c+8))else none else none else h (d,c)) fun l=>bif decide ((65536:Int)<=b)then if 0<=(16:Int)then if fits (f+16)then l ((b.fdiv (2^(min (16:Int).toNat (IntKind.bits .u64)))),(f+16))else none else none else l (b,f)) fun k=>bif decide ((4294967296:Int)<=e)then if 0<=(32:Int)then k ((e.fdiv (2^(min (32:Int).toNat (IntKind.bits .u64)))),32)else none else k (e,0))
theorem jrK :mK 256 (bX [.pv (.int .u64)] [pI] (c1A (k_math_bits_Len64_m N))):=
 mO ja func256 rfl N (.seq .no (.meet jl0 .no (.meet jl0 .no (.meet jl0 .no .no)))) _
def k_math_bits_Len_m (b:Int):Z16:=
 (oB (k_math_bits_Len64_m N b) fun a=>some a)
theorem jda :mK 203 (bX [.pv (.int .u64)] [pI] (c1A (k_math_bits_Len_m N))):=
 mO (fC (jrK N) ja) func203 rfl N .no _
def k_cmp_isNaN_538_m (N:Nat) (a:Int):Z10:=
 (some (!decide (a=a)))
theorem joK :mK 222 (bX [pI] [pB] (c1A (k_cmp_isNaN_538_m N))):=
 mO ja func222 rfl N .no _
def k_cmp_Compare_992_m (a:Int) (b:Int):Z16:=
 (oB (k_cmp_isNaN_538_m N a) fun d=>oB (k_cmp_isNaN_538_m N b) fun c=>bif d then bif c then some 0 else(some (-1))else bif c then some 1 else bif decide (a<b)then some (-1)else bif decide (b<a)then some 1 else some 0)
theorem jpP :mK 156 (bX [pI,pI] [pI] (c2A (k_cmp_Compare_992_m N))):=
 mO (fC (joK N) ja) func156 rfl N .no _
def i_allAlive_1_m (c:Int) (e:Z5) (f:Z8) (b:Int) (d:Z5) (h:Z8):Z16:=
 (oB (k_cmp_Compare_992_m N c b) fun a=>some a)
theorem jHC :mK 155 (bX [.agg [pI,.pv Y17,.pv Y13],.agg [pI,.pv Y17,.pv Y13]] [pI] (c6A (i_allAlive_1_m N))):=
 mO (fC (jpP N) ja) func155 rfl N .no _
def k_slices_nextPowerOfTwo_m (b:Int):Z16:=
 (oB (k_math_bits_Len_m N (IntKind.u64.wrap b)) fun a=>if 0<=a then some (IntKind.u64.wrap ((1:Int)*2^(min a.toNat (IntKind.bits .u64))))else none)
theorem jhv :mK 308 (bX [pI] [.pv (.int .u64)] (c1A (k_slices_nextPowerOfTwo_m N))):=
 mO (fC (jda N) ja) func308 rfl N .no _
def k__slices_xorshift_Next_m (N:Nat) (a:Int):Option (Int×Int):=
 (if 0<=(13:Int)then if 0<=(7:Int)then if 0<=(17:Int)then some ((bitsI .xor .u64 (bitsI .xor .u64 (bitsI .xor .u64 a (IntKind.u64.wrap (a*2^(min (13:Int).toNat (IntKind.bits .u64))))) ((bitsI .xor .u64 a (IntKind.u64.wrap (a*2^(min (13:Int).toNat (IntKind.bits .u64))))).fdiv (2^(min (7:Int).toNat (IntKind.bits .u64))))) (IntKind.u64.wrap ((bitsI .xor .u64 (bitsI .xor .u64 a (IntKind.u64.wrap (a*2^(min (13:Int).toNat (IntKind.bits .u64))))) ((bitsI .xor .u64 a (IntKind.u64.wrap (a*2^(min (13:Int).toNat (IntKind.bits .u64))))).fdiv (2^(min (7:Int).toNat (IntKind.bits .u64)))))*2^(min (17:Int).toNat (IntKind.bits .u64))))),(bitsI .xor .u64 (bitsI .xor .u64 (bitsI .xor .u64 a (IntKind.u64.wrap (a*2^(min (13:Int).toNat (IntKind.bits .u64))))) ((bitsI .xor .u64 a (IntKind.u64.wrap (a*2^(min (13:Int).toNat (IntKind.bits .u64))))).fdiv (2^(min (7:Int).toNat (IntKind.bits .u64))))) (IntKind.u64.wrap ((bitsI .xor .u64 (bitsI .xor .u64 a (IntKind.u64.wrap (a*2^(min (13:Int).toNat (IntKind.bits .u64))))) ((bitsI .xor .u64 a (IntKind.u64.wrap (a*2^(min (13:Int).toNat (IntKind.bits .u64))))).fdiv (2^(min (7:Int).toNat (IntKind.bits .u64)))))*2^(min (17:Int).toNat (IntKind.bits .u64))))))else none else none else none)
theorem jet :mK 309 ⟨⟨[.box 900000 0],[(900000,false,[.pv (.int .u64)])]⟩,⟨[.pv (.int .u64)],[(900000,false,[.pv (.int .u64)])]⟩,c1A (k__slices_xorshift_Next_m N)⟩:=
 mO ja func309 rfl N .no _ (rs:=[900000])
section
variable {α γ ρ : Type} (c : γ -> α -> α -> Option Int)
def swpG (d:List α) (i j:Int) (k:List α->Option ρ):Option ρ:=
 if 0<=j/\j<(d.length:Int)then oB (d[j.toNat]?) fun e=>if 0<=i/\i<(d.length:Int)then oB (d[i.toNat]?) fun e2=>
  if 0<=i/\i<(d.length:Int)then oB (d[i.toNat]?) fun e3=>if 0<=j/\j<((d.set i.toNat e).length:Int)then oB ((d.set i.toNat e)[j.toNat]?) fun e4=>k ((d.set i.toNat e).set j.toNat e2)
  else none else none else none else none
def cmpG (ks:γ) (d:List α) (i j:Int) (k:Int->Option ρ):Option ρ:=
 if 0<=i/\i<(d.length:Int)then oB (d[i.toNat]?) fun e=>if 0<=j/\j<(d.length:Int)then oB (d[j.toNat]?) fun e2=>oB (c ks e e2) k else none else none
def cmpP (ks:γ) (d:List α) (j:Int) (k:Int->Option ρ):Option ρ:=
 if 0<=j/\j<(d.length:Int)then oB (d[j.toNat]?) fun e=>if fits (j-1)then if 0<=(j-1)/\(j-1)<(d.length:Int)then oB (d[(j-1).toNat]?) fun e2=>oB (c ks e e2) k else none else none else none
def swpP (d:List α) (j:Int) (k:List α->Option ρ):Option ρ:=if fits (j-1)then if fits (j-1)then swpG d j (j-1) k else none else none
def insG (N:Nat) (d:List α) (a b:Int) (ks:γ):Option (List α):=
 if fits (a+1)then iter (fun go (g:List α×Int×Int×γ×Int)=>
  match g with
  |(d2,a2,b2,ks2,i)=>
  bif decide (i<b2)then
   iter (fun go2 (g:List α×Int×Int×γ×Int×Int)=>
    match g with
    |(d3,a3,b3,ks3,i2,j)=>
    bif decide (a3<j)then cmpP c ks3 d3 j fun r=>bif decide (r<0)then swpP d3 j fun d=>if fits (j-1)then go2 (d,a3,b3,ks3,i2,j-1)else none
     else if fits (i2+1)then go (d3,a3,b3,ks3,i2+1)else none
    else if fits (i2+1)then go (d3,a3,b3,ks3,i2+1)else none) N (d2,a2,b2,ks2,i,i)
  else some d2) N (d,a,b,ks,a+1)else none
def siftG (N:Nat) (data:List α) (lo:Int) (hi:Int) (first:Int) (cmp:γ):Option ((List α)):=
 (iter (fun go (g:(List α)×Int×Int×γ×Int)=>
   match g with
   |(data2,hi2,first2,cmp2,root)=>
   (if fits (2*root)then(if fits ((2*root)+1)then(bif(decide (hi2<=((2*root)+1)))then
      (some data2)
      else
      (meet (fun(g:(List α)×Int×Int×γ×Int×Int)=>
        match g with
        |(data3,hi3,first3,cmp3,root2,child)=>
        (if fits (first3+root2)then(if 0<=(first3+root2)/\(first3+root2)<(data3.length:Int)then
          (oB (data3[(first3+root2).toNat]?) fun e3=>
           (if fits (first3+child)then(if 0<=(first3+child)/\(first3+child)<(data3.length:Int)then
             (oB (data3[(first3+child).toNat]?) fun e4=>
              (oB (c cmp3 e3 e4) fun r2=>
               (bif(!(decide (r2<0)))then
                (some data3)
                else
                (if fits (first3+root2)then(if fits (first3+child)then(if fits (first3+child)then(if 0<=(first3+child)/\(first3+child)<(data3.length:Int)then
                    (oB (data3[(first3+child).toNat]?) fun e5=>
                     (if fits (first3+root2)then(if 0<=(first3+root2)/\(first3+root2)<(data3.length:Int)then
                       (oB (data3[(first3+root2).toNat]?) fun e6=>
                        (if 0<=(first3+root2)/\(first3+root2)<(data3.length:Int)then
                         (oB (data3[(first3+root2).toNat]?) fun e7=>
                          (if 0<=(first3+child)/\(first3+child)<((data3.set (first3+root2).toNat e5).length:Int)then
                           (oB ((data3.set (first3+root2).toNat e5)[(first3+child).toNat]?) fun e8=>
                            (go (((data3.set (first3+root2).toNat e5).set (first3+child).toNat e6),hi3,first3,cmp3,child)))
                           else none))
                         else none))
                       else none)else none))
                    else none)else none)else none)else none))))
             else none)else none))
          else none)else none)) fun J=>
       (if fits (((2*root)+1)+1)then(bif(decide ((((2*root)+1)+1)<hi2))then
         (if fits (first2+((2*root)+1))then(if 0<=(first2+((2*root)+1))/\(first2+((2*root)+1))<(data2.length:Int)then
           (oB (data2[(first2+((2*root)+1)).toNat]?) fun e=>
            (if fits (first2+((2*root)+1))then(if fits ((first2+((2*root)+1))+1)then(if 0<=((first2+((2*root)+1))+1)/\((first2+((2*root)+1))+1)<(data2.length:Int)then
               (oB (data2[((first2+((2*root)+1))+1).toNat]?) fun e2=>
                (oB (c cmp2 e e2) fun r=>
                 (bif(decide (r<0))then
                  (if fits (((2*root)+1)+1)then(J (data2,hi2,first2,cmp2,root,(((2*root)+1)+1)))else none)
                  else
                  (J (data2,hi2,first2,cmp2,root,((2*root)+1))))))
               else none)else none)else none))
           else none)else none)
         else
         (J (data2,hi2,first2,cmp2,root,((2*root)+1))))else none)))else none)else none)) N (data,hi,first,cmp,lo))
def heapG (N:Nat) (data:List α) (a:Int) (b:Int) (cmp:γ):Option ((List α)):=
 (if fits (b-a)then(if fits ((b-a)-1)then(if 2≠0 then
    (if fits (((b-a)-1).tdiv 2)then(iter (fun go (g:(List α)×γ×Int×Int×Int×Int)=>
       match g with
       |(data2,cmp2,first,lo,hi,i)=>
       (bif(decide ((0:Int)<=i))then
        (oB (siftG c N data2 i hi first cmp2) fun r=>
         (if fits (i-1)then(go (r,cmp2,first,lo,hi,(i-1)))else none))
        else
        (if fits (hi-1)then(iter (fun go2 (g:(List α)×γ×Int×Int×Int)=>
           match g with
           |(data3,cmp3,first2,lo2,i2)=>
           (bif(decide ((0:Int)<=i2))then
            (if fits (first2+i2)then(if fits (first2+i2)then swpG data3 first2 (first2+i2) fun d=>(oB (siftG c N d lo2 i2 first2 cmp3) fun r2=>
                       (if fits (i2-1)then(go2 (r2,cmp3,first2,lo2,(i2-1)))else none))else none)else none)
            else
            (some data3))) N (data2,cmp2,first,lo,(hi-1)))else none))) N (data,cmp,a,0,(b-a),(((b-a)-1).tdiv 2)))else none)
    else none)else none)else none)
def breakG (N:Nat) (data:List α) (a:Int) (b:Int) (cmp:γ):Option (List α):=
 (if fits (b-a)then(bif(decide ((8:Int)<=(b-a)))then
   (oB (k_slices_nextPowerOfTwo_m N (b-a)) fun r=>
    (if 4≠0 then
     (if fits ((b-a).tdiv 4)then(if fits (((b-a).tdiv 4)*2)then(if fits (a+(((b-a).tdiv 4)*2))then(if fits ((a+(((b-a).tdiv 4)*2))-1)then(iter (fun go (g:(List α)×Int×Int×Int×Int×Int)=>
           match g with
           |(data2,a2,length,modulus,idx0,random)=>
           (if 4≠0 then
            (if fits (length.tdiv 4)then(if fits ((length.tdiv 4)*2)then(if fits (a2+((length.tdiv 4)*2))then(if fits ((a2+((length.tdiv 4)*2))+1)then(bif(decide (idx0<=((a2+((length.tdiv 4)*2))+1)))then
                 (oB (k__slices_xorshift_Next_m N random) fun r2=>
                  (meet (fun(g:(List α)×Int×Int×Int×Int×Int×Int)=>
                    match g with
                    |(data3,a3,length2,modulus2,idx02,other,random2)=>
                    (if fits (a3+other)then(if fits (a3+other)then swpG data3 idx02 (a3+other) fun d=>(if fits (idx02+1)then(go (d,a3,length2,modulus2,(idx02+1),random2))else none)else none)else none)) fun J=>
                   (bif(decide (length<=(IntKind.i64.wrap (bitsI .and .u64 r2.1 (IntKind.u64.wrap (modulus-1))))))then
                    (if fits ((IntKind.i64.wrap (bitsI .and .u64 r2.1 (IntKind.u64.wrap (modulus-1))))-length)then(J (data2,a2,length,modulus,idx0,((IntKind.i64.wrap (bitsI .and .u64 r2.1 (IntKind.u64.wrap (modulus-1))))-length),r2.2))else none)
                    else
                    (J (data2,a2,length,modulus,idx0,(IntKind.i64.wrap (bitsI .and .u64 r2.1 (IntKind.u64.wrap (modulus-1)))),r2.2)))))
                 else
                 (some data2))else none)else none)else none)else none)
            else none)) N (data,a,(b-a),r,((a+(((b-a).tdiv 4)*2))-1),(IntKind.u64.wrap (b-a))))else none)else none)else none)else none)
     else none))
   else
   (some data))else none)
def order2G (N:Nat) (data:List α) (a:Int) (b:Int) (cmp:γ) (b2:Int):Option (Int×Int×(List α)×Int):=
 cmpG c cmp data b a fun r=>(bif(decide (r<0))then(if fits (b2+1)then(some (b,a,data,(b2+1)))else none)else(some (a,b,data,b2)))
def medianG (N:Nat) (data:List α) (a:Int) (b:Int) (c0:Int) (cmp:γ) (b2:Int):Option (Int×(List α)×Int):=
 (oB (order2G c N data a b cmp b2) fun r=>
  (oB (order2G c N r.2.2.1 r.2.1 c0 cmp r.2.2.2) fun r2=>
   (oB (order2G c N r2.2.2.1 r.1 r2.1 cmp r2.2.2.2) fun r3=>
    (some (r3.2.1,r3.2.2.1,r3.2.2.2)))))
def medianAdjacentG (N:Nat) (data:List α) (a:Int) (cmp:γ) (b:Int):Option (Int×(List α)×Int):=
 (if fits (a-1)then(if fits (a+1)then(oB (medianG c N data (a-1) a (a+1) cmp b) fun r=>
    (some (r.1,r.2.1,r.2.2)))else none)else none)
def choosePivotG (N:Nat) (data:List α) (a:Int) (b:Int) (cmp:γ):Option (Int×Int×(List α)):=
 (if fits (b-a)then(if 4≠0 then
   (if fits ((b-a).tdiv 4)then(if fits (((b-a).tdiv 4)*1)then(if fits (a+(((b-a).tdiv 4)*1))then(if 4≠0 then
       (if fits ((b-a).tdiv 4)then(if fits (((b-a).tdiv 4)*2)then(if fits (a+(((b-a).tdiv 4)*2))then(if 4≠0 then
           (if fits ((b-a).tdiv 4)then(if fits (((b-a).tdiv 4)*3)then(if fits (a+(((b-a).tdiv 4)*3))then(meet (fun(g:(List α)×Int×Int)=>
                match g with
                |(data3,j2,swaps2)=>
                (bif(decide (swaps2=0))then
                 (some (j2,1,data3))
                 else
                 (bif(decide (swaps2=12))then
                  (some (j2,2,data3))
                  else
                  (some (j2,0,data3))))) fun J=>
               (bif(decide ((8:Int)<=(b-a)))then
                (meet (fun(g:(List α)×γ×Int×Int×Int×Int)=>
                  match g with
                  |(data2,cmp2,i,j,k,swaps)=>
                  (oB (medianG c N data2 i j k cmp2 swaps) fun r4=>
                   (J (r4.2.1,r4.1,r4.2.2)))) fun J2=>
                 (bif(decide ((50:Int)<=(b-a)))then
                  (oB (medianAdjacentG c N data (a+(((b-a).tdiv 4)*1)) cmp 0) fun r=>
                   (oB (medianAdjacentG c N r.2.1 (a+(((b-a).tdiv 4)*2)) cmp r.2.2) fun r2=>
                    (oB (medianAdjacentG c N r2.2.1 (a+(((b-a).tdiv 4)*3)) cmp r2.2.2) fun r3=>
                     (J2 (r3.2.1,cmp,r.1,r2.1,r3.1,r3.2.2)))))
                  else
                  (J2 (data,cmp,(a+(((b-a).tdiv 4)*1)),(a+(((b-a).tdiv 4)*2)),(a+(((b-a).tdiv 4)*3)),0))))
                else
                (J (data,(a+(((b-a).tdiv 4)*2)),0))))else none)else none)else none)
           else none)else none)else none)else none)
       else none)else none)else none)else none)
   else none)else none)
def reverseRangeG (N:Nat) (data:List α) (a:Int) (b:Int) (cmp:γ):Option ((List α)):=
 (if fits (b-1)then(iter (fun go (g:(List α)×Int×Int)=>
    match g with
    |(data2,i,j)=>
    (bif(decide (i<j))then swpG data2 i j fun d=>(if fits (i+1)then(if fits (j-1)then(go (d,(i+1),(j-1)))else none)else none)
     else
     (some data2))) N (data,a,(b-1)))else none)
def shDown (k:(List α×Int×Int×γ×Int×Int)->Option ρ) (N:Nat) (g:List α×Int×Int×γ×Int×Int×Int):Option ρ:=
 iter (fun go3 (g:(List α)×Int×Int×γ×Int×Int×Int)=>
  match g with
  |(d,a,b,ks,i,j,j4)=>
  bif decide ((1:Int)<=j4)then cmpP c ks d j4 fun r=>bif !decide (r<0)then k (d,a,b,ks,i,j)else swpP d j4 fun d'=>if fits (j4-1)then go3 (d',a,b,ks,i,j,j4-1)else none
  else k (d,a,b,ks,i,j)) N g
def shUp (k:(List α×Int×Int×γ×Int×Int)->Option ρ) (N:Nat) (g:List α×Int×Int×γ×Int×Int×Int):Option ρ:=
 iter (fun go4 (g:(List α)×Int×Int×γ×Int×Int×Int)=>
  match g with
  |(d,a,b,ks,i,j,j4)=>
  bif decide (j4<b)then cmpP c ks d j4 fun r=>bif !decide (r<0)then(if fits (j+1)then k (d,a,b,ks,i,j+1)else none)else swpP d j4 fun d'=>if fits (j4+1)then go4 (d',a,b,ks,i,j,j4+1)else none
  else if fits (j+1)then k (d,a,b,ks,i,j+1)else none) N g
def pisX (N:Nat) (go:(List α×Int×Int×γ×Int×Int)->Option (Bool×List α)) (d:List α) (a b:Int) (ks:γ) (i j:Int):Option (Bool×List α):=
 bif decide (i=b)then some (true,d)else if fits (b-a)then bif decide ((b-a)<50)then some (false,d)else
  swpP d i fun d'=>meet (fun(g:List α×Int×Int×γ×Int×Int)=>
   match g with
   |(d5,a5,b5,ks5,i4,j5)=>
   if fits (b5-i4)then bif decide ((2:Int)<=(b5-i4))then if fits (i4+1)then shUp c go N (d5,a5,b5,ks5,i4,j5,i4+1)else none
    else(if fits (j5+1)then go (d5,a5,b5,ks5,i4,j5+1)else none)else none) fun J=>
   if fits (i-a)then bif decide ((2:Int)<=(i-a))then if fits (i-1)then shDown c J N (d',a,b,ks,i,j,i-1)else none else J (d',a,b,ks,i,j)else none
 else none
def pisG (N:Nat) (d:List α) (a b:Int) (ks:γ):Option (Bool×List α):=
 if fits (a+1)then iter (fun go (g:List α×Int×Int×γ×Int×Int)=>
  match g with
  |(d2,a2,b2,ks2,i,j)=>
  bif decide (j<5)then
   iter (fun go2 (g:List α×Int×Int×γ×Int×Int)=>
    match g with
    |(d3,a3,b3,ks3,i2,j2)=>
    bif decide (i2<b3)then cmpP c ks3 d3 i2 fun r=>bif !decide (r<0)then(if fits (i2+1)then go2 (d3,a3,b3,ks3,i2+1,j2)else none)else pisX c N go d3 a3 b3 ks3 i2 j2
    else pisX c N go d3 a3 b3 ks3 i2 j2) N (d2,a2,b2,ks2,i,j)
  else some (false,d2)) N (d,a,b,ks,a+1,0)else none
def partE (go3:(List α×Int×γ×Int×Int)->Option (Int×Bool×List α)) (fl:Bool) (g:List α×Int×γ×Int×Int):Option (Int×Bool×List α):=
 match g with
 |(d,a,ks,i,j)=>
 bif decide (j<i)then swpG d j a fun d'=>some (j,fl,d')else swpG d i j fun d'=>if fits (i+1)then if fits (j-1)then go3 (d',a,ks,i+1,j-1)else none else none
def partD (k:(List α×Int×γ×Int×Int)->Option ρ) (N:Nat) (g:List α×Int×γ×Int×Int):Option ρ:=
 iter (fun go (g:List α×Int×γ×Int×Int)=>
  match g with
  |(d,a,ks,i,j)=>
  bif decide (i<=j)then cmpG c ks d j a fun r=>bif !decide (r<0)then(if fits (j-1)then go (d,a,ks,i,j-1)else none)else k (d,a,ks,i,j)
  else k (d,a,ks,i,j)) N g
def partU (k:(List α×Int×γ×Int×Int)->Option ρ) (N:Nat) (g:List α×Int×γ×Int×Int):Option ρ:=
 iter (fun go (g:List α×Int×γ×Int×Int)=>
  match g with
  |(d,a,ks,i,j)=>
  bif decide (i<=j)then cmpG c ks d i a fun r=>bif decide (r<0)then(if fits (i+1)then go (d,a,ks,i+1,j)else none)else k (d,a,ks,i,j)
  else k (d,a,ks,i,j)) N g
def partG (N:Nat) (d:List α) (a b p:Int) (ks:γ):Option (Int×Bool×List α):=
 swpG d a p fun d=>if fits (a+1)then if fits (b-1)then
  partU c (fun g=>partD c (partE (fun g=>iter (fun go3 g=>partU c (fun g=>partD c (partE go3 false) N g) N g) N g) true) N g) N (d,a,ks,a+1,b-1)
 else none else none
def peqE (go:(List α×Int×γ×Int×Int)->Option (Int×List α)) (g:List α×Int×γ×Int×Int):Option (Int×List α):=
 match g with
 |(d,a,ks,i,j)=>
 bif decide (j<i)then some (i,d)else swpG d i j fun d'=>if fits (i+1)then if fits (j-1)then go (d',a,ks,i+1,j-1)else none else none
def peqD (k:(List α×Int×γ×Int×Int)->Option ρ) (N:Nat) (g:List α×Int×γ×Int×Int):Option ρ:=
 iter (fun go (g:List α×Int×γ×Int×Int)=>
  match g with
  |(d,a,ks,i,j)=>
  bif decide (i<=j)then cmpG c ks d a j fun r=>bif decide (r<0)then(if fits (j-1)then go (d,a,ks,i,j-1)else none)else k (d,a,ks,i,j)
  else k (d,a,ks,i,j)) N g
def peqU (k:(List α×Int×γ×Int×Int)->Option ρ) (N:Nat) (g:List α×Int×γ×Int×Int):Option ρ:=
 iter (fun go (g:List α×Int×γ×Int×Int)=>
  match g with
  |(d,a,ks,i,j)=>
  bif decide (i<=j)then cmpG c ks d a i fun r=>bif !decide (r<0)then(if fits (i+1)then go (d,a,ks,i+1,j)else none)else k (d,a,ks,i,j)
  else k (d,a,ks,i,j)) N g
def peqG (N:Nat) (d:List α) (a b p:Int) (ks:γ):Option (Int×List α):=
 swpG d a p fun d=>if fits (a+1)then if fits (b-1)then iter (fun go g=>peqU c (fun g=>peqD c (peqE go) N g) N g) N (d,a,ks,a+1,b-1)else none else none
def pdqG (hs:List α->Int->Int->γ->Option (List α)) (pe:List α->Int->Int->Int->γ->Option (Int×List α)) (N:Nat):(D:Nat)->(List α)->Int->Int->Int->γ->Option ((List α))
 |0,_,_,_,_,_=>none
 |D+1,data,a,b,limit,cmp=>
 (iter (fun go (g:(List α)×Int×Int×Int×γ×Bool×Bool)=>
   match g with
   |(data2,a2,b2,limit2,cmp2,wasBalanced,wasPartitioned)=>
   (if fits (b2-a2)then(bif(decide ((b2-a2)<=12))then
     (oB (insG c N data2 a2 b2 cmp2) fun r=>
      (some r))
     else
     (bif(decide (limit2=0))then
      (oB (hs data2 a2 b2 cmp2) fun r2=>
       (some r2))
      else
      (meet (fun(g:(List α)×Int×Int×Int×γ×Bool×Bool×Int)=>
        match g with
        |(data3,a3,b3,limit3,cmp3,wasBalanced2,wasPartitioned2,length)=>
        (oB (choosePivotG c N data3 a3 b3 cmp3) fun r4=>
         (meet (fun(g:(List α)×Int×Int×Int×γ×Bool×Bool×Int×Int×Int)=>
           match g with
           |(data4,a4,b4,limit4,cmp4,wasBalanced3,wasPartitioned3,length2,pivot,hint)=>
           (meet (fun(g:(List α)×Int×Int×Int×γ×Bool×Bool×Int×Int)=>
             match g with
             |(data5,a5,b5,limit5,cmp5,wasBalanced4,wasPartitioned4,length3,pivot2)=>
             (bif(decide ((0:Int)<a5))then
              (if fits (a5-1)then(if 0<=(a5-1)/\(a5-1)<(data5.length:Int)then
                (oB (data5[(a5-1).toNat]?) fun e=>
                 (if 0<=pivot2/\pivot2<(data5.length:Int)then
                  (oB (data5[pivot2.toNat]?) fun e2=>
                   (oB (c cmp5 e e2) fun r7=>
                    (bif(!(decide (r7<0)))then
                     (oB (pe data5 a5 b5 pivot2 cmp5) fun r8=>
                      (go (r8.2,r8.1,b5,limit5,cmp5,wasBalanced4,wasPartitioned4)))
                     else
                     (oB (partG c N data5 a5 b5 pivot2 cmp5) fun r9=>
                      (if fits (r9.1-a5)then(if fits (b5-r9.1)then(if 8≠0 then
                         (if fits (length3.tdiv 8)then(bif(decide ((r9.1-a5)<(b5-r9.1)))then
                           (oB (pdqG hs pe N D r9.2.2 a5 r9.1 limit5 cmp5) fun r10=>
                            (if fits (r9.1+1)then(go (r10,(r9.1+1),b5,limit5,cmp5,(decide ((length3.tdiv 8)<=(r9.1-a5))),r9.2.1))else none))
                           else
                           (if fits (r9.1+1)then(oB (pdqG hs pe N D r9.2.2 (r9.1+1) b5 limit5 cmp5) fun r11=>
                             (go (r11,a5,r9.1,limit5,cmp5,(decide ((length3.tdiv 8)<=(b5-r9.1))),r9.2.1)))else none))else none)
                         else none)else none)else none)))))
                  else none))
                else none)else none)
              else
              (oB (partG c N data5 a5 b5 pivot2 cmp5) fun r12=>
               (if fits (r12.1-a5)then(if fits (b5-r12.1)then(if 8≠0 then
                  (if fits (length3.tdiv 8)then(bif(decide ((r12.1-a5)<(b5-r12.1)))then
                    (oB (pdqG hs pe N D r12.2.2 a5 r12.1 limit5 cmp5) fun r13=>
                     (if fits (r12.1+1)then(go (r13,(r12.1+1),b5,limit5,cmp5,(decide ((length3.tdiv 8)<=(r12.1-a5))),r12.2.1))else none))
                    else
                    (if fits (r12.1+1)then(oB (pdqG hs pe N D r12.2.2 (r12.1+1) b5 limit5 cmp5) fun r14=>
                      (go (r14,a5,r12.1,limit5,cmp5,(decide ((length3.tdiv 8)<=(b5-r12.1))),r12.2.1)))else none))else none)
                  else none)else none)else none)))) fun J3=>
            (bif wasBalanced3 then
             (bif wasPartitioned3 then
              (bif(decide (hint=1))then
               (oB (pisG c N data4 a4 b4 cmp4) fun r6=>
                (bif r6.1 then
                 (some r6.2)
                 else
                 (J3 (r6.2,a4,b4,limit4,cmp4,wasBalanced3,wasPartitioned3,length2,pivot))))
               else
               (J3 (data4,a4,b4,limit4,cmp4,wasBalanced3,wasPartitioned3,length2,pivot)))
              else
              (J3 (data4,a4,b4,limit4,cmp4,wasBalanced3,wasPartitioned3,length2,pivot)))
             else
             (J3 (data4,a4,b4,limit4,cmp4,wasBalanced3,wasPartitioned3,length2,pivot))))) fun J2=>
          (bif(decide (r4.2.1=2))then
           (oB (reverseRangeG N r4.2.2 a3 b3 cmp3) fun r5=>
            (if fits (b3-1)then(if fits (r4.1-a3)then(if fits ((b3-1)-(r4.1-a3))then(J2 (r5,a3,b3,limit3,cmp3,wasBalanced2,wasPartitioned2,length,((b3-1)-(r4.1-a3)),1))else none)else none)else none))
           else
           (J2 (r4.2.2,a3,b3,limit3,cmp3,wasBalanced2,wasPartitioned2,length,r4.1,r4.2.1)))))) fun J=>
       (bif(!wasBalanced)then
        (oB (breakG N data2 a2 b2 cmp2) fun r3=>
         (if fits (limit2-1)then(J (r3,a2,b2,(limit2-1),cmp2,wasBalanced,wasPartitioned,(b2-a2)))else none))
        else
        (J (data2,a2,b2,limit2,cmp2,wasBalanced,wasPartitioned,(b2-a2)))))))else none)) N (data,a,b,limit,cmp,true,true))
end
def cmp669 (N:Nat):(Unit)->Z0->Z0->Option Int:=(fun(cmp:Unit) (e e2:Int×Z7×Z9)=>i_allAlive_1_m N e.1 e.2.1 e.2.2 e2.1 e2.2.1 e2.2.2)
def jIw :Sh:=⟨.mtk 800000 Y4 95 false::pI::pI:: .clo 155 []::dz 4 (pI::dz 44 []),[]⟩
def jJn :Sh:=⟨.mtk 800000 Y4 95 false::pI::pI:: .clo 155 []::dz 4 (pI::pI::dz 43 []),[]⟩
def jJk (a:List Z0) (d:Int) (c:Int) (b:Unit):Z14:=insG (cmp669 N) N a d c b
 
theorem jIC :mK 272 (bX [.mtk 800000 Y4 95 false,pI,pI,.clo 155 []] [.tup [],.mtk 800000 Y4 95 false] (c4A (jJk N))):=
 mO (fC (jHC N) ja) func272 rfl N (.seq .no (.block (.loop jIw (.seq .no (.seq (.block (.seq .no (.block (.loop jJn .no)))) .no))))) _ (rs:=[800000])
end Go.Proofs.YtcinmmojlcchfaaGreatDoor
