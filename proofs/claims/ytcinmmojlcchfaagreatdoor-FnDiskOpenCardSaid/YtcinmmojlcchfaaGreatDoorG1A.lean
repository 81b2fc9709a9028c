import Derived.Test.YtcinmmojlcchfaaGreatDoorSA
import Derived.Test.YtcinmmojlcchfaaGreatDoorSC
import Derived.Test.YtcinmmojlcchfaaGreatDoorSE
import Derived.Test.YtcinmmojlcchfaaGreatDoorSN
import Derived.Test.YtcinmmojlcchfaaGreatDoorSP
set_option linter.unusedVariables false
set_option linter.unusedSimpArgs false
namespace Go.Proofs.YtcinmmojlcchfaaGreatDoor
open Go.RowKit Go.Proofs.Tryz
variable (N : Nat)
open Option renaming bind -> oB
set_option maxRecDepth 1000000
abbrev Z0 :Type:=Int×(List ((List UInt8)×(List UInt8)))×(List ((List UInt8)×Int))
abbrev Z1 :Type:=List UInt8
abbrev Z2 :Type:=((List Z0)×(List (Z1×Z1×(List (Int×(List Int))))))×(List Int)
abbrev Z3 :Type:=Z1×Z1×(List (Int×(List Int)))
abbrev Z4 :Type:=(List Z1)×Z1
abbrev Z5 :Type:=List (Z1×Z1)
abbrev Z6 :Type:=List (Z1×Int)
abbrev Z7 :Type:=List (Int×(List Int))
abbrev Z8 :Type:=List (Z1×Z1)
abbrev Z9 :Type:=List (Z1×Int)
abbrev Z10 :Type:=Option (Bool)
abbrev Z11 :Type:=Z1×Int×Int×Int
abbrev Z12 :Type:=Option ((List Z1)×(List Z4)×(List Z2)×Bool)
abbrev Z13 :Type:=List (Int×(List Int))
abbrev Z14 :Type:=Option ((List Z0))
abbrev Z16 :Type:=Option (Int)
abbrev bX (a r:List VS) (f:HD (Sh.codes ⟨a,[]⟩)->Option (HD (Sh.codes ⟨r,[]⟩))):Model:=⟨⟨a,[]⟩,⟨r,[]⟩,f⟩
abbrev mK :=ModelOk Tryz.prog
theorem mO {l:List (Nat×Model)} (hl:jR Tryz.prog l) {f:FuncId} {fn:Func} {c:Code} (hf:Tryz.prog.funcs[f]? =some fn) (hbody:fn.body=some c) (N:Nat) (h:Hint) (m:Model) (wr rs dw:List Nat:=[])
  (hname:(fn.name== "runtime.NumGoroutine")=false:=by kernel_rfl) (hres:m.arg.names.all (jbC l wr rs dw).res=true:=by kernel_rfl) (hlen:Nat.ble m.arg.vals.length fn.ntmps=true:=by kernel_rfl)
  (hrun:∀a,m.run a=runF N (jbC l wr rs dw) okDraw fn c h m.arg m.ret a:=by intro a;kernel_rfl):ModelOk Tryz.prog f m:=modelOk_of (E:=jbC l wr rs dw) (jtQ hl wr rs dw) hf hname hbody N h m hres hlen hrun
theorem fC {k:Nat} {m:Model} {l:List (Nat×Model)} (h:ModelOk Tryz.prog k m) (hl:jR Tryz.prog l):jR Tryz.prog ((k,m)::l):=jsH h hl
abbrev pI :VS:=.pv (.int .i64)
abbrev pS :VS:=.pv .str
abbrev pB :VS:=.pv .bool
abbrev tI :Tp:=.int .i64
abbrev c1A {α ρ:Type} (f:α->ρ) (a:α):ρ:=f a
abbrev c2A {α0 α1 ρ:Type} (f:α0->α1->ρ) (a:α0×α1):ρ:=f a.1 a.2
abbrev c3A {α0 α1 α2 ρ:Type} (f:α0->α1->α2->ρ) (a:α0×α1×α2):ρ:=f a.1 a.2.1 a.2.2
abbrev c4A {α0 α1 α2 α3 ρ:Type} (f:α0->α1->α2->α3->ρ) (a:α0×α1×α2×α3):ρ:=f a.1 a.2.1 a.2.2.1 a.2.2.2
abbrev c5A {α0 α1 α2 α3 α4 ρ:Type} (f:α0->α1->α2->α3->α4->ρ) (a:α0×α1×α2×α3×α4):ρ:=f a.1 a.2.1 a.2.2.1 a.2.2.2.1 a.2.2.2.2
abbrev c6A {α0 α1 α2 α3 α4 α5 ρ:Type} (f:α0->α1->α2->α3->α4->α5->ρ) (a:α0×α1×α2×α3×α4×α5):ρ:=f a.1 a.2.1 a.2.2.1 a.2.2.2.1 a.2.2.2.2.1 a.2.2.2.2.2
abbrev c7A {α0 α1 α2 α3 α4 α5 α6 ρ:Type} (f:α0->α1->α2->α3->α4->α5->α6->ρ) (a:α0×α1×α2×α3×α4×α5×α6):ρ:=f a.1 a.2.1 a.2.2.1 a.2.2.2.1 a.2.2.2.2.1 a.2.2.2.2.2.1 a.2.2.2.2.2.2
def dz :Nat->List VS->List VS
 |0,l=>l
 |n+1,l=>.dead::dz n l
abbrev Y19 :Tp:=.sl tI
abbrev Y18 :Tp:=.pair .str .str
abbrev Y17 :Tp:=.sl (.pair .str .str)
abbrev Y16 :Tp:=.pair (.sl .str) .str
abbrev Y15 :Tp:=.pair .str tI
abbrev Y14 :Tp:=.sl (.pair (.sl .str) .str)
abbrev Y13 :Tp:=.sl (.pair .str tI)
abbrev Y12 :Tp:=.pair tI (.sl tI)
abbrev Y11 :Tp:=.sl (.pair tI (.sl tI))
abbrev Y7 :Tp:=.pair .str (.pair tI (.pair tI tI))
abbrev Y6 :Tp:=.pair .str (.pair .str (.sl (.pair tI (.sl tI))))
abbrev Y5 :Tp:=.sl (.pair .str (.pair .str (.sl (.pair tI (.sl tI)))))
abbrev Y4 :Tp:=.pair tI (.pair (.sl (.pair .str .str)) (.sl (.pair .str tI)))
abbrev Y3 :Tp:=.sl (.pair tI (.pair (.sl (.pair .str .str)) (.sl (.pair .str tI))))
abbrev Y2 :Tp:=.pair (.sl (.pair tI (.pair (.sl (.pair .str .str)) (.sl (.pair .str tI))))) (.sl (.pair .str (.pair .str (.sl (.pair tI (.sl tI))))))
abbrev Y1 :Tp:=.pair (.pair (.sl (.pair tI (.pair (.sl (.pair .str .str)) (.sl (.pair .str tI))))) (.sl (.pair .str (.pair .str (.sl (.pair tI (.sl tI))))))) (.sl tI)
abbrev Y0 :Tp:=.sl (.pair (.pair (.sl (.pair tI (.pair (.sl (.pair .str .str)) (.sl (.pair .str tI))))) (.sl (.pair .str (.pair .str (.sl (.pair tI (.sl tI))))))) (.sl tI))
def jt (N:Nat) (a:Int):Z16:=
 (bif decide ((65:Int)<=a)then bif decide (a<=90)then some (IntKind.u8.wrap (a+32))else(bif decide ((97:Int)<=a)then bif decide (a<=122)then some a else(bif decide ((48:Int)<=a)then bif decide (a<=57)then some a else(some 0)else some 0)else bif decide ((48:Int)<=a)then bif decide (a<=57)then some a else(some 0)else some 0)else bif decide ((97:Int)<=a)then bif decide (a<=122)then some a else(bif decide ((48:Int)<=a)then bif decide (a<=57)then some a else(some 0)else some 0)else bif decide ((48:Int)<=a)then bif decide (a<=57)then some a else(some 0)else some 0)
theorem jfG :mK 175 (bX [.pv (.int .u8)] [.pv (.int .u8)] (c1A (jt N))):=
 mO ja func175 rfl N .no _
def jJ (N:Nat) (a:Int) (b:Int) (c:Int):Z10:=
 (bif decide (b<=a)then some (decide (a<=c))else some false)
theorem jcL :mK 104 (bX [pI,pI,pI] [pB] (c3A (jJ N))):=
 mO ja func104 rfl N .no _
def jr5 :Sh:=⟨pS:: .dead:: .dead::pI::dz 23 [],[]⟩
def jT (i:List UInt8):Z10:=
 (iter (fun k (a,b)=>bif decide (b<(a.length:Int))then oB (idx a b) fun f=>(oB (jt N (f.toNat:Int)) fun d=>oB (idx a b) fun j=>bif !decide (d=(j.toNat:Int))then some false else oB (idx a b) fun e=>bif decide ((e.toNat:Int)=0)then some false else if fits (b+1)then k (a,(b+1))else none)else oB (jJ N (a.length:Int) 1 12) fun c=>some c) N (i,(0:Int)))
theorem jgp :mK 101 (bX [pS] [pB] (c1A (jT N))):=
 mO (fC (jfG N) (fC (jcL N) ja)) func101 rfl N (.seq .no (.seq (.seq .no (.block (.loop jr5 .no))) .no)) _
def jdI (N:Nat):Option ((List Z1)):=
 (some ([([105,110,103]:List UInt8),([101,100]:List UInt8),([101,115]:List UInt8),([108,121]:List UInt8),([115]:List UInt8)]:List Z1))
theorem jkj :mK 232 ⟨⟨[],[]⟩,⟨[.own 1 .str 9 true],[]⟩,fun a=>jdI N⟩:=
 mO ja func232 rfl N .no _
def jl2 :Sh:=⟨pS:: .dead:: .dead::pI::dz 30 [],[]⟩
def ja6 (k:List UInt8):Option (Z1):=
 (iter (fun d (a,b)=>oB (jdI N) fun i=>bif decide (b<(i.length:Int))then oB (jdI N) fun h=>(oB (idx h b) fun c=>if fits ((a.length:Int)-(c.length:Int))then bif decide ((3:Int)<=((a.length:Int)-(c.length:Int)))then oB (cut a ((a.length:Int)-(c.length:Int)) (a.length:Int)) fun e=>(bif decide (e=c)then oB (cut a 0 ((a.length:Int)-(c.length:Int))) fun f=>(some f)else if fits (b+1)then d (a,(b+1))else none)else(if fits (b+1)then d (a,(b+1))else none)else none)else some a) N (k,(0:Int)))
theorem jtL :mK 176 (bX [pS] [pS] (c1A (ja6 N))):=
 mO (fC (jkj N) ja) func176 rfl N (.seq .no (.seq (.seq .no (.block (.loop jl2 .no))) .no)) _
def jto :Sh:=⟨pS::dz 9 [],[]⟩
def jaq (b:List UInt8):Option (Z1):=
 (iter (fun e (a:Z1)=>let s2:=a;(oB (ja6 N s2) fun d=>bif !decide (d=s2)then oB (ja6 N s2) fun c=>(e c)else some s2)) N b)
theorem jfZ :mK 102 (bX [pS] [pS] (c1A (jaq N))):=
 mO (fC (jtL N) ja) func102 rfl N (.seq .no (.seq (.block (.loop jto .no)) .no)) _
def jlY :Sh:=⟨.pv (.sl .str)::pS::dz 3 (pI::dz 12 []),[]⟩
def jap (e:List Z1) (h:List UInt8):Z10:=
 (iter (fun i (b,c,a)=>bif decide (a<(b.length:Int))then oB (idx b a) fun d=>(bif decide (d=c)then some true else if fits (a+1)then i (b,c,(a+1))else none)else some false) N (e,h,(0:Int)))
theorem jhP :mK 103 (bX [.pv (.sl .str),pS] [pB] (c2A (jap N))):=
 mO ja func103 rfl N (.seq .no (.seq (.seq .no (.block (.loop jlY .no))) .no)) _
def jrs :Sh:=⟨.dead:: .box 1 0:: .dead::pI::dz 114 [],[(1,false,[.pv (.sl .str),.pv Y14])]⟩
def js0 :Sh:=⟨.dead:: .box 1 0:: .dead:: .dead::pI::dz 113 [],[(1,false,[.pv (.sl .str),.pv Y14])]⟩
def jrc :Sh:=⟨.dead:: .box 1 0:: .dead:: .dead::pI:: .box 5 0::pI::dz 111 [],[(1,false,[.pv (.sl .str),.pv Y14]),(5,false,[.pv (.sl .str),pS])]⟩
def jcw (D:List Z1) (H:List Z4):Z10:=
 (iter (fun n (a,b,i)=>bif decide (a<(b.length:Int))then oB (idx b a) fun y=>(oB (jT N y) fun C=>bif !C then some false else bif decide ((0:Int)<a)then oB (idx b a) fun p=>(if fits (a-1)then oB (idx b (a-1)) fun m=>(bif Op.bytesLess p m||decide (p=m)then some false else if fits (a+1)then n ((a+1),b,i)else none)else none)else if fits (a+1)then n ((a+1),b,i)else none)else iter (fun u (k,o,f)=>bif decide (k<(f.length:Int))then oB (idx f k) fun r=>(iter (fun I (l,c,j,q,d,h)=>bif decide (c<(d.length:Int))then oB (idx d c) fun v=>(oB (jT N v) fun A=>bif !A then some false else oB (idx d c) fun w=>oB (jaq N w) fun z=>oB (idx d c) fun E=>bif !decide (z=E)then some false else oB (idx d c) fun K=>oB (jap N j K) fun G=>bif G then some false else if fits (c+1)then I (l,(c+1),j,q,d,h)else none)else oB (jJ N (d.length:Int) 1 3) fun x=>bif !x then some false else oB (jT N h) fun t=>bif !t then some false else oB (jaq N h) fun B=>bif !decide (B=h)then some false else if fits (l+1)then u ((l+1),j,q)else none) N (k,(0:Int),o,f,r.1,r.2))else bif decide ((o.length:Int)<=6)then some (decide ((f.length:Int)<=4))else some false) N ((0:Int),b,i)) N ((0:Int),D,H))
theorem jtf :mK 41 (bX [.agg [.pv (.sl .str),.pv Y14]] [pB] (c2A (jcw N))):=
 mO (fC (jgp N) (fC (jfZ N) (fC (jhP N) (fC (jcL N) ja)))) func41 rfl N (.seq .no (.seq (.seq .no (.block (.loop jrs .no))) (.seq (.seq .no (.block (.loop js0 (.seq .no (.seq (.block (.seq .no (.seq (.seq .no (.block (.loop jrc .no))) .no))) .no))))) .no))) _
def jY2 :Sh:=⟨pS:: .pv (.int .u8)::pI::dz 4 (.own 600007 .str 9 true::pI::pI::dz 33 []),[]⟩
def s_l1Cut_m (o:List UInt8) (l:Int) (p:Int):Option ((List Z1)):=
 (iter (fun k (a,e,f,c,d,b)=>bif decide (b<(a.length:Int))then bif decide ((c.length:Int)<f)then oB (idx a b) fun m=>(bif decide ((m.toNat:Int)=e)then oB (cut a d b) fun h=>(if room c.length ([h]:List Z1).length 16 then if fits (b+1)then if fits (b+1)then k (a,e,f,(c++([h]:List Z1)),(b+1),(b+1))else none else none else none)else if fits (b+1)then k (a,e,f,c,d,(b+1))else none)else(oB (cut a d (a.length:Int)) fun i=>if room c.length ([i]:List Z1).length 16 then some (c++([i]:List Z1))else none)else oB (cut a d (a.length:Int)) fun j=>if room c.length ([j]:List Z1).length 16 then some (c++([j]:List Z1))else none) N (o,l,p,([]:List Z1),(0:Int),(0:Int)))
theorem jYN :mK 177 (bX [pS,.pv (.int .u8),pI] [.own 1 .str 9 true] (c3A (s_l1Cut_m N))):=
 mO ja func177 rfl N (.seq .no (.seq .no (.seq .no (.seq (.seq .no (.block (.loop jY2 .no))) .no)))) _
def jY1 :Sh:=⟨pS:: .dead:: .dead::pI::pI::dz 42 [],[]⟩
def s_l1Num_m (i:List UInt8):Z16:=
 (iter (fun k (a,c,b)=>bif decide (b<(a.length:Int))then oB (idx a b) fun f=>(bif decide ((f.toNat:Int)<48)then some (-1)else oB (idx a b) fun j=>bif decide ((57:Int)<(j.toNat:Int))then some (-1)else bif decide ((9:Int)<=b)then some (-1)else if fits (c*10)then oB (idx a b) fun d=>(if fits ((c*10)+(IntKind.i64.wrap (IntKind.u8.wrap ((d.toNat:Int)-48))))then if fits (b+1)then k (a,((c*10)+(IntKind.i64.wrap (IntKind.u8.wrap ((d.toNat:Int)-48)))),(b+1))else none else none)else none)else bif decide ((a.length:Int)=0)then some (-1)else bif decide ((1:Int)<a.length)then oB (idx a 0) fun e=>(bif decide ((e.toNat:Int)=48)then some (-1)else some c)else some c) N (i,(0:Int),(0:Int)))
theorem jYO :mK 172 (bX [pS] [pI] (c1A (s_l1Num_m N))):=
 mO ja func172 rfl N (.seq .no (.seq .no (.seq (.seq .no (.block (.loop jY1 .no))) .no))) _
def jot :Sh:=⟨pS:: .dead:: .dead::pI::dz 19 [],[]⟩
def jcu (e:List UInt8):Z10:=
 (iter (fun h (a,b)=>bif decide (b<(a.length:Int))then oB (idx a b) fun c=>(bif decide ((c.toNat:Int)<32)then some false else oB (idx a b) fun f=>bif decide ((126:Int)<(f.toNat:Int))then some false else if fits (b+1)then h (a,(b+1))else none)else some (decide ((a.length:Int)<=160))) N (e,(0:Int)))
theorem jpZ :mK 233 (bX [pS] [pB] (c1A (jcu N))):=
 mO ja func233 rfl N (.seq .no (.seq (.seq .no (.block (.loop jot .no))) .no)) _
def jp0 :Sh:=⟨.dead:: .box 1 0:: .dead::pI::dz 100 [],[(1,false,[pI,.pv Y17,.pv Y13])]⟩
def jtP :Sh:=⟨.dead:: .box 1 0::dz 3 (pI::dz 98 []),[(1,false,[pI,.pv Y17,.pv Y13])]⟩
def jcb (v:Int) (r:Z5) (A:Z6):Z10:=
 (iter (fun o (b,f,d,h)=>bif decide (b<(d.length:Int))then oB (idx d b) fun e=>(oB (jT N e.1) fun y=>bif !y then some false else oB (jcu N e.2) fun x=>bif !x then some false else bif decide ((0:Int)<b)then if fits (b-1)then oB (idx d (b-1)) fun p=>(bif Op.bytesLess e.1 p.1||decide (e.1=p.1)then some false else if fits (b+1)then o ((b+1),f,d,h)else none)else none else if fits (b+1)then o ((b+1),f,d,h)else none)else iter (fun l (a,k,j,c)=>bif decide (a<(c.length:Int))then oB (idx c a) fun t=>(oB (jT N t.1) fun w=>bif !w then some false else oB (idx c a) fun z=>oB (jJ N z.2 0 999999999) fun B=>bif !B then some false else bif decide ((0:Int)<a)then oB (idx c a) fun m=>(if fits (a-1)then oB (idx c (a-1)) fun n=>(bif Op.bytesLess m.1 n.1||decide (m.1=n.1)then some false else if fits (a+1)then l ((a+1),k,j,c)else none)else none)else if fits (a+1)then l ((a+1),k,j,c)else none)else oB (jJ N k 1 9999) fun u=>bif u then oB (jJ N (j.length:Int) 0 3) fun q=>(bif q then some (decide ((c.length:Int)<=3))else some false)else some false) N ((0:Int),f,d,h)) N ((0:Int),v,r,A))
theorem jpD :mK 179 (bX [.agg [pI,.pv Y17,.pv Y13]] [pB] (c3A (jcb N))):=
 mO (fC (jgp N) (fC (jpZ N) (fC (jcL N) ja))) func179 rfl N (.seq .no (.seq (.seq .no (.block (.loop jp0 .no))) (.seq (.seq .no (.block (.loop jtP .no))) .no))) _
def s_l1Dec_m (N:Nat):(D:Nat)->Int->Option (Z1)
 |0,_=>none
 |D+1,n=>
 bif decide (n<(-9223372036854775807))then
 some ([45,57,50,50,51,51,55,50,48,51,54,56,53,52,55,55,53,56,48,56]:List UInt8)
 else
 bif decide (n<0)then
 if fits (0-n)then oB (s_l1Dec_m N D (0-n)) fun r=>
 (if([45]:List UInt8).length+r.length<=9223372036854775807 then
 some (([45]:List UInt8)++r)
 else none)else none
 else
 bif decide (n<10)then
 if fits (48+n)then some (bytesOf ([(IntKind.u8.wrap (48+n))]:List Int))else none
 else
 if 10≠0 then
 if fits (n.tdiv 10)then oB (s_l1Dec_m N D (n.tdiv 10)) fun r2=>
 (if 10≠0 then
 if fits (48+(n.tmod 10))then if r2.length+(bytesOf ([(IntKind.u8.wrap (48+(n.tmod 10)))]:List Int)).length<=9223372036854775807 then
 some (r2++(bytesOf ([(IntKind.u8.wrap (48+(n.tmod 10)))]:List Int)))
 else none else none
 else none)else none
 else none
def jOp (N D:Nat):Model:=⟨⟨[pI],[]⟩,⟨[pS],[]⟩,c1A (s_l1Dec_m N D)⟩
theorem jPg (N D:Nat) (ih:mK 170 (jOp N D)):mK 170 (jOp N (D+1)):=
 mO (fC ih ja) func170 rfl N .no (jOp N (D+1))
theorem jOx (N:Nat):∀D,mK 170 (jOp N D)
 |0=>modelOk_none ⟨_,func170,by decide,by kernel_rfl⟩ _ (fun a=>rfl)
 |D+1=>jPg N D (jOx N D)
def jXV :Sh:=⟨.dead:: .box 1 0:: .dead::pS::pI::dz 58 [],[(1,false,[pI,.pv Y17,.pv Y13])]⟩
def jYl :Sh:=⟨.dead:: .box 1 0:: .dead::pS:: .dead::pI::dz 57 [],[(1,false,[pI,.pv Y17,.pv Y13])]⟩
def s_l6Put_m (p:Int) (r:Z5) (w:Z6):Option (Z1):=
 (oB (s_l1Dec_m N N p) fun m=>if([100,111,99,32]:List UInt8).length+m.length<=9223372036854775807 then if(([100,111,99,32]:List UInt8)++m).length+([10]:List UInt8).length<=9223372036854775807 then iter (fun t (a,c,n,h,o)=>bif decide (c<(h.length:Int))then if a.length+([102,105,101,108,100,32]:List UInt8).length<=9223372036854775807 then oB (idx h c) fun e=>(if(a++([102,105,101,108,100,32]:List UInt8)).length+e.1.length<=9223372036854775807 then if((a++([102,105,101,108,100,32]:List UInt8))++e.1).length+([32]:List UInt8).length<=9223372036854775807 then oB (idx h c) fun k=>(if(((a++([102,105,101,108,100,32]:List UInt8))++e.1)++([32]:List UInt8)).length+k.2.length<=9223372036854775807 then if((((a++([102,105,101,108,100,32]:List UInt8))++e.1)++([32]:List UInt8))++k.2).length+([10]:List UInt8).length<=9223372036854775807 then if fits (c+1)then t ((((((a++([102,105,101,108,100,32]:List UInt8))++e.1)++([32]:List UInt8))++k.2)++([10]:List UInt8)),(c+1),n,h,o)else none else none else none)else none else none)else none else iter (fun q (b,f,x,v,i)=>bif decide (f<(i.length:Int))then if b.length+([110,117,109,32]:List UInt8).length<=9223372036854775807 then oB (idx i f) fun d=>(if(b++([110,117,109,32]:List UInt8)).length+d.1.length<=9223372036854775807 then if((b++([110,117,109,32]:List UInt8))++d.1).length+([32]:List UInt8).length<=9223372036854775807 then oB (idx i f) fun u=>(oB (s_l1Dec_m N N u.2) fun l=>if(((b++([110,117,109,32]:List UInt8))++d.1)++([32]:List UInt8)).length+l.length<=9223372036854775807 then if((((b++([110,117,109,32]:List UInt8))++d.1)++([32]:List UInt8))++l).length+([10]:List UInt8).length<=9223372036854775807 then if fits (f+1)then q ((((((b++([110,117,109,32]:List UInt8))++d.1)++([32]:List UInt8))++l)++([10]:List UInt8)),(f+1),x,v,i)else none else none else none)else none else none)else none else some b) N (a,(0:Int),n,h,o)) N (((([100,111,99,32]:List UInt8)++m)++([10]:List UInt8)),(0:Int),p,r,w)else none else none)
theorem jYI :mK 184 (bX [.agg [pI,.pv Y17,.pv Y13]] [pS] (c3A (s_l6Put_m N))):=
 mO (fC (jOx N N) ja) func184 rfl N (.seq .no (.seq .no (.seq (.seq .no (.block (.loop jXV .no))) (.seq (.seq .no (.block (.loop jYl .no))) .no)))) _
def jYV :Sh:=⟨pS:: .dead:: .box 2 0:: .dead:: .box 4 0:: .own 600005 .str 9 true::pI::dz 100 [],[(2,false,[pI,.nils,.nils]),(4,false,[pI,.own 700401 Y18 155 true,.own 700402 Y15 157 true])]⟩
def s_DocGet_m (s:List UInt8):Option (Int×Z8×Z9×Bool):=
 (oB (s_l1Cut_m N s 10 8) fun r=>iter (fun go (s2,lines,i,b,d,d2,d3)=>if fits (i+1)then bif decide ((i+1)<(lines.length:Int))then oB (idx lines i) fun e=>(oB (s_l1Cut_m N e 32 2) fun r2=>bif decide (i=0)then oB (idx r2 0) fun e2=>(bif decide (e2=([100,111,99]:List UInt8))then bif decide ((r2.length:Int)=2)then oB (idx r2 1) fun e3=>(oB (s_l1Num_m N e3) fun r3=>if fits (i+1)then go (s2,lines,(i+1),b,r3,d2,d3)else none)else(bif decide ((0:Int)<i)then oB (idx r2 0) fun e4=>(bif decide (e4=([102,105,101,108,100]:List UInt8))then bif decide ((r2.length:Int)=3)then oB (idx r2 1) fun e5=>(oB (idx r2 2) fun e6=>if room d2.length ([(e5,e6)]:Z5).length 32 then if fits (i+1)then go (s2,lines,(i+1),b,d,(d2++([(e5,e6)]:Z5)),d3)else none else none)else(bif decide ((0:Int)<i)then oB (idx r2 0) fun e7=>(bif decide (e7=([110,117,109]:List UInt8))then bif decide ((r2.length:Int)=3)then oB (idx r2 1) fun e8=>(oB (idx r2 2) fun e9=>oB (s_l1Num_m N e9) fun r4=>if room d3.length ([(e8,r4)]:Z6).length 24 then if fits (i+1)then go (s2,lines,(i+1),b,d,d2,(d3++([(e8,r4)]:Z6)))else none else none)else(some (0,([]:Z5),([]:Z6),false))else some (0,([]:Z5),([]:Z6),false))else some (0,([]:Z5),([]:Z6),false))else bif decide ((0:Int)<i)then oB (idx r2 0) fun e10=>(bif decide (e10=([110,117,109]:List UInt8))then bif decide ((r2.length:Int)=3)then oB (idx r2 1) fun e11=>(oB (idx r2 2) fun e12=>oB (s_l1Num_m N e12) fun r5=>if room d3.length ([(e11,r5)]:Z6).length 24 then if fits (i+1)then go (s2,lines,(i+1),b,d,d2,(d3++([(e11,r5)]:Z6)))else none else none)else(some (0,([]:Z5),([]:Z6),false))else some (0,([]:Z5),([]:Z6),false))else some (0,([]:Z5),([]:Z6),false))else bif decide ((0:Int)<i)then oB (idx r2 0) fun e13=>(bif decide (e13=([110,117,109]:List UInt8))then bif decide ((r2.length:Int)=3)then oB (idx r2 1) fun e14=>(oB (idx r2 2) fun e15=>oB (s_l1Num_m N e15) fun r6=>if room d3.length ([(e14,r6)]:Z6).length 24 then if fits (i+1)then go (s2,lines,(i+1),b,d,d2,(d3++([(e14,r6)]:Z6)))else none else none)else(some (0,([]:Z5),([]:Z6),false))else some (0,([]:Z5),([]:Z6),false))else some (0,([]:Z5),([]:Z6),false))else bif decide ((0:Int)<i)then oB (idx r2 0) fun e16=>(bif decide (e16=([102,105,101,108,100]:List UInt8))then bif decide ((r2.length:Int)=3)then oB (idx r2 1) fun e17=>(oB (idx r2 2) fun e18=>if room d2.length ([(e17,e18)]:Z5).length 32 then if fits (i+1)then go (s2,lines,(i+1),b,d,(d2++([(e17,e18)]:Z5)),d3)else none else none)else(bif decide ((0:Int)<i)then oB (idx r2 0) fun e19=>(bif decide (e19=([110,117,109]:List UInt8))then bif decide ((r2.length:Int)=3)then oB (idx r2 1) fun e20=>(oB (idx r2 2) fun e21=>oB (s_l1Num_m N e21) fun r7=>if room d3.length ([(e20,r7)]:Z6).length 24 then if fits (i+1)then go (s2,lines,(i+1),b,d,d2,(d3++([(e20,r7)]:Z6)))else none else none)else(some (0,([]:Z5),([]:Z6),false))else some (0,([]:Z5),([]:Z6),false))else some (0,([]:Z5),([]:Z6),false))else bif decide ((0:Int)<i)then oB (idx r2 0) fun e22=>(bif decide (e22=([110,117,109]:List UInt8))then bif decide ((r2.length:Int)=3)then oB (idx r2 1) fun e23=>(oB (idx r2 2) fun e24=>oB (s_l1Num_m N e24) fun r8=>if room d3.length ([(e23,r8)]:Z6).length 24 then if fits (i+1)then go (s2,lines,(i+1),b,d,d2,(d3++([(e23,r8)]:Z6)))else none else none)else(some (0,([]:Z5),([]:Z6),false))else some (0,([]:Z5),([]:Z6),false))else some (0,([]:Z5),([]:Z6),false))else bif decide ((0:Int)<i)then oB (idx r2 0) fun e25=>(bif decide (e25=([110,117,109]:List UInt8))then bif decide ((r2.length:Int)=3)then oB (idx r2 1) fun e26=>(oB (idx r2 2) fun e27=>oB (s_l1Num_m N e27) fun r9=>if room d3.length ([(e26,r9)]:Z6).length 24 then if fits (i+1)then go (s2,lines,(i+1),b,d,d2,(d3++([(e26,r9)]:Z6)))else none else none)else(some (0,([]:Z5),([]:Z6),false))else some (0,([]:Z5),([]:Z6),false))else some (0,([]:Z5),([]:Z6),false))else bif decide ((0:Int)<i)then oB (idx r2 0) fun e28=>(bif decide (e28=([102,105,101,108,100]:List UInt8))then bif decide ((r2.length:Int)=3)then oB (idx r2 1) fun e29=>(oB (idx r2 2) fun e30=>if room d2.length ([(e29,e30)]:Z5).length 32 then if fits (i+1)then go (s2,lines,(i+1),b,d,(d2++([(e29,e30)]:Z5)),d3)else none else none)else(bif decide ((0:Int)<i)then oB (idx r2 0) fun e31=>(bif decide (e31=([110,117,109]:List UInt8))then bif decide ((r2.length:Int)=3)then oB (idx r2 1) fun e32=>(oB (idx r2 2) fun e33=>oB (s_l1Num_m N e33) fun r10=>if room d3.length ([(e32,r10)]:Z6).length 24 then if fits (i+1)then go (s2,lines,(i+1),b,d,d2,(d3++([(e32,r10)]:Z6)))else none else none)else(some (0,([]:Z5),([]:Z6),false))else some (0,([]:Z5),([]:Z6),false))else some (0,([]:Z5),([]:Z6),false))else bif decide ((0:Int)<i)then oB (idx r2 0) fun e34=>(bif decide (e34=([110,117,109]:List UInt8))then bif decide ((r2.length:Int)=3)then oB (idx r2 1) fun e35=>(oB (idx r2 2) fun e36=>oB (s_l1Num_m N e36) fun r11=>if room d3.length ([(e35,r11)]:Z6).length 24 then if fits (i+1)then go (s2,lines,(i+1),b,d,d2,(d3++([(e35,r11)]:Z6)))else none else none)else(some (0,([]:Z5),([]:Z6),false))else some (0,([]:Z5),([]:Z6),false))else some (0,([]:Z5),([]:Z6),false))else bif decide ((0:Int)<i)then oB (idx r2 0) fun e37=>(bif decide (e37=([110,117,109]:List UInt8))then bif decide ((r2.length:Int)=3)then oB (idx r2 1) fun e38=>(oB (idx r2 2) fun e39=>oB (s_l1Num_m N e39) fun r12=>if room d3.length ([(e38,r12)]:Z6).length 24 then if fits (i+1)then go (s2,lines,(i+1),b,d,d2,(d3++([(e38,r12)]:Z6)))else none else none)else(some (0,([]:Z5),([]:Z6),false))else some (0,([]:Z5),([]:Z6),false))else some (0,([]:Z5),([]:Z6),false))else(oB (jcb N d d2 d3) fun r13=>bif !r13 then some (0,([]:Z5),([]:Z6),false)else oB (s_l6Put_m N d d2 d3) fun r14=>bif !decide (r14=s2)then some (0,([]:Z5),([]:Z6),false)else some (d,d2,d3,true))else none) N (s,r,(0:Int),(0:Int),(0:Int),([]:Z5),([]:Z6)))
theorem jYP :mK 178 (bX [pS] [.tup [.agg [pI,.own 1 Y18 155 true,.own 2 Y15 157 true],pB]] (c1A (s_DocGet_m N))):=
 mO (fC (jYN N) (fC (jYO N) (fC (jpD N) (fC (jYI N) ja)))) func178 rfl N (.seq .no (.seq .no (.seq .no (.seq (.seq .no (.block (.loop jYV .no))) .no)))) _
def jYZ :Sh:=⟨dz 4 (.own 600004 Y4 95 true:: .own 600005 tI 3 true:: .own 600006 .str 9 true::pS::pI::dz 73 []),[]⟩
def jY0 :Sh:=⟨dz 4 (.own 49 Y4 95 true:: .own 600005 tI 3 true:: .own 600006 .str 9 true::pS::pI:: .own 27001 .str 9 true::dz 72 []),[]⟩
def s_l19Docs_m (x:List UInt8):Option ((List Z0)×(List Int)):=
 (oB (s_l1Cut_m N x 10 400) fun A=>iter (fun l (d,k,h,n,e)=>bif decide (e<(h.length:Int))then oB (idx h e) fun y=>(oB (s_l1Cut_m N y 32 1) fun j=>meet (fun(p:(List Z0)×(List Int)×(List Z1)×Z1×Int×(List Z1))=>match p with|(m,f,c,b,a,r)=>bif decide ((r.length:Int)=2)then oB (idx r 0) fun B=>(bif decide (B=([100,101,97,100]:List UInt8))then oB (idx r 1) fun v=>(oB (s_l1Num_m N v) fun u=>if room f.length ([u]:List Int).length 8 then if fits (a+1)then l (m,(f++([u]:List Int)),c,b,(a+1))else none else none)else if fits (a+1)then bif decide ((a+1)<(c.length:Int))then oB (idx c a) fun q=>(if b.length+q.length<=9223372036854775807 then if(b++q).length+([10]:List UInt8).length<=9223372036854775807 then if fits (a+1)then l (m,f,c,((b++q)++([10]:List UInt8)),(a+1))else none else none else none)else(if fits (a+1)then l (m,f,c,b,(a+1))else none)else none)else if fits (a+1)then bif decide ((a+1)<(c.length:Int))then oB (idx c a) fun t=>(if b.length+t.length<=9223372036854775807 then if(b++t).length+([10]:List UInt8).length<=9223372036854775807 then if fits (a+1)then l (m,f,c,((b++t)++([10]:List UInt8)),(a+1))else none else none else none)else(if fits (a+1)then l (m,f,c,b,(a+1))else none)else none) fun o=>bif !decide (n=([]:List UInt8))then oB (idx j 0) fun z=>(bif !decide (z=([102,105,101,108,100]:List UInt8))then oB (idx j 0) fun w=>(bif !decide (w=([110,117,109]:List UInt8))then oB (s_DocGet_m N n) fun i=>(if room d.length ([(i.1,i.2.1,i.2.2.1)]:List Z0).length 56 then o ((d++([(i.1,i.2.1,i.2.2.1)]:List Z0)),k,h,([]:List UInt8),e,j)else none)else o (d,k,h,n,e,j))else o (d,k,h,n,e,j))else o (d,k,h,n,e,j))else some (d,k)) N (([]:List Z0),([]:List Int),A,([]:List UInt8),(0:Int)))
theorem jYQ :mK 105 (bX [pS] [.tup [.own 1 Y4 95 true,.own 2 tI 3 true]] (c1A (s_l19Docs_m N))):=
 mO (fC (jYN N) (fC (jYP N) (fC (jYO N) ja))) func105 rfl N (.seq .no (.seq .no (.seq .no (.seq .no (.seq .no (.seq (.seq .no (.block (.loop jYZ (.seq .no (.seq (.block (.seq .no (.meet jY0 .no .no))) .no))))) .no)))))) _
def jkS :Sh:=⟨.pv Y3:: .dead:: .dead::pI::dz 33 [],[]⟩
def jbU (h:List Z0):Z10:=
 (iter (fun d (b,a)=>bif decide (a<(b.length:Int))then oB (idx b a) fun c=>(oB (jcb N c.1 c.2.1 c.2.2) fun f=>bif !f then some false else bif decide ((0:Int)<a)then oB (idx b a) fun e=>(if fits (a-1)then oB (idx b (a-1)) fun i=>(bif decide (e.1<=i.1)then some false else if fits (a+1)then d (b,(a+1))else none)else none)else if fits (a+1)then d (b,(a+1))else none)else some (decide ((b.length:Int)<=16))) N (h,(0:Int)))
theorem jpx :mK 106 (bX [.pv Y3] [pB] (c1A (jbU N))):=
 mO (fC (jpD N) ja) func106 rfl N (.seq .no (.seq (.seq .no (.block (.loop jkS .no))) .no)) _
def jl5 :Sh:=⟨.pv (.sl .str)::pS::dz 3 (pI::dz 42 []),[]⟩
def s_l7Put_m (m:List Z1) (o:List UInt8):Option ((List Z1)):=
 (iter (fun q (a,b,c)=>bif decide (c<(a.length:Int))then oB (idx a c) fun r=>(bif Op.bytesLess r b then if fits (c+1)then q (a,b,(c+1))else none else bif decide (c<(a.length:Int))then oB (idx a c) fun t=>(bif decide (t=b)then some a else oB (cut a 0 c) fun f=>if room ([]:List Z1).length f.length 16 then if room (([]:List Z1)++f).length ([b]:List Z1).length 16 then oB (cut a c (a.length:Int)) fun j=>(if room ((([]:List Z1)++f)++([b]:List Z1)).length j.length 16 then some (((([]:List Z1)++f)++([b]:List Z1))++j)else none)else none else none)else oB (cut a 0 c) fun d=>if room ([]:List Z1).length d.length 16 then if room (([]:List Z1)++d).length ([b]:List Z1).length 16 then oB (cut a c (a.length:Int)) fun i=>(if room ((([]:List Z1)++d)++([b]:List Z1)).length i.length 16 then some (((([]:List Z1)++d)++([b]:List Z1))++i)else none)else none else none)else bif decide (c<(a.length:Int))then oB (idx a c) fun n=>(bif decide (n=b)then some a else oB (cut a 0 c) fun h=>if room ([]:List Z1).length h.length 16 then if room (([]:List Z1)++h).length ([b]:List Z1).length 16 then oB (cut a c (a.length:Int)) fun l=>(if room ((([]:List Z1)++h)++([b]:List Z1)).length l.length 16 then some (((([]:List Z1)++h)++([b]:List Z1))++l)else none)else none else none)else oB (cut a 0 c) fun e=>if room ([]:List Z1).length e.length 16 then if room (([]:List Z1)++e).length ([b]:List Z1).length 16 then oB (cut a c (a.length:Int)) fun k=>(if room ((([]:List Z1)++e)++([b]:List Z1)).length k.length 16 then some (((([]:List Z1)++e)++([b]:List Z1))++k)else none)else none else none) N (m,o,(0:Int)))
theorem jgt :mK 234 (bX [.pv (.sl .str),pS] [.pv (.sl .str)] (c2A (s_l7Put_m N))):=
 mO ja func234 rfl N (.seq .no (.seq .no (.seq (.block (.loop jl5 .no)) .no))) _
def joT :Sh:=⟨.pv Y3:: .dead:: .dead:: .pv (.sl .str)::pI::dz 30 [],[]⟩
def jkn :Sh:=⟨.pv Y3:: .dead:: .dead:: .pv (.sl .str)::pI::pI::dz 29 [],[]⟩
def s_l7Names_m (k:List Z0):Option ((List Z1)):=
 (iter (fun p (e,i,f)=>bif decide (f<(e.length:Int))then iter (fun m (b,h,a,c)=>oB (idx b a) fun j=>bif decide (c<(j.2.1.length:Int))then oB (idx b a) fun l=>(oB (idx l.2.1 c) fun o=>oB (s_l7Put_m N h o.1) fun n=>if fits (c+1)then m (b,n,a,(c+1))else none)else if fits (a+1)then p (b,h,(a+1))else none) N (e,i,f,(0:Int))else some i) N (k,([]:List Z1),(0:Int)))
theorem jlz :mK 180 (bX [.pv Y3] [.pv (.sl .str)] (c1A (s_l7Names_m N))):=
 mO (fC (jgt N) ja) func180 rfl N (.seq .no (.seq .no (.seq (.seq .no (.block (.loop joT (.seq .no (.seq (.block (.seq .no (.block (.loop jkn .no)))) .no))))) .no))) _
def jl8 :Sh:=⟨.dead::pS:: .box 2 0:: .dead:: .dead::pI::dz 21 [],[(2,false,[pI,.pv Y17,.pv Y13])]⟩
def s_l6Field_m (e:Int) (j:Z5) (m:Z6) (l:List UInt8):Option (Z1):=
 (iter (fun n (c,a,f,b,h)=>bif decide (a<(b.length:Int))then oB (idx b a) fun d=>(bif decide (d.1=c)then oB (idx b a) fun i=>(some i.2)else if fits (a+1)then n (c,(a+1),f,b,h)else none)else some ([]:List UInt8)) N (l,(0:Int),e,j,m))
theorem jhA :mK 236 (bX [.agg [pI,.pv Y17,.pv Y13],pS] [pS] (c4A (s_l6Field_m N))):=
 mO ja func236 rfl N (.seq .no (.seq (.seq .no (.block (.loop jl8 .no))) .no)) _
def jo3 :Sh:=⟨pS:: .dead:: .dead:: .own 600003 Y7 233 true::pI::dz 50 [],[]⟩
def jm6 :Sh:=⟨pS:: .dead:: .dead:: .own 600003 Y7 233 true::pI:: .own 600005 (.int .u8) 5 true::pI::dz 48 [],[]⟩
def jtK :Sh:=⟨pS:: .dead:: .dead:: .own 600003 Y7 233 true::pI:: .pv (.sl (.int .u8))::pI::dz 48 [],[]⟩
def jb3 (A:List UInt8):Option ((List Z11)):=
 (iter (fun l (p,u,m)=>bif decide (m<(p.length:Int))then iter (fun z (c,j,a,b,h)=>bif decide (a<(c.length:Int))then oB (idx c a) fun E=>(oB (jt N (E.toNat:Int)) fun D=>bif !decide (D=0)then oB (idx c a) fun G=>(oB (jt N (G.toNat:Int)) fun w=>if room b.length ([w]:List Int).length 1 then if fits (a+1)then z (c,j,(a+1),(b++([w]:List Int)),h)else none else none)else meet (fun(d:Z1×(List Z11)×Int×(List Int)×Int)=>match d with|(y,i,f,o,t)=>bif decide ((0:Int)<o.length)then if room i.length ([((bytesOf o),(i.length:Int),t,f)]:List Z11).length 40 then if fits (f+1)then l (y,(i++([((bytesOf o),(i.length:Int),t,f)]:List Z11)),(f+1))else none else none else if fits (f+1)then l (y,i,(f+1))else none) fun x=>bif decide ((12:Int)<b.length)then oB (cut b 0 12) fun B=>(x (c,j,a,B,h))else x (c,j,a,b,h))else meet (fun(d:Z1×(List Z11)×Int×(List Int)×Int)=>match d with|(q,k,e,n,r)=>bif decide ((0:Int)<n.length)then if room k.length ([((bytesOf n),(k.length:Int),r,e)]:List Z11).length 40 then if fits (e+1)then l (q,(k++([((bytesOf n),(k.length:Int),r,e)]:List Z11)),(e+1))else none else none else if fits (e+1)then l (q,k,(e+1))else none) fun v=>bif decide ((12:Int)<b.length)then oB (cut b 0 12) fun C=>(v (c,j,a,C,h))else v (c,j,a,b,h)) N (p,u,m,([]:List Int),m)else some u) N (A,([]:List Z11),(0:Int)))
theorem jsr :mK 333 (bX [pS] [.own 1 Y7 233 true] (c1A (jb3 N))):=
 mO (fC (jfG N) ja) func333 rfl N (.seq .no (.seq .no (.seq (.seq .no (.block (.loop jo3 (.seq .no (.seq (.block (.seq .no (.seq .no (.seq (.block (.loop jm6 .no)) (.meet jtK .no .no))))) .no))))) .no))) _
def jmf :Sh:=⟨.dead:: .dead:: .box 2 0:: .dead:: .dead:: .own 600005 Y15 162 true:: .own 600006 Y7 233 true::pI::dz 43 [],[(2,false,[.pv (.sl .str),.pv Y14])]⟩
def jbY (p:List Z1) (r:List Z4) (k:List UInt8):Option (Z9):=
 (oB (jb3 N k) fun o=>iter (fun f (d,b,a,c,e)=>bif decide (a<(b.length:Int))then oB (idx b a) fun l=>(oB (jaq N l.1) fun h=>oB (idx b a) fun m=>oB (jap N c m.1) fun n=>bif !n then oB (jap N c h) fun q=>(bif !q then oB (idx b a) fun i=>(if room d.length ([(h,i.2.1)]:Z6).length 24 then if fits (a+1)then f ((d++([(h,i.2.1)]:Z6)),b,(a+1),c,e)else none else none)else if fits (a+1)then f (d,b,(a+1),c,e)else none)else if fits (a+1)then f (d,b,(a+1),c,e)else none)else some d) N (([]:Z6),o,(0:Int),p,r))
theorem jrk :mK 298 (bX [.agg [.pv (.sl .str),.pv Y14],pS] [.own 1 Y15 162 true] (c3A (jbY N))):=
 mO (fC (jsr N) (fC (jfZ N) (fC (jhP N) ja))) func298 rfl N (.seq .no (.seq .no (.seq .no (.seq (.seq .no (.block (.loop jmf .no))) .no)))) _
def jrL :Sh:=⟨.pv Y13:: .pv (.sl .str)::dz 3 (pI::dz 36 []),[]⟩
def jcC (i:Z6) (f:List Z1):Z10:=
 (iter (fun l (b,c,a)=>bif decide (a<(c.length:Int))then bif decide ((b.length:Int)<=a)then some false else(oB (idx b a) fun e=>oB (idx c a) fun h=>bif !decide (e.1=h)then some false else oB (idx b a) fun j=>oB (idx b 0) fun d=>if fits (d.2+a)then bif !decide (j.2=(d.2+a))then some false else(if fits (a+1)then l (b,c,(a+1))else none)else none)else some true) N (i,f,(0:Int)))
theorem jtg :mK 334 (bX [.pv Y13,.pv (.sl .str)] [pB] (c2A (jcC N))):=
 mO ja func334 rfl N (.seq .no (.seq (.seq .no (.block (.loop jrL .no))) .no)) _
def jlL :Sh:=⟨.dead:: .pv Y13:: .box 2 0:: .dead:: .dead::pI::pI::dz 38 [],[(2,false,[.pv (.sl .str),.pv Y14])]⟩
def jcJ (l:List Z1) (o:List Z4) (k:Z6):Z16:=
 (iter (fun f (d,c,a,e,b)=>bif decide (a<(b.length:Int))then oB (idx b a) fun h=>(oB (jcC N d h.1) fun j=>bif j then bif decide (c<0)then if fits (a+1)then f (d,a,(a+1),e,b)else none else(oB (idx b a) fun i=>oB (idx b c) fun m=>bif decide ((m.1.length:Int)<(i.1.length:Int))then if fits (a+1)then f (d,a,(a+1),e,b)else none else if fits (a+1)then f (d,c,(a+1),e,b)else none)else if fits (a+1)then f (d,c,(a+1),e,b)else none)else some c) N (k,((-1):Int),(0:Int),l,o))
theorem jqp :mK 299 (bX [.agg [.pv (.sl .str),.pv Y14],.pv Y13] [pI] (c3A (jcJ N))):=
 mO (fC (jtg N) ja) func299 rfl N (.seq .no (.seq .no (.seq (.seq .no (.block (.loop jlL .no))) .no))) _
def jnK :Sh:=⟨.dead:: .dead:: .box 2 0:: .dead:: .dead:: .own 600005 Y15 162 true:: .pv Y13::dz 45 [],[(2,false,[.pv (.sl .str),.pv Y14])]⟩
def ja5 (k:List Z1) (l:List Z4) (n:List UInt8):Option (Z9):=
 (oB (jbY N k l n) fun q=>iter (fun h (c,a,d,b)=>bif decide ((0:Int)<a.length)then oB (jcJ N d b a) fun e=>(bif decide (e<0)then oB (idx a 0) fun i=>(if room c.length ([i]:Z6).length 24 then oB (cut a 1 (a.length:Int)) fun o=>(h ((c++([i]:Z6)),o,d,b))else none)else oB (idx b e) fun j=>oB (idx a 0) fun f=>if room c.length ([(j.2,f.2)]:Z6).length 24 then oB (idx b e) fun r=>(oB (cut a (r.1.length:Int) (a.length:Int)) fun p=>h ((c++([(j.2,f.2)]:Z6)),p,d,b))else none)else some c) N (([]:Z6),q,k,l))
theorem jiO :mK 235 (bX [.agg [.pv (.sl .str),.pv Y14],pS] [.own 1 Y15 162 true] (c3A (ja5 N))):=
 mO (fC (jrk N) (fC (jqp N) ja)) func235 rfl N (.seq .no (.seq .no (.seq .no (.seq (.block (.loop jnK .no)) .no)))) _
def jn9 :Sh:=⟨.dead:: .pv Y3::pS:: .box 3 0::dz 3 (.pv (.sl .str)::pI::dz 31 []),[(3,false,[.pv (.sl .str),.pv Y14])]⟩
def jrT :Sh:=⟨.dead:: .pv Y3::pS:: .box 3 0::dz 3 (.pv (.sl .str)::pI:: .own 600009 Y15 162 true::pI::dz 29 []),[(3,false,[.pv (.sl .str),.pv Y14])]⟩
def s_l7Terms_m (A:List Z1) (B:List Z4) (r:List Z0) (y:List UInt8):Option ((List Z1)):=
 (iter (fun u (f,j,n,b,l,i)=>bif decide (b<(f.length:Int))then oB (idx f b) fun e=>(oB (s_l6Field_m N e.1 e.2.1 e.2.2 j) fun z=>oB (ja5 N l i z) fun x=>iter (fun t (k,m,q,h,c,a,p,o)=>bif decide (a<(c.length:Int))then oB (idx c a) fun v=>(oB (s_l7Put_m N q v.1) fun w=>if fits (a+1)then t (k,m,w,h,c,(a+1),p,o)else none)else if fits (h+1)then u (k,m,q,(h+1),p,o)else none) N (f,j,n,b,x,(0:Int),l,i))else some n) N (r,y,([]:List Z1),(0:Int),A,B))
theorem jqQ :mK 181 (bX [.agg [.pv (.sl .str),.pv Y14],.pv Y3,pS] [.pv (.sl .str)] (c4A (s_l7Terms_m N))):=
 mO (fC (jhA N) (fC (jiO N) (fC (jgt N) ja))) func181 rfl N (.seq .no (.seq .no (.seq (.seq .no (.block (.loop jn9 (.seq .no (.seq (.block (.seq .no (.seq .no (.block (.loop jrT .no))))) .no))))) .no))) _
def jnY :Sh:=⟨dz 3 (pS::dz 5 (.own 600009 tI 3 true:: .own 600010 Y15 162 true::pI::dz 28 [])),[]⟩
def s_l7Post_m (p:List Z1) (r:List Z4) (l:Int) (i:Z5) (q:Z6) (m:List UInt8) (h:List UInt8):Option ((List Int)):=
 (oB (s_l6Field_m N l i q m) fun o=>oB (ja5 N p r o) fun n=>iter (fun e (d,c,b,a)=>bif decide (a<(b.length:Int))then oB (idx b a) fun k=>(bif decide (k.1=d)then oB (idx b a) fun f=>(if room c.length ([f.2]:List Int).length 8 then if fits (a+1)then e (d,(c++([f.2]:List Int)),b,(a+1))else none else none)else if fits (a+1)then e (d,c,b,(a+1))else none)else some c) N (h,([]:List Int),n,(0:Int)))
theorem js6 :mK 237 (bX [.agg [.pv (.sl .str),.pv Y14],.agg [pI,.pv Y17,.pv Y13],pS,pS] [.own 1 tI 3 true] (c7A (s_l7Post_m N))):=
 mO (fC (jhA N) (fC (jiO N) ja)) func237 rfl N (.seq .no (.seq .no (.seq .no (.seq (.seq .no (.block (.loop jnY .no))) .no)))) _
def jkw :Sh:=⟨.dead:: .pv Y3::pS::pS:: .box 4 0::dz 3 (.box 8 0:: .box 9 0::pI::dz 34 []),[(4,false,[.pv (.sl .str),.pv Y14]),(8,false,[pS,pS,.nils]),(9,false,[pS,pS,.own 700902 Y12 241 true])]⟩
def s_l7Entry_m (v:List Z1) (w:List Z4) (t:List Z0) (r:List UInt8) (m:List UInt8):Option Z3:=
 (iter (fun p (b,e,j,a,f,d,q,o,h,i,c)=>bif decide (a<(b.length:Int))then oB (idx b a) fun l=>(oB (s_l7Post_m N f d l.1 l.2.1 l.2.2 e j) fun k=>bif decide ((0:Int)<k.length)then oB (idx b a) fun n=>(if room c.length ([(n.1,k)]:Z7).length 32 then if fits (a+1)then p (b,e,j,(a+1),f,d,q,o,h,i,(c++([(n.1,k)]:Z7)))else none else none)else if fits (a+1)then p (b,e,j,(a+1),f,d,q,o,h,i,c)else none)else some (h,i,c)) N (t,r,m,(0:Int),v,w,([]:List UInt8),([]:List UInt8),r,m,([]:Z7)))
theorem jtr :mK 182 (bX [.agg [.pv (.sl .str),.pv Y14],.pv Y3,pS,pS] [.agg [pS,pS,.own 1 Y12 241 true]] (c5A (s_l7Entry_m N))):=
 mO (fC (js6 N) ja) func182 rfl N (.seq .no (.seq .no (.seq (.seq .no (.block (.loop jkw .no))) .no))) _
def s_l7CopyDoc_m (N:Nat) (c:Int) (b:Z5) (a:Z6):Option Z0:=
 (if room ([]:Z5).length b.length 32 then if room ([]:Z6).length a.length 24 then some (c,(([]:Z5)++b),(([]:Z6)++a))else none else none)
theorem jtC :mK 183 (bX [.agg [pI,.pv Y17,.pv Y13]] [.agg [pI,.own 1 Y18 155 true,.own 2 Y15 157 true]] (c3A (s_l7CopyDoc_m N))):=
 mO ja func183 rfl N .no _
def jn8 :Sh:=⟨.dead:: .pv Y3:: .box 2 0:: .dead:: .box 4 0:: .box 5 0:: .pv (.sl .str)::pI::dz 58 [],[(2,false,[.pv (.sl .str),.pv Y14]),(4,false,[.nils,.nils]),(5,false,[.nils,.own 700501 Y6 167 true])]⟩
def jpr :Sh:=⟨.dead:: .pv Y3:: .box 2 0:: .dead:: .box 4 0:: .box 5 0:: .pv (.sl .str)::pI:: .pv (.sl .str)::pI::dz 56 [],[(2,false,[.pv (.sl .str),.pv Y14]),(4,false,[.nils,.nils]),(5,false,[.nils,.own 700501 Y6 167 true])]⟩
def jn0 :Sh:=⟨.dead:: .pv Y3:: .dead:: .dead:: .box 4 0:: .box 5 0::dz 4 (pI::dz 55 []),[(4,false,[.nils,.nils]),(5,false,[.own 700500 Y4 95 true,.own 700501 Y6 167 true])]⟩
def s_l7Of_m (H:List Z1) (I:List Z4) (t:List Z0):Option ((List Z0)×(List Z3)):=
 (oB (s_l7Names_m N t) fun G=>iter (fun B (l,j,f,u,r,v)=>bif decide (f<(j.length:Int))then oB (idx j f) fun C=>(oB (s_l7Terms_m N u r l C) fun E=>iter (fun z (h,p,b,q,c,k,i,e)=>bif decide (c<(q.length:Int))then oB (idx p b) fun D=>(oB (idx q c) fun A=>oB (s_l7Entry_m N k i h D A) fun w=>if room e.length ([w]:List Z3).length 56 then if fits (c+1)then z (h,p,b,q,(c+1),k,i,(e++([w]:List Z3)))else none else none)else if fits (b+1)then B (h,p,(b+1),k,i,e)else none) N (l,j,f,E,(0:Int),u,r,v))else iter (fun K (m,d,o,x)=>bif decide (d<(m.length:Int))then oB (idx m d) fun n=>(oB (s_l7CopyDoc_m N n.1 n.2.1 n.2.2) fun y=>if room o.length ([y]:List Z0).length 56 then if fits (d+1)then K (m,(d+1),(o++([y]:List Z0)),x)else none else none)else some (o,x)) N (l,(0:Int),([]:List Z0),v)) N (t,G,(0:Int),H,I,([]:List Z3)))
theorem jmU :mK 107 (bX [.agg [.pv (.sl .str),.pv Y14],.pv Y3] [.agg [.own 1 Y4 95 true,.own 2 Y6 167 true]] (c3A (s_l7Of_m N))):=
 mO (fC (jlz N) (fC (jqQ N) (fC (jtr N) (fC (jtC N) ja)))) func107 rfl N (.seq .no (.seq .no (.seq .no (.seq (.seq .no (.block (.loop jn8 (.seq .no (.seq (.block (.seq .no (.seq .no (.block (.loop jpr .no))))) .no))))) (.seq (.seq .no (.block (.loop jn0 .no))) .no))))) _
def jnI :Sh:=⟨.pv Y19:: .pv Y19::dz 3 (pI::dz 20 []),[]⟩
def jb1 (e:List Int) (c:List Int):Z10:=
 (bif !decide ((e.length:Int)=(c.length:Int))then some false else iter (fun j (b,d,a)=>bif decide (a<(b.length:Int))then oB (idx b a) fun f=>(oB (idx d a) fun h=>bif !decide (f=h)then some false else if fits (a+1)then j (b,d,(a+1))else none)else some true) N (e,c,(0:Int)))
theorem jlH :mK 292 (bX [.pv Y19,.pv Y19] [pB] (c2A (jb1 N))):=
 mO ja func292 rfl N (.seq .no (.seq .no (.seq (.seq .no (.block (.loop jnI .no))) .no))) _
def jnx :Sh:=⟨.dead:: .dead:: .box 2 0:: .box 3 0:: .dead::pI::dz 57 [],[(2,false,[pS,pS,.pv Y11]),(3,false,[pS,pS,.pv Y11])]⟩
def jbQ (i:List UInt8) (d:List UInt8) (h:Z7) (f:List UInt8) (e:List UInt8) (j:Z7):Z10:=
 (bif !decide (i=f)then some false else bif !decide (d=e)then some false else bif !decide ((h.length:Int)=(j.length:Int))then some false else iter (fun o (a,n,v,b,p,k,c)=>bif decide (a<(b.length:Int))then oB (idx b a) fun q=>(oB (idx c a) fun r=>bif !decide (q.1=r.1)then some false else oB (idx b a) fun m=>oB (idx c a) fun u=>oB (jb1 N m.2 u.2) fun t=>bif !t then some false else if fits (a+1)then o ((a+1),n,v,b,p,k,c)else none)else some true) N ((0:Int),i,d,h,f,e,j))
theorem jtG :mK 225 (bX [.agg [pS,pS,.pv Y11],.agg [pS,pS,.pv Y11]] [pB] (c6A (jbQ N))):=
 mO (fC (jlH N) ja) func225 rfl N (.seq .no (.seq .no (.seq (.seq .no (.block (.loop jnx .no))) .no))) _
def jrW :Sh:=⟨dz 3 (.box 3 0:: .dead:: .box 5 0::pI::dz 39 []),[(3,false,[.pv Y3,.pv Y5]),(5,false,[.own 700500 Y4 95 true,.own 700501 Y6 167 true])]⟩
def jcR (j:List Z1) (k:List Z4) (b:List Z0) (h:List Z3):Z10:=
 (oB (jcw N j k) fun p=>bif !p then some false else oB (jbU N b) fun o=>bif !o then some false else oB (s_l7Of_m N j k b) fun f=>bif !decide ((f.2.length:Int)=(h.length:Int))then some false else iter (fun n (a,q,i,l,e)=>bif decide (a<(e.length:Int))then oB (idx e a) fun c=>(oB (idx i a) fun d=>oB (jbQ N c.1 c.2.1 c.2.2 d.1 d.2.1 d.2.2) fun r=>bif !r then some false else if fits (a+1)then n ((a+1),q,i,l,e)else none)else some true) N ((0:Int),b,h,f.1,f.2))
theorem jpm :mK 166 (bX [.agg [.pv (.sl .str),.pv Y14],.agg [.pv Y3,.pv Y5]] [pB] (c4A (jcR N))):=
 mO (fC (jtf N) (fC (jpx N) (fC (jmU N) (fC (jtG N) ja)))) func166 rfl N (.seq .no (.seq .no (.seq .no (.seq .no (.seq (.seq .no (.block (.loop jrW .no))) .no))))) _
def jCI :Sh:=⟨.pv Y19:: .dead:: .dead::pI::dz 31 [],[]⟩
def jx3 (h:List Int):Z10:=
 (iter (fun c (b,a)=>bif decide (a<(b.length:Int))then oB (idx b a) fun d=>(oB (jJ N d 0 999999999) fun f=>bif !f then some false else bif decide ((0:Int)<a)then oB (idx b a) fun e=>(if fits (a-1)then oB (idx b (a-1)) fun i=>(bif decide (e<=i)then some false else if fits (a+1)then c (b,(a+1))else none)else none)else if fits (a+1)then c (b,(a+1))else none)else some (decide ((b.length:Int)<=60))) N (h,(0:Int)))
theorem jC9 :mK 167 (bX [.pv Y19] [pB] (c1A (jx3 N))):=
 mO (fC (jcL N) ja) func167 rfl N (.seq .no (.seq (.seq .no (.block (.loop jCI .no))) .no)) _
def jA0 :Sh:=⟨.dead::pI:: .box 2 0:: .dead:: .box 4 0::pI::dz 21 [],[(2,false,[.pv Y3,.pv Y5]),(4,false,[pI,.nils,.nils])]⟩
def s_l12Doc_m (l:List Z0) (h:List Z3) (f:Int):Option Z0:=
 (iter (fun m (d,a,b,j,i)=>bif decide (a<(b.length:Int))then oB (idx b a) fun e=>(bif decide (e.1=d)then oB (idx b a) fun c=>(some (c.1,c.2.1,c.2.2))else if fits (a+1)then m (d,(a+1),b,j,i)else none)else some (0,([]:Z5),([]:Z6))) N (f,(0:Int),l,h,(0:Int)))
theorem jDn :mK 168 (bX [.agg [.pv Y3,.pv Y5],pI] [.agg [pI,.pv Y17,.pv Y13]] (c3A (s_l12Doc_m N))):=
 mO ja func168 rfl N (.seq .no (.seq (.seq .no (.block (.loop jA0 .no))) .no)) _
def jJe :Sh:=⟨.pv Y19::pI::dz 3 (pI::dz 12 []),[]⟩
def s_l8Has_m (e:List Int) (h:Int):Z10:=
 (iter (fun i (b,c,a)=>bif decide (a<(b.length:Int))then oB (idx b a) fun d=>(bif decide (d=c)then some true else if fits (a+1)then i (b,c,(a+1))else none)else some false) N (e,h,(0:Int)))
theorem jIb :mK 293 (bX [.pv Y19,pI] [pB] (c2A (s_l8Has_m N))):=
 mO ja func293 rfl N (.seq .no (.seq (.seq .no (.block (.loop jJe .no))) .no)) _
def s_l18Dead_m (d:List Z0) (e:List Z3) (b:List Int) (a:Int):Z10:=
 (oB (s_l8Has_m N b a) fun c=>some c)
theorem jIy :mK 226 (bX [.agg [.pv Y3,.pv Y5,.pv Y19],pI] [pB] (c4A (s_l18Dead_m N))):=
 mO (fC (jIb N) ja) func226 rfl N .no _
def jIl :Sh:=⟨.pv Y3:: .dead:: .dead:: .box 3 0:: .dead::pI::dz 32 [],[(3,false,[pI,.pv Y17,.pv Y13])]⟩
def s_l18Put_m (m:List Z0) (r:Int) (n:Z5) (t:Z6):Z14:=
 (iter (fun p (a,b,c,j,f)=>bif decide (b<(a.length:Int))then oB (idx a b) fun q=>(bif decide (q.1<c)then if fits (b+1)then p (a,(b+1),c,j,f)else none else oB (cut a 0 b) fun e=>if room ([]:List Z0).length e.length 56 then oB (s_l7CopyDoc_m N c j f) fun i=>(if room (([]:List Z0)++e).length ([i]:List Z0).length 56 then oB (cut a b (a.length:Int)) fun l=>(if room ((([]:List Z0)++e)++([i]:List Z0)).length l.length 56 then some (((([]:List Z0)++e)++([i]:List Z0))++l)else none)else none)else none)else oB (cut a 0 b) fun d=>if room ([]:List Z0).length d.length 56 then oB (s_l7CopyDoc_m N c j f) fun h=>(if room (([]:List Z0)++d).length ([h]:List Z0).length 56 then oB (cut a b (a.length:Int)) fun k=>(if room ((([]:List Z0)++d)++([h]:List Z0)).length k.length 56 then some (((([]:List Z0)++d)++([h]:List Z0))++k)else none)else none)else none) N (m,(0:Int),r,n,t))
theorem jJy :mK 227 (bX [.pv Y3,.agg [pI,.pv Y17,.pv Y13]] [.own 1 Y4 95 false] (c4A (s_l18Put_m N))):=
 mO (fC (jtC N) ja) func227 rfl N (.seq .no (.seq .no (.seq (.block (.loop jIl .no)) .no))) _
def jI2 :Sh:=⟨.dead:: .box 1 0:: .dead:: .own 600003 Y4 95 false::pI::dz 45 [],[(1,false,[.pv (.sl .str),.pv Y14,.pv Y0])]⟩
def jJx :Sh:=⟨.dead:: .box 1 0:: .dead:: .own 600003 Y4 95 false::pI::pI::dz 44 [],[(1,false,[.pv (.sl .str),.pv Y14,.pv Y0])]⟩
def s_l18Docs_m (o:List Z1) (u:List Z4) (v:List Z2):Z14:=
 (iter (fun q (n,l,p,y,m)=>bif decide (l<(m.length:Int))then iter (fun k (j,a,c,e,f,b)=>oB (idx b a) fun r=>bif decide (c<(r.1.1.length:Int))then oB (idx b a) fun t=>(oB (idx t.1.1 c) fun d=>oB (idx b a) fun i=>oB (s_l18Dead_m N i.1.1 i.1.2 i.2 d.1) fun x=>bif !x then oB (s_l18Put_m N j d.1 d.2.1 d.2.2) fun w=>(if fits (c+1)then k (w,a,(c+1),e,f,b)else none)else if fits (c+1)then k (j,a,(c+1),e,f,b)else none)else if fits (a+1)then q (j,(a+1),e,f,b)else none) N (n,l,(0:Int),p,y,m)else some n) N (([]:List Z0),(0:Int),o,u,v))
theorem jH3 :mK 169 (bX [.agg [.pv (.sl .str),.pv Y14,.pv Y0]] [.own 1 Y4 95 false] (c3A (s_l18Docs_m N))):=
 mO (fC (jIy N) (fC (jJy N) ja)) func169 rfl N (.seq .no (.seq .no (.seq (.seq .no (.block (.loop jI2 (.seq .no (.seq (.block (.seq .no (.block (.loop jJx .no)))) .no))))) .no))) _
def jIz :Sh:=⟨.dead:: .box 1 0:: .dead::pI::dz 67 [],[(1,false,[.pv (.sl .str),.pv Y14,.pv Y0])]⟩
def jJd :Sh:=⟨.dead:: .box 1 0:: .dead::pI:: .box 4 0::pI::dz 22 (pB::dz 9 (pB::dz 32 [])),[(1,false,[.pv (.sl .str),.pv Y14,.pv Y0]),(4,false,[.pv Y3,.pv Y5,.pv Y19])]⟩
def s_l18Ok_m (q:List Z1) (x:List Z4) (y:List Z2):Z10:=
 (iter (fun v (f,c,e,b)=>bif decide (f<(b.length:Int))then oB (idx b f) fun a=>(oB (jcR N c e a.1.1 a.1.2) fun A=>bif !A then some false else oB (jx3 N a.2) fun p=>bif !p then some false else bif decide ((a.1.1.length:Int)<=(a.2.length:Int))then some false else iter (fun t (i,d,C,D,l,n,k,o,m,j)=>bif decide (d<(j.length:Int))then oB (idx j d) fun w=>(oB (s_l12Doc_m N o m w) fun z=>bif decide (z.1=0)then some false else if fits (d+1)then t (i,(d+1),C,D,l,n,k,o,m,j)else none)else if fits (i+1)then v ((i+1),l,n,k)else none) N (f,(0:Int),(!p),(decide ((a.1.1.length:Int)<=(a.2.length:Int))),c,e,b,a.1.1,a.1.2,a.2))else oB (jcw N c e) fun B=>bif B then bif decide ((b.length:Int)<=5)then oB (s_l18Docs_m N c e b) fun u=>(oB (jbU N u) fun r=>some r)else(some false)else some false) N ((0:Int),q,x,y))
theorem jIW :mK 92 (bX [.agg [.pv (.sl .str),.pv Y14,.pv Y0]] [pB] (c3A (s_l18Ok_m N))):=
 mO (fC (jpm N) (fC (jC9 N) (fC (jDn N) (fC (jtf N) (fC (jH3 N) (fC (jpx N) ja)))))) func92 rfl N (.seq .no (.seq (.seq .no (.block (.loop jIz (.seq .no (.seq (.block (.seq .no (.seq .no (.seq .no (.block (.loop jJd .no)))))) .no))))) .no)) _
def jX7 :Sh:=⟨.dead:: .box 1 0:: .dead::pS::pI::dz 36 [],[(1,false,[.pv Y3,.pv Y5,.pv Y19])]⟩
def jYu :Sh:=⟨.dead:: .box 1 0:: .dead::pS:: .dead::pI::dz 35 [],[(1,false,[.pv Y3,.pv Y5,.pv Y19])]⟩
def s_l19Seg_m (r:List Z0) (p:List Z3) (u:List Int):Option (Z1):=
 (iter (fun q (h,b,d,l,k)=>bif decide (b<(d.length:Int))then oB (idx d b) fun i=>(oB (s_l6Put_m N i.1 i.2.1 i.2.2) fun m=>if h.length+m.length<=9223372036854775807 then if fits (b+1)then q ((h++m),(b+1),d,l,k)else none else none)else iter (fun o (a,c,n,v,f)=>bif decide (c<(f.length:Int))then if a.length+([100,101,97,100,32]:List UInt8).length<=9223372036854775807 then oB (idx f c) fun t=>(oB (s_l1Dec_m N N t) fun j=>if(a++([100,101,97,100,32]:List UInt8)).length+j.length<=9223372036854775807 then if((a++([100,101,97,100,32]:List UInt8))++j).length+([10]:List UInt8).length<=9223372036854775807 then if fits (c+1)then o ((((a++([100,101,97,100,32]:List UInt8))++j)++([10]:List UInt8)),(c+1),n,v,f)else none else none else none)else none else some a) N (h,(0:Int),d,l,k)) N (([]:List UInt8),(0:Int),r,p,u))
theorem jX1 :mK 108 (bX [.agg [.pv Y3,.pv Y5,.pv Y19]] [pS] (c3A (s_l19Seg_m N))):=
 mO (fC (jYI N) (fC (jOx N N) ja)) func108 rfl N (.seq .no (.seq .no (.seq (.seq .no (.block (.loop jX7 .no))) (.seq (.seq .no (.block (.loop jYu .no))) .no)))) _
def s_l19Get_m (c:List Z1) (e:List Z4) (d:List UInt8):Option ((List Z0)×(List Z3)×(List Int)×Bool):=
 (oB (s_l19Docs_m N d) fun a=>oB (jbU N a.1) fun f=>bif !f then some (([]:List Z0),([]:List Z3),([]:List Int),false)else bif decide ((a.1.length:Int)=0)then some (([]:List Z0),([]:List Z3),([]:List Int),false)else oB (s_l7Of_m N c e a.1) fun b=>oB (s_l18Ok_m N c e ([(b,a.2)]:List Z2)) fun h=>bif !h then some (([]:List Z0),([]:List Z3),([]:List Int),false)else oB (s_l19Seg_m N b.1 b.2 a.2) fun i=>bif !decide (i=d)then some (([]:List Z0),([]:List Z3),([]:List Int),false)else some (b.1,b.2,a.2,true))
theorem jYR :mK 42 (bX [.agg [.pv (.sl .str),.pv Y14],pS] [.tup [.agg [.pv Y3,.pv Y5,.pv Y19],pB]] (c3A (s_l19Get_m N))):=
 mO (fC (jYQ N) (fC (jpx N) (fC (jmU N) (fC (jIW N) (fC (jX1 N) ja))))) func42 rfl N .no _
def jaw (N:Nat) (a:Int):Z10:=
 (bif decide ((97:Int)<=a)then bif decide (a<=122)then some true else(bif decide ((48:Int)<=a)then some (decide (a<=57))else some false)else bif decide ((48:Int)<=a)then some (decide (a<=57))else some false)
theorem jeK :mK 148 (bX [.pv (.int .u8)] [pB] (c1A (jaw N))):=
 mO ja func148 rfl N .no _
def jm (N:Nat) (a:Int) (b:Int) (c:Int):Z10:=
 (bif decide (b<=a)then some (decide (a<=c))else some false)
theorem jY :mK 111 (bX [pI,pI,pI] [pB] (c3A (jm N))):=
 mO ja func111 rfl N .no _
def jqW :Sh:=⟨pS::dz 4 (pI::pI::dz 11 []),[]⟩
def jO (c:List UInt8):Z10:=
 (iter (fun j (b,d,a)=>bif decide (a<d)then oB (idx b a) fun h=>(oB (jaw N (h.toNat:Int)) fun f=>bif !f then some false else if fits (a+1)then j (b,d,(a+1))else none)else oB (jm N (b.length:Int) 1 12) fun e=>some e) N (c,(c.length:Int),(0:Int)))
theorem jcM :mK 71 (bX [pS] [pB] (c1A (jO N))):=
 mO (fC (jeK N) (fC (jY N) ja)) func71 rfl N (.seq .no (.seq (.seq .no (.block (.loop jqW .no))) .no)) _
def jmc :Sh:=⟨.pv (.sl .str)::dz 4 (.pv (.sl .str)::pI::pI::dz 21 []),[]⟩
def jb2 (c:List Z1):Z10:=
 (iter (fun h (d,e,b,a)=>bif decide (a<b)then oB (idx e a) fun f=>(oB (jO N f) fun j=>bif !j then some false else bif decide ((0:Int)<a)then if fits (a-1)then oB (idx d (a-1)) fun i=>(bif !Op.bytesLess i f then some false else if fits (a+1)then h (d,e,b,(a+1))else none)else none else if fits (a+1)then h (d,e,b,(a+1))else none)else some true) N (c,c,(c.length:Int),(0:Int)))
theorem jtw :mK 110 (bX [.pv (.sl .str)] [pB] (c1A (jb2 N))):=
 mO (fC (jcM N) ja) func110 rfl N (.seq .no (.seq (.seq .no (.block (.loop jmc .no))) .no)) _
def jdF (N:Nat) (a:List UInt8) (b:List UInt8):Z10:=
 (bif decide ((b.length:Int)<=(a.length:Int))then if fits ((a.length:Int)-(b.length:Int))then oB (cut a ((a.length:Int)-(b.length:Int)) (a.length:Int)) fun c=>(some (decide (c=b)))else none else some false)
theorem jpU :mK 238 (bX [pS,pS] [pB] (c2A (jdF N))):=
 mO ja func238 rfl N .no _
def jcN (b:List UInt8) (a:List UInt8):Z10:=
 (oB (jdF N b a) fun c=>some c)
theorem jsu :mK 185 (bX [pS,pS] [pB] (c2A (jcN N))):=
 mO (fC (jpU N) ja) func185 rfl N .no _
def jod :Sh:=⟨pS:: .dead:: .dead::pB::dz 32 [],[]⟩
def jnf :Sh:=⟨pS:: .dead:: .dead::pB::dz 6 (.own 600010 .str 9 true::pI::pI::dz 23 []),[]⟩
def jaB (k:List UInt8):Option (Z1):=
 (oB (jO N k) fun p=>bif !p then some ([]:List UInt8)else iter (fun l (i,n)=>bif n then iter (fun j (a,e,f,d,b)=>bif decide (b<d)then oB (idx f b) fun c=>(oB (jcN N a c) fun o=>bif o then if fits ((a.length:Int)-(c.length:Int))then bif decide ((3:Int)<=((a.length:Int)-(c.length:Int)))then if fits ((a.length:Int)-(c.length:Int))then oB (cut a 0 ((a.length:Int)-(c.length:Int))) fun m=>(l (m,true))else none else(if fits (b+1)then j (a,e,f,d,(b+1))else none)else none else if fits (b+1)then j (a,e,f,d,(b+1))else none)else l (a,e)) N (i,false,([([105,110,103]:List UInt8),([101,100]:List UInt8),([101,115]:List UInt8),([108,121]:List UInt8),([115]:List UInt8)]:List Z1),(([([105,110,103]:List UInt8),([101,100]:List UInt8),([101,115]:List UInt8),([108,121]:List UInt8),([115]:List UInt8)]:List Z1).length:Int),(0:Int))else some i) N (k,true))
theorem jio :mK 112 (bX [pS] [pS] (c1A (jaB N))):=
 mO (fC (jcM N) (fC (jsu N) ja)) func112 rfl N (.seq .no (.seq .no (.seq (.seq .no (.block (.loop jod (.seq .no (.block (.seq .no (.seq .no (.block (.loop jnf .no))))))))) .no))) _
def jkJ :Sh:=⟨.pv (.sl .str)::pS::dz 5 (pI::pI::dz 10 []),[]⟩
def jdH (d:List Z1) (h:List UInt8):Z16:=
 (iter (fun j (c,b,e,a)=>bif decide (a<e)then oB (idx c a) fun f=>(bif decide (b=f)then some a else if fits (a+1)then j (c,b,e,(a+1))else none)else some (-1)) N (d,h,(d.length:Int),(0:Int)))
theorem jkZ :mK 186 (bX [.pv (.sl .str),pS] [pI] (c2A (jdH N))):=
 mO ja func186 rfl N (.seq .no (.seq (.seq .no (.block (.loop jkJ .no))) .no)) _
def jao (b:List Z1) (a:List UInt8):Z10:=
 (oB (jdH N b a) fun c=>some (decide ((0:Int)<=c)))
theorem jh5 :mK 113 (bX [.pv (.sl .str),pS] [pB] (c2A (jao N))):=
 mO (fC (jkZ N) ja) func113 rfl N .no _
def jmj :Sh:=⟨.dead:: .box 1 0::dz 22 (.pv Y14::pI::pI::dz 46 []),[(1,false,[.pv (.sl .str),.pv Y14])]⟩
def jrC :Sh:=⟨.dead:: .box 1 0::dz 22 (.pv Y14::pI::pI::dz 12 (pB::dz 7 (pB:: .dead:: .dead:: .pv (.sl .str)::pI::pI::dz 20 []))),[(1,false,[.pv (.sl .str),.pv Y14])]⟩
def jaj (i:List Z1) (d:List Z4):Z10:=
 (bif decide ((6:Int)<i.length)then some false else oB (jb2 N i) fun E=>bif !E then some false else bif decide ((4:Int)<d.length)then some false else iter (fun z (l,p,j,x,u)=>bif decide (j<p)then oB (idx l j) fun a=>(oB (jm N (a.1.length:Int) 1 3) fun C=>bif !C then some false else oB (jO N a.2) fun o=>bif !o then some false else oB (jaB N a.2) fun t=>bif !decide (t=a.2)then some false else iter (fun w (q,r,e,B,A,n,k,c,h,m)=>bif decide (c<k)then oB (idx n c) fun b=>(oB (jO N b) fun y=>bif !y then some false else oB (jaB N b) fun v=>bif !decide (v=b)then some false else oB (jao N h b) fun D=>bif D then some false else if fits (c+1)then w (q,r,e,B,A,n,k,(c+1),h,m)else none)else if fits (e+1)then z (q,r,(e+1),h,m)else none) N (l,p,j,(!o),(!decide (t=a.2)),a.1,(a.1.length:Int),(0:Int),x,u))else some true) N (d,(d.length:Int),(0:Int),i,d))
theorem jdX :mK 45 (bX [.agg [.pv (.sl .str),.pv Y14]] [pB] (c2A (jaj N))):=
 mO (fC (jtw N) (fC (jY N) (fC (jcM N) (fC (jio N) (fC (jh5 N) ja))))) func45 rfl N (.seq .no (.seq .no (.seq (.seq .no (.block (.loop jmj (.seq .no (.seq .no (.seq (.block (.seq .no (.seq .no (.seq .no (.block (.loop jrC .no)))))) .no)))))) .no))) _
def k_strings_Split_m (N:Nat) (a:List UInt8) (b:List UInt8):Option ((List Z1)):=splitM a b
 
def jYt (N:Nat):Model:=⟨⟨[pS,pS],[]⟩,⟨[.pv (.sl .str)],[]⟩,c2A (k_strings_Split_m N)⟩
theorem jYi :mK 46 (jYt N):=jYA
def k_internal_stringslite_HasPrefix_m (N:Nat) (b:List UInt8) (a:List UInt8):Z10:=
 (bif decide ((a.length:Int)<=(b.length:Int))then oB (cut b 0 (a.length:Int)) fun c=>(some (decide (c=a)))else some false)
theorem jXE :mK 118 (bX [pS,pS] [pB] (c2A (k_internal_stringslite_HasPrefix_m N))):=
 mO ja func118 rfl N .no _
def k_internal_stringslite_CutPrefix_m (a:List UInt8) (b:List UInt8):Option (Z1×Bool):=
 (oB (k_internal_stringslite_HasPrefix_m N a b) fun d=>bif !d then some (a,false)else oB (cut a (b.length:Int) (a.length:Int)) fun c=>some (c,true))
theorem jYb :mK 115 (bX [pS,pS] [.tup [pS,pB]] (c2A (k_internal_stringslite_CutPrefix_m N))):=
 mO (fC (jXE N) ja) func115 rfl N .no _
def k_strings_CutPrefix_m (c:List UInt8) (b:List UInt8):Option (Z1×Bool):=
 (oB (k_internal_stringslite_CutPrefix_m N c b) fun a=>some (a.1,a.2))
theorem jYg :mK 47 (bX [pS,pS] [.tup [pS,pB]] (c2A (k_strings_CutPrefix_m N))):=
 mO (fC (jYb N) ja) func47 rfl N .no _
def jXn (N:Nat) (a:List UInt8):Option Int:=atoiM a
 
def jYe (N:Nat):Model:=⟨⟨[pS],[]⟩,⟨[.tup [pI,.dead]],[]⟩,c1A (jXn N)⟩
theorem jXC :mK 48 (jYe N):=jYw
def k_strings_HasPrefix_m (b:List UInt8) (a:List UInt8):Z10:=
 (oB (k_internal_stringslite_HasPrefix_m N b a) fun c=>some c)
theorem jXS :mK 49 (bX [pS,pS] [pB] (c2A (k_strings_HasPrefix_m N))):=
 mO (fC (jXE N) ja) func49 rfl N .no _
def k_strings_Cut_m (N:Nat) (a:List UInt8) (b:List UInt8):Option (Z1×Z1×Bool):=cutM a b
 
def jYv (N:Nat):Model:=⟨⟨[pS,pS],[]⟩,⟨[.tup [pS,pS,pB]],[]⟩,c2A (k_strings_Cut_m N)⟩
theorem jX0 :mK 119 (jYv N):=jXX
def jYp :Sh:=⟨.dead:: .dead:: .box 2 0:: .box 3 0::dz 13 (.pv (.sl .str)::pI::pI::dz 51 []),[(2,false,[pI,.nils,.nils]),(3,false,[pI,.own 700301 Y18 155 true,.own 700302 Y15 157 true])]⟩
def jXo (l:List Z1):Option Z0:=
 (iter (fun k (f,e,a,j,i,c,d)=>bif decide (a<e)then oB (idx f a) fun n=>(oB (k_strings_Cut_m N n ([32]:List UInt8)) fun h=>oB (k_strings_Cut_m N h.2.1 ([32]:List UInt8)) fun b=>bif decide (h.1=([100,111,99]:List UInt8))then oB (jXn N h.2.1) fun o=>(if fits (a+1)then k (f,e,(a+1),j,o,c,d)else none)else bif decide (h.1=([102,105,101,108,100]:List UInt8))then if room c.length ([(b.1,b.2.1)]:Z5).length 32 then if fits (a+1)then k (f,e,(a+1),j,i,(c++([(b.1,b.2.1)]:Z5)),d)else none else none else bif decide (h.1=([110,117,109]:List UInt8))then oB (jXn N b.2.1) fun m=>(if room d.length ([(b.1,m)]:Z6).length 24 then if fits (a+1)then k (f,e,(a+1),j,i,c,(d++([(b.1,m)]:Z6)))else none else none)else if fits (a+1)then k (f,e,(a+1),j,i,c,d)else none)else some (i,c,d)) N (l,(l.length:Int),(0:Int),(0:Int),(0:Int),([]:Z5),([]:Z6)))
theorem jYG :mK 50 (bX [.pv (.sl .str)] [.agg [pI,.own 1 Y18 155 true,.own 2 Y15 157 true]] (c1A (jXo N))):=
 mO (fC (jX0 N) (fC (jXC N) ja)) func50 rfl N (.seq .no (.seq .no (.seq (.seq .no (.block (.loop jYp .no))) .no))) _
def jtd :Sh:=⟨pS::dz 4 (pI::pI::dz 16 []),[]⟩
def jaF (c:List UInt8):Z10:=
 (iter (fun i (b,d,a)=>bif decide (a<d)then oB (idx b a) fun e=>(bif decide ((e.toNat:Int)<32)then some false else oB (idx b a) fun h=>bif decide ((126:Int)<(h.toNat:Int))then some false else if fits (a+1)then i (b,d,(a+1))else none)else some (decide ((b.length:Int)<=160))) N (c,(c.length:Int),(0:Int)))
theorem jdK :mK 197 (bX [pS] [pB] (c1A (jaF N))):=
 mO ja func197 rfl N (.seq .no (.seq (.seq .no (.block (.loop jtd .no))) .no)) _
def jlC :Sh:=⟨.dead:: .box 1 0::dz 22 (.pv Y17::pI::pI::dz 66 []),[(1,false,[pI,.pv Y17,.pv Y13])]⟩
def jpt :Sh:=⟨.dead:: .box 1 0::dz 57 (.pv Y13::pI::pI::dz 31 []),[(1,false,[pI,.pv Y17,.pv Y13])]⟩
def i_DocOk_m (r:Int) (d:Z5) (u:Z6):Z10:=
 (oB (jm N r 1 9999) fun A=>bif !A then some false else bif decide ((3:Int)<d.length)then some false else bif decide ((3:Int)<u.length)then some false else iter (fun q (h,o,b,f,e,c)=>bif decide (b<o)then oB (idx h b) fun k=>(oB (jO N k.1) fun z=>bif !z then some false else oB (jaF N k.2) fun y=>bif !y then some false else bif decide ((0:Int)<b)then if fits (b-1)then oB (idx e (b-1)) fun x=>(bif !Op.bytesLess x.1 k.1 then some false else if fits (b+1)then q (h,o,(b+1),f,e,c)else none)else none else if fits (b+1)then q (h,o,(b+1),f,e,c)else none)else iter (fun p (m,l,a,v,t,n)=>bif decide (a<l)then oB (idx m a) fun i=>(oB (jO N i.1) fun C=>bif !C then some false else oB (jm N i.2 0 999999999) fun w=>bif !w then some false else bif decide ((0:Int)<a)then if fits (a-1)then oB (idx n (a-1)) fun B=>(bif !Op.bytesLess B.1 i.1 then some false else if fits (a+1)then p (m,l,(a+1),v,t,n)else none)else none else if fits (a+1)then p (m,l,(a+1),v,t,n)else none)else some true) N (c,(c.length:Int),(0:Int),f,e,c)) N (d,(d.length:Int),(0:Int),r,d,u))
theorem jh0 :mK 153 (bX [.agg [pI,.pv Y17,.pv Y13]] [pB] (c3A (i_DocOk_m N))):=
 mO (fC (jY N) (fC (jcM N) (fC (jdK N) ja))) func153 rfl N (.seq .no (.seq .no (.seq (.seq .no (.block (.loop jlC .no))) (.seq (.seq .no (.block (.loop jpt .no))) .no)))) _
def jpj :Sh:=⟨.pv Y3::dz 4 (.pv Y3::pI::pI::dz 26 []),[]⟩
def jbf (e:List Z0):Z10:=
 (iter (fun h (c,f,d,a)=>bif decide (a<d)then oB (idx f a) fun b=>(oB (i_DocOk_m N b.1 b.2.1 b.2.2) fun j=>bif !j then some false else bif decide ((0:Int)<a)then if fits (a-1)then oB (idx c (a-1)) fun i=>(bif decide (b.1<=i.1)then some false else if fits (a+1)then h (c,f,d,(a+1))else none)else none else if fits (a+1)then h (c,f,d,(a+1))else none)else some (decide ((c.length:Int)<=16))) N (e,e,(e.length:Int),(0:Int)))
theorem jjU :mK 73 (bX [.pv Y3] [pB] (c1A (jbf N))):=
 mO (fC (jh0 N) ja) func73 rfl N (.seq .no (.seq (.seq .no (.block (.loop jpj .no))) .no)) _
def jbO (N:Nat) (c:Int) (b:Z5) (a:Z6):Option Z0:=
 (if room ([]:Z5).length b.length 32 then if room ([]:Z6).length a.length 24 then some (c,(([]:Z5)++b),(([]:Z6)++a))else none else none)
theorem jrI :mK 196 (bX [.agg [pI,.pv Y17,.pv Y13]] [.agg [pI,.own 1 Y18 155 true,.own 2 Y15 157 true]] (c3A (jbO N))):=
 mO ja func196 rfl N .no _
def joW :Sh:=⟨dz 3 (.own 600003 Y4 95 true::dz 3 (.pv Y3::pI::pI::dz 10 [])),[]⟩
def jbV (f:List Z0):Z14:=
 (iter (fun j (c,h,d,a)=>bif decide (a<d)then oB (idx h a) fun b=>(oB (jbO N b.1 b.2.1 b.2.2) fun e=>if room c.length ([e]:List Z0).length 56 then if fits (a+1)then j ((c++([e]:List Z0)),h,d,(a+1))else none else none)else some c) N (([]:List Z0),f,(f.length:Int),(0:Int)))
theorem joC :mK 120 (bX [.pv Y3] [.own 1 Y4 95 true] (c1A (jbV N))):=
 mO (fC (jrI N) ja) func120 rfl N (.seq .no (.seq .no (.seq (.seq .no (.block (.loop joW .no))) .no))) _
def jI (N:Nat) (a:Int):Z16:=
 (bif decide ((65:Int)<=a)then bif decide (a<=90)then some (IntKind.u8.wrap ((IntKind.u8.wrap (a+97))-65))else(some a)else some a)
theorem jmu :mK 246 (bX [.pv (.int .u8)] [.pv (.int .u8)] (c1A (jI N))):=
 mO ja func246 rfl N .no _
def jpB :Sh:=⟨pS:: .dead:: .dead:: .own 600003 Y7 233 true::pI::dz 57 [],[]⟩
def jo6 :Sh:=⟨pS:: .dead:: .dead:: .own 600003 Y7 233 true::pI:: .box 5 0:: .own 600006 (.int .u8) 5 true::dz 55 [],[(5,false,[pS,pI,pI,pI])]⟩
def jct (o:List UInt8):Option ((List Z11)):=
 (oB (jaF N o) fun w=>bif !w then some ([]:List Z11)else iter (fun l (i,j,d)=>bif decide (d<(i.length:Int))then oB (idx i d) fun x=>(oB (jI N (x.toNat:Int)) fun v=>oB (jaw N v) fun u=>bif !u then if fits (d+1)then l (i,j,(d+1))else none else iter (fun n (c,f,a,b,q,h,e,p)=>bif decide (a<(c.length:Int))then oB (idx c a) fun z=>(oB (jI N (z.toNat:Int)) fun y=>oB (jaw N y) fun t=>bif t then bif decide ((b.length:Int)<12)then oB (idx c a) fun r=>(oB (jI N (r.toNat:Int)) fun m=>if room b.length ([m]:List Int).length 1 then if fits (a+1)then n (c,f,(a+1),(b++([m]:List Int)),q,h,e,p)else none else none)else(if fits (a+1)then n (c,f,(a+1),b,q,h,e,p)else none)else if room f.length ([((bytesOf b),h,e,a)]:List Z11).length 40 then l (c,(f++([((bytesOf b),h,e,a)]:List Z11)),a)else none)else if room f.length ([((bytesOf b),h,e,a)]:List Z11).length 40 then l (c,(f++([((bytesOf b),h,e,a)]:List Z11)),a)else none) N (i,j,d,([]:List Int),([]:List UInt8),(j.length:Int),d,(0:Int)))else some j) N (o,([]:List Z11),(0:Int)))
theorem jqc :mK 198 (bX [pS] [.own 1 Y7 233 true] (c1A (jct N))):=
 mO (fC (jdK N) (fC (jmu N) (fC (jeK N) ja))) func198 rfl N (.seq .no (.seq .no (.seq .no (.seq (.seq .no (.block (.loop jpB (.seq .no (.block (.seq .no (.seq .no (.seq .no (.seq (.block (.loop jo6 .no)) .no))))))))) .no)))) _
def jty :Sh:=⟨.dead:: .pv Y13::pI:: .box 3 0::dz 3 (.pv (.opt Y16)::dz 8 (pI::pI::dz 73 [])),[(3,false,[.pv (.sl .str),.pv Y14])]⟩
def jss :Sh:=⟨.dead:: .pv Y13::pI:: .box 3 0::dz 3 (.pv (.opt Y16):: .dead:: .ptr Y16::pB::dz 5 (pI::pI::dz 31 (pB::dz 4 (.pv (.sl .str)::pI::pI::dz 34 [])))),[(3,false,[.pv (.sl .str),.pv Y14])]⟩
def jbH (c:List Z1) (c2:List Z4) (terms:Z6) (at0:Int):Option ((Option Z4)):=
 (iter (fun go (terms2,at02,best,t16,t17,c3,c4)=>bif decide (t17<t16)then oB (idx c4 t17) fun e=>(if fits ((terms2.length:Int)-at02)then bif decide (((terms2.length:Int)-at02)<(e.1.length:Int))then if fits (t17+1)then go (terms2,at02,best,t16,(t17+1),c3,c4)else none else(bif !(Option.isNone best)then oB best fun p=>(bif decide ((e.1.length:Int)<=(p.1.length:Int))then if fits (t17+1)then go (terms2,at02,best,t16,(t17+1),c3,c4)else none else iter (fun go2 (terms3,at03,best2,r,fits0,t162,t172,t49,t54,t55,t56,c5,c6)=>bif decide (t56<t55)then oB (idx t54 t56) fun e2=>(if fits (at03+t56)then oB (idx terms3 (at03+t56)) fun e3=>(bif fits0 then bif decide (e3.1=e2)then oB (idx terms3 at03) fun e4=>(if fits (e4.2+t56)then if fits (t56+1)then go2 (terms3,at03,best2,r,(decide (e3.2=(e4.2+t56))),t162,t172,t49,t54,t55,(t56+1),c5,c6)else none else none)else(if fits (t56+1)then go2 (terms3,at03,best2,r,false,t162,t172,t49,t54,t55,(t56+1),c5,c6)else none)else if fits (t56+1)then go2 (terms3,at03,best2,r,false,t162,t172,t49,t54,t55,(t56+1),c5,c6)else none)else none)else bif fits0 then if fits (t172+1)then go (terms3,at03,(some r),t162,(t172+1),c5,c6)else none else if fits (t172+1)then go (terms3,at03,best2,t162,(t172+1),c5,c6)else none) N (terms2,at02,best,e,true,t16,t17,(decide ((e.1.length:Int)<=(p.1.length:Int))),e.1,(e.1.length:Int),(0:Int),c3,c4))else iter (fun go3 (terms4,at04,best3,r2,fits02,t163,t173,t492,t542,t552,t562,c7,c8)=>bif decide (t562<t552)then oB (idx t542 t562) fun e5=>(if fits (at04+t562)then oB (idx terms4 (at04+t562)) fun e6=>(bif fits02 then bif decide (e6.1=e5)then oB (idx terms4 at04) fun e7=>(if fits (e7.2+t562)then if fits (t562+1)then go3 (terms4,at04,best3,r2,(decide (e6.2=(e7.2+t562))),t163,t173,t492,t542,t552,(t562+1),c7,c8)else none else none)else(if fits (t562+1)then go3 (terms4,at04,best3,r2,false,t163,t173,t492,t542,t552,(t562+1),c7,c8)else none)else if fits (t562+1)then go3 (terms4,at04,best3,r2,false,t163,t173,t492,t542,t552,(t562+1),c7,c8)else none)else none)else bif fits02 then if fits (t173+1)then go (terms4,at04,(some r2),t163,(t173+1),c7,c8)else none else if fits (t173+1)then go (terms4,at04,best3,t163,(t173+1),c7,c8)else none) N (terms2,at02,best,e,true,t16,t17,false,e.1,(e.1.length:Int),(0:Int),c3,c4))else none)else some best) N (terms,at0,(none:Option Z4),(c2.length:Int),(0:Int),c,c2))
theorem jtv :mK 199 (bX [.agg [.pv (.sl .str),.pv Y14],.pv Y13,pI] [.pv (.opt Y16)] (c4A (jbH N))):=
 mO ja func199 rfl N (.seq .no (.seq .no (.seq (.seq .no (.block (.loop jty (.seq .no (.seq .no (.seq (.block (.seq .no (.seq .no (.seq .no (.seq .no (.seq (.seq .no (.block (.loop jss .no))) .no)))))) .no)))))) .no))) _
def jlW :Sh:=⟨.dead:: .dead:: .box 2 0:: .dead:: .dead:: .own 600005 Y15 162 true:: .own 600006 Y15 162 true::dz 17 (.own 600024 Y7 233 true::pI::pI::dz 67 []),[(2,false,[.pv (.sl .str),.pv Y14])]⟩
def jnt :Sh:=⟨.dead:: .dead:: .box 2 0:: .dead:: .dead:: .own 600005 Y15 162 true:: .own 600006 Y15 162 true::dz 3 (pI::dz 83 []),[(2,false,[.pv (.sl .str),.pv Y14])]⟩
def jbw (z:List Z1) (B:List Z4) (v:List UInt8):Option (Z9):=
 (oB (jaj N z B) fun G=>bif !G then some ([]:Z6)else oB (jaF N v) fun E=>bif !E then some ([]:Z6)else oB (jct N v) fun x=>iter (fun p (j,f,i,l,b,c,h)=>bif decide (b<l)then oB (idx i b) fun k=>(oB (jaB N k.1) fun m=>oB (jao N c k.1) fun D=>bif !D then oB (jao N c m) fun C=>(bif !C then if room f.length ([(m,k.2.1)]:Z6).length 24 then if fits (b+1)then p (j,(f++([(m,k.2.1)]:Z6)),i,l,(b+1),c,h)else none else none else if fits (b+1)then p (j,f,i,l,(b+1),c,h)else none)else if fits (b+1)then p (j,f,i,l,(b+1),c,h)else none)else iter (fun t (e,d,a,q,o)=>bif decide (a<(d.length:Int))then oB (jbH N q o d a) fun r=>(bif Option.isNone r then oB (idx d a) fun w=>(if room e.length ([w]:Z6).length 24 then if fits (a+1)then t ((e++([w]:Z6)),d,(a+1),q,o)else none else none)else oB r fun A=>oB (idx d a) fun u=>if room e.length ([(A.2,u.2)]:Z6).length 24 then oB r fun y=>(if fits (a+(y.1.length:Int))then t ((e++([(A.2,u.2)]:Z6)),d,(a+(y.1.length:Int)),q,o)else none)else none)else some e) N (j,f,(0:Int),c,h)) N (([]:Z6),([]:Z6),x,(x.length:Int),(0:Int),z,B))
theorem jgO :mK 121 (bX [.agg [.pv (.sl .str),.pv Y14],pS] [.own 1 Y15 162 true] (c3A (jbw N))):=
 mO (fC (jdX N) (fC (jdK N) (fC (jqc N) (fC (jio N) (fC (jh5 N) (fC (jtv N) ja)))))) func121 rfl N (.seq .no (.seq .no (.seq .no (.seq .no (.seq (.seq .no (.block (.loop jlW .no))) (.seq (.seq .no (.block (.loop jnt .no))) .no)))))) _
def k__loop_example_fossick_impl_Seg_put_1_m (N:Nat) (a:List UInt8) (d:List UInt8) (e:Z7) (b:List UInt8) (c:Z1×Int):Z10:=
 (bif decide (a=b)then some (decide (d=c.1))else some false)
theorem jmw :mK 201 (bX [.agg [pS,pS,.pv Y11],.ptr .str,.ptr Y15] [pB] (c5A (k__loop_example_fossick_impl_Seg_put_1_m N))):=
 mO ja func201 rfl N .no _
def jnc :Sh:=⟨.pv Y5:: .clo 201 [.ptr .str,.ptr Y15]::dz 5 (pI::pI::dz 10 []),[]⟩
def k_slices_IndexFunc_146_m (e:List Z3) (j:Z1×Z1×Int):Z16:=
 (iter (fun k (d,c,f,a)=>bif decide (a<f)then oB (idx d a) fun b=>(oB (k__loop_example_fossick_impl_Seg_put_1_m N b.1 b.2.1 b.2.2 c.1 c.2) fun h=>bif h then some a else if fits (a+1)then k (d,c,f,(a+1))else none)else some (-1)) N (e,j,(e.length:Int),(0:Int)))
theorem jrl :mK 200 (bX [.pv Y5,.clo 201 [.ptr .str,.ptr Y15]] [pI] (c2A (k_slices_IndexFunc_146_m N))):=
 mO (fC (jmw N) ja) func200 rfl N (.seq .no (.seq (.seq .no (.block (.loop jnc .no))) .no)) _
def i_Seg_put_m (h:List UInt8) (f:List UInt8) (i:Int) (e:Int) (o:List Z0) (a:List Z3):Option ((List Z0)×(List Z3)):=
 (oB (k_slices_IndexFunc_146_m N a (h,f,i)) fun d=>bif decide (d<0)then if room a.length ([(h,f,([]:Z7))]:List Z3).length 56 then if 0<=(a.length:Int)/\(a.length:Int)<((a++([(h,f,([]:Z7))]:List Z3)).length:Int)then oB ((a++([(h,f,([]:Z7))]:List Z3))[(a.length:Int).toNat]?) fun c=>(if fits ((c.2.2.length:Int)-1)then bif decide (((c.2.2.length:Int)-1)<0)then oB ((a++([(h,f,([]:Z7))]:List Z3))[(a.length:Int).toNat]?) fun V=>(if(a.length:Int).toNat=(a.length:Int).toNat then if room c.2.2.length ([(e,([]:List Int))]:Z7).length 32 then if(a.length:Int).toNat=(a.length:Int).toNat then oB ((a++([(h,f,([]:Z7))]:List Z3))[(a.length:Int).toNat]?) fun l=>(if fits (((c.2.2.length:Int)-1)+1)then oB (((a++([(h,f,([]:Z7))]:List Z3)).set (a.length:Int).toNat (l.1,l.2.1,(c.2.2++([(e,([]:List Int))]:Z7))))[(a.length:Int).toNat]?) fun p=>(oB (p.2.2[(((c.2.2.length:Int)-1)+1).toNat]?) fun v=>oB (((a++([(h,f,([]:Z7))]:List Z3)).set (a.length:Int).toNat (l.1,l.2.1,(c.2.2++([(e,([]:List Int))]:Z7))))[(a.length:Int).toNat]?) fun aj=>if(a.length:Int).toNat=(a.length:Int).toNat then oB (((a++([(h,f,([]:Z7))]:List Z3)).set (a.length:Int).toNat (l.1,l.2.1,(c.2.2++([(e,([]:List Int))]:Z7))))[(a.length:Int).toNat]?) fun ad=>(if(a.length:Int).toNat=(a.length:Int).toNat then if 0<=(((c.2.2.length:Int)-1)+1)/\(((c.2.2.length:Int)-1)+1)<(p.2.2.length:Int)then oB (p.2.2[(((c.2.2.length:Int)-1)+1).toNat]?) fun af=>(if(((c.2.2.length:Int)-1)+1).toNat=(((c.2.2.length:Int)-1)+1).toNat then if room v.2.length ([i]:List Int).length 8 then if 0<=(((c.2.2.length:Int)-1)+1)/\(((c.2.2.length:Int)-1)+1)<(p.2.2.length:Int)then if(((c.2.2.length:Int)-1)+1).toNat=(((c.2.2.length:Int)-1)+1).toNat then oB (p.2.2[(((c.2.2.length:Int)-1)+1).toNat]?) fun O=>(some (o,(((a++([(h,f,([]:Z7))]:List Z3)).set (a.length:Int).toNat (l.1,l.2.1,(c.2.2++([(e,([]:List Int))]:Z7)))).modify ((a.length:Int).toNat) fun D=>(D.1,D.2.1,(p.2.2.set (((c.2.2.length:Int)-1)+1).toNat (O.1,(v.2++([i]:List Int))))))))else none else none else none else none)else none else none)else none)else none)else none else none else none)else(oB ((a++([(h,f,([]:Z7))]:List Z3))[(a.length:Int).toNat]?) fun S=>if(a.length:Int).toNat=(a.length:Int).toNat then if 0<=((c.2.2.length:Int)-1)/\((c.2.2.length:Int)-1)<(c.2.2.length:Int)then oB (c.2.2[((c.2.2.length:Int)-1).toNat]?) fun P=>(bif !decide (P.1=e)then oB ((a++([(h,f,([]:Z7))]:List Z3))[(a.length:Int).toNat]?) fun ak=>(if(a.length:Int).toNat=(a.length:Int).toNat then if room c.2.2.length ([(e,([]:List Int))]:Z7).length 32 then if(a.length:Int).toNat=(a.length:Int).toNat then oB ((a++([(h,f,([]:Z7))]:List Z3))[(a.length:Int).toNat]?) fun m=>(if fits (((c.2.2.length:Int)-1)+1)then oB (((a++([(h,f,([]:Z7))]:List Z3)).set (a.length:Int).toNat (m.1,m.2.1,(c.2.2++([(e,([]:List Int))]:Z7))))[(a.length:Int).toNat]?) fun q=>(oB (q.2.2[(((c.2.2.length:Int)-1)+1).toNat]?) fun E=>oB (((a++([(h,f,([]:Z7))]:List Z3)).set (a.length:Int).toNat (m.1,m.2.1,(c.2.2++([(e,([]:List Int))]:Z7))))[(a.length:Int).toNat]?) fun ag=>if(a.length:Int).toNat=(a.length:Int).toNat then oB (((a++([(h,f,([]:Z7))]:List Z3)).set (a.length:Int).toNat (m.1,m.2.1,(c.2.2++([(e,([]:List Int))]:Z7))))[(a.length:Int).toNat]?) fun al=>(if(a.length:Int).toNat=(a.length:Int).toNat then if 0<=(((c.2.2.length:Int)-1)+1)/\(((c.2.2.length:Int)-1)+1)<(q.2.2.length:Int)then oB (q.2.2[(((c.2.2.length:Int)-1)+1).toNat]?) fun am=>(if(((c.2.2.length:Int)-1)+1).toNat=(((c.2.2.length:Int)-1)+1).toNat then if room E.2.length ([i]:List Int).length 8 then if 0<=(((c.2.2.length:Int)-1)+1)/\(((c.2.2.length:Int)-1)+1)<(q.2.2.length:Int)then if(((c.2.2.length:Int)-1)+1).toNat=(((c.2.2.length:Int)-1)+1).toNat then oB (q.2.2[(((c.2.2.length:Int)-1)+1).toNat]?) fun I=>(some (o,(((a++([(h,f,([]:Z7))]:List Z3)).set (a.length:Int).toNat (m.1,m.2.1,(c.2.2++([(e,([]:List Int))]:Z7)))).modify ((a.length:Int).toNat) fun z=>(z.1,z.2.1,(q.2.2.set (((c.2.2.length:Int)-1)+1).toNat (I.1,(E.2++([i]:List Int))))))))else none else none else none else none)else none else none)else none)else none)else none else none else none)else if(a.length:Int).toNat=(a.length:Int).toNat then oB (c.2.2[((c.2.2.length:Int)-1).toNat]?) fun x=>(oB ((a++([(h,f,([]:Z7))]:List Z3))[(a.length:Int).toNat]?) fun U=>if(a.length:Int).toNat=(a.length:Int).toNat then oB ((a++([(h,f,([]:Z7))]:List Z3))[(a.length:Int).toNat]?) fun ai=>(if(a.length:Int).toNat=(a.length:Int).toNat then if 0<=((c.2.2.length:Int)-1)/\((c.2.2.length:Int)-1)<(c.2.2.length:Int)then oB (c.2.2[((c.2.2.length:Int)-1).toNat]?) fun R=>(if((c.2.2.length:Int)-1).toNat=((c.2.2.length:Int)-1).toNat then if room x.2.length ([i]:List Int).length 8 then if 0<=((c.2.2.length:Int)-1)/\((c.2.2.length:Int)-1)<(c.2.2.length:Int)then if((c.2.2.length:Int)-1).toNat=((c.2.2.length:Int)-1).toNat then oB (c.2.2[((c.2.2.length:Int)-1).toNat]?) fun K=>(some (o,((a++([(h,f,([]:Z7))]:List Z3)).modify ((a.length:Int).toNat) fun w=>(w.1,w.2.1,(c.2.2.set ((c.2.2.length:Int)-1).toNat (K.1,(x.2++([i]:List Int))))))))else none else none else none else none)else none else none)else none)else none)else none else none)else none)else none else none else if 0<=d/\d<(a.length:Int)then oB (a[d.toNat]?) fun b=>(if fits ((b.2.2.length:Int)-1)then bif decide (((b.2.2.length:Int)-1)<0)then oB (a[d.toNat]?) fun ac=>(if d.toNat=d.toNat then if room b.2.2.length ([(e,([]:List Int))]:Z7).length 32 then if d.toNat=d.toNat then oB (a[d.toNat]?) fun j=>(if fits (((b.2.2.length:Int)-1)+1)then oB ((a.set d.toNat (j.1,j.2.1,(b.2.2++([(e,([]:List Int))]:Z7))))[d.toNat]?) fun n=>(oB (n.2.2[(((b.2.2.length:Int)-1)+1).toNat]?) fun t=>oB ((a.set d.toNat (j.1,j.2.1,(b.2.2++([(e,([]:List Int))]:Z7))))[d.toNat]?) fun ae=>if d.toNat=d.toNat then oB ((a.set d.toNat (j.1,j.2.1,(b.2.2++([(e,([]:List Int))]:Z7))))[d.toNat]?) fun T=>(if d.toNat=d.toNat then if 0<=(((b.2.2.length:Int)-1)+1)/\(((b.2.2.length:Int)-1)+1)<(n.2.2.length:Int)then oB (n.2.2[(((b.2.2.length:Int)-1)+1).toNat]?) fun an=>(if(((b.2.2.length:Int)-1)+1).toNat=(((b.2.2.length:Int)-1)+1).toNat then if room t.2.length ([i]:List Int).length 8 then if 0<=(((b.2.2.length:Int)-1)+1)/\(((b.2.2.length:Int)-1)+1)<(n.2.2.length:Int)then if(((b.2.2.length:Int)-1)+1).toNat=(((b.2.2.length:Int)-1)+1).toNat then oB (n.2.2[(((b.2.2.length:Int)-1)+1).toNat]?) fun G=>(some (o,((a.set d.toNat (j.1,j.2.1,(b.2.2++([(e,([]:List Int))]:Z7)))).modify d.toNat fun u=>(u.1,u.2.1,(n.2.2.set (((b.2.2.length:Int)-1)+1).toNat (G.1,(t.2++([i]:List Int))))))))else none else none else none else none)else none else none)else none)else none)else none else none else none)else(oB (a[d.toNat]?) fun aq=>if d.toNat=d.toNat then if 0<=((b.2.2.length:Int)-1)/\((b.2.2.length:Int)-1)<(b.2.2.length:Int)then oB (b.2.2[((b.2.2.length:Int)-1).toNat]?) fun H=>(bif !decide (H.1=e)then oB (a[d.toNat]?) fun ap=>(if d.toNat=d.toNat then if room b.2.2.length ([(e,([]:List Int))]:Z7).length 32 then if d.toNat=d.toNat then oB (a[d.toNat]?) fun k=>(if fits (((b.2.2.length:Int)-1)+1)then oB ((a.set d.toNat (k.1,k.2.1,(b.2.2++([(e,([]:List Int))]:Z7))))[d.toNat]?) fun r=>(oB (r.2.2[(((b.2.2.length:Int)-1)+1).toNat]?) fun y=>oB ((a.set d.toNat (k.1,k.2.1,(b.2.2++([(e,([]:List Int))]:Z7))))[d.toNat]?) fun ao=>if d.toNat=d.toNat then oB ((a.set d.toNat (k.1,k.2.1,(b.2.2++([(e,([]:List Int))]:Z7))))[d.toNat]?) fun aa=>(if d.toNat=d.toNat then if 0<=(((b.2.2.length:Int)-1)+1)/\(((b.2.2.length:Int)-1)+1)<(r.2.2.length:Int)then oB (r.2.2[(((b.2.2.length:Int)-1)+1).toNat]?) fun ah=>(if(((b.2.2.length:Int)-1)+1).toNat=(((b.2.2.length:Int)-1)+1).toNat then if room y.2.length ([i]:List Int).length 8 then if 0<=(((b.2.2.length:Int)-1)+1)/\(((b.2.2.length:Int)-1)+1)<(r.2.2.length:Int)then if(((b.2.2.length:Int)-1)+1).toNat=(((b.2.2.length:Int)-1)+1).toNat then oB (r.2.2[(((b.2.2.length:Int)-1)+1).toNat]?) fun Q=>(some (o,((a.set d.toNat (k.1,k.2.1,(b.2.2++([(e,([]:List Int))]:Z7)))).modify d.toNat fun A=>(A.1,A.2.1,(r.2.2.set (((b.2.2.length:Int)-1)+1).toNat (Q.1,(y.2++([i]:List Int))))))))else none else none else none else none)else none else none)else none)else none)else none else none else none)else if d.toNat=d.toNat then oB (b.2.2[((b.2.2.length:Int)-1).toNat]?) fun B=>(oB (a[d.toNat]?) fun W=>if d.toNat=d.toNat then oB (a[d.toNat]?) fun X=>(if d.toNat=d.toNat then if 0<=((b.2.2.length:Int)-1)/\((b.2.2.length:Int)-1)<(b.2.2.length:Int)then oB (b.2.2[((b.2.2.length:Int)-1).toNat]?) fun ab=>(if((b.2.2.length:Int)-1).toNat=((b.2.2.length:Int)-1).toNat then if room B.2.length ([i]:List Int).length 8 then if 0<=((b.2.2.length:Int)-1)/\((b.2.2.length:Int)-1)<(b.2.2.length:Int)then if((b.2.2.length:Int)-1).toNat=((b.2.2.length:Int)-1).toNat then oB (b.2.2[((b.2.2.length:Int)-1).toNat]?) fun L=>(some (o,(a.modify d.toNat fun C=>(C.1,C.2.1,(b.2.2.set ((b.2.2.length:Int)-1).toNat (L.1,(B.2++([i]:List Int))))))))else none else none else none else none)else none else none)else none)else none)else none else none)else none)else none)
theorem jky :mK 122 ⟨⟨[.box 900000 0,pS,.agg [pS,pI],pI],[(900000,false,[.tre 850000 Y4 95,.tre 850001 Y6 167])]⟩,⟨[.tup []],[(900000,false,[.tre 850000 Y4 95,.tre 1 Y6 167])]⟩,c6A (i_Seg_put_m N)⟩:=
 mO (fC (jrl N) ja) func122 rfl N (.seq .no (.seq .no (.seq .no (.seq .no (.seq .no (.seq .no (.touch [.out 9 [(2,79,241,10),(1,88,3,0)]]))))))) _ (wr:=[33,34,70,71,91,92]) (rs:=[900000,850000,850001]) (dw:=[16,33,70])
noncomputable def jaS (N:Nat) (a:List Z3) (b:Unit):Option (List Z3):=jWO a
 
noncomputable def jjA (N:Nat):Model:=⟨⟨[.tre 800000 Y6 167,.clo 124 []],[]⟩,⟨[.tup [],.tre 800000 Y6 167],[]⟩,c2A (jaS N)⟩
theorem jtu :mK 123 (jjA N):=jW9
def jmK :Sh:=⟨.dead:: .dead:: .box 2 0:: .dead:: .box 4 0:: .box 5 0::dz 19 (.pv Y3::pI::pI::dz 32 []),[(2,false,[.pv (.sl .str),.pv Y14]),(4,false,[.nils,.nils]),(5,false,[.tre 700500 Y4 95,.tre 700501 Y6 167])]⟩
def jor :Sh:=⟨.dead:: .dead:: .box 2 0:: .dead:: .box 4 0:: .box 5 0:: .dead:: .box 7 0::dz 17 (.pv Y3::pI::pI::dz 4 (.pv Y17::pI::pI::dz 25 [])),[(2,false,[.pv (.sl .str),.pv Y14]),(4,false,[.nils,.nils]),(5,false,[.tre 700500 Y4 95,.tre 700501 Y6 167]),(7,false,[pI,.pv Y17,.pv Y13])]⟩
def jnj :Sh:=⟨.dead:: .dead:: .box 2 0:: .dead:: .box 4 0:: .box 5 0:: .dead:: .box 7 0:: .dead:: .box 9 0::dz 15 (.pv Y3::pI::pI::dz 4 (.pv Y17::pI::pI::dz 6 (.own 600041 Y15 162 true::pI::pI::dz 16 []))),[(2,false,[.pv (.sl .str),.pv Y14]),(4,false,[.nils,.nils]),(5,false,[.tre 700500 Y4 95,.tre 700501 Y6 167]),(7,false,[pI,.pv Y17,.pv Y13]),(9,false,[pS,pS])]⟩
noncomputable def jbT (c:List Z1) (c2:List Z4) (docs:List Z0):Option ((List Z0)×(List Z3)):=
 (oB (jaj N c c2) fun r=>bif !r then some (([]:List Z0),([]:List Z3))else oB (jbf N docs) fun r2=>bif !r2 then some (([]:List Z0),([]:List Z3))else oB (jbV N docs) fun r3=>iter (fun go (t25,t26,t27,c3,c4,s,s2)=>bif decide (t27<t26)then oB (idx t25 t27) fun e=>(iter (fun go2 (t252,t262,t272,t32,t33,t34,c5,c6,s3,s4,d,d2,d3)=>bif decide (t34<t33)then oB (idx t32 t34) fun e2=>(oB (jbw N c5 c6 e2.2) fun r4=>iter (fun go3 (t253,t263,t273,t322,t332,t342,t41,t42,t43,c7,c8,s5,s6,d4,d5,d6,f,f2)=>bif decide (t43<t42)then oB (idx t41 t43) fun e3=>(oB (i_Seg_put_m N f e3.1 e3.2 d4 s5 s6) fun r5=>if fits (t43+1)then go3 (t253,t263,t273,t322,t332,t342,t41,t42,(t43+1),c7,c8,r5.1,r5.2,d4,d5,d6,f,f2)else none)else if fits (t342+1)then go2 (t253,t263,t273,t322,t332,(t342+1),c7,c8,s5,s6,d4,d5,d6)else none) N (t252,t262,t272,t32,t33,t34,r4,(r4.length:Int),(0:Int),c5,c6,s3,s4,d,d2,d3,e2.1,e2.2))else if fits (t272+1)then go (t252,t262,(t272+1),c5,c6,s3,s4)else none) N (t25,t26,t27,e.2.1,(e.2.1.length:Int),(0:Int),c3,c4,s,s2,e.1,e.2.1,e.2.2))else oB (jaS N s2 ()) fun r6=>some (s,r6)) N (docs,(docs.length:Int),(0:Int),c,c2,r3,([]:List Z3)))
theorem jqC :mK 51 (bX [.agg [.pv (.sl .str),.pv Y14],.pv Y3] [.agg [.own 1 Y4 95 true,.own 2 Y6 167 true]] (c3A (jbT N))):=
 mO (fC (jdX N) (fC (jjU N) (fC (joC N) (fC (jgO N) (fC (jky N) (fC (jtu N) ja)))))) func51 rfl N (.seq .no (.seq .no (.seq .no (.seq (.seq .no (.block (.loop jmK (.seq .no (.seq .no (.seq (.block (.seq .no (.seq .no (.block (.loop jor (.seq .no (.seq .no (.seq (.block (.seq .no (.seq .no (.block (.loop jnj .no))))) .no)))))))) .no)))))) .no)))) _ (wr:=[23]) (dw:=[22,23])
def jtB :Sh:=⟨.pv Y19:: .pv Y19::dz 10 (pI::pI::dz 12 []),[]⟩
def jbX (b:List Int) (c:List Int):Z10:=
 (bif !decide ((b.length:Int)=(c.length:Int))then some false else iter (fun k (f,e,d,a)=>bif decide (a<d)then oB (idx f a) fun h=>(oB (idx e a) fun i=>bif !decide (h=i)then some false else if fits (a+1)then k (f,e,d,(a+1))else none)else some true) N (b,c,(b.length:Int),(0:Int)))
theorem jqi :mK 318 (bX [.pv Y19,.pv Y19] [pB] (c2A (jbX N))):=
 mO ja func318 rfl N (.seq .no (.seq .no (.seq (.seq .no (.block (.loop jtB .no))) .no))) _
def jcp (d:Int) (a:List Int) (b:Int) (c:List Int):Z10:=
 (bif decide (d=b)then oB (jbX N a c) fun e=>(some e)else some false)
theorem jth :mK 270 (bX [.agg [pI,.pv Y19],.agg [pI,.pv Y19]] [pB] (c4A (jcp N))):=
 mO (fC (jqi N) ja) func270 rfl N .no _
def jlX :Sh:=⟨.dead:: .pv Y11:: .clo 270 []::dz 12 (.pv Y11::pI::pI::dz 14 []),[]⟩
def jb6 (b:Z7) (e:Z7) (m:Unit):Z10:=
 (bif !decide ((b.length:Int)=(e.length:Int))then some false else iter (fun l (i,n,d,h,a)=>bif decide (a<h)then oB (idx d a) fun c=>(oB (idx i a) fun f=>oB (jcp N c.1 c.2 f.1 f.2) fun j=>bif !j then some false else if fits (a+1)then l (i,(),d,h,(a+1))else none)else some true) N (e,(),b,(b.length:Int),(0:Int)))
theorem jnG :mK 269 (bX [.pv Y11,.pv Y11,.clo 270 []] [pB] (c3A (jb6 N))):=
 mO (fC (jth N) ja) func269 rfl N (.seq .no (.seq .no (.seq (.seq .no (.block (.loop jlX .no))) .no))) _
def jcz (f:List UInt8) (c:List UInt8) (d:Z7) (a:List UInt8) (e:List UInt8) (h:Z7):Z10:=
 (bif decide (f=a)then bif decide (c=e)then oB (jb6 N d h ()) fun b=>(some b)else(some false)else some false)
theorem jp4 :mK 219 (bX [.agg [pS,pS,.pv Y11],.agg [pS,pS,.pv Y11]] [pB] (c6A (jcz N))):=
 mO (fC (jnG N) ja) func219 rfl N .no _
def jlD :Sh:=⟨.dead:: .pv Y5:: .clo 219 []::dz 12 (.pv Y5::pI::pI::dz 14 []),[]⟩
def jcn (d:List Z3) (f:List Z3) (m:Unit):Z10:=
 (bif !decide ((d.length:Int)=(f.length:Int))then some false else iter (fun l (i,n,e,h,a)=>bif decide (a<h)then oB (idx e a) fun b=>(oB (idx i a) fun c=>oB (jcz N b.1 b.2.1 b.2.2 c.1 c.2.1 c.2.2) fun j=>bif !j then some false else if fits (a+1)then l (i,(),e,h,(a+1))else none)else some true) N (f,(),d,(d.length:Int),(0:Int)))
theorem jsa :mK 218 (bX [.pv Y5,.pv Y5,.clo 219 []] [pB] (c3A (jcn N))):=
 mO (fC (jp4 N) ja) func218 rfl N (.seq .no (.seq .no (.seq (.seq .no (.block (.loop jlD .no))) .no))) _
noncomputable def jbN (a:List Z1) (c:List Z4) (b:List Z0) (d:List Z3):Z10:=
 (oB (jaj N a c) fun h=>bif !h then some false else oB (jbf N b) fun f=>bif !f then some false else oB (jbT N a c b) fun e=>oB (jcn N e.2 d ()) fun i=>some i)
theorem joa :mK 149 (bX [.agg [.pv (.sl .str),.pv Y14],.agg [.pv Y3,.pv Y5]] [pB] (c4A (jbN N))):=
 mO (fC (jdX N) (fC (jjU N) (fC (jqC N) (fC (jsa N) ja)))) func149 rfl N .no _
def jDT :Sh:=⟨.pv Y19::dz 4 (.pv Y19::pI::pI::dz 24 []),[]⟩
def jx1 (d:List Int):Z10:=
 (iter (fun h (b,e,c,a)=>bif decide (a<c)then oB (idx e a) fun f=>(oB (jm N f 0 999999999) fun j=>bif !j then some false else bif decide ((0:Int)<a)then if fits (a-1)then oB (idx b (a-1)) fun i=>(bif decide (f<=i)then some false else if fits (a+1)then h (b,e,c,(a+1))else none)else none else if fits (a+1)then h (b,e,c,(a+1))else none)else some (decide ((b.length:Int)<=60))) N (d,d,(d.length:Int),(0:Int)))
theorem jAN :mK 150 (bX [.pv Y19] [pB] (c1A (jx1 N))):=
 mO (fC (jY N) ja) func150 rfl N (.seq .no (.seq (.seq .no (.block (.loop jDT .no))) .no)) _
def jqv :Sh:=⟨.dead::pI:: .dead:: .dead:: .box 4 0::dz 6 (.pv Y3::pI::pI::dz 10 []),[(4,false,[pI,.nils,.nils])]⟩
def i_Seg_doc_m (f:(List Z0)×(List Z3)) (h:Int):Option (Int×Z8×Z9×Bool):=
 (iter (fun k (c,d,e,b,i)=>bif decide (b<e)then oB (idx d b) fun a=>(bif decide (a.1=c)then some (a.1,a.2.1,a.2.2,true)else if fits (b+1)then k (c,d,e,(b+1),i)else none)else some (0,([]:Z5),([]:Z6),false)) N (h,f.1,(f.1.length:Int),(0:Int),(0:Int)))
theorem jlU :mK 151 (bX [.ptr Y2,pI] [.tup [.agg [pI,.pv Y17,.pv Y13],pB]] (c2A (i_Seg_doc_m N))):=
 mO ja func151 rfl N (.seq .no (.seq (.seq .no (.block (.loop jqv .no))) .no)) _
def jIP :Sh:=⟨.pv Y19::pI::dz 5 (pI::pI::dz 10 []),[]⟩
def k_slices_Index_484_m (d:List Int) (h:Int):Z16:=
 (iter (fun j (c,b,e,a)=>bif decide (a<e)then oB (idx c a) fun f=>(bif decide (b=f)then some a else if fits (a+1)then j (c,b,e,(a+1))else none)else some (-1)) N (d,h,(d.length:Int),(0:Int)))
theorem jJu :mK 271 (bX [.pv Y19,pI] [pI] (c2A (k_slices_Index_484_m N))):=
 mO ja func271 rfl N (.seq .no (.seq (.seq .no (.block (.loop jIP .no))) .no)) _
def k_slices_Contains_735_m (b:List Int) (a:Int):Z10:=
 (oB (k_slices_Index_484_m N b a) fun c=>some (decide ((0:Int)<=c)))
theorem jIT :mK 220 (bX [.pv Y19,pI] [pB] (c2A (k_slices_Contains_735_m N))):=
 mO (fC (jJu N) ja) func220 rfl N .no _
def jIi :Sh:=⟨.dead:: .box 1 0:: .dead:: .own 600003 Y4 95 false::dz 5 (.pv Y3::pI::pI::dz 15 []),[(1,false,[.pv Y3,.pv Y5,.pv Y19])]⟩
def i_Live_alive_m (d:List Z0) (m:List Z3) (o:List Int):Z14:=
 (iter (fun k (b,h,f,a,j,i,e)=>bif decide (a<f)then oB (idx h a) fun c=>(oB (k_slices_Contains_735_m N e c.1) fun l=>bif !l then if room b.length ([c]:List Z0).length 56 then if fits (a+1)then k ((b++([c]:List Z0)),h,f,(a+1),j,i,e)else none else none else if fits (a+1)then k (b,h,f,(a+1),j,i,e)else none)else some b) N (([]:List Z0),d,(d.length:Int),(0:Int),d,m,o))
theorem jH4 :mK 152 (bX [.agg [.pv Y3,.pv Y5,.pv Y19]] [.own 1 Y4 95 false] (c3A (i_Live_alive_m N))):=
 mO (fC (jIT N) ja) func152 rfl N (.seq .no (.seq .no (.seq (.seq .no (.block (.loop jIi .no))) .no))) _
def jIO :Sh:=⟨dz 3 (.box 3 0::dz 17 (.pv Y19::pI::pI::dz 16 [])),[(3,true,[.pv Y3,.pv Y5,.pv Y19])]⟩
noncomputable def i_liveOk_m (q:List Z1) (t:List Z4) (i:List Z0) (h:List Z3) (b:List Int):Z10:=
 (oB (jbN N q t i h) fun p=>bif !p then some false else oB (jx1 N b) fun o=>bif !o then some false else iter (fun l (e,j,a,d,c,f)=>bif decide (a<j)then oB (idx e a) fun m=>(oB (i_Seg_doc_m N (d,c) m) fun n=>bif !n.2.2.2 then some false else if fits (a+1)then l (e,j,(a+1),d,c,f)else none)else oB (i_Live_alive_m N d c f) fun r=>some (decide ((0:Int)<r.length))) N (b,(b.length:Int),(0:Int),i,h,b))
theorem jJD :mK 72 (bX [.agg [.pv (.sl .str),.pv Y14],.agg [.pv Y3,.pv Y5,.pv Y19]] [pB] (c5A (i_liveOk_m N))):=
 mO (fC (joa N) (fC (jAN N) (fC (jlU N) (fC (jH4 N) ja)))) func72 rfl N (.seq .no (.seq .no (.seq (.seq .no (.block (.loop jIO .no))) .no))) _
def jl0 :Sh:=⟨.pv (.int .u64):: .dead::pI::dz 22 [],[]⟩
def k_math_bits_Len64_m (N:Nat) (b:Int):Z16:=
 (meet (fun(a:Int×Int)=>match a with|(c,f)=>meet (fun(a:Int×Int)=>match a with|(d,e)=>meet (fun(a:Int×Int)=>match a with|(m,k)=>oB (idx ([0,1,2,2,3,3,3,3,4,4,4,4,4,4,4,4,5,5,5,5,5,5,5,5,5,5,5,5,5,5,5,5,6,6,6,6,6,6,6,6,6,6,6,6,6,6,6,6,6,6,6,6,6,6,6,6,6,6,6,6,6,6,6,6,7,7,7,7,7,7,7,7,7,7,7,7,7,7,7,7,7,7,7,7,7,7,7,7,7,7,7,7,7,7,7,7,7,7,7,7,7,7,7,7,7,7,7,7,7,7,7,7,7,7,7,7,7,7,7,7,7,7,7,7,7,7,7,7,8,8,8,8,8,8,8,8,8,8,8,8,8,8,8,8,8,8,8,8,8,8,8,8,8,8,8,8,8,8,8,8,8,8,8,8,8,8,8,8,8,8,8,8,8,8,8,8,8,8,8,8,8,8,8,8,8,8,8,8,8,8,8,8,8,8,8,8,8,8,8,8,8,8,8,8,8,8,8,8,8,8,8,8,8,8,8,8,8,8,8,8,8,8,8,8,8,8,8,8,8,8,8,8,8,8,8,8,8,8,8,8,8,8,8,8,8,8,8,8,8,8,8,8,8,8,8,8]:List UInt8) (IntKind.u8.wrap m)) fun l=>if fits (k+(IntKind.i64.wrap (l.toNat:Int)))then some (k+(IntKind.i64.wrap (l.toNat:Int)))else none) fun i=>bif decide ((256:Int)<=d)then if 0<=(8:Int)then if fits (e+8)then i ((d.fdiv (2^(min (8:Int).toNat (IntKind.bits .u64)))),(e+8))else none else none else i (d,e)) fun h=>bif decide ((65536:Int)<=c)then if 0<=(16:Int)then if fits (f+16)then h ((c.fdiv (2^(min (16:Int).toNat (IntKind.bits .u64)))),(f+16))else none else none else h (c,f)) fun j=>bif decide ((4294967296:Int)<=b)then if 0<=(32:Int)then j ((b.fdiv (2^(min (32:Int).toNat (IntKind.bits .u64)))),32)else none else j (b,0))
theorem jrK :mK 256 (bX [.pv (.int .u64)] [pI] (c1A (k_math_bits_Len64_m N))):=
 mO ja func256 rfl N (.seq .no (.meet jl0 .no (.meet jl0 .no (.meet jl0 .no .no)))) _
def k_math_bits_Len_m (a:Int):Z16:=
 (oB (k_math_bits_Len64_m N a) fun b=>some b)
theorem jda :mK 203 (bX [.pv (.int .u64)] [pI] (c1A (k_math_bits_Len_m N))):=
 mO (fC (jrK N) ja) func203 rfl N .no _
def k_cmp_isNaN_538_m (N:Nat) (a:Int):Z10:=
 (some (!decide (a=a)))
theorem joK :mK 222 (bX [pI] [pB] (c1A (k_cmp_isNaN_538_m N))):=
 mO ja func222 rfl N .no _
def k_cmp_Compare_992_m (b:Int) (a:Int):Z16:=
 (oB (k_cmp_isNaN_538_m N b) fun d=>oB (k_cmp_isNaN_538_m N a) fun c=>bif d then bif c then some 0 else(some (-1))else bif c then some 1 else bif decide (b<a)then some (-1)else bif decide (a<b)then some 1 else some 0)
theorem jpP :mK 156 (bX [pI,pI] [pI] (c2A (k_cmp_Compare_992_m N))):=
 mO (fC (joK N) ja) func156 rfl N .no _
def i_allAlive_1_m (c:Int) (d:Z5) (e:Z6) (a:Int) (f:Z5) (h:Z6):Z16:=
 (oB (k_cmp_Compare_992_m N c a) fun b=>some b)
theorem jHC :mK 155 (bX [.agg [pI,.pv Y17,.pv Y13],.agg [pI,.pv Y17,.pv Y13]] [pI] (c6A (i_allAlive_1_m N))):=
 mO (fC (jpP N) ja) func155 rfl N .no _
def k_slices_nextPowerOfTwo_m (b:Int):Z16:=
 (oB (k_math_bits_Len_m N (IntKind.u64.wrap b)) fun a=>if 0<=a then some (IntKind.u64.wrap ((1:Int)*2^(min a.toNat (IntKind.bits .u64))))else none)
theorem jhv :mK 308 (bX [pI] [.pv (.int .u64)] (c1A (k_slices_nextPowerOfTwo_m N))):=
 mO (fC (jda N) ja) func308 rfl N .no _
end Go.Proofs.YtcinmmojlcchfaaGreatDoor
