import Derived.Test.YtbjikaianmpngaaDoorSJ
set_option linter.unusedVariables false
set_option linter.unusedSimpArgs false
namespace Go.Proofs.YtbjikaianmpngaaDoor
open Go.RowKit Go.Proofs.Tryd
variable (N : Nat)
open Option renaming bind -> oB
set_option maxRecDepth 1000000
abbrev Z0 :Type:=List UInt8
abbrev Z1 :Type:=(List Z0)×Z0
abbrev Z3 :Type:=Z0×Int×Int×Int
abbrev Z4 :Type:=Option (Bool)
abbrev Z5 :Type:=List (Z0×Int)
abbrev Z6 :Type:=List (Z0×Int)
abbrev Z7 :Type:=(List Z0)×Int×Int×Int×Int
abbrev Z8 :Type:=Option ((List Z0))
abbrev Z10 :Type:=List (Z0×Bool)
abbrev Z11 :Type:=List (Z0×DQ)
abbrev Z12 :Type:=(List Z0)×Int×(List Z0)×Int×(List Z0)×(List Z1)×Int×Z0×(List Z0)×Int×Int×(List DQ)
abbrev Z13 :Type:=Int×Int×Z0×(List Z0)×Int×Int×(List DQ)×Bool×Int×Int×Int×Int×Bool×Int×Int
abbrev bX (a r:List VS) (f:HD (Sh.codes ⟨a,[]⟩)->Option (HD (Sh.codes ⟨r,[]⟩))):Model:=⟨⟨a,[]⟩,⟨r,[]⟩,f⟩
abbrev mK :=ModelOk Tryd.prog
theorem mO {l:List (Nat×Model)} (hl:jR Tryd.prog l) {f:FuncId} {fn:Func} {c:Code} (hf:Tryd.prog.funcs[f]? =some fn) (hbody:fn.body=some c) (N:Nat) (h:Hint) (m:Model) (wr rs dw:List Nat:=[])
  (hname:(fn.name== "runtime.NumGoroutine")=false:=by kernel_rfl) (hres:m.arg.names.all (jbC l wr rs dw).res=true:=by kernel_rfl) (hlen:Nat.ble m.arg.vals.length fn.ntmps=true:=by kernel_rfl)
  (hrun:∀a,m.run a=runF N (jbC l wr rs dw) okDraw fn c h m.arg m.ret a:=by intro a;kernel_rfl):ModelOk Tryd.prog f m:=modelOk_of (E:=jbC l wr rs dw) (jtQ hl wr rs dw) hf hname hbody N h m hres hlen hrun
theorem fC {k:Nat} {m:Model} {l:List (Nat×Model)} (h:ModelOk Tryd.prog k m) (hl:jR Tryd.prog l):jR Tryd.prog ((k,m)::l):=jsH h hl
abbrev pI :VS:=.pv (.int .i64)
abbrev pS :VS:=.pv .str
abbrev pB :VS:=.pv .bool
abbrev tI :Tp:=.int .i64
abbrev c1A {Y Z:Type} (f:Y->Z) (a:Y):Z:=f a
abbrev c2A {α0 α1 Z:Type} (f:α0->α1->Z) (a:α0×α1):Z:=f a.1 a.2
abbrev c3A {α0 α1 α2 Z:Type} (f:α0->α1->α2->Z) (a:α0×α1×α2):Z:=f a.1 a.2.1 a.2.2
abbrev c4A {α0 α1 α2 α3 Z:Type} (f:α0->α1->α2->α3->Z) (a:α0×α1×α2×α3):Z:=f a.1 a.2.1 a.2.2.1 a.2.2.2
abbrev c5A {α0 α1 α2 α3 α4 Z:Type} (f:α0->α1->α2->α3->α4->Z) (a:α0×α1×α2×α3×α4):Z:=f a.1 a.2.1 a.2.2.1 a.2.2.2.1 a.2.2.2.2
abbrev c6A {α0 α1 α2 α3 α4 α5 Z:Type} (f:α0->α1->α2->α3->α4->α5->Z) (a:α0×α1×α2×α3×α4×α5):Z:=f a.1 a.2.1 a.2.2.1 a.2.2.2.1 a.2.2.2.2.1 a.2.2.2.2.2
abbrev c7A {α0 α1 α2 α3 α4 α5 α6 Z:Type} (f:α0->α1->α2->α3->α4->α5->α6->Z) (a:α0×α1×α2×α3×α4×α5×α6):Z:=f a.1 a.2.1 a.2.2.1 a.2.2.2.1 a.2.2.2.2.1 a.2.2.2.2.2.1 a.2.2.2.2.2.2
abbrev c8A {α0 α1 α2 α3 α4 α5 α6 α7 Z:Type} (f:α0->α1->α2->α3->α4->α5->α6->α7->Z) (a:α0×α1×α2×α3×α4×α5×α6×α7):Z:=f a.1 a.2.1 a.2.2.1 a.2.2.2.1 a.2.2.2.2.1 a.2.2.2.2.2.1 a.2.2.2.2.2.2.1 a.2.2.2.2.2.2.2
abbrev c9A {α0 α1 α2 α3 α4 α5 α6 α7 α8 Z:Type} (f:α0->α1->α2->α3->α4->α5->α6->α7->α8->Z) (a:α0×α1×α2×α3×α4×α5×α6×α7×α8):Z:=f a.1 a.2.1 a.2.2.1 a.2.2.2.1 a.2.2.2.2.1 a.2.2.2.2.2.1 a.2.2.2.2.2.2.1 a.2.2.2.2.2.2.2.1 a.2.2.2.2.2.2.2.2
abbrev c10A {α0 α1 α2 α3 α4 α5 α6 α7 α8 α9 Z:Type} (f:α0->α1->α2->α3->α4->α5->α6->α7->α8->α9->Z) (a:α0×α1×α2×α3×α4×α5×α6×α7×α8×α9):Z:=f a.1 a.2.1 a.2.2.1 a.2.2.2.1 a.2.2.2.2.1 a.2.2.2.2.2.1 a.2.2.2.2.2.2.1 a.2.2.2.2.2.2.2.1 a.2.2.2.2.2.2.2.2.1 a.2.2.2.2.2.2.2.2.2
def dz :Nat->List VS->List VS
 |0,l=>l
 |n+1,l=>.dead::dz n l
abbrev Y4 :Tp:=.pair (.sl .str) .str
abbrev Y3 :Tp:=.pair .str tI
abbrev Y2 :Tp:=.sl (.pair (.sl .str) .str)
abbrev Y0 :Tp:=.pair .str (.pair tI (.pair tI tI))
def jt0 (N:Nat) (a:List Int):Option ((List Int)×Int):=
 (bif decide ((2000:Int)<a.length)then oB (cut a 0 2000) fun b=>(some (b,0))else some (a,0))
theorem juQ :mK 12 ⟨⟨[.pv (.sl (.int .u8))],[]⟩,⟨[.box 10 0],[(10,false,[.pv (.sl (.int .u8)),pI])]⟩,c1A (jt0 N)⟩:=
 mO ja func12 rfl N .no _
def jtW (N:Nat) (e:Int) (b:List Int) (a:Int):Option (Int×(List Int)×Int):=
 (if fits (a+1)then bif decide (e<1)then some (0,b,(a+1))else(bif decide ((b.length:Int)=0)then some (0,b,(a+1))else if fits ((a+1)-1)then bif decide (((a+1)-1)<(b.length:Int))then oB (idx b ((a+1)-1)) fun f=>(if e≠0 then some (((IntKind.i64.wrap f).tmod e),b,(a+1))else none)else(if(b.length:Int)≠0 then oB (idx b (((a+1)-1).tmod (b.length:Int))) fun c=>(if fits ((IntKind.i64.wrap c)*131)then if fits (((a+1)-1)*7)then if fits ((((a+1)-1)*7)+3)then if(b.length:Int)≠0 then oB (idx b (((((a+1)-1)*7)+3).tmod (b.length:Int))) fun d=>(if fits ((IntKind.i64.wrap d)*1117)then if fits (((IntKind.i64.wrap c)*131)+((IntKind.i64.wrap d)*1117))then if fits (((a+1)-1)*29)then if fits ((((IntKind.i64.wrap c)*131)+((IntKind.i64.wrap d)*1117))+(((a+1)-1)*29))then if(b.length:Int)≠0 then if fits (((a+1)-1).tdiv (b.length:Int))then if fits ((((a+1)-1).tdiv (b.length:Int))*53)then if fits (((((IntKind.i64.wrap c)*131)+((IntKind.i64.wrap d)*1117))+(((a+1)-1)*29))+((((a+1)-1).tdiv (b.length:Int))*53))then if 64≠0 then if fits ((((((IntKind.i64.wrap c)*131)+((IntKind.i64.wrap d)*1117))+(((a+1)-1)*29))+((((a+1)-1).tdiv (b.length:Int))*53)).tdiv 64)then if e≠0 then some (((bitsI .xor .i64 (((((IntKind.i64.wrap c)*131)+((IntKind.i64.wrap d)*1117))+(((a+1)-1)*29))+((((a+1)-1).tdiv (b.length:Int))*53)) ((((((IntKind.i64.wrap c)*131)+((IntKind.i64.wrap d)*1117))+(((a+1)-1)*29))+((((a+1)-1).tdiv (b.length:Int))*53)).tdiv 64)).tmod e),b,(a+1))else none else none else none else none else none else none else none else none else none else none else none)else none else none else none else none)else none)else none)else none)
theorem jtX :mK 27 ⟨⟨[.box 900000 0,pI],[(900000,false,[.pv (.sl (.int .u8)),pI])]⟩,⟨[pI],[(900000,false,[.pv (.sl (.int .u8)),pI])]⟩,c3A (jtW N)⟩:=
 mO ja func27 rfl N .no _ (rs:=[900000])
def s_l30Rd_of_m (b:List Z0) (d:List Int) (c:Int):Option (Z0×(List Int)×Int):=
 (oB (jtW N (b.length:Int) d c) fun a=>oB (idx b a.1) fun e=>some (e,a.2.1,a.2.2))
theorem jt3 :mK 62 ⟨⟨[.box 900000 0,.pv (.sl .str)],[(900000,false,[.pv (.sl (.int .u8)),pI])]⟩,⟨[pS],[(900000,false,[.pv (.sl (.int .u8)),pI])]⟩,c3A (s_l30Rd_of_m N)⟩:=
 mO (fC (jtX N) ja) func62 rfl N .no _ (rs:=[900000])
def s_l30Known_m (N:Nat):Z8:=
 (some ([([99,97,116]:List UInt8),([99,97,116,115]:List UInt8),([100,111,103]:List UInt8),([100,111,103,115]:List UInt8),([114,117,110]:List UInt8),([114,117,110,110,105,110,103]:List UInt8),([116,104,101]:List UInt8),([114,101,100]:List UInt8),([98,105,103]:List UInt8),([110,101,119]:List UInt8),([121,111,114,107]:List UInt8),([110,121]:List UInt8),([102,111,120]:List UInt8)]:List Z0))
theorem jGd :mK 63 ⟨⟨[],[]⟩,⟨[.own 1 .str 9 true],[]⟩,fun a=>s_l30Known_m N⟩:=
 mO ja func63 rfl N .no _
def s_l30Leaf_m (m:List Int) (o:Int):Option (Int×Z0×(List Z0)×Int×Int×(List Int)×Int):=
 (oB (s_l30Rd_of_m N ([([98,111,100,121]:List UInt8),([98,111,100,121]:List UInt8),([116,105,116,108,101]:List UInt8)]:List Z0) m o) fun b=>oB (jtW N 9 b.2.1 b.2.2) fun a=>bif decide (a.1=0)then some (1,([]:List UInt8),([]:List Z0),0,0,a.2.1,a.2.2)else bif decide (a.1=1)then oB (s_l30Known_m N) fun q=>(oB (s_l30Rd_of_m N q a.2.1 a.2.2) fun f=>oB (s_l30Known_m N) fun n=>oB (s_l30Rd_of_m N n f.2.1 f.2.2) fun h=>oB (jtW N 3 h.2.1 h.2.2) fun k=>some (3,b.1,([f.1,h.1]:List Z0),k.1,0,k.2.1,k.2.2))else bif decide (a.1=2)then oB (s_l30Rd_of_m N ([([99,111,116]:List UInt8),([100,117,103]:List UInt8),([114,110]:List UInt8),([102,111,103]:List UInt8)]:List Z0) a.2.1 a.2.2) fun i=>(oB (jtW N 2 i.2.1 i.2.2) fun d=>if fits (1+d.1)then some (4,b.1,([i.1]:List Z0),(1+d.1),0,d.2.1,d.2.2)else none)else bif decide (a.1=3)then oB (s_l30Rd_of_m N ([([99,42]:List UInt8),([63,111,63]:List UInt8),([42,110]:List UInt8),([42]:List UInt8)]:List Z0) a.2.1 a.2.2) fun j=>(some (5,b.1,([j.1]:List Z0),0,0,j.2.1,j.2.2))else bif decide (a.1=4)then oB (jtW N 4 a.2.1 a.2.2) fun c=>(oB (jtW N 3 c.2.1 c.2.2) fun e=>if fits (c.1+e.1)then some (6,([114,97,116,101]:List UInt8),([]:List Z0),c.1,(c.1+e.1),e.2.1,e.2.2)else none)else oB (s_l30Known_m N) fun p=>oB (s_l30Rd_of_m N p a.2.1 a.2.2) fun l=>some (2,b.1,([l.1]:List Z0),0,0,l.2.1,l.2.2))
theorem jGD :mK 45 ⟨⟨[.box 900000 0],[(900000,false,[.pv (.sl (.int .u8)),pI])]⟩,⟨[.agg [pI,pS,.own 1 .str 9 true,pI,pI,.nils]],[(900000,false,[.pv (.sl (.int .u8)),pI])]⟩,c2A (s_l30Leaf_m N)⟩:=
 mO (fC (jt3 N) (fC (jtX N) (fC (jGd N) ja))) func45 rfl N .no _ (rs:=[900000])
def jFT :Sh:=⟨.box 900000 0::pI:: .dead:: .dead:: .box 4 0::dz 36 (pB::dz 30 []),[(4,false,[pI,pS,.nils,pI,pI,.nils]),(900000,false,[.pv (.sl (.int .u8)),pI])]⟩
def jFQ :Sh:=⟨.box 900000 0::pI:: .dead:: .dead:: .box 4 0:: .box 5 0::pI::dz 65 [],[(4,false,[pI,pS,.nils,pI,pI,.nils]),(5,false,[pI,pS,.nils,pI,pI,.own 700505 .q 37 true]),(900000,false,[.pv (.sl (.int .u8)),pI])]⟩
def s_l30Query_m (N:Nat):(D:Nat)->Int->(List Int)->Int->Option (Int×Z0×(List Z0)×Int×Int×(List DQ)×(List Int)×Int)
 |0,_,_,_=>none
 |D+1,deep,b,b2=>
 bif decide (deep<=1)then
 oB (s_l30Leaf_m N b b2) fun r=>
 (some (r.1,r.2.1,r.2.2.1,r.2.2.2.1,r.2.2.2.2.1,([]:List DQ),r.2.2.2.2.2.1,r.2.2.2.2.2.2))
 else
 oB (jtW N 3 b b2) fun r2=>
 bif decide (r2.1=0)then
 oB (s_l30Leaf_m N r2.2.1 r2.2.2) fun r3=>
 (some (r3.1,r3.2.1,r3.2.2.1,r3.2.2.2.1,r3.2.2.2.2.1,([]:List DQ),r3.2.2.2.2.2.1,r3.2.2.2.2.2.2))
 else
 oB (jtW N 6 r2.2.1 r2.2.2) fun r4=>
 bif decide (r4.1=0)then
 if fits (deep-1)then oB (s_l30Query_m N D (deep-1) r4.2.1 r4.2.2) fun r5=>
 (if fits (deep-1)then oB (s_l30Query_m N D (deep-1) r5.2.2.2.2.2.2.1 r5.2.2.2.2.2.2.2) fun r6=>
 (some (9,([]:List UInt8),([]:List Z0),0,0,([(DQ.mk r5.1 r5.2.1 r5.2.2.1 r5.2.2.2.1 r5.2.2.2.2.1 r5.2.2.2.2.2.1),(DQ.mk r6.1 r6.2.1 r6.2.2.1 r6.2.2.2.1 r6.2.2.2.2.1 r6.2.2.2.2.2.1)]:List DQ),r6.2.2.2.2.2.2.1,r6.2.2.2.2.2.2.2))else none)else none
 else
 bif decide (r4.1=1)then
 oB (jtW N 4 r4.2.1 r4.2.2) fun r7=>
 (if fits (2+r7.1)then if fits (deep-1)then oB (s_l30Query_m N D (deep-1) r7.2.1 r7.2.2) fun r8=>
 (some (10,([]:List UInt8),([]:List Z0),(2+r7.1),0,([(DQ.mk r8.1 r8.2.1 r8.2.2.1 r8.2.2.2.1 r8.2.2.2.2.1 r8.2.2.2.2.2.1)]:List DQ),r8.2.2.2.2.2.2.1,r8.2.2.2.2.2.2.2))else none else none)
 else
 meet (fun(g:Int×Bool×Int×Z0×Int×Int×(List Int)×Int)=>
 match g with
 |(deep2,t41,b3,b4,b5,b6,b7,b8)=>
 bif t41 then
 if fits (deep2-1)then oB (s_l30Query_m N D (deep2-1) b7 b8) fun r9=>
 (if fits (deep2-1)then oB (s_l30Query_m N D (deep2-1) r9.2.2.2.2.2.2.1 r9.2.2.2.2.2.2.2) fun r10=>
 (some (7,([]:List UInt8),([]:List Z0),0,0,([(DQ.mk r9.1 r9.2.1 r9.2.2.1 r9.2.2.2.1 r9.2.2.2.2.1 r9.2.2.2.2.2.1),(DQ.mk r10.1 r10.2.1 r10.2.2.1 r10.2.2.2.1 r10.2.2.2.2.1 r10.2.2.2.2.2.1)]:List DQ),r10.2.2.2.2.2.2.1,r10.2.2.2.2.2.2.2))else none)else none
 else
 oB (jtW N 2 b7 b8) fun r11=>
 if fits (2+r11.1)then iter (fun go (g:Int×Int×Int×Z0×Int×Int×Int×Z0×Int×Int×(List DQ)×(List Int)×Int)=>
 match g with
 |(deep3,n,b9,b10,b11,b12,q,q2,q3,q4,q5,b13,b14)=>
 bif decide ((0:Int)<n)then
 if fits (deep3-1)then oB (s_l30Query_m N D (deep3-1) b13 b14) fun r12=>
 (if room q5.length ([(DQ.mk r12.1 r12.2.1 r12.2.2.1 r12.2.2.2.1 r12.2.2.2.2.1 r12.2.2.2.2.2.1)]:List DQ).length 88 then
 if fits (n-1)then go (deep3,(n-1),b9,b10,b11,b12,q,q2,q3,q4,(q5++([(DQ.mk r12.1 r12.2.1 r12.2.2.1 r12.2.2.2.1 r12.2.2.2.2.1 r12.2.2.2.2.2.1)]:List DQ)),r12.2.2.2.2.2.2.1,r12.2.2.2.2.2.2.2)else none
 else none)else none
 else
 some (q,q2,([]:List Z0),q3,q4,q5,b13,b14)) N (deep2,(2+r11.1),b3,b4,b5,b6,8,([]:List UInt8),0,0,([]:List DQ),r11.2.1,r11.2.2)else none) fun J=>
 bif decide (r4.1=2)then
 J (deep,true,0,([]:List UInt8),0,0,r4.2.1,r4.2.2)
 else
 J (deep,(decide (r4.1=3)),0,([]:List UInt8),0,0,r4.2.1,r4.2.2)
def jE6 (N D:Nat):Model:=⟨⟨[.box 900000 0,pI],[(900000,false,[.pv (.sl (.int .u8)),pI])]⟩,⟨[.agg [pI,pS,.own 1 .str 9 true,pI,pI,.own 2 .q 37 true]],[(900000,false,[.pv (.sl (.int .u8)),pI])]⟩,c3A (s_l30Query_m N D)⟩
theorem jGF (N D:Nat) (ih:mK 28 (jE6 N D)):mK 28 (jE6 N (D+1)):=
 mO (fC ih (fC (jGD N) (fC (jtX N) ja))) func28 rfl N (.seq .no (.seq .no (.seq (.seq .no (.block (.seq .no (.cond .no (.seq .no (.cond .no (.meet jFT .no .no))))))) (.seq .no (.seq (.seq .no (.block (.loop jFQ .no))) .no))))) (jE6 N (D+1)) (rs:=[900000])
theorem jE7 (N:Nat):∀D,mK 28 (jE6 N D)
 |0=>modelOk_none ⟨_,func28,by decide,by kernel_rfl⟩ _ (fun a=>rfl)
 |D+1=>jGF N D (jE7 N D)
def jWo (b:List Int) (d:List Int) (c:Int):Option (Int×(List Int)×Int):=
 (oB (jtW N (b.length:Int) d c) fun a=>oB (idx b a.1) fun e=>some (e,a.2.1,a.2.2))
theorem juA :mK 46 ⟨⟨[.box 900000 0,.pv (.sl tI)],[(900000,false,[.pv (.sl (.int .u8)),pI])]⟩,⟨[pI],[(900000,false,[.pv (.sl (.int .u8)),pI])]⟩,c3A (jWo N)⟩:=
 mO (fC (jtX N) ja) func46 rfl N .no _ (rs:=[900000])
def s_l30AnyQuery_m (f:List Int) (e:Int):Option (Int×Z0×(List Z0)×Int×Int×(List DQ)×(List Int)×Int):=
 (oB (s_l30Query_m N N 3 f e) fun a=>oB (jtW N 16 a.2.2.2.2.2.2.1 a.2.2.2.2.2.2.2) fun b=>bif decide (b.1=0)then oB (jWo N ([0,11,7]:List Int) b.2.1 b.2.2) fun d=>(some (d.1,a.2.1,a.2.2.1,a.2.2.2.1,a.2.2.2.2.1,a.2.2.2.2.2.1,d.2.1,d.2.2))else bif decide (b.1=1)then oB (jWo N ([(-1),10,1]:List Int) b.2.1 b.2.2) fun c=>(some (a.1,a.2.1,a.2.2.1,c.1,a.2.2.2.2.1,a.2.2.2.2.2.1,c.2.1,c.2.2))else bif decide (b.1=2)then if room a.2.2.1.length ([([66,97,100]:List UInt8)]:List Z0).length 16 then some (a.1,a.2.1,(a.2.2.1++([([66,97,100]:List UInt8)]:List Z0)),a.2.2.2.1,a.2.2.2.2.1,a.2.2.2.2.2.1,b.2.1,b.2.2)else none else bif decide (b.1=3)then if room ([(DQ.mk a.1 a.2.1 a.2.2.1 a.2.2.2.1 a.2.2.2.2.1 a.2.2.2.2.2.1)]:List DQ).length a.2.2.2.2.2.1.length 88 then some (a.1,a.2.1,a.2.2.1,a.2.2.2.1,a.2.2.2.2.1,(([(DQ.mk a.1 a.2.1 a.2.2.1 a.2.2.2.1 a.2.2.2.2.1 a.2.2.2.2.2.1)]:List DQ)++a.2.2.2.2.2.1),b.2.1,b.2.2)else none else some (a.1,a.2.1,a.2.2.1,a.2.2.2.1,a.2.2.2.2.1,a.2.2.2.2.2.1,b.2.1,b.2.2))
theorem jGf :mK 29 ⟨⟨[.box 900000 0],[(900000,false,[.pv (.sl (.int .u8)),pI])]⟩,⟨[.agg [pI,pS,.pv (.sl .str),pI,pI,.own 1 .q 37 false]],[(900000,false,[.pv (.sl (.int .u8)),pI])]⟩,c2A (s_l30AnyQuery_m N)⟩:=
 mO (fC (jE7 N N) (fC (jtX N) (fC (juA N) ja))) func29 rfl N .no _ (rs:=[900000])
def jGC :Sh:=⟨.box 900000 0:: .dead:: .dead:: .own 600003 (.pair .str .q) 39 true:: .own 600004 .str 9 true::pI::dz 29 [],[(900000,false,[.pv (.sl (.int .u8)),pI])]⟩
def s_l30Alerts_m (m:List Int) (n:Int):Option (Z11×(List Int)×Int):=
 (oB (jtW N 5 m n) fun e=>iter (fun l (c,i,f,h,k)=>bif decide ((0:Int)<f)then oB (idx i (c.length:Int)) fun j=>(oB (s_l30Query_m N N 3 h k) fun b=>if room c.length ([(j,(DQ.mk b.1 b.2.1 b.2.2.1 b.2.2.2.1 b.2.2.2.2.1 b.2.2.2.2.2.1))]:List (Z0×DQ)).length 104 then if fits (f-1)then l ((c++([(j,(DQ.mk b.1 b.2.1 b.2.2.1 b.2.2.2.1 b.2.2.2.2.1 b.2.2.2.2.2.1))]:List (Z0×DQ))),i,(f-1),b.2.2.2.2.2.2.1,b.2.2.2.2.2.2.2)else none else none)else oB (jtW N 12 h k) fun d=>bif decide (d.1=0)then oB (s_l30AnyQuery_m N d.2.1 d.2.2) fun a=>(if room c.length ([(([97]:List UInt8),(DQ.mk a.1 a.2.1 a.2.2.1 a.2.2.2.1 a.2.2.2.2.1 a.2.2.2.2.2.1))]:List (Z0×DQ)).length 104 then some ((c++([(([97]:List UInt8),(DQ.mk a.1 a.2.1 a.2.2.1 a.2.2.2.1 a.2.2.2.2.1 a.2.2.2.2.2.1))]:List (Z0×DQ))),a.2.2.2.2.2.2.1,a.2.2.2.2.2.2.2)else none)else some (c,d.2.1,d.2.2)) N (([]:List (Z0×DQ)),([([97]:List UInt8),([98]:List UInt8),([99]:List UInt8),([100]:List UInt8)]:List Z0),e.1,e.2.1,e.2.2))
theorem jGI :mK 13 ⟨⟨[.box 900000 0],[(900000,false,[.pv (.sl (.int .u8)),pI])]⟩,⟨[.own 1 (.pair .str .q) 39 false],[(900000,false,[.pv (.sl (.int .u8)),pI])]⟩,c2A (s_l30Alerts_m N)⟩:=
 mO (fC (jtX N) (fC (jE7 N N) (fC (jGf N) ja))) func13 rfl N (.seq .no (.seq .no (.seq .no (.seq (.seq .no (.block (.loop jGC .no))) .no)))) _ (rs:=[900000])
def juL :Sh:=⟨.box 900000 0:: .dead:: .box 2 0:: .box 3 0::dz 30 [],[(2,false,[.nils,.nils]),(3,false,[.own 13 .str 9 true,.nils]),(900000,false,[.pv (.sl (.int .u8)),pI])]⟩
def juw :Sh:=⟨.box 900000 0:: .dead:: .box 2 0:: .box 3 0::dz 30 [],[(2,false,[.nils,.nils]),(3,false,[.own 8 .str 9 true,.nils]),(900000,false,[.pv (.sl (.int .u8)),pI])]⟩
def jWq (k:List Int) (o:Int):Option ((List Z0)×(List Z1)×(List Int)×Int):=
 (meet (fun(e:(List Z0)×(List Int)×Int)=>match e with|(j,i,n)=>meet (fun(e:(List Z0)×(List Int)×Int)=>match e with|(d,l,m)=>oB (jtW N 4 l m) fun a=>bif decide (a.1=0)then some (d,([(([([110,101,119]:List UInt8),([121,111,114,107]:List UInt8)]:List Z0),([110,121]:List UInt8))]:List Z1),a.2.1,a.2.2)else bif decide (a.1=1)then some (d,([(([([98,105,103]:List UInt8)]:List Z0),([108,97,114,103]:List UInt8)),(([([98,105,103]:List UInt8),([114,101,100]:List UInt8),([102,111,120]:List UInt8)]:List Z0),([102,111,120]:List UInt8)),(([([110,101,119]:List UInt8),([121,111,114,107]:List UInt8)]:List Z0),([110,121]:List UInt8))]:List Z1),a.2.1,a.2.2)else some (d,([]:List Z1),a.2.1,a.2.2)) fun h=>oB (jtW N 4 i n) fun c=>bif decide (c.1=0)then h (([([100,111,103]:List UInt8),([116,104,101]:List UInt8)]:List Z0),c.2.1,c.2.2)else h (j,c.2.1,c.2.2)) fun f=>oB (jtW N 3 k o) fun b=>bif decide ((0:Int)<b.1)then f (([([116,104,101]:List UInt8)]:List Z0),b.2.1,b.2.2)else f (([]:List Z0),b.2.1,b.2.2))
theorem jva :mK 30 ⟨⟨[.box 900000 0],[(900000,false,[.pv (.sl (.int .u8)),pI])]⟩,⟨[.agg [.own 1 .str 9 true,.own 2 Y4 54 true]],[(900000,false,[.pv (.sl (.int .u8)),pI])]⟩,c2A (jWq N)⟩:=
 mO (fC (jtX N) ja) func30 rfl N (.seq .no (.seq .no (.meet juw .no (.meet juL .no .no)))) _ (rs:=[900000])
def jWp (d:List Int) (c:Int):Option ((List Z0)×(List Z1)×(List Int)×Int):=
 (oB (jWq N d c) fun b=>oB (jtW N 14 b.2.2.1 b.2.2.2) fun a=>bif decide (a.1=0)then some (([([116,104,101]:List UInt8),([97]:List UInt8)]:List Z0),b.2.1,a.2.1,a.2.2)else bif decide (a.1=1)then if room b.2.1.length ([(([([99,97,116,115]:List UInt8)]:List Z0),([99,97,116]:List UInt8))]:List Z1).length 40 then some (b.1,(b.2.1++([(([([99,97,116,115]:List UInt8)]:List Z0),([99,97,116]:List UInt8))]:List Z1)),a.2.1,a.2.2)else none else bif decide (a.1=2)then if room b.2.1.length ([(([]:List Z0),([99,97,116]:List UInt8))]:List Z1).length 40 then some (b.1,(b.2.1++([(([]:List Z0),([99,97,116]:List UInt8))]:List Z1)),a.2.1,a.2.2)else none else bif decide (a.1=3)then if room b.2.1.length ([(([([116,104,101]:List UInt8),([99,97,116]:List UInt8)]:List Z0),([99,97,116]:List UInt8))]:List Z1).length 40 then some (b.1,(b.2.1++([(([([116,104,101]:List UInt8),([99,97,116]:List UInt8)]:List Z0),([99,97,116]:List UInt8))]:List Z1)),a.2.1,a.2.2)else none else some (b.1,b.2.1,a.2.1,a.2.2))
theorem jF3 :mK 14 ⟨⟨[.box 900000 0],[(900000,false,[.pv (.sl (.int .u8)),pI])]⟩,⟨[.agg [.own 1 .str 9 true,.own 2 Y4 54 true]],[(900000,false,[.pv (.sl (.int .u8)),pI])]⟩,c2A (jWp N)⟩:=
 mO (fC (jva N) (fC (jtX N) ja)) func14 rfl N .no _ (rs:=[900000])
def s_DrawAlertTerms_m (d:List Int):Option (Z11×(List Z0)×(List Z1)):=
 (oB (jt0 N d) fun b=>oB (s_l30Alerts_m N b.1 b.2) fun a=>oB (jWp N a.2.1 a.2.2) fun c=>some (a.1,c.1,c.2.1))
theorem jWz :mK 4 (bX [.pv (.sl (.int .u8))] [.tup [.own 1 (.pair .str .q) 39 false,.agg [.own 2 .str 9 true,.own 3 Y4 54 true]]] (c1A (s_DrawAlertTerms_m N))):=
 mO (fC (juQ N) (fC (jGI N) (fC (jF3 N) ja))) func4 rfl N .no _
def jaw (N:Nat) (a:Int):Z4:=
 (bif decide ((97:Int)<=a)then bif decide (a<=122)then some true else(bif decide ((48:Int)<=a)then some (decide (a<=57))else some false)else bif decide ((48:Int)<=a)then some (decide (a<=57))else some false)
theorem jeK :mK 41 (bX [.pv (.int .u8)] [pB] (c1A (jaw N))):=
 mO ja func41 rfl N .no _
def jm (N:Nat) (a:Int) (b:Int) (c:Int):Z4:=
 (bif decide (b<=a)then some (decide (a<=c))else some false)
theorem jY :mK 24 (bX [pI,pI,pI] [pB] (c3A (jm N))):=
 mO ja func24 rfl N .no _
def jqW :Sh:=⟨pS::dz 4 (pI::pI::dz 11 []),[]⟩
def jO (d:List UInt8):Z4:=
 (iter (fun e (b,c,a)=>bif decide (a<c)then oB (idx b a) fun h=>(oB (jaw N (h.toNat:Int)) fun f=>bif !f then some false else if fits (a+1)then e (b,c,(a+1))else none)else oB (jm N (b.length:Int) 1 12) fun i=>some i) N (d,(d.length:Int),(0:Int)))
theorem jcM :mK 21 (bX [pS] [pB] (c1A (jO N))):=
 mO (fC (jeK N) (fC (jY N) ja)) func21 rfl N (.seq .no (.seq (.seq .no (.block (.loop jqW .no))) .no)) _
def jDx :Sh:=⟨pS::dz 4 (pI::pI::dz 23 []),[]⟩
def jxV (e:List UInt8):Z4:=
 (iter (fun d (b,c,a)=>bif decide (a<c)then oB (idx b a) fun h=>(oB (jaw N (h.toNat:Int)) fun f=>bif !f then oB (idx b a) fun k=>(bif !decide ((k.toNat:Int)=42)then oB (idx b a) fun i=>(bif !decide ((i.toNat:Int)=63)then some false else if fits (a+1)then d (b,c,(a+1))else none)else if fits (a+1)then d (b,c,(a+1))else none)else if fits (a+1)then d (b,c,(a+1))else none)else oB (jm N (b.length:Int) 1 12) fun j=>some j) N (e,(e.length:Int),(0:Int)))
theorem jz9 :mK 60 (bX [pS] [pB] (c1A (jxV N))):=
 mO (fC (jeK N) (fC (jY N) ja)) func60 rfl N (.seq .no (.seq (.seq .no (.block (.loop jDx .no))) .no)) _
def jBs :Sh:=⟨.dead::pI:: .box 2 0::dz 90 (.pv (.sl .str)::pI::pI::dz 39 []),[(2,false,[pI,pS,.pv (.sl .str),pI,pI,.pv (.sl .q)])]⟩
def jC6 :Sh:=⟨.dead::pI::dz 121 (.pv (.sl .q)::pI::pI::dz 9 []),[]⟩
def jDY :Sh:=⟨.dead::pI:: .box 2 0::dz 132 [],[(2,false,[pI,pS,.pv (.sl .str),pI,pI,.pv (.sl .q)])]⟩
def jzZ :Sh:=⟨.dead::pI:: .box 2 0:: .dead:: .dead:: .box 5 0::dz 129 [],[(2,false,[pI,pS,.pv (.sl .str),pI,pI,.pv (.sl .q)]),(5,false,[pB,pI,pI,pI,pI,pB,pI,pI])]⟩
def jxE (N:Nat):(D:Nat)->Int->Z0->(List Z0)->Int->Int->(List DQ)->Int->Z4
 |0,_,_,_,_,_,_,_=>none
 |D+1,q,q2,q3,q4,q5,q6,deep=>
 meet (fun(g:Z13)=>
 match g with
 |(deep2,q7,q8,q9,q10,q11,q12,x,x2,x3,x4,x5,x6,x7,x8)=>
 meet (fun(g:Z13)=>
 match g with
 |(deep3,q13,q14,q15,q16,q17,q18,x9,x10,x11,x12,x13,x14,x15,x16)=>
 meet (fun(g:Int×Int×Z0×(List Z0)×Int×Int×(List DQ))=>
 match g with
 |(deep4,q19,q20,q21,q22,q23,q24)=>
 iter (fun go (g:Int×(List Z0)×Int×Int×Int×Z0×(List Z0)×Int×Int×(List DQ))=>
 match g with
 |(deep5,t93,t94,t95,q25,q26,q27,q28,q29,q30)=>
 bif decide (t95<t94)then
 oB (idx t93 t95) fun e=>
 (bif decide (q25=5)then
 oB (jxV N e) fun r6=>
 (bif !r6 then
 some false
 else
 oB (jO N e) fun r7=>
 bif r7 then
 some false
 else
 bif !decide (q25=5)then
 oB (jO N e) fun r8=>
 (bif !r8 then
 some false
 else
 if fits (t95+1)then go (deep5,t93,t94,(t95+1),q25,q26,q27,q28,q29,q30)else none)
 else
 if fits (t95+1)then go (deep5,t93,t94,(t95+1),q25,q26,q27,q28,q29,q30)else none)
 else
 bif !decide (q25=5)then
 oB (jO N e) fun r9=>
 (bif !r9 then
 some false
 else
 if fits (t95+1)then go (deep5,t93,t94,(t95+1),q25,q26,q27,q28,q29,q30)else none)
 else
 if fits (t95+1)then go (deep5,t93,t94,(t95+1),q25,q26,q27,q28,q29,q30)else none)
 else
 iter (fun go2 (g:Int×(List DQ)×Int×Int)=>
 match g with
 |(deep6,t123,t124,t125)=>
 bif decide (t125<t124)then
 oB (idx t123 t125) fun e2=>
 (if fits (deep6-1)then oB (jxE N D e2.kind e2.field e2.words e2.lo e2.hi e2.kids (deep6-1)) fun r10=>
 (bif !r10 then
 some false
 else
 if fits (t125+1)then go2 (deep6,t123,t124,(t125+1))else none)else none)
 else
 some true) N (deep5,q30,(q30.length:Int),0)) N (deep4,q21,(q21.length:Int),0,q19,q20,q21,q22,q23,q24)) fun J3=>
 bif x14 then
 oB (jm N q17 q16 999999999) fun r5=>
 (bif !r5 then
 some false
 else
 bif !x14 then
 bif !decide (q17=0)then
 some false
 else
 (J3 (deep3,q13,q14,q15,q16,q17,q18))
 else
 J3 (deep3,q13,q14,q15,q16,q17,q18))
 else
 bif !x14 then
 bif !decide (q17=0)then
 some false
 else
 (J3 (deep3,q13,q14,q15,q16,q17,q18))
 else
 J3 (deep3,q13,q14,q15,q16,q17,q18)) fun J2=>
 oB (jm N (q9.length:Int) x2 x3) fun r2=>
 bif !r2 then
 some false
 else
 oB (jm N (q12.length:Int) x7 x8) fun r3=>
 bif !r3 then
 some false
 else
 oB (jm N q10 x4 x5) fun r4=>
 bif !r4 then
 some false
 else
 J2 (deep2,q7,q8,q9,q10,q11,q12,x,x2,x3,x4,x5,x6,x7,x8)) fun J=>
 bif !((mget tI (.pair .bool (.pair tI (.pair tI (.pair tI (.pair tI (.pair .bool (.pair tI tI))))))) gm_shapes q).isSome)then
 some false
 else
 bif decide (deep<1)then
 some false
 else
 bif !((((mget tI (.pair .bool (.pair tI (.pair tI (.pair tI (.pair tI (.pair .bool (.pair tI tI))))))) gm_shapes q).getD (false,(0,(0,(0,(0,(false,(0,0)))))))).1)==(!decide (q2=([]:List UInt8))))then
 some false
 else
 bif((mget tI (.pair .bool (.pair tI (.pair tI (.pair tI (.pair tI (.pair .bool (.pair tI tI))))))) gm_shapes q).getD (false,(0,(0,(0,(0,(false,(0,0)))))))).1 then
 oB (jO N q2) fun r=>
 (bif !r then
 some false
 else
 J (deep,q,q2,q3,q4,q5,q6,((mget tI (.pair .bool (.pair tI (.pair tI (.pair tI (.pair tI (.pair .bool (.pair tI tI))))))) gm_shapes q).getD (false,(0,(0,(0,(0,(false,(0,0)))))))).1,(((mget tI (.pair .bool (.pair tI (.pair tI (.pair tI (.pair tI (.pair .bool (.pair tI tI))))))) gm_shapes q).getD (false,(0,(0,(0,(0,(false,(0,0)))))))).2).1,((((mget tI (.pair .bool (.pair tI (.pair tI (.pair tI (.pair tI (.pair .bool (.pair tI tI))))))) gm_shapes q).getD (false,(0,(0,(0,(0,(false,(0,0)))))))).2).2).1,(((((mget tI (.pair .bool (.pair tI (.pair tI (.pair tI (.pair tI (.pair .bool (.pair tI tI))))))) gm_shapes q).getD (false,(0,(0,(0,(0,(false,(0,0)))))))).2).2).2).1,((((((mget tI (.pair .bool (.pair tI (.pair tI (.pair tI (.pair tI (.pair .bool (.pair tI tI))))))) gm_shapes q).getD (false,(0,(0,(0,(0,(false,(0,0)))))))).2).2).2).2).1,(((((((mget tI (.pair .bool (.pair tI (.pair tI (.pair tI (.pair tI (.pair .bool (.pair tI tI))))))) gm_shapes q).getD (false,(0,(0,(0,(0,(false,(0,0)))))))).2).2).2).2).2).1,((((((((mget tI (.pair .bool (.pair tI (.pair tI (.pair tI (.pair tI (.pair .bool (.pair tI tI))))))) gm_shapes q).getD (false,(0,(0,(0,(0,(false,(0,0)))))))).2).2).2).2).2).2).1,((((((((mget tI (.pair .bool (.pair tI (.pair tI (.pair tI (.pair tI (.pair .bool (.pair tI tI))))))) gm_shapes q).getD (false,(0,(0,(0,(0,(false,(0,0)))))))).2).2).2).2).2).2).2))
 else
 J (deep,q,q2,q3,q4,q5,q6,((mget tI (.pair .bool (.pair tI (.pair tI (.pair tI (.pair tI (.pair .bool (.pair tI tI))))))) gm_shapes q).getD (false,(0,(0,(0,(0,(false,(0,0)))))))).1,(((mget tI (.pair .bool (.pair tI (.pair tI (.pair tI (.pair tI (.pair .bool (.pair tI tI))))))) gm_shapes q).getD (false,(0,(0,(0,(0,(false,(0,0)))))))).2).1,((((mget tI (.pair .bool (.pair tI (.pair tI (.pair tI (.pair tI (.pair .bool (.pair tI tI))))))) gm_shapes q).getD (false,(0,(0,(0,(0,(false,(0,0)))))))).2).2).1,(((((mget tI (.pair .bool (.pair tI (.pair tI (.pair tI (.pair tI (.pair .bool (.pair tI tI))))))) gm_shapes q).getD (false,(0,(0,(0,(0,(false,(0,0)))))))).2).2).2).1,((((((mget tI (.pair .bool (.pair tI (.pair tI (.pair tI (.pair tI (.pair .bool (.pair tI tI))))))) gm_shapes q).getD (false,(0,(0,(0,(0,(false,(0,0)))))))).2).2).2).2).1,(((((((mget tI (.pair .bool (.pair tI (.pair tI (.pair tI (.pair tI (.pair .bool (.pair tI tI))))))) gm_shapes q).getD (false,(0,(0,(0,(0,(false,(0,0)))))))).2).2).2).2).2).1,((((((((mget tI (.pair .bool (.pair tI (.pair tI (.pair tI (.pair tI (.pair .bool (.pair tI tI))))))) gm_shapes q).getD (false,(0,(0,(0,(0,(false,(0,0)))))))).2).2).2).2).2).2).1,((((((((mget tI (.pair .bool (.pair tI (.pair tI (.pair tI (.pair tI (.pair .bool (.pair tI tI))))))) gm_shapes q).getD (false,(0,(0,(0,(0,(false,(0,0)))))))).2).2).2).2).2).2).2)
def jyl (N D:Nat):Model:=⟨⟨[.agg [pI,pS,.pv (.sl .str),pI,pI,.pv (.sl .q)],pI],[]⟩,⟨[pB],[]⟩,c7A (jxE N D)⟩
theorem jAF (N D:Nat) (ih:mK 42 (jyl N D)):mK 42 (jyl N (D+1)):=
 mO (fC ih (fC (jcM N) (fC (jY N) (fC (jz9 N) ja)))) func42 rfl N (.seq .no (.seq .no (.meet jzZ .no (.meet jzZ .no (.meet jDY .no (.seq (.seq .no (.block (.loop jBs .no))) (.seq (.seq .no (.block (.loop jC6 .no))) .no))))))) (jyl N (D+1))
theorem jzh (N:Nat):∀D,mK 42 (jyl N D)
 |0=>modelOk_none ⟨_,func42,by decide,by kernel_rfl⟩ _ (fun a=>rfl)
 |D+1=>jAF N D (jzh N D)
def jTV (c:Int) (h:List UInt8) (b:List Z0) (a:Int) (d:Int) (f:List DQ):Z4:=
 (oB (jxE N N c h b a d f 4) fun e=>some e)
theorem jCN :mK 22 (bX [.agg [pI,pS,.pv (.sl .str),pI,pI,.pv (.sl .q)]] [pB] (c6A (jTV N))):=
 mO (fC (jzh N N) ja) func22 rfl N .no _
def jF0 :Sh:=⟨.pv (.sl (.pair .str .q))::dz 4 (.pv (.sl (.pair .str .q))::pI::pI::dz 33 []),[]⟩
def jGU (f:List (Z0×DQ)):Z4:=
 (iter (fun h (c,d,e,a)=>bif decide (a<e)then oB (idx d a) fun b=>(oB (jO N b.1) fun i=>bif !i then some false else oB (jTV N b.2.kind b.2.field b.2.words b.2.lo b.2.hi b.2.kids) fun k=>bif !k then some false else bif decide ((0:Int)<a)then if fits (a-1)then oB (idx c (a-1)) fun j=>(bif !Op.bytesLess j.1 b.1 then some false else if fits (a+1)then h (c,d,e,(a+1))else none)else none else if fits (a+1)then h (c,d,e,(a+1))else none)else some (decide ((c.length:Int)<=6))) N (f,f,(f.length:Int),(0:Int)))
theorem jFt :mK 8 (bX [.pv (.sl (.pair .str .q))] [pB] (c1A (jGU N))):=
 mO (fC (jcM N) (fC (jCN N) ja)) func8 rfl N (.seq .no (.seq (.seq .no (.block (.loop jF0 .no))) .no)) _
def jmc :Sh:=⟨.pv (.sl .str)::dz 4 (.pv (.sl .str)::pI::pI::dz 21 []),[]⟩
def jb2 (e:List Z0):Z4:=
 (iter (fun f (b,c,d,a)=>bif decide (a<d)then oB (idx c a) fun h=>(oB (jO N h) fun i=>bif !i then some false else bif decide ((0:Int)<a)then if fits (a-1)then oB (idx b (a-1)) fun j=>(bif !Op.bytesLess j h then some false else if fits (a+1)then f (b,c,d,(a+1))else none)else none else if fits (a+1)then f (b,c,d,(a+1))else none)else some true) N (e,e,(e.length:Int),(0:Int)))
theorem jtw :mK 23 (bX [.pv (.sl .str)] [pB] (c1A (jb2 N))):=
 mO (fC (jcM N) ja) func23 rfl N (.seq .no (.seq (.seq .no (.block (.loop jmc .no))) .no)) _
def jdF (N:Nat) (a:List UInt8) (b:List UInt8):Z4:=
 (bif decide ((b.length:Int)<=(a.length:Int))then if fits ((a.length:Int)-(b.length:Int))then oB (cut a ((a.length:Int)-(b.length:Int)) (a.length:Int)) fun c=>(some (decide (c=b)))else none else some false)
theorem jpU :mK 61 (bX [pS,pS] [pB] (c2A (jdF N))):=
 mO ja func61 rfl N .no _
def jcN (c:List UInt8) (b:List UInt8):Z4:=
 (oB (jdF N c b) fun a=>some a)
theorem jsu :mK 43 (bX [pS,pS] [pB] (c2A (jcN N))):=
 mO (fC (jpU N) ja) func43 rfl N .no _
def jod :Sh:=⟨pS:: .dead:: .dead::pB::dz 32 [],[]⟩
def jnf :Sh:=⟨pS:: .dead:: .dead::pB::dz 6 (.own 600010 .str 9 true::pI::pI::dz 23 []),[]⟩
def jaB (l:List UInt8):Option (Z0):=
 (oB (jO N l) fun o=>bif !o then some ([]:List UInt8)else iter (fun i (k,m)=>bif m then iter (fun j (a,d,e,f,b)=>bif decide (b<f)then oB (idx e b) fun c=>(oB (jcN N a c) fun p=>bif p then if fits ((a.length:Int)-(c.length:Int))then bif decide ((3:Int)<=((a.length:Int)-(c.length:Int)))then if fits ((a.length:Int)-(c.length:Int))then oB (cut a 0 ((a.length:Int)-(c.length:Int))) fun n=>(i (n,true))else none else(if fits (b+1)then j (a,d,e,f,(b+1))else none)else none else if fits (b+1)then j (a,d,e,f,(b+1))else none)else i (a,d)) N (k,false,([([105,110,103]:List UInt8),([101,100]:List UInt8),([101,115]:List UInt8),([108,121]:List UInt8),([115]:List UInt8)]:List Z0),(([([105,110,103]:List UInt8),([101,100]:List UInt8),([101,115]:List UInt8),([108,121]:List UInt8),([115]:List UInt8)]:List Z0).length:Int),(0:Int))else some k) N (l,true))
theorem jio :mK 25 (bX [pS] [pS] (c1A (jaB N))):=
 mO (fC (jcM N) (fC (jsu N) ja)) func25 rfl N (.seq .no (.seq .no (.seq (.seq .no (.block (.loop jod (.seq .no (.block (.seq .no (.seq .no (.block (.loop jnf .no))))))))) .no))) _
def jkJ :Sh:=⟨.pv (.sl .str)::pS::dz 5 (pI::pI::dz 10 []),[]⟩
def jdH (d:List Z0) (i:List UInt8):Option (Int):=
 (iter (fun f (b,c,e,a)=>bif decide (a<e)then oB (idx b a) fun h=>(bif decide (c=h)then some a else if fits (a+1)then f (b,c,e,(a+1))else none)else some (-1)) N (d,i,(d.length:Int),(0:Int)))
theorem jkZ :mK 44 (bX [.pv (.sl .str),pS] [pI] (c2A (jdH N))):=
 mO ja func44 rfl N (.seq .no (.seq (.seq .no (.block (.loop jkJ .no))) .no)) _
def jao (c:List Z0) (a:List UInt8):Z4:=
 (oB (jdH N c a) fun b=>some (decide ((0:Int)<=b)))
theorem jh5 :mK 26 (bX [.pv (.sl .str),pS] [pB] (c2A (jao N))):=
 mO (fC (jkZ N) ja) func26 rfl N .no _
def jmj :Sh:=⟨.dead:: .box 1 0::dz 22 (.pv Y2::pI::pI::dz 46 []),[(1,false,[.pv (.sl .str),.pv Y2])]⟩
def jrC :Sh:=⟨.dead:: .box 1 0::dz 22 (.pv Y2::pI::pI::dz 12 (pB::dz 7 (pB:: .dead:: .dead:: .pv (.sl .str)::pI::pI::dz 20 []))),[(1,false,[.pv (.sl .str),.pv Y2])]⟩
def jaj (f:List Z0) (c:List Z1):Z4:=
 (bif decide ((6:Int)<f.length)then some false else oB (jb2 N f) fun A=>bif !A then some false else bif decide ((4:Int)<c.length)then some false else iter (fun u (o,l,i,D,z)=>bif decide (i<l)then oB (idx o i) fun a=>(oB (jm N (a.1.length:Int) 1 3) fun C=>bif !C then some false else oB (jO N a.2) fun p=>bif !p then some false else oB (jaB N a.2) fun m=>bif !decide (m=a.2)then some false else iter (fun v (q,t,e,w,x,k,n,b,j,r)=>bif decide (b<n)then oB (idx k b) fun d=>(oB (jO N d) fun y=>bif !y then some false else oB (jaB N d) fun B=>bif !decide (B=d)then some false else oB (jao N j d) fun E=>bif E then some false else if fits (b+1)then v (q,t,e,w,x,k,n,(b+1),j,r)else none)else if fits (e+1)then u (q,t,(e+1),j,r)else none) N (o,l,i,(!p),(!decide (m=a.2)),a.1,(a.1.length:Int),(0:Int),D,z))else some true) N (c,(c.length:Int),(0:Int),f,c))
theorem jdX :mK 9 (bX [.agg [.pv (.sl .str),.pv Y2]] [pB] (c2A (jaj N))):=
 mO (fC (jtw N) (fC (jY N) (fC (jcM N) (fC (jio N) (fC (jh5 N) ja))))) func9 rfl N (.seq .no (.seq .no (.seq (.seq .no (.block (.loop jmj (.seq .no (.seq .no (.seq (.block (.seq .no (.seq .no (.seq .no (.block (.loop jrC .no)))))) .no)))))) .no))) _
def jyu (N:Nat) (b:List Z0) (a:List UInt8):Option (Z0):=jxR b a
 
def jBB (N:Nat):Model:=⟨⟨[.pv (.sl .str),pS],[]⟩,⟨[pS],[]⟩,c2A (jyu N)⟩
theorem jBE :mK 32 (jBB N):=jBz
def jtd :Sh:=⟨pS::dz 4 (pI::pI::dz 16 []),[]⟩
def jaF (d:List UInt8):Z4:=
 (iter (fun e (b,c,a)=>bif decide (a<c)then oB (idx b a) fun f=>(bif decide ((f.toNat:Int)<32)then some false else oB (idx b a) fun h=>bif decide ((126:Int)<(h.toNat:Int))then some false else if fits (a+1)then e (b,c,(a+1))else none)else some (decide ((b.length:Int)<=160))) N (d,(d.length:Int),(0:Int)))
theorem jdK :mK 47 (bX [pS] [pB] (c1A (jaF N))):=
 mO ja func47 rfl N (.seq .no (.seq (.seq .no (.block (.loop jtd .no))) .no)) _
def jI (N:Nat) (a:Int):Option (Int):=
 (bif decide ((65:Int)<=a)then bif decide (a<=90)then some (IntKind.u8.wrap ((IntKind.u8.wrap (a+97))-65))else(some a)else some a)
theorem jmu :mK 64 (bX [.pv (.int .u8)] [.pv (.int .u8)] (c1A (jI N))):=
 mO ja func64 rfl N .no _
def jpB :Sh:=⟨pS:: .dead:: .dead:: .own 600003 Y0 77 true::pI::dz 57 [],[]⟩
def jo6 :Sh:=⟨pS:: .dead:: .dead:: .own 600003 Y0 77 true::pI:: .box 5 0:: .own 600006 (.int .u8) 5 true::dz 55 [],[(5,false,[pS,pI,pI,pI])]⟩
def jct (n:List UInt8):Option ((List Z3)):=
 (oB (jaF N n) fun x=>bif !x then some ([]:List Z3)else iter (fun k (j,i,e)=>bif decide (e<(j.length:Int))then oB (idx j e) fun t=>(oB (jI N (t.toNat:Int)) fun z=>oB (jaw N z) fun w=>bif !w then if fits (e+1)then k (j,i,(e+1))else none else iter (fun m (c,h,a,b,p,f,d,o)=>bif decide (a<(c.length:Int))then oB (idx c a) fun v=>(oB (jI N (v.toNat:Int)) fun r=>oB (jaw N r) fun u=>bif u then bif decide ((b.length:Int)<12)then oB (idx c a) fun y=>(oB (jI N (y.toNat:Int)) fun q=>if room b.length ([q]:List Int).length 1 then if fits (a+1)then m (c,h,(a+1),(b++([q]:List Int)),p,f,d,o)else none else none)else(if fits (a+1)then m (c,h,(a+1),b,p,f,d,o)else none)else if room h.length ([((bytesOf b),f,d,a)]:List Z3).length 40 then k (c,(h++([((bytesOf b),f,d,a)]:List Z3)),a)else none)else if room h.length ([((bytesOf b),f,d,a)]:List Z3).length 40 then k (c,(h++([((bytesOf b),f,d,a)]:List Z3)),a)else none) N (j,i,e,([]:List Int),([]:List UInt8),(i.length:Int),e,(0:Int)))else some i) N (n,([]:List Z3),(0:Int)))
theorem jqc :mK 48 (bX [pS] [.own 1 Y0 77 true] (c1A (jct N))):=
 mO (fC (jdK N) (fC (jmu N) (fC (jeK N) ja))) func48 rfl N (.seq .no (.seq .no (.seq .no (.seq (.seq .no (.block (.loop jpB (.seq .no (.block (.seq .no (.seq .no (.seq .no (.seq (.block (.loop jo6 .no)) .no))))))))) .no)))) _
def jty :Sh:=⟨.dead:: .pv (.sl Y3)::pI:: .box 3 0::dz 3 (.pv (.opt Y4)::dz 8 (pI::pI::dz 73 [])),[(3,false,[.pv (.sl .str),.pv Y2])]⟩
def jss :Sh:=⟨.dead:: .pv (.sl Y3)::pI:: .box 3 0::dz 3 (.pv (.opt Y4):: .dead:: .ptr Y4::pB::dz 5 (pI::pI::dz 31 (pB::dz 4 (.pv (.sl .str)::pI::pI::dz 34 [])))),[(3,false,[.pv (.sl .str),.pv Y2])]⟩
def jbH (c:List Z0) (c2:List Z1) (jTy:Z6) (at0:Int):Option ((Option Z1)):=
 (iter (fun go (terms2,at02,best,t16,t17,c3,c4)=>bif decide (t17<t16)then oB (idx c4 t17) fun e=>(if fits ((terms2.length:Int)-at02)then bif decide (((terms2.length:Int)-at02)<(e.1.length:Int))then if fits (t17+1)then go (terms2,at02,best,t16,(t17+1),c3,c4)else none else(bif !(Option.isNone best)then oB best fun p=>(bif decide ((e.1.length:Int)<=(p.1.length:Int))then if fits (t17+1)then go (terms2,at02,best,t16,(t17+1),c3,c4)else none else iter (fun go2 (terms3,at03,best2,r,fits0,t162,t172,t49,t54,t55,t56,c5,c6)=>bif decide (t56<t55)then oB (idx t54 t56) fun e2=>(if fits (at03+t56)then oB (idx terms3 (at03+t56)) fun e3=>(bif fits0 then bif decide (e3.1=e2)then oB (idx terms3 at03) fun e4=>(if fits (e4.2+t56)then if fits (t56+1)then go2 (terms3,at03,best2,r,(decide (e3.2=(e4.2+t56))),t162,t172,t49,t54,t55,(t56+1),c5,c6)else none else none)else(if fits (t56+1)then go2 (terms3,at03,best2,r,false,t162,t172,t49,t54,t55,(t56+1),c5,c6)else none)else if fits (t56+1)then go2 (terms3,at03,best2,r,false,t162,t172,t49,t54,t55,(t56+1),c5,c6)else none)else none)else bif fits0 then if fits (t172+1)then go (terms3,at03,(some r),t162,(t172+1),c5,c6)else none else if fits (t172+1)then go (terms3,at03,best2,t162,(t172+1),c5,c6)else none) N (terms2,at02,best,e,true,t16,t17,(decide ((e.1.length:Int)<=(p.1.length:Int))),e.1,(e.1.length:Int),(0:Int),c3,c4))else iter (fun go3 (terms4,at04,best3,r2,fits02,t163,t173,t492,t542,t552,t562,c7,c8)=>bif decide (t562<t552)then oB (idx t542 t562) fun e5=>(if fits (at04+t562)then oB (idx terms4 (at04+t562)) fun e6=>(bif fits02 then bif decide (e6.1=e5)then oB (idx terms4 at04) fun e7=>(if fits (e7.2+t562)then if fits (t562+1)then go3 (terms4,at04,best3,r2,(decide (e6.2=(e7.2+t562))),t163,t173,t492,t542,t552,(t562+1),c7,c8)else none else none)else(if fits (t562+1)then go3 (terms4,at04,best3,r2,false,t163,t173,t492,t542,t552,(t562+1),c7,c8)else none)else if fits (t562+1)then go3 (terms4,at04,best3,r2,false,t163,t173,t492,t542,t552,(t562+1),c7,c8)else none)else none)else bif fits02 then if fits (t173+1)then go (terms4,at04,(some r2),t163,(t173+1),c7,c8)else none else if fits (t173+1)then go (terms4,at04,best3,t163,(t173+1),c7,c8)else none) N (terms2,at02,best,e,true,t16,t17,false,e.1,(e.1.length:Int),(0:Int),c3,c4))else none)else some best) N (jTy,at0,(none:Option Z1),(c2.length:Int),(0:Int),c,c2))
theorem jtv :mK 49 (bX [.agg [.pv (.sl .str),.pv Y2],.pv (.sl Y3),pI] [.pv (.opt Y4)] (c4A (jbH N))):=
 mO ja func49 rfl N (.seq .no (.seq .no (.seq (.seq .no (.block (.loop jty (.seq .no (.seq .no (.seq (.block (.seq .no (.seq .no (.seq .no (.seq .no (.seq (.seq .no (.block (.loop jss .no))) .no)))))) .no)))))) .no))) _
def jlW :Sh:=⟨.dead:: .dead:: .box 2 0:: .dead:: .dead:: .own 600005 Y3 66 true:: .own 600006 Y3 66 true::dz 17 (.own 600024 Y0 77 true::pI::pI::dz 67 []),[(2,false,[.pv (.sl .str),.pv Y2])]⟩
def jnt :Sh:=⟨.dead:: .dead:: .box 2 0:: .dead:: .dead:: .own 600005 Y3 66 true:: .own 600006 Y3 66 true::dz 3 (pI::dz 83 []),[(2,false,[.pv (.sl .str),.pv Y2])]⟩
def jbw (v:List Z0) (y:List Z1) (w:List UInt8):Option (Z5):=
 (oB (jaj N v y) fun D=>bif !D then some ([]:Z6)else oB (jaF N w) fun G=>bif !G then some ([]:Z6)else oB (jct N w) fun z=>iter (fun m (i,e,k,h,b,d,l)=>bif decide (b<h)then oB (idx k b) fun j=>(oB (jaB N j.1) fun n=>oB (jao N d j.1) fun C=>bif !C then oB (jao N d n) fun E=>(bif !E then if room e.length ([(n,j.2.1)]:Z6).length 24 then if fits (b+1)then m (i,(e++([(n,j.2.1)]:Z6)),k,h,(b+1),d,l)else none else none else if fits (b+1)then m (i,e,k,h,(b+1),d,l)else none)else if fits (b+1)then m (i,e,k,h,(b+1),d,l)else none)else iter (fun u (f,c,a,q,p)=>bif decide (a<(c.length:Int))then oB (jbH N q p c a) fun r=>(bif Option.isNone r then oB (idx c a) fun B=>(if room f.length ([B]:Z6).length 24 then if fits (a+1)then u ((f++([B]:Z6)),c,(a+1),q,p)else none else none)else oB r fun x=>oB (idx c a) fun A=>if room f.length ([(x.2,A.2)]:Z6).length 24 then oB r fun t=>(if fits (a+(t.1.length:Int))then u ((f++([(x.2,A.2)]:Z6)),c,(a+(t.1.length:Int)),q,p)else none)else none)else some f) N (i,e,(0:Int),d,l)) N (([]:Z6),([]:Z6),z,(z.length:Int),(0:Int),v,y))
theorem jgO :mK 31 (bX [.agg [.pv (.sl .str),.pv Y2],pS] [.own 1 Y3 66 true] (c3A (jbw N))):=
 mO (fC (jdX N) (fC (jdK N) (fC (jqc N) (fC (jio N) (fC (jh5 N) (fC (jtv N) ja)))))) func31 rfl N (.seq .no (.seq .no (.seq .no (.seq .no (.seq (.seq .no (.block (.loop jlW .no))) (.seq (.seq .no (.block (.loop jnt .no))) .no)))))) _
def jVl :Sh:=⟨.dead:: .dead:: .box 1000900002 0:: .box 3 0:: .box 4 0::dz 17 (.own 600022 Y3 66 true::pI::pI::dz 27 []),[(3,false,[.pv (.sl .str),.pv Y2]),(4,false,[pI,pS,.pv (.sl .str),pI,pI,.pv (.sl .q)]),(1000900002,false,[.pv (.sl (.pair .str .bool))])]⟩
def jV4 :Sh:=⟨.dead:: .dead:: .box 1000900002 0:: .box 3 0:: .box 4 0::dz 28 (.pv (.sl .q)::pI::pI::dz 16 []),[(3,false,[.pv (.sl .str),.pv Y2]),(4,false,[pI,pS,.pv (.sl .str),pI,pI,.pv (.sl .q)]),(1000900002,false,[.pv (.sl (.pair .str .bool))])]⟩
def jVw :Sh:=⟨.dead:: .dead:: .box 1000900002 0:: .box 3 0:: .box 4 0::dz 47 [],[(3,false,[.pv (.sl .str),.pv Y2]),(4,false,[pI,pS,.pv (.sl .str),pI,pI,.pv (.sl .q)]),(1000900002,false,[.pv (.sl (.pair .str .bool))])]⟩
def jTJ (N:Nat):(D:Nat)->(List Z0)->(List Z1)->Int->Z0->(List Z0)->Int->Int->(List DQ)->Z10->Option (Z10)
 |0,_,_,_,_,_,_,_,_,_=>none
 |D+1,c,c2,q,q2,q3,q4,q5,q6,b=>
 meet (fun(g:(List Z0)×(List Z1)×Int×Z0×(List Z0)×Int×Int×(List DQ)×Z10)=>
 match g with
 |(c7,c8,q19,q20,q21,q22,q23,q24,b4)=>
 iter (fun go3 (g:(List DQ)×Int×Int×(List Z0)×(List Z1)×Int×Z0×(List Z0)×Int×Int×(List DQ)×Z10)=>
 match g with
 |(t33,t34,t35,c9,c10,q25,q26,q27,q28,q29,q30,b5)=>
 bif decide (t35<t34)then
 oB (idx t33 t35) fun e3=>
 (bif !decide (q25=9)then
 oB (jTJ N D c9 c10 e3.kind e3.field e3.words e3.lo e3.hi e3.kids b5) fun r5=>
 (if fits (t35+1)then go3 (t33,t34,(t35+1),c9,c10,q25,q26,q27,q28,q29,q30,r5)else none)
 else
 bif decide (t35=0)then
 oB (jTJ N D c9 c10 e3.kind e3.field e3.words e3.lo e3.hi e3.kids b5) fun r6=>
 (if fits (t35+1)then go3 (t33,t34,(t35+1),c9,c10,q25,q26,q27,q28,q29,q30,r6)else none)
 else
 if fits (t35+1)then go3 (t33,t34,(t35+1),c9,c10,q25,q26,q27,q28,q29,q30,b5)else none)
 else
 some b5) N (q24,(q24.length:Int),0,c7,c8,q19,q20,q21,q22,q23,q24,b4)) fun J=>
 bif decide (q=2)then
 oB (jyu N q3 ([32]:List UInt8)) fun r=>
 (oB (jbw N c c2 r) fun r2=>
 iter (fun go (g:Z5×Int×Int×(List Z0)×(List Z1)×Int×Z0×(List Z0)×Int×Int×(List DQ)×Z10)=>
 match g with
 |(t22,t23,t24,c3,c4,q7,q8,q9,q10,q11,q12,b2)=>
 bif decide (t24<t23)then
 oB (idx t22 t24) fun e=>
 (if fits (t24+1)then go (t22,t23,(t24+1),c3,c4,q7,q8,q9,q10,q11,q12,(mput .str .bool b2 e.1 true))else none)
 else
 J (c3,c4,q7,q8,q9,q10,q11,q12,b2)) N (r2,(r2.length:Int),0,c,c2,q,q2,q3,q4,q5,q6,b))
 else
 bif decide (q=3)then
 oB (jyu N q3 ([32]:List UInt8)) fun r3=>
 (oB (jbw N c c2 r3) fun r4=>
 iter (fun go2 (g:Z5×Int×Int×(List Z0)×(List Z1)×Int×Z0×(List Z0)×Int×Int×(List DQ)×Z10)=>
 match g with
 |(t222,t232,t242,c5,c6,q13,q14,q15,q16,q17,q18,b3)=>
 bif decide (t242<t232)then
 oB (idx t222 t242) fun e2=>
 (if fits (t242+1)then go2 (t222,t232,(t242+1),c5,c6,q13,q14,q15,q16,q17,q18,(mput .str .bool b3 e2.1 true))else none)
 else
 J (c5,c6,q13,q14,q15,q16,q17,q18,b3)) N (r4,(r4.length:Int),0,c,c2,q,q2,q3,q4,q5,q6,b))
 else
 J (c,c2,q,q2,q3,q4,q5,q6,b)
def jT4 (N D:Nat):Model:=⟨⟨[.agg [.pv (.sl .str),.pv Y2],.agg [pI,pS,.pv (.sl .str),pI,pI,.pv (.sl .q)],.box 1000900002 0],[(1000900002,false,[.pv (.sl (.pair .str .bool))])]⟩,⟨[.tup []],[(1000900002,false,[.pv (.sl (.pair .str .bool))])]⟩,c9A (jTJ N D)⟩
theorem jVd (N D:Nat) (ih:mK 15 (jT4 N D)):mK 15 (jT4 N (D+1)):=
 mO (fC ih (fC (jBE N) (fC (jgO N) ja))) func15 rfl N (.seq .no (.meet jVw (.seq .no (.cond (.seq .no (.block (.loop jVl .no))) .no)) (.seq .no (.block (.loop jV4 .no))))) (jT4 N (D+1)) (rs:=[1000900002])
theorem jUV (N:Nat):∀D,mK 15 (jT4 N D)
 |0=>modelOk_none ⟨_,func15,by decide,by kernel_rfl⟩ _ (fun a=>rfl)
 |D+1=>jVd N D (jUV N D)
def jl0 :Sh:=⟨.pv (.int .u64):: .dead::pI::dz 22 [],[]⟩
def k_math_bits_Len64_m (N:Nat) (d:Int):Option (Int):=
 (meet (fun(a:Int×Int)=>match a with|(b,e)=>meet (fun(a:Int×Int)=>match a with|(c,f)=>meet (fun(a:Int×Int)=>match a with|(m,k)=>oB (idx ([0,1,2,2,3,3,3,3,4,4,4,4,4,4,4,4,5,5,5,5,5,5,5,5,5,5,5,5,5,5,5,5,6,6,6,6,6,6,6,6,6,6,6,6,6,6,6,6,6,6,6,6,6,6,6,6,6,6,6,6,6,6,6,6,7,7,7,7,7,7,7,7,7,7,7,7,7,7,7,7,7,7,7,7,7,7,7,7,7,7,7,7,7,7,7,7,7,7,7,7,7,7,7,7,7,7,7,7,7,7,7,7,7,7,7,7,7,7,7,7,7,7,7,7,7,7,7,7,8,8,8,8,8,8,8,8,8,8,8,8,8,8,8,8,8,8,8,8,8,8,8,8,8,8,8,8,8,8,8,8,8,8,8,8,8,8,8,8,8,8,8,8,8,8,8,8,8,8,8,8,8,8,8,8,8,8,8,8,8,8,8,8,8,8,8,8,8,8,8,8,8,8,8,8,8,8,8,8,8,8,8,8,8,8,8,8,8,8,8,8,8,8,8,8,8,8,8,8,8,8,8,8,8,8,8,8,8,8,8,8,8,8,8,8,8,8,8,8,8,8,8,8,8,8,8,8]:List UInt8) (IntKind.u8.wrap m)) fun i=>if fits (k+(IntKind.i64.wrap (i.toNat:Int)))then some (k+(IntKind.i64.wrap (i.toNat:Int)))else none) fun l=>bif decide ((256:Int)<=c)then if 0<=(8:Int)then if fits (f+8)then l ((c.fdiv (2^(min (8:Int).toNat (IntKind.bits .u64)))),(f+8))else none else none else l (c,f)) fun j=>bif decide ((65536:Int)<=b)then if 0<=(16:Int)then if fits (e+16)then j ((b.fdiv (2^(min (16:Int).toNat (IntKind.bits .u64)))),(e+16))else none else none else j (b,e)) fun h=>bif decide ((4294967296:Int)<=d)then if 0<=(32:Int)then h ((d.fdiv (2^(min (32:Int).toNat (IntKind.bits .u64)))),32)else none else h (d,0))
theorem jrK :mK 77 (bX [.pv (.int .u64)] [pI] (c1A (k_math_bits_Len64_m N))):=
 mO ja func77 rfl N (.seq .no (.meet jl0 .no (.meet jl0 .no (.meet jl0 .no .no)))) _
def k_math_bits_Len_m (a:Int):Option (Int):=
 (oB (k_math_bits_Len64_m N a) fun b=>some b)
theorem jda :mK 54 (bX [.pv (.int .u64)] [pI] (c1A (k_math_bits_Len_m N))):=
 mO (fC (jrK N) ja) func54 rfl N .no _
def jbn (N:Nat) (a:List UInt8):Z4:=
 (some (!decide (a=a)))
theorem jkt :mK 89 (bX [pS] [pB] (c1A (jbn N))):=
 mO ja func89 rfl N .no _
def k_cmp_Less_571_m (b:List UInt8) (a:List UInt8):Z4:=
 (oB (jbn N b) fun d=>bif d then oB (jbn N a) fun c=>(bif !c then some true else some (Op.bytesLess b a))else some (Op.bytesLess b a))
theorem jTG :mK 73 (bX [pS,pS] [pB] (c2A (k_cmp_Less_571_m N))):=
 mO (fC (jkt N) ja) func73 rfl N .no _
def jVG :Sh:=⟨.mtk 800000 .str 9 true::pI::pI::dz 3 (pI::dz 42 []),[]⟩
def jU9 :Sh:=⟨.mtk 800000 .str 9 true::pI::pI::dz 3 (pI::pI::dz 41 []),[]⟩
def jUB (n:List Z0) (e:Int) (r:Int):Z8:=
 (if fits (e+1)then iter (fun k (l,v,m,j)=>bif decide (j<m)then iter (fun o (b,d,i,c,a)=>bif decide (d<a)then if 0<=a/\a<(b.length:Int)then oB (b[a.toNat]?) fun p=>(if fits (a-1)then if 0<=(a-1)/\(a-1)<(b.length:Int)then oB (b[(a-1).toNat]?) fun t=>(oB (k_cmp_Less_571_m N p t) fun q=>bif q then if fits (a-1)then if fits (a-1)then if 0<=(a-1)/\(a-1)<(b.length:Int)then oB (b[(a-1).toNat]?) fun h=>(if 0<=a/\a<(b.length:Int)then oB (b[a.toNat]?) fun u=>(if 0<=a/\a<(b.length:Int)then oB (b[a.toNat]?) fun x=>(if 0<=(a-1)/\(a-1)<((b.set a.toNat h).length:Int)then oB ((b.set a.toNat h)[(a-1).toNat]?) fun w=>(if fits (a-1)then o (((b.set a.toNat h).set (a-1).toNat u),d,i,c,(a-1))else none)else none)else none)else none)else none else none else none else if fits (c+1)then k (b,d,i,(c+1))else none)else none else none)else none else if fits (c+1)then k (b,d,i,(c+1))else none) N (l,v,m,j,j)else some l) N (n,e,r,(e+1))else none)
theorem jV8 :mK 67 (bX [.mtk 800000 .str 9 true,pI,pI] [.tup [],.mtk 800000 .str 9 true] (c3A (jUB N))):=
 mO (fC (jTG N) ja) func67 rfl N (.seq .no (.block (.loop jVG (.seq .no (.seq (.block (.seq .no (.block (.loop jU9 .no)))) .no))))) _ (rs:=[800000])
def jVx :Sh:=⟨.mtk 800000 .str 9 true:: .dead::pI::pI::dz 4 (pI::dz 67 []),[]⟩
def jVF :Sh:=⟨.mtk 800000 .str 9 true:: .dead::pI::pI::dz 4 (pI::pI::dz 66 []),[]⟩
def jUc (n:List Z0) (q:Int) (r:Int) (w:Int):Z8:=
 (iter (fun m (h,i,f,b)=>if fits (2*b)then if fits ((2*b)+1)then bif decide (i<=((2*b)+1))then some h else(meet (fun(k:Z7)=>match k with|(d,v,a,c,e)=>if fits (a+c)then if 0<=(a+c)/\(a+c)<(d.length:Int)then oB (d[(a+c).toNat]?) fun t=>(if fits (a+e)then if 0<=(a+e)/\(a+e)<(d.length:Int)then oB (d[(a+e).toNat]?) fun z=>(oB (k_cmp_Less_571_m N t z) fun x=>bif !x then some d else if fits (a+c)then if fits (a+e)then if fits (a+e)then if 0<=(a+e)/\(a+e)<(d.length:Int)then oB (d[(a+e).toNat]?) fun l=>(if fits (a+c)then if 0<=(a+c)/\(a+c)<(d.length:Int)then oB (d[(a+c).toNat]?) fun p=>(if 0<=(a+c)/\(a+c)<(d.length:Int)then oB (d[(a+c).toNat]?) fun A=>(if 0<=(a+e)/\(a+e)<((d.set (a+c).toNat l).length:Int)then oB ((d.set (a+c).toNat l)[(a+e).toNat]?) fun B=>(m (((d.set (a+c).toNat l).set (a+e).toNat p),v,a,e))else none)else none)else none else none)else none else none else none else none)else none else none)else none else none) fun j=>if fits (((2*b)+1)+1)then bif decide ((((2*b)+1)+1)<i)then if fits (f+((2*b)+1))then if 0<=(f+((2*b)+1))/\(f+((2*b)+1))<(h.length:Int)then oB (h[(f+((2*b)+1)).toNat]?) fun o=>(if fits (f+((2*b)+1))then if fits ((f+((2*b)+1))+1)then if 0<=((f+((2*b)+1))+1)/\((f+((2*b)+1))+1)<(h.length:Int)then oB (h[((f+((2*b)+1))+1).toNat]?) fun y=>(oB (k_cmp_Less_571_m N o y) fun u=>bif u then if fits (((2*b)+1)+1)then j (h,i,f,b,(((2*b)+1)+1))else none else j (h,i,f,b,((2*b)+1)))else none else none else none)else none else none else(j (h,i,f,b,((2*b)+1)))else none)else none else none) N (n,r,w,q))
theorem jVW :mK 84 (bX [.mtk 800000 .str 9 true,pI,pI,pI] [.tup [],.mtk 800000 .str 9 true] (c4A (jUc N))):=
 mO (fC (jTG N) ja) func84 rfl N (.seq .no (.block (.loop jVx (.block (.seq .no (.seq .no (.meet jVF .no .no))))))) _ (rs:=[800000])
def jVD :Sh:=⟨.mtk 800000 .str 9 true::dz 5 (pI::pI::pI::pI::dz 46 []),[]⟩
def jVi :Sh:=⟨.mtk 800000 .str 9 true::dz 5 (pI::pI:: .dead:: .dead::pI::dz 45 []),[]⟩
def jUC (p:List Z0) (d:Int) (e:Int):Z8:=
 (if fits (e-d)then if fits ((e-d)-1)then if 2≠0 then if fits (((e-d)-1).tdiv 2)then iter (fun o (m,k,l,f,h)=>bif decide ((0:Int)<=h)then oB (jUc N m h f k) fun r=>(if fits (h-1)then o (r,k,l,f,(h-1))else none)else if fits (f-1)then iter (fun q (c,a,n,b)=>bif decide ((0:Int)<=b)then if fits (a+b)then if fits (a+b)then if 0<=(a+b)/\(a+b)<(c.length:Int)then oB (c[(a+b).toNat]?) fun i=>(if 0<=a/\a<(c.length:Int)then oB (c[a.toNat]?) fun t=>(if 0<=a/\a<(c.length:Int)then oB (c[a.toNat]?) fun v=>(if 0<=(a+b)/\(a+b)<((c.set a.toNat i).length:Int)then oB ((c.set a.toNat i)[(a+b).toNat]?) fun w=>(oB (jUc N ((c.set a.toNat i).set (a+b).toNat t) n b a) fun u=>if fits (b-1)then q (u,a,n,(b-1))else none)else none)else none)else none)else none else none else none else some c) N (m,k,l,(f-1))else none) N (p,d,(0:Int),(e-d),(((e-d)-1).tdiv 2))else none else none else none else none)
theorem jVv :mK 68 (bX [.mtk 800000 .str 9 true,pI,pI] [.tup [],.mtk 800000 .str 9 true] (c3A (jUC N))):=
 mO (fC (jVW N) ja) func68 rfl N (.seq .no (.seq .no (.seq .no (.seq (.seq .no (.block (.loop jVD .no))) (.seq .no (.block (.loop jVi .no))))))) _ (rs:=[800000])
def k_slices_nextPowerOfTwo_m (b:Int):Option (Int):=
 (oB (k_math_bits_Len_m N (IntKind.u64.wrap b)) fun a=>if 0<=a then some (IntKind.u64.wrap ((1:Int)*2^(min a.toNat (IntKind.bits .u64))))else none)
theorem jhv :mK 85 (bX [pI] [.pv (.int .u64)] (c1A (k_slices_nextPowerOfTwo_m N))):=
 mO (fC (jda N) ja) func85 rfl N .no _
def k__slices_xorshift_Next_m (N:Nat) (a:Int):Option (Int×Int):=
 (if 0<=(13:Int)then if 0<=(7:Int)then if 0<=(17:Int)then some ((bitsI .xor .u64 (bitsI .xor .u64 (bitsI .xor .u64 a (IntKind.u64.wrap (a*2^(min (13:Int).toNat (IntKind.bits .u64))))) ((bitsI .xor .u64 a (IntKind.u64.wrap (a*2^(min (13:Int).toNat (IntKind.bits .u64))))).fdiv (2^(min (7:Int).toNat (IntKind.bits .u64))))) (IntKind.u64.wrap ((bitsI .xor .u64 (bitsI .xor .u64 a (IntKind.u64.wrap (a*2^(min (13:Int).toNat (IntKind.bits .u64))))) ((bitsI .xor .u64 a (IntKind.u64.wrap (a*2^(min (13:Int).toNat (IntKind.bits .u64))))).fdiv (2^(min (7:Int).toNat (IntKind.bits .u64)))))*2^(min (17:Int).toNat (IntKind.bits .u64))))),(bitsI .xor .u64 (bitsI .xor .u64 (bitsI .xor .u64 a (IntKind.u64.wrap (a*2^(min (13:Int).toNat (IntKind.bits .u64))))) ((bitsI .xor .u64 a (IntKind.u64.wrap (a*2^(min (13:Int).toNat (IntKind.bits .u64))))).fdiv (2^(min (7:Int).toNat (IntKind.bits .u64))))) (IntKind.u64.wrap ((bitsI .xor .u64 (bitsI .xor .u64 a (IntKind.u64.wrap (a*2^(min (13:Int).toNat (IntKind.bits .u64))))) ((bitsI .xor .u64 a (IntKind.u64.wrap (a*2^(min (13:Int).toNat (IntKind.bits .u64))))).fdiv (2^(min (7:Int).toNat (IntKind.bits .u64)))))*2^(min (17:Int).toNat (IntKind.bits .u64))))))else none else none else none)
theorem jet :mK 86 ⟨⟨[.box 900000 0],[(900000,false,[.pv (.int .u64)])]⟩,⟨[.pv (.int .u64)],[(900000,false,[.pv (.int .u64)])]⟩,c1A (k__slices_xorshift_Next_m N)⟩:=
 mO ja func86 rfl N .no _ (rs:=[900000])
def jU4 :Sh:=⟨.mtk 800000 .str 9 true::pI::dz 4 (pI:: .box 7 0:: .pv (.int .u64)::pI::dz 55 []),[(7,false,[.pv (.int .u64)])]⟩
def jVB :Sh:=⟨.mtk 800000 .str 9 true::pI::dz 4 (pI:: .box 7 0:: .pv (.int .u64)::pI::pI::dz 54 []),[(7,false,[.pv (.int .u64)])]⟩
def jUA (q:List Z0) (a:Int) (e:Int):Z8:=
 (if fits (e-a)then bif decide ((8:Int)<=(e-a))then oB (k_slices_nextPowerOfTwo_m N (e-a)) fun w=>(if 4≠0 then if fits ((e-a).tdiv 4)then if fits (((e-a).tdiv 4)*2)then if fits (a+(((e-a).tdiv 4)*2))then if fits ((a+(((e-a).tdiv 4)*2))-1)then iter (fun r (m,k,d,i,o,v)=>if 4≠0 then if fits (d.tdiv 4)then if fits ((d.tdiv 4)*2)then if fits (k+((d.tdiv 4)*2))then if fits ((k+((d.tdiv 4)*2))+1)then bif decide (o<=((k+((d.tdiv 4)*2))+1))then oB (k__slices_xorshift_Next_m N v) fun j=>(meet (fun(n:(List Z0)×Int×Int×Int×Int×Int×Int)=>match n with|(f,c,t,y,b,h,u)=>if fits (c+h)then if fits (c+h)then if 0<=(c+h)/\(c+h)<(f.length:Int)then oB (f[(c+h).toNat]?) fun l=>(if 0<=b/\b<(f.length:Int)then oB (f[b.toNat]?) fun x=>(if 0<=b/\b<(f.length:Int)then oB (f[b.toNat]?) fun z=>(if 0<=(c+h)/\(c+h)<((f.set b.toNat l).length:Int)then oB ((f.set b.toNat l)[(c+h).toNat]?) fun A=>(if fits (b+1)then r (((f.set b.toNat l).set (c+h).toNat x),c,t,y,(b+1),u)else none)else none)else none)else none)else none else none else none) fun p=>bif decide (d<=(IntKind.i64.wrap (bitsI .and .u64 j.1 (IntKind.u64.wrap (i-1)))))then if fits ((IntKind.i64.wrap (bitsI .and .u64 j.1 (IntKind.u64.wrap (i-1))))-d)then p (m,k,d,i,o,((IntKind.i64.wrap (bitsI .and .u64 j.1 (IntKind.u64.wrap (i-1))))-d),j.2)else none else p (m,k,d,i,o,(IntKind.i64.wrap (bitsI .and .u64 j.1 (IntKind.u64.wrap (i-1)))),j.2))else(some m)else none else none else none else none else none) N (q,a,(e-a),w,((a+(((e-a).tdiv 4)*2))-1),(IntKind.u64.wrap (e-a)))else none else none else none else none else none)else(some q)else none)
theorem jV9 :mK 69 (bX [.mtk 800000 .str 9 true,pI,pI] [.tup [],.mtk 800000 .str 9 true] (c3A (jUA N))):=
 mO (fC (jhv N) (fC (jet N) ja)) func69 rfl N (.seq .no (.seq .no (.cond (.seq .no (.seq .no (.seq .no (.block (.loop jU4 (.seq .no (.seq (.block (.seq .no (.meet jVB .no .no))) .no))))))) .no))) _ (rs:=[800000])
def jTT (a:List Z0) (c:Int) (b:Int) (d:Int):Option (Int×Int×(List Z0)×Int):=
 (if 0<=b/\b<(a.length:Int)then oB (a[b.toNat]?) fun f=>(if 0<=c/\c<(a.length:Int)then oB (a[c.toNat]?) fun h=>(oB (k_cmp_Less_571_m N f h) fun e=>bif e then if fits (d+1)then some (b,c,a,(d+1))else none else some (c,b,a,d))else none)else none)
theorem jVP :mK 93 ⟨⟨[.mtk 800000 .str 9 true,pI,pI,.box 900003 0],[(900003,false,[pI])]⟩,⟨[.tup [pI,pI],.mtk 800000 .str 9 true],[(900003,false,[pI])]⟩,c4A (jTT N)⟩:=
 mO (fC (jTG N) ja) func93 rfl N .no _ (rs:=[900003,800000])
def jUb (d:List Z0) (h:Int) (f:Int) (e:Int) (i:Int):Option (Int×(List Z0)×Int):=
 (oB (jTT N d h f i) fun a=>oB (jTT N a.2.2.1 a.2.1 e a.2.2.2) fun b=>oB (jTT N b.2.2.1 a.1 b.1 b.2.2.2) fun c=>some (c.2.1,c.2.2.1,c.2.2.2))
theorem jUY :mK 88 ⟨⟨[.mtk 800000 .str 9 true,pI,pI,pI,.box 900004 0],[(900004,false,[pI])]⟩,⟨[pI,.mtk 800000 .str 9 true],[(900004,false,[pI])]⟩,c5A (jUb N)⟩:=
 mO (fC (jVP N) ja) func88 rfl N .no _ (rs:=[900004,800000])
def jTZ (c:List Z0) (a:Int) (d:Int):Option (Int×(List Z0)×Int):=
 (if fits (a-1)then if fits (a+1)then oB (jUb N c (a-1) a (a+1) d) fun b=>(some (b.1,b.2.1,b.2.2))else none else none)
theorem jVn :mK 87 ⟨⟨[.mtk 800000 .str 9 true,pI,.box 900002 0],[(900002,false,[pI])]⟩,⟨[pI,.mtk 800000 .str 9 true],[(900002,false,[pI])]⟩,c3A (jTZ N)⟩:=
 mO (fC (jUY N) ja) func87 rfl N .no _ (rs:=[900002,800000])
def jU3 :Sh:=⟨.mtk 800000 .str 9 true::dz 8 (.box 9 0::pI::pI::pI::dz 44 []),[(9,false,[pI])]⟩
def jU7 :Sh:=⟨.mtk 800000 .str 9 true::dz 8 (.box 9 0:: .dead::pI::dz 45 []),[(9,false,[pI])]⟩
def jUp (c:List Z0) (a:Int) (b:Int):Option (Int×Int×(List Z0)):=
 (if fits (b-a)then if 4≠0 then if fits ((b-a).tdiv 4)then if fits (((b-a).tdiv 4)*1)then if fits (a+(((b-a).tdiv 4)*1))then if 4≠0 then if fits ((b-a).tdiv 4)then if fits (((b-a).tdiv 4)*2)then if fits (a+(((b-a).tdiv 4)*2))then if 4≠0 then if fits ((b-a).tdiv 4)then if fits (((b-a).tdiv 4)*3)then if fits (a+(((b-a).tdiv 4)*3))then meet (fun(h:(List Z0)×Int×Int)=>match h with|(d,j,m)=>bif decide (m=0)then some (j,1,d)else bif decide (m=12)then some (j,2,d)else some (j,0,d)) fun l=>(bif decide ((8:Int)<=(b-a))then meet (fun(h:Z7)=>match h with|(q,t,r,o,p)=>oB (jUb N q t r o p) fun e=>l (e.2.1,e.1,e.2.2)) fun n=>(bif decide ((50:Int)<=(b-a))then oB (jTZ N c (a+(((b-a).tdiv 4)*1)) 0) fun i=>(oB (jTZ N i.2.1 (a+(((b-a).tdiv 4)*2)) i.2.2) fun k=>oB (jTZ N k.2.1 (a+(((b-a).tdiv 4)*3)) k.2.2) fun f=>n (f.2.1,i.1,k.1,f.1,f.2.2))else n (c,(a+(((b-a).tdiv 4)*1)),(a+(((b-a).tdiv 4)*2)),(a+(((b-a).tdiv 4)*3)),0))else l (c,(a+(((b-a).tdiv 4)*2)),0))else none else none else none else none else none else none else none else none else none else none else none else none else none)
theorem jVy :mK 70 (bX [.mtk 800000 .str 9 true,pI,pI] [.tup [pI,pI],.mtk 800000 .str 9 true] (c3A (jUp N))):=
 mO (fC (jVn N) (fC (jUY N) ja)) func70 rfl N (.seq .no (.seq .no (.seq .no (.seq .no (.seq .no (.seq .no (.meet jU7 (.seq .no (.cond (.meet jU3 .no .no) .no)) .no))))))) _ (rs:=[800000])
def jVS :Sh:=⟨.mtk 800000 .str 9 true::dz 5 (pI::pI::dz 24 []),[]⟩
def jUO (h:List Z0) (j:Int) (e:Int):Z8:=
 (if fits (e-1)then iter (fun f (c,a,b)=>bif decide (a<b)then if 0<=b/\b<(c.length:Int)then oB (c[b.toNat]?) fun d=>(if 0<=a/\a<(c.length:Int)then oB (c[a.toNat]?) fun i=>(if 0<=a/\a<(c.length:Int)then oB (c[a.toNat]?) fun l=>(if 0<=b/\b<((c.set a.toNat d).length:Int)then oB ((c.set a.toNat d)[b.toNat]?) fun m=>(if fits (a+1)then if fits (b-1)then f (((c.set a.toNat d).set b.toNat i),(a+1),(b-1))else none else none)else none)else none)else none)else none else some c) N (h,j,(e-1))else none)
theorem jWg :mK 71 (bX [.mtk 800000 .str 9 true,pI,pI] [.tup [],.mtk 800000 .str 9 true] (c3A (jUO N))):=
 mO ja func71 rfl N (.seq .no (.seq .no (.block (.loop jVS .no)))) _ (rs:=[800000])
def jUl :Sh:=⟨.mtk 800000 .str 9 true::pI::pI::dz 4 (pI::pI::dz 124 []),[]⟩
def jVY :Sh:=⟨.mtk 800000 .str 9 true::pI::pI::dz 4 (pI::pI::pI::dz 123 []),[]⟩
def jVL :Sh:=⟨.mtk 800000 .str 9 true::pI::pI::dz 4 (pI::pI:: .dead::pI::dz 122 []),[]⟩
def jUI (data:List Z0) (a:Int) (b:Int):Option (Bool×(List Z0)):=
 (if fits (a+1)then iter (fun go (data2,a2,b2,i,j)=>bif decide (j<5)then iter (fun go2 (data3,a3,b3,i2,j2)=>bif decide (i2<b3)then if 0<=i2/\i2<(data3.length:Int)then oB (data3[i2.toNat]?) fun e=>(if fits (i2-1)then if 0<=(i2-1)/\(i2-1)<(data3.length:Int)then oB (data3[(i2-1).toNat]?) fun e2=>(oB (k_cmp_Less_571_m N e e2) fun r=>bif !r then if fits (i2+1)then go2 (data3,a3,b3,(i2+1),j2)else none else bif decide (i2=b3)then some (true,data3)else if fits (b3-a3)then bif decide ((b3-a3)<50)then some (false,data3)else(if fits (i2-1)then if fits (i2-1)then if 0<=(i2-1)/\(i2-1)<(data3.length:Int)then oB (data3[(i2-1).toNat]?) fun e3=>(if 0<=i2/\i2<(data3.length:Int)then oB (data3[i2.toNat]?) fun e4=>(if 0<=i2/\i2<(data3.length:Int)then oB (data3[i2.toNat]?) fun e5=>(if 0<=(i2-1)/\(i2-1)<((data3.set i2.toNat e3).length:Int)then oB ((data3.set i2.toNat e3)[(i2-1).toNat]?) fun e6=>(meet (fun(g:Z7)=>match g with|(data5,a5,b5,i4,j5)=>if fits (b5-i4)then bif decide ((2:Int)<=(b5-i4))then if fits (i4+1)then iter (fun go4 (data6,a6,b6,i5,j6,j7)=>bif decide (j7<b6)then if 0<=j7/\j7<(data6.length:Int)then oB (data6[j7.toNat]?) fun e13=>(if fits (j7-1)then if 0<=(j7-1)/\(j7-1)<(data6.length:Int)then oB (data6[(j7-1).toNat]?) fun e14=>(oB (k_cmp_Less_571_m N e13 e14) fun r3=>bif !r3 then if fits (j6+1)then go (data6,a6,b6,i5,(j6+1))else none else if fits (j7-1)then if fits (j7-1)then if 0<=(j7-1)/\(j7-1)<(data6.length:Int)then oB (data6[(j7-1).toNat]?) fun e15=>(if 0<=j7/\j7<(data6.length:Int)then oB (data6[j7.toNat]?) fun e16=>(if 0<=j7/\j7<(data6.length:Int)then oB (data6[j7.toNat]?) fun e17=>(if 0<=(j7-1)/\(j7-1)<((data6.set j7.toNat e15).length:Int)then oB ((data6.set j7.toNat e15)[(j7-1).toNat]?) fun e18=>(if fits (j7+1)then go4 (((data6.set j7.toNat e15).set (j7-1).toNat e16),a6,b6,i5,j6,(j7+1))else none)else none)else none)else none)else none else none else none)else none else none)else none else if fits (j6+1)then go (data6,a6,b6,i5,(j6+1))else none) N (data5,a5,b5,i4,j5,(i4+1))else none else(if fits (j5+1)then go (data5,a5,b5,i4,(j5+1))else none)else none) fun J=>if fits (i2-a3)then bif decide ((2:Int)<=(i2-a3))then if fits (i2-1)then iter (fun go3 (data4,a4,b4,i3,j3,j4)=>bif decide ((1:Int)<=j4)then if 0<=j4/\j4<(data4.length:Int)then oB (data4[j4.toNat]?) fun e7=>(if fits (j4-1)then if 0<=(j4-1)/\(j4-1)<(data4.length:Int)then oB (data4[(j4-1).toNat]?) fun e8=>(oB (k_cmp_Less_571_m N e7 e8) fun r2=>bif !r2 then J (data4,a4,b4,i3,j3)else if fits (j4-1)then if fits (j4-1)then if 0<=(j4-1)/\(j4-1)<(data4.length:Int)then oB (data4[(j4-1).toNat]?) fun e9=>(if 0<=j4/\j4<(data4.length:Int)then oB (data4[j4.toNat]?) fun e10=>(if 0<=j4/\j4<(data4.length:Int)then oB (data4[j4.toNat]?) fun e11=>(if 0<=(j4-1)/\(j4-1)<((data4.set j4.toNat e9).length:Int)then oB ((data4.set j4.toNat e9)[(j4-1).toNat]?) fun e12=>(if fits (j4-1)then go3 (((data4.set j4.toNat e9).set (j4-1).toNat e10),a4,b4,i3,j3,(j4-1))else none)else none)else none)else none)else none else none else none)else none else none)else none else J (data4,a4,b4,i3,j3)) N (((data3.set i2.toNat e3).set (i2-1).toNat e4),a3,b3,i2,j2,(i2-1))else none else(J (((data3.set i2.toNat e3).set (i2-1).toNat e4),a3,b3,i2,j2))else none)else none)else none)else none)else none else none else none)else none)else none else none)else none else bif decide (i2=b3)then some (true,data3)else if fits (b3-a3)then bif decide ((b3-a3)<50)then some (false,data3)else(if fits (i2-1)then if fits (i2-1)then if 0<=(i2-1)/\(i2-1)<(data3.length:Int)then oB (data3[(i2-1).toNat]?) fun e19=>(if 0<=i2/\i2<(data3.length:Int)then oB (data3[i2.toNat]?) fun e20=>(if 0<=i2/\i2<(data3.length:Int)then oB (data3[i2.toNat]?) fun e21=>(if 0<=(i2-1)/\(i2-1)<((data3.set i2.toNat e19).length:Int)then oB ((data3.set i2.toNat e19)[(i2-1).toNat]?) fun e22=>(meet (fun(g:Z7)=>match g with|(data8,a8,b8,i7,j10)=>if fits (b8-i7)then bif decide ((2:Int)<=(b8-i7))then if fits (i7+1)then iter (fun go6 (data9,a9,b9,i8,j11,j12)=>bif decide (j12<b9)then if 0<=j12/\j12<(data9.length:Int)then oB (data9[j12.toNat]?) fun e29=>(if fits (j12-1)then if 0<=(j12-1)/\(j12-1)<(data9.length:Int)then oB (data9[(j12-1).toNat]?) fun e30=>(oB (k_cmp_Less_571_m N e29 e30) fun r5=>bif !r5 then if fits (j11+1)then go (data9,a9,b9,i8,(j11+1))else none else if fits (j12-1)then if fits (j12-1)then if 0<=(j12-1)/\(j12-1)<(data9.length:Int)then oB (data9[(j12-1).toNat]?) fun e31=>(if 0<=j12/\j12<(data9.length:Int)then oB (data9[j12.toNat]?) fun e32=>(if 0<=j12/\j12<(data9.length:Int)then oB (data9[j12.toNat]?) fun e33=>(if 0<=(j12-1)/\(j12-1)<((data9.set j12.toNat e31).length:Int)then oB ((data9.set j12.toNat e31)[(j12-1).toNat]?) fun e34=>(if fits (j12+1)then go6 (((data9.set j12.toNat e31).set (j12-1).toNat e32),a9,b9,i8,j11,(j12+1))else none)else none)else none)else none)else none else none else none)else none else none)else none else if fits (j11+1)then go (data9,a9,b9,i8,(j11+1))else none) N (data8,a8,b8,i7,j10,(i7+1))else none else(if fits (j10+1)then go (data8,a8,b8,i7,(j10+1))else none)else none) fun J2=>if fits (i2-a3)then bif decide ((2:Int)<=(i2-a3))then if fits (i2-1)then iter (fun go5 (data7,a7,b7,i6,j8,j9)=>bif decide ((1:Int)<=j9)then if 0<=j9/\j9<(data7.length:Int)then oB (data7[j9.toNat]?) fun e23=>(if fits (j9-1)then if 0<=(j9-1)/\(j9-1)<(data7.length:Int)then oB (data7[(j9-1).toNat]?) fun e24=>(oB (k_cmp_Less_571_m N e23 e24) fun r4=>bif !r4 then J2 (data7,a7,b7,i6,j8)else if fits (j9-1)then if fits (j9-1)then if 0<=(j9-1)/\(j9-1)<(data7.length:Int)then oB (data7[(j9-1).toNat]?) fun e25=>(if 0<=j9/\j9<(data7.length:Int)then oB (data7[j9.toNat]?) fun e26=>(if 0<=j9/\j9<(data7.length:Int)then oB (data7[j9.toNat]?) fun e27=>(if 0<=(j9-1)/\(j9-1)<((data7.set j9.toNat e25).length:Int)then oB ((data7.set j9.toNat e25)[(j9-1).toNat]?) fun e28=>(if fits (j9-1)then go5 (((data7.set j9.toNat e25).set (j9-1).toNat e26),a7,b7,i6,j8,(j9-1))else none)else none)else none)else none)else none else none else none)else none else none)else none else J2 (data7,a7,b7,i6,j8)) N (((data3.set i2.toNat e19).set (i2-1).toNat e20),a3,b3,i2,j2,(i2-1))else none else(J2 (((data3.set i2.toNat e19).set (i2-1).toNat e20),a3,b3,i2,j2))else none)else none)else none)else none)else none else none else none)else none) N (data2,a2,b2,i,j)else some (false,data2)) N (data,a,b,(a+1),(0:Int))else none)
theorem jU6 :mK 72 (bX [.mtk 800000 .str 9 true,pI,pI] [pB,.mtk 800000 .str 9 true] (c3A (jUI N))):=
 mO (fC (jTG N) ja) func72 rfl N (.seq .no (.seq .no (.seq (.seq .no (.block (.loop jUl (.seq .no (.seq (.block (.seq (.block (.loop jUl .no)) (.seq .no (.seq .no (.seq .no (.meet jUl (.seq .no (.cond (.seq .no (.block (.loop jVY .no))) .no)) (.seq .no (.cond (.seq .no (.block (.loop jVL .no))) .no)))))))) .no))))) .no))) _ (rs:=[800000])
end Go.Proofs.YtbjikaianmpngaaDoor
