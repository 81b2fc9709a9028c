import Derived.Test.YtbjikaianmpngaaGreatDoorSJ
set_option linter.unusedVariables false
set_option linter.unusedSimpArgs false
namespace Go.Proofs.YtbjikaianmpngaaGreatDoor
open Go.RowKit Go.Proofs.Tryz
variable (N : Nat)
open Option renaming bind -> oB
set_option maxRecDepth 1000000
abbrev Z0 :Type:=List UInt8
abbrev Z1 :Type:=(List Z0)×Z0
abbrev Z3 :Type:=Z0×Int×Int×Int
abbrev Z4 :Type:=Option (Bool)
abbrev Z5 :Type:=Int×Z0×(List Z0)×Int×Int×(List DQ)
abbrev Z6 :Type:=List (Z0×Int)
abbrev Z7 :Type:=List (Z0×Int)
abbrev Z8 :Type:=(List Z0)×Int×Int×Int×Int
abbrev Z9 :Type:=Int×Z0×(List Z0)×Int×Int×(List DQ)×Int×Z0×(List Z0)×Int×Int×(List DQ)
abbrev Z10 :Type:=List (Z0×DQ)
abbrev Z11 :Type:=Option ((List Z0))
abbrev Z13 :Type:=List (Z0×Bool)
abbrev Z14 :Type:=Option (Int)
abbrev Z15 :Type:=(List Z0)×Int×(List Z0)×Int×(List Z0)×(List Z1)×Int×Z0×(List Z0)×Int×Int×(List DQ)
abbrev Z16 :Type:=Int×Int×Z0×(List Z0)×Int×Int×(List DQ)×Bool×Int×Int×Int×Int×Bool×Int×Int
abbrev Z18 :Type:=Int×Z0×(List Z0)×Int×Int×(List DQ)×Int
abbrev bX (a r:List VS) (f:HD (Sh.codes ⟨a,[]⟩)->Option (HD (Sh.codes ⟨r,[]⟩))):Model:=⟨⟨a,[]⟩,⟨r,[]⟩,f⟩
abbrev mK :=ModelOk Tryz.prog
theorem mO {l:List (Nat×Model)} (hl:jR Tryz.prog l) {f:FuncId} {fn:Func} {c:Code} (hf:Tryz.prog.funcs[f]? =some fn) (hbody:fn.body=some c) (N:Nat) (h:Hint) (m:Model) (wr rs dw:List Nat:=[])
  (hname:(fn.name== "runtime.NumGoroutine")=false:=by kernel_rfl) (hres:m.arg.names.all (jbC l wr rs dw).res=true:=by kernel_rfl) (hlen:Nat.ble m.arg.vals.length fn.ntmps=true:=by kernel_rfl)
  (hrun:∀a,m.run a=runF N (jbC l wr rs dw) okDraw fn c h m.arg m.ret a:=by intro a;kernel_rfl):ModelOk Tryz.prog f m:=modelOk_of (E:=jbC l wr rs dw) (jtQ hl wr rs dw) hf hname hbody N h m hres hlen hrun
theorem fC {k:Nat} {m:Model} {l:List (Nat×Model)} (h:ModelOk Tryz.prog k m) (hl:jR Tryz.prog l):jR Tryz.prog ((k,m)::l):=jsH h hl
abbrev pI :VS:=.pv (.int .i64)
abbrev pS :VS:=.pv .str
abbrev pB :VS:=.pv .bool
abbrev tI :Tp:=.int .i64
abbrev c1A {Y ρ:Type} (f:Y->ρ) (a:Y):ρ:=f a
abbrev c2A {α0 α1 ρ:Type} (f:α0->α1->ρ) (a:α0×α1):ρ:=f a.1 a.2
abbrev c3A {α0 α1 α2 ρ:Type} (f:α0->α1->α2->ρ) (a:α0×α1×α2):ρ:=f a.1 a.2.1 a.2.2
abbrev c4A {α0 α1 α2 α3 ρ:Type} (f:α0->α1->α2->α3->ρ) (a:α0×α1×α2×α3):ρ:=f a.1 a.2.1 a.2.2.1 a.2.2.2
abbrev c5A {α0 α1 α2 α3 α4 ρ:Type} (f:α0->α1->α2->α3->α4->ρ) (a:α0×α1×α2×α3×α4):ρ:=f a.1 a.2.1 a.2.2.1 a.2.2.2.1 a.2.2.2.2
abbrev c6A {α0 α1 α2 α3 α4 α5 ρ:Type} (f:α0->α1->α2->α3->α4->α5->ρ) (a:α0×α1×α2×α3×α4×α5):ρ:=f a.1 a.2.1 a.2.2.1 a.2.2.2.1 a.2.2.2.2.1 a.2.2.2.2.2
abbrev c7A {α0 α1 α2 α3 α4 α5 α6 ρ:Type} (f:α0->α1->α2->α3->α4->α5->α6->ρ) (a:α0×α1×α2×α3×α4×α5×α6):ρ:=f a.1 a.2.1 a.2.2.1 a.2.2.2.1 a.2.2.2.2.1 a.2.2.2.2.2.1 a.2.2.2.2.2.2
abbrev c8A {α0 α1 α2 α3 α4 α5 α6 α7 ρ:Type} (f:α0->α1->α2->α3->α4->α5->α6->α7->ρ) (a:α0×α1×α2×α3×α4×α5×α6×α7):ρ:=f a.1 a.2.1 a.2.2.1 a.2.2.2.1 a.2.2.2.2.1 a.2.2.2.2.2.1 a.2.2.2.2.2.2.1 a.2.2.2.2.2.2.2
abbrev c9A {α0 α1 α2 α3 α4 α5 α6 α7 α8 ρ:Type} (f:α0->α1->α2->α3->α4->α5->α6->α7->α8->ρ) (a:α0×α1×α2×α3×α4×α5×α6×α7×α8):ρ:=f a.1 a.2.1 a.2.2.1 a.2.2.2.1 a.2.2.2.2.1 a.2.2.2.2.2.1 a.2.2.2.2.2.2.1 a.2.2.2.2.2.2.2.1 a.2.2.2.2.2.2.2.2
abbrev c10A {α0 α1 α2 α3 α4 α5 α6 α7 α8 α9 ρ:Type} (f:α0->α1->α2->α3->α4->α5->α6->α7->α8->α9->ρ) (a:α0×α1×α2×α3×α4×α5×α6×α7×α8×α9):ρ:=f a.1 a.2.1 a.2.2.1 a.2.2.2.1 a.2.2.2.2.1 a.2.2.2.2.2.1 a.2.2.2.2.2.2.1 a.2.2.2.2.2.2.2.1 a.2.2.2.2.2.2.2.2.1 a.2.2.2.2.2.2.2.2.2
abbrev c12A {α0 α1 α2 α3 α4 α5 α6 α7 α8 α9 α10 α11 ρ:Type} (f:α0->α1->α2->α3->α4->α5->α6->α7->α8->α9->α10->α11->ρ) (a:α0×α1×α2×α3×α4×α5×α6×α7×α8×α9×α10×α11):ρ:=f a.1 a.2.1 a.2.2.1 a.2.2.2.1 a.2.2.2.2.1 a.2.2.2.2.2.1 a.2.2.2.2.2.2.1 a.2.2.2.2.2.2.2.1 a.2.2.2.2.2.2.2.2.1 a.2.2.2.2.2.2.2.2.2.1 a.2.2.2.2.2.2.2.2.2.2.1 a.2.2.2.2.2.2.2.2.2.2.2
abbrev c14A {α0 α1 α2 α3 α4 α5 α6 α7 α8 α9 α10 α11 α12 α13 ρ:Type} (f:α0->α1->α2->α3->α4->α5->α6->α7->α8->α9->α10->α11->α12->α13->ρ) (a:α0×α1×α2×α3×α4×α5×α6×α7×α8×α9×α10×α11×α12×α13):ρ:=f a.1 a.2.1 a.2.2.1 a.2.2.2.1 a.2.2.2.2.1 a.2.2.2.2.2.1 a.2.2.2.2.2.2.1 a.2.2.2.2.2.2.2.1 a.2.2.2.2.2.2.2.2.1 a.2.2.2.2.2.2.2.2.2.1 a.2.2.2.2.2.2.2.2.2.2.1 a.2.2.2.2.2.2.2.2.2.2.2.1 a.2.2.2.2.2.2.2.2.2.2.2.2.1 a.2.2.2.2.2.2.2.2.2.2.2.2.2
def dz :Nat->List VS->List VS
 |0,l=>l
 |n+1,l=>.dead::dz n l
abbrev Y4 :Tp:=.pair (.sl .str) .str
abbrev Y3 :Tp:=.pair .str tI
abbrev Y2 :Tp:=.sl (.pair (.sl .str) .str)
abbrev Y0 :Tp:=.pair .str (.pair tI (.pair tI tI))
def jzT :Sh:=⟨[.agg [pI,pS,.pv (.sl .str),pI,pI,.pv (.sl .q)],pI],[]⟩
def jAp :Sh:=⟨[pI],[]⟩
def jso :Sh:=⟨.pv (.sl .str)::pI::dz 3 (pI::dz 22 []),[]⟩
def jbK (c:List Z0) (d:Int):Z14:=
 (if fits (d-(c.length:Int))then bif decide ((d-(c.length:Int))<0)then some (-1)else(iter (fun i (f,a,b)=>bif decide (b<(f.length:Int))then oB (idx f b) fun e=>(if fits (a-(e.length:Int))then bif decide ((a-(e.length:Int))<0)then some (-1)else(if fits (b+1)then i (f,(a-(e.length:Int)),(b+1))else none)else none)else some a) N (c,(d-(c.length:Int)),(0:Int)))else none)
theorem jjn :mK 18 (bX [.pv (.sl .str),pI] [pI] (c2A (jbK N))):=
 mO ja func18 rfl N (.seq .no (.seq .no (.seq .no (.seq (.seq .no (.block (.loop jso .no))) .no)))) _
def jDq :Sh:=⟨[.pv (.sl .q),pI],[]⟩
def jCU :Sh:=⟨[pI],[]⟩
def jBx :Sh:=⟨.pv (.sl .q)::pI::dz 3 (pI::dz 21 []),[]⟩
def jzK (k:Z18->Option Int) (c:List DQ) (d:Int):Z14:=
 (if fits (d-(c.length:Int))then bif decide ((d-(c.length:Int))<0)then some (-1)else(iter (fun j (e,h,b)=>bif decide (b<(e.length:Int))then oB (idx e b) fun a=>(oB (k (a.kind,a.field,a.words,a.lo,a.hi,a.kids,h)) fun f=>bif decide (f<0)then some (-1)else if fits (b+1)then j (e,f,(b+1))else none)else some h) N (c,(d-(c.length:Int)),(0:Int)))else none)
def jAt (N:Nat) (F:Z18->Option Int):Model:=⟨jDq,jCU,fun a=>jzK N F a.1 a.2⟩
theorem jCA (N:Nat) (F:Z18->Option Int) (hF:mK 36 ⟨jzT,jAp,F⟩):mK 58 (jAt N F):=
 mO (fC hF ja) func58 rfl N (.seq .no (.seq .no (.seq .no (.seq (.seq .no (.block (.loop jBx .no))) .no)))) (jAt N F)
def jGR (N:Nat):(D:Nat)->Int->Z0->(List Z0)->Int->Int->(List DQ)->Int->Z14
 |0,_,_,_,_,_,_,_=>none
 |D+1,a,a2,a3,a4,a5,a6,left=>
 if fits (left-(a2.length:Int))then bif decide ((left-(a2.length:Int))<0)then
 some (-1)
 else
 (oB (jbK N a3 (left-(a2.length:Int))) fun r=>
 bif decide (r<0)then
 some (-1)
 else
 oB (jzK N (fun a=>jGR N D a.1 a.2.1 a.2.2.1 a.2.2.2.1 a.2.2.2.2.1 a.2.2.2.2.2.1 a.2.2.2.2.2.2) a6 r) fun r2=>
 bif decide (r2<0)then
 some (-1)
 else
 some r2)else none
def jya (N D:Nat):Model:=⟨jzT,jAp,c7A (jGR N D)⟩
theorem jBb (N D:Nat) (ih:mK 36 (jya N D)):mK 36 (jya N (D+1)):=
 mO (fC ih (fC (jjn N) (fC (jCA N _ ih) ja))) func36 rfl N .no (jya N (D+1))
theorem jzH (N:Nat):∀D,mK 36 (jya N D)
 |0=>modelOk_none ⟨_,func36,by decide,by kernel_rfl⟩ _ (fun a=>rfl)
 |D+1=>jBb N D (jzH N D)
def jUf (b:List UInt8) (j:Int) (i:List UInt8) (d:List Z0) (h:Int) (e:Int) (f:List DQ) (a:Int):Z14:=
 (if fits (a-(b.length:Int))then bif decide ((a-(b.length:Int))<0)then some (-1)else(oB (jGR N N j i d h e f (a-(b.length:Int))) fun c=>bif decide (c<0)then some (-1)else some c)else none)
theorem jHb :mK 17 (bX [.agg [pS,pI,pS,.pv (.sl .str),pI,pI,.pv (.sl .q)],pI] [pI] (c8A (jUf N))):=
 mO (fC (jzH N N) ja) func17 rfl N .no _
def jG4 :Sh:=⟨.pv (.sl (.pair .str .q))::pI::dz 3 (pI::dz 21 []),[]⟩
def jUi (c:List (Z0×DQ)) (d:Int):Z14:=
 (if fits (d-(c.length:Int))then bif decide ((d-(c.length:Int))<0)then some (-1)else(iter (fun j (e,h,b)=>bif decide (b<(e.length:Int))then oB (idx e b) fun a=>(oB (jUf N a.1 a.2.kind a.2.field a.2.words a.2.lo a.2.hi a.2.kids h) fun f=>bif decide (f<0)then some (-1)else if fits (b+1)then j (e,f,(b+1))else none)else some h) N (c,(d-(c.length:Int)),(0:Int)))else none)
theorem jG3 :mK 4 (bX [.pv (.sl (.pair .str .q)),pI] [pI] (c2A (jUi N))):=
 mO (fC (jHb N) ja) func4 rfl N (.seq .no (.seq .no (.seq .no (.seq (.seq .no (.block (.loop jG4 .no))) .no)))) _
def jbp (d:List Z0) (b:List UInt8) (c:Int):Z14:=
 (oB (jbK N d c) fun a=>bif decide (a<0)then some (-1)else if fits (a-(b.length:Int))then bif decide ((a-(b.length:Int))<0)then some (-1)else(some (a-(b.length:Int)))else none)
theorem jsV :mK 37 (bX [.agg [.pv (.sl .str),pS],pI] [pI] (c3A (jbp N))):=
 mO (fC (jjn N) ja) func37 rfl N .no _
def jki :Sh:=⟨.pv Y2::pI::dz 3 (pI::dz 21 []),[]⟩
def jc6 (b:List Z1) (c:Int):Z14:=
 (if fits (c-(b.length:Int))then bif decide ((c-(b.length:Int))<0)then some (-1)else(iter (fun j (d,f,a)=>bif decide (a<(d.length:Int))then oB (idx d a) fun h=>(oB (jbp N h.1 h.2 f) fun e=>bif decide (e<0)then some (-1)else if fits (a+1)then j (d,e,(a+1))else none)else some f) N (b,(c-(b.length:Int)),(0:Int)))else none)
theorem jkX :mK 19 (bX [.pv Y2,pI] [pI] (c2A (jc6 N))):=
 mO (fC (jsV N) ja) func19 rfl N (.seq .no (.seq .no (.seq .no (.seq (.seq .no (.block (.loop jki .no))) .no)))) _
def jbD (e:List Z0) (d:List Z1) (c:Int):Z14:=
 (oB (jbK N e c) fun a=>bif decide (a<0)then some (-1)else oB (jc6 N d a) fun b=>bif decide (b<0)then some (-1)else some b)
theorem jm8 :mK 5 (bX [.agg [.pv (.sl .str),.pv Y2],pI] [pI] (c3A (jbD N))):=
 mO (fC (jjn N) (fC (jkX N) ja)) func5 rfl N .no _
def jAj :Sh:=⟨[.agg [pI,pS,.pv (.sl .str),pI,pI,.pv (.sl .q)]],[]⟩
def jAx :Sh:=⟨[.agg [pI,pS,.own 1 .str 9 true,pI,pI,.own 2 .q 55 true]],[]⟩
def jqD :Sh:=⟨.pv (.sl .str):: .dead:: .dead:: .mtk 600003 .str 9 true::pI::dz 17 [],[]⟩
def jci (b:List Z0):Z11:=
 (if(b.length:Int)=(b.length:Int)/\0<=(b.length:Int)/\(b.length:Int)*16<=140737488355328/\(b.length:Int)<=140737488355328 then iter (fun h (d,c,a)=>bif decide (a<(d.length:Int))then oB (idx d a) fun f=>(if 0<=a/\a<(c.length:Int)then oB (c[a.toNat]?) fun i=>(if fits (a+1)then h (d,(c.set a.toNat f),(a+1))else none)else none)else some c) N (b,(List.replicate (b.length:Int).toNat ([]:List UInt8)),(0:Int))else none)
theorem jiJ :mK 25 (bX [.pv (.sl .str)] [.own 1 .str 9 true] (c1A (jci N))):=
 mO ja func25 rfl N (.seq .no (.seq .no (.seq (.seq .no (.block (.loop jqD .no))) .no))) _ (wr:=[7])
def jCM :Sh:=⟨[.pv (.sl .q)],[]⟩
def jCG :Sh:=⟨[.own 1 .q 55 true],[]⟩
def jBg :Sh:=⟨.pv (.sl .q):: .dead:: .dead:: .tre 600003 .q 55::pI::dz 18 [],[]⟩
def jyE (j:Z5->Option Z5) (b:List DQ):Option ((List DQ)):=
 (if(b.length:Int)=(b.length:Int)/\0<=(b.length:Int)/\(b.length:Int)*88<=140737488355328/\(b.length:Int)<=140737488355328 then iter (fun i (f,e,a)=>bif decide (a<(f.length:Int))then oB (idx f a) fun d=>(oB (j (d.kind,d.field,d.words,d.lo,d.hi,d.kids)) fun c=>if 0<=a/\a<(e.length:Int)then oB (e[a.toNat]?) fun k=>(if fits (a+1)then i (f,(e.set a.toNat (DQ.mk c.1 c.2.1 c.2.2.1 c.2.2.2.1 c.2.2.2.2.1 c.2.2.2.2.2)),(a+1))else none)else none)else some e) N (b,(List.replicate (b.length:Int).toNat (DQ.mk 0 ([]:List UInt8) ([]:List Z0) 0 0 ([]:List DQ))),(0:Int))else none)
def jAb (N:Nat) (F:Z5->Option Z5):Model:=⟨jCM,jCG,fun a=>jyE N F a⟩
theorem jAY (N:Nat) (F:Z5->Option Z5) (hF:mK 45 ⟨jAj,jAx,F⟩):mK 64 (jAb N F):=
 mO (fC hF ja) func64 rfl N (.seq .no (.seq .no (.seq (.seq .no (.block (.loop jBg .no))) .no))) (jAb N F) (wr:=[7]) (dw:=[20])
def jxF (N:Nat):(D:Nat)->Int->Z0->(List Z0)->Int->Int->(List DQ)->Option Z5
 |0,_,_,_,_,_,_=>none
 |D+1,a,a2,a3,a4,a5,a6=>
 oB (jci N a3) fun r=>
 oB (jyE N (fun a=>jxF N D a.1 a.2.1 a.2.2.1 a.2.2.2.1 a.2.2.2.2.1 a.2.2.2.2.2) a6) fun r2=>
 some (a,a2,r,a4,a5,r2)
def jx7 (N D:Nat):Model:=⟨jAj,jAx,c6A (jxF N D)⟩
theorem jBK (N D:Nat) (ih:mK 45 (jx7 N D)):mK 45 (jx7 N (D+1)):=
 mO (fC ih (fC (jiJ N) (fC (jAY N _ ih) ja))) func45 rfl N .no (jx7 N (D+1)) (dw:=[12,22])
theorem jy9 (N:Nat):∀D,mK 45 (jx7 N D)
 |0=>modelOk_none ⟨_,func45,by decide,by kernel_rfl⟩ _ (fun a=>rfl)
 |D+1=>jBK N D (jy9 N D)
def jTS (i:List UInt8) (h:Int) (f:List UInt8) (b:List Z0) (e:Int) (c:Int) (d:List DQ):Option (Z0×Int×Z0×(List Z0)×Int×Int×(List DQ)):=
 (oB (jxF N N h f b e c d) fun a=>some (i,a.1,a.2.1,a.2.2.1,a.2.2.2.1,a.2.2.2.2.1,a.2.2.2.2.2))
theorem jHl :mK 24 (bX [.agg [pS,pI,pS,.pv (.sl .str),pI,pI,.pv (.sl .q)]] [.agg [pS,pI,pS,.own 1 .str 9 true,pI,pI,.own 2 .q 55 true]] (c7A (jTS N))):=
 mO (fC (jy9 N N) ja) func24 rfl N .no _ (dw:=[9])
def jHk :Sh:=⟨.pv (.sl (.pair .str .q)):: .dead:: .dead:: .tre 600003 (.pair .str .q) 57::pI::dz 18 [],[]⟩
def jTH (d:List (Z0×DQ)):Option (Z10):=
 (if(d.length:Int)=(d.length:Int)/\0<=(d.length:Int)/\(d.length:Int)*104<=140737488355328/\(d.length:Int)<=140737488355328 then iter (fun i (f,e,a)=>bif decide (a<(f.length:Int))then oB (idx f a) fun c=>(oB (jTS N c.1 c.2.kind c.2.field c.2.words c.2.lo c.2.hi c.2.kids) fun b=>if 0<=a/\a<(e.length:Int)then oB (e[a.toNat]?) fun j=>(if fits (a+1)then i (f,(e.set a.toNat (b.1,(DQ.mk b.2.1 b.2.2.1 b.2.2.2.1 b.2.2.2.2.1 b.2.2.2.2.2.1 b.2.2.2.2.2.2))),(a+1))else none)else none)else some e) N (d,(List.replicate (d.length:Int).toNat (([]:List UInt8),(DQ.mk 0 ([]:List UInt8) ([]:List Z0) 0 0 ([]:List DQ)))),(0:Int))else none)
theorem jHi :mK 7 (bX [.pv (.sl (.pair .str .q))] [.own 1 (.pair .str .q) 57 true] (c1A (jTH N))):=
 mO (fC (jHl N) ja) func7 rfl N (.seq .no (.seq .no (.seq (.seq .no (.block (.loop jHk .no))) .no))) _ (wr:=[7]) (dw:=[20])
def ja0 (c:List Z0) (b:List UInt8):Option Z1:=
 (oB (jci N c) fun a=>some (a,b))
theorem jr7 :mK 46 (bX [.agg [.pv (.sl .str),pS]] [.agg [.own 1 .str 9 true,pS]] (c2A (ja0 N))):=
 mO (fC (jiJ N) ja) func46 rfl N .no _ (dw:=[6])
def jos :Sh:=⟨.pv Y2:: .dead:: .dead:: .tre 600003 Y4 76::pI::dz 18 [],[]⟩
def jeh (b:List Z1):Option ((List Z1)):=
 (if(b.length:Int)=(b.length:Int)/\0<=(b.length:Int)/\(b.length:Int)*40<=140737488355328/\(b.length:Int)<=140737488355328 then iter (fun i (d,c,a)=>bif decide (a<(d.length:Int))then oB (idx d a) fun e=>(oB (ja0 N e.1 e.2) fun f=>if 0<=a/\a<(c.length:Int)then oB (c[a.toNat]?) fun j=>(if fits (a+1)then i (d,(c.set a.toNat f),(a+1))else none)else none)else some c) N (b,(List.replicate (b.length:Int).toNat (([]:List Z0),([]:List UInt8))),(0:Int))else none)
theorem jqR :mK 26 (bX [.pv Y2] [.own 1 Y4 76 true] (c1A (jeh N))):=
 mO (fC (jr7 N) ja) func26 rfl N (.seq .no (.seq .no (.seq (.seq .no (.block (.loop jos .no))) .no))) _ (wr:=[7]) (dw:=[20])
def jad (c:List Z0) (b:List Z1):Option ((List Z0)×(List Z1)):=
 (oB (jci N c) fun a=>oB (jeh N b) fun d=>some (a,d))
theorem jtJ :mK 8 (bX [.agg [.pv (.sl .str),.pv Y2]] [.agg [.own 1 .str 9 true,.own 2 Y4 76 true]] (c2A (jad N))):=
 mO (fC (jiJ N) (fC (jqR N) ja)) func8 rfl N .no _ (dw:=[6,10])
def jt (N:Nat) (a:Int):Z14:=
 (bif decide ((65:Int)<=a)then bif decide (a<=90)then some (IntKind.u8.wrap (a+32))else(bif decide ((97:Int)<=a)then bif decide (a<=122)then some a else(bif decide ((48:Int)<=a)then bif decide (a<=57)then some a else(some 0)else some 0)else bif decide ((48:Int)<=a)then bif decide (a<=57)then some a else(some 0)else some 0)else bif decide ((97:Int)<=a)then bif decide (a<=122)then some a else(bif decide ((48:Int)<=a)then bif decide (a<=57)then some a else(some 0)else some 0)else bif decide ((48:Int)<=a)then bif decide (a<=57)then some a else(some 0)else some 0)
theorem jfG :mK 59 (bX [.pv (.int .u8)] [.pv (.int .u8)] (c1A (jt N))):=
 mO ja func59 rfl N .no _
def jJ (N:Nat) (a:Int) (c:Int) (b:Int):Z4:=
 (bif decide (c<=a)then some (decide (a<=b))else some false)
theorem jcL :mK 42 (bX [pI,pI,pI] [pB] (c3A (jJ N))):=
 mO ja func42 rfl N .no _
def jr5 :Sh:=⟨pS:: .dead:: .dead::pI::dz 23 [],[]⟩
def jT (c:List UInt8):Z4:=
 (iter (fun j (a,b)=>bif decide (b<(a.length:Int))then oB (idx a b) fun f=>(oB (jt N (f.toNat:Int)) fun d=>oB (idx a b) fun i=>bif !decide (d=(i.toNat:Int))then some false else oB (idx a b) fun k=>bif decide ((k.toNat:Int)=0)then some false else if fits (b+1)then j (a,(b+1))else none)else oB (jJ N (a.length:Int) 1 12) fun h=>some h) N (c,(0:Int)))
theorem jgp :mK 38 (bX [pS] [pB] (c1A (jT N))):=
 mO (fC (jfG N) (fC (jcL N) ja)) func38 rfl N (.seq .no (.seq (.seq .no (.block (.loop jr5 .no))) .no)) _
def jxz (N:Nat) (k:Int) (i:List UInt8) (h:List Z0) (d:Int) (e:Int) (a:List DQ) (j:Bool) (f:Bool) (c:Bool) (b:Bool):Z4:=
 (bif j then bif f then bif c then bif b then some true else(some (decide ((a.length:Int)=0)))else(bif decide (d=0)then bif decide (e=0)then bif b then some true else(some (decide ((a.length:Int)=0)))else(some false)else some false)else(bif decide ((h.length:Int)=0)then bif c then bif b then some true else(some (decide ((a.length:Int)=0)))else(bif decide (d=0)then bif decide (e=0)then bif b then some true else(some (decide ((a.length:Int)=0)))else(some false)else some false)else some false)else bif decide (i=([]:List UInt8))then bif f then bif c then bif b then some true else(some (decide ((a.length:Int)=0)))else(bif decide (d=0)then bif decide (e=0)then bif b then some true else(some (decide ((a.length:Int)=0)))else(some false)else some false)else(bif decide ((h.length:Int)=0)then bif c then bif b then some true else(some (decide ((a.length:Int)=0)))else(bif decide (d=0)then bif decide (e=0)then bif b then some true else(some (decide ((a.length:Int)=0)))else(some false)else some false)else some false)else some false)
theorem jDV :mK 98 (bX [.agg [pI,pS,.pv (.sl .str),pI,pI,.pv (.sl .q)],pB,pB,pB,pB] [pB] (c10A (jxz N))):=
 mO ja func98 rfl N .no _
def jDt :Sh:=⟨.pv (.sl .str)::pI::dz 3 (pI::dz 16 []),[]⟩
def jxL (i:List Z0) (k:Int):Z4:=
 (iter (fun j (a,c,b)=>bif decide (b<(a.length:Int))then oB (idx a b) fun h=>(oB (jT N h) fun d=>bif !d then some false else if fits (b+1)then j (a,c,(b+1))else none)else oB (jJ N (a.length:Int) 1 c) fun f=>some f) N (i,k,(0:Int)))
theorem jDs :mK 99 (bX [.pv (.sl .str),pI] [pB] (c2A (jxL N))):=
 mO (fC (jgp N) (fC (jcL N) ja)) func99 rfl N (.seq .no (.seq (.seq .no (.block (.loop jDt .no))) .no)) _
def jBL :Sh:=⟨pS:: .dead:: .dead::pI::dz 28 [],[]⟩
def jyk (h:List UInt8):Z4:=
 (iter (fun c (b,a)=>bif decide (a<(b.length:Int))then oB (idx b a) fun f=>(bif !decide ((f.toNat:Int)=42)then oB (idx b a) fun k=>(bif !decide ((k.toNat:Int)=63)then if fits (a+1)then oB (cut b a (a+1)) fun i=>(oB (jT N i) fun d=>bif !d then some false else if fits (a+1)then c (b,(a+1))else none)else none else if fits (a+1)then c (b,(a+1))else none)else if fits (a+1)then c (b,(a+1))else none)else oB (jJ N (b.length:Int) 1 12) fun j=>some j) N (h,(0:Int)))
theorem jC1 :mK 100 (bX [pS] [pB] (c1A (jyk N))):=
 mO (fC (jgp N) (fC (jcL N) ja)) func100 rfl N (.seq .no (.seq (.seq .no (.block (.loop jBL .no))) .no)) _
def jDP :Sh:=⟨.dead:: .box 1 0:: .dead::pI::dz 4 (pI::dz 123 (pB::dz 34 [])),[(1,false,[pI,pS,.pv (.sl .str),pI,pI,.pv (.sl .q)])]⟩
def jyq (a:Int) (c:List UInt8) (b:List Z0) (d:Int) (e:Int) (f:List DQ):Z4:=
 (bif decide (a=1)then oB (jxz N a c b d e f false false false false) fun q=>(some q)else bif decide (a=2)then oB (jxz N a c b d e f true true false false) fun G=>(bif G then oB (jT N c) fun R=>(bif R then oB (jxL N b 1) fun P=>(some P)else some false)else some false)else bif decide (a=3)then oB (jxz N a c b d e f true true true false) fun S=>(bif S then oB (jT N c) fun x=>(bif x then oB (jxL N b 4) fun v=>(bif v then bif decide ((1:Int)<b.length)then bif decide (e=0)then oB (jJ N d 0 5) fun V=>(some V)else(some false)else(some false)else some false)else some false)else some false)else bif decide (a=4)then oB (jxz N a c b d e f true true true false) fun T=>(bif T then oB (jT N c) fun z=>(bif z then oB (jxL N b 1) fun U=>(bif U then bif decide (e=0)then oB (jJ N d 1 2) fun W=>(some W)else(some false)else some false)else some false)else some false)else bif decide (a=5)then oB (jxz N a c b d e f true true false false) fun K=>(bif K then oB (jT N c) fun y=>(bif y then bif decide ((b.length:Int)=1)then oB (idx b 0) fun H=>(oB (jyk N H) fun D=>bif D then oB (idx b 0) fun B=>(oB (jT N B) fun A=>some (!A))else some false)else(some false)else some false)else some false)else bif decide (a=6)then oB (jxz N a c b d e f true false true false) fun Q=>(bif Q then oB (jT N c) fun X=>(bif X then oB (jJ N d 0 999999999) fun u=>(bif u then oB (jJ N e d 999999999) fun E=>(some E)else some false)else some false)else some false)else meet (fun(t:Int×Int×Bool×Int×Z0×(List Z0)×Int×Int×(List DQ))=>match t with|(j,p,L,k,m,l,h,i,n)=>bif L then oB (jxz N k m l h i n false false false true) fun r=>(bif r then oB (jJ N j 2 4) fun w=>(some w)else some false)else bif decide (p=9)then oB (jxz N k m l h i n false false false true) fun O=>(bif O then some (decide (j=2))else some false)else bif decide (p=10)then oB (jxz N k m l h i n false false true true) fun C=>(bif C then bif decide (j=1)then bif decide (i=0)then oB (jJ N h 2 9) fun I=>(some I)else(some false)else(some false)else some false)else some false) fun o=>bif decide (a=7)then o ((f.length:Int),a,true,a,c,b,d,e,f)else o ((f.length:Int),a,(decide (a=8)),a,c,b,d,e,f))
theorem jBO :mK 78 (bX [.agg [pI,pS,.pv (.sl .str),pI,pI,.pv (.sl .q)]] [pB] (c6A (jyq N))):=
 mO (fC (jDV N) (fC (jgp N) (fC (jDs N) (fC (jcL N) (fC (jC1 N) ja))))) func78 rfl N (.seq .no (.seq .no (.seq (.seq .no (.block (.seq .no (.cond .no (.seq .no (.cond .no (.seq .no (.cond .no (.seq .no (.cond .no (.seq .no (.cond .no (.seq .no (.cond .no (.meet jDP .no .no))))))))))))))) .no))) _
def jD7 :Sh:=⟨.dead::pI:: .box 2 0:: .dead:: .dead::pI::dz 23 [],[(2,false,[pI,pS,.pv (.sl .str),pI,pI,.pv (.sl .q)])]⟩
def jxO (N:Nat):(D:Nat)->Int->Z0->(List Z0)->Int->Int->(List DQ)->Int->Z4
 |0,_,_,_,_,_,_,_=>none
 |D+1,q,q2,q3,q4,q5,q6,deep=>
 bif decide (deep=0)then
 some false
 else
 oB (jyq N q q2 q3 q4 q5 q6) fun r=>
 bif !r then
 some false
 else
 iter (fun go (g:Int×Int×Int×Z0×(List Z0)×Int×Int×(List DQ))=>
 match g with
 |(deep2,i,q7,q8,q9,q10,q11,q12)=>
 bif decide (i<(q12.length:Int))then
 oB (idx q12 i) fun e=>
 (if fits (deep2-1)then oB (jxO N D e.kind e.field e.words e.lo e.hi e.kids (deep2-1)) fun r2=>
 (bif !r2 then
 some false
 else
 if fits (i+1)then go (deep2,(i+1),q7,q8,q9,q10,q11,q12)else none)else none)
 else
 some true) N (deep,0,q,q2,q3,q4,q5,q6)
def jx9 (N D:Nat):Model:=⟨⟨[.agg [pI,pS,.pv (.sl .str),pI,pI,.pv (.sl .q)],pI],[]⟩,⟨[pB],[]⟩,c7A (jxO N D)⟩
theorem jBT (N D:Nat) (ih:mK 60 (jx9 N D)):mK 60 (jx9 N (D+1)):=
 mO (fC ih (fC (jBO N) ja)) func60 rfl N (.seq .no (.seq .no (.seq (.seq .no (.block (.loop jD7 .no))) .no))) (jx9 N (D+1))
theorem jzV (N:Nat):∀D,mK 60 (jx9 N D)
 |0=>modelOk_none ⟨_,func60,by decide,by kernel_rfl⟩ _ (fun a=>rfl)
 |D+1=>jBT N D (jzV N D)
def jE5 (b:Int) (f:List UInt8) (h:List Z0) (c:Int) (e:Int) (d:List DQ):Z4:=
 (oB (jxO N N b f h c e d 4) fun a=>some a)
theorem jBX :mK 39 (bX [.agg [pI,pS,.pv (.sl .str),pI,pI,.pv (.sl .q)]] [pB] (c6A (jE5 N))):=
 mO (fC (jzV N N) ja) func39 rfl N .no _
def jGb :Sh:=⟨.pv (.sl (.pair .str .q)):: .dead:: .dead::pI::dz 43 [],[]⟩
def jE4 (l:List (Z0×DQ)):Z4:=
 (iter (fun e (b,a)=>bif decide (a<(b.length:Int))then oB (idx b a) fun k=>(oB (jT N k.1) fun h=>bif !h then some false else oB (idx b a) fun c=>oB (jE5 N c.2.kind c.2.field c.2.words c.2.lo c.2.hi c.2.kids) fun j=>bif !j then some false else bif decide ((0:Int)<a)then oB (idx b a) fun d=>(if fits (a-1)then oB (idx b (a-1)) fun f=>(bif Op.bytesLess d.1 f.1||decide (d.1=f.1)then some false else if fits (a+1)then e (b,(a+1))else none)else none)else if fits (a+1)then e (b,(a+1))else none)else some (decide ((b.length:Int)<=6))) N (l,(0:Int)))
theorem jFd :mK 20 (bX [.pv (.sl (.pair .str .q))] [pB] (c1A (jE4 N))):=
 mO (fC (jgp N) (fC (jBX N) ja)) func20 rfl N (.seq .no (.seq (.seq .no (.block (.loop jGb .no))) .no)) _
def jdI (N:Nat):Z11:=
 (some ([([105,110,103]:List UInt8),([101,100]:List UInt8),([101,115]:List UInt8),([108,121]:List UInt8),([115]:List UInt8)]:List Z0))
theorem jkj :mK 79 ⟨⟨[],[]⟩,⟨[.own 1 .str 9 true],[]⟩,fun a=>jdI N⟩:=
 mO ja func79 rfl N .no _
def jl2 :Sh:=⟨pS:: .dead:: .dead::pI::dz 30 [],[]⟩
def ja6 (e:List UInt8):Option (Z0):=
 (iter (fun d (a,b)=>oB (jdI N) fun f=>bif decide (b<(f.length:Int))then oB (jdI N) fun k=>(oB (idx k b) fun c=>if fits ((a.length:Int)-(c.length:Int))then bif decide ((3:Int)<=((a.length:Int)-(c.length:Int)))then oB (cut a ((a.length:Int)-(c.length:Int)) (a.length:Int)) fun i=>(bif decide (i=c)then oB (cut a 0 ((a.length:Int)-(c.length:Int))) fun j=>(some j)else if fits (b+1)then d (a,(b+1))else none)else(if fits (b+1)then d (a,(b+1))else none)else none)else some a) N (e,(0:Int)))
theorem jtL :mK 61 (bX [pS] [pS] (c1A (ja6 N))):=
 mO (fC (jkj N) ja) func61 rfl N (.seq .no (.seq (.seq .no (.block (.loop jl2 .no))) .no)) _
def jto :Sh:=⟨pS::dz 9 [],[]⟩
def jaq (a:List UInt8):Option (Z0):=
 (iter (fun d (c:Z0)=>let s2:=c;(oB (ja6 N s2) fun b=>bif !decide (b=s2)then oB (ja6 N s2) fun e=>(d e)else some s2)) N a)
theorem jfZ :mK 40 (bX [pS] [pS] (c1A (jaq N))):=
 mO (fC (jtL N) ja) func40 rfl N (.seq .no (.seq (.block (.loop jto .no)) .no)) _
def jlY :Sh:=⟨.pv (.sl .str)::pS::dz 3 (pI::dz 12 []),[]⟩
def jap (h:List Z0) (d:List UInt8):Z4:=
 (iter (fun i (b,c,a)=>bif decide (a<(b.length:Int))then oB (idx b a) fun f=>(bif decide (f=c)then some true else if fits (a+1)then i (b,c,(a+1))else none)else some false) N (h,d,(0:Int)))
theorem jhP :mK 41 (bX [.pv (.sl .str),pS] [pB] (c2A (jap N))):=
 mO ja func41 rfl N (.seq .no (.seq (.seq .no (.block (.loop jlY .no))) .no)) _
def jrs :Sh:=⟨.dead:: .box 1 0:: .dead::pI::dz 114 [],[(1,false,[.pv (.sl .str),.pv Y2])]⟩
def js0 :Sh:=⟨.dead:: .box 1 0:: .dead:: .dead::pI::dz 113 [],[(1,false,[.pv (.sl .str),.pv Y2])]⟩
def jrc :Sh:=⟨.dead:: .box 1 0:: .dead:: .dead::pI:: .box 5 0::pI::dz 111 [],[(1,false,[.pv (.sl .str),.pv Y2]),(5,false,[.pv (.sl .str),pS])]⟩
def jcw (D:List Z0) (I:List Z1):Z4:=
 (iter (fun o (a,d,i)=>bif decide (a<(d.length:Int))then oB (idx d a) fun w=>(oB (jT N w) fun t=>bif !t then some false else bif decide ((0:Int)<a)then oB (idx d a) fun q=>(if fits (a-1)then oB (idx d (a-1)) fun m=>(bif Op.bytesLess q m||decide (q=m)then some false else if fits (a+1)then o ((a+1),d,i)else none)else none)else if fits (a+1)then o ((a+1),d,i)else none)else iter (fun A (j,p,h)=>bif decide (j<(h.length:Int))then oB (idx h j) fun r=>(iter (fun y (k,c,l,n,b,f)=>bif decide (c<(b.length:Int))then oB (idx b c) fun G=>(oB (jT N G) fun x=>bif !x then some false else oB (idx b c) fun K=>oB (jaq N K) fun C=>oB (idx b c) fun H=>bif !decide (C=H)then some false else oB (idx b c) fun z=>oB (jap N l z) fun B=>bif B then some false else if fits (c+1)then y (k,(c+1),l,n,b,f)else none)else oB (jJ N (b.length:Int) 1 3) fun E=>bif !E then some false else oB (jT N f) fun v=>bif !v then some false else oB (jaq N f) fun u=>bif !decide (u=f)then some false else if fits (k+1)then A ((k+1),l,n)else none) N (j,(0:Int),p,h,r.1,r.2))else bif decide ((p.length:Int)<=6)then some (decide ((h.length:Int)<=4))else some false) N ((0:Int),d,i)) N ((0:Int),D,I))
theorem jtf :mK 21 (bX [.agg [.pv (.sl .str),.pv Y2]] [pB] (c2A (jcw N))):=
 mO (fC (jgp N) (fC (jfZ N) (fC (jhP N) (fC (jcL N) ja)))) func21 rfl N (.seq .no (.seq (.seq .no (.block (.loop jrs .no))) (.seq (.seq .no (.block (.loop js0 (.seq .no (.seq (.block (.seq .no (.seq (.seq .no (.block (.loop jrc .no))) .no))) .no))))) .no))) _
def jAu :Sh:=⟨.pv (.sl .str)::pS::dz 3 (pS::pI::dz 18 []),[]⟩
def jxS (m:List Z0) (o:List UInt8):Option (Z0):=
 (iter (fun n (f,b,a,c)=>bif decide (c<(f.length:Int))then meet (fun(d:(List Z0)×Z0×Z0×Int)=>match d with|(i,l,k,e)=>oB (idx i e) fun j=>if k.length+j.length<=9223372036854775807 then if fits (e+1)then n (i,l,(k++j),(e+1))else none else none) fun h=>(bif decide ((0:Int)<c)then if a.length+b.length<=9223372036854775807 then h (f,b,(a++b),c)else none else h (f,b,a,c))else some a) N (m,o,([]:List UInt8),(0:Int)))
theorem jAy :mK 44 (bX [.pv (.sl .str),pS] [pS] (c2A (jxS N))):=
 mO ja func44 rfl N (.seq .no (.seq .no (.seq (.seq .no (.block (.loop jAu (.seq .no (.seq (.block (.meet jAu .no .no)) .no))))) .no))) _
def jo3 :Sh:=⟨pS:: .dead:: .dead:: .own 600003 Y0 103 true::pI::dz 50 [],[]⟩
def jm6 :Sh:=⟨pS:: .dead:: .dead:: .own 600003 Y0 103 true::pI:: .own 600005 (.int .u8) 5 true::pI::dz 48 [],[]⟩
def jtK :Sh:=⟨pS:: .dead:: .dead:: .own 600003 Y0 103 true::pI:: .pv (.sl (.int .u8))::pI::dz 48 [],[]⟩
def jb3 (z:List UInt8):Option ((List Z3)):=
 (iter (fun l (w,v,n)=>bif decide (n<(w.length:Int))then iter (fun D (b,k,a,c,i)=>bif decide (a<(b.length:Int))then oB (idx b a) fun C=>(oB (jt N (C.toNat:Int)) fun A=>bif !decide (A=0)then oB (idx b a) fun G=>(oB (jt N (G.toNat:Int)) fun q=>if room c.length ([q]:List Int).length 1 then if fits (a+1)then D (b,k,(a+1),(c++([q]:List Int)),i)else none else none)else meet (fun(d:Z0×(List Z3)×Int×(List Int)×Int)=>match d with|(y,j,f,o,r)=>bif decide ((0:Int)<o.length)then if room j.length ([((bytesOf o),(j.length:Int),r,f)]:List Z3).length 40 then if fits (f+1)then l (y,(j++([((bytesOf o),(j.length:Int),r,f)]:List Z3)),(f+1))else none else none else if fits (f+1)then l (y,j,(f+1))else none) fun u=>bif decide ((12:Int)<c.length)then oB (cut c 0 12) fun B=>(u (b,k,a,B,i))else u (b,k,a,c,i))else meet (fun(d:Z0×(List Z3)×Int×(List Int)×Int)=>match d with|(t,h,e,m,x)=>bif decide ((0:Int)<m.length)then if room h.length ([((bytesOf m),(h.length:Int),x,e)]:List Z3).length 40 then if fits (e+1)then l (t,(h++([((bytesOf m),(h.length:Int),x,e)]:List Z3)),(e+1))else none else none else if fits (e+1)then l (t,h,(e+1))else none) fun p=>bif decide ((12:Int)<c.length)then oB (cut c 0 12) fun E=>(p (b,k,a,E,i))else p (b,k,a,c,i)) N (w,v,n,([]:List Int),n)else some v) N (z,([]:List Z3),(0:Int)))
theorem jsr :mK 80 (bX [pS] [.own 1 Y0 103 true] (c1A (jb3 N))):=
 mO (fC (jfG N) ja) func80 rfl N (.seq .no (.seq .no (.seq (.seq .no (.block (.loop jo3 (.seq .no (.seq (.block (.seq .no (.seq .no (.seq (.block (.loop jm6 .no)) (.meet jtK .no .no))))) .no))))) .no))) _
def jmf :Sh:=⟨.dead:: .dead:: .box 2 0:: .dead:: .dead:: .own 600005 Y3 84 true:: .own 600006 Y0 103 true::pI::dz 43 [],[(2,false,[.pv (.sl .str),.pv Y2])]⟩
def jbY (n:List Z0) (q:List Z1) (j:List UInt8):Option (Z6):=
 (oB (jb3 N j) fun k=>iter (fun h (c,b,a,d,e)=>bif decide (a<(b.length:Int))then oB (idx b a) fun m=>(oB (jaq N m.1) fun f=>oB (idx b a) fun r=>oB (jap N d r.1) fun p=>bif !p then oB (jap N d f) fun o=>(bif !o then oB (idx b a) fun i=>(if room c.length ([(f,i.2.1)]:Z7).length 24 then if fits (a+1)then h ((c++([(f,i.2.1)]:Z7)),b,(a+1),d,e)else none else none)else if fits (a+1)then h (c,b,(a+1),d,e)else none)else if fits (a+1)then h (c,b,(a+1),d,e)else none)else some c) N (([]:Z7),k,(0:Int),n,q))
theorem jrk :mK 62 (bX [.agg [.pv (.sl .str),.pv Y2],pS] [.own 1 Y3 84 true] (c3A (jbY N))):=
 mO (fC (jsr N) (fC (jfZ N) (fC (jhP N) ja))) func62 rfl N (.seq .no (.seq .no (.seq .no (.seq (.seq .no (.block (.loop jmf .no))) .no)))) _
def jrL :Sh:=⟨.pv (.sl Y3):: .pv (.sl .str)::dz 3 (pI::dz 36 []),[]⟩
def jcC (i:Z7) (l:List Z0):Z4:=
 (iter (fun k (b,c,a)=>bif decide (a<(c.length:Int))then bif decide ((b.length:Int)<=a)then some false else(oB (idx b a) fun h=>oB (idx c a) fun j=>bif !decide (h.1=j)then some false else oB (idx b a) fun e=>oB (idx b 0) fun d=>if fits (d.2+a)then bif !decide (e.2=(d.2+a))then some false else(if fits (a+1)then k (b,c,(a+1))else none)else none)else some true) N (i,l,(0:Int)))
theorem jtg :mK 81 (bX [.pv (.sl Y3),.pv (.sl .str)] [pB] (c2A (jcC N))):=
 mO ja func81 rfl N (.seq .no (.seq (.seq .no (.block (.loop jrL .no))) .no)) _
def jlL :Sh:=⟨.dead:: .pv (.sl Y3):: .box 2 0:: .dead:: .dead::pI::pI::dz 38 [],[(2,false,[.pv (.sl .str),.pv Y2])]⟩
def jcJ (k:List Z0) (m:List Z1) (n:Z7):Z14:=
 (iter (fun e (d,c,a,f,b)=>bif decide (a<(b.length:Int))then oB (idx b a) fun l=>(oB (jcC N d l.1) fun h=>bif h then bif decide (c<0)then if fits (a+1)then e (d,a,(a+1),f,b)else none else(oB (idx b a) fun o=>oB (idx b c) fun i=>bif decide ((i.1.length:Int)<(o.1.length:Int))then if fits (a+1)then e (d,a,(a+1),f,b)else none else if fits (a+1)then e (d,c,(a+1),f,b)else none)else if fits (a+1)then e (d,c,(a+1),f,b)else none)else some c) N (n,((-1):Int),(0:Int),k,m))
theorem jqp :mK 63 (bX [.agg [.pv (.sl .str),.pv Y2],.pv (.sl Y3)] [pI] (c3A (jcJ N))):=
 mO (fC (jtg N) ja) func63 rfl N (.seq .no (.seq .no (.seq (.seq .no (.block (.loop jlL .no))) .no))) _
def jnK :Sh:=⟨.dead:: .dead:: .box 2 0:: .dead:: .dead:: .own 600005 Y3 84 true:: .pv (.sl Y3)::dz 45 [],[(2,false,[.pv (.sl .str),.pv Y2])]⟩
def ja5 (j:List Z0) (k:List Z1) (m:List UInt8):Option (Z6):=
 (oB (jbY N j k m) fun n=>iter (fun i (c,a,e,b)=>bif decide ((0:Int)<a.length)then oB (jcJ N e b a) fun d=>(bif decide (d<0)then oB (idx a 0) fun h=>(if room c.length ([h]:Z7).length 24 then oB (cut a 1 (a.length:Int)) fun p=>(i ((c++([h]:Z7)),p,e,b))else none)else oB (idx b d) fun l=>oB (idx a 0) fun f=>if room c.length ([(l.2,f.2)]:Z7).length 24 then oB (idx b d) fun r=>(oB (cut a (r.1.length:Int) (a.length:Int)) fun q=>i ((c++([(l.2,f.2)]:Z7)),q,e,b))else none)else some c) N (([]:Z7),n,j,k))
theorem jiO :mK 43 (bX [.agg [.pv (.sl .str),.pv Y2],pS] [.own 1 Y3 84 true] (c3A (ja5 N))):=
 mO (fC (jrk N) (fC (jqp N) ja)) func43 rfl N (.seq .no (.seq .no (.seq .no (.seq (.block (.loop jnK .no)) .no)))) _
def jl5 :Sh:=⟨.pv (.sl .str)::pS::dz 3 (pI::dz 42 []),[]⟩
def jTD (q:List Z0) (m:List UInt8):Z11:=
 (iter (fun r (a,b,c)=>bif decide (c<(a.length:Int))then oB (idx a c) fun p=>(bif Op.bytesLess p b then if fits (c+1)then r (a,b,(c+1))else none else bif decide (c<(a.length:Int))then oB (idx a c) fun t=>(bif decide (t=b)then some a else oB (cut a 0 c) fun d=>if room ([]:List Z0).length d.length 16 then if room (([]:List Z0)++d).length ([b]:List Z0).length 16 then oB (cut a c (a.length:Int)) fun k=>(if room ((([]:List Z0)++d)++([b]:List Z0)).length k.length 16 then some (((([]:List Z0)++d)++([b]:List Z0))++k)else none)else none else none)else oB (cut a 0 c) fun f=>if room ([]:List Z0).length f.length 16 then if room (([]:List Z0)++f).length ([b]:List Z0).length 16 then oB (cut a c (a.length:Int)) fun j=>(if room ((([]:List Z0)++f)++([b]:List Z0)).length j.length 16 then some (((([]:List Z0)++f)++([b]:List Z0))++j)else none)else none else none)else bif decide (c<(a.length:Int))then oB (idx a c) fun n=>(bif decide (n=b)then some a else oB (cut a 0 c) fun e=>if room ([]:List Z0).length e.length 16 then if room (([]:List Z0)++e).length ([b]:List Z0).length 16 then oB (cut a c (a.length:Int)) fun l=>(if room ((([]:List Z0)++e)++([b]:List Z0)).length l.length 16 then some (((([]:List Z0)++e)++([b]:List Z0))++l)else none)else none else none)else oB (cut a 0 c) fun h=>if room ([]:List Z0).length h.length 16 then if room (([]:List Z0)++h).length ([b]:List Z0).length 16 then oB (cut a c (a.length:Int)) fun i=>(if room ((([]:List Z0)++h)++([b]:List Z0)).length i.length 16 then some (((([]:List Z0)++h)++([b]:List Z0))++i)else none)else none else none) N (q,m,(0:Int)))
theorem jgt :mK 23 (bX [.pv (.sl .str),pS] [.pv (.sl .str)] (c2A (jTD N))):=
 mO ja func23 rfl N (.seq .no (.seq .no (.seq (.block (.loop jl5 .no)) .no))) _
def jVp :Sh:=⟨dz 5 (.pv (.sl .str):: .own 600006 Y3 84 true::pI::dz 65 []),[]⟩
def jVr :Sh:=⟨.dead:: .dead:: .box 2 0:: .box 3 0:: .dead:: .pv (.sl .str):: .dead:: .dead::pI::dz 64 [],[(2,false,[.pv (.sl .str),.pv Y2]),(3,false,[pI,pS,.pv (.sl .str),pI,pI,.pv (.sl .q)])]⟩
def jVc :Sh:=⟨.dead:: .dead:: .box 2 0:: .box 3 0:: .dead:: .pv (.sl .str):: .dead:: .dead::pI:: .pv (.sl .str)::pI::dz 62 [],[(2,false,[.pv (.sl .str),.pv Y2]),(3,false,[pI,pS,.pv (.sl .str),pI,pI,.pv (.sl .q)])]⟩
def jTI (N:Nat):(D:Nat)->(List Z0)->(List Z1)->Int->Z0->(List Z0)->Int->Int->(List DQ)->Z11
 |0,_,_,_,_,_,_,_,_=>none
 |D+1,c,c2,q,q2,q3,q4,q5,q6=>
 bif decide (q=2)then
 oB (jxS N q3 ([32]:List UInt8)) fun r=>
 (oB (ja5 N c c2 r) fun r2=>
 iter (fun go (g:(List Z0)×Z6×Int)=>
 match g with
 |(out,list,i)=>
 bif decide (i<(list.length:Int))then
 oB (idx list i) fun e=>
 (oB (jTD N out e.1) fun r3=>
 if fits (i+1)then go (r3,list,(i+1))else none)
 else
 some out) N (([]:List Z0),r2,0))
 else
 bif decide (q=3)then
 oB (jxS N q3 ([32]:List UInt8)) fun r4=>
 (oB (ja5 N c c2 r4) fun r5=>
 iter (fun go2 (g:(List Z0)×Z6×Int)=>
 match g with
 |(out2,list2,i2)=>
 bif decide (i2<(list2.length:Int))then
 oB (idx list2 i2) fun e2=>
 (oB (jTD N out2 e2.1) fun r6=>
 if fits (i2+1)then go2 (r6,list2,(i2+1))else none)
 else
 some out2) N (([]:List Z0),r5,0))
 else
 iter (fun go3 (g:(List Z0)×Int×(List Z0)×(List Z1)×Int×Z0×(List Z0)×Int×Int×(List DQ))=>
 match g with
 |(out3,i3,c3,c4,q7,q8,q9,q10,q11,q12)=>
 bif decide (i3<(q12.length:Int))then
 bif decide (q7=9)then
 bif decide ((0:Int)<i3)then
 some out3
 else
 (oB (idx q12 i3) fun e3=>
 oB (jTI N D c3 c4 e3.kind e3.field e3.words e3.lo e3.hi e3.kids) fun r7=>
 iter (fun go4 (g:Z15)=>
 match g with
 |(out4,i4,more,k,c5,c6,q13,q14,q15,q16,q17,q18)=>
 bif decide (k<(more.length:Int))then
 oB (idx more k) fun e4=>
 (oB (jTD N out4 e4) fun r8=>
 if fits (k+1)then go4 (r8,i4,more,(k+1),c5,c6,q13,q14,q15,q16,q17,q18)else none)
 else
 if fits (i4+1)then go3 (out4,(i4+1),c5,c6,q13,q14,q15,q16,q17,q18)else none) N (out3,i3,r7,0,c3,c4,q7,q8,q9,q10,q11,q12))
 else
 (oB (idx q12 i3) fun e5=>
 oB (jTI N D c3 c4 e5.kind e5.field e5.words e5.lo e5.hi e5.kids) fun r9=>
 iter (fun go5 (g:Z15)=>
 match g with
 |(out5,i5,more2,k2,c7,c8,q19,q20,q21,q22,q23,q24)=>
 bif decide (k2<(more2.length:Int))then
 oB (idx more2 k2) fun e6=>
 (oB (jTD N out5 e6) fun r10=>
 if fits (k2+1)then go5 (r10,i5,more2,(k2+1),c7,c8,q19,q20,q21,q22,q23,q24)else none)
 else
 if fits (i5+1)then go3 (out5,(i5+1),c7,c8,q19,q20,q21,q22,q23,q24)else none) N (out3,i3,r9,0,c3,c4,q7,q8,q9,q10,q11,q12))
 else
 some out3) N (([]:List Z0),0,c,c2,q,q2,q3,q4,q5,q6)
def jT0 (N D:Nat):Model:=⟨⟨[.agg [.pv (.sl .str),.pv Y2],.agg [pI,pS,.pv (.sl .str),pI,pI,.pv (.sl .q)]],[]⟩,⟨[.pv (.sl .str)],[]⟩,c8A (jTI N D)⟩
theorem jU5 (N D:Nat) (ih:mK 22 (jT0 N D)):mK 22 (jT0 N (D+1)):=
 mO (fC ih (fC (jAy N) (fC (jiO N) (fC (jgt N) ja)))) func22 rfl N (.seq .no (.seq .no (.seq (.seq .no (.cond (.seq .no (.seq (.seq .no (.block (.loop jVp .no))) .no)) .no)) (.seq (.seq .no (.block (.loop jVr (.seq .no (.seq (.block (.seq .no (.seq .no (.seq .no (.block (.loop jVc .no)))))) .no))))) .no)))) (jT0 N (D+1))
theorem jUU (N:Nat):∀D,mK 22 (jT0 N D)
 |0=>modelOk_none ⟨_,func22,by decide,by kernel_rfl⟩ _ (fun a=>rfl)
 |D+1=>jU5 N D (jUU N D)
def jVk :Sh:=⟨.pv (.sl (.pair .str .q)):: .dead:: .dead:: .box 3 0:: .dead:: .pv (.sl .str)::pI::dz 37 [],[(3,false,[.pv (.sl .str),.pv Y2])]⟩
def jU8 :Sh:=⟨.pv (.sl (.pair .str .q)):: .dead:: .dead:: .box 3 0:: .dead:: .pv (.sl .str)::pI:: .pv (.sl .str)::pI::dz 35 [],[(3,false,[.pv (.sl .str),.pv Y2])]⟩
def jTY (j:List (Z0×DQ)) (k:List Z0) (p:List Z1):Z11:=
 (oB (jE4 N j) fun t=>bif !t then some ([]:List Z0)else oB (jcw N k p) fun u=>bif !u then some ([]:List Z0)else iter (fun v (f,l,e,r,i)=>bif decide (e<(f.length:Int))then oB (idx f e) fun a=>(oB (jTI N N r i a.2.kind a.2.field a.2.words a.2.lo a.2.hi a.2.kids) fun y=>iter (fun w (m,q,h,d,b,n,o)=>bif decide (b<(d.length:Int))then oB (idx d b) fun z=>(oB (jTD N q z) fun x=>if fits (b+1)then w (m,x,h,d,(b+1),n,o)else none)else if fits (h+1)then v (m,q,(h+1),n,o)else none) N (f,l,e,y,(0:Int),r,i))else some l) N (j,([]:List Z0),(0:Int),k,p))
theorem jV3 :mK 6 (bX [.pv (.sl (.pair .str .q)),.agg [.pv (.sl .str),.pv Y2]] [.pv (.sl .str)] (c3A (jTY N))):=
 mO (fC (jFd N) (fC (jtf N) (fC (jUU N N) (fC (jgt N) ja)))) func6 rfl N (.seq .no (.seq .no (.seq .no (.seq (.seq .no (.block (.loop jVk (.seq .no (.seq (.block (.seq .no (.seq .no (.block (.loop jU8 .no))))) .no))))) .no)))) _
def jaw (N:Nat) (a:Int):Z4:=
 (bif decide ((97:Int)<=a)then bif decide (a<=122)then some true else(bif decide ((48:Int)<=a)then some (decide (a<=57))else some false)else bif decide ((48:Int)<=a)then some (decide (a<=57))else some false)
theorem jeK :mK 65 (bX [.pv (.int .u8)] [pB] (c1A (jaw N))):=
 mO ja func65 rfl N .no _
def jm (N:Nat) (a:Int) (c:Int) (b:Int):Z4:=
 (bif decide (c<=a)then some (decide (a<=b))else some false)
theorem jY :mK 50 (bX [pI,pI,pI] [pB] (c3A (jm N))):=
 mO ja func50 rfl N .no _
def jqW :Sh:=⟨pS::dz 4 (pI::pI::dz 11 []),[]⟩
def jO (c:List UInt8):Z4:=
 (iter (fun j (b,d,a)=>bif decide (a<d)then oB (idx b a) fun h=>(oB (jaw N (h.toNat:Int)) fun e=>bif !e then some false else if fits (a+1)then j (b,d,(a+1))else none)else oB (jm N (b.length:Int) 1 12) fun i=>some i) N (c,(c.length:Int),(0:Int)))
theorem jcM :mK 47 (bX [pS] [pB] (c1A (jO N))):=
 mO (fC (jeK N) (fC (jY N) ja)) func47 rfl N (.seq .no (.seq (.seq .no (.block (.loop jqW .no))) .no)) _
def jDx :Sh:=⟨pS::dz 4 (pI::pI::dz 23 []),[]⟩
def jxV (e:List UInt8):Z4:=
 (iter (fun d (b,c,a)=>bif decide (a<c)then oB (idx b a) fun i=>(oB (jaw N (i.toNat:Int)) fun f=>bif !f then oB (idx b a) fun k=>(bif !decide ((k.toNat:Int)=42)then oB (idx b a) fun l=>(bif !decide ((l.toNat:Int)=63)then some false else if fits (a+1)then d (b,c,(a+1))else none)else if fits (a+1)then d (b,c,(a+1))else none)else if fits (a+1)then d (b,c,(a+1))else none)else oB (jm N (b.length:Int) 1 12) fun j=>some j) N (e,(e.length:Int),(0:Int)))
theorem jz9 :mK 82 (bX [pS] [pB] (c1A (jxV N))):=
 mO (fC (jeK N) (fC (jY N) ja)) func82 rfl N (.seq .no (.seq (.seq .no (.block (.loop jDx .no))) .no)) _
def jBs :Sh:=⟨.dead::pI:: .box 2 0::dz 90 (.pv (.sl .str)::pI::pI::dz 39 []),[(2,false,[pI,pS,.pv (.sl .str),pI,pI,.pv (.sl .q)])]⟩
def jC6 :Sh:=⟨.dead::pI::dz 121 (.pv (.sl .q)::pI::pI::dz 9 []),[]⟩
def jDY :Sh:=⟨.dead::pI:: .box 2 0::dz 132 [],[(2,false,[pI,pS,.pv (.sl .str),pI,pI,.pv (.sl .q)])]⟩
def jzZ :Sh:=⟨.dead::pI:: .box 2 0:: .dead:: .dead:: .box 5 0::dz 129 [],[(2,false,[pI,pS,.pv (.sl .str),pI,pI,.pv (.sl .q)]),(5,false,[pB,pI,pI,pI,pI,pB,pI,pI])]⟩
def jxE (N:Nat):(D:Nat)->Int->Z0->(List Z0)->Int->Int->(List DQ)->Int->Z4
 |0,_,_,_,_,_,_,_=>none
 |D+1,q,q2,q3,q4,q5,q6,deep=>
 meet (fun(g:Z16)=>
 match g with
 |(deep2,q7,q8,q9,q10,q11,q12,x,x2,x3,x4,x5,x6,x7,x8)=>
 meet (fun(g:Z16)=>
 match g with
 |(deep3,q13,q14,q15,q16,q17,q18,x9,x10,x11,x12,x13,x14,x15,x16)=>
 meet (fun(g:Int×Int×Z0×(List Z0)×Int×Int×(List DQ))=>
 match g with
 |(deep4,q19,q20,q21,q22,q23,q24)=>
 iter (fun go (g:Int×(List Z0)×Int×Int×Int×Z0×(List Z0)×Int×Int×(List DQ))=>
 match g with
 |(deep5,t93,t94,t95,q25,q26,q27,q28,q29,q30)=>
 bif decide (t95<t94)then
 oB (idx t93 t95) fun e=>
 (bif decide (q25=5)then
 oB (jxV N e) fun r6=>
 (bif !r6 then
 some false
 else
 oB (jO N e) fun r7=>
 bif r7 then
 some false
 else
 bif !decide (q25=5)then
 oB (jO N e) fun r8=>
 (bif !r8 then
 some false
 else
 if fits (t95+1)then go (deep5,t93,t94,(t95+1),q25,q26,q27,q28,q29,q30)else none)
 else
 if fits (t95+1)then go (deep5,t93,t94,(t95+1),q25,q26,q27,q28,q29,q30)else none)
 else
 bif !decide (q25=5)then
 oB (jO N e) fun r9=>
 (bif !r9 then
 some false
 else
 if fits (t95+1)then go (deep5,t93,t94,(t95+1),q25,q26,q27,q28,q29,q30)else none)
 else
 if fits (t95+1)then go (deep5,t93,t94,(t95+1),q25,q26,q27,q28,q29,q30)else none)
 else
 iter (fun go2 (g:Int×(List DQ)×Int×Int)=>
 match g with
 |(deep6,t123,t124,t125)=>
 bif decide (t125<t124)then
 oB (idx t123 t125) fun e2=>
 (if fits (deep6-1)then oB (jxE N D e2.kind e2.field e2.words e2.lo e2.hi e2.kids (deep6-1)) fun r10=>
 (bif !r10 then
 some false
 else
 if fits (t125+1)then go2 (deep6,t123,t124,(t125+1))else none)else none)
 else
 some true) N (deep5,q30,(q30.length:Int),0)) N (deep4,q21,(q21.length:Int),0,q19,q20,q21,q22,q23,q24)) fun J3=>
 bif x14 then
 oB (jm N q17 q16 999999999) fun r5=>
 (bif !r5 then
 some false
 else
 bif !x14 then
 bif !decide (q17=0)then
 some false
 else
 (J3 (deep3,q13,q14,q15,q16,q17,q18))
 else
 J3 (deep3,q13,q14,q15,q16,q17,q18))
 else
 bif !x14 then
 bif !decide (q17=0)then
 some false
 else
 (J3 (deep3,q13,q14,q15,q16,q17,q18))
 else
 J3 (deep3,q13,q14,q15,q16,q17,q18)) fun J2=>
 oB (jm N (q9.length:Int) x2 x3) fun r2=>
 bif !r2 then
 some false
 else
 oB (jm N (q12.length:Int) x7 x8) fun r3=>
 bif !r3 then
 some false
 else
 oB (jm N q10 x4 x5) fun r4=>
 bif !r4 then
 some false
 else
 J2 (deep2,q7,q8,q9,q10,q11,q12,x,x2,x3,x4,x5,x6,x7,x8)) fun J=>
 bif !((mget tI (.pair .bool (.pair tI (.pair tI (.pair tI (.pair tI (.pair .bool (.pair tI tI))))))) gm_shapes q).isSome)then
 some false
 else
 bif decide (deep<1)then
 some false
 else
 bif !((((mget tI (.pair .bool (.pair tI (.pair tI (.pair tI (.pair tI (.pair .bool (.pair tI tI))))))) gm_shapes q).getD (false,(0,(0,(0,(0,(false,(0,0)))))))).1)==(!decide (q2=([]:List UInt8))))then
 some false
 else
 bif((mget tI (.pair .bool (.pair tI (.pair tI (.pair tI (.pair tI (.pair .bool (.pair tI tI))))))) gm_shapes q).getD (false,(0,(0,(0,(0,(false,(0,0)))))))).1 then
 oB (jO N q2) fun r=>
 (bif !r then
 some false
 else
 J (deep,q,q2,q3,q4,q5,q6,((mget tI (.pair .bool (.pair tI (.pair tI (.pair tI (.pair tI (.pair .bool (.pair tI tI))))))) gm_shapes q).getD (false,(0,(0,(0,(0,(false,(0,0)))))))).1,(((mget tI (.pair .bool (.pair tI (.pair tI (.pair tI (.pair tI (.pair .bool (.pair tI tI))))))) gm_shapes q).getD (false,(0,(0,(0,(0,(false,(0,0)))))))).2).1,((((mget tI (.pair .bool (.pair tI (.pair tI (.pair tI (.pair tI (.pair .bool (.pair tI tI))))))) gm_shapes q).getD (false,(0,(0,(0,(0,(false,(0,0)))))))).2).2).1,(((((mget tI (.pair .bool (.pair tI (.pair tI (.pair tI (.pair tI (.pair .bool (.pair tI tI))))))) gm_shapes q).getD (false,(0,(0,(0,(0,(false,(0,0)))))))).2).2).2).1,((((((mget tI (.pair .bool (.pair tI (.pair tI (.pair tI (.pair tI (.pair .bool (.pair tI tI))))))) gm_shapes q).getD (false,(0,(0,(0,(0,(false,(0,0)))))))).2).2).2).2).1,(((((((mget tI (.pair .bool (.pair tI (.pair tI (.pair tI (.pair tI (.pair .bool (.pair tI tI))))))) gm_shapes q).getD (false,(0,(0,(0,(0,(false,(0,0)))))))).2).2).2).2).2).1,((((((((mget tI (.pair .bool (.pair tI (.pair tI (.pair tI (.pair tI (.pair .bool (.pair tI tI))))))) gm_shapes q).getD (false,(0,(0,(0,(0,(false,(0,0)))))))).2).2).2).2).2).2).1,((((((((mget tI (.pair .bool (.pair tI (.pair tI (.pair tI (.pair tI (.pair .bool (.pair tI tI))))))) gm_shapes q).getD (false,(0,(0,(0,(0,(false,(0,0)))))))).2).2).2).2).2).2).2))
 else
 J (deep,q,q2,q3,q4,q5,q6,((mget tI (.pair .bool (.pair tI (.pair tI (.pair tI (.pair tI (.pair .bool (.pair tI tI))))))) gm_shapes q).getD (false,(0,(0,(0,(0,(false,(0,0)))))))).1,(((mget tI (.pair .bool (.pair tI (.pair tI (.pair tI (.pair tI (.pair .bool (.pair tI tI))))))) gm_shapes q).getD (false,(0,(0,(0,(0,(false,(0,0)))))))).2).1,((((mget tI (.pair .bool (.pair tI (.pair tI (.pair tI (.pair tI (.pair .bool (.pair tI tI))))))) gm_shapes q).getD (false,(0,(0,(0,(0,(false,(0,0)))))))).2).2).1,(((((mget tI (.pair .bool (.pair tI (.pair tI (.pair tI (.pair tI (.pair .bool (.pair tI tI))))))) gm_shapes q).getD (false,(0,(0,(0,(0,(false,(0,0)))))))).2).2).2).1,((((((mget tI (.pair .bool (.pair tI (.pair tI (.pair tI (.pair tI (.pair .bool (.pair tI tI))))))) gm_shapes q).getD (false,(0,(0,(0,(0,(false,(0,0)))))))).2).2).2).2).1,(((((((mget tI (.pair .bool (.pair tI (.pair tI (.pair tI (.pair tI (.pair .bool (.pair tI tI))))))) gm_shapes q).getD (false,(0,(0,(0,(0,(false,(0,0)))))))).2).2).2).2).2).1,((((((((mget tI (.pair .bool (.pair tI (.pair tI (.pair tI (.pair tI (.pair .bool (.pair tI tI))))))) gm_shapes q).getD (false,(0,(0,(0,(0,(false,(0,0)))))))).2).2).2).2).2).2).1,((((((((mget tI (.pair .bool (.pair tI (.pair tI (.pair tI (.pair tI (.pair .bool (.pair tI tI))))))) gm_shapes q).getD (false,(0,(0,(0,(0,(false,(0,0)))))))).2).2).2).2).2).2).2)
def jyl (N D:Nat):Model:=⟨⟨[.agg [pI,pS,.pv (.sl .str),pI,pI,.pv (.sl .q)],pI],[]⟩,⟨[pB],[]⟩,c7A (jxE N D)⟩
theorem jAF (N D:Nat) (ih:mK 66 (jyl N D)):mK 66 (jyl N (D+1)):=
 mO (fC ih (fC (jcM N) (fC (jY N) (fC (jz9 N) ja)))) func66 rfl N (.seq .no (.seq .no (.meet jzZ .no (.meet jzZ .no (.meet jDY .no (.seq (.seq .no (.block (.loop jBs .no))) (.seq (.seq .no (.block (.loop jC6 .no))) .no))))))) (jyl N (D+1))
theorem jzh (N:Nat):∀D,mK 66 (jyl N D)
 |0=>modelOk_none ⟨_,func66,by decide,by kernel_rfl⟩ _ (fun a=>rfl)
 |D+1=>jAF N D (jzh N D)
def jTV (b:Int) (f:List UInt8) (h:List Z0) (c:Int) (e:Int) (d:List DQ):Z4:=
 (oB (jxE N N b f h c e d 4) fun a=>some a)
theorem jCN :mK 48 (bX [.agg [pI,pS,.pv (.sl .str),pI,pI,.pv (.sl .q)]] [pB] (c6A (jTV N))):=
 mO (fC (jzh N N) ja) func48 rfl N .no _
def jF0 :Sh:=⟨.pv (.sl (.pair .str .q))::dz 4 (.pv (.sl (.pair .str .q))::pI::pI::dz 33 []),[]⟩
def jGU (e:List (Z0×DQ)):Z4:=
 (iter (fun h (c,d,f,a)=>bif decide (a<f)then oB (idx d a) fun b=>(oB (jO N b.1) fun i=>bif !i then some false else oB (jTV N b.2.kind b.2.field b.2.words b.2.lo b.2.hi b.2.kids) fun k=>bif !k then some false else bif decide ((0:Int)<a)then if fits (a-1)then oB (idx c (a-1)) fun l=>(bif !Op.bytesLess l.1 b.1 then some false else if fits (a+1)then h (c,d,f,(a+1))else none)else none else if fits (a+1)then h (c,d,f,(a+1))else none)else some (decide ((c.length:Int)<=6))) N (e,e,(e.length:Int),(0:Int)))
theorem jFt :mK 27 (bX [.pv (.sl (.pair .str .q))] [pB] (c1A (jGU N))):=
 mO (fC (jcM N) (fC (jCN N) ja)) func27 rfl N (.seq .no (.seq (.seq .no (.block (.loop jF0 .no))) .no)) _
def jmc :Sh:=⟨.pv (.sl .str)::dz 4 (.pv (.sl .str)::pI::pI::dz 21 []),[]⟩
def jb2 (d:List Z0):Z4:=
 (iter (fun h (c,b,e,a)=>bif decide (a<e)then oB (idx b a) fun f=>(oB (jO N f) fun i=>bif !i then some false else bif decide ((0:Int)<a)then if fits (a-1)then oB (idx c (a-1)) fun k=>(bif !Op.bytesLess k f then some false else if fits (a+1)then h (c,b,e,(a+1))else none)else none else if fits (a+1)then h (c,b,e,(a+1))else none)else some true) N (d,d,(d.length:Int),(0:Int)))
theorem jtw :mK 49 (bX [.pv (.sl .str)] [pB] (c1A (jb2 N))):=
 mO (fC (jcM N) ja) func49 rfl N (.seq .no (.seq (.seq .no (.block (.loop jmc .no))) .no)) _
def jdF (N:Nat) (a:List UInt8) (b:List UInt8):Z4:=
 (bif decide ((b.length:Int)<=(a.length:Int))then if fits ((a.length:Int)-(b.length:Int))then oB (cut a ((a.length:Int)-(b.length:Int)) (a.length:Int)) fun c=>(some (decide (c=b)))else none else some false)
theorem jpU :mK 83 (bX [pS,pS] [pB] (c2A (jdF N))):=
 mO ja func83 rfl N .no _
def jcN (a:List UInt8) (c:List UInt8):Z4:=
 (oB (jdF N a c) fun b=>some b)
theorem jsu :mK 67 (bX [pS,pS] [pB] (c2A (jcN N))):=
 mO (fC (jpU N) ja) func67 rfl N .no _
def jod :Sh:=⟨pS:: .dead:: .dead::pB::dz 32 [],[]⟩
def jnf :Sh:=⟨pS:: .dead:: .dead::pB::dz 6 (.own 600010 .str 9 true::pI::pI::dz 23 []),[]⟩
def jaB (i:List UInt8):Option (Z0):=
 (oB (jO N i) fun m=>bif !m then some ([]:List UInt8)else iter (fun l (k,p)=>bif p then iter (fun j (a,f,e,h,b)=>bif decide (b<h)then oB (idx e b) fun c=>(oB (jcN N a c) fun o=>bif o then if fits ((a.length:Int)-(c.length:Int))then bif decide ((3:Int)<=((a.length:Int)-(c.length:Int)))then if fits ((a.length:Int)-(c.length:Int))then oB (cut a 0 ((a.length:Int)-(c.length:Int))) fun n=>(l (n,true))else none else(if fits (b+1)then j (a,f,e,h,(b+1))else none)else none else if fits (b+1)then j (a,f,e,h,(b+1))else none)else l (a,f)) N (k,false,([([105,110,103]:List UInt8),([101,100]:List UInt8),([101,115]:List UInt8),([108,121]:List UInt8),([115]:List UInt8)]:List Z0),(([([105,110,103]:List UInt8),([101,100]:List UInt8),([101,115]:List UInt8),([108,121]:List UInt8),([115]:List UInt8)]:List Z0).length:Int),(0:Int))else some k) N (i,true))
theorem jio :mK 51 (bX [pS] [pS] (c1A (jaB N))):=
 mO (fC (jcM N) (fC (jsu N) ja)) func51 rfl N (.seq .no (.seq .no (.seq (.seq .no (.block (.loop jod (.seq .no (.block (.seq .no (.seq .no (.block (.loop jnf .no))))))))) .no))) _
def jkJ :Sh:=⟨.pv (.sl .str)::pS::dz 5 (pI::pI::dz 10 []),[]⟩
def jdH (b:List Z0) (h:List UInt8):Z14:=
 (iter (fun j (c,d,e,a)=>bif decide (a<e)then oB (idx c a) fun i=>(bif decide (d=i)then some a else if fits (a+1)then j (c,d,e,(a+1))else none)else some (-1)) N (b,h,(b.length:Int),(0:Int)))
theorem jkZ :mK 68 (bX [.pv (.sl .str),pS] [pI] (c2A (jdH N))):=
 mO ja func68 rfl N (.seq .no (.seq (.seq .no (.block (.loop jkJ .no))) .no)) _
def jao (a:List Z0) (c:List UInt8):Z4:=
 (oB (jdH N a c) fun b=>some (decide ((0:Int)<=b)))
theorem jh5 :mK 52 (bX [.pv (.sl .str),pS] [pB] (c2A (jao N))):=
 mO (fC (jkZ N) ja) func52 rfl N .no _
def jmj :Sh:=⟨.dead:: .box 1 0::dz 22 (.pv Y2::pI::pI::dz 46 []),[(1,false,[.pv (.sl .str),.pv Y2])]⟩
def jrC :Sh:=⟨.dead:: .box 1 0::dz 22 (.pv Y2::pI::pI::dz 12 (pB::dz 7 (pB:: .dead:: .dead:: .pv (.sl .str)::pI::pI::dz 20 []))),[(1,false,[.pv (.sl .str),.pv Y2])]⟩
def jaj (i:List Z0) (c:List Z1):Z4:=
 (bif decide ((6:Int)<i.length)then some false else oB (jb2 N i) fun u=>bif !u then some false else bif decide ((4:Int)<c.length)then some false else iter (fun z (r,n,e,E,x)=>bif decide (e<n)then oB (idx r e) fun a=>(oB (jm N (a.1.length:Int) 1 3) fun y=>bif !y then some false else oB (jO N a.2) fun q=>bif !q then some false else oB (jaB N a.2) fun p=>bif !decide (p=a.2)then some false else iter (fun B (m,k,h,A,D,l,o,b,j,t)=>bif decide (b<o)then oB (idx l b) fun d=>(oB (jO N d) fun C=>bif !C then some false else oB (jaB N d) fun w=>bif !decide (w=d)then some false else oB (jao N j d) fun v=>bif v then some false else if fits (b+1)then B (m,k,h,A,D,l,o,(b+1),j,t)else none)else if fits (h+1)then z (m,k,(h+1),j,t)else none) N (r,n,e,(!q),(!decide (p=a.2)),a.1,(a.1.length:Int),(0:Int),E,x))else some true) N (c,(c.length:Int),(0:Int),i,c))
theorem jdX :mK 28 (bX [.agg [.pv (.sl .str),.pv Y2]] [pB] (c2A (jaj N))):=
 mO (fC (jtw N) (fC (jY N) (fC (jcM N) (fC (jio N) (fC (jh5 N) ja))))) func28 rfl N (.seq .no (.seq .no (.seq (.seq .no (.block (.loop jmj (.seq .no (.seq .no (.seq (.block (.seq .no (.seq .no (.seq .no (.block (.loop jrC .no)))))) .no)))))) .no))) _
def jyu (N:Nat) (a:List Z0) (b:List UInt8):Option (Z0):=jxR a b
 
def jBB (N:Nat):Model:=⟨⟨[.pv (.sl .str),pS],[]⟩,⟨[pS],[]⟩,c2A (jyu N)⟩
theorem jBE :mK 54 (jBB N):=jBz
def jtd :Sh:=⟨pS::dz 4 (pI::pI::dz 16 []),[]⟩
def jaF (c:List UInt8):Z4:=
 (iter (fun i (b,d,a)=>bif decide (a<d)then oB (idx b a) fun f=>(bif decide ((f.toNat:Int)<32)then some false else oB (idx b a) fun h=>bif decide ((126:Int)<(h.toNat:Int))then some false else if fits (a+1)then i (b,d,(a+1))else none)else some (decide ((b.length:Int)<=160))) N (c,(c.length:Int),(0:Int)))
theorem jdK :mK 69 (bX [pS] [pB] (c1A (jaF N))):=
 mO ja func69 rfl N (.seq .no (.seq (.seq .no (.block (.loop jtd .no))) .no)) _
def jI (N:Nat) (a:Int):Z14:=
 (bif decide ((65:Int)<=a)then bif decide (a<=90)then some (IntKind.u8.wrap ((IntKind.u8.wrap (a+97))-65))else(some a)else some a)
theorem jmu :mK 84 (bX [.pv (.int .u8)] [.pv (.int .u8)] (c1A (jI N))):=
 mO ja func84 rfl N .no _
def jpB :Sh:=⟨pS:: .dead:: .dead:: .own 600003 Y0 103 true::pI::dz 57 [],[]⟩
def jo6 :Sh:=⟨pS:: .dead:: .dead:: .own 600003 Y0 103 true::pI:: .box 5 0:: .own 600006 (.int .u8) 5 true::dz 55 [],[(5,false,[pS,pI,pI,pI])]⟩
def jct (m:List UInt8):Option ((List Z3)):=
 (oB (jaF N m) fun r=>bif !r then some ([]:List Z3)else iter (fun l (j,i,e)=>bif decide (e<(j.length:Int))then oB (idx j e) fun u=>(oB (jI N (u.toNat:Int)) fun t=>oB (jaw N t) fun v=>bif !v then if fits (e+1)then l (j,i,(e+1))else none else iter (fun p (c,h,a,b,q,f,d,n)=>bif decide (a<(c.length:Int))then oB (idx c a) fun y=>(oB (jI N (y.toNat:Int)) fun w=>oB (jaw N w) fun x=>bif x then bif decide ((b.length:Int)<12)then oB (idx c a) fun z=>(oB (jI N (z.toNat:Int)) fun o=>if room b.length ([o]:List Int).length 1 then if fits (a+1)then p (c,h,(a+1),(b++([o]:List Int)),q,f,d,n)else none else none)else(if fits (a+1)then p (c,h,(a+1),b,q,f,d,n)else none)else if room h.length ([((bytesOf b),f,d,a)]:List Z3).length 40 then l (c,(h++([((bytesOf b),f,d,a)]:List Z3)),a)else none)else if room h.length ([((bytesOf b),f,d,a)]:List Z3).length 40 then l (c,(h++([((bytesOf b),f,d,a)]:List Z3)),a)else none) N (j,i,e,([]:List Int),([]:List UInt8),(i.length:Int),e,(0:Int)))else some i) N (m,([]:List Z3),(0:Int)))
theorem jqc :mK 70 (bX [pS] [.own 1 Y0 103 true] (c1A (jct N))):=
 mO (fC (jdK N) (fC (jmu N) (fC (jeK N) ja))) func70 rfl N (.seq .no (.seq .no (.seq .no (.seq (.seq .no (.block (.loop jpB (.seq .no (.block (.seq .no (.seq .no (.seq .no (.seq (.block (.loop jo6 .no)) .no))))))))) .no)))) _
def jty :Sh:=⟨.dead:: .pv (.sl Y3)::pI:: .box 3 0::dz 3 (.pv (.opt Y4)::dz 8 (pI::pI::dz 73 [])),[(3,false,[.pv (.sl .str),.pv Y2])]⟩
def jss :Sh:=⟨.dead:: .pv (.sl Y3)::pI:: .box 3 0::dz 3 (.pv (.opt Y4):: .dead:: .ptr Y4::pB::dz 5 (pI::pI::dz 31 (pB::dz 4 (.pv (.sl .str)::pI::pI::dz 34 [])))),[(3,false,[.pv (.sl .str),.pv Y2])]⟩
def jbH (c:List Z0) (c2:List Z1) (jTy:Z7) (at0:Int):Option ((Option Z1)):=
 (iter (fun go (terms2,at02,best,t16,t17,c3,c4)=>bif decide (t17<t16)then oB (idx c4 t17) fun e=>(if fits ((terms2.length:Int)-at02)then bif decide (((terms2.length:Int)-at02)<(e.1.length:Int))then if fits (t17+1)then go (terms2,at02,best,t16,(t17+1),c3,c4)else none else(bif !(Option.isNone best)then oB best fun p=>(bif decide ((e.1.length:Int)<=(p.1.length:Int))then if fits (t17+1)then go (terms2,at02,best,t16,(t17+1),c3,c4)else none else iter (fun go2 (terms3,at03,best2,r,fits0,t162,t172,t49,t54,t55,t56,c5,c6)=>bif decide (t56<t55)then oB (idx t54 t56) fun e2=>(if fits (at03+t56)then oB (idx terms3 (at03+t56)) fun e3=>(bif fits0 then bif decide (e3.1=e2)then oB (idx terms3 at03) fun e4=>(if fits (e4.2+t56)then if fits (t56+1)then go2 (terms3,at03,best2,r,(decide (e3.2=(e4.2+t56))),t162,t172,t49,t54,t55,(t56+1),c5,c6)else none else none)else(if fits (t56+1)then go2 (terms3,at03,best2,r,false,t162,t172,t49,t54,t55,(t56+1),c5,c6)else none)else if fits (t56+1)then go2 (terms3,at03,best2,r,false,t162,t172,t49,t54,t55,(t56+1),c5,c6)else none)else none)else bif fits0 then if fits (t172+1)then go (terms3,at03,(some r),t162,(t172+1),c5,c6)else none else if fits (t172+1)then go (terms3,at03,best2,t162,(t172+1),c5,c6)else none) N (terms2,at02,best,e,true,t16,t17,(decide ((e.1.length:Int)<=(p.1.length:Int))),e.1,(e.1.length:Int),(0:Int),c3,c4))else iter (fun go3 (terms4,at04,best3,r2,fits02,t163,t173,t492,t542,t552,t562,c7,c8)=>bif decide (t562<t552)then oB (idx t542 t562) fun e5=>(if fits (at04+t562)then oB (idx terms4 (at04+t562)) fun e6=>(bif fits02 then bif decide (e6.1=e5)then oB (idx terms4 at04) fun e7=>(if fits (e7.2+t562)then if fits (t562+1)then go3 (terms4,at04,best3,r2,(decide (e6.2=(e7.2+t562))),t163,t173,t492,t542,t552,(t562+1),c7,c8)else none else none)else(if fits (t562+1)then go3 (terms4,at04,best3,r2,false,t163,t173,t492,t542,t552,(t562+1),c7,c8)else none)else if fits (t562+1)then go3 (terms4,at04,best3,r2,false,t163,t173,t492,t542,t552,(t562+1),c7,c8)else none)else none)else bif fits02 then if fits (t173+1)then go (terms4,at04,(some r2),t163,(t173+1),c7,c8)else none else if fits (t173+1)then go (terms4,at04,best3,t163,(t173+1),c7,c8)else none) N (terms2,at02,best,e,true,t16,t17,false,e.1,(e.1.length:Int),(0:Int),c3,c4))else none)else some best) N (jTy,at0,(none:Option Z1),(c2.length:Int),(0:Int),c,c2))
theorem jtv :mK 71 (bX [.agg [.pv (.sl .str),.pv Y2],.pv (.sl Y3),pI] [.pv (.opt Y4)] (c4A (jbH N))):=
 mO ja func71 rfl N (.seq .no (.seq .no (.seq (.seq .no (.block (.loop jty (.seq .no (.seq .no (.seq (.block (.seq .no (.seq .no (.seq .no (.seq .no (.seq (.seq .no (.block (.loop jss .no))) .no)))))) .no)))))) .no))) _
def jlW :Sh:=⟨.dead:: .dead:: .box 2 0:: .dead:: .dead:: .own 600005 Y3 84 true:: .own 600006 Y3 84 true::dz 17 (.own 600024 Y0 103 true::pI::pI::dz 67 []),[(2,false,[.pv (.sl .str),.pv Y2])]⟩
def jnt :Sh:=⟨.dead:: .dead:: .box 2 0:: .dead:: .dead:: .own 600005 Y3 84 true:: .own 600006 Y3 84 true::dz 3 (pI::dz 83 []),[(2,false,[.pv (.sl .str),.pv Y2])]⟩
def jbw (z:List Z0) (A:List Z1) (t:List UInt8):Option (Z6):=
 (oB (jaj N z A) fun C=>bif !C then some ([]:Z7)else oB (jaF N t) fun E=>bif !E then some ([]:Z7)else oB (jct N t) fun x=>iter (fun o (l,e,k,j,a,d,h)=>bif decide (a<j)then oB (idx k a) fun i=>(oB (jaB N i.1) fun p=>oB (jao N d i.1) fun G=>bif !G then oB (jao N d p) fun D=>(bif !D then if room e.length ([(p,i.2.1)]:Z7).length 24 then if fits (a+1)then o (l,(e++([(p,i.2.1)]:Z7)),k,j,(a+1),d,h)else none else none else if fits (a+1)then o (l,e,k,j,(a+1),d,h)else none)else if fits (a+1)then o (l,e,k,j,(a+1),d,h)else none)else iter (fun w (f,c,b,q,r)=>bif decide (b<(c.length:Int))then oB (jbH N q r c b) fun n=>(bif Option.isNone n then oB (idx c b) fun B=>(if room f.length ([B]:Z7).length 24 then if fits (b+1)then w ((f++([B]:Z7)),c,(b+1),q,r)else none else none)else oB n fun v=>oB (idx c b) fun u=>if room f.length ([(v.2,u.2)]:Z7).length 24 then oB n fun y=>(if fits (b+(y.1.length:Int))then w ((f++([(v.2,u.2)]:Z7)),c,(b+(y.1.length:Int)),q,r)else none)else none)else some f) N (l,e,(0:Int),d,h)) N (([]:Z7),([]:Z7),x,(x.length:Int),(0:Int),z,A))
theorem jgO :mK 53 (bX [.agg [.pv (.sl .str),.pv Y2],pS] [.own 1 Y3 84 true] (c3A (jbw N))):=
 mO (fC (jdX N) (fC (jdK N) (fC (jqc N) (fC (jio N) (fC (jh5 N) (fC (jtv N) ja)))))) func53 rfl N (.seq .no (.seq .no (.seq .no (.seq .no (.seq (.seq .no (.block (.loop jlW .no))) (.seq (.seq .no (.block (.loop jnt .no))) .no)))))) _
def jVl :Sh:=⟨.dead:: .dead:: .box 1000900002 0:: .box 3 0:: .box 4 0::dz 17 (.own 600022 Y3 84 true::pI::pI::dz 27 []),[(3,false,[.pv (.sl .str),.pv Y2]),(4,false,[pI,pS,.pv (.sl .str),pI,pI,.pv (.sl .q)]),(1000900002,false,[.pv (.sl (.pair .str .bool))])]⟩
def jV4 :Sh:=⟨.dead:: .dead:: .box 1000900002 0:: .box 3 0:: .box 4 0::dz 28 (.pv (.sl .q)::pI::pI::dz 16 []),[(3,false,[.pv (.sl .str),.pv Y2]),(4,false,[pI,pS,.pv (.sl .str),pI,pI,.pv (.sl .q)]),(1000900002,false,[.pv (.sl (.pair .str .bool))])]⟩
def jVw :Sh:=⟨.dead:: .dead:: .box 1000900002 0:: .box 3 0:: .box 4 0::dz 47 [],[(3,false,[.pv (.sl .str),.pv Y2]),(4,false,[pI,pS,.pv (.sl .str),pI,pI,.pv (.sl .q)]),(1000900002,false,[.pv (.sl (.pair .str .bool))])]⟩
def jTJ (N:Nat):(D:Nat)->(List Z0)->(List Z1)->Int->Z0->(List Z0)->Int->Int->(List DQ)->Z13->Option (Z13)
 |0,_,_,_,_,_,_,_,_,_=>none
 |D+1,c,c2,q,q2,q3,q4,q5,q6,b=>
 meet (fun(g:(List Z0)×(List Z1)×Int×Z0×(List Z0)×Int×Int×(List DQ)×Z13)=>
 match g with
 |(c7,c8,q19,q20,q21,q22,q23,q24,b4)=>
 iter (fun go3 (g:(List DQ)×Int×Int×(List Z0)×(List Z1)×Int×Z0×(List Z0)×Int×Int×(List DQ)×Z13)=>
 match g with
 |(t33,t34,t35,c9,c10,q25,q26,q27,q28,q29,q30,b5)=>
 bif decide (t35<t34)then
 oB (idx t33 t35) fun e3=>
 (bif !decide (q25=9)then
 oB (jTJ N D c9 c10 e3.kind e3.field e3.words e3.lo e3.hi e3.kids b5) fun r5=>
 (if fits (t35+1)then go3 (t33,t34,(t35+1),c9,c10,q25,q26,q27,q28,q29,q30,r5)else none)
 else
 bif decide (t35=0)then
 oB (jTJ N D c9 c10 e3.kind e3.field e3.words e3.lo e3.hi e3.kids b5) fun r6=>
 (if fits (t35+1)then go3 (t33,t34,(t35+1),c9,c10,q25,q26,q27,q28,q29,q30,r6)else none)
 else
 if fits (t35+1)then go3 (t33,t34,(t35+1),c9,c10,q25,q26,q27,q28,q29,q30,b5)else none)
 else
 some b5) N (q24,(q24.length:Int),0,c7,c8,q19,q20,q21,q22,q23,q24,b4)) fun J=>
 bif decide (q=2)then
 oB (jyu N q3 ([32]:List UInt8)) fun r=>
 (oB (jbw N c c2 r) fun r2=>
 iter (fun go (g:Z6×Int×Int×(List Z0)×(List Z1)×Int×Z0×(List Z0)×Int×Int×(List DQ)×Z13)=>
 match g with
 |(t22,t23,t24,c3,c4,q7,q8,q9,q10,q11,q12,b2)=>
 bif decide (t24<t23)then
 oB (idx t22 t24) fun e=>
 (if fits (t24+1)then go (t22,t23,(t24+1),c3,c4,q7,q8,q9,q10,q11,q12,(mput .str .bool b2 e.1 true))else none)
 else
 J (c3,c4,q7,q8,q9,q10,q11,q12,b2)) N (r2,(r2.length:Int),0,c,c2,q,q2,q3,q4,q5,q6,b))
 else
 bif decide (q=3)then
 oB (jyu N q3 ([32]:List UInt8)) fun r3=>
 (oB (jbw N c c2 r3) fun r4=>
 iter (fun go2 (g:Z6×Int×Int×(List Z0)×(List Z1)×Int×Z0×(List Z0)×Int×Int×(List DQ)×Z13)=>
 match g with
 |(t222,t232,t242,c5,c6,q13,q14,q15,q16,q17,q18,b3)=>
 bif decide (t242<t232)then
 oB (idx t222 t242) fun e2=>
 (if fits (t242+1)then go2 (t222,t232,(t242+1),c5,c6,q13,q14,q15,q16,q17,q18,(mput .str .bool b3 e2.1 true))else none)
 else
 J (c5,c6,q13,q14,q15,q16,q17,q18,b3)) N (r4,(r4.length:Int),0,c,c2,q,q2,q3,q4,q5,q6,b))
 else
 J (c,c2,q,q2,q3,q4,q5,q6,b)
def jT4 (N D:Nat):Model:=⟨⟨[.agg [.pv (.sl .str),.pv Y2],.agg [pI,pS,.pv (.sl .str),pI,pI,.pv (.sl .q)],.box 1000900002 0],[(1000900002,false,[.pv (.sl (.pair .str .bool))])]⟩,⟨[.tup []],[(1000900002,false,[.pv (.sl (.pair .str .bool))])]⟩,c9A (jTJ N D)⟩
theorem jVd (N D:Nat) (ih:mK 29 (jT4 N D)):mK 29 (jT4 N (D+1)):=
 mO (fC ih (fC (jBE N) (fC (jgO N) ja))) func29 rfl N (.seq .no (.meet jVw (.seq .no (.cond (.seq .no (.block (.loop jVl .no))) .no)) (.seq .no (.block (.loop jV4 .no))))) (jT4 N (D+1)) (rs:=[1000900002])
theorem jUV (N:Nat):∀D,mK 29 (jT4 N D)
 |0=>modelOk_none ⟨_,func29,by decide,by kernel_rfl⟩ _ (fun a=>rfl)
 |D+1=>jVd N D (jUV N D)
def jl0 :Sh:=⟨.pv (.int .u64):: .dead::pI::dz 22 [],[]⟩
def k_math_bits_Len64_m (N:Nat) (b:Int):Z14:=
 (meet (fun(a:Int×Int)=>match a with|(c,f)=>meet (fun(a:Int×Int)=>match a with|(e,d)=>meet (fun(a:Int×Int)=>match a with|(m,j)=>oB (idx ([0,1,2,2,3,3,3,3,4,4,4,4,4,4,4,4,5,5,5,5,5,5,5,5,5,5,5,5,5,5,5,5,6,6,6,6,6,6,6,6,6,6,6,6,6,6,6,6,6,6,6,6,6,6,6,6,6,6,6,6,6,6,6,6,7,7,7,7,7,7,7,7,7,7,7,7,7,7,7,7,7,7,7,7,7,7,7,7,7,7,7,7,7,7,7,7,7,7,7,7,7,7,7,7,7,7,7,7,7,7,7,7,7,7,7,7,7,7,7,7,7,7,7,7,7,7,7,7,8,8,8,8,8,8,8,8,8,8,8,8,8,8,8,8,8,8,8,8,8,8,8,8,8,8,8,8,8,8,8,8,8,8,8,8,8,8,8,8,8,8,8,8,8,8,8,8,8,8,8,8,8,8,8,8,8,8,8,8,8,8,8,8,8,8,8,8,8,8,8,8,8,8,8,8,8,8,8,8,8,8,8,8,8,8,8,8,8,8,8,8,8,8,8,8,8,8,8,8,8,8,8,8,8,8,8,8,8,8,8,8,8,8,8,8,8,8,8,8,8,8,8,8,8,8,8,8]:List UInt8) (IntKind.u8.wrap m)) fun i=>if fits (j+(IntKind.i64.wrap (i.toNat:Int)))then some (j+(IntKind.i64.wrap (i.toNat:Int)))else none) fun k=>bif decide ((256:Int)<=e)then if 0<=(8:Int)then if fits (d+8)then k ((e.fdiv (2^(min (8:Int).toNat (IntKind.bits .u64)))),(d+8))else none else none else k (e,d)) fun h=>bif decide ((65536:Int)<=c)then if 0<=(16:Int)then if fits (f+16)then h ((c.fdiv (2^(min (16:Int).toNat (IntKind.bits .u64)))),(f+16))else none else none else h (c,f)) fun l=>bif decide ((4294967296:Int)<=b)then if 0<=(32:Int)then l ((b.fdiv (2^(min (32:Int).toNat (IntKind.bits .u64)))),32)else none else l (b,0))
theorem jrK :mK 97 (bX [.pv (.int .u64)] [pI] (c1A (k_math_bits_Len64_m N))):=
 mO ja func97 rfl N (.seq .no (.meet jl0 .no (.meet jl0 .no (.meet jl0 .no .no)))) _
def k_math_bits_Len_m (a:Int):Z14:=
 (oB (k_math_bits_Len64_m N a) fun b=>some b)
theorem jda :mK 76 (bX [.pv (.int .u64)] [pI] (c1A (k_math_bits_Len_m N))):=
 mO (fC (jrK N) ja) func76 rfl N .no _
def jbn (N:Nat) (a:List UInt8):Z4:=
 (some (!decide (a=a)))
theorem jkt :mK 108 (bX [pS] [pB] (c1A (jbn N))):=
 mO ja func108 rfl N .no _
def k_cmp_Less_571_m (a:List UInt8) (b:List UInt8):Z4:=
 (oB (jbn N a) fun c=>bif c then oB (jbn N b) fun d=>(bif !d then some true else some (Op.bytesLess a b))else some (Op.bytesLess a b))
theorem jTG :mK 93 (bX [pS,pS] [pB] (c2A (k_cmp_Less_571_m N))):=
 mO (fC (jkt N) ja) func93 rfl N .no _
def jVG :Sh:=⟨.mtk 800000 .str 9 true::pI::pI::dz 3 (pI::dz 42 []),[]⟩
def jU9 :Sh:=⟨.mtk 800000 .str 9 true::pI::pI::dz 3 (pI::pI::dz 41 []),[]⟩
def jUB (v:List Z0) (j:Int) (u:Int):Z11:=
 (if fits (j+1)then iter (fun l (m,q,k,h)=>bif decide (h<k)then iter (fun r (b,d,i,c,a)=>bif decide (d<a)then if 0<=a/\a<(b.length:Int)then oB (b[a.toNat]?) fun p=>(if fits (a-1)then if 0<=(a-1)/\(a-1)<(b.length:Int)then oB (b[(a-1).toNat]?) fun t=>(oB (k_cmp_Less_571_m N p t) fun n=>bif n then if fits (a-1)then if fits (a-1)then if 0<=(a-1)/\(a-1)<(b.length:Int)then oB (b[(a-1).toNat]?) fun e=>(if 0<=a/\a<(b.length:Int)then oB (b[a.toNat]?) fun o=>(if 0<=a/\a<(b.length:Int)then oB (b[a.toNat]?) fun w=>(if 0<=(a-1)/\(a-1)<((b.set a.toNat e).length:Int)then oB ((b.set a.toNat e)[(a-1).toNat]?) fun x=>(if fits (a-1)then r (((b.set a.toNat e).set (a-1).toNat o),d,i,c,(a-1))else none)else none)else none)else none)else none else none else none else if fits (c+1)then l (b,d,i,(c+1))else none)else none else none)else none else if fits (c+1)then l (b,d,i,(c+1))else none) N (m,q,k,h,h)else some m) N (v,j,u,(j+1))else none)
theorem jV8 :mK 87 (bX [.mtk 800000 .str 9 true,pI,pI] [.tup [],.mtk 800000 .str 9 true] (c3A (jUB N))):=
 mO (fC (jTG N) ja) func87 rfl N (.seq .no (.block (.loop jVG (.seq .no (.seq (.block (.seq .no (.block (.loop jU9 .no)))) .no))))) _ (rs:=[800000])
def jVx :Sh:=⟨.mtk 800000 .str 9 true:: .dead::pI::pI::dz 4 (pI::dz 67 []),[]⟩
def jVF :Sh:=⟨.mtk 800000 .str 9 true:: .dead::pI::pI::dz 4 (pI::pI::dz 66 []),[]⟩
def jUc (y:List Z0) (o:Int) (q:Int) (p:Int):Z11:=
 (iter (fun u (h,i,f,b)=>if fits (2*b)then if fits ((2*b)+1)then bif decide (i<=((2*b)+1))then some h else(meet (fun(j:Z8)=>match j with|(d,v,a,c,e)=>if fits (a+c)then if 0<=(a+c)/\(a+c)<(d.length:Int)then oB (d[(a+c).toNat]?) fun m=>(if fits (a+e)then if 0<=(a+e)/\(a+e)<(d.length:Int)then oB (d[(a+e).toNat]?) fun z=>(oB (k_cmp_Less_571_m N m z) fun r=>bif !r then some d else if fits (a+c)then if fits (a+e)then if fits (a+e)then if 0<=(a+e)/\(a+e)<(d.length:Int)then oB (d[(a+e).toNat]?) fun l=>(if fits (a+c)then if 0<=(a+c)/\(a+c)<(d.length:Int)then oB (d[(a+c).toNat]?) fun w=>(if 0<=(a+c)/\(a+c)<(d.length:Int)then oB (d[(a+c).toNat]?) fun B=>(if 0<=(a+e)/\(a+e)<((d.set (a+c).toNat l).length:Int)then oB ((d.set (a+c).toNat l)[(a+e).toNat]?) fun A=>(u (((d.set (a+c).toNat l).set (a+e).toNat w),v,a,e))else none)else none)else none else none)else none else none else none else none)else none else none)else none else none) fun k=>if fits (((2*b)+1)+1)then bif decide ((((2*b)+1)+1)<i)then if fits (f+((2*b)+1))then if 0<=(f+((2*b)+1))/\(f+((2*b)+1))<(h.length:Int)then oB (h[(f+((2*b)+1)).toNat]?) fun t=>(if fits (f+((2*b)+1))then if fits ((f+((2*b)+1))+1)then if 0<=((f+((2*b)+1))+1)/\((f+((2*b)+1))+1)<(h.length:Int)then oB (h[((f+((2*b)+1))+1).toNat]?) fun x=>(oB (k_cmp_Less_571_m N t x) fun n=>bif n then if fits (((2*b)+1)+1)then k (h,i,f,b,(((2*b)+1)+1))else none else k (h,i,f,b,((2*b)+1)))else none else none else none)else none else none else(k (h,i,f,b,((2*b)+1)))else none)else none else none) N (y,q,p,o))
theorem jVW :mK 103 (bX [.mtk 800000 .str 9 true,pI,pI,pI] [.tup [],.mtk 800000 .str 9 true] (c4A (jUc N))):=
 mO (fC (jTG N) ja) func103 rfl N (.seq .no (.block (.loop jVx (.block (.seq .no (.seq .no (.meet jVF .no .no))))))) _ (rs:=[800000])
end Go.Proofs.YtbjikaianmpngaaGreatDoor
