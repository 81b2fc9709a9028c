import Derived.Test.YtibcadmdkehmhaaGreatSE
set_option linter.unusedVariables false
set_option linter.unusedSimpArgs false
namespace Go.Proofs.YtibcadmdkehmhaaGreat
open Go.RowKit Go.Proofs.Tryz
variable (N : Nat)
open Option renaming bind -> oB
set_option maxRecDepth 1000000
abbrev Z0 :Type:=Int×(List ((List UInt8)×(List UInt8)))×(List ((List UInt8)×Int))
abbrev Z1 :Type:=(List UInt8)×(List UInt8)×(List (Int×(List Int)))
abbrev Z2 :Type:=List UInt8
abbrev Z3 :Type:=((List Z0)×(List Z1))×(List Int)
abbrev Z4 :Type:=(List Z2)×Z2
abbrev Z5 :Type:=Int×(List Int)
abbrev Z7 :Type:=List (Z2×Int)
abbrev Z8 :Type:=Option (Bool)
abbrev Z9 :Type:=List (Z2×Int)
abbrev Z10 :Type:=Z2×Int×Int×Int
abbrev Z11 :Type:=Option (Int)
abbrev Z12 :Type:=List (Z2×Z2)
abbrev Z13 :Type:=List (Z2×Z2)
abbrev Z14 :Type:=(List Int)×Int×Int×Int×Int
abbrev Z15 :Type:=Option ((List Z0))
abbrev Z17 :Type:=Option ((List Int))
abbrev Z18 :Type:=Option ((List Z2)×(List Z4)×(List Z3))
abbrev Z20 :Type:=Option ((List Z0)×(List Z1))
abbrev bX (a r:List VS) (f:HD (Sh.codes ⟨a,[]⟩)->Option (HD (Sh.codes ⟨r,[]⟩))):Model:=⟨⟨a,[]⟩,⟨r,[]⟩,f⟩
abbrev mK :=ModelOk Tryz.prog
theorem mO {l:List (Nat×Model)} (hl:jR Tryz.prog l) {f:FuncId} {fn:Func} {c:Code} (hf:Tryz.prog.funcs[f]? =some fn) (hbody:fn.body=some c) (N:Nat) (h:Hint) (m:Model) (wr rs dw:List Nat:=[])
  (hname:(fn.name== "runtime.NumGoroutine")=false:=by kernel_rfl) (hres:m.arg.names.all (jbC l wr rs dw).res=true:=by kernel_rfl) (hlen:Nat.ble m.arg.vals.length fn.ntmps=true:=by kernel_rfl)
  (hrun:∀a,m.run a=runF N (jbC l wr rs dw) okDraw fn c h m.arg m.ret a:=by intro a;kernel_rfl):ModelOk Tryz.prog f m:=modelOk_of (E:=jbC l wr rs dw) (jtQ hl wr rs dw) hf hname hbody N h m hres hlen hrun
theorem fC {k:Nat} {m:Model} {l:List (Nat×Model)} (h:ModelOk Tryz.prog k m) (hl:jR Tryz.prog l):jR Tryz.prog ((k,m)::l):=jsH h hl
abbrev pI :VS:=.pv (.int .i64)
abbrev pS :VS:=.pv .str
abbrev pB :VS:=.pv .bool
abbrev tI :Tp:=.int .i64
abbrev c1A {Y ρ:Type} (f:Y->ρ) (a:Y):ρ:=f a
abbrev c2A {α0 α1 ρ:Type} (f:α0->α1->ρ) (a:α0×α1):ρ:=f a.1 a.2
abbrev c3A {α0 α1 α2 ρ:Type} (f:α0->α1->α2->ρ) (a:α0×α1×α2):ρ:=f a.1 a.2.1 a.2.2
abbrev c4A {α0 α1 α2 α3 ρ:Type} (f:α0->α1->α2->α3->ρ) (a:α0×α1×α2×α3):ρ:=f a.1 a.2.1 a.2.2.1 a.2.2.2
abbrev c5A {α0 α1 α2 α3 α4 ρ:Type} (f:α0->α1->α2->α3->α4->ρ) (a:α0×α1×α2×α3×α4):ρ:=f a.1 a.2.1 a.2.2.1 a.2.2.2.1 a.2.2.2.2
abbrev c6A {α0 α1 α2 α3 α4 α5 ρ:Type} (f:α0->α1->α2->α3->α4->α5->ρ) (a:α0×α1×α2×α3×α4×α5):ρ:=f a.1 a.2.1 a.2.2.1 a.2.2.2.1 a.2.2.2.2.1 a.2.2.2.2.2
abbrev c7A {α0 α1 α2 α3 α4 α5 α6 ρ:Type} (f:α0->α1->α2->α3->α4->α5->α6->ρ) (a:α0×α1×α2×α3×α4×α5×α6):ρ:=f a.1 a.2.1 a.2.2.1 a.2.2.2.1 a.2.2.2.2.1 a.2.2.2.2.2.1 a.2.2.2.2.2.2
def dz :Nat->List VS->List VS
 |0,l=>l
 |n+1,l=>.dead::dz n l
abbrev Y19 :Tp:=.sl tI
abbrev Y18 :Tp:=.pair .str .str
abbrev Y17 :Tp:=.sl (.pair .str .str)
abbrev Y16 :Tp:=.pair (.sl .str) .str
abbrev Y15 :Tp:=.pair .str tI
abbrev Y14 :Tp:=.sl (.pair (.sl .str) .str)
abbrev Y13 :Tp:=.sl (.pair .str tI)
abbrev Y12 :Tp:=.pair tI (.sl tI)
abbrev Y11 :Tp:=.sl (.pair tI (.sl tI))
abbrev Y7 :Tp:=.pair .str (.pair tI (.pair tI tI))
abbrev Y6 :Tp:=.pair .str (.pair .str (.sl (.pair tI (.sl tI))))
abbrev Y5 :Tp:=.sl (.pair .str (.pair .str (.sl (.pair tI (.sl tI)))))
abbrev Y4 :Tp:=.pair tI (.pair (.sl (.pair .str .str)) (.sl (.pair .str tI)))
abbrev Y3 :Tp:=.sl (.pair tI (.pair (.sl (.pair .str .str)) (.sl (.pair .str tI))))
abbrev Y2 :Tp:=.pair (.sl (.pair tI (.pair (.sl (.pair .str .str)) (.sl (.pair .str tI))))) (.sl (.pair .str (.pair .str (.sl (.pair tI (.sl tI))))))
abbrev Y1 :Tp:=.pair (.pair (.sl (.pair tI (.pair (.sl (.pair .str .str)) (.sl (.pair .str tI))))) (.sl (.pair .str (.pair .str (.sl (.pair tI (.sl tI))))))) (.sl tI)
abbrev Y0 :Tp:=.sl (.pair (.pair (.sl (.pair tI (.pair (.sl (.pair .str .str)) (.sl (.pair .str tI))))) (.sl (.pair .str (.pair .str (.sl (.pair tI (.sl tI))))))) (.sl tI))
def jso :Sh:=⟨.pv (.sl .str)::pI::dz 3 (pI::dz 22 []),[]⟩
def jbK (c:List Z2) (d:Int):Z11:=
 (if fits (d-(c.length:Int))then bif decide ((d-(c.length:Int))<0)then some (-1)else(iter (fun h (f,a,b)=>bif decide (b<(f.length:Int))then oB (idx f b) fun e=>(if fits (a-(e.length:Int))then bif decide ((a-(e.length:Int))<0)then some (-1)else(if fits (b+1)then h (f,(a-(e.length:Int)),(b+1))else none)else none)else some a) N (c,(d-(c.length:Int)),(0:Int)))else none)
theorem jjn :mK 49 (bX [.pv (.sl .str),pI] [pI] (c2A (jbK N))):=
 mO ja func49 rfl N (.seq .no (.seq .no (.seq .no (.seq (.seq .no (.block (.loop jso .no))) .no)))) _
def jbp (d:List Z2) (b:List UInt8) (c:Int):Z11:=
 (oB (jbK N d c) fun a=>bif decide (a<0)then some (-1)else if fits (a-(b.length:Int))then bif decide ((a-(b.length:Int))<0)then some (-1)else(some (a-(b.length:Int)))else none)
theorem jsV :mK 106 (bX [.agg [.pv (.sl .str),pS],pI] [pI] (c3A (jbp N))):=
 mO (fC (jjn N) ja) func106 rfl N .no _
def jki :Sh:=⟨.pv Y14::pI::dz 3 (pI::dz 21 []),[]⟩
def jc6 (b:List Z4) (c:Int):Z11:=
 (if fits (c-(b.length:Int))then bif decide ((c-(b.length:Int))<0)then some (-1)else(iter (fun i (d,f,a)=>bif decide (a<(d.length:Int))then oB (idx d a) fun h=>(oB (jbp N h.1 h.2 f) fun e=>bif decide (e<0)then some (-1)else if fits (a+1)then i (d,e,(a+1))else none)else some f) N (b,(c-(b.length:Int)),(0:Int)))else none)
theorem jkX :mK 50 (bX [.pv Y14,pI] [pI] (c2A (jc6 N))):=
 mO (fC (jsV N) ja) func50 rfl N (.seq .no (.seq .no (.seq .no (.seq (.seq .no (.block (.loop jki .no))) .no)))) _
def jbD (d:List Z2) (e:List Z4) (c:Int):Z11:=
 (oB (jbK N d c) fun a=>bif decide (a<0)then some (-1)else oB (jc6 N e a) fun b=>bif decide (b<0)then some (-1)else some b)
theorem jm8 :mK 18 (bX [.agg [.pv (.sl .str),.pv Y14],pI] [pI] (c3A (jbD N))):=
 mO (fC (jjn N) (fC (jkX N) ja)) func18 rfl N .no _
def jaN (N:Nat) (b:List UInt8) (c:List UInt8) (a:Int):Z11:=
 (if fits (a-(b.length:Int))then bif decide ((a-(b.length:Int))<0)then some (-1)else(if fits ((a-(b.length:Int))-(c.length:Int))then bif decide (((a-(b.length:Int))-(c.length:Int))<0)then some (-1)else(some ((a-(b.length:Int))-(c.length:Int)))else none)else none)
theorem jpy :mK 147 (bX [.agg [pS,pS],pI] [pI] (c3A (jaN N))):=
 mO ja func147 rfl N .no _
def jms :Sh:=⟨.pv Y17::pI::dz 3 (pI::dz 21 []),[]⟩
def jdb (b:Z12) (c:Int):Z11:=
 (if fits (c-(b.length:Int))then bif decide ((c-(b.length:Int))<0)then some (-1)else(iter (fun i (d,f,a)=>bif decide (a<(d.length:Int))then oB (idx d a) fun h=>(oB (jaN N h.1 h.2 f) fun e=>bif decide (e<0)then some (-1)else if fits (a+1)then i (d,e,(a+1))else none)else some f) N (b,(c-(b.length:Int)),(0:Int)))else none)
theorem jns :mK 94 (bX [.pv Y17,pI] [pI] (c2A (jdb N))):=
 mO (fC (jpy N) ja) func94 rfl N (.seq .no (.seq .no (.seq .no (.seq (.seq .no (.block (.loop jms .no))) .no)))) _
def jaT (N:Nat) (b:List UInt8) (c:Int) (a:Int):Z11:=
 (if fits (a-(b.length:Int))then bif decide ((a-(b.length:Int))<0)then some (-1)else(some (a-(b.length:Int)))else none)
theorem joe :mK 148 (bX [.agg [pS,pI],pI] [pI] (c3A (jaT N))):=
 mO ja func148 rfl N .no _
def jkA :Sh:=⟨.pv Y13::pI::dz 3 (pI::dz 21 []),[]⟩
def jdV (b:Z7) (c:Int):Z11:=
 (if fits (c-(b.length:Int))then bif decide ((c-(b.length:Int))<0)then some (-1)else(iter (fun i (d,f,a)=>bif decide (a<(d.length:Int))then oB (idx d a) fun h=>(oB (jaT N h.1 h.2 f) fun e=>bif decide (e<0)then some (-1)else if fits (a+1)then i (d,e,(a+1))else none)else some f) N (b,(c-(b.length:Int)),(0:Int)))else none)
theorem jn5 :mK 95 (bX [.pv Y13,pI] [pI] (c2A (jdV N))):=
 mO (fC (joe N) ja) func95 rfl N (.seq .no (.seq .no (.seq .no (.seq (.seq .no (.block (.loop jkA .no))) .no)))) _
def jbq (f:Int) (d:Z12) (e:Z7) (c:Int):Z11:=
 (oB (jdb N d c) fun a=>bif decide (a<0)then some (-1)else oB (jdV N e a) fun b=>bif decide (b<0)then some (-1)else some b)
theorem jnC :mK 38 (bX [.agg [pI,.pv Y17,.pv Y13],pI] [pI] (c4A (jbq N))):=
 mO (fC (jns N) (fC (jn5 N) ja)) func38 rfl N .no _
def jqA :Sh:=⟨.pv Y3::pI::dz 3 (pI::dz 21 []),[]⟩
def jdo (b:List Z0) (c:Int):Z11:=
 (if fits (c-(b.length:Int))then bif decide ((c-(b.length:Int))<0)then some (-1)else(iter (fun i (e,h,a)=>bif decide (a<(e.length:Int))then oB (idx e a) fun d=>(oB (jbq N d.1 d.2.1 d.2.2 h) fun f=>bif decide (f<0)then some (-1)else if fits (a+1)then i (e,f,(a+1))else none)else some h) N (b,(c-(b.length:Int)),(0:Int)))else none)
theorem jsn :mK 12 (bX [.pv Y3,pI] [pI] (c2A (jdo N))):=
 mO (fC (jnC N) ja) func12 rfl N (.seq .no (.seq .no (.seq .no (.seq (.seq .no (.block (.loop jqA .no))) .no)))) _
def jeb (N:Nat) (b:List Int) (a:Int):Z11:=
 (if fits (a-(b.length:Int))then bif decide ((a-(b.length:Int))<0)then some (-1)else(some (a-(b.length:Int)))else none)
theorem jm4 :mK 108 (bX [.pv Y19,pI] [pI] (c2A (jeb N))):=
 mO ja func108 rfl N .no _
def jbb (d:Int) (c:List Int) (b:Int):Z11:=
 (oB (jeb N c b) fun a=>bif decide (a<0)then some (-1)else some a)
theorem jsZ :mK 224 (bX [.agg [pI,.pv Y19],pI] [pI] (c3A (jbb N))):=
 mO (fC (jm4 N) ja) func224 rfl N .no _
def joP :Sh:=⟨.pv Y11::pI::dz 3 (pI::dz 21 []),[]⟩
def jdz (b:List Z5) (c:Int):Z11:=
 (if fits (c-(b.length:Int))then bif decide ((c-(b.length:Int))<0)then some (-1)else(iter (fun i (d,f,a)=>bif decide (a<(d.length:Int))then oB (idx d a) fun h=>(oB (jbb N h.1 h.2 f) fun e=>bif decide (e<0)then some (-1)else if fits (a+1)then i (d,e,(a+1))else none)else some f) N (b,(c-(b.length:Int)),(0:Int)))else none)
theorem jnZ :mK 217 (bX [.pv Y11,pI] [pI] (c2A (jdz N))):=
 mO (fC (jsZ N) ja) func217 rfl N (.seq .no (.seq .no (.seq .no (.seq (.seq .no (.block (.loop joP .no))) .no)))) _
def jbj (b:List UInt8) (c:List UInt8) (e:List Z5) (a:Int):Z11:=
 (if fits (a-(b.length:Int))then bif decide ((a-(b.length:Int))<0)then some (-1)else(if fits ((a-(b.length:Int))-(c.length:Int))then bif decide (((a-(b.length:Int))-(c.length:Int))<0)then some (-1)else(oB (jdz N e ((a-(b.length:Int))-(c.length:Int))) fun d=>bif decide (d<0)then some (-1)else some d)else none)else none)
theorem joB :mK 197 (bX [.agg [pS,pS,.pv Y11],pI] [pI] (c4A (jbj N))):=
 mO (fC (jnZ N) ja) func197 rfl N .no _
def jtA :Sh:=⟨.pv Y5::pI::dz 3 (pI::dz 21 []),[]⟩
def jej (b:List Z1) (c:Int):Z11:=
 (if fits (c-(b.length:Int))then bif decide ((c-(b.length:Int))<0)then some (-1)else(iter (fun i (e,h,a)=>bif decide (a<(e.length:Int))then oB (idx e a) fun d=>(oB (jbj N d.1 d.2.1 d.2.2 h) fun f=>bif decide (f<0)then some (-1)else if fits (a+1)then i (e,f,(a+1))else none)else some h) N (b,(c-(b.length:Int)),(0:Int)))else none)
theorem jrU :mK 156 (bX [.pv Y5,pI] [pI] (c2A (jej N))):=
 mO (fC (joB N) ja) func156 rfl N (.seq .no (.seq .no (.seq .no (.seq (.seq .no (.block (.loop jtA .no))) .no)))) _
def jbR (d:List Z0) (e:List Z1) (c:Int):Z11:=
 (oB (jdo N d c) fun a=>bif decide (a<0)then some (-1)else oB (jej N e a) fun b=>bif decide (b<0)then some (-1)else some b)
theorem jpO :mK 107 (bX [.agg [.pv Y3,.pv Y5],pI] [pI] (c3A (jbR N))):=
 mO (fC (jsn N) (fC (jrU N) ja)) func107 rfl N .no _
def jJQ (d:List Z0) (e:List Z1) (f:List Int) (c:Int):Z11:=
 (oB (jbR N d e c) fun a=>bif decide (a<0)then some (-1)else oB (jeb N f a) fun b=>bif decide (b<0)then some (-1)else some b)
theorem jJg :mK 51 (bX [.agg [.pv Y3,.pv Y5,.pv Y19],pI] [pI] (c4A (jJQ N))):=
 mO (fC (jpO N) (fC (jm4 N) ja)) func51 rfl N .no _
def jJf :Sh:=⟨.pv Y0::pI::dz 3 (pI::dz 21 []),[]⟩
def jKm (b:List Z3) (c:Int):Z11:=
 (if fits (c-(b.length:Int))then bif decide ((c-(b.length:Int))<0)then some (-1)else(iter (fun i (e,h,a)=>bif decide (a<(e.length:Int))then oB (idx e a) fun d=>(oB (jJQ N d.1.1 d.1.2 d.2 h) fun f=>bif decide (f<0)then some (-1)else if fits (a+1)then i (e,f,(a+1))else none)else some h) N (b,(c-(b.length:Int)),(0:Int)))else none)
theorem jJA :mK 19 (bX [.pv Y0,pI] [pI] (c2A (jKm N))):=
 mO (fC (jJg N) ja) func19 rfl N (.seq .no (.seq .no (.seq .no (.seq (.seq .no (.block (.loop jJf .no))) .no)))) _
def jJ5 (d:List Z2) (e:List Z4) (f:List Z3) (c:Int):Z11:=
 (oB (jbD N d e c) fun a=>bif decide (a<0)then some (-1)else oB (jKm N f a) fun b=>bif decide (b<0)then some (-1)else some b)
theorem jIX :mK 5 (bX [.agg [.pv (.sl .str),.pv Y14,.pv Y0],pI] [pI] (c4A (jJ5 N))):=
 mO (fC (jm8 N) (fC (jJA N) ja)) func5 rfl N .no _
def jqD :Sh:=⟨.pv (.sl .str):: .dead:: .dead:: .mtk 600003 .str 9 true::pI::dz 17 [],[]⟩
def jci (b:List Z2):Option ((List Z2)):=
 (if(b.length:Int)=(b.length:Int)/\0<=(b.length:Int)/\(b.length:Int)*16<=140737488355328/\(b.length:Int)<=140737488355328 then iter (fun e (d,c,a)=>bif decide (a<(d.length:Int))then oB (idx d a) fun f=>(if 0<=a/\a<(c.length:Int)then oB (c[a.toNat]?) fun i=>(if fits (a+1)then e (d,(c.set a.toNat f),(a+1))else none)else none)else some c) N (b,(List.replicate (b.length:Int).toNat ([]:List UInt8)),(0:Int))else none)
theorem jiJ :mK 64 (bX [.pv (.sl .str)] [.own 1 .str 9 true] (c1A (jci N))):=
 mO ja func64 rfl N (.seq .no (.seq .no (.seq (.seq .no (.block (.loop jqD .no))) .no))) _ (wr:=[7])
def ja0 (b:List Z2) (c:List UInt8):Option Z4:=
 (oB (jci N b) fun a=>some (a,c))
theorem jr7 :mK 119 (bX [.agg [.pv (.sl .str),pS]] [.agg [.own 1 .str 9 true,pS]] (c2A (ja0 N))):=
 mO (fC (jiJ N) ja) func119 rfl N .no _ (dw:=[6])
def jos :Sh:=⟨.pv Y14:: .dead:: .dead:: .tre 600003 Y16 156::pI::dz 18 [],[]⟩
def jeh (b:List Z4):Option ((List Z4)):=
 (if(b.length:Int)=(b.length:Int)/\0<=(b.length:Int)/\(b.length:Int)*40<=140737488355328/\(b.length:Int)<=140737488355328 then iter (fun h (d,c,a)=>bif decide (a<(d.length:Int))then oB (idx d a) fun e=>(oB (ja0 N e.1 e.2) fun f=>if 0<=a/\a<(c.length:Int)then oB (c[a.toNat]?) fun j=>(if fits (a+1)then h (d,(c.set a.toNat f),(a+1))else none)else none)else some c) N (b,(List.replicate (b.length:Int).toNat (([]:List Z2),([]:List UInt8))),(0:Int))else none)
theorem jqR :mK 65 (bX [.pv Y14] [.own 1 Y16 156 true] (c1A (jeh N))):=
 mO (fC (jr7 N) ja) func65 rfl N (.seq .no (.seq .no (.seq (.seq .no (.block (.loop jos .no))) .no))) _ (wr:=[7]) (dw:=[20])
def jad (b:List Z2) (c:List Z4):Option ((List Z2)×(List Z4)):=
 (oB (jci N b) fun a=>oB (jeh N c) fun d=>some (a,d))
theorem jtJ :mK 25 (bX [.agg [.pv (.sl .str),.pv Y14]] [.agg [.own 1 .str 9 true,.own 2 Y16 156 true]] (c2A (jad N))):=
 mO (fC (jiJ N) (fC (jqR N) ja)) func25 rfl N .no _ (dw:=[6,10])
def jaW (N:Nat) (b:List UInt8) (a:List UInt8):Option (Z2×Z2):=
 (some (b,a))
theorem jlT :mK 150 (bX [.agg [pS,pS]] [.agg [pS,pS]] (c2A (jaW N))):=
 mO ja func150 rfl N .no _
def jp2 :Sh:=⟨.pv Y17:: .dead:: .dead:: .mtk 600003 Y18 116 true::pI::dz 18 [],[]⟩
def jdS (b:Z12):Option (Z13):=
 (if(b.length:Int)=(b.length:Int)/\0<=(b.length:Int)/\(b.length:Int)*32<=140737488355328/\(b.length:Int)<=140737488355328 then iter (fun h (d,c,a)=>bif decide (a<(d.length:Int))then oB (idx d a) fun e=>(oB (jaW N e.1 e.2) fun f=>if 0<=a/\a<(c.length:Int)then oB (c[a.toNat]?) fun j=>(if fits (a+1)then h (d,(c.set a.toNat f),(a+1))else none)else none)else some c) N (b,(List.replicate (b.length:Int).toNat (([]:List UInt8),([]:List UInt8))),(0:Int))else none)
theorem jmr :mK 98 (bX [.pv Y17] [.own 1 Y18 116 true] (c1A (jdS N))):=
 mO (fC (jlT N) ja) func98 rfl N (.seq .no (.seq .no (.seq (.seq .no (.block (.loop jp2 .no))) .no))) _ (wr:=[7]) (dw:=[20])
def jaX (N:Nat) (b:List UInt8) (a:Int):Option (Z2×Int):=
 (some (b,a))
theorem jnE :mK 151 (bX [.agg [pS,pI]] [.agg [pS,pI]] (c2A (jaX N))):=
 mO ja func151 rfl N .no _
def jpn :Sh:=⟨.pv Y13:: .dead:: .dead:: .mtk 600003 Y15 149 true::pI::dz 18 [],[]⟩
def jd3 (b:Z7):Option (Z9):=
 (if(b.length:Int)=(b.length:Int)/\0<=(b.length:Int)/\(b.length:Int)*24<=140737488355328/\(b.length:Int)<=140737488355328 then iter (fun h (d,c,a)=>bif decide (a<(d.length:Int))then oB (idx d a) fun e=>(oB (jaX N e.1 e.2) fun f=>if 0<=a/\a<(c.length:Int)then oB (c[a.toNat]?) fun j=>(if fits (a+1)then h (d,(c.set a.toNat f),(a+1))else none)else none)else some c) N (b,(List.replicate (b.length:Int).toNat (([]:List UInt8),0)),(0:Int))else none)
theorem jqJ :mK 99 (bX [.pv Y13] [.own 1 Y15 149 true] (c1A (jd3 N))):=
 mO (fC (jnE N) ja) func99 rfl N (.seq .no (.seq .no (.seq (.seq .no (.block (.loop jpn .no))) .no))) _ (wr:=[7]) (dw:=[20])
def jbv (b:Int) (c:Z12) (d:Z7):Option Z0:=
 (oB (jdS N c) fun a=>oB (jd3 N d) fun e=>some (b,a,e))
theorem jsM :mK 42 (bX [.agg [pI,.pv Y17,.pv Y13]] [.agg [pI,.own 1 Y18 116 true,.own 2 Y15 149 true]] (c3A (jbv N))):=
 mO (fC (jmr N) (fC (jqJ N) ja)) func42 rfl N .no _ (dw:=[9,13])
def jmB :Sh:=⟨.pv Y3:: .dead:: .dead:: .tre 600003 Y4 79::pI::dz 18 [],[]⟩
def jdO (b:List Z0):Z15:=
 (if(b.length:Int)=(b.length:Int)/\0<=(b.length:Int)/\(b.length:Int)*56<=140737488355328/\(b.length:Int)<=140737488355328 then iter (fun h (e,c,a)=>bif decide (a<(e.length:Int))then oB (idx e a) fun d=>(oB (jbv N d.1 d.2.1 d.2.2) fun f=>if 0<=a/\a<(c.length:Int)then oB (c[a.toNat]?) fun j=>(if fits (a+1)then h (e,(c.set a.toNat f),(a+1))else none)else none)else some c) N (b,(List.replicate (b.length:Int).toNat (0,([]:Z12),([]:Z7))),(0:Int))else none)
theorem jsQ :mK 14 (bX [.pv Y3] [.own 1 Y4 79 true] (c1A (jdO N))):=
 mO (fC (jsM N) ja) func14 rfl N (.seq .no (.seq .no (.seq (.seq .no (.block (.loop jmB .no))) .no))) _ (wr:=[7]) (dw:=[20])
def jng :Sh:=⟨.pv Y19:: .dead:: .dead:: .mtk 600003 tI 3 true::pI::dz 17 [],[]⟩
def jek (b:List Int):Z17:=
 (if(b.length:Int)=(b.length:Int)/\0<=(b.length:Int)/\(b.length:Int)*8<=140737488355328/\(b.length:Int)<=140737488355328 then iter (fun e (d,c,a)=>bif decide (a<(d.length:Int))then oB (idx d a) fun f=>(if 0<=a/\a<(c.length:Int)then oB (c[a.toNat]?) fun i=>(if fits (a+1)then e (d,(c.set a.toNat f),(a+1))else none)else none)else some c) N (b,(List.replicate (b.length:Int).toNat 0),(0:Int))else none)
theorem jqI :mK 121 (bX [.pv Y19] [.own 1 tI 3 true] (c1A (jek N))):=
 mO ja func121 rfl N (.seq .no (.seq .no (.seq (.seq .no (.block (.loop jng .no))) .no))) _ (wr:=[7])
def jbr (b:Int) (c:List Int):Option Z5:=
 (oB (jek N c) fun a=>some (b,a))
theorem jks :mK 225 (bX [.agg [pI,.pv Y19]] [.agg [pI,.own 1 tI 3 true]] (c2A (jbr N))):=
 mO (fC (jqI N) ja) func225 rfl N .no _ (dw:=[9])
def joy :Sh:=⟨.pv Y11:: .dead:: .dead:: .tre 600003 Y12 164::pI::dz 18 [],[]⟩
def jdx (b:List Z5):Option ((List Z5)):=
 (if(b.length:Int)=(b.length:Int)/\0<=(b.length:Int)/\(b.length:Int)*32<=140737488355328/\(b.length:Int)<=140737488355328 then iter (fun h (d,c,a)=>bif decide (a<(d.length:Int))then oB (idx d a) fun e=>(oB (jbr N e.1 e.2) fun f=>if 0<=a/\a<(c.length:Int)then oB (c[a.toNat]?) fun j=>(if fits (a+1)then h (d,(c.set a.toNat f),(a+1))else none)else none)else some c) N (b,(List.replicate (b.length:Int).toNat (0,([]:List Int))),(0:Int))else none)
theorem jpe :mK 218 (bX [.pv Y11] [.own 1 Y12 164 true] (c1A (jdx N))):=
 mO (fC (jks N) ja) func218 rfl N (.seq .no (.seq .no (.seq (.seq .no (.block (.loop joy .no))) .no))) _ (wr:=[7]) (dw:=[20])
def jaM (b:List UInt8) (c:List UInt8) (d:List Z5):Option Z1:=
 (oB (jdx N d) fun a=>some (b,c,a))
theorem jnB :mK 201 (bX [.agg [pS,pS,.pv Y11]] [.agg [pS,pS,.own 1 Y12 164 true]] (c3A (jaM N))):=
 mO (fC (jpe N) ja) func201 rfl N .no _ (dw:=[12])
def jk2 :Sh:=⟨.pv Y5:: .dead:: .dead:: .tre 600003 Y6 106::pI::dz 18 [],[]⟩
def jd4 (b:List Z1):Option ((List Z1)):=
 (if(b.length:Int)=(b.length:Int)/\0<=(b.length:Int)/\(b.length:Int)*56<=140737488355328/\(b.length:Int)<=140737488355328 then iter (fun h (e,c,a)=>bif decide (a<(e.length:Int))then oB (idx e a) fun d=>(oB (jaM N d.1 d.2.1 d.2.2) fun f=>if 0<=a/\a<(c.length:Int)then oB (c[a.toNat]?) fun j=>(if fits (a+1)then h (e,(c.set a.toNat f),(a+1))else none)else none)else some c) N (b,(List.replicate (b.length:Int).toNat (([]:List UInt8),([]:List UInt8),([]:List Z5))),(0:Int))else none)
theorem jsC :mK 162 (bX [.pv Y5] [.own 1 Y6 106 true] (c1A (jd4 N))):=
 mO (fC (jnB N) ja) func162 rfl N (.seq .no (.seq .no (.seq (.seq .no (.block (.loop jk2 .no))) .no))) _ (wr:=[7]) (dw:=[20])
def jZ (b:List Z0) (c:List Z1):Z20:=
 (oB (jdO N b) fun a=>oB (jd4 N c) fun d=>some (a,d))
theorem jqs :mK 120 (bX [.agg [.pv Y3,.pv Y5]] [.agg [.own 1 Y4 79 true,.own 2 Y6 106 true]] (c2A (jZ N))):=
 mO (fC (jsQ N) (fC (jsC N) ja)) func120 rfl N .no _ (dw:=[6,10])
def jJS (b:List Z0) (c:List Z1) (d:List Int):Option ((List Z0)×(List Z1)×(List Int)):=
 (oB (jZ N b c) fun a=>oB (jek N d) fun e=>some (a.1,a.2,e))
theorem jI5 :mK 66 (bX [.agg [.pv Y3,.pv Y5,.pv Y19]] [.agg [.own 1 Y4 79 true,.own 2 Y6 106 true,.own 3 tI 3 true]] (c3A (jJS N))):=
 mO (fC (jqs N) (fC (jqI N) ja)) func66 rfl N .no _ (dw:=[6,10])
def jIN :Sh:=⟨.pv Y0:: .dead:: .dead:: .tre 600003 Y1 62::pI::dz 18 [],[]⟩
def jKe (b:List Z3):Option ((List Z3)):=
 (if(b.length:Int)=(b.length:Int)/\0<=(b.length:Int)/\(b.length:Int)*72<=140737488355328/\(b.length:Int)<=140737488355328 then iter (fun h (f,c,a)=>bif decide (a<(f.length:Int))then oB (idx f a) fun e=>(oB (jJS N e.1.1 e.1.2 e.2) fun d=>if 0<=a/\a<(c.length:Int)then oB (c[a.toNat]?) fun j=>(if fits (a+1)then h (f,(c.set a.toNat ((d.1,d.2.1),d.2.2)),(a+1))else none)else none)else some c) N (b,(List.replicate (b.length:Int).toNat ((([]:List Z0),([]:List Z1)),([]:List Int))),(0:Int))else none)
theorem jJj :mK 26 (bX [.pv Y0] [.own 1 Y1 62 true] (c1A (jKe N))):=
 mO (fC (jI5 N) ja) func26 rfl N (.seq .no (.seq .no (.seq (.seq .no (.block (.loop jIN .no))) .no))) _ (wr:=[7]) (dw:=[20])
def jJM (b:List Z2) (c:List Z4) (d:List Z3):Z18:=
 (oB (jad N b c) fun a=>oB (jKe N d) fun e=>some (a.1,a.2,e))
theorem jJt :mK 7 (bX [.agg [.pv (.sl .str),.pv Y14,.pv Y0]] [.agg [.own 1 .str 9 true,.own 2 Y16 156 true,.own 3 Y1 62 true]] (c3A (jJM N))):=
 mO (fC (jtJ N) (fC (jJj N) ja)) func7 rfl N .no _ (dw:=[6,10])
def jt (N:Nat) (a:Int):Z11:=
 (bif decide ((65:Int)<=a)then bif decide (a<=90)then some (IntKind.u8.wrap (a+32))else(bif decide ((97:Int)<=a)then bif decide (a<=122)then some a else(bif decide ((48:Int)<=a)then bif decide (a<=57)then some a else(some 0)else some 0)else bif decide ((48:Int)<=a)then bif decide (a<=57)then some a else(some 0)else some 0)else bif decide ((97:Int)<=a)then bif decide (a<=122)then some a else(bif decide ((48:Int)<=a)then bif decide (a<=57)then some a else(some 0)else some 0)else bif decide ((48:Int)<=a)then bif decide (a<=57)then some a else(some 0)else some 0)
theorem jfG :mK 158 (bX [.pv (.int .u8)] [.pv (.int .u8)] (c1A (jt N))):=
 mO ja func158 rfl N .no _
def jJ (N:Nat) (a:Int) (b:Int) (c:Int):Z8:=
 (bif decide (b<=a)then some (decide (a<=c))else some false)
theorem jcL :mK 21 (bX [pI,pI,pI] [pB] (c3A (jJ N))):=
 mO ja func21 rfl N .no _
def jr5 :Sh:=⟨pS:: .dead:: .dead::pI::dz 23 [],[]⟩
def jT (k:List UInt8):Z8:=
 (iter (fun e (b,a)=>bif decide (a<(b.length:Int))then oB (idx b a) fun f=>(oB (jt N (f.toNat:Int)) fun c=>oB (idx b a) fun d=>bif !decide (c=(d.toNat:Int))then some false else oB (idx b a) fun i=>bif decide ((i.toNat:Int)=0)then some false else if fits (a+1)then e (b,(a+1))else none)else oB (jJ N (b.length:Int) 1 12) fun h=>some h) N (k,(0:Int)))
theorem jgp :mK 110 (bX [pS] [pB] (c1A (jT N))):=
 mO (fC (jfG N) (fC (jcL N) ja)) func110 rfl N (.seq .no (.seq (.seq .no (.block (.loop jr5 .no))) .no)) _
def jdI (N:Nat):Option ((List Z2)):=
 (some ([([105,110,103]:List UInt8),([101,100]:List UInt8),([101,115]:List UInt8),([108,121]:List UInt8),([115]:List UInt8)]:List Z2))
theorem jkj :mK 198 ⟨⟨[],[]⟩,⟨[.own 1 .str 9 true],[]⟩,fun a=>jdI N⟩:=
 mO ja func198 rfl N .no _
def jl2 :Sh:=⟨pS:: .dead:: .dead::pI::dz 30 [],[]⟩
def ja6 (k:List UInt8):Option (Z2):=
 (iter (fun d (a,b)=>oB (jdI N) fun e=>bif decide (b<(e.length:Int))then oB (jdI N) fun f=>(oB (idx f b) fun c=>if fits ((a.length:Int)-(c.length:Int))then bif decide ((3:Int)<=((a.length:Int)-(c.length:Int)))then oB (cut a ((a.length:Int)-(c.length:Int)) (a.length:Int)) fun h=>(bif decide (h=c)then oB (cut a 0 ((a.length:Int)-(c.length:Int))) fun i=>(some i)else if fits (b+1)then d (a,(b+1))else none)else(if fits (b+1)then d (a,(b+1))else none)else none)else some a) N (k,(0:Int)))
theorem jtL :mK 159 (bX [pS] [pS] (c1A (ja6 N))):=
 mO (fC (jkj N) ja) func159 rfl N (.seq .no (.seq (.seq .no (.block (.loop jl2 .no))) .no)) _
def jto :Sh:=⟨pS::dz 9 [],[]⟩
def jaq (e:List UInt8):Option (Z2):=
 (iter (fun b (c:Z2)=>let s2:=c;(oB (ja6 N s2) fun a=>bif !decide (a=s2)then oB (ja6 N s2) fun d=>(b d)else some s2)) N e)
theorem jfZ :mK 111 (bX [pS] [pS] (c1A (jaq N))):=
 mO (fC (jtL N) ja) func111 rfl N (.seq .no (.seq (.block (.loop jto .no)) .no)) _
def jlY :Sh:=⟨.pv (.sl .str)::pS::dz 3 (pI::dz 12 []),[]⟩
def jap (d:List Z2) (i:List UInt8):Z8:=
 (iter (fun e (b,c,a)=>bif decide (a<(b.length:Int))then oB (idx b a) fun f=>(bif decide (f=c)then some true else if fits (a+1)then e (b,c,(a+1))else none)else some false) N (d,i,(0:Int)))
theorem jhP :mK 112 (bX [.pv (.sl .str),pS] [pB] (c2A (jap N))):=
 mO ja func112 rfl N (.seq .no (.seq (.seq .no (.block (.loop jlY .no))) .no)) _
def jrs :Sh:=⟨.dead:: .box 1 0:: .dead::pI::dz 114 [],[(1,false,[.pv (.sl .str),.pv Y14])]⟩
def js0 :Sh:=⟨.dead:: .box 1 0:: .dead:: .dead::pI::dz 113 [],[(1,false,[.pv (.sl .str),.pv Y14])]⟩
def jrc :Sh:=⟨.dead:: .box 1 0:: .dead:: .dead::pI:: .box 5 0::pI::dz 111 [],[(1,false,[.pv (.sl .str),.pv Y14]),(5,false,[.pv (.sl .str),pS])]⟩
def jcw (w:List Z2) (v:List Z4):Z8:=
 (iter (fun m (a,d,k)=>bif decide (a<(d.length:Int))then oB (idx d a) fun y=>(oB (jT N y) fun t=>bif !t then some false else bif decide ((0:Int)<a)then oB (idx d a) fun n=>(if fits (a-1)then oB (idx d (a-1)) fun o=>(bif Op.bytesLess n o||decide (n=o)then some false else if fits (a+1)then m ((a+1),d,k)else none)else none)else if fits (a+1)then m ((a+1),d,k)else none)else iter (fun G (i,p,h)=>bif decide (i<(h.length:Int))then oB (idx h i) fun r=>(iter (fun I (l,b,j,q,c,f)=>bif decide (b<(c.length:Int))then oB (idx c b) fun A=>(oB (jT N A) fun x=>bif !x then some false else oB (idx c b) fun z=>oB (jaq N z) fun C=>oB (idx c b) fun E=>bif !decide (C=E)then some false else oB (idx c b) fun H=>oB (jap N j H) fun u=>bif u then some false else if fits (b+1)then I (l,(b+1),j,q,c,f)else none)else oB (jJ N (c.length:Int) 1 3) fun B=>bif !B then some false else oB (jT N f) fun K=>bif !K then some false else oB (jaq N f) fun D=>bif !decide (D=f)then some false else if fits (l+1)then G ((l+1),j,q)else none) N (i,(0:Int),p,h,r.1,r.2))else bif decide ((p.length:Int)<=6)then some (decide ((h.length:Int)<=4))else some false) N ((0:Int),d,k)) N ((0:Int),w,v))
theorem jtf :mK 55 (bX [.agg [.pv (.sl .str),.pv Y14]] [pB] (c2A (jcw N))):=
 mO (fC (jgp N) (fC (jfZ N) (fC (jhP N) (fC (jcL N) ja)))) func55 rfl N (.seq .no (.seq (.seq .no (.block (.loop jrs .no))) (.seq (.seq .no (.block (.loop js0 (.seq .no (.seq (.block (.seq .no (.seq (.seq .no (.block (.loop jrc .no))) .no))) .no))))) .no))) _
def jot :Sh:=⟨pS:: .dead:: .dead::pI::dz 19 [],[]⟩
def jcu (h:List UInt8):Z8:=
 (iter (fun d (b,a)=>bif decide (a<(b.length:Int))then oB (idx b a) fun e=>(bif decide ((e.toNat:Int)<32)then some false else oB (idx b a) fun c=>bif decide ((126:Int)<(c.toNat:Int))then some false else if fits (a+1)then d (b,(a+1))else none)else some (decide ((b.length:Int)<=160))) N (h,(0:Int)))
theorem jpZ :mK 149 (bX [pS] [pB] (c1A (jcu N))):=
 mO ja func149 rfl N (.seq .no (.seq (.seq .no (.block (.loop jot .no))) .no)) _
def jp0 :Sh:=⟨.dead:: .box 1 0:: .dead::pI::dz 100 [],[(1,false,[pI,.pv Y17,.pv Y13])]⟩
def jtP :Sh:=⟨.dead:: .box 1 0::dz 3 (pI::dz 98 []),[(1,false,[pI,.pv Y17,.pv Y13])]⟩
def jcb (w:Int) (z:Z12) (t:Z7):Z8:=
 (iter (fun l (b,f,d,k)=>bif decide (b<(d.length:Int))then oB (idx d b) fun e=>(oB (jT N e.1) fun q=>bif !q then some false else oB (jcu N e.2) fun u=>bif !u then some false else bif decide ((0:Int)<b)then if fits (b-1)then oB (idx d (b-1)) fun m=>(bif Op.bytesLess e.1 m.1||decide (e.1=m.1)then some false else if fits (b+1)then l ((b+1),f,d,k)else none)else none else if fits (b+1)then l ((b+1),f,d,k)else none)else iter (fun p (a,i,h,c)=>bif decide (a<(c.length:Int))then oB (idx c a) fun v=>(oB (jT N v.1) fun y=>bif !y then some false else oB (idx c a) fun B=>oB (jJ N B.2 0 999999999) fun r=>bif !r then some false else bif decide ((0:Int)<a)then oB (idx c a) fun o=>(if fits (a-1)then oB (idx c (a-1)) fun n=>(bif Op.bytesLess o.1 n.1||decide (o.1=n.1)then some false else if fits (a+1)then p ((a+1),i,h,c)else none)else none)else if fits (a+1)then p ((a+1),i,h,c)else none)else oB (jJ N i 1 9999) fun x=>bif x then oB (jJ N (h.length:Int) 0 3) fun A=>(bif A then some (decide ((c.length:Int)<=3))else some false)else some false) N ((0:Int),f,d,k)) N ((0:Int),w,z,t))
theorem jpD :mK 96 (bX [.agg [pI,.pv Y17,.pv Y13]] [pB] (c3A (jcb N))):=
 mO (fC (jgp N) (fC (jpZ N) (fC (jcL N) ja))) func96 rfl N (.seq .no (.seq (.seq .no (.block (.loop jp0 .no))) (.seq (.seq .no (.block (.loop jtP .no))) .no))) _
def jkS :Sh:=⟨.pv Y3:: .dead:: .dead::pI::dz 33 [],[]⟩
def jbU (f:List Z0):Z8:=
 (iter (fun d (b,a)=>bif decide (a<(b.length:Int))then oB (idx b a) fun c=>(oB (jcb N c.1 c.2.1 c.2.2) fun e=>bif !e then some false else bif decide ((0:Int)<a)then oB (idx b a) fun h=>(if fits (a-1)then oB (idx b (a-1)) fun i=>(bif decide (h.1<=i.1)then some false else if fits (a+1)then d (b,(a+1))else none)else none)else if fits (a+1)then d (b,(a+1))else none)else some (decide ((b.length:Int)<=16))) N (f,(0:Int)))
theorem jpx :mK 39 (bX [.pv Y3] [pB] (c1A (jbU N))):=
 mO (fC (jpD N) ja) func39 rfl N (.seq .no (.seq (.seq .no (.block (.loop jkS .no))) .no)) _
def jl5 :Sh:=⟨.pv (.sl .str)::pS::dz 3 (pI::dz 42 []),[]⟩
def s_l7Put_m (r:List Z2) (q:List UInt8):Option ((List Z2)):=
 (iter (fun m (a,c,b)=>bif decide (b<(a.length:Int))then oB (idx a b) fun o=>(bif Op.bytesLess o c then if fits (b+1)then m (a,c,(b+1))else none else bif decide (b<(a.length:Int))then oB (idx a b) fun n=>(bif decide (n=c)then some a else oB (cut a 0 b) fun d=>if room ([]:List Z2).length d.length 16 then if room (([]:List Z2)++d).length ([c]:List Z2).length 16 then oB (cut a b (a.length:Int)) fun j=>(if room ((([]:List Z2)++d)++([c]:List Z2)).length j.length 16 then some (((([]:List Z2)++d)++([c]:List Z2))++j)else none)else none else none)else oB (cut a 0 b) fun f=>if room ([]:List Z2).length f.length 16 then if room (([]:List Z2)++f).length ([c]:List Z2).length 16 then oB (cut a b (a.length:Int)) fun l=>(if room ((([]:List Z2)++f)++([c]:List Z2)).length l.length 16 then some (((([]:List Z2)++f)++([c]:List Z2))++l)else none)else none else none)else bif decide (b<(a.length:Int))then oB (idx a b) fun p=>(bif decide (p=c)then some a else oB (cut a 0 b) fun e=>if room ([]:List Z2).length e.length 16 then if room (([]:List Z2)++e).length ([c]:List Z2).length 16 then oB (cut a b (a.length:Int)) fun i=>(if room ((([]:List Z2)++e)++([c]:List Z2)).length i.length 16 then some (((([]:List Z2)++e)++([c]:List Z2))++i)else none)else none else none)else oB (cut a 0 b) fun h=>if room ([]:List Z2).length h.length 16 then if room (([]:List Z2)++h).length ([c]:List Z2).length 16 then oB (cut a b (a.length:Int)) fun k=>(if room ((([]:List Z2)++h)++([c]:List Z2)).length k.length 16 then some (((([]:List Z2)++h)++([c]:List Z2))++k)else none)else none else none) N (r,q,(0:Int)))
theorem jgt :mK 115 (bX [.pv (.sl .str),pS] [.pv (.sl .str)] (c2A (s_l7Put_m N))):=
 mO ja func115 rfl N (.seq .no (.seq .no (.seq (.block (.loop jl5 .no)) .no))) _
def joT :Sh:=⟨.pv Y3:: .dead:: .dead:: .pv (.sl .str)::pI::dz 30 [],[]⟩
def jkn :Sh:=⟨.pv Y3:: .dead:: .dead:: .pv (.sl .str)::pI::pI::dz 29 [],[]⟩
def s_l7Names_m (p:List Z0):Option ((List Z2)):=
 (iter (fun l (i,f,e)=>bif decide (e<(i.length:Int))then iter (fun m (c,h,a,b)=>oB (idx c a) fun n=>bif decide (b<(n.2.1.length:Int))then oB (idx c a) fun k=>(oB (idx k.2.1 b) fun o=>oB (s_l7Put_m N h o.1) fun j=>if fits (b+1)then m (c,j,a,(b+1))else none)else if fits (a+1)then l (c,h,(a+1))else none) N (i,f,e,(0:Int))else some f) N (p,([]:List Z2),(0:Int)))
theorem jlz :mK 60 (bX [.pv Y3] [.pv (.sl .str)] (c1A (s_l7Names_m N))):=
 mO (fC (jgt N) ja) func60 rfl N (.seq .no (.seq .no (.seq (.seq .no (.block (.loop joT (.seq .no (.seq (.block (.seq .no (.block (.loop jkn .no)))) .no))))) .no))) _
def jl8 :Sh:=⟨.dead::pS:: .box 2 0:: .dead:: .dead::pI::dz 21 [],[(2,false,[pI,.pv Y17,.pv Y13])]⟩
def s_l6Field_m (m:Int) (k:Z12) (i:Z7) (f:List UInt8):Option (Z2):=
 (iter (fun d (c,a,j,b,n)=>bif decide (a<(b.length:Int))then oB (idx b a) fun l=>(bif decide (l.1=c)then oB (idx b a) fun e=>(some e.2)else if fits (a+1)then d (c,(a+1),j,b,n)else none)else some ([]:List UInt8)) N (f,(0:Int),m,k,i))
theorem jhA :mK 117 (bX [.agg [pI,.pv Y17,.pv Y13],pS] [pS] (c4A (s_l6Field_m N))):=
 mO ja func117 rfl N (.seq .no (.seq (.seq .no (.block (.loop jl8 .no))) .no)) _
def jo3 :Sh:=⟨pS:: .dead:: .dead:: .own 600003 Y7 174 true::pI::dz 50 [],[]⟩
def jm6 :Sh:=⟨pS:: .dead:: .dead:: .own 600003 Y7 174 true::pI:: .own 600005 (.int .u8) 5 true::pI::dz 48 [],[]⟩
def jtK :Sh:=⟨pS:: .dead:: .dead:: .own 600003 Y7 174 true::pI:: .pv (.sl (.int .u8))::pI::dz 48 [],[]⟩
def jb3 (E:List UInt8):Option ((List Z10)):=
 (iter (fun l (u,w,n)=>bif decide (n<(u.length:Int))then iter (fun G (c,i,a,b,j)=>bif decide (a<(c.length:Int))then oB (idx c a) fun B=>(oB (jt N (B.toNat:Int)) fun z=>bif !decide (z=0)then oB (idx c a) fun A=>(oB (jt N (A.toNat:Int)) fun r=>if room b.length ([r]:List Int).length 1 then if fits (a+1)then G (c,i,(a+1),(b++([r]:List Int)),j)else none else none)else meet (fun(d:Z2×(List Z10)×Int×(List Int)×Int)=>match d with|(q,k,f,o,y)=>bif decide ((0:Int)<o.length)then if room k.length ([((bytesOf o),(k.length:Int),y,f)]:List Z10).length 40 then if fits (f+1)then l (q,(k++([((bytesOf o),(k.length:Int),y,f)]:List Z10)),(f+1))else none else none else if fits (f+1)then l (q,k,(f+1))else none) fun p=>bif decide ((12:Int)<b.length)then oB (cut b 0 12) fun C=>(p (c,i,a,C,j))else p (c,i,a,b,j))else meet (fun(d:Z2×(List Z10)×Int×(List Int)×Int)=>match d with|(t,h,e,m,x)=>bif decide ((0:Int)<m.length)then if room h.length ([((bytesOf m),(h.length:Int),x,e)]:List Z10).length 40 then if fits (e+1)then l (t,(h++([((bytesOf m),(h.length:Int),x,e)]:List Z10)),(e+1))else none else none else if fits (e+1)then l (t,h,(e+1))else none) fun v=>bif decide ((12:Int)<b.length)then oB (cut b 0 12) fun D=>(v (c,i,a,D,j))else v (c,i,a,b,j)) N (u,w,n,([]:List Int),n)else some w) N (E,([]:List Z10),(0:Int)))
theorem jsr :mK 199 (bX [pS] [.own 1 Y7 174 true] (c1A (jb3 N))):=
 mO (fC (jfG N) ja) func199 rfl N (.seq .no (.seq .no (.seq (.seq .no (.block (.loop jo3 (.seq .no (.seq (.block (.seq .no (.seq .no (.seq (.block (.loop jm6 .no)) (.meet jtK .no .no))))) .no))))) .no))) _
def jmf :Sh:=⟨.dead:: .dead:: .box 2 0:: .dead:: .dead:: .own 600005 Y15 120 true:: .own 600006 Y7 174 true::pI::dz 43 [],[(2,false,[.pv (.sl .str),.pv Y14])]⟩
def jbY (n:List Z2) (l:List Z4) (p:List UInt8):Option (Z9):=
 (oB (jb3 N p) fun j=>iter (fun e (d,b,a,c,h)=>bif decide (a<(b.length:Int))then oB (idx b a) fun o=>(oB (jaq N o.1) fun f=>oB (idx b a) fun m=>oB (jap N c m.1) fun q=>bif !q then oB (jap N c f) fun k=>(bif !k then oB (idx b a) fun i=>(if room d.length ([(f,i.2.1)]:Z7).length 24 then if fits (a+1)then e ((d++([(f,i.2.1)]:Z7)),b,(a+1),c,h)else none else none)else if fits (a+1)then e (d,b,(a+1),c,h)else none)else if fits (a+1)then e (d,b,(a+1),c,h)else none)else some d) N (([]:Z7),j,(0:Int),n,l))
theorem jrk :mK 160 (bX [.agg [.pv (.sl .str),.pv Y14],pS] [.own 1 Y15 120 true] (c3A (jbY N))):=
 mO (fC (jsr N) (fC (jfZ N) (fC (jhP N) ja))) func160 rfl N (.seq .no (.seq .no (.seq .no (.seq (.seq .no (.block (.loop jmf .no))) .no)))) _
def jrL :Sh:=⟨.pv Y13:: .pv (.sl .str)::dz 3 (pI::dz 36 []),[]⟩
def jcC (e:Z7) (i:List Z2):Z8:=
 (iter (fun h (b,c,a)=>bif decide (a<(c.length:Int))then bif decide ((b.length:Int)<=a)then some false else(oB (idx b a) fun j=>oB (idx c a) fun f=>bif !decide (j.1=f)then some false else oB (idx b a) fun k=>oB (idx b 0) fun d=>if fits (d.2+a)then bif !decide (k.2=(d.2+a))then some false else(if fits (a+1)then h (b,c,(a+1))else none)else none)else some true) N (e,i,(0:Int)))
theorem jtg :mK 200 (bX [.pv Y13,.pv (.sl .str)] [pB] (c2A (jcC N))):=
 mO ja func200 rfl N (.seq .no (.seq (.seq .no (.block (.loop jrL .no))) .no)) _
def jlL :Sh:=⟨.dead:: .pv Y13:: .box 2 0:: .dead:: .dead::pI::pI::dz 38 [],[(2,false,[.pv (.sl .str),.pv Y14])]⟩
def jcJ (l:List Z2) (j:List Z4) (i:Z7):Z11:=
 (iter (fun e (d,c,a,f,b)=>bif decide (a<(b.length:Int))then oB (idx b a) fun m=>(oB (jcC N d m.1) fun h=>bif h then bif decide (c<0)then if fits (a+1)then e (d,a,(a+1),f,b)else none else(oB (idx b a) fun k=>oB (idx b c) fun n=>bif decide ((n.1.length:Int)<(k.1.length:Int))then if fits (a+1)then e (d,a,(a+1),f,b)else none else if fits (a+1)then e (d,c,(a+1),f,b)else none)else if fits (a+1)then e (d,c,(a+1),f,b)else none)else some c) N (i,((-1):Int),(0:Int),l,j))
theorem jqp :mK 161 (bX [.agg [.pv (.sl .str),.pv Y14],.pv Y13] [pI] (c3A (jcJ N))):=
 mO (fC (jtg N) ja) func161 rfl N (.seq .no (.seq .no (.seq (.seq .no (.block (.loop jlL .no))) .no))) _
def jnK :Sh:=⟨.dead:: .dead:: .box 2 0:: .dead:: .dead:: .own 600005 Y15 120 true:: .pv Y13::dz 45 [],[(2,false,[.pv (.sl .str),.pv Y14])]⟩
def ja5 (j:List Z2) (f:List Z4) (p:List UInt8):Option (Z9):=
 (oB (jbY N j f p) fun m=>iter (fun h (c,a,e,b)=>bif decide ((0:Int)<a.length)then oB (jcJ N e b a) fun d=>(bif decide (d<0)then oB (idx a 0) fun k=>(if room c.length ([k]:Z7).length 24 then oB (cut a 1 (a.length:Int)) fun n=>(h ((c++([k]:Z7)),n,e,b))else none)else oB (idx b d) fun i=>oB (idx a 0) fun l=>if room c.length ([(i.2,l.2)]:Z7).length 24 then oB (idx b d) fun r=>(oB (cut a (r.1.length:Int) (a.length:Int)) fun o=>h ((c++([(i.2,l.2)]:Z7)),o,e,b))else none)else some c) N (([]:Z7),m,j,f))
theorem jiO :mK 116 (bX [.agg [.pv (.sl .str),.pv Y14],pS] [.own 1 Y15 120 true] (c3A (ja5 N))):=
 mO (fC (jrk N) (fC (jqp N) ja)) func116 rfl N (.seq .no (.seq .no (.seq .no (.seq (.block (.loop jnK .no)) .no)))) _
def jn9 :Sh:=⟨.dead:: .pv Y3::pS:: .box 3 0::dz 3 (.pv (.sl .str)::pI::dz 31 []),[(3,false,[.pv (.sl .str),.pv Y14])]⟩
def jrT :Sh:=⟨.dead:: .pv Y3::pS:: .box 3 0::dz 3 (.pv (.sl .str)::pI:: .own 600009 Y15 120 true::pI::dz 29 []),[(3,false,[.pv (.sl .str),.pv Y14])]⟩
def s_l7Terms_m (w:List Z2) (t:List Z4) (B:List Z0) (x:List UInt8):Option ((List Z2)):=
 (iter (fun v (f,i,n,e,j,m)=>bif decide (e<(f.length:Int))then oB (idx f e) fun c=>(oB (s_l6Field_m N c.1 c.2.1 c.2.2 i) fun r=>oB (ja5 N j m r) fun y=>iter (fun A (o,l,p,b,d,a,k,q)=>bif decide (a<(d.length:Int))then oB (idx d a) fun u=>(oB (s_l7Put_m N p u.1) fun z=>if fits (a+1)then A (o,l,z,b,d,(a+1),k,q)else none)else if fits (b+1)then v (o,l,p,(b+1),k,q)else none) N (f,i,n,e,y,(0:Int),j,m))else some n) N (B,x,([]:List Z2),(0:Int),w,t))
theorem jqQ :mK 61 (bX [.agg [.pv (.sl .str),.pv Y14],.pv Y3,pS] [.pv (.sl .str)] (c4A (s_l7Terms_m N))):=
 mO (fC (jhA N) (fC (jiO N) (fC (jgt N) ja))) func61 rfl N (.seq .no (.seq .no (.seq (.seq .no (.block (.loop jn9 (.seq .no (.seq (.block (.seq .no (.seq .no (.block (.loop jrT .no))))) .no))))) .no))) _
def jnY :Sh:=⟨dz 3 (pS::dz 5 (.own 600009 tI 3 true:: .own 600010 Y15 120 true::pI::dz 28 [])),[]⟩
def s_l7Post_m (j:List Z2) (i:List Z4) (p:Int) (q:Z12) (l:Z7) (k:List UInt8) (n:List UInt8):Z17:=
 (oB (s_l6Field_m N p q l k) fun h=>oB (ja5 N j i h) fun m=>iter (fun f (d,c,b,a)=>bif decide (a<(b.length:Int))then oB (idx b a) fun o=>(bif decide (o.1=d)then oB (idx b a) fun e=>(if room c.length ([e.2]:List Int).length 8 then if fits (a+1)then f (d,(c++([e.2]:List Int)),b,(a+1))else none else none)else if fits (a+1)then f (d,c,b,(a+1))else none)else some c) N (n,([]:List Int),m,(0:Int)))
theorem js6 :mK 118 (bX [.agg [.pv (.sl .str),.pv Y14],.agg [pI,.pv Y17,.pv Y13],pS,pS] [.own 1 tI 3 true] (c7A (s_l7Post_m N))):=
 mO (fC (jhA N) (fC (jiO N) ja)) func118 rfl N (.seq .no (.seq .no (.seq .no (.seq (.seq .no (.block (.loop jnY .no))) .no)))) _
def jkw :Sh:=⟨.dead:: .pv Y3::pS::pS:: .box 4 0::dz 3 (.box 8 0:: .box 9 0::pI::dz 34 []),[(4,false,[.pv (.sl .str),.pv Y14]),(8,false,[pS,pS,.nils]),(9,false,[pS,pS,.own 700902 Y12 164 true])]⟩
def s_l7Entry_m (u:List Z2) (t:List Z4) (v:List Z0) (n:List UInt8) (o:List UInt8):Option Z1:=
 (iter (fun m (b,f,j,a,i,k,p,q,h,e,c)=>bif decide (a<(b.length:Int))then oB (idx b a) fun l=>(oB (s_l7Post_m N i k l.1 l.2.1 l.2.2 f j) fun d=>bif decide ((0:Int)<d.length)then oB (idx b a) fun r=>(if room c.length ([(r.1,d)]:List Z5).length 32 then if fits (a+1)then m (b,f,j,(a+1),i,k,p,q,h,e,(c++([(r.1,d)]:List Z5)))else none else none)else if fits (a+1)then m (b,f,j,(a+1),i,k,p,q,h,e,c)else none)else some (h,e,c)) N (v,n,o,(0:Int),u,t,([]:List UInt8),([]:List UInt8),n,o,([]:List Z5)))
theorem jtr :mK 62 (bX [.agg [.pv (.sl .str),.pv Y14],.pv Y3,pS,pS] [.agg [pS,pS,.own 1 Y12 164 true]] (c5A (s_l7Entry_m N))):=
 mO (fC (js6 N) ja) func62 rfl N (.seq .no (.seq .no (.seq (.seq .no (.block (.loop jkw .no))) .no))) _
def s_l7CopyDoc_m (N:Nat) (c:Int) (a:Z12) (b:Z7):Option Z0:=
 (if room ([]:Z12).length a.length 32 then if room ([]:Z7).length b.length 24 then some (c,(([]:Z12)++a),(([]:Z7)++b))else none else none)
theorem jtC :mK 63 (bX [.agg [pI,.pv Y17,.pv Y13]] [.agg [pI,.own 1 Y18 116 true,.own 2 Y15 149 true]] (c3A (s_l7CopyDoc_m N))):=
 mO ja func63 rfl N .no _
def jn8 :Sh:=⟨.dead:: .pv Y3:: .box 2 0:: .dead:: .box 4 0:: .box 5 0:: .pv (.sl .str)::pI::dz 58 [],[(2,false,[.pv (.sl .str),.pv Y14]),(4,false,[.nils,.nils]),(5,false,[.nils,.own 700501 Y6 106 true])]⟩
def jpr :Sh:=⟨.dead:: .pv Y3:: .box 2 0:: .dead:: .box 4 0:: .box 5 0:: .pv (.sl .str)::pI:: .pv (.sl .str)::pI::dz 56 [],[(2,false,[.pv (.sl .str),.pv Y14]),(4,false,[.nils,.nils]),(5,false,[.nils,.own 700501 Y6 106 true])]⟩
def jn0 :Sh:=⟨.dead:: .pv Y3:: .dead:: .dead:: .box 4 0:: .box 5 0::dz 4 (pI::dz 55 []),[(4,false,[.nils,.nils]),(5,false,[.own 700500 Y4 79 true,.own 700501 Y6 106 true])]⟩
def s_l7Of_m (D:List Z2) (A:List Z4) (y:List Z0):Z20:=
 (oB (s_l7Names_m N y) fun z=>iter (fun B (o,h,m,u,w,v)=>bif decide (m<(h.length:Int))then oB (idx h m) fun G=>(oB (s_l7Terms_m N u w o G) fun E=>iter (fun I (n,e,b,j,c,k,p,l)=>bif decide (c<(j.length:Int))then oB (idx e b) fun C=>(oB (idx j c) fun H=>oB (s_l7Entry_m N k p n C H) fun x=>if room l.length ([x]:List Z1).length 56 then if fits (c+1)then I (n,e,b,j,(c+1),k,p,(l++([x]:List Z1)))else none else none)else if fits (b+1)then B (n,e,(b+1),k,p,l)else none) N (o,h,m,E,(0:Int),u,w,v))else iter (fun K (f,d,i,t)=>bif decide (d<(f.length:Int))then oB (idx f d) fun q=>(oB (s_l7CopyDoc_m N q.1 q.2.1 q.2.2) fun r=>if room i.length ([r]:List Z0).length 56 then if fits (d+1)then K (f,(d+1),(i++([r]:List Z0)),t)else none else none)else some (i,t)) N (o,(0:Int),([]:List Z0),v)) N (y,z,(0:Int),D,A,([]:List Z1)))
theorem jmU :mK 24 (bX [.agg [.pv (.sl .str),.pv Y14],.pv Y3] [.agg [.own 1 Y4 79 true,.own 2 Y6 106 true]] (c3A (s_l7Of_m N))):=
 mO (fC (jlz N) (fC (jqQ N) (fC (jtr N) (fC (jtC N) ja)))) func24 rfl N (.seq .no (.seq .no (.seq .no (.seq (.seq .no (.block (.loop jn8 (.seq .no (.seq (.block (.seq .no (.seq .no (.block (.loop jpr .no))))) .no))))) (.seq (.seq .no (.block (.loop jn0 .no))) .no))))) _
def jnI :Sh:=⟨.pv Y19:: .pv Y19::dz 3 (pI::dz 20 []),[]⟩
def jb1 (c:List Int) (d:List Int):Z8:=
 (bif !decide ((c.length:Int)=(d.length:Int))then some false else iter (fun h (b,e,a)=>bif decide (a<(b.length:Int))then oB (idx b a) fun i=>(oB (idx e a) fun f=>bif !decide (i=f)then some false else if fits (a+1)then h (b,e,(a+1))else none)else some true) N (c,d,(0:Int)))
theorem jlH :mK 157 (bX [.pv Y19,.pv Y19] [pB] (c2A (jb1 N))):=
 mO ja func157 rfl N (.seq .no (.seq .no (.seq (.seq .no (.block (.loop jnI .no))) .no))) _
def jnx :Sh:=⟨.dead:: .dead:: .box 2 0:: .box 3 0:: .dead::pI::dz 57 [],[(2,false,[pS,pS,.pv Y11]),(3,false,[pS,pS,.pv Y11])]⟩
def jbQ (h:List UInt8) (f:List UInt8) (j:List Z5) (d:List UInt8) (e:List UInt8) (i:List Z5):Z8:=
 (bif !decide (h=d)then some false else bif !decide (f=e)then some false else bif !decide ((j.length:Int)=(i.length:Int))then some false else iter (fun n (a,l,r,b,t,o,c)=>bif decide (a<(b.length:Int))then oB (idx b a) fun p=>(oB (idx c a) fun m=>bif !decide (p.1=m.1)then some false else oB (idx b a) fun q=>oB (idx c a) fun v=>oB (jb1 N q.2 v.2) fun k=>bif !k then some false else if fits (a+1)then n ((a+1),l,r,b,t,o,c)else none)else some true) N ((0:Int),h,f,j,d,e,i))
theorem jtG :mK 109 (bX [.agg [pS,pS,.pv Y11],.agg [pS,pS,.pv Y11]] [pB] (c6A (jbQ N))):=
 mO (fC (jlH N) ja) func109 rfl N (.seq .no (.seq .no (.seq (.seq .no (.block (.loop jnx .no))) .no))) _
def jrW :Sh:=⟨dz 3 (.box 3 0:: .dead:: .box 5 0::pI::dz 39 []),[(3,false,[.pv Y3,.pv Y5]),(5,false,[.own 700500 Y4 79 true,.own 700501 Y6 106 true])]⟩
def jcR (i:List Z2) (h:List Z4) (e:List Z0) (k:List Z1):Z8:=
 (oB (jcw N i h) fun l=>bif !l then some false else oB (jbU N e) fun o=>bif !o then some false else oB (s_l7Of_m N i h e) fun f=>bif !decide ((f.2.length:Int)=(k.length:Int))then some false else iter (fun n (a,p,j,q,b)=>bif decide (a<(b.length:Int))then oB (idx b a) fun d=>(oB (idx j a) fun c=>oB (jbQ N d.1 d.2.1 d.2.2 c.1 c.2.1 c.2.2) fun m=>bif !m then some false else if fits (a+1)then n ((a+1),p,j,q,b)else none)else some true) N ((0:Int),e,k,f.1,f.2))
theorem jpm :mK 52 (bX [.agg [.pv (.sl .str),.pv Y14],.agg [.pv Y3,.pv Y5]] [pB] (c4A (jcR N))):=
 mO (fC (jtf N) (fC (jpx N) (fC (jmU N) (fC (jtG N) ja)))) func52 rfl N (.seq .no (.seq .no (.seq .no (.seq .no (.seq (.seq .no (.block (.loop jrW .no))) .no))))) _
def jCI :Sh:=⟨.pv Y19:: .dead:: .dead::pI::dz 31 [],[]⟩
def jx3 (e:List Int):Z8:=
 (iter (fun c (b,a)=>bif decide (a<(b.length:Int))then oB (idx b a) fun h=>(oB (jJ N h 0 999999999) fun d=>bif !d then some false else bif decide ((0:Int)<a)then oB (idx b a) fun f=>(if fits (a-1)then oB (idx b (a-1)) fun i=>(bif decide (f<=i)then some false else if fits (a+1)then c (b,(a+1))else none)else none)else if fits (a+1)then c (b,(a+1))else none)else some (decide ((b.length:Int)<=60))) N (e,(0:Int)))
theorem jC9 :mK 53 (bX [.pv Y19] [pB] (c1A (jx3 N))):=
 mO (fC (jcL N) ja) func53 rfl N (.seq .no (.seq (.seq .no (.block (.loop jCI .no))) .no)) _
def jA0 :Sh:=⟨.dead::pI:: .box 2 0:: .dead:: .box 4 0::pI::dz 21 [],[(2,false,[.pv Y3,.pv Y5]),(4,false,[pI,.nils,.nils])]⟩
def s_l12Doc_m (m:List Z0) (k:List Z1) (l:Int):Option Z0:=
 (iter (fun e (d,a,b,f,h)=>bif decide (a<(b.length:Int))then oB (idx b a) fun i=>(bif decide (i.1=d)then oB (idx b a) fun c=>(some (c.1,c.2.1,c.2.2))else if fits (a+1)then e (d,(a+1),b,f,h)else none)else some (0,([]:Z12),([]:Z7))) N (l,(0:Int),m,k,(0:Int)))
theorem jDn :mK 54 (bX [.agg [.pv Y3,.pv Y5],pI] [.agg [pI,.pv Y17,.pv Y13]] (c3A (s_l12Doc_m N))):=
 mO ja func54 rfl N (.seq .no (.seq (.seq .no (.block (.loop jA0 .no))) .no)) _
def jJe :Sh:=⟨.pv Y19::pI::dz 3 (pI::dz 12 []),[]⟩
def s_l8Has_m (d:List Int) (e:Int):Z8:=
 (iter (fun f (b,c,a)=>bif decide (a<(b.length:Int))then oB (idx b a) fun h=>(bif decide (h=c)then some true else if fits (a+1)then f (b,c,(a+1))else none)else some false) N (d,e,(0:Int)))
theorem jIb :mK 114 (bX [.pv Y19,pI] [pB] (c2A (s_l8Has_m N))):=
 mO ja func114 rfl N (.seq .no (.seq (.seq .no (.block (.loop jJe .no))) .no)) _
def s_l18Dead_m (d:List Z0) (e:List Z1) (b:List Int) (c:Int):Z8:=
 (oB (s_l8Has_m N b c) fun a=>some a)
theorem jIy :mK 58 (bX [.agg [.pv Y3,.pv Y5,.pv Y19],pI] [pB] (c4A (s_l18Dead_m N))):=
 mO (fC (jIb N) ja) func58 rfl N .no _
def jIl :Sh:=⟨.pv Y3:: .dead:: .dead:: .box 3 0:: .dead::pI::dz 32 [],[(3,false,[pI,.pv Y17,.pv Y13])]⟩
def s_l18Put_m (q:List Z0) (p:Int) (r:Z12) (n:Z7):Z15:=
 (iter (fun m (a,b,c,h,j)=>bif decide (b<(a.length:Int))then oB (idx a b) fun o=>(bif decide (o.1<c)then if fits (b+1)then m (a,(b+1),c,h,j)else none else oB (cut a 0 b) fun d=>if room ([]:List Z0).length d.length 56 then oB (s_l7CopyDoc_m N c h j) fun f=>(if room (([]:List Z0)++d).length ([f]:List Z0).length 56 then oB (cut a b (a.length:Int)) fun k=>(if room ((([]:List Z0)++d)++([f]:List Z0)).length k.length 56 then some (((([]:List Z0)++d)++([f]:List Z0))++k)else none)else none)else none)else oB (cut a 0 b) fun e=>if room ([]:List Z0).length e.length 56 then oB (s_l7CopyDoc_m N c h j) fun i=>(if room (([]:List Z0)++e).length ([i]:List Z0).length 56 then oB (cut a b (a.length:Int)) fun l=>(if room ((([]:List Z0)++e)++([i]:List Z0)).length l.length 56 then some (((([]:List Z0)++e)++([i]:List Z0))++l)else none)else none)else none) N (q,(0:Int),p,r,n))
theorem jJy :mK 59 (bX [.pv Y3,.agg [pI,.pv Y17,.pv Y13]] [.own 1 Y4 79 false] (c4A (s_l18Put_m N))):=
 mO (fC (jtC N) ja) func59 rfl N (.seq .no (.seq .no (.seq (.block (.loop jIl .no)) .no))) _
def jI2 :Sh:=⟨.dead:: .box 1 0:: .dead:: .own 600003 Y4 79 false::pI::dz 45 [],[(1,false,[.pv (.sl .str),.pv Y14,.pv Y0])]⟩
def jJx :Sh:=⟨.dead:: .box 1 0:: .dead:: .own 600003 Y4 79 false::pI::pI::dz 44 [],[(1,false,[.pv (.sl .str),.pv Y14,.pv Y0])]⟩
def s_l18Docs_m (w:List Z2) (p:List Z4) (y:List Z3):Z15:=
 (iter (fun r (m,k,x,q,l)=>bif decide (k<(l.length:Int))then iter (fun n (h,a,b,e,f,c)=>oB (idx c a) fun v=>bif decide (b<(v.1.1.length:Int))then oB (idx c a) fun t=>(oB (idx t.1.1 b) fun d=>oB (idx c a) fun j=>oB (s_l18Dead_m N j.1.1 j.1.2 j.2 d.1) fun o=>bif !o then oB (s_l18Put_m N h d.1 d.2.1 d.2.2) fun u=>(if fits (b+1)then n (u,a,(b+1),e,f,c)else none)else if fits (b+1)then n (h,a,(b+1),e,f,c)else none)else if fits (a+1)then r (h,(a+1),e,f,c)else none) N (m,k,(0:Int),x,q,l)else some m) N (([]:List Z0),(0:Int),w,p,y))
theorem jH3 :mK 23 (bX [.agg [.pv (.sl .str),.pv Y14,.pv Y0]] [.own 1 Y4 79 false] (c3A (s_l18Docs_m N))):=
 mO (fC (jIy N) (fC (jJy N) ja)) func23 rfl N (.seq .no (.seq .no (.seq (.seq .no (.block (.loop jI2 (.seq .no (.seq (.block (.seq .no (.block (.loop jJx .no)))) .no))))) .no))) _
def jIz :Sh:=⟨.dead:: .box 1 0:: .dead::pI::dz 67 [],[(1,false,[.pv (.sl .str),.pv Y14,.pv Y0])]⟩
def jJd :Sh:=⟨.dead:: .box 1 0:: .dead::pI:: .box 4 0::pI::dz 22 (pB::dz 9 (pB::dz 32 [])),[(1,false,[.pv (.sl .str),.pv Y14,.pv Y0]),(4,false,[.pv Y3,.pv Y5,.pv Y19])]⟩
def s_l18Ok_m (y:List Z2) (t:List Z4) (D:List Z3):Z8:=
 (iter (fun u (h,e,c,b)=>bif decide (h<(b.length:Int))then oB (idx b h) fun a=>(oB (jcR N e c a.1.1 a.1.2) fun q=>bif !q then some false else oB (jx3 N a.2) fun l=>bif !l then some false else bif decide ((a.1.1.length:Int)<=(a.2.length:Int))then some false else iter (fun B (f,d,x,w,k,p,o,m,n,i)=>bif decide (d<(i.length:Int))then oB (idx i d) fun v=>(oB (s_l12Doc_m N m n v) fun A=>bif decide (A.1=0)then some false else if fits (d+1)then B (f,(d+1),x,w,k,p,o,m,n,i)else none)else if fits (f+1)then u ((f+1),k,p,o)else none) N (h,(0:Int),(!l),(decide ((a.1.1.length:Int)<=(a.2.length:Int))),e,c,b,a.1.1,a.1.2,a.2))else oB (jcw N e c) fun r=>bif r then bif decide ((b.length:Int)<=5)then oB (s_l18Docs_m N e c b) fun z=>(oB (jbU N z) fun C=>some C)else(some false)else some false) N ((0:Int),y,t,D))
theorem jIW :mK 20 (bX [.agg [.pv (.sl .str),.pv Y14,.pv Y0]] [pB] (c3A (s_l18Ok_m N))):=
 mO (fC (jpm N) (fC (jC9 N) (fC (jDn N) (fC (jtf N) (fC (jH3 N) (fC (jpx N) ja)))))) func20 rfl N (.seq .no (.seq (.seq .no (.block (.loop jIz (.seq .no (.seq (.block (.seq .no (.seq .no (.seq .no (.block (.loop jJd .no)))))) .no))))) .no)) _
def jMA :Sh:=⟨.dead:: .box 1 0:: .box 2 0:: .box 3 0::pI::dz 33 [],[(1,false,[.pv (.sl .str),.pv Y14]),(2,false,[.nils,.nils]),(3,false,[.own 700300 .str 9 true,.own 700301 Y16 156 true])]⟩
def s_l18CopyConf_m (c:List Z2) (i:List Z4):Option ((List Z2)×(List Z4)):=
 (if room ([]:List Z2).length c.length 16 then iter (fun j (a,k,b,h,d)=>bif decide (a<(b.length:Int))then oB (idx b a) fun e=>(if room ([]:List Z2).length e.1.length 16 then oB (idx b a) fun f=>(if room d.length ([((([]:List Z2)++e.1),f.2)]:List Z4).length 40 then if fits (a+1)then j ((a+1),k,b,h,(d++([((([]:List Z2)++e.1),f.2)]:List Z4)))else none else none)else none)else some (h,d)) N ((0:Int),c,i,(([]:List Z2)++c),([]:List Z4))else none)
theorem jMp :mK 56 (bX [.agg [.pv (.sl .str),.pv Y14]] [.agg [.own 1 .str 9 true,.own 2 Y16 156 true]] (c2A (s_l18CopyConf_m N))):=
 mO ja func56 rfl N (.seq .no (.seq .no (.seq (.seq .no (.block (.loop jMA .no))) .no))) _
def jMc :Sh:=⟨.pv Y11:: .dead:: .dead:: .own 600003 Y12 164 true::pI::dz 24 [],[]⟩
def s_l7CopyPosts_m (f:List Z5):Option ((List Z5)):=
 (iter (fun h (b,d,a)=>bif decide (a<(b.length:Int))then oB (idx b a) fun e=>(oB (idx b a) fun c=>if room ([]:List Int).length c.2.length 8 then if room d.length ([(e.1,(([]:List Int)++c.2))]:List Z5).length 32 then if fits (a+1)then h (b,(d++([(e.1,(([]:List Int)++c.2))]:List Z5)),(a+1))else none else none else none)else some d) N (f,([]:List Z5),(0:Int)))
theorem jLV :mK 113 (bX [.pv Y11] [.own 1 Y12 164 true] (c1A (s_l7CopyPosts_m N))):=
 mO ja func113 rfl N (.seq .no (.seq .no (.seq (.seq .no (.block (.loop jMc .no))) .no))) _
def jLx :Sh:=⟨.dead:: .box 1 0:: .box 2 0:: .box 3 0::pI::dz 47 [],[(1,false,[.pv Y3,.pv Y5]),(2,false,[.nils,.nils]),(3,false,[.own 700300 Y4 79 true,.nils])]⟩
def jKX :Sh:=⟨.dead:: .box 1 0:: .box 2 0:: .box 3 0:: .dead::pI::dz 46 [],[(1,false,[.pv Y3,.pv Y5]),(2,false,[.nils,.nils]),(3,false,[.own 700300 Y4 79 true,.own 700301 Y6 106 true])]⟩
def s_l18CopySeg_m (r:List Z0) (q:List Z1):Z20:=
 (iter (fun o (d,c,l,h)=>bif decide (d<(c.length:Int))then oB (idx c d) fun f=>(oB (s_l7CopyDoc_m N f.1 f.2.1 f.2.2) fun k=>if room h.length ([k]:List Z0).length 56 then if fits (d+1)then o ((d+1),c,l,(h++([k]:List Z0)))else none else none)else iter (fun t (b,p,e,n,i)=>bif decide (b<(e.length:Int))then oB (idx e b) fun a=>(oB (s_l7CopyPosts_m N a.2.2) fun m=>if room i.length ([(a.1,a.2.1,m)]:List Z1).length 56 then if fits (b+1)then t ((b+1),p,e,n,(i++([(a.1,a.2.1,m)]:List Z1)))else none else none)else some (n,i)) N ((0:Int),c,l,h,([]:List Z1))) N ((0:Int),r,q,([]:List Z0)))
theorem jK3 :mK 57 (bX [.agg [.pv Y3,.pv Y5]] [.agg [.own 1 Y4 79 true,.own 2 Y6 106 true]] (c2A (s_l18CopySeg_m N))):=
 mO (fC (jtC N) (fC (jLV N) ja)) func57 rfl N (.seq .no (.seq .no (.seq (.seq .no (.block (.loop jLx .no))) (.seq (.seq .no (.block (.loop jKX .no))) .no)))) _
def jMK :Sh:=⟨.dead:: .box 1 0:: .box 2 0:: .box 3 0::pI::dz 33 [],[(1,false,[.pv (.sl .str),.pv Y14,.pv Y0]),(2,false,[.nils,.nils,.nils]),(3,false,[.own 700300 .str 9 true,.own 700301 Y16 156 true,.own 700302 Y1 62 true])]⟩
def s_l18Copy_m (f:List Z2) (h:List Z4) (q:List Z3):Z18:=
 (oB (s_l18CopyConf_m N f h) fun e=>iter (fun n (a,o,m,b,i,k,d)=>bif decide (a<(b.length:Int))then oB (idx b a) fun l=>(oB (s_l18CopySeg_m N l.1.1 l.1.2) fun j=>oB (idx b a) fun c=>if room ([]:List Int).length c.2.length 8 then if room d.length ([(j,(([]:List Int)++c.2))]:List Z3).length 72 then if fits (a+1)then n ((a+1),o,m,b,i,k,(d++([(j,(([]:List Int)++c.2))]:List Z3)))else none else none else none)else some (i,k,d)) N ((0:Int),f,h,q,e.1,e.2,([]:List Z3)))
theorem jL0 :mK 22 (bX [.agg [.pv (.sl .str),.pv Y14,.pv Y0]] [.agg [.own 1 .str 9 true,.own 2 Y16 156 true,.own 3 Y1 62 true]] (c3A (s_l18Copy_m N))):=
 mO (fC (jMp N) (fC (jK3 N) ja)) func22 rfl N (.seq .no (.seq .no (.seq (.seq .no (.block (.loop jMK .no))) .no))) _
def jLU :Sh:=⟨.pv Y19::pI::dz 3 (pI::dz 42 []),[]⟩
def s_l8Put_m (r:List Int) (o:Int):Z17:=
 (iter (fun m (a,c,b)=>bif decide (b<(a.length:Int))then oB (idx a b) fun p=>(bif decide (p<c)then if fits (b+1)then m (a,c,(b+1))else none else bif decide (b<(a.length:Int))then oB (idx a b) fun n=>(bif decide (n=c)then some a else oB (cut a 0 b) fun d=>if room ([]:List Int).length d.length 8 then if room (([]:List Int)++d).length ([c]:List Int).length 8 then oB (cut a b (a.length:Int)) fun j=>(if room ((([]:List Int)++d)++([c]:List Int)).length j.length 8 then some (((([]:List Int)++d)++([c]:List Int))++j)else none)else none else none)else oB (cut a 0 b) fun f=>if room ([]:List Int).length f.length 8 then if room (([]:List Int)++f).length ([c]:List Int).length 8 then oB (cut a b (a.length:Int)) fun l=>(if room ((([]:List Int)++f)++([c]:List Int)).length l.length 8 then some (((([]:List Int)++f)++([c]:List Int))++l)else none)else none else none)else bif decide (b<(a.length:Int))then oB (idx a b) fun q=>(bif decide (q=c)then some a else oB (cut a 0 b) fun e=>if room ([]:List Int).length e.length 8 then if room (([]:List Int)++e).length ([c]:List Int).length 8 then oB (cut a b (a.length:Int)) fun i=>(if room ((([]:List Int)++e)++([c]:List Int)).length i.length 8 then some (((([]:List Int)++e)++([c]:List Int))++i)else none)else none else none)else oB (cut a 0 b) fun h=>if room ([]:List Int).length h.length 8 then if room (([]:List Int)++h).length ([c]:List Int).length 8 then oB (cut a b (a.length:Int)) fun k=>(if room ((([]:List Int)++h)++([c]:List Int)).length k.length 8 then some (((([]:List Int)++h)++([c]:List Int))++k)else none)else none else none) N (r,o,(0:Int)))
theorem jLS :mK 97 (bX [.pv Y19,pI] [.pv Y19] (c2A (s_l8Put_m N))):=
 mO ja func97 rfl N (.seq .no (.seq .no (.seq (.block (.loop jLU .no)) .no))) _
def jL4 :Sh:=⟨.dead::pI:: .box 2 0:: .dead:: .box 4 0:: .dead:: .box 6 0::pB::pI::dz 43 [],[(2,false,[.pv (.sl .str),.pv Y14,.pv Y0]),(4,false,[.nils,.nils,.nils]),(6,false,[.pv (.sl .str),.pv Y14,.own 700602 Y1 62 false])]⟩
def jLD :Sh:=⟨.dead::pI:: .box 2 0:: .dead:: .box 4 0:: .dead:: .box 6 0::pB::pI:: .box 9 0::dz 42 [],[(2,false,[.pv (.sl .str),.pv Y14,.pv Y0]),(4,false,[.nils,.nils,.nils]),(6,false,[.pv (.sl .str),.pv Y14,.own 700602 Y1 62 false]),(9,false,[.pv Y3,.pv Y5,.pv Y19])]⟩
def s_l18Gone_m (t:List Z2) (n:List Z4) (I:List Z3) (H:Int):Option ((List Z2)×(List Z4)×(List Z3)×Bool):=
 (iter (fun x (b,k,c,l,j,d,e,f,h)=>bif decide (c<(d.length:Int))then oB (idx d c) fun a=>(meet (fun(m:Int×Bool×Int×(List Z2)×(List Z4)×(List Z3)×(List Z2)×(List Z4)×(List Z3)×(List Z0)×(List Z1)×(List Int))=>match m with|(E,w,o,y,C,A,B,G,q,p,r,u)=>if room q.length ([((p,r),u)]:List Z3).length 72 then if fits (o+1)then x (E,w,(o+1),y,C,A,B,G,(q++([((p,r),u)]:List Z3)))else none else none) fun i=>oB (s_l12Doc_m N a.1.1 a.1.2 b) fun v=>bif !decide (v.1=0)then oB (s_l18Dead_m N a.1.1 a.1.2 a.2 b) fun z=>(bif !z then if room ([]:List Int).length a.2.length 8 then oB (s_l8Put_m N (([]:List Int)++a.2) b) fun D=>(i (b,true,c,l,j,d,e,f,h,a.1.1,a.1.2,D))else none else i (b,k,c,l,j,d,e,f,h,a.1.1,a.1.2,a.2))else i (b,k,c,l,j,d,e,f,h,a.1.1,a.1.2,a.2))else some (e,f,h,k)) N (H,false,(0:Int),t,n,I,t,n,([]:List Z3)))
theorem jLr :mK 40 (bX [.agg [.pv (.sl .str),.pv Y14,.pv Y0],pI] [.tup [.agg [.pv (.sl .str),.pv Y14,.own 1 Y1 62 false],pB]] (c4A (s_l18Gone_m N))):=
 mO (fC (jDn N) (fC (jIy N) (fC (jLS N) ja))) func40 rfl N (.seq .no (.seq .no (.seq .no (.seq (.seq .no (.block (.loop jL4 (.seq .no (.seq (.block (.seq .no (.meet jLD .no .no))) .no))))) .no)))) _
def jL1 :Sh:=⟨.dead:: .box 1 0:: .box 2 0:: .box 3 0::pI::dz 37 [],[(1,false,[.pv (.sl .str),.pv Y14,.pv Y0]),(2,false,[.nils,.nils,.nils]),(3,false,[.pv (.sl .str),.pv Y14,.own 700302 Y1 62 false])]⟩
def s_l18Full_m (f:List Z2) (h:List Z4) (p:List Z3):Z18:=
 (iter (fun j (a,k,i,b,d,e,c)=>bif decide (a<(b.length:Int))then oB (idx b a) fun n=>(oB (idx b a) fun m=>bif decide ((n.2.length:Int)<(m.1.1.length:Int))then oB (idx b a) fun l=>(if room c.length ([l]:List Z3).length 72 then if fits (a+1)then j ((a+1),k,i,b,d,e,(c++([l]:List Z3)))else none else none)else if fits (a+1)then j ((a+1),k,i,b,d,e,c)else none)else some (d,e,c)) N ((0:Int),f,h,p,f,h,([]:List Z3)))
theorem jM5 :mK 41 (bX [.agg [.pv (.sl .str),.pv Y14,.pv Y0]] [.agg [.pv (.sl .str),.pv Y14,.own 1 Y1 62 false]] (c3A (s_l18Full_m N))):=
 mO ja func41 rfl N (.seq .no (.seq .no (.seq (.seq .no (.block (.loop jL1 .no))) .no))) _
def jNS :Sh:=⟨.dead:: .pv Y3:: .box 2 0:: .dead:: .box 4 0:: .dead:: .box 6 0::pI::dz 53 [],[(2,false,[.pv (.sl .str),.pv Y14,.pv Y0]),(4,false,[.nils,.nils,.nils]),(6,false,[.pv (.sl .str),.pv Y14,.own 700602 Y1 62 false])]⟩
def s_IndexAdd_m (c:List Z2) (b:List Z4) (d:List Z3) (k:List Z0):Option ((List Z2)×(List Z4)×(List Z3)×Bool):=
 (oB (s_l18Ok_m N c b d) fun v=>bif !v then some (([]:List Z2),([]:List Z4),([]:List Z3),false)else oB (jbU N k) fun x=>bif !x then oB (s_l18Copy_m N c b d) fun n=>(some (n.1,n.2.1,n.2.2,false))else bif decide ((k.length:Int)=0)then oB (s_l18Copy_m N c b d) fun h=>(some (h.1,h.2.1,h.2.2,false))else oB (s_l18Copy_m N c b d) fun m=>iter (fun w (f,e,o,j,q,r,t,u)=>bif decide (e<(f.length:Int))then oB (idx f e) fun y=>(oB (s_l18Gone_m N r t u y.1) fun p=>if fits (e+1)then w (f,(e+1),o,j,q,p.1,p.2.1,p.2.2.1)else none)else oB (s_l18Full_m N r t u) fun a=>oB (s_l7Of_m N o j f) fun i=>if room a.2.2.length ([(i,([]:List Int))]:List Z3).length 72 then oB (s_l18Ok_m N a.1 a.2.1 (a.2.2++([(i,([]:List Int))]:List Z3))) fun A=>(bif !A then oB (s_l18Copy_m N o j q) fun l=>(some (l.1,l.2.1,l.2.2,false))else some (a.1,a.2.1,(a.2.2++([(i,([]:List Int))]:List Z3)),true))else none) N (k,(0:Int),c,b,d,m.1,m.2.1,m.2.2))
theorem jNM :mK 13 (bX [.agg [.pv (.sl .str),.pv Y14,.pv Y0],.pv Y3] [.tup [.agg [.pv (.sl .str),.pv Y14,.own 1 Y1 62 false],pB]] (c4A (s_IndexAdd_m N))):=
 mO (fC (jIW N) (fC (jpx N) (fC (jL0 N) (fC (jLr N) (fC (jM5 N) (fC (jmU N) ja)))))) func13 rfl N (.seq .no (.seq .no (.seq .no (.seq .no (.seq (.seq .no (.block (.loop jNS .no))) .no))))) _
def jaw (N:Nat) (a:Int):Z8:=
 (bif decide ((97:Int)<=a)then bif decide (a<=122)then some true else(bif decide ((48:Int)<=a)then some (decide (a<=57))else some false)else bif decide ((48:Int)<=a)then some (decide (a<=57))else some false)
theorem jeK :mK 163 (bX [.pv (.int .u8)] [pB] (c1A (jaw N))):=
 mO ja func163 rfl N .no _
def jm (N:Nat) (a:Int) (b:Int) (c:Int):Z8:=
 (bif decide (b<=a)then some (decide (a<=c))else some false)
theorem jY :mK 29 (bX [pI,pI,pI] [pB] (c3A (jm N))):=
 mO ja func29 rfl N .no _
def jqW :Sh:=⟨pS::dz 4 (pI::pI::dz 11 []),[]⟩
def jO (d:List UInt8):Z8:=
 (iter (fun f (b,c,a)=>bif decide (a<c)then oB (idx b a) fun h=>(oB (jaw N (h.toNat:Int)) fun e=>bif !e then some false else if fits (a+1)then f (b,c,(a+1))else none)else oB (jm N (b.length:Int) 1 12) fun i=>some i) N (d,(d.length:Int),(0:Int)))
theorem jcM :mK 123 (bX [pS] [pB] (c1A (jO N))):=
 mO (fC (jeK N) (fC (jY N) ja)) func123 rfl N (.seq .no (.seq (.seq .no (.block (.loop jqW .no))) .no)) _
def jmc :Sh:=⟨.pv (.sl .str)::dz 4 (.pv (.sl .str)::pI::pI::dz 21 []),[]⟩
def jb2 (b:List Z2):Z8:=
 (iter (fun f (d,c,e,a)=>bif decide (a<e)then oB (idx c a) fun h=>(oB (jO N h) fun i=>bif !i then some false else bif decide ((0:Int)<a)then if fits (a-1)then oB (idx d (a-1)) fun j=>(bif !Op.bytesLess j h then some false else if fits (a+1)then f (d,c,e,(a+1))else none)else none else if fits (a+1)then f (d,c,e,(a+1))else none)else some true) N (b,b,(b.length:Int),(0:Int)))
theorem jtw :mK 122 (bX [.pv (.sl .str)] [pB] (c1A (jb2 N))):=
 mO (fC (jcM N) ja) func122 rfl N (.seq .no (.seq (.seq .no (.block (.loop jmc .no))) .no)) _
def jdF (N:Nat) (a:List UInt8) (b:List UInt8):Z8:=
 (bif decide ((b.length:Int)<=(a.length:Int))then if fits ((a.length:Int)-(b.length:Int))then oB (cut a ((a.length:Int)-(b.length:Int)) (a.length:Int)) fun c=>(some (decide (c=b)))else none else some false)
theorem jpU :mK 202 (bX [pS,pS] [pB] (c2A (jdF N))):=
 mO ja func202 rfl N .no _
def jcN (c:List UInt8) (b:List UInt8):Z8:=
 (oB (jdF N c b) fun a=>some a)
theorem jsu :mK 164 (bX [pS,pS] [pB] (c2A (jcN N))):=
 mO (fC (jpU N) ja) func164 rfl N .no _
def jod :Sh:=⟨pS:: .dead:: .dead::pB::dz 32 [],[]⟩
def jnf :Sh:=⟨pS:: .dead:: .dead::pB::dz 6 (.own 600010 .str 9 true::pI::pI::dz 23 []),[]⟩
def jaB (l:List UInt8):Option (Z2):=
 (oB (jO N l) fun m=>bif !m then some ([]:List UInt8)else iter (fun i (k,p)=>bif p then iter (fun j (a,d,f,e,b)=>bif decide (b<e)then oB (idx f b) fun c=>(oB (jcN N a c) fun n=>bif n then if fits ((a.length:Int)-(c.length:Int))then bif decide ((3:Int)<=((a.length:Int)-(c.length:Int)))then if fits ((a.length:Int)-(c.length:Int))then oB (cut a 0 ((a.length:Int)-(c.length:Int))) fun o=>(i (o,true))else none else(if fits (b+1)then j (a,d,f,e,(b+1))else none)else none else if fits (b+1)then j (a,d,f,e,(b+1))else none)else i (a,d)) N (k,false,([([105,110,103]:List UInt8),([101,100]:List UInt8),([101,115]:List UInt8),([108,121]:List UInt8),([115]:List UInt8)]:List Z2),(([([105,110,103]:List UInt8),([101,100]:List UInt8),([101,115]:List UInt8),([108,121]:List UInt8),([115]:List UInt8)]:List Z2).length:Int),(0:Int))else some k) N (l,true))
theorem jio :mK 124 (bX [pS] [pS] (c1A (jaB N))):=
 mO (fC (jcM N) (fC (jsu N) ja)) func124 rfl N (.seq .no (.seq .no (.seq (.seq .no (.block (.loop jod (.seq .no (.block (.seq .no (.seq .no (.block (.loop jnf .no))))))))) .no))) _
def jkJ :Sh:=⟨.pv (.sl .str)::pS::dz 5 (pI::pI::dz 10 []),[]⟩
def jdH (e:List Z2) (h:List UInt8):Z11:=
 (iter (fun f (c,b,d,a)=>bif decide (a<d)then oB (idx c a) fun i=>(bif decide (b=i)then some a else if fits (a+1)then f (c,b,d,(a+1))else none)else some (-1)) N (e,h,(e.length:Int),(0:Int)))
theorem jkZ :mK 165 (bX [.pv (.sl .str),pS] [pI] (c2A (jdH N))):=
 mO ja func165 rfl N (.seq .no (.seq (.seq .no (.block (.loop jkJ .no))) .no)) _
def jao (c:List Z2) (b:List UInt8):Z8:=
 (oB (jdH N c b) fun a=>some (decide ((0:Int)<=a)))
theorem jh5 :mK 125 (bX [.pv (.sl .str),pS] [pB] (c2A (jao N))):=
 mO (fC (jkZ N) ja) func125 rfl N .no _
def jmj :Sh:=⟨.dead:: .box 1 0::dz 22 (.pv Y14::pI::pI::dz 46 []),[(1,false,[.pv (.sl .str),.pv Y14])]⟩
def jrC :Sh:=⟨.dead:: .box 1 0::dz 22 (.pv Y14::pI::pI::dz 12 (pB::dz 7 (pB:: .dead:: .dead:: .pv (.sl .str)::pI::pI::dz 20 []))),[(1,false,[.pv (.sl .str),.pv Y14])]⟩
def jaj (e:List Z2) (b:List Z4):Z8:=
 (bif decide ((6:Int)<e.length)then some false else oB (jb2 N e) fun u=>bif !u then some false else bif decide ((4:Int)<b.length)then some false else iter (fun w (t,m,i,y,z)=>bif decide (i<m)then oB (idx t i) fun a=>(oB (jm N (a.1.length:Int) 1 3) fun x=>bif !x then some false else oB (jO N a.2) fun p=>bif !p then some false else oB (jaB N a.2) fun l=>bif !decide (l=a.2)then some false else iter (fun C (k,q,f,v,D,o,n,d,h,r)=>bif decide (d<n)then oB (idx o d) fun c=>(oB (jO N c) fun A=>bif !A then some false else oB (jaB N c) fun E=>bif !decide (E=c)then some false else oB (jao N h c) fun B=>bif B then some false else if fits (d+1)then C (k,q,f,v,D,o,n,(d+1),h,r)else none)else if fits (f+1)then w (k,q,(f+1),h,r)else none) N (t,m,i,(!p),(!decide (l=a.2)),a.1,(a.1.length:Int),(0:Int),y,z))else some true) N (b,(b.length:Int),(0:Int),e,b))
theorem jdX :mK 67 (bX [.agg [.pv (.sl .str),.pv Y14]] [pB] (c2A (jaj N))):=
 mO (fC (jtw N) (fC (jY N) (fC (jcM N) (fC (jio N) (fC (jh5 N) ja))))) func67 rfl N (.seq .no (.seq .no (.seq (.seq .no (.block (.loop jmj (.seq .no (.seq .no (.seq (.block (.seq .no (.seq .no (.seq .no (.block (.loop jrC .no)))))) .no)))))) .no))) _
def jtd :Sh:=⟨pS::dz 4 (pI::pI::dz 16 []),[]⟩
def jaF (d:List UInt8):Z8:=
 (iter (fun f (b,c,a)=>bif decide (a<c)then oB (idx b a) fun h=>(bif decide ((h.toNat:Int)<32)then some false else oB (idx b a) fun e=>bif decide ((126:Int)<(e.toNat:Int))then some false else if fits (a+1)then f (b,c,(a+1))else none)else some (decide ((b.length:Int)<=160))) N (d,(d.length:Int),(0:Int)))
theorem jdK :mK 130 (bX [pS] [pB] (c1A (jaF N))):=
 mO ja func130 rfl N (.seq .no (.seq (.seq .no (.block (.loop jtd .no))) .no)) _
def jlC :Sh:=⟨.dead:: .box 1 0::dz 22 (.pv Y17::pI::pI::dz 66 []),[(1,false,[pI,.pv Y17,.pv Y13])]⟩
def jpt :Sh:=⟨.dead:: .box 1 0::dz 57 (.pv Y13::pI::pI::dz 31 []),[(1,false,[pI,.pv Y17,.pv Y13])]⟩
def jbx (r:Int) (e:Z12) (q:Z7):Z8:=
 (oB (jm N r 1 9999) fun w=>bif !w then some false else bif decide ((3:Int)<e.length)then some false else bif decide ((3:Int)<q.length)then some false else iter (fun p (n,i,b,h,d,c)=>bif decide (b<i)then oB (idx n b) fun k=>(oB (jO N k.1) fun z=>bif !z then some false else oB (jaF N k.2) fun B=>bif !B then some false else bif decide ((0:Int)<b)then if fits (b-1)then oB (idx d (b-1)) fun y=>(bif !Op.bytesLess y.1 k.1 then some false else if fits (b+1)then p (n,i,(b+1),h,d,c)else none)else none else if fits (b+1)then p (n,i,(b+1),h,d,c)else none)else iter (fun u (j,f,a,v,t,m)=>bif decide (a<f)then oB (idx j a) fun l=>(oB (jO N l.1) fun x=>bif !x then some false else oB (jm N l.2 0 999999999) fun A=>bif !A then some false else bif decide ((0:Int)<a)then if fits (a-1)then oB (idx m (a-1)) fun C=>(bif !Op.bytesLess C.1 l.1 then some false else if fits (a+1)then u (j,f,(a+1),v,t,m)else none)else none else if fits (a+1)then u (j,f,(a+1),v,t,m)else none)else some true) N (c,(c.length:Int),(0:Int),h,d,c)) N (e,(e.length:Int),(0:Int),r,e,q))
theorem jh0 :mK 100 (bX [.agg [pI,.pv Y17,.pv Y13]] [pB] (c3A (jbx N))):=
 mO (fC (jY N) (fC (jcM N) (fC (jdK N) ja))) func100 rfl N (.seq .no (.seq .no (.seq (.seq .no (.block (.loop jlC .no))) (.seq (.seq .no (.block (.loop jpt .no))) .no)))) _
def jpj :Sh:=⟨.pv Y3::dz 4 (.pv Y3::pI::pI::dz 26 []),[]⟩
def jbf (d:List Z0):Z8:=
 (iter (fun h (b,e,f,a)=>bif decide (a<f)then oB (idx e a) fun c=>(oB (jbx N c.1 c.2.1 c.2.2) fun i=>bif !i then some false else bif decide ((0:Int)<a)then if fits (a-1)then oB (idx b (a-1)) fun j=>(bif decide (c.1<=j.1)then some false else if fits (a+1)then h (b,e,f,(a+1))else none)else none else if fits (a+1)then h (b,e,f,(a+1))else none)else some (decide ((b.length:Int)<=16))) N (d,d,(d.length:Int),(0:Int)))
theorem jjU :mK 43 (bX [.pv Y3] [pB] (c1A (jbf N))):=
 mO (fC (jh0 N) ja) func43 rfl N (.seq .no (.seq (.seq .no (.block (.loop jpj .no))) .no)) _
def jbO (N:Nat) (c:Int) (a:Z12) (b:Z7):Option Z0:=
 (if room ([]:Z12).length a.length 32 then if room ([]:Z7).length b.length 24 then some (c,(([]:Z12)++a),(([]:Z7)++b))else none else none)
theorem jrI :mK 129 (bX [.agg [pI,.pv Y17,.pv Y13]] [.agg [pI,.own 1 Y18 116 true,.own 2 Y15 149 true]] (c3A (jbO N))):=
 mO ja func129 rfl N .no _
def joW :Sh:=⟨dz 3 (.own 600003 Y4 79 true::dz 3 (.pv Y3::pI::pI::dz 10 [])),[]⟩
def jbV (e:List Z0):Z15:=
 (iter (fun i (b,h,f,a)=>bif decide (a<f)then oB (idx h a) fun c=>(oB (jbO N c.1 c.2.1 c.2.2) fun d=>if room b.length ([d]:List Z0).length 56 then if fits (a+1)then i ((b++([d]:List Z0)),h,f,(a+1))else none else none)else some b) N (([]:List Z0),e,(e.length:Int),(0:Int)))
theorem joC :mK 71 (bX [.pv Y3] [.own 1 Y4 79 true] (c1A (jbV N))):=
 mO (fC (jrI N) ja) func71 rfl N (.seq .no (.seq .no (.seq (.seq .no (.block (.loop joW .no))) .no))) _
def jI (N:Nat) (a:Int):Z11:=
 (bif decide ((65:Int)<=a)then bif decide (a<=90)then some (IntKind.u8.wrap ((IntKind.u8.wrap (a+97))-65))else(some a)else some a)
theorem jmu :mK 168 (bX [.pv (.int .u8)] [.pv (.int .u8)] (c1A (jI N))):=
 mO ja func168 rfl N .no _
def jpB :Sh:=⟨pS:: .dead:: .dead:: .own 600003 Y7 174 true::pI::dz 57 [],[]⟩
def jo6 :Sh:=⟨pS:: .dead:: .dead:: .own 600003 Y7 174 true::pI:: .box 5 0:: .own 600006 (.int .u8) 5 true::dz 55 [],[(5,false,[pS,pI,pI,pI])]⟩
def jct (n:List UInt8):Option ((List Z10)):=
 (oB (jaF N n) fun r=>bif !r then some ([]:List Z10)else iter (fun k (i,j,d)=>bif decide (d<(i.length:Int))then oB (idx i d) fun v=>(oB (jI N (v.toNat:Int)) fun w=>oB (jaw N w) fun z=>bif !z then if fits (d+1)then k (i,j,(d+1))else none else iter (fun p (c,f,a,b,m,h,e,o)=>bif decide (a<(c.length:Int))then oB (idx c a) fun u=>(oB (jI N (u.toNat:Int)) fun t=>oB (jaw N t) fun y=>bif y then bif decide ((b.length:Int)<12)then oB (idx c a) fun x=>(oB (jI N (x.toNat:Int)) fun q=>if room b.length ([q]:List Int).length 1 then if fits (a+1)then p (c,f,(a+1),(b++([q]:List Int)),m,h,e,o)else none else none)else(if fits (a+1)then p (c,f,(a+1),b,m,h,e,o)else none)else if room f.length ([((bytesOf b),h,e,a)]:List Z10).length 40 then k (c,(f++([((bytesOf b),h,e,a)]:List Z10)),a)else none)else if room f.length ([((bytesOf b),h,e,a)]:List Z10).length 40 then k (c,(f++([((bytesOf b),h,e,a)]:List Z10)),a)else none) N (i,j,d,([]:List Int),([]:List UInt8),(j.length:Int),d,(0:Int)))else some j) N (n,([]:List Z10),(0:Int)))
theorem jqc :mK 131 (bX [pS] [.own 1 Y7 174 true] (c1A (jct N))):=
 mO (fC (jdK N) (fC (jmu N) (fC (jeK N) ja))) func131 rfl N (.seq .no (.seq .no (.seq .no (.seq (.seq .no (.block (.loop jpB (.seq .no (.block (.seq .no (.seq .no (.seq .no (.seq (.block (.loop jo6 .no)) .no))))))))) .no)))) _
def jty :Sh:=⟨.dead:: .pv Y13::pI:: .box 3 0::dz 3 (.pv (.opt Y16)::dz 8 (pI::pI::dz 73 [])),[(3,false,[.pv (.sl .str),.pv Y14])]⟩
def jss :Sh:=⟨.dead:: .pv Y13::pI:: .box 3 0::dz 3 (.pv (.opt Y16):: .dead:: .ptr Y16::pB::dz 5 (pI::pI::dz 31 (pB::dz 4 (.pv (.sl .str)::pI::pI::dz 34 [])))),[(3,false,[.pv (.sl .str),.pv Y14])]⟩
def jbH (c:List Z2) (c2:List Z4) (terms:Z7) (at0:Int):Option ((Option Z4)):=
 (iter (fun go (terms2,at02,best,t16,t17,c3,c4)=>bif decide (t17<t16)then oB (idx c4 t17) fun e=>(if fits ((terms2.length:Int)-at02)then bif decide (((terms2.length:Int)-at02)<(e.1.length:Int))then if fits (t17+1)then go (terms2,at02,best,t16,(t17+1),c3,c4)else none else(bif !(Option.isNone best)then oB best fun p=>(bif decide ((e.1.length:Int)<=(p.1.length:Int))then if fits (t17+1)then go (terms2,at02,best,t16,(t17+1),c3,c4)else none else iter (fun go2 (terms3,at03,best2,r,fits0,t162,t172,t49,t54,t55,t56,c5,c6)=>bif decide (t56<t55)then oB (idx t54 t56) fun e2=>(if fits (at03+t56)then oB (idx terms3 (at03+t56)) fun e3=>(bif fits0 then bif decide (e3.1=e2)then oB (idx terms3 at03) fun e4=>(if fits (e4.2+t56)then if fits (t56+1)then go2 (terms3,at03,best2,r,(decide (e3.2=(e4.2+t56))),t162,t172,t49,t54,t55,(t56+1),c5,c6)else none else none)else(if fits (t56+1)then go2 (terms3,at03,best2,r,false,t162,t172,t49,t54,t55,(t56+1),c5,c6)else none)else if fits (t56+1)then go2 (terms3,at03,best2,r,false,t162,t172,t49,t54,t55,(t56+1),c5,c6)else none)else none)else bif fits0 then if fits (t172+1)then go (terms3,at03,(some r),t162,(t172+1),c5,c6)else none else if fits (t172+1)then go (terms3,at03,best2,t162,(t172+1),c5,c6)else none) N (terms2,at02,best,e,true,t16,t17,(decide ((e.1.length:Int)<=(p.1.length:Int))),e.1,(e.1.length:Int),(0:Int),c3,c4))else iter (fun go3 (terms4,at04,best3,r2,fits02,t163,t173,t492,t542,t552,t562,c7,c8)=>bif decide (t562<t552)then oB (idx t542 t562) fun e5=>(if fits (at04+t562)then oB (idx terms4 (at04+t562)) fun e6=>(bif fits02 then bif decide (e6.1=e5)then oB (idx terms4 at04) fun e7=>(if fits (e7.2+t562)then if fits (t562+1)then go3 (terms4,at04,best3,r2,(decide (e6.2=(e7.2+t562))),t163,t173,t492,t542,t552,(t562+1),c7,c8)else none else none)else(if fits (t562+1)then go3 (terms4,at04,best3,r2,false,t163,t173,t492,t542,t552,(t562+1),c7,c8)else none)else if fits (t562+1)then go3 (terms4,at04,best3,r2,false,t163,t173,t492,t542,t552,(t562+1),c7,c8)else none)else none)else bif fits02 then if fits (t173+1)then go (terms4,at04,(some r2),t163,(t173+1),c7,c8)else none else if fits (t173+1)then go (terms4,at04,best3,t163,(t173+1),c7,c8)else none) N (terms2,at02,best,e,true,t16,t17,false,e.1,(e.1.length:Int),(0:Int),c3,c4))else none)else some best) N (terms,at0,(none:Option Z4),(c2.length:Int),(0:Int),c,c2))
theorem jtv :mK 132 (bX [.agg [.pv (.sl .str),.pv Y14],.pv Y13,pI] [.pv (.opt Y16)] (c4A (jbH N))):=
 mO ja func132 rfl N (.seq .no (.seq .no (.seq (.seq .no (.block (.loop jty (.seq .no (.seq .no (.seq (.block (.seq .no (.seq .no (.seq .no (.seq .no (.seq (.seq .no (.block (.loop jss .no))) .no)))))) .no)))))) .no))) _
def jlW :Sh:=⟨.dead:: .dead:: .box 2 0:: .dead:: .dead:: .own 600005 Y15 120 true:: .own 600006 Y15 120 true::dz 17 (.own 600024 Y7 174 true::pI::pI::dz 67 []),[(2,false,[.pv (.sl .str),.pv Y14])]⟩
def jnt :Sh:=⟨.dead:: .dead:: .box 2 0:: .dead:: .dead:: .own 600005 Y15 120 true:: .own 600006 Y15 120 true::dz 3 (pI::dz 83 []),[(2,false,[.pv (.sl .str),.pv Y14])]⟩
def jbw (w:List Z2) (u:List Z4) (y:List UInt8):Option (Z9):=
 (oB (jaj N w u) fun C=>bif !C then some ([]:Z7)else oB (jaF N y) fun D=>bif !D then some ([]:Z7)else oB (jct N y) fun A=>iter (fun n (k,e,l,h,b,d,j)=>bif decide (b<h)then oB (idx l b) fun i=>(oB (jaB N i.1) fun m=>oB (jao N d i.1) fun E=>bif !E then oB (jao N d m) fun G=>(bif !G then if room e.length ([(m,i.2.1)]:Z7).length 24 then if fits (b+1)then n (k,(e++([(m,i.2.1)]:Z7)),l,h,(b+1),d,j)else none else none else if fits (b+1)then n (k,e,l,h,(b+1),d,j)else none)else if fits (b+1)then n (k,e,l,h,(b+1),d,j)else none)else iter (fun B (f,c,a,o,q)=>bif decide (a<(c.length:Int))then oB (jbH N o q c a) fun p=>(bif Option.isNone p then oB (idx c a) fun v=>(if room f.length ([v]:Z7).length 24 then if fits (a+1)then B ((f++([v]:Z7)),c,(a+1),o,q)else none else none)else oB p fun z=>oB (idx c a) fun x=>if room f.length ([(z.2,x.2)]:Z7).length 24 then oB p fun t=>(if fits (a+(t.1.length:Int))then B ((f++([(z.2,x.2)]:Z7)),c,(a+(t.1.length:Int)),o,q)else none)else none)else some f) N (k,e,(0:Int),d,j)) N (([]:Z7),([]:Z7),A,(A.length:Int),(0:Int),w,u))
theorem jgO :mK 72 (bX [.agg [.pv (.sl .str),.pv Y14],pS] [.own 1 Y15 120 true] (c3A (jbw N))):=
 mO (fC (jdX N) (fC (jdK N) (fC (jqc N) (fC (jio N) (fC (jh5 N) (fC (jtv N) ja)))))) func72 rfl N (.seq .no (.seq .no (.seq .no (.seq .no (.seq (.seq .no (.block (.loop jlW .no))) (.seq (.seq .no (.block (.loop jnt .no))) .no)))))) _
def k__loop_example_fossick_impl_Seg_put_1_m (N:Nat) (a:List UInt8) (b:List UInt8) (e:List Z5) (c:List UInt8) (d:Z2×Int):Z8:=
 (bif decide (a=c)then some (decide (b=d.1))else some false)
theorem jmw :mK 134 (bX [.agg [pS,pS,.pv Y11],.ptr .str,.ptr Y15] [pB] (c5A (k__loop_example_fossick_impl_Seg_put_1_m N))):=
 mO ja func134 rfl N .no _
def jnc :Sh:=⟨.pv Y5:: .clo 134 [.ptr .str,.ptr Y15]::dz 5 (pI::pI::dz 10 []),[]⟩
def k_slices_IndexFunc_146_m (f:List Z1) (i:Z2×Z2×Int):Z11:=
 (iter (fun j (d,b,e,a)=>bif decide (a<e)then oB (idx d a) fun c=>(oB (k__loop_example_fossick_impl_Seg_put_1_m N c.1 c.2.1 c.2.2 b.1 b.2) fun h=>bif h then some a else if fits (a+1)then j (d,b,e,(a+1))else none)else some (-1)) N (f,i,(f.length:Int),(0:Int)))
theorem jrl :mK 133 (bX [.pv Y5,.clo 134 [.ptr .str,.ptr Y15]] [pI] (c2A (k_slices_IndexFunc_146_m N))):=
 mO (fC (jmw N) ja) func133 rfl N (.seq .no (.seq (.seq .no (.block (.loop jnc .no))) .no)) _
def i_Seg_put_m (h:List UInt8) (f:List UInt8) (i:Int) (e:Int) (o:List Z0) (a:List Z1):Z20:=
 (oB (k_slices_IndexFunc_146_m N a (h,f,i)) fun d=>bif decide (d<0)then if room a.length ([(h,f,([]:List Z5))]:List Z1).length 56 then if 0<=(a.length:Int)/\(a.length:Int)<((a++([(h,f,([]:List Z5))]:List Z1)).length:Int)then oB ((a++([(h,f,([]:List Z5))]:List Z1))[(a.length:Int).toNat]?) fun b=>(if fits ((b.2.2.length:Int)-1)then bif decide (((b.2.2.length:Int)-1)<0)then oB ((a++([(h,f,([]:List Z5))]:List Z1))[(a.length:Int).toNat]?) fun ai=>(if(a.length:Int).toNat=(a.length:Int).toNat then if room b.2.2.length ([(e,([]:List Int))]:List Z5).length 32 then if(a.length:Int).toNat=(a.length:Int).toNat then oB ((a++([(h,f,([]:List Z5))]:List Z1))[(a.length:Int).toNat]?) fun l=>(if fits (((b.2.2.length:Int)-1)+1)then oB (((a++([(h,f,([]:List Z5))]:List Z1)).set (a.length:Int).toNat (l.1,l.2.1,(b.2.2++([(e,([]:List Int))]:List Z5))))[(a.length:Int).toNat]?) fun p=>(oB (p.2.2[(((b.2.2.length:Int)-1)+1).toNat]?) fun v=>oB (((a++([(h,f,([]:List Z5))]:List Z1)).set (a.length:Int).toNat (l.1,l.2.1,(b.2.2++([(e,([]:List Int))]:List Z5))))[(a.length:Int).toNat]?) fun X=>if(a.length:Int).toNat=(a.length:Int).toNat then oB (((a++([(h,f,([]:List Z5))]:List Z1)).set (a.length:Int).toNat (l.1,l.2.1,(b.2.2++([(e,([]:List Int))]:List Z5))))[(a.length:Int).toNat]?) fun an=>(if(a.length:Int).toNat=(a.length:Int).toNat then if 0<=(((b.2.2.length:Int)-1)+1)/\(((b.2.2.length:Int)-1)+1)<(p.2.2.length:Int)then oB (p.2.2[(((b.2.2.length:Int)-1)+1).toNat]?) fun ao=>(if(((b.2.2.length:Int)-1)+1).toNat=(((b.2.2.length:Int)-1)+1).toNat then if room v.2.length ([i]:List Int).length 8 then if 0<=(((b.2.2.length:Int)-1)+1)/\(((b.2.2.length:Int)-1)+1)<(p.2.2.length:Int)then if(((b.2.2.length:Int)-1)+1).toNat=(((b.2.2.length:Int)-1)+1).toNat then oB (p.2.2[(((b.2.2.length:Int)-1)+1).toNat]?) fun I=>(some (o,(((a++([(h,f,([]:List Z5))]:List Z1)).set (a.length:Int).toNat (l.1,l.2.1,(b.2.2++([(e,([]:List Int))]:List Z5)))).modify ((a.length:Int).toNat) fun A=>(A.1,A.2.1,(p.2.2.set (((b.2.2.length:Int)-1)+1).toNat (I.1,(v.2++([i]:List Int))))))))else none else none else none else none)else none else none)else none)else none)else none else none else none)else(oB ((a++([(h,f,([]:List Z5))]:List Z1))[(a.length:Int).toNat]?) fun ab=>if(a.length:Int).toNat=(a.length:Int).toNat then if 0<=((b.2.2.length:Int)-1)/\((b.2.2.length:Int)-1)<(b.2.2.length:Int)then oB (b.2.2[((b.2.2.length:Int)-1).toNat]?) fun G=>(bif !decide (G.1=e)then oB ((a++([(h,f,([]:List Z5))]:List Z1))[(a.length:Int).toNat]?) fun W=>(if(a.length:Int).toNat=(a.length:Int).toNat then if room b.2.2.length ([(e,([]:List Int))]:List Z5).length 32 then if(a.length:Int).toNat=(a.length:Int).toNat then oB ((a++([(h,f,([]:List Z5))]:List Z1))[(a.length:Int).toNat]?) fun m=>(if fits (((b.2.2.length:Int)-1)+1)then oB (((a++([(h,f,([]:List Z5))]:List Z1)).set (a.length:Int).toNat (m.1,m.2.1,(b.2.2++([(e,([]:List Int))]:List Z5))))[(a.length:Int).toNat]?) fun q=>(oB (q.2.2[(((b.2.2.length:Int)-1)+1).toNat]?) fun C=>oB (((a++([(h,f,([]:List Z5))]:List Z1)).set (a.length:Int).toNat (m.1,m.2.1,(b.2.2++([(e,([]:List Int))]:List Z5))))[(a.length:Int).toNat]?) fun ag=>if(a.length:Int).toNat=(a.length:Int).toNat then oB (((a++([(h,f,([]:List Z5))]:List Z1)).set (a.length:Int).toNat (m.1,m.2.1,(b.2.2++([(e,([]:List Int))]:List Z5))))[(a.length:Int).toNat]?) fun am=>(if(a.length:Int).toNat=(a.length:Int).toNat then if 0<=(((b.2.2.length:Int)-1)+1)/\(((b.2.2.length:Int)-1)+1)<(q.2.2.length:Int)then oB (q.2.2[(((b.2.2.length:Int)-1)+1).toNat]?) fun R=>(if(((b.2.2.length:Int)-1)+1).toNat=(((b.2.2.length:Int)-1)+1).toNat then if room C.2.length ([i]:List Int).length 8 then if 0<=(((b.2.2.length:Int)-1)+1)/\(((b.2.2.length:Int)-1)+1)<(q.2.2.length:Int)then if(((b.2.2.length:Int)-1)+1).toNat=(((b.2.2.length:Int)-1)+1).toNat then oB (q.2.2[(((b.2.2.length:Int)-1)+1).toNat]?) fun Q=>(some (o,(((a++([(h,f,([]:List Z5))]:List Z1)).set (a.length:Int).toNat (m.1,m.2.1,(b.2.2++([(e,([]:List Int))]:List Z5)))).modify ((a.length:Int).toNat) fun B=>(B.1,B.2.1,(q.2.2.set (((b.2.2.length:Int)-1)+1).toNat (Q.1,(C.2++([i]:List Int))))))))else none else none else none else none)else none else none)else none)else none)else none else none else none)else if(a.length:Int).toNat=(a.length:Int).toNat then oB (b.2.2[((b.2.2.length:Int)-1).toNat]?) fun u=>(oB ((a++([(h,f,([]:List Z5))]:List Z1))[(a.length:Int).toNat]?) fun al=>if(a.length:Int).toNat=(a.length:Int).toNat then oB ((a++([(h,f,([]:List Z5))]:List Z1))[(a.length:Int).toNat]?) fun ae=>(if(a.length:Int).toNat=(a.length:Int).toNat then if 0<=((b.2.2.length:Int)-1)/\((b.2.2.length:Int)-1)<(b.2.2.length:Int)then oB (b.2.2[((b.2.2.length:Int)-1).toNat]?) fun aq=>(if((b.2.2.length:Int)-1).toNat=((b.2.2.length:Int)-1).toNat then if room u.2.length ([i]:List Int).length 8 then if 0<=((b.2.2.length:Int)-1)/\((b.2.2.length:Int)-1)<(b.2.2.length:Int)then if((b.2.2.length:Int)-1).toNat=((b.2.2.length:Int)-1).toNat then oB (b.2.2[((b.2.2.length:Int)-1).toNat]?) fun P=>(some (o,((a++([(h,f,([]:List Z5))]:List Z1)).modify ((a.length:Int).toNat) fun t=>(t.1,t.2.1,(b.2.2.set ((b.2.2.length:Int)-1).toNat (P.1,(u.2++([i]:List Int))))))))else none else none else none else none)else none else none)else none)else none)else none else none)else none)else none else none else if 0<=d/\d<(a.length:Int)then oB (a[d.toNat]?) fun c=>(if fits ((c.2.2.length:Int)-1)then bif decide (((c.2.2.length:Int)-1)<0)then oB (a[d.toNat]?) fun ap=>(if d.toNat=d.toNat then if room c.2.2.length ([(e,([]:List Int))]:List Z5).length 32 then if d.toNat=d.toNat then oB (a[d.toNat]?) fun k=>(if fits (((c.2.2.length:Int)-1)+1)then oB ((a.set d.toNat (k.1,k.2.1,(c.2.2++([(e,([]:List Int))]:List Z5))))[d.toNat]?) fun r=>(oB (r.2.2[(((c.2.2.length:Int)-1)+1).toNat]?) fun D=>oB ((a.set d.toNat (k.1,k.2.1,(c.2.2++([(e,([]:List Int))]:List Z5))))[d.toNat]?) fun aa=>if d.toNat=d.toNat then oB ((a.set d.toNat (k.1,k.2.1,(c.2.2++([(e,([]:List Int))]:List Z5))))[d.toNat]?) fun ac=>(if d.toNat=d.toNat then if 0<=(((c.2.2.length:Int)-1)+1)/\(((c.2.2.length:Int)-1)+1)<(r.2.2.length:Int)then oB (r.2.2[(((c.2.2.length:Int)-1)+1).toNat]?) fun aj=>(if(((c.2.2.length:Int)-1)+1).toNat=(((c.2.2.length:Int)-1)+1).toNat then if room D.2.length ([i]:List Int).length 8 then if 0<=(((c.2.2.length:Int)-1)+1)/\(((c.2.2.length:Int)-1)+1)<(r.2.2.length:Int)then if(((c.2.2.length:Int)-1)+1).toNat=(((c.2.2.length:Int)-1)+1).toNat then oB (r.2.2[(((c.2.2.length:Int)-1)+1).toNat]?) fun L=>(some (o,((a.set d.toNat (k.1,k.2.1,(c.2.2++([(e,([]:List Int))]:List Z5)))).modify d.toNat fun w=>(w.1,w.2.1,(r.2.2.set (((c.2.2.length:Int)-1)+1).toNat (L.1,(D.2++([i]:List Int))))))))else none else none else none else none)else none else none)else none)else none)else none else none else none)else(oB (a[d.toNat]?) fun S=>if d.toNat=d.toNat then if 0<=((c.2.2.length:Int)-1)/\((c.2.2.length:Int)-1)<(c.2.2.length:Int)then oB (c.2.2[((c.2.2.length:Int)-1).toNat]?) fun O=>(bif !decide (O.1=e)then oB (a[d.toNat]?) fun af=>(if d.toNat=d.toNat then if room c.2.2.length ([(e,([]:List Int))]:List Z5).length 32 then if d.toNat=d.toNat then oB (a[d.toNat]?) fun j=>(if fits (((c.2.2.length:Int)-1)+1)then oB ((a.set d.toNat (j.1,j.2.1,(c.2.2++([(e,([]:List Int))]:List Z5))))[d.toNat]?) fun n=>(oB (n.2.2[(((c.2.2.length:Int)-1)+1).toNat]?) fun y=>oB ((a.set d.toNat (j.1,j.2.1,(c.2.2++([(e,([]:List Int))]:List Z5))))[d.toNat]?) fun V=>if d.toNat=d.toNat then oB ((a.set d.toNat (j.1,j.2.1,(c.2.2++([(e,([]:List Int))]:List Z5))))[d.toNat]?) fun T=>(if d.toNat=d.toNat then if 0<=(((c.2.2.length:Int)-1)+1)/\(((c.2.2.length:Int)-1)+1)<(n.2.2.length:Int)then oB (n.2.2[(((c.2.2.length:Int)-1)+1).toNat]?) fun ah=>(if(((c.2.2.length:Int)-1)+1).toNat=(((c.2.2.length:Int)-1)+1).toNat then if room y.2.length ([i]:List Int).length 8 then if 0<=(((c.2.2.length:Int)-1)+1)/\(((c.2.2.length:Int)-1)+1)<(n.2.2.length:Int)then if(((c.2.2.length:Int)-1)+1).toNat=(((c.2.2.length:Int)-1)+1).toNat then oB (n.2.2[(((c.2.2.length:Int)-1)+1).toNat]?) fun K=>(some (o,((a.set d.toNat (j.1,j.2.1,(c.2.2++([(e,([]:List Int))]:List Z5)))).modify d.toNat fun E=>(E.1,E.2.1,(n.2.2.set (((c.2.2.length:Int)-1)+1).toNat (K.1,(y.2++([i]:List Int))))))))else none else none else none else none)else none else none)else none)else none)else none else none else none)else if d.toNat=d.toNat then oB (c.2.2[((c.2.2.length:Int)-1).toNat]?) fun x=>(oB (a[d.toNat]?) fun U=>if d.toNat=d.toNat then oB (a[d.toNat]?) fun ak=>(if d.toNat=d.toNat then if 0<=((c.2.2.length:Int)-1)/\((c.2.2.length:Int)-1)<(c.2.2.length:Int)then oB (c.2.2[((c.2.2.length:Int)-1).toNat]?) fun ad=>(if((c.2.2.length:Int)-1).toNat=((c.2.2.length:Int)-1).toNat then if room x.2.length ([i]:List Int).length 8 then if 0<=((c.2.2.length:Int)-1)/\((c.2.2.length:Int)-1)<(c.2.2.length:Int)then if((c.2.2.length:Int)-1).toNat=((c.2.2.length:Int)-1).toNat then oB (c.2.2[((c.2.2.length:Int)-1).toNat]?) fun H=>(some (o,(a.modify d.toNat fun z=>(z.1,z.2.1,(c.2.2.set ((c.2.2.length:Int)-1).toNat (H.1,(x.2++([i]:List Int))))))))else none else none else none else none)else none else none)else none)else none)else none else none)else none)else none)
theorem jky :mK 73 ⟨⟨[.box 900000 0,pS,.agg [pS,pI],pI],[(900000,false,[.tre 850000 Y4 79,.tre 850001 Y6 106])]⟩,⟨[.tup []],[(900000,false,[.tre 850000 Y4 79,.tre 1 Y6 106])]⟩,c6A (i_Seg_put_m N)⟩:=
 mO (fC (jrl N) ja) func73 rfl N (.seq .no (.seq .no (.seq .no (.seq .no (.seq .no (.seq .no (.touch [.out 9 [(2,79,164,10),(1,88,3,0)]]))))))) _ (wr:=[33,34,70,71,91,92]) (rs:=[900000,850000,850001]) (dw:=[16,33,70])
noncomputable def jaS (N:Nat) (a:List Z1) (b:Unit):Option (List Z1):=jWO a
 
noncomputable def jjA (N:Nat):Model:=⟨⟨[.tre 800000 Y6 106,.clo 75 []],[]⟩,⟨[.tup [],.tre 800000 Y6 106],[]⟩,c2A (jaS N)⟩
theorem jtu :mK 74 (jjA N):=jW9
def jmK :Sh:=⟨.dead:: .dead:: .box 2 0:: .dead:: .box 4 0:: .box 5 0::dz 19 (.pv Y3::pI::pI::dz 32 []),[(2,false,[.pv (.sl .str),.pv Y14]),(4,false,[.nils,.nils]),(5,false,[.tre 700500 Y4 79,.tre 700501 Y6 106])]⟩
def jor :Sh:=⟨.dead:: .dead:: .box 2 0:: .dead:: .box 4 0:: .box 5 0:: .dead:: .box 7 0::dz 17 (.pv Y3::pI::pI::dz 4 (.pv Y17::pI::pI::dz 25 [])),[(2,false,[.pv (.sl .str),.pv Y14]),(4,false,[.nils,.nils]),(5,false,[.tre 700500 Y4 79,.tre 700501 Y6 106]),(7,false,[pI,.pv Y17,.pv Y13])]⟩
def jnj :Sh:=⟨.dead:: .dead:: .box 2 0:: .dead:: .box 4 0:: .box 5 0:: .dead:: .box 7 0:: .dead:: .box 9 0::dz 15 (.pv Y3::pI::pI::dz 4 (.pv Y17::pI::pI::dz 6 (.own 600041 Y15 120 true::pI::pI::dz 16 []))),[(2,false,[.pv (.sl .str),.pv Y14]),(4,false,[.nils,.nils]),(5,false,[.tre 700500 Y4 79,.tre 700501 Y6 106]),(7,false,[pI,.pv Y17,.pv Y13]),(9,false,[pS,pS])]⟩
noncomputable def jbT (c:List Z2) (c2:List Z4) (docs:List Z0):Z20:=
 (oB (jaj N c c2) fun r=>bif !r then some (([]:List Z0),([]:List Z1))else oB (jbf N docs) fun r2=>bif !r2 then some (([]:List Z0),([]:List Z1))else oB (jbV N docs) fun r3=>iter (fun go (t25,t26,t27,c3,c4,s,s2)=>bif decide (t27<t26)then oB (idx t25 t27) fun e=>(iter (fun go2 (t252,t262,t272,t32,t33,t34,c5,c6,s3,s4,d,d2,d3)=>bif decide (t34<t33)then oB (idx t32 t34) fun e2=>(oB (jbw N c5 c6 e2.2) fun r4=>iter (fun go3 (t253,t263,t273,t322,t332,t342,t41,t42,t43,c7,c8,s5,s6,d4,d5,d6,f,f2)=>bif decide (t43<t42)then oB (idx t41 t43) fun e3=>(oB (i_Seg_put_m N f e3.1 e3.2 d4 s5 s6) fun r5=>if fits (t43+1)then go3 (t253,t263,t273,t322,t332,t342,t41,t42,(t43+1),c7,c8,r5.1,r5.2,d4,d5,d6,f,f2)else none)else if fits (t342+1)then go2 (t253,t263,t273,t322,t332,(t342+1),c7,c8,s5,s6,d4,d5,d6)else none) N (t252,t262,t272,t32,t33,t34,r4,(r4.length:Int),(0:Int),c5,c6,s3,s4,d,d2,d3,e2.1,e2.2))else if fits (t272+1)then go (t252,t262,(t272+1),c5,c6,s3,s4)else none) N (t25,t26,t27,e.2.1,(e.2.1.length:Int),(0:Int),c3,c4,s,s2,e.1,e.2.1,e.2.2))else oB (jaS N s2 ()) fun r6=>some (s,r6)) N (docs,(docs.length:Int),(0:Int),c,c2,r3,([]:List Z1)))
theorem jqC :mK 30 (bX [.agg [.pv (.sl .str),.pv Y14],.pv Y3] [.agg [.own 1 Y4 79 true,.own 2 Y6 106 true]] (c3A (jbT N))):=
 mO (fC (jdX N) (fC (jjU N) (fC (joC N) (fC (jgO N) (fC (jky N) (fC (jtu N) ja)))))) func30 rfl N (.seq .no (.seq .no (.seq .no (.seq (.seq .no (.block (.loop jmK (.seq .no (.seq .no (.seq (.block (.seq .no (.seq .no (.block (.loop jor (.seq .no (.seq .no (.seq (.block (.seq .no (.seq .no (.block (.loop jnj .no))))) .no)))))))) .no)))))) .no)))) _ (wr:=[23]) (dw:=[22,23])
def jtB :Sh:=⟨.pv Y19:: .pv Y19::dz 10 (pI::pI::dz 12 []),[]⟩
def jbX (b:List Int) (f:List Int):Z8:=
 (bif !decide ((b.length:Int)=(f.length:Int))then some false else iter (fun i (c,e,d,a)=>bif decide (a<d)then oB (idx c a) fun k=>(oB (idx e a) fun h=>bif !decide (k=h)then some false else if fits (a+1)then i (c,e,d,(a+1))else none)else some true) N (b,f,(b.length:Int),(0:Int)))
theorem jqi :mK 219 (bX [.pv Y19,.pv Y19] [pB] (c2A (jbX N))):=
 mO ja func219 rfl N (.seq .no (.seq .no (.seq (.seq .no (.block (.loop jtB .no))) .no))) _
def jcp (d:Int) (e:List Int) (b:Int) (c:List Int):Z8:=
 (bif decide (d=b)then oB (jbX N e c) fun a=>(some a)else some false)
theorem jth :mK 204 (bX [.agg [pI,.pv Y19],.agg [pI,.pv Y19]] [pB] (c4A (jcp N))):=
 mO (fC (jqi N) ja) func204 rfl N .no _
def jlX :Sh:=⟨.dead:: .pv Y11:: .clo 204 []::dz 12 (.pv Y11::pI::pI::dz 14 []),[]⟩
def jb6 (b:List Z5) (i:List Z5) (m:Unit):Z8:=
 (bif !decide ((b.length:Int)=(i.length:Int))then some false else iter (fun k (f,n,c,e,a)=>bif decide (a<e)then oB (idx c a) fun h=>(oB (idx f a) fun d=>oB (jcp N h.1 h.2 d.1 d.2) fun j=>bif !j then some false else if fits (a+1)then k (f,(),c,e,(a+1))else none)else some true) N (i,(),b,(b.length:Int),(0:Int)))
theorem jnG :mK 203 (bX [.pv Y11,.pv Y11,.clo 204 []] [pB] (c3A (jb6 N))):=
 mO (fC (jth N) ja) func203 rfl N (.seq .no (.seq .no (.seq (.seq .no (.block (.loop jlX .no))) .no))) _
def jcz (b:List UInt8) (f:List UInt8) (h:List Z5) (d:List UInt8) (e:List UInt8) (c:List Z5):Z8:=
 (bif decide (b=d)then bif decide (f=e)then oB (jb6 N h c ()) fun a=>(some a)else(some false)else some false)
theorem jp4 :mK 167 (bX [.agg [pS,pS,.pv Y11],.agg [pS,pS,.pv Y11]] [pB] (c6A (jcz N))):=
 mO (fC (jnG N) ja) func167 rfl N .no _
def jlD :Sh:=⟨.dead:: .pv Y5:: .clo 167 []::dz 12 (.pv Y5::pI::pI::dz 14 []),[]⟩
def jcn (d:List Z1) (i:List Z1) (m:Unit):Z8:=
 (bif !decide ((d.length:Int)=(i.length:Int))then some false else iter (fun k (h,n,e,f,a)=>bif decide (a<f)then oB (idx e a) fun c=>(oB (idx h a) fun b=>oB (jcz N c.1 c.2.1 c.2.2 b.1 b.2.1 b.2.2) fun j=>bif !j then some false else if fits (a+1)then k (h,(),e,f,(a+1))else none)else some true) N (i,(),d,(d.length:Int),(0:Int)))
theorem jsa :mK 166 (bX [.pv Y5,.pv Y5,.clo 167 []] [pB] (c3A (jcn N))):=
 mO (fC (jp4 N) ja) func166 rfl N (.seq .no (.seq .no (.seq (.seq .no (.block (.loop jlD .no))) .no))) _
noncomputable def jbN (b:List Z2) (a:List Z4) (c:List Z0) (i:List Z1):Z8:=
 (oB (jaj N b a) fun d=>bif !d then some false else oB (jbf N c) fun h=>bif !h then some false else oB (jbT N b a c) fun f=>oB (jcn N f.2 i ()) fun e=>some e)
theorem joa :mK 126 (bX [.agg [.pv (.sl .str),.pv Y14],.agg [.pv Y3,.pv Y5]] [pB] (c4A (jbN N))):=
 mO (fC (jdX N) (fC (jjU N) (fC (jqC N) (fC (jsa N) ja)))) func126 rfl N .no _
def jDT :Sh:=⟨.pv Y19::dz 4 (.pv Y19::pI::pI::dz 24 []),[]⟩
def jx1 (c:List Int):Z8:=
 (iter (fun f (b,d,e,a)=>bif decide (a<e)then oB (idx d a) fun h=>(oB (jm N h 0 999999999) fun i=>bif !i then some false else bif decide ((0:Int)<a)then if fits (a-1)then oB (idx b (a-1)) fun j=>(bif decide (h<=j)then some false else if fits (a+1)then f (b,d,e,(a+1))else none)else none else if fits (a+1)then f (b,d,e,(a+1))else none)else some (decide ((b.length:Int)<=60))) N (c,c,(c.length:Int),(0:Int)))
theorem jAN :mK 127 (bX [.pv Y19] [pB] (c1A (jx1 N))):=
 mO (fC (jY N) ja) func127 rfl N (.seq .no (.seq (.seq .no (.block (.loop jDT .no))) .no)) _
def jqv :Sh:=⟨.dead::pI:: .dead:: .dead:: .box 4 0::dz 6 (.pv Y3::pI::pI::dz 10 []),[(4,false,[pI,.nils,.nils])]⟩
def i_Seg_doc_m (f:(List Z0)×(List Z1)) (k:Int):Option (Int×Z13×Z9×Bool):=
 (iter (fun h (e,d,c,a,i)=>bif decide (a<c)then oB (idx d a) fun b=>(bif decide (b.1=e)then some (b.1,b.2.1,b.2.2,true)else if fits (a+1)then h (e,d,c,(a+1),i)else none)else some (0,([]:Z12),([]:Z7),false)) N (k,f.1,(f.1.length:Int),(0:Int),(0:Int)))
theorem jlU :mK 128 (bX [.ptr Y2,pI] [.tup [.agg [pI,.pv Y17,.pv Y13],pB]] (c2A (i_Seg_doc_m N))):=
 mO ja func128 rfl N (.seq .no (.seq (.seq .no (.block (.loop jqv .no))) .no)) _
def jIP :Sh:=⟨.pv Y19::pI::dz 5 (pI::pI::dz 10 []),[]⟩
def k_slices_Index_484_m (e:List Int) (h:Int):Z11:=
 (iter (fun f (c,b,d,a)=>bif decide (a<d)then oB (idx c a) fun i=>(bif decide (b=i)then some a else if fits (a+1)then f (c,b,d,(a+1))else none)else some (-1)) N (e,h,(e.length:Int),(0:Int)))
theorem jJu :mK 152 (bX [.pv Y19,pI] [pI] (c2A (k_slices_Index_484_m N))):=
 mO ja func152 rfl N (.seq .no (.seq (.seq .no (.block (.loop jIP .no))) .no)) _
def k_slices_Contains_735_m (c:List Int) (b:Int):Z8:=
 (oB (k_slices_Index_484_m N c b) fun a=>some (decide ((0:Int)<=a)))
theorem jIT :mK 101 (bX [.pv Y19,pI] [pB] (c2A (k_slices_Contains_735_m N))):=
 mO (fC (jJu N) ja) func101 rfl N .no _
def jIi :Sh:=⟨.dead:: .box 1 0:: .dead:: .own 600003 Y4 79 false::dz 5 (.pv Y3::pI::pI::dz 15 []),[(1,false,[.pv Y3,.pv Y5,.pv Y19])]⟩
def i_Live_alive_m (e:List Z0) (o:List Z1) (m:List Int):Z15:=
 (iter (fun j (b,c,f,a,k,i,d)=>bif decide (a<f)then oB (idx c a) fun h=>(oB (k_slices_Contains_735_m N d h.1) fun l=>bif !l then if room b.length ([h]:List Z0).length 56 then if fits (a+1)then j ((b++([h]:List Z0)),c,f,(a+1),k,i,d)else none else none else if fits (a+1)then j (b,c,f,(a+1),k,i,d)else none)else some b) N (([]:List Z0),e,(e.length:Int),(0:Int),e,o,m))
theorem jH4 :mK 78 (bX [.agg [.pv Y3,.pv Y5,.pv Y19]] [.own 1 Y4 79 false] (c3A (i_Live_alive_m N))):=
 mO (fC (jIT N) ja) func78 rfl N (.seq .no (.seq .no (.seq (.seq .no (.block (.loop jIi .no))) .no))) _
def jIO :Sh:=⟨dz 3 (.box 3 0::dz 17 (.pv Y19::pI::pI::dz 16 [])),[(3,true,[.pv Y3,.pv Y5,.pv Y19])]⟩
noncomputable def i_liveOk_m (o:List Z2) (m:List Z4) (f:List Z0) (j:List Z1) (a:List Int):Z8:=
 (oB (jbN N o m f j) fun k=>bif !k then some false else oB (jx1 N a) fun p=>bif !p then some false else iter (fun n (h,e,b,c,d,i)=>bif decide (b<e)then oB (idx h b) fun q=>(oB (i_Seg_doc_m N (c,d) q) fun r=>bif !r.2.2.2 then some false else if fits (b+1)then n (h,e,(b+1),c,d,i)else none)else oB (i_Live_alive_m N c d i) fun l=>some (decide ((0:Int)<l.length))) N (a,(a.length:Int),(0:Int),f,j,a))
theorem jJD :mK 68 (bX [.agg [.pv (.sl .str),.pv Y14],.agg [.pv Y3,.pv Y5,.pv Y19]] [pB] (c5A (i_liveOk_m N))):=
 mO (fC (joa N) (fC (jAN N) (fC (jlU N) (fC (jH4 N) ja)))) func68 rfl N (.seq .no (.seq .no (.seq (.seq .no (.block (.loop jIO .no))) .no))) _
def jl0 :Sh:=⟨.pv (.int .u64):: .dead::pI::dz 22 [],[]⟩
def k_math_bits_Len64_m (N:Nat) (b:Int):Z11:=
 (meet (fun(a:Int×Int)=>match a with|(c,d)=>meet (fun(a:Int×Int)=>match a with|(f,e)=>meet (fun(a:Int×Int)=>match a with|(m,k)=>oB (idx ([0,1,2,2,3,3,3,3,4,4,4,4,4,4,4,4,5,5,5,5,5,5,5,5,5,5,5,5,5,5,5,5,6,6,6,6,6,6,6,6,6,6,6,6,6,6,6,6,6,6,6,6,6,6,6,6,6,6,6,6,6,6,6,6,7,7,7,7,7,7,7,7,7,7,7,7,7,7,7,7,7,7,7,7,7,7,7,7,7,7,7,7,7,7,7,7,7,7,7,7,7,7,7,7,7,7,7,7,7,7,7,7,7,7,7,7,7,7,7,7,7,7,7,7,7,7,7,7,8,8,8,8,8,8,8,8,8,8,8,8,8,8,8,8,8,8,8,8,8,8,8,8,8,8,8,8,8,8,8,8,8,8,8,8,8,8,8,8,8,8,8,8,8,8,8,8,8,8,8,8,8,8,8,8,8,8,8,8,8,8,8,8,8,8,8,8,8,8,8,8,8,8,8,8,8,8,8,8,8,8,8,8,8,8,8,8,8,8,8,8,8,8,8,8,8,8,8,8,8,8,8,8,8,8,8,8,8,8,8,8,8,8,8,8,8,8,8,8,8,8,8,8,8,8,8,8]:List UInt8) (IntKind.u8.wrap m)) fun j=>if fits (k+(IntKind.i64.wrap (j.toNat:Int)))then some (k+(IntKind.i64.wrap (j.toNat:Int)))else none) fun l=>bif decide ((256:Int)<=f)then if 0<=(8:Int)then if fits (e+8)then l ((f.fdiv (2^(min (8:Int).toNat (IntKind.bits .u64)))),(e+8))else none else none else l (f,e)) fun i=>bif decide ((65536:Int)<=c)then if 0<=(16:Int)then if fits (d+16)then i ((c.fdiv (2^(min (16:Int).toNat (IntKind.bits .u64)))),(d+16))else none else none else i (c,d)) fun h=>bif decide ((4294967296:Int)<=b)then if 0<=(32:Int)then h ((b.fdiv (2^(min (32:Int).toNat (IntKind.bits .u64)))),32)else none else h (b,0))
theorem jrK :mK 178 (bX [.pv (.int .u64)] [pI] (c1A (k_math_bits_Len64_m N))):=
 mO ja func178 rfl N (.seq .no (.meet jl0 .no (.meet jl0 .no (.meet jl0 .no .no)))) _
def k_math_bits_Len_m (b:Int):Z11:=
 (oB (k_math_bits_Len64_m N b) fun a=>some a)
theorem jda :mK 136 (bX [.pv (.int .u64)] [pI] (c1A (k_math_bits_Len_m N))):=
 mO (fC (jrK N) ja) func136 rfl N .no _
def k_cmp_isNaN_538_m (N:Nat) (a:Int):Z8:=
 (some (!decide (a=a)))
theorem joK :mK 139 (bX [pI] [pB] (c1A (k_cmp_isNaN_538_m N))):=
 mO ja func139 rfl N .no _
def k_cmp_Compare_992_m (b:Int) (a:Int):Z11:=
 (oB (k_cmp_isNaN_538_m N b) fun d=>oB (k_cmp_isNaN_538_m N a) fun c=>bif d then bif c then some 0 else(some (-1))else bif c then some 1 else bif decide (b<a)then some (-1)else bif decide (a<b)then some 1 else some 0)
theorem jpP :mK 81 (bX [pI,pI] [pI] (c2A (k_cmp_Compare_992_m N))):=
 mO (fC (joK N) ja) func81 rfl N .no _
def i_allAlive_1_m (b:Int) (f:Z12) (h:Z7) (c:Int) (e:Z12) (d:Z7):Z11:=
 (oB (k_cmp_Compare_992_m N b c) fun a=>some a)
theorem jHC :mK 80 (bX [.agg [pI,.pv Y17,.pv Y13],.agg [pI,.pv Y17,.pv Y13]] [pI] (c6A (i_allAlive_1_m N))):=
 mO (fC (jpP N) ja) func80 rfl N .no _
def k_slices_nextPowerOfTwo_m (b:Int):Z11:=
 (oB (k_math_bits_Len_m N (IntKind.u64.wrap b)) fun a=>if 0<=a then some (IntKind.u64.wrap ((1:Int)*2^(min a.toNat (IntKind.bits .u64))))else none)
theorem jhv :mK 206 (bX [pI] [.pv (.int .u64)] (c1A (k_slices_nextPowerOfTwo_m N))):=
 mO (fC (jda N) ja) func206 rfl N .no _
end Go.Proofs.YtibcadmdkehmhaaGreat
