import Derived.Test.YtlfbmkkddcelcaaGreatKTab
set_option linter.unusedVariables false
set_option linter.unusedSimpArgs false
namespace Go.Proofs.YtlfbmkkddcelcaaGreat
open Go.RowKit Go.Proofs.Tryz
variable (N : Nat)
open Option renaming bind -> oB
set_option maxRecDepth 1000000
abbrev Z0 :Type:=Int×(List ((List UInt8)×(List UInt8)))×(List ((List UInt8)×Int))
abbrev Z1 :Type:=(List UInt8)×(List UInt8)×(List (Int×(List Int)))
abbrev Z2 :Type:=List UInt8
abbrev Z3 :Type:=((List Z0)×(List Z1))×(List Int)
abbrev Z4 :Type:=(List Z2)×Z2
abbrev Z5 :Type:=Int×(List Int)
abbrev Z7 :Type:=List (Z2×Int)
abbrev Z8 :Type:=Option (Bool)
abbrev Z9 :Type:=List (Z2×Int)
abbrev Z10 :Type:=Z2×Int×Int×Int
abbrev Z11 :Type:=Option (Int)
abbrev Z12 :Type:=List (Z2×Z2)
abbrev Z13 :Type:=List (Z2×Z2)
abbrev Z14 :Type:=(List Int)×Int×Int×Int×Int
abbrev Z15 :Type:=Option ((List Z0))
abbrev Z17 :Type:=Option ((List Int))
abbrev Z18 :Type:=Option ((List Z2)×(List Z4)×(List Z3))
abbrev Z20 :Type:=Option ((List Z0)×(List Z1))
abbrev bX (a r:List VS) (f:HD (Sh.codes ⟨a,[]⟩)->Option (HD (Sh.codes ⟨r,[]⟩))):Model:=⟨⟨a,[]⟩,⟨r,[]⟩,f⟩
abbrev mK :=ModelOk Tryz.prog
theorem mO {l:List (Nat×Model)} (hl:jR Tryz.prog l) {f:FuncId} {fn:Func} {c:Code} (hf:Tryz.prog.funcs[f]? =some fn) (hbody:fn.body=some c) (N:Nat) (h:Hint) (m:Model) (wr rs dw:List Nat:=[])
  (hname:(fn.name== "runtime.NumGoroutine")=false:=by kernel_rfl) (hres:m.arg.names.all (jbC l wr rs dw).res=true:=by kernel_rfl) (hlen:Nat.ble m.arg.vals.length fn.ntmps=true:=by kernel_rfl)
  (hrun:∀a,m.run a=runF N (jbC l wr rs dw) okDraw fn c h m.arg m.ret a:=by intro a;kernel_rfl):ModelOk Tryz.prog f m:=modelOk_of (E:=jbC l wr rs dw) (jtQ hl wr rs dw) hf hname hbody N h m hres hlen hrun
theorem fC {k:Nat} {m:Model} {l:List (Nat×Model)} (h:ModelOk Tryz.prog k m) (hl:jR Tryz.prog l):jR Tryz.prog ((k,m)::l):=jsH h hl
abbrev pI :VS:=.pv (.int .i64)
abbrev pS :VS:=.pv .str
abbrev pB :VS:=.pv .bool
abbrev tI :Tp:=.int .i64
abbrev c1A {Y ρ:Type} (f:Y->ρ) (a:Y):ρ:=f a
abbrev c2A {α0 α1 ρ:Type} (f:α0->α1->ρ) (a:α0×α1):ρ:=f a.1 a.2
abbrev c3A {α0 α1 α2 ρ:Type} (f:α0->α1->α2->ρ) (a:α0×α1×α2):ρ:=f a.1 a.2.1 a.2.2
abbrev c4A {α0 α1 α2 α3 ρ:Type} (f:α0->α1->α2->α3->ρ) (a:α0×α1×α2×α3):ρ:=f a.1 a.2.1 a.2.2.1 a.2.2.2
abbrev c5A {α0 α1 α2 α3 α4 ρ:Type} (f:α0->α1->α2->α3->α4->ρ) (a:α0×α1×α2×α3×α4):ρ:=f a.1 a.2.1 a.2.2.1 a.2.2.2.1 a.2.2.2.2
abbrev c6A {α0 α1 α2 α3 α4 α5 ρ:Type} (f:α0->α1->α2->α3->α4->α5->ρ) (a:α0×α1×α2×α3×α4×α5):ρ:=f a.1 a.2.1 a.2.2.1 a.2.2.2.1 a.2.2.2.2.1 a.2.2.2.2.2
abbrev c7A {α0 α1 α2 α3 α4 α5 α6 ρ:Type} (f:α0->α1->α2->α3->α4->α5->α6->ρ) (a:α0×α1×α2×α3×α4×α5×α6):ρ:=f a.1 a.2.1 a.2.2.1 a.2.2.2.1 a.2.2.2.2.1 a.2.2.2.2.2.1 a.2.2.2.2.2.2
def dz :Nat->List VS->List VS
 |0,l=>l
 |n+1,l=>.dead::dz n l
abbrev Y19 :Tp:=.sl tI
abbrev Y18 :Tp:=.pair .str .str
abbrev Y17 :Tp:=.sl (.pair .str .str)
abbrev Y16 :Tp:=.pair (.sl .str) .str
abbrev Y15 :Tp:=.pair .str tI
abbrev Y14 :Tp:=.sl (.pair (.sl .str) .str)
abbrev Y13 :Tp:=.sl (.pair .str tI)
abbrev Y12 :Tp:=.pair tI (.sl tI)
abbrev Y11 :Tp:=.sl (.pair tI (.sl tI))
abbrev Y7 :Tp:=.pair .str (.pair tI (.pair tI tI))
abbrev Y6 :Tp:=.pair .str (.pair .str (.sl (.pair tI (.sl tI))))
abbrev Y5 :Tp:=.sl (.pair .str (.pair .str (.sl (.pair tI (.sl tI)))))
abbrev Y4 :Tp:=.pair tI (.pair (.sl (.pair .str .str)) (.sl (.pair .str tI)))
abbrev Y3 :Tp:=.sl (.pair tI (.pair (.sl (.pair .str .str)) (.sl (.pair .str tI))))
abbrev Y2 :Tp:=.pair (.sl (.pair tI (.pair (.sl (.pair .str .str)) (.sl (.pair .str tI))))) (.sl (.pair .str (.pair .str (.sl (.pair tI (.sl tI))))))
abbrev Y1 :Tp:=.pair (.pair (.sl (.pair tI (.pair (.sl (.pair .str .str)) (.sl (.pair .str tI))))) (.sl (.pair .str (.pair .str (.sl (.pair tI (.sl tI))))))) (.sl tI)
abbrev Y0 :Tp:=.sl (.pair (.pair (.sl (.pair tI (.pair (.sl (.pair .str .str)) (.sl (.pair .str tI))))) (.sl (.pair .str (.pair .str (.sl (.pair tI (.sl tI))))))) (.sl tI))
def jso :Sh:=⟨.pv (.sl .str)::pI::dz 3 (pI::dz 22 []),[]⟩
def jbK (b:List Z2) (d:Int):Z11:=
 (if fits (d-(b.length:Int))then bif decide ((d-(b.length:Int))<0)then some (-1)else(iter (fun h (e,c,a)=>bif decide (a<(e.length:Int))then oB (idx e a) fun f=>(if fits (c-(f.length:Int))then bif decide ((c-(f.length:Int))<0)then some (-1)else(if fits (a+1)then h (e,(c-(f.length:Int)),(a+1))else none)else none)else some c) N (b,(d-(b.length:Int)),(0:Int)))else none)
theorem jjn :mK 52 (bX [.pv (.sl .str),pI] [pI] (c2A (jbK N))):=
 mO ja func52 rfl N (.seq .no (.seq .no (.seq .no (.seq (.seq .no (.block (.loop jso .no))) .no)))) _
def jbp (d:List Z2) (b:List UInt8) (c:Int):Z11:=
 (oB (jbK N d c) fun a=>bif decide (a<0)then some (-1)else if fits (a-(b.length:Int))then bif decide ((a-(b.length:Int))<0)then some (-1)else(some (a-(b.length:Int)))else none)
theorem jsV :mK 109 (bX [.agg [.pv (.sl .str),pS],pI] [pI] (c3A (jbp N))):=
 mO (fC (jjn N) ja) func109 rfl N .no _
def jki :Sh:=⟨.pv Y14::pI::dz 3 (pI::dz 21 []),[]⟩
def jc6 (b:List Z4) (c:Int):Z11:=
 (if fits (c-(b.length:Int))then bif decide ((c-(b.length:Int))<0)then some (-1)else(iter (fun i (d,f,a)=>bif decide (a<(d.length:Int))then oB (idx d a) fun e=>(oB (jbp N e.1 e.2 f) fun h=>bif decide (h<0)then some (-1)else if fits (a+1)then i (d,h,(a+1))else none)else some f) N (b,(c-(b.length:Int)),(0:Int)))else none)
theorem jkX :mK 53 (bX [.pv Y14,pI] [pI] (c2A (jc6 N))):=
 mO (fC (jsV N) ja) func53 rfl N (.seq .no (.seq .no (.seq .no (.seq (.seq .no (.block (.loop jki .no))) .no)))) _
def jbD (d:List Z2) (e:List Z4) (c:Int):Z11:=
 (oB (jbK N d c) fun b=>bif decide (b<0)then some (-1)else oB (jc6 N e b) fun a=>bif decide (a<0)then some (-1)else some a)
theorem jm8 :mK 21 (bX [.agg [.pv (.sl .str),.pv Y14],pI] [pI] (c3A (jbD N))):=
 mO (fC (jjn N) (fC (jkX N) ja)) func21 rfl N .no _
def jaN (N:Nat) (a:List UInt8) (c:List UInt8) (b:Int):Z11:=
 (if fits (b-(a.length:Int))then bif decide ((b-(a.length:Int))<0)then some (-1)else(if fits ((b-(a.length:Int))-(c.length:Int))then bif decide (((b-(a.length:Int))-(c.length:Int))<0)then some (-1)else(some ((b-(a.length:Int))-(c.length:Int)))else none)else none)
theorem jpy :mK 152 (bX [.agg [pS,pS],pI] [pI] (c3A (jaN N))):=
 mO ja func152 rfl N .no _
def jms :Sh:=⟨.pv Y17::pI::dz 3 (pI::dz 21 []),[]⟩
def jdb (b:Z12) (c:Int):Z11:=
 (if fits (c-(b.length:Int))then bif decide ((c-(b.length:Int))<0)then some (-1)else(iter (fun i (d,f,a)=>bif decide (a<(d.length:Int))then oB (idx d a) fun e=>(oB (jaN N e.1 e.2 f) fun h=>bif decide (h<0)then some (-1)else if fits (a+1)then i (d,h,(a+1))else none)else some f) N (b,(c-(b.length:Int)),(0:Int)))else none)
theorem jns :mK 100 (bX [.pv Y17,pI] [pI] (c2A (jdb N))):=
 mO (fC (jpy N) ja) func100 rfl N (.seq .no (.seq .no (.seq .no (.seq (.seq .no (.block (.loop jms .no))) .no)))) _
def jaT (N:Nat) (a:List UInt8) (c:Int) (b:Int):Z11:=
 (if fits (b-(a.length:Int))then bif decide ((b-(a.length:Int))<0)then some (-1)else(some (b-(a.length:Int)))else none)
theorem joe :mK 153 (bX [.agg [pS,pI],pI] [pI] (c3A (jaT N))):=
 mO ja func153 rfl N .no _
def jkA :Sh:=⟨.pv Y13::pI::dz 3 (pI::dz 21 []),[]⟩
def jdV (b:Z7) (c:Int):Z11:=
 (if fits (c-(b.length:Int))then bif decide ((c-(b.length:Int))<0)then some (-1)else(iter (fun i (d,f,a)=>bif decide (a<(d.length:Int))then oB (idx d a) fun e=>(oB (jaT N e.1 e.2 f) fun h=>bif decide (h<0)then some (-1)else if fits (a+1)then i (d,h,(a+1))else none)else some f) N (b,(c-(b.length:Int)),(0:Int)))else none)
theorem jn5 :mK 101 (bX [.pv Y13,pI] [pI] (c2A (jdV N))):=
 mO (fC (joe N) ja) func101 rfl N (.seq .no (.seq .no (.seq .no (.seq (.seq .no (.block (.loop jkA .no))) .no)))) _
def jbq (f:Int) (e:Z12) (c:Z7) (d:Int):Z11:=
 (oB (jdb N e d) fun b=>bif decide (b<0)then some (-1)else oB (jdV N c b) fun a=>bif decide (a<0)then some (-1)else some a)
theorem jnC :mK 44 (bX [.agg [pI,.pv Y17,.pv Y13],pI] [pI] (c4A (jbq N))):=
 mO (fC (jns N) (fC (jn5 N) ja)) func44 rfl N .no _
def jqA :Sh:=⟨.pv Y3::pI::dz 3 (pI::dz 21 []),[]⟩
def jdo (b:List Z0) (c:Int):Z11:=
 (if fits (c-(b.length:Int))then bif decide ((c-(b.length:Int))<0)then some (-1)else(iter (fun i (d,f,a)=>bif decide (a<(d.length:Int))then oB (idx d a) fun e=>(oB (jbq N e.1 e.2.1 e.2.2 f) fun h=>bif decide (h<0)then some (-1)else if fits (a+1)then i (d,h,(a+1))else none)else some f) N (b,(c-(b.length:Int)),(0:Int)))else none)
theorem jsn :mK 15 (bX [.pv Y3,pI] [pI] (c2A (jdo N))):=
 mO (fC (jnC N) ja) func15 rfl N (.seq .no (.seq .no (.seq .no (.seq (.seq .no (.block (.loop jqA .no))) .no)))) _
def jeb (N:Nat) (a:List Int) (b:Int):Z11:=
 (if fits (b-(a.length:Int))then bif decide ((b-(a.length:Int))<0)then some (-1)else(some (b-(a.length:Int)))else none)
theorem jm4 :mK 111 (bX [.pv Y19,pI] [pI] (c2A (jeb N))):=
 mO ja func111 rfl N .no _
def jbb (d:Int) (c:List Int) (b:Int):Z11:=
 (oB (jeb N c b) fun a=>bif decide (a<0)then some (-1)else some a)
theorem jsZ :mK 227 (bX [.agg [pI,.pv Y19],pI] [pI] (c3A (jbb N))):=
 mO (fC (jm4 N) ja) func227 rfl N .no _
def joP :Sh:=⟨.pv Y11::pI::dz 3 (pI::dz 21 []),[]⟩
def jdz (b:List Z5) (c:Int):Z11:=
 (if fits (c-(b.length:Int))then bif decide ((c-(b.length:Int))<0)then some (-1)else(iter (fun i (d,f,a)=>bif decide (a<(d.length:Int))then oB (idx d a) fun e=>(oB (jbb N e.1 e.2 f) fun h=>bif decide (h<0)then some (-1)else if fits (a+1)then i (d,h,(a+1))else none)else some f) N (b,(c-(b.length:Int)),(0:Int)))else none)
theorem jnZ :mK 220 (bX [.pv Y11,pI] [pI] (c2A (jdz N))):=
 mO (fC (jsZ N) ja) func220 rfl N (.seq .no (.seq .no (.seq .no (.seq (.seq .no (.block (.loop joP .no))) .no)))) _
def jbj (b:List UInt8) (c:List UInt8) (e:List Z5) (a:Int):Z11:=
 (if fits (a-(b.length:Int))then bif decide ((a-(b.length:Int))<0)then some (-1)else(if fits ((a-(b.length:Int))-(c.length:Int))then bif decide (((a-(b.length:Int))-(c.length:Int))<0)then some (-1)else(oB (jdz N e ((a-(b.length:Int))-(c.length:Int))) fun d=>bif decide (d<0)then some (-1)else some d)else none)else none)
theorem joB :mK 200 (bX [.agg [pS,pS,.pv Y11],pI] [pI] (c4A (jbj N))):=
 mO (fC (jnZ N) ja) func200 rfl N .no _
def jtA :Sh:=⟨.pv Y5::pI::dz 3 (pI::dz 21 []),[]⟩
def jej (b:List Z1) (c:Int):Z11:=
 (if fits (c-(b.length:Int))then bif decide ((c-(b.length:Int))<0)then some (-1)else(iter (fun i (d,f,a)=>bif decide (a<(d.length:Int))then oB (idx d a) fun e=>(oB (jbj N e.1 e.2.1 e.2.2 f) fun h=>bif decide (h<0)then some (-1)else if fits (a+1)then i (d,h,(a+1))else none)else some f) N (b,(c-(b.length:Int)),(0:Int)))else none)
theorem jrU :mK 159 (bX [.pv Y5,pI] [pI] (c2A (jej N))):=
 mO (fC (joB N) ja) func159 rfl N (.seq .no (.seq .no (.seq .no (.seq (.seq .no (.block (.loop jtA .no))) .no)))) _
def jbR (d:List Z0) (e:List Z1) (c:Int):Z11:=
 (oB (jdo N d c) fun b=>bif decide (b<0)then some (-1)else oB (jej N e b) fun a=>bif decide (a<0)then some (-1)else some a)
theorem jpO :mK 110 (bX [.agg [.pv Y3,.pv Y5],pI] [pI] (c3A (jbR N))):=
 mO (fC (jsn N) (fC (jrU N) ja)) func110 rfl N .no _
def jJQ (e:List Z0) (f:List Z1) (c:List Int) (d:Int):Z11:=
 (oB (jbR N e f d) fun b=>bif decide (b<0)then some (-1)else oB (jeb N c b) fun a=>bif decide (a<0)then some (-1)else some a)
theorem jJg :mK 54 (bX [.agg [.pv Y3,.pv Y5,.pv Y19],pI] [pI] (c4A (jJQ N))):=
 mO (fC (jpO N) (fC (jm4 N) ja)) func54 rfl N .no _
def jJf :Sh:=⟨.pv Y0::pI::dz 3 (pI::dz 21 []),[]⟩
def jKm (b:List Z3) (c:Int):Z11:=
 (if fits (c-(b.length:Int))then bif decide ((c-(b.length:Int))<0)then some (-1)else(iter (fun i (d,f,a)=>bif decide (a<(d.length:Int))then oB (idx d a) fun e=>(oB (jJQ N e.1.1 e.1.2 e.2 f) fun h=>bif decide (h<0)then some (-1)else if fits (a+1)then i (d,h,(a+1))else none)else some f) N (b,(c-(b.length:Int)),(0:Int)))else none)
theorem jJA :mK 22 (bX [.pv Y0,pI] [pI] (c2A (jKm N))):=
 mO (fC (jJg N) ja) func22 rfl N (.seq .no (.seq .no (.seq .no (.seq (.seq .no (.block (.loop jJf .no))) .no)))) _
def jJ5 (e:List Z2) (f:List Z4) (c:List Z3) (d:Int):Z11:=
 (oB (jbD N e f d) fun b=>bif decide (b<0)then some (-1)else oB (jKm N c b) fun a=>bif decide (a<0)then some (-1)else some a)
theorem jIX :mK 6 (bX [.agg [.pv (.sl .str),.pv Y14,.pv Y0],pI] [pI] (c4A (jJ5 N))):=
 mO (fC (jm8 N) (fC (jJA N) ja)) func6 rfl N .no _
def jqD :Sh:=⟨.pv (.sl .str):: .dead:: .dead:: .mtk 600003 .str 9 true::pI::dz 17 [],[]⟩
def jci (b:List Z2):Option ((List Z2)):=
 (if(b.length:Int)=(b.length:Int)/\0<=(b.length:Int)/\(b.length:Int)*16<=140737488355328/\(b.length:Int)<=140737488355328 then iter (fun e (d,c,a)=>bif decide (a<(d.length:Int))then oB (idx d a) fun h=>(if 0<=a/\a<(c.length:Int)then oB (c[a.toNat]?) fun i=>(if fits (a+1)then e (d,(c.set a.toNat h),(a+1))else none)else none)else some c) N (b,(List.replicate (b.length:Int).toNat ([]:List UInt8)),(0:Int))else none)
theorem jiJ :mK 67 (bX [.pv (.sl .str)] [.own 1 .str 9 true] (c1A (jci N))):=
 mO ja func67 rfl N (.seq .no (.seq .no (.seq (.seq .no (.block (.loop jqD .no))) .no))) _ (wr:=[7])
def ja0 (b:List Z2) (a:List UInt8):Option Z4:=
 (oB (jci N b) fun c=>some (c,a))
theorem jr7 :mK 122 (bX [.agg [.pv (.sl .str),pS]] [.agg [.own 1 .str 9 true,pS]] (c2A (ja0 N))):=
 mO (fC (jiJ N) ja) func122 rfl N .no _ (dw:=[6])
def jos :Sh:=⟨.pv Y14:: .dead:: .dead:: .tre 600003 Y16 156::pI::dz 18 [],[]⟩
def jeh (b:List Z4):Option ((List Z4)):=
 (if(b.length:Int)=(b.length:Int)/\0<=(b.length:Int)/\(b.length:Int)*40<=140737488355328/\(b.length:Int)<=140737488355328 then iter (fun f (d,c,a)=>bif decide (a<(d.length:Int))then oB (idx d a) fun e=>(oB (ja0 N e.1 e.2) fun i=>if 0<=a/\a<(c.length:Int)then oB (c[a.toNat]?) fun j=>(if fits (a+1)then f (d,(c.set a.toNat i),(a+1))else none)else none)else some c) N (b,(List.replicate (b.length:Int).toNat (([]:List Z2),([]:List UInt8))),(0:Int))else none)
theorem jqR :mK 68 (bX [.pv Y14] [.own 1 Y16 156 true] (c1A (jeh N))):=
 mO (fC (jr7 N) ja) func68 rfl N (.seq .no (.seq .no (.seq (.seq .no (.block (.loop jos .no))) .no))) _ (wr:=[7]) (dw:=[20])
def jad (c:List Z2) (b:List Z4):Option ((List Z2)×(List Z4)):=
 (oB (jci N c) fun d=>oB (jeh N b) fun a=>some (d,a))
theorem jtJ :mK 28 (bX [.agg [.pv (.sl .str),.pv Y14]] [.agg [.own 1 .str 9 true,.own 2 Y16 156 true]] (c2A (jad N))):=
 mO (fC (jiJ N) (fC (jqR N) ja)) func28 rfl N .no _ (dw:=[6,10])
def jaW (N:Nat) (a:List UInt8) (b:List UInt8):Option (Z2×Z2):=
 (some (a,b))
theorem jlT :mK 155 (bX [.agg [pS,pS]] [.agg [pS,pS]] (c2A (jaW N))):=
 mO ja func155 rfl N .no _
def jp2 :Sh:=⟨.pv Y17:: .dead:: .dead:: .mtk 600003 Y18 116 true::pI::dz 18 [],[]⟩
def jdS (b:Z12):Option (Z13):=
 (if(b.length:Int)=(b.length:Int)/\0<=(b.length:Int)/\(b.length:Int)*32<=140737488355328/\(b.length:Int)<=140737488355328 then iter (fun f (d,c,a)=>bif decide (a<(d.length:Int))then oB (idx d a) fun e=>(oB (jaW N e.1 e.2) fun i=>if 0<=a/\a<(c.length:Int)then oB (c[a.toNat]?) fun j=>(if fits (a+1)then f (d,(c.set a.toNat i),(a+1))else none)else none)else some c) N (b,(List.replicate (b.length:Int).toNat (([]:List UInt8),([]:List UInt8))),(0:Int))else none)
theorem jmr :mK 103 (bX [.pv Y17] [.own 1 Y18 116 true] (c1A (jdS N))):=
 mO (fC (jlT N) ja) func103 rfl N (.seq .no (.seq .no (.seq (.seq .no (.block (.loop jp2 .no))) .no))) _ (wr:=[7]) (dw:=[20])
def jaX (N:Nat) (a:List UInt8) (b:Int):Option (Z2×Int):=
 (some (a,b))
theorem jnE :mK 156 (bX [.agg [pS,pI]] [.agg [pS,pI]] (c2A (jaX N))):=
 mO ja func156 rfl N .no _
def jpn :Sh:=⟨.pv Y13:: .dead:: .dead:: .mtk 600003 Y15 149 true::pI::dz 18 [],[]⟩
def jd3 (b:Z7):Option (Z9):=
 (if(b.length:Int)=(b.length:Int)/\0<=(b.length:Int)/\(b.length:Int)*24<=140737488355328/\(b.length:Int)<=140737488355328 then iter (fun f (d,c,a)=>bif decide (a<(d.length:Int))then oB (idx d a) fun e=>(oB (jaX N e.1 e.2) fun i=>if 0<=a/\a<(c.length:Int)then oB (c[a.toNat]?) fun j=>(if fits (a+1)then f (d,(c.set a.toNat i),(a+1))else none)else none)else some c) N (b,(List.replicate (b.length:Int).toNat (([]:List UInt8),0)),(0:Int))else none)
theorem jqJ :mK 104 (bX [.pv Y13] [.own 1 Y15 149 true] (c1A (jd3 N))):=
 mO (fC (jnE N) ja) func104 rfl N (.seq .no (.seq .no (.seq (.seq .no (.block (.loop jpn .no))) .no))) _ (wr:=[7]) (dw:=[20])
def jbv (d:Int) (c:Z12) (b:Z7):Option Z0:=
 (oB (jdS N c) fun e=>oB (jd3 N b) fun a=>some (d,e,a))
theorem jsM :mK 46 (bX [.agg [pI,.pv Y17,.pv Y13]] [.agg [pI,.own 1 Y18 116 true,.own 2 Y15 149 true]] (c3A (jbv N))):=
 mO (fC (jmr N) (fC (jqJ N) ja)) func46 rfl N .no _ (dw:=[9,13])
def jmB :Sh:=⟨.pv Y3:: .dead:: .dead:: .tre 600003 Y4 80::pI::dz 18 [],[]⟩
def jdO (b:List Z0):Z15:=
 (if(b.length:Int)=(b.length:Int)/\0<=(b.length:Int)/\(b.length:Int)*56<=140737488355328/\(b.length:Int)<=140737488355328 then iter (fun f (d,c,a)=>bif decide (a<(d.length:Int))then oB (idx d a) fun e=>(oB (jbv N e.1 e.2.1 e.2.2) fun i=>if 0<=a/\a<(c.length:Int)then oB (c[a.toNat]?) fun j=>(if fits (a+1)then f (d,(c.set a.toNat i),(a+1))else none)else none)else some c) N (b,(List.replicate (b.length:Int).toNat (0,([]:Z12),([]:Z7))),(0:Int))else none)
theorem jsQ :mK 17 (bX [.pv Y3] [.own 1 Y4 80 true] (c1A (jdO N))):=
 mO (fC (jsM N) ja) func17 rfl N (.seq .no (.seq .no (.seq (.seq .no (.block (.loop jmB .no))) .no))) _ (wr:=[7]) (dw:=[20])
def jng :Sh:=⟨.pv Y19:: .dead:: .dead:: .mtk 600003 tI 3 true::pI::dz 17 [],[]⟩
def jek (b:List Int):Z17:=
 (if(b.length:Int)=(b.length:Int)/\0<=(b.length:Int)/\(b.length:Int)*8<=140737488355328/\(b.length:Int)<=140737488355328 then iter (fun e (d,c,a)=>bif decide (a<(d.length:Int))then oB (idx d a) fun h=>(if 0<=a/\a<(c.length:Int)then oB (c[a.toNat]?) fun i=>(if fits (a+1)then e (d,(c.set a.toNat h),(a+1))else none)else none)else some c) N (b,(List.replicate (b.length:Int).toNat 0),(0:Int))else none)
theorem jqI :mK 124 (bX [.pv Y19] [.own 1 tI 3 true] (c1A (jek N))):=
 mO ja func124 rfl N (.seq .no (.seq .no (.seq (.seq .no (.block (.loop jng .no))) .no))) _ (wr:=[7])
def jbr (b:Int) (a:List Int):Option Z5:=
 (oB (jek N a) fun c=>some (b,c))
theorem jks :mK 228 (bX [.agg [pI,.pv Y19]] [.agg [pI,.own 1 tI 3 true]] (c2A (jbr N))):=
 mO (fC (jqI N) ja) func228 rfl N .no _ (dw:=[9])
def joy :Sh:=⟨.pv Y11:: .dead:: .dead:: .tre 600003 Y12 164::pI::dz 18 [],[]⟩
def jdx (b:List Z5):Option ((List Z5)):=
 (if(b.length:Int)=(b.length:Int)/\0<=(b.length:Int)/\(b.length:Int)*32<=140737488355328/\(b.length:Int)<=140737488355328 then iter (fun f (d,c,a)=>bif decide (a<(d.length:Int))then oB (idx d a) fun e=>(oB (jbr N e.1 e.2) fun i=>if 0<=a/\a<(c.length:Int)then oB (c[a.toNat]?) fun j=>(if fits (a+1)then f (d,(c.set a.toNat i),(a+1))else none)else none)else some c) N (b,(List.replicate (b.length:Int).toNat (0,([]:List Int))),(0:Int))else none)
theorem jpe :mK 221 (bX [.pv Y11] [.own 1 Y12 164 true] (c1A (jdx N))):=
 mO (fC (jks N) ja) func221 rfl N (.seq .no (.seq .no (.seq (.seq .no (.block (.loop joy .no))) .no))) _ (wr:=[7]) (dw:=[20])
def jaM (c:List UInt8) (b:List UInt8) (a:List Z5):Option Z1:=
 (oB (jdx N a) fun d=>some (c,b,d))
theorem jnB :mK 204 (bX [.agg [pS,pS,.pv Y11]] [.agg [pS,pS,.own 1 Y12 164 true]] (c3A (jaM N))):=
 mO (fC (jpe N) ja) func204 rfl N .no _ (dw:=[12])
def jk2 :Sh:=⟨.pv Y5:: .dead:: .dead:: .tre 600003 Y6 106::pI::dz 18 [],[]⟩
def jd4 (b:List Z1):Option ((List Z1)):=
 (if(b.length:Int)=(b.length:Int)/\0<=(b.length:Int)/\(b.length:Int)*56<=140737488355328/\(b.length:Int)<=140737488355328 then iter (fun f (d,c,a)=>bif decide (a<(d.length:Int))then oB (idx d a) fun e=>(oB (jaM N e.1 e.2.1 e.2.2) fun i=>if 0<=a/\a<(c.length:Int)then oB (c[a.toNat]?) fun j=>(if fits (a+1)then f (d,(c.set a.toNat i),(a+1))else none)else none)else some c) N (b,(List.replicate (b.length:Int).toNat (([]:List UInt8),([]:List UInt8),([]:List Z5))),(0:Int))else none)
theorem jsC :mK 165 (bX [.pv Y5] [.own 1 Y6 106 true] (c1A (jd4 N))):=
 mO (fC (jnB N) ja) func165 rfl N (.seq .no (.seq .no (.seq (.seq .no (.block (.loop jk2 .no))) .no))) _ (wr:=[7]) (dw:=[20])
def jZ (c:List Z0) (b:List Z1):Z20:=
 (oB (jdO N c) fun d=>oB (jd4 N b) fun a=>some (d,a))
theorem jqs :mK 123 (bX [.agg [.pv Y3,.pv Y5]] [.agg [.own 1 Y4 80 true,.own 2 Y6 106 true]] (c2A (jZ N))):=
 mO (fC (jsQ N) (fC (jsC N) ja)) func123 rfl N .no _ (dw:=[6,10])
def jJS (e:List Z0) (d:List Z1) (c:List Int):Option ((List Z0)×(List Z1)×(List Int)):=
 (oB (jZ N e d) fun a=>oB (jek N c) fun b=>some (a.1,a.2,b))
theorem jI5 :mK 69 (bX [.agg [.pv Y3,.pv Y5,.pv Y19]] [.agg [.own 1 Y4 80 true,.own 2 Y6 106 true,.own 3 tI 3 true]] (c3A (jJS N))):=
 mO (fC (jqs N) (fC (jqI N) ja)) func69 rfl N .no _ (dw:=[6,10])
def jIN :Sh:=⟨.pv Y0:: .dead:: .dead:: .tre 600003 Y1 62::pI::dz 18 [],[]⟩
def jKe (b:List Z3):Option ((List Z3)):=
 (if(b.length:Int)=(b.length:Int)/\0<=(b.length:Int)/\(b.length:Int)*72<=140737488355328/\(b.length:Int)<=140737488355328 then iter (fun h (d,c,a)=>bif decide (a<(d.length:Int))then oB (idx d a) fun e=>(oB (jJS N e.1.1 e.1.2 e.2) fun f=>if 0<=a/\a<(c.length:Int)then oB (c[a.toNat]?) fun j=>(if fits (a+1)then h (d,(c.set a.toNat ((f.1,f.2.1),f.2.2)),(a+1))else none)else none)else some c) N (b,(List.replicate (b.length:Int).toNat ((([]:List Z0),([]:List Z1)),([]:List Int))),(0:Int))else none)
theorem jJj :mK 29 (bX [.pv Y0] [.own 1 Y1 62 true] (c1A (jKe N))):=
 mO (fC (jI5 N) ja) func29 rfl N (.seq .no (.seq .no (.seq (.seq .no (.block (.loop jIN .no))) .no))) _ (wr:=[7]) (dw:=[20])
def jJM (e:List Z2) (d:List Z4) (c:List Z3):Z18:=
 (oB (jad N e d) fun a=>oB (jKe N c) fun b=>some (a.1,a.2,b))
theorem jJt :mK 8 (bX [.agg [.pv (.sl .str),.pv Y14,.pv Y0]] [.agg [.own 1 .str 9 true,.own 2 Y16 156 true,.own 3 Y1 62 true]] (c3A (jJM N))):=
 mO (fC (jtJ N) (fC (jJj N) ja)) func8 rfl N .no _ (dw:=[6,10])
def jt (N:Nat) (a:Int):Z11:=
 (bif decide ((65:Int)<=a)then bif decide (a<=90)then some (IntKind.u8.wrap (a+32))else(bif decide ((97:Int)<=a)then bif decide (a<=122)then some a else(bif decide ((48:Int)<=a)then bif decide (a<=57)then some a else(some 0)else some 0)else bif decide ((48:Int)<=a)then bif decide (a<=57)then some a else(some 0)else some 0)else bif decide ((97:Int)<=a)then bif decide (a<=122)then some a else(bif decide ((48:Int)<=a)then bif decide (a<=57)then some a else(some 0)else some 0)else bif decide ((48:Int)<=a)then bif decide (a<=57)then some a else(some 0)else some 0)
theorem jfG :mK 161 (bX [.pv (.int .u8)] [.pv (.int .u8)] (c1A (jt N))):=
 mO ja func161 rfl N .no _
def jJ (N:Nat) (a:Int) (b:Int) (c:Int):Z8:=
 (bif decide (b<=a)then some (decide (a<=c))else some false)
theorem jcL :mK 24 (bX [pI,pI,pI] [pB] (c3A (jJ N))):=
 mO ja func24 rfl N .no _
def jr5 :Sh:=⟨pS:: .dead:: .dead::pI::dz 23 [],[]⟩
def jT (f:List UInt8):Z8:=
 (iter (fun e (b,a)=>bif decide (a<(b.length:Int))then oB (idx b a) fun k=>(oB (jt N (k.toNat:Int)) fun i=>oB (idx b a) fun j=>bif !decide (i=(j.toNat:Int))then some false else oB (idx b a) fun c=>bif decide ((c.toNat:Int)=0)then some false else if fits (a+1)then e (b,(a+1))else none)else oB (jJ N (b.length:Int) 1 12) fun d=>some d) N (f,(0:Int)))
theorem jgp :mK 113 (bX [pS] [pB] (c1A (jT N))):=
 mO (fC (jfG N) (fC (jcL N) ja)) func113 rfl N (.seq .no (.seq (.seq .no (.block (.loop jr5 .no))) .no)) _
def jdI (N:Nat):Option ((List Z2)):=
 (some ([([105,110,103]:List UInt8),([101,100]:List UInt8),([101,115]:List UInt8),([108,121]:List UInt8),([115]:List UInt8)]:List Z2))
theorem jkj :mK 201 ⟨⟨[],[]⟩,⟨[.own 1 .str 9 true],[]⟩,fun a=>jdI N⟩:=
 mO ja func201 rfl N .no _
def jl2 :Sh:=⟨pS:: .dead:: .dead::pI::dz 30 [],[]⟩
def ja6 (f:List UInt8):Option (Z2):=
 (iter (fun d (a,b)=>oB (jdI N) fun k=>bif decide (b<(k.length:Int))then oB (jdI N) fun e=>(oB (idx e b) fun c=>if fits ((a.length:Int)-(c.length:Int))then bif decide ((3:Int)<=((a.length:Int)-(c.length:Int)))then oB (cut a ((a.length:Int)-(c.length:Int)) (a.length:Int)) fun i=>(bif decide (i=c)then oB (cut a 0 ((a.length:Int)-(c.length:Int))) fun j=>(some j)else if fits (b+1)then d (a,(b+1))else none)else(if fits (b+1)then d (a,(b+1))else none)else none)else some a) N (f,(0:Int)))
theorem jtL :mK 162 (bX [pS] [pS] (c1A (ja6 N))):=
 mO (fC (jkj N) ja) func162 rfl N (.seq .no (.seq (.seq .no (.block (.loop jl2 .no))) .no)) _
def jto :Sh:=⟨pS::dz 9 [],[]⟩
def jaq (c:List UInt8):Option (Z2):=
 (iter (fun d (a:Z2)=>let s2:=a;(oB (ja6 N s2) fun e=>bif !decide (e=s2)then oB (ja6 N s2) fun b=>(d b)else some s2)) N c)
theorem jfZ :mK 114 (bX [pS] [pS] (c1A (jaq N))):=
 mO (fC (jtL N) ja) func114 rfl N (.seq .no (.seq (.block (.loop jto .no)) .no)) _
def jlY :Sh:=⟨.pv (.sl .str)::pS::dz 3 (pI::dz 12 []),[]⟩
def jap (i:List Z2) (d:List UInt8):Z8:=
 (iter (fun e (b,c,a)=>bif decide (a<(b.length:Int))then oB (idx b a) fun h=>(bif decide (h=c)then some true else if fits (a+1)then e (b,c,(a+1))else none)else some false) N (i,d,(0:Int)))
theorem jhP :mK 115 (bX [.pv (.sl .str),pS] [pB] (c2A (jap N))):=
 mO ja func115 rfl N (.seq .no (.seq (.seq .no (.block (.loop jlY .no))) .no)) _
def jrs :Sh:=⟨.dead:: .box 1 0:: .dead::pI::dz 114 [],[(1,false,[.pv (.sl .str),.pv Y14])]⟩
def js0 :Sh:=⟨.dead:: .box 1 0:: .dead:: .dead::pI::dz 113 [],[(1,false,[.pv (.sl .str),.pv Y14])]⟩
def jrc :Sh:=⟨.dead:: .box 1 0:: .dead:: .dead::pI:: .box 5 0::pI::dz 111 [],[(1,false,[.pv (.sl .str),.pv Y14]),(5,false,[.pv (.sl .str),pS])]⟩
def jcw (B:List Z2) (x:List Z4):Z8:=
 (iter (fun o (a,c,k)=>bif decide (a<(c.length:Int))then oB (idx c a) fun C=>(oB (jT N C) fun H=>bif !H then some false else bif decide ((0:Int)<a)then oB (idx c a) fun q=>(if fits (a-1)then oB (idx c (a-1)) fun n=>(bif Op.bytesLess q n||decide (q=n)then some false else if fits (a+1)then o ((a+1),c,k)else none)else none)else if fits (a+1)then o ((a+1),c,k)else none)else iter (fun D (j,m,h)=>bif decide (j<(h.length:Int))then oB (idx h j) fun p=>(iter (fun G (l,b,i,r,d,f)=>bif decide (b<(d.length:Int))then oB (idx d b) fun I=>(oB (jT N I) fun z=>bif !z then some false else oB (idx d b) fun v=>oB (jaq N v) fun y=>oB (idx d b) fun w=>bif !decide (y=w)then some false else oB (idx d b) fun K=>oB (jap N i K) fun u=>bif u then some false else if fits (b+1)then G (l,(b+1),i,r,d,f)else none)else oB (jJ N (d.length:Int) 1 3) fun E=>bif !E then some false else oB (jT N f) fun A=>bif !A then some false else oB (jaq N f) fun t=>bif !decide (t=f)then some false else if fits (l+1)then D ((l+1),i,r)else none) N (j,(0:Int),m,h,p.1,p.2))else bif decide ((m.length:Int)<=6)then some (decide ((h.length:Int)<=4))else some false) N ((0:Int),c,k)) N ((0:Int),B,x))
theorem jtf :mK 58 (bX [.agg [.pv (.sl .str),.pv Y14]] [pB] (c2A (jcw N))):=
 mO (fC (jgp N) (fC (jfZ N) (fC (jhP N) (fC (jcL N) ja)))) func58 rfl N (.seq .no (.seq (.seq .no (.block (.loop jrs .no))) (.seq (.seq .no (.block (.loop js0 (.seq .no (.seq (.block (.seq .no (.seq (.seq .no (.block (.loop jrc .no))) .no))) .no))))) .no))) _
def jot :Sh:=⟨pS:: .dead:: .dead::pI::dz 19 [],[]⟩
def jcu (c:List UInt8):Z8:=
 (iter (fun d (b,a)=>bif decide (a<(b.length:Int))then oB (idx b a) fun h=>(bif decide ((h.toNat:Int)<32)then some false else oB (idx b a) fun f=>bif decide ((126:Int)<(f.toNat:Int))then some false else if fits (a+1)then d (b,(a+1))else none)else some (decide ((b.length:Int)<=160))) N (c,(0:Int)))
theorem jpZ :mK 154 (bX [pS] [pB] (c1A (jcu N))):=
 mO ja func154 rfl N (.seq .no (.seq (.seq .no (.block (.loop jot .no))) .no)) _
def jp0 :Sh:=⟨.dead:: .box 1 0:: .dead::pI::dz 100 [],[(1,false,[pI,.pv Y17,.pv Y13])]⟩
def jtP :Sh:=⟨.dead:: .box 1 0::dz 3 (pI::dz 98 []),[(1,false,[pI,.pv Y17,.pv Y13])]⟩
def jcb (y:Int) (q:Z12) (B:Z7):Z8:=
 (iter (fun m (b,i,d,f)=>bif decide (b<(d.length:Int))then oB (idx d b) fun e=>(oB (jT N e.1) fun A=>bif !A then some false else oB (jcu N e.2) fun u=>bif !u then some false else bif decide ((0:Int)<b)then if fits (b-1)then oB (idx d (b-1)) fun o=>(bif Op.bytesLess e.1 o.1||decide (e.1=o.1)then some false else if fits (b+1)then m ((b+1),i,d,f)else none)else none else if fits (b+1)then m ((b+1),i,d,f)else none)else iter (fun n (a,h,j,c)=>bif decide (a<(c.length:Int))then oB (idx c a) fun w=>(oB (jT N w.1) fun t=>bif !t then some false else oB (idx c a) fun x=>oB (jJ N x.2 0 999999999) fun r=>bif !r then some false else bif decide ((0:Int)<a)then oB (idx c a) fun p=>(if fits (a-1)then oB (idx c (a-1)) fun l=>(bif Op.bytesLess p.1 l.1||decide (p.1=l.1)then some false else if fits (a+1)then n ((a+1),h,j,c)else none)else none)else if fits (a+1)then n ((a+1),h,j,c)else none)else oB (jJ N h 1 9999) fun z=>bif z then oB (jJ N (j.length:Int) 0 3) fun v=>(bif v then some (decide ((c.length:Int)<=3))else some false)else some false) N ((0:Int),i,d,f)) N ((0:Int),y,q,B))
theorem jpD :mK 102 (bX [.agg [pI,.pv Y17,.pv Y13]] [pB] (c3A (jcb N))):=
 mO (fC (jgp N) (fC (jpZ N) (fC (jcL N) ja))) func102 rfl N (.seq .no (.seq (.seq .no (.block (.loop jp0 .no))) (.seq (.seq .no (.block (.loop jtP .no))) .no))) _
def jkS :Sh:=⟨.pv Y3:: .dead:: .dead::pI::dz 33 [],[]⟩
def jbU (j:List Z0):Z8:=
 (iter (fun d (b,a)=>bif decide (a<(b.length:Int))then oB (idx b a) fun c=>(oB (jcb N c.1 c.2.1 c.2.2) fun i=>bif !i then some false else bif decide ((0:Int)<a)then oB (idx b a) fun h=>(if fits (a-1)then oB (idx b (a-1)) fun e=>(bif decide (h.1<=e.1)then some false else if fits (a+1)then d (b,(a+1))else none)else none)else if fits (a+1)then d (b,(a+1))else none)else some (decide ((b.length:Int)<=16))) N (j,(0:Int)))
theorem jpx :mK 45 (bX [.pv Y3] [pB] (c1A (jbU N))):=
 mO (fC (jpD N) ja) func45 rfl N (.seq .no (.seq (.seq .no (.block (.loop jkS .no))) .no)) _
def jl5 :Sh:=⟨.pv (.sl .str)::pS::dz 3 (pI::dz 42 []),[]⟩
def s_l7Put_m (t:List Z2) (m:List UInt8):Option ((List Z2)):=
 (iter (fun n (a,c,b)=>bif decide (b<(a.length:Int))then oB (idx a b) fun p=>(bif Op.bytesLess p c then if fits (b+1)then n (a,c,(b+1))else none else bif decide (b<(a.length:Int))then oB (idx a b) fun r=>(bif decide (r=c)then some a else oB (cut a 0 b) fun f=>if room ([]:List Z2).length f.length 16 then if room (([]:List Z2)++f).length ([c]:List Z2).length 16 then oB (cut a b (a.length:Int)) fun l=>(if room ((([]:List Z2)++f)++([c]:List Z2)).length l.length 16 then some (((([]:List Z2)++f)++([c]:List Z2))++l)else none)else none else none)else oB (cut a 0 b) fun e=>if room ([]:List Z2).length e.length 16 then if room (([]:List Z2)++e).length ([c]:List Z2).length 16 then oB (cut a b (a.length:Int)) fun k=>(if room ((([]:List Z2)++e)++([c]:List Z2)).length k.length 16 then some (((([]:List Z2)++e)++([c]:List Z2))++k)else none)else none else none)else bif decide (b<(a.length:Int))then oB (idx a b) fun o=>(bif decide (o=c)then some a else oB (cut a 0 b) fun h=>if room ([]:List Z2).length h.length 16 then if room (([]:List Z2)++h).length ([c]:List Z2).length 16 then oB (cut a b (a.length:Int)) fun j=>(if room ((([]:List Z2)++h)++([c]:List Z2)).length j.length 16 then some (((([]:List Z2)++h)++([c]:List Z2))++j)else none)else none else none)else oB (cut a 0 b) fun d=>if room ([]:List Z2).length d.length 16 then if room (([]:List Z2)++d).length ([c]:List Z2).length 16 then oB (cut a b (a.length:Int)) fun i=>(if room ((([]:List Z2)++d)++([c]:List Z2)).length i.length 16 then some (((([]:List Z2)++d)++([c]:List Z2))++i)else none)else none else none) N (t,m,(0:Int)))
theorem jgt :mK 118 (bX [.pv (.sl .str),pS] [.pv (.sl .str)] (c2A (s_l7Put_m N))):=
 mO ja func118 rfl N (.seq .no (.seq .no (.seq (.block (.loop jl5 .no)) .no))) _
def joT :Sh:=⟨.pv Y3:: .dead:: .dead:: .pv (.sl .str)::pI::dz 30 [],[]⟩
def jkn :Sh:=⟨.pv Y3:: .dead:: .dead:: .pv (.sl .str)::pI::pI::dz 29 [],[]⟩
def s_l7Names_m (j:List Z0):Option ((List Z2)):=
 (iter (fun k (f,h,e)=>bif decide (e<(f.length:Int))then iter (fun m (c,i,a,b)=>oB (idx c a) fun n=>bif decide (b<(n.2.1.length:Int))then oB (idx c a) fun o=>(oB (idx o.2.1 b) fun l=>oB (s_l7Put_m N i l.1) fun p=>if fits (b+1)then m (c,p,a,(b+1))else none)else if fits (a+1)then k (c,i,(a+1))else none) N (f,h,e,(0:Int))else some h) N (j,([]:List Z2),(0:Int)))
theorem jlz :mK 63 (bX [.pv Y3] [.pv (.sl .str)] (c1A (s_l7Names_m N))):=
 mO (fC (jgt N) ja) func63 rfl N (.seq .no (.seq .no (.seq (.seq .no (.block (.loop joT (.seq .no (.seq (.block (.seq .no (.block (.loop jkn .no)))) .no))))) .no))) _
def jl8 :Sh:=⟨.dead::pS:: .box 2 0:: .dead:: .dead::pI::dz 21 [],[(2,false,[pI,.pv Y17,.pv Y13])]⟩
def s_l6Field_m (f:Int) (j:Z12) (n:Z7) (m:List UInt8):Option (Z2):=
 (iter (fun d (c,a,i,b,k)=>bif decide (a<(b.length:Int))then oB (idx b a) fun h=>(bif decide (h.1=c)then oB (idx b a) fun l=>(some l.2)else if fits (a+1)then d (c,(a+1),i,b,k)else none)else some ([]:List UInt8)) N (m,(0:Int),f,j,n))
theorem jhA :mK 120 (bX [.agg [pI,.pv Y17,.pv Y13],pS] [pS] (c4A (s_l6Field_m N))):=
 mO ja func120 rfl N (.seq .no (.seq (.seq .no (.block (.loop jl8 .no))) .no)) _
def jo3 :Sh:=⟨pS:: .dead:: .dead:: .own 600003 Y7 174 true::pI::dz 50 [],[]⟩
def jm6 :Sh:=⟨pS:: .dead:: .dead:: .own 600003 Y7 174 true::pI:: .own 600005 (.int .u8) 5 true::pI::dz 48 [],[]⟩
def jtK :Sh:=⟨pS:: .dead:: .dead:: .own 600003 Y7 174 true::pI:: .pv (.sl (.int .u8))::pI::dz 48 [],[]⟩
def jb3 (z:List UInt8):Option ((List Z10)):=
 (iter (fun l (r,x,m)=>bif decide (m<(r.length:Int))then iter (fun C (b,h,a,c,k)=>bif decide (a<(b.length:Int))then oB (idx b a) fun G=>(oB (jt N (G.toNat:Int)) fun E=>bif !decide (E=0)then oB (idx b a) fun A=>(oB (jt N (A.toNat:Int)) fun v=>if room c.length ([v]:List Int).length 1 then if fits (a+1)then C (b,h,(a+1),(c++([v]:List Int)),k)else none else none)else meet (fun(d:Z2×(List Z10)×Int×(List Int)×Int)=>match d with|(w,i,f,o,u)=>bif decide ((0:Int)<o.length)then if room i.length ([((bytesOf o),(i.length:Int),u,f)]:List Z10).length 40 then if fits (f+1)then l (w,(i++([((bytesOf o),(i.length:Int),u,f)]:List Z10)),(f+1))else none else none else if fits (f+1)then l (w,i,(f+1))else none) fun q=>bif decide ((12:Int)<c.length)then oB (cut c 0 12) fun B=>(q (b,h,a,B,k))else q (b,h,a,c,k))else meet (fun(d:Z2×(List Z10)×Int×(List Int)×Int)=>match d with|(y,j,e,n,p)=>bif decide ((0:Int)<n.length)then if room j.length ([((bytesOf n),(j.length:Int),p,e)]:List Z10).length 40 then if fits (e+1)then l (y,(j++([((bytesOf n),(j.length:Int),p,e)]:List Z10)),(e+1))else none else none else if fits (e+1)then l (y,j,(e+1))else none) fun t=>bif decide ((12:Int)<c.length)then oB (cut c 0 12) fun D=>(t (b,h,a,D,k))else t (b,h,a,c,k)) N (r,x,m,([]:List Int),m)else some x) N (z,([]:List Z10),(0:Int)))
theorem jsr :mK 202 (bX [pS] [.own 1 Y7 174 true] (c1A (jb3 N))):=
 mO (fC (jfG N) ja) func202 rfl N (.seq .no (.seq .no (.seq (.seq .no (.block (.loop jo3 (.seq .no (.seq (.block (.seq .no (.seq .no (.seq (.block (.loop jm6 .no)) (.meet jtK .no .no))))) .no))))) .no))) _
def jmf :Sh:=⟨.dead:: .dead:: .box 2 0:: .dead:: .dead:: .own 600005 Y15 120 true:: .own 600006 Y7 174 true::pI::dz 43 [],[(2,false,[.pv (.sl .str),.pv Y14])]⟩
def jbY (r:List Z2) (l:List Z4) (j:List UInt8):Option (Z9):=
 (oB (jb3 N j) fun q=>iter (fun f (d,b,a,c,h)=>bif decide (a<(b.length:Int))then oB (idx b a) fun o=>(oB (jaq N o.1) fun e=>oB (idx b a) fun p=>oB (jap N c p.1) fun m=>bif !m then oB (jap N c e) fun k=>(bif !k then oB (idx b a) fun i=>(if room d.length ([(e,i.2.1)]:Z7).length 24 then if fits (a+1)then f ((d++([(e,i.2.1)]:Z7)),b,(a+1),c,h)else none else none)else if fits (a+1)then f (d,b,(a+1),c,h)else none)else if fits (a+1)then f (d,b,(a+1),c,h)else none)else some d) N (([]:Z7),q,(0:Int),r,l))
theorem jrk :mK 163 (bX [.agg [.pv (.sl .str),.pv Y14],pS] [.own 1 Y15 120 true] (c3A (jbY N))):=
 mO (fC (jsr N) (fC (jfZ N) (fC (jhP N) ja))) func163 rfl N (.seq .no (.seq .no (.seq .no (.seq (.seq .no (.block (.loop jmf .no))) .no)))) _
def jrL :Sh:=⟨.pv Y13:: .pv (.sl .str)::dz 3 (pI::dz 36 []),[]⟩
def jcC (l:Z7) (k:List Z2):Z8:=
 (iter (fun e (b,c,a)=>bif decide (a<(c.length:Int))then bif decide ((b.length:Int)<=a)then some false else(oB (idx b a) fun i=>oB (idx c a) fun j=>bif !decide (i.1=j)then some false else oB (idx b a) fun f=>oB (idx b 0) fun d=>if fits (d.2+a)then bif !decide (f.2=(d.2+a))then some false else(if fits (a+1)then e (b,c,(a+1))else none)else none)else some true) N (l,k,(0:Int)))
theorem jtg :mK 203 (bX [.pv Y13,.pv (.sl .str)] [pB] (c2A (jcC N))):=
 mO ja func203 rfl N (.seq .no (.seq (.seq .no (.block (.loop jrL .no))) .no)) _
def jlL :Sh:=⟨.dead:: .pv Y13:: .box 2 0:: .dead:: .dead::pI::pI::dz 38 [],[(2,false,[.pv (.sl .str),.pv Y14])]⟩
def jcJ (n:List Z2) (m:List Z4) (o:Z7):Z11:=
 (iter (fun f (d,c,a,e,b)=>bif decide (a<(b.length:Int))then oB (idx b a) fun j=>(oB (jcC N d j.1) fun l=>bif l then bif decide (c<0)then if fits (a+1)then f (d,a,(a+1),e,b)else none else(oB (idx b a) fun k=>oB (idx b c) fun h=>bif decide ((h.1.length:Int)<(k.1.length:Int))then if fits (a+1)then f (d,a,(a+1),e,b)else none else if fits (a+1)then f (d,c,(a+1),e,b)else none)else if fits (a+1)then f (d,c,(a+1),e,b)else none)else some c) N (o,((-1):Int),(0:Int),n,m))
theorem jqp :mK 164 (bX [.agg [.pv (.sl .str),.pv Y14],.pv Y13] [pI] (c3A (jcJ N))):=
 mO (fC (jtg N) ja) func164 rfl N (.seq .no (.seq .no (.seq (.seq .no (.block (.loop jlL .no))) .no))) _
def jnK :Sh:=⟨.dead:: .dead:: .box 2 0:: .dead:: .dead:: .own 600005 Y15 120 true:: .pv Y13::dz 45 [],[(2,false,[.pv (.sl .str),.pv Y14])]⟩
def ja5 (l:List Z2) (f:List Z4) (m:List UInt8):Option (Z9):=
 (oB (jbY N l f m) fun r=>iter (fun h (c,a,e,b)=>bif decide ((0:Int)<a.length)then oB (jcJ N e b a) fun d=>(bif decide (d<0)then oB (idx a 0) fun j=>(if room c.length ([j]:Z7).length 24 then oB (cut a 1 (a.length:Int)) fun n=>(h ((c++([j]:Z7)),n,e,b))else none)else oB (idx b d) fun k=>oB (idx a 0) fun i=>if room c.length ([(k.2,i.2)]:Z7).length 24 then oB (idx b d) fun o=>(oB (cut a (o.1.length:Int) (a.length:Int)) fun q=>h ((c++([(k.2,i.2)]:Z7)),q,e,b))else none)else some c) N (([]:Z7),r,l,f))
theorem jiO :mK 119 (bX [.agg [.pv (.sl .str),.pv Y14],pS] [.own 1 Y15 120 true] (c3A (ja5 N))):=
 mO (fC (jrk N) (fC (jqp N) ja)) func119 rfl N (.seq .no (.seq .no (.seq .no (.seq (.block (.loop jnK .no)) .no)))) _
def jn9 :Sh:=⟨.dead:: .pv Y3::pS:: .box 3 0::dz 3 (.pv (.sl .str)::pI::dz 31 []),[(3,false,[.pv (.sl .str),.pv Y14])]⟩
def jrT :Sh:=⟨.dead:: .pv Y3::pS:: .box 3 0::dz 3 (.pv (.sl .str)::pI:: .own 600009 Y15 120 true::pI::dz 29 []),[(3,false,[.pv (.sl .str),.pv Y14])]⟩
def s_l7Terms_m (A:List Z2) (t:List Z4) (r:List Z0) (B:List UInt8):Option ((List Z2)):=
 (iter (fun w (d,p,o,b,m,n)=>bif decide (b<(d.length:Int))then oB (idx d b) fun f=>(oB (s_l6Field_m N f.1 f.2.1 f.2.2 p) fun z=>oB (ja5 N m n z) fun v=>iter (fun x (j,l,k,c,h,a,i,q)=>bif decide (a<(h.length:Int))then oB (idx h a) fun y=>(oB (s_l7Put_m N k y.1) fun u=>if fits (a+1)then x (j,l,u,c,h,(a+1),i,q)else none)else if fits (c+1)then w (j,l,k,(c+1),i,q)else none) N (d,p,o,b,v,(0:Int),m,n))else some o) N (r,B,([]:List Z2),(0:Int),A,t))
theorem jqQ :mK 64 (bX [.agg [.pv (.sl .str),.pv Y14],.pv Y3,pS] [.pv (.sl .str)] (c4A (s_l7Terms_m N))):=
 mO (fC (jhA N) (fC (jiO N) (fC (jgt N) ja))) func64 rfl N (.seq .no (.seq .no (.seq (.seq .no (.block (.loop jn9 (.seq .no (.seq (.block (.seq .no (.seq .no (.block (.loop jrT .no))))) .no))))) .no))) _
def jnY :Sh:=⟨dz 3 (pS::dz 5 (.own 600009 tI 3 true:: .own 600010 Y15 120 true::pI::dz 28 [])),[]⟩
def s_l7Post_m (q:List Z2) (k:List Z4) (n:Int) (i:Z12) (r:Z7) (h:List UInt8) (j:List UInt8):Z17:=
 (oB (s_l6Field_m N n i r h) fun p=>oB (ja5 N q k p) fun l=>iter (fun e (d,c,b,a)=>bif decide (a<(b.length:Int))then oB (idx b a) fun o=>(bif decide (o.1=d)then oB (idx b a) fun f=>(if room c.length ([f.2]:List Int).length 8 then if fits (a+1)then e (d,(c++([f.2]:List Int)),b,(a+1))else none else none)else if fits (a+1)then e (d,c,b,(a+1))else none)else some c) N (j,([]:List Int),l,(0:Int)))
theorem js6 :mK 121 (bX [.agg [.pv (.sl .str),.pv Y14],.agg [pI,.pv Y17,.pv Y13],pS,pS] [.own 1 tI 3 true] (c7A (s_l7Post_m N))):=
 mO (fC (jhA N) (fC (jiO N) ja)) func121 rfl N (.seq .no (.seq .no (.seq .no (.seq (.seq .no (.block (.loop jnY .no))) .no)))) _
def jkw :Sh:=⟨.dead:: .pv Y3::pS::pS:: .box 4 0::dz 3 (.box 8 0:: .box 9 0::pI::dz 34 []),[(4,false,[.pv (.sl .str),.pv Y14]),(8,false,[pS,pS,.nils]),(9,false,[pS,pS,.own 700902 Y12 164 true])]⟩
def s_l7Entry_m (w:List Z2) (u:List Z4) (t:List Z0) (r:List UInt8) (n:List UInt8):Option Z1:=
 (iter (fun p (b,k,j,a,d,f,m,o,h,i,c)=>bif decide (a<(b.length:Int))then oB (idx b a) fun e=>(oB (s_l7Post_m N d f e.1 e.2.1 e.2.2 k j) fun l=>bif decide ((0:Int)<l.length)then oB (idx b a) fun q=>(if room c.length ([(q.1,l)]:List Z5).length 32 then if fits (a+1)then p (b,k,j,(a+1),d,f,m,o,h,i,(c++([(q.1,l)]:List Z5)))else none else none)else if fits (a+1)then p (b,k,j,(a+1),d,f,m,o,h,i,c)else none)else some (h,i,c)) N (t,r,n,(0:Int),w,u,([]:List UInt8),([]:List UInt8),r,n,([]:List Z5)))
theorem jtr :mK 65 (bX [.agg [.pv (.sl .str),.pv Y14],.pv Y3,pS,pS] [.agg [pS,pS,.own 1 Y12 164 true]] (c5A (s_l7Entry_m N))):=
 mO (fC (js6 N) ja) func65 rfl N (.seq .no (.seq .no (.seq (.seq .no (.block (.loop jkw .no))) .no))) _
def s_l7CopyDoc_m (N:Nat) (c:Int) (a:Z12) (b:Z7):Option Z0:=
 (if room ([]:Z12).length a.length 32 then if room ([]:Z7).length b.length 24 then some (c,(([]:Z12)++a),(([]:Z7)++b))else none else none)
theorem jtC :mK 66 (bX [.agg [pI,.pv Y17,.pv Y13]] [.agg [pI,.own 1 Y18 116 true,.own 2 Y15 149 true]] (c3A (s_l7CopyDoc_m N))):=
 mO ja func66 rfl N .no _
def jn8 :Sh:=⟨.dead:: .pv Y3:: .box 2 0:: .dead:: .box 4 0:: .box 5 0:: .pv (.sl .str)::pI::dz 58 [],[(2,false,[.pv (.sl .str),.pv Y14]),(4,false,[.nils,.nils]),(5,false,[.nils,.own 700501 Y6 106 true])]⟩
def jpr :Sh:=⟨.dead:: .pv Y3:: .box 2 0:: .dead:: .box 4 0:: .box 5 0:: .pv (.sl .str)::pI:: .pv (.sl .str)::pI::dz 56 [],[(2,false,[.pv (.sl .str),.pv Y14]),(4,false,[.nils,.nils]),(5,false,[.nils,.own 700501 Y6 106 true])]⟩
def jn0 :Sh:=⟨.dead:: .pv Y3:: .dead:: .dead:: .box 4 0:: .box 5 0::dz 4 (pI::dz 55 []),[(4,false,[.nils,.nils]),(5,false,[.own 700500 Y4 80 true,.own 700501 Y6 106 true])]⟩
def s_l7Of_m (K:List Z2) (z:List Z4) (t:List Z0):Z20:=
 (oB (s_l7Names_m N t) fun I=>iter (fun B (m,i,f,x,y,r)=>bif decide (f<(i.length:Int))then oB (idx i f) fun D=>(oB (s_l7Terms_m N x y m D) fun A=>iter (fun E (q,n,c,o,b,j,p,k)=>bif decide (b<(o.length:Int))then oB (idx n c) fun H=>(oB (idx o b) fun C=>oB (s_l7Entry_m N j p q H C) fun v=>if room k.length ([v]:List Z1).length 56 then if fits (b+1)then E (q,n,c,o,(b+1),j,p,(k++([v]:List Z1)))else none else none)else if fits (c+1)then B (q,n,(c+1),j,p,k)else none) N (m,i,f,A,(0:Int),x,y,r))else iter (fun G (h,d,e,w)=>bif decide (d<(h.length:Int))then oB (idx h d) fun l=>(oB (s_l7CopyDoc_m N l.1 l.2.1 l.2.2) fun u=>if room e.length ([u]:List Z0).length 56 then if fits (d+1)then G (h,(d+1),(e++([u]:List Z0)),w)else none else none)else some (e,w)) N (m,(0:Int),([]:List Z0),r)) N (t,I,(0:Int),K,z,([]:List Z1)))
theorem jmU :mK 27 (bX [.agg [.pv (.sl .str),.pv Y14],.pv Y3] [.agg [.own 1 Y4 80 true,.own 2 Y6 106 true]] (c3A (s_l7Of_m N))):=
 mO (fC (jlz N) (fC (jqQ N) (fC (jtr N) (fC (jtC N) ja)))) func27 rfl N (.seq .no (.seq .no (.seq .no (.seq (.seq .no (.block (.loop jn8 (.seq .no (.seq (.block (.seq .no (.seq .no (.block (.loop jpr .no))))) .no))))) (.seq (.seq .no (.block (.loop jn0 .no))) .no))))) _
def jnI :Sh:=⟨.pv Y19:: .pv Y19::dz 3 (pI::dz 20 []),[]⟩
def jb1 (c:List Int) (d:List Int):Z8:=
 (bif !decide ((c.length:Int)=(d.length:Int))then some false else iter (fun f (b,e,a)=>bif decide (a<(b.length:Int))then oB (idx b a) fun h=>(oB (idx e a) fun j=>bif !decide (h=j)then some false else if fits (a+1)then f (b,e,(a+1))else none)else some true) N (c,d,(0:Int)))
theorem jlH :mK 160 (bX [.pv Y19,.pv Y19] [pB] (c2A (jb1 N))):=
 mO ja func160 rfl N (.seq .no (.seq .no (.seq (.seq .no (.block (.loop jnI .no))) .no))) _
def jnx :Sh:=⟨.dead:: .dead:: .box 2 0:: .box 3 0:: .dead::pI::dz 57 [],[(2,false,[pS,pS,.pv Y11]),(3,false,[pS,pS,.pv Y11])]⟩
def jbQ (i:List UInt8) (h:List UInt8) (j:List Z5) (e:List UInt8) (f:List UInt8) (d:List Z5):Z8:=
 (bif !decide (i=e)then some false else bif !decide (h=f)then some false else bif !decide ((j.length:Int)=(d.length:Int))then some false else iter (fun l (a,k,v,b,u,q,c)=>bif decide (a<(b.length:Int))then oB (idx b a) fun o=>(oB (idx c a) fun r=>bif !decide (o.1=r.1)then some false else oB (idx b a) fun m=>oB (idx c a) fun n=>oB (jb1 N m.2 n.2) fun t=>bif !t then some false else if fits (a+1)then l ((a+1),k,v,b,u,q,c)else none)else some true) N ((0:Int),i,h,j,e,f,d))
theorem jtG :mK 112 (bX [.agg [pS,pS,.pv Y11],.agg [pS,pS,.pv Y11]] [pB] (c6A (jbQ N))):=
 mO (fC (jlH N) ja) func112 rfl N (.seq .no (.seq .no (.seq (.seq .no (.block (.loop jnx .no))) .no))) _
def jrW :Sh:=⟨dz 3 (.box 3 0:: .dead:: .box 5 0::pI::dz 39 []),[(3,false,[.pv Y3,.pv Y5]),(5,false,[.own 700500 Y4 80 true,.own 700501 Y6 106 true])]⟩
def jcR (k:List Z2) (i:List Z4) (b:List Z0) (h:List Z1):Z8:=
 (oB (jcw N k i) fun q=>bif !q then some false else oB (jbU N b) fun n=>bif !n then some false else oB (s_l7Of_m N k i b) fun d=>bif !decide ((d.2.length:Int)=(h.length:Int))then some false else iter (fun o (a,l,j,r,c)=>bif decide (a<(c.length:Int))then oB (idx c a) fun e=>(oB (idx j a) fun f=>oB (jbQ N e.1 e.2.1 e.2.2 f.1 f.2.1 f.2.2) fun m=>bif !m then some false else if fits (a+1)then o ((a+1),l,j,r,c)else none)else some true) N ((0:Int),b,h,d.1,d.2))
theorem jpm :mK 55 (bX [.agg [.pv (.sl .str),.pv Y14],.agg [.pv Y3,.pv Y5]] [pB] (c4A (jcR N))):=
 mO (fC (jtf N) (fC (jpx N) (fC (jmU N) (fC (jtG N) ja)))) func55 rfl N (.seq .no (.seq .no (.seq .no (.seq .no (.seq (.seq .no (.block (.loop jrW .no))) .no))))) _
def jCI :Sh:=⟨.pv Y19:: .dead:: .dead::pI::dz 31 [],[]⟩
def jx3 (j:List Int):Z8:=
 (iter (fun c (b,a)=>bif decide (a<(b.length:Int))then oB (idx b a) fun f=>(oB (jJ N f 0 999999999) fun i=>bif !i then some false else bif decide ((0:Int)<a)then oB (idx b a) fun h=>(if fits (a-1)then oB (idx b (a-1)) fun d=>(bif decide (h<=d)then some false else if fits (a+1)then c (b,(a+1))else none)else none)else if fits (a+1)then c (b,(a+1))else none)else some (decide ((b.length:Int)<=60))) N (j,(0:Int)))
theorem jC9 :mK 56 (bX [.pv Y19] [pB] (c1A (jx3 N))):=
 mO (fC (jcL N) ja) func56 rfl N (.seq .no (.seq (.seq .no (.block (.loop jCI .no))) .no)) _
def jA0 :Sh:=⟨.dead::pI:: .box 2 0:: .dead:: .box 4 0::pI::dz 21 [],[(2,false,[.pv Y3,.pv Y5]),(4,false,[pI,.nils,.nils])]⟩
def s_l12Doc_m (f:List Z0) (m:List Z1) (l:Int):Option Z0:=
 (iter (fun h (d,a,b,e,j)=>bif decide (a<(b.length:Int))then oB (idx b a) fun k=>(bif decide (k.1=d)then oB (idx b a) fun c=>(some (c.1,c.2.1,c.2.2))else if fits (a+1)then h (d,(a+1),b,e,j)else none)else some (0,([]:Z12),([]:Z7))) N (l,(0:Int),f,m,(0:Int)))
theorem jDn :mK 57 (bX [.agg [.pv Y3,.pv Y5],pI] [.agg [pI,.pv Y17,.pv Y13]] (c3A (s_l12Doc_m N))):=
 mO ja func57 rfl N (.seq .no (.seq (.seq .no (.block (.loop jA0 .no))) .no)) _
def jJe :Sh:=⟨.pv Y19::pI::dz 3 (pI::dz 12 []),[]⟩
def s_l8Has_m (i:List Int) (d:Int):Z8:=
 (iter (fun e (b,c,a)=>bif decide (a<(b.length:Int))then oB (idx b a) fun h=>(bif decide (h=c)then some true else if fits (a+1)then e (b,c,(a+1))else none)else some false) N (i,d,(0:Int)))
theorem jIb :mK 117 (bX [.pv Y19,pI] [pB] (c2A (s_l8Has_m N))):=
 mO ja func117 rfl N (.seq .no (.seq (.seq .no (.block (.loop jJe .no))) .no)) _
def s_l18Dead_m (d:List Z0) (e:List Z1) (a:List Int) (b:Int):Z8:=
 (oB (s_l8Has_m N a b) fun c=>some c)
theorem jIy :mK 61 (bX [.agg [.pv Y3,.pv Y5,.pv Y19],pI] [pB] (c4A (s_l18Dead_m N))):=
 mO (fC (jIb N) ja) func61 rfl N .no _
def jIl :Sh:=⟨.pv Y3:: .dead:: .dead:: .box 3 0:: .dead::pI::dz 32 [],[(3,false,[pI,.pv Y17,.pv Y13])]⟩
def s_l18Put_m (t:List Z0) (p:Int) (m:Z12) (r:Z7):Z15:=
 (iter (fun n (a,b,e,f,j)=>bif decide (b<(a.length:Int))then oB (idx a b) fun q=>(bif decide (q.1<e)then if fits (b+1)then n (a,(b+1),e,f,j)else none else oB (cut a 0 b) fun d=>if room ([]:List Z0).length d.length 56 then oB (s_l7CopyDoc_m N e f j) fun i=>(if room (([]:List Z0)++d).length ([i]:List Z0).length 56 then oB (cut a b (a.length:Int)) fun l=>(if room ((([]:List Z0)++d)++([i]:List Z0)).length l.length 56 then some (((([]:List Z0)++d)++([i]:List Z0))++l)else none)else none)else none)else oB (cut a 0 b) fun c=>if room ([]:List Z0).length c.length 56 then oB (s_l7CopyDoc_m N e f j) fun h=>(if room (([]:List Z0)++c).length ([h]:List Z0).length 56 then oB (cut a b (a.length:Int)) fun k=>(if room ((([]:List Z0)++c)++([h]:List Z0)).length k.length 56 then some (((([]:List Z0)++c)++([h]:List Z0))++k)else none)else none)else none) N (t,(0:Int),p,m,r))
theorem jJy :mK 62 (bX [.pv Y3,.agg [pI,.pv Y17,.pv Y13]] [.own 1 Y4 80 false] (c4A (s_l18Put_m N))):=
 mO (fC (jtC N) ja) func62 rfl N (.seq .no (.seq .no (.seq (.block (.loop jIl .no)) .no))) _
def jI2 :Sh:=⟨.dead:: .box 1 0:: .dead:: .own 600003 Y4 80 false::pI::dz 45 [],[(1,false,[.pv (.sl .str),.pv Y14,.pv Y0])]⟩
def jJx :Sh:=⟨.dead:: .box 1 0:: .dead:: .own 600003 Y4 80 false::pI::pI::dz 44 [],[(1,false,[.pv (.sl .str),.pv Y14,.pv Y0])]⟩
def s_l18Docs_m (y:List Z2) (o:List Z4) (p:List Z3):Z15:=
 (iter (fun t (n,k,v,q,l)=>bif decide (k<(l.length:Int))then iter (fun m (f,a,c,j,e,b)=>oB (idx b a) fun u=>bif decide (c<(u.1.1.length:Int))then oB (idx b a) fun w=>(oB (idx w.1.1 c) fun d=>oB (idx b a) fun h=>oB (s_l18Dead_m N h.1.1 h.1.2 h.2 d.1) fun x=>bif !x then oB (s_l18Put_m N f d.1 d.2.1 d.2.2) fun r=>(if fits (c+1)then m (r,a,(c+1),j,e,b)else none)else if fits (c+1)then m (f,a,(c+1),j,e,b)else none)else if fits (a+1)then t (f,(a+1),j,e,b)else none) N (n,k,(0:Int),v,q,l)else some n) N (([]:List Z0),(0:Int),y,o,p))
theorem jH3 :mK 26 (bX [.agg [.pv (.sl .str),.pv Y14,.pv Y0]] [.own 1 Y4 80 false] (c3A (s_l18Docs_m N))):=
 mO (fC (jIy N) (fC (jJy N) ja)) func26 rfl N (.seq .no (.seq .no (.seq (.seq .no (.block (.loop jI2 (.seq .no (.seq (.block (.seq .no (.block (.loop jJx .no)))) .no))))) .no))) _
def jIz :Sh:=⟨.dead:: .box 1 0:: .dead::pI::dz 67 [],[(1,false,[.pv (.sl .str),.pv Y14,.pv Y0])]⟩
def jJd :Sh:=⟨.dead:: .box 1 0:: .dead::pI:: .box 4 0::pI::dz 22 (pB::dz 9 (pB::dz 32 [])),[(1,false,[.pv (.sl .str),.pv Y14,.pv Y0]),(4,false,[.pv Y3,.pv Y5,.pv Y19])]⟩
def s_l18Ok_m (D:List Z2) (q:List Z4) (u:List Z3):Z8:=
 (iter (fun x (h,e,d,b)=>bif decide (h<(b.length:Int))then oB (idx b h) fun a=>(oB (jcR N e d a.1.1 a.1.2) fun C=>bif !C then some false else oB (jx3 N a.2) fun m=>bif !m then some false else bif decide ((a.1.1.length:Int)<=(a.2.length:Int))then some false else iter (fun z (i,c,r,y,p,k,l,n,o,f)=>bif decide (c<(f.length:Int))then oB (idx f c) fun B=>(oB (s_l12Doc_m N n o B) fun v=>bif decide (v.1=0)then some false else if fits (c+1)then z (i,(c+1),r,y,p,k,l,n,o,f)else none)else if fits (i+1)then x ((i+1),p,k,l)else none) N (h,(0:Int),(!m),(decide ((a.1.1.length:Int)<=(a.2.length:Int))),e,d,b,a.1.1,a.1.2,a.2))else oB (jcw N e d) fun t=>bif t then bif decide ((b.length:Int)<=5)then oB (s_l18Docs_m N e d b) fun A=>(oB (jbU N A) fun w=>some w)else(some false)else some false) N ((0:Int),D,q,u))
theorem jIW :mK 23 (bX [.agg [.pv (.sl .str),.pv Y14,.pv Y0]] [pB] (c3A (s_l18Ok_m N))):=
 mO (fC (jpm N) (fC (jC9 N) (fC (jDn N) (fC (jtf N) (fC (jH3 N) (fC (jpx N) ja)))))) func23 rfl N (.seq .no (.seq (.seq .no (.block (.loop jIz (.seq .no (.seq (.block (.seq .no (.seq .no (.seq .no (.block (.loop jJd .no)))))) .no))))) .no)) _
def jMA :Sh:=⟨.dead:: .box 1 0:: .box 2 0:: .box 3 0::pI::dz 33 [],[(1,false,[.pv (.sl .str),.pv Y14]),(2,false,[.nils,.nils]),(3,false,[.own 700300 .str 9 true,.own 700301 Y16 156 true])]⟩
def s_l18CopyConf_m (e:List Z2) (l:List Z4):Option ((List Z2)×(List Z4)):=
 (if room ([]:List Z2).length e.length 16 then iter (fun j (a,i,b,f,d)=>bif decide (a<(b.length:Int))then oB (idx b a) fun c=>(if room ([]:List Z2).length c.1.length 16 then oB (idx b a) fun h=>(if room d.length ([((([]:List Z2)++c.1),h.2)]:List Z4).length 40 then if fits (a+1)then j ((a+1),i,b,f,(d++([((([]:List Z2)++c.1),h.2)]:List Z4)))else none else none)else none)else some (f,d)) N ((0:Int),e,l,(([]:List Z2)++e),([]:List Z4))else none)
theorem jMp :mK 59 (bX [.agg [.pv (.sl .str),.pv Y14]] [.agg [.own 1 .str 9 true,.own 2 Y16 156 true]] (c2A (s_l18CopyConf_m N))):=
 mO ja func59 rfl N (.seq .no (.seq .no (.seq (.seq .no (.block (.loop jMA .no))) .no))) _
def jMc :Sh:=⟨.pv Y11:: .dead:: .dead:: .own 600003 Y12 164 true::pI::dz 24 [],[]⟩
def s_l7CopyPosts_m (i:List Z5):Option ((List Z5)):=
 (iter (fun f (b,c,a)=>bif decide (a<(b.length:Int))then oB (idx b a) fun e=>(oB (idx b a) fun d=>if room ([]:List Int).length d.2.length 8 then if room c.length ([(e.1,(([]:List Int)++d.2))]:List Z5).length 32 then if fits (a+1)then f (b,(c++([(e.1,(([]:List Int)++d.2))]:List Z5)),(a+1))else none else none else none)else some c) N (i,([]:List Z5),(0:Int)))
theorem jLV :mK 116 (bX [.pv Y11] [.own 1 Y12 164 true] (c1A (s_l7CopyPosts_m N))):=
 mO ja func116 rfl N (.seq .no (.seq .no (.seq (.seq .no (.block (.loop jMc .no))) .no))) _
def jLx :Sh:=⟨.dead:: .box 1 0:: .box 2 0:: .box 3 0::pI::dz 47 [],[(1,false,[.pv Y3,.pv Y5]),(2,false,[.nils,.nils]),(3,false,[.own 700300 Y4 80 true,.nils])]⟩
def jKX :Sh:=⟨.dead:: .box 1 0:: .box 2 0:: .box 3 0:: .dead::pI::dz 46 [],[(1,false,[.pv Y3,.pv Y5]),(2,false,[.nils,.nils]),(3,false,[.own 700300 Y4 80 true,.own 700301 Y6 106 true])]⟩
def s_l18CopySeg_m (o:List Z0) (p:List Z1):Z20:=
 (iter (fun q (c,b,l,j)=>bif decide (c<(b.length:Int))then oB (idx b c) fun i=>(oB (s_l7CopyDoc_m N i.1 i.2.1 i.2.2) fun n=>if room j.length ([n]:List Z0).length 56 then if fits (c+1)then q ((c+1),b,l,(j++([n]:List Z0)))else none else none)else iter (fun r (d,t,e,k,f)=>bif decide (d<(e.length:Int))then oB (idx e d) fun a=>(oB (s_l7CopyPosts_m N a.2.2) fun m=>if room f.length ([(a.1,a.2.1,m)]:List Z1).length 56 then if fits (d+1)then r ((d+1),t,e,k,(f++([(a.1,a.2.1,m)]:List Z1)))else none else none)else some (k,f)) N ((0:Int),b,l,j,([]:List Z1))) N ((0:Int),o,p,([]:List Z0)))
theorem jK3 :mK 60 (bX [.agg [.pv Y3,.pv Y5]] [.agg [.own 1 Y4 80 true,.own 2 Y6 106 true]] (c2A (s_l18CopySeg_m N))):=
 mO (fC (jtC N) (fC (jLV N) ja)) func60 rfl N (.seq .no (.seq .no (.seq (.seq .no (.block (.loop jLx .no))) (.seq (.seq .no (.block (.loop jKX .no))) .no)))) _
def jMK :Sh:=⟨.dead:: .box 1 0:: .box 2 0:: .box 3 0::pI::dz 33 [],[(1,false,[.pv (.sl .str),.pv Y14,.pv Y0]),(2,false,[.nils,.nils,.nils]),(3,false,[.own 700300 .str 9 true,.own 700301 Y16 156 true,.own 700302 Y1 62 true])]⟩
def s_l18Copy_m (l:List Z2) (f:List Z4) (p:List Z3):Z18:=
 (oB (s_l18CopyConf_m N l f) fun k=>iter (fun m (a,o,q,b,j,i,d)=>bif decide (a<(b.length:Int))then oB (idx b a) fun h=>(oB (s_l18CopySeg_m N h.1.1 h.1.2) fun e=>oB (idx b a) fun c=>if room ([]:List Int).length c.2.length 8 then if room d.length ([(e,(([]:List Int)++c.2))]:List Z3).length 72 then if fits (a+1)then m ((a+1),o,q,b,j,i,(d++([(e,(([]:List Int)++c.2))]:List Z3)))else none else none else none)else some (j,i,d)) N ((0:Int),l,f,p,k.1,k.2,([]:List Z3)))
theorem jL0 :mK 25 (bX [.agg [.pv (.sl .str),.pv Y14,.pv Y0]] [.agg [.own 1 .str 9 true,.own 2 Y16 156 true,.own 3 Y1 62 true]] (c3A (s_l18Copy_m N))):=
 mO (fC (jMp N) (fC (jK3 N) ja)) func25 rfl N (.seq .no (.seq .no (.seq (.seq .no (.block (.loop jMK .no))) .no))) _
def jLU :Sh:=⟨.pv Y19::pI::dz 3 (pI::dz 42 []),[]⟩
def s_l8Put_m (t:List Int) (m:Int):Z17:=
 (iter (fun n (a,c,b)=>bif decide (b<(a.length:Int))then oB (idx a b) fun p=>(bif decide (p<c)then if fits (b+1)then n (a,c,(b+1))else none else bif decide (b<(a.length:Int))then oB (idx a b) fun r=>(bif decide (r=c)then some a else oB (cut a 0 b) fun f=>if room ([]:List Int).length f.length 8 then if room (([]:List Int)++f).length ([c]:List Int).length 8 then oB (cut a b (a.length:Int)) fun l=>(if room ((([]:List Int)++f)++([c]:List Int)).length l.length 8 then some (((([]:List Int)++f)++([c]:List Int))++l)else none)else none else none)else oB (cut a 0 b) fun e=>if room ([]:List Int).length e.length 8 then if room (([]:List Int)++e).length ([c]:List Int).length 8 then oB (cut a b (a.length:Int)) fun k=>(if room ((([]:List Int)++e)++([c]:List Int)).length k.length 8 then some (((([]:List Int)++e)++([c]:List Int))++k)else none)else none else none)else bif decide (b<(a.length:Int))then oB (idx a b) fun o=>(bif decide (o=c)then some a else oB (cut a 0 b) fun h=>if room ([]:List Int).length h.length 8 then if room (([]:List Int)++h).length ([c]:List Int).length 8 then oB (cut a b (a.length:Int)) fun j=>(if room ((([]:List Int)++h)++([c]:List Int)).length j.length 8 then some (((([]:List Int)++h)++([c]:List Int))++j)else none)else none else none)else oB (cut a 0 b) fun d=>if room ([]:List Int).length d.length 8 then if room (([]:List Int)++d).length ([c]:List Int).length 8 then oB (cut a b (a.length:Int)) fun i=>(if room ((([]:List Int)++d)++([c]:List Int)).length i.length 8 then some (((([]:List Int)++d)++([c]:List Int))++i)else none)else none else none) N (t,m,(0:Int)))
theorem jLS :mK 97 (bX [.pv Y19,pI] [.pv Y19] (c2A (s_l8Put_m N))):=
 mO ja func97 rfl N (.seq .no (.seq .no (.seq (.block (.loop jLU .no)) .no))) _
def jL4 :Sh:=⟨.dead::pI:: .box 2 0:: .dead:: .box 4 0:: .dead:: .box 6 0::pB::pI::dz 43 [],[(2,false,[.pv (.sl .str),.pv Y14,.pv Y0]),(4,false,[.nils,.nils,.nils]),(6,false,[.pv (.sl .str),.pv Y14,.own 700602 Y1 62 false])]⟩
def jLD :Sh:=⟨.dead::pI:: .box 2 0:: .dead:: .box 4 0:: .dead:: .box 6 0::pB::pI:: .box 9 0::dz 42 [],[(2,false,[.pv (.sl .str),.pv Y14,.pv Y0]),(4,false,[.nils,.nils,.nils]),(6,false,[.pv (.sl .str),.pv Y14,.own 700602 Y1 62 false]),(9,false,[.pv Y3,.pv Y5,.pv Y19])]⟩
def s_l18Gone_m (u:List Z2) (o:List Z4) (x:List Z3) (y:Int):Option ((List Z2)×(List Z4)×(List Z3)×Bool):=
 (iter (fun D (b,i,c,m,k,d,h,e,f)=>bif decide (c<(d.length:Int))then oB (idx d c) fun a=>(meet (fun(l:Int×Bool×Int×(List Z2)×(List Z4)×(List Z3)×(List Z2)×(List Z4)×(List Z3)×(List Z0)×(List Z1)×(List Int))=>match l with|(B,z,p,G,v,w,E,I,r,q,t,n)=>if room r.length ([((q,t),n)]:List Z3).length 72 then if fits (p+1)then D (B,z,(p+1),G,v,w,E,I,(r++([((q,t),n)]:List Z3)))else none else none) fun j=>oB (s_l12Doc_m N a.1.1 a.1.2 b) fun H=>bif !decide (H.1=0)then oB (s_l18Dead_m N a.1.1 a.1.2 a.2 b) fun C=>(bif !C then if room ([]:List Int).length a.2.length 8 then oB (s_l8Put_m N (([]:List Int)++a.2) b) fun A=>(j (b,true,c,m,k,d,h,e,f,a.1.1,a.1.2,A))else none else j (b,i,c,m,k,d,h,e,f,a.1.1,a.1.2,a.2))else j (b,i,c,m,k,d,h,e,f,a.1.1,a.1.2,a.2))else some (h,e,f,i)) N (y,false,(0:Int),u,o,x,u,o,([]:List Z3)))
theorem jLr :mK 41 (bX [.agg [.pv (.sl .str),.pv Y14,.pv Y0],pI] [.tup [.agg [.pv (.sl .str),.pv Y14,.own 1 Y1 62 false],pB]] (c4A (s_l18Gone_m N))):=
 mO (fC (jDn N) (fC (jIy N) (fC (jLS N) ja))) func41 rfl N (.seq .no (.seq .no (.seq .no (.seq (.seq .no (.block (.loop jL4 (.seq .no (.seq (.block (.seq .no (.meet jLD .no .no))) .no))))) .no)))) _
def jL1 :Sh:=⟨.dead:: .box 1 0:: .box 2 0:: .box 3 0::pI::dz 37 [],[(1,false,[.pv (.sl .str),.pv Y14,.pv Y0]),(2,false,[.nils,.nils,.nils]),(3,false,[.pv (.sl .str),.pv Y14,.own 700302 Y1 62 false])]⟩
def s_l18Full_m (l:List Z2) (i:List Z4) (p:List Z3):Z18:=
 (iter (fun h (a,j,k,b,e,d,c)=>bif decide (a<(b.length:Int))then oB (idx b a) fun n=>(oB (idx b a) fun o=>bif decide ((n.2.length:Int)<(o.1.1.length:Int))then oB (idx b a) fun f=>(if room c.length ([f]:List Z3).length 72 then if fits (a+1)then h ((a+1),j,k,b,e,d,(c++([f]:List Z3)))else none else none)else if fits (a+1)then h ((a+1),j,k,b,e,d,c)else none)else some (e,d,c)) N ((0:Int),l,i,p,l,i,([]:List Z3)))
theorem jM5 :mK 42 (bX [.agg [.pv (.sl .str),.pv Y14,.pv Y0]] [.agg [.pv (.sl .str),.pv Y14,.own 1 Y1 62 false]] (c3A (s_l18Full_m N))):=
 mO ja func42 rfl N (.seq .no (.seq .no (.seq (.seq .no (.block (.loop jL1 .no))) .no))) _
def jJ0 (f:List Z2) (d:List Z4) (e:List Z3) (h:Int):Option ((List Z2)×(List Z4)×(List Z3)×Bool):=
 (oB (s_l18Ok_m N f d e) fun i=>bif !i then some (([]:List Z2),([]:List Z4),([]:List Z3),false)else oB (s_l18Copy_m N f d e) fun b=>oB (s_l18Gone_m N b.1 b.2.1 b.2.2 h) fun a=>oB (s_l18Full_m N a.1 a.2.1 a.2.2.1) fun c=>some (c.1,c.2.1,c.2.2,a.2.2.2))
theorem jLL :mK 13 (bX [.agg [.pv (.sl .str),.pv Y14,.pv Y0],pI] [.tup [.agg [.pv (.sl .str),.pv Y14,.own 1 Y1 62 false],pB]] (c4A (jJ0 N))):=
 mO (fC (jIW N) (fC (jL0 N) (fC (jLr N) (fC (jM5 N) ja)))) func13 rfl N .no _
def jaw (N:Nat) (a:Int):Z8:=
 (bif decide ((97:Int)<=a)then bif decide (a<=122)then some true else(bif decide ((48:Int)<=a)then some (decide (a<=57))else some false)else bif decide ((48:Int)<=a)then some (decide (a<=57))else some false)
theorem jeK :mK 166 (bX [.pv (.int .u8)] [pB] (c1A (jaw N))):=
 mO ja func166 rfl N .no _
def jm (N:Nat) (a:Int) (b:Int) (c:Int):Z8:=
 (bif decide (b<=a)then some (decide (a<=c))else some false)
theorem jY :mK 32 (bX [pI,pI,pI] [pB] (c3A (jm N))):=
 mO ja func32 rfl N .no _
def jqW :Sh:=⟨pS::dz 4 (pI::pI::dz 11 []),[]⟩
def jO (c:List UInt8):Z8:=
 (iter (fun f (b,d,a)=>bif decide (a<d)then oB (idx b a) fun j=>(oB (jaw N (j.toNat:Int)) fun i=>bif !i then some false else if fits (a+1)then f (b,d,(a+1))else none)else oB (jm N (b.length:Int) 1 12) fun e=>some e) N (c,(c.length:Int),(0:Int)))
theorem jcM :mK 126 (bX [pS] [pB] (c1A (jO N))):=
 mO (fC (jeK N) (fC (jY N) ja)) func126 rfl N (.seq .no (.seq (.seq .no (.block (.loop jqW .no))) .no)) _
def jmc :Sh:=⟨.pv (.sl .str)::dz 4 (.pv (.sl .str)::pI::pI::dz 21 []),[]⟩
def jb2 (e:List Z2):Z8:=
 (iter (fun f (d,c,b,a)=>bif decide (a<b)then oB (idx c a) fun h=>(oB (jO N h) fun k=>bif !k then some false else bif decide ((0:Int)<a)then if fits (a-1)then oB (idx d (a-1)) fun j=>(bif !Op.bytesLess j h then some false else if fits (a+1)then f (d,c,b,(a+1))else none)else none else if fits (a+1)then f (d,c,b,(a+1))else none)else some true) N (e,e,(e.length:Int),(0:Int)))
theorem jtw :mK 125 (bX [.pv (.sl .str)] [pB] (c1A (jb2 N))):=
 mO (fC (jcM N) ja) func125 rfl N (.seq .no (.seq (.seq .no (.block (.loop jmc .no))) .no)) _
def jdF (N:Nat) (a:List UInt8) (b:List UInt8):Z8:=
 (bif decide ((b.length:Int)<=(a.length:Int))then if fits ((a.length:Int)-(b.length:Int))then oB (cut a ((a.length:Int)-(b.length:Int)) (a.length:Int)) fun c=>(some (decide (c=b)))else none else some false)
theorem jpU :mK 205 (bX [pS,pS] [pB] (c2A (jdF N))):=
 mO ja func205 rfl N .no _
def jcN (a:List UInt8) (b:List UInt8):Z8:=
 (oB (jdF N a b) fun c=>some c)
theorem jsu :mK 167 (bX [pS,pS] [pB] (c2A (jcN N))):=
 mO (fC (jpU N) ja) func167 rfl N .no _
def jod :Sh:=⟨pS:: .dead:: .dead::pB::dz 32 [],[]⟩
def jnf :Sh:=⟨pS:: .dead:: .dead::pB::dz 6 (.own 600010 .str 9 true::pI::pI::dz 23 []),[]⟩
def jaB (i:List UInt8):Option (Z2):=
 (oB (jO N i) fun p=>bif !p then some ([]:List UInt8)else iter (fun j (l,o)=>bif o then iter (fun k (a,d,h,f,b)=>bif decide (b<f)then oB (idx h b) fun c=>(oB (jcN N a c) fun m=>bif m then if fits ((a.length:Int)-(c.length:Int))then bif decide ((3:Int)<=((a.length:Int)-(c.length:Int)))then if fits ((a.length:Int)-(c.length:Int))then oB (cut a 0 ((a.length:Int)-(c.length:Int))) fun n=>(j (n,true))else none else(if fits (b+1)then k (a,d,h,f,(b+1))else none)else none else if fits (b+1)then k (a,d,h,f,(b+1))else none)else j (a,d)) N (l,false,([([105,110,103]:List UInt8),([101,100]:List UInt8),([101,115]:List UInt8),([108,121]:List UInt8),([115]:List UInt8)]:List Z2),(([([105,110,103]:List UInt8),([101,100]:List UInt8),([101,115]:List UInt8),([108,121]:List UInt8),([115]:List UInt8)]:List Z2).length:Int),(0:Int))else some l) N (i,true))
theorem jio :mK 127 (bX [pS] [pS] (c1A (jaB N))):=
 mO (fC (jcM N) (fC (jsu N) ja)) func127 rfl N (.seq .no (.seq .no (.seq (.seq .no (.block (.loop jod (.seq .no (.block (.seq .no (.seq .no (.block (.loop jnf .no))))))))) .no))) _
def jkJ :Sh:=⟨.pv (.sl .str)::pS::dz 5 (pI::pI::dz 10 []),[]⟩
def jdH (c:List Z2) (f:List UInt8):Z11:=
 (iter (fun h (e,b,d,a)=>bif decide (a<d)then oB (idx e a) fun j=>(bif decide (b=j)then some a else if fits (a+1)then h (e,b,d,(a+1))else none)else some (-1)) N (c,f,(c.length:Int),(0:Int)))
theorem jkZ :mK 168 (bX [.pv (.sl .str),pS] [pI] (c2A (jdH N))):=
 mO ja func168 rfl N (.seq .no (.seq (.seq .no (.block (.loop jkJ .no))) .no)) _
def jao (b:List Z2) (a:List UInt8):Z8:=
 (oB (jdH N b a) fun c=>some (decide ((0:Int)<=c)))
theorem jh5 :mK 128 (bX [.pv (.sl .str),pS] [pB] (c2A (jao N))):=
 mO (fC (jkZ N) ja) func128 rfl N .no _
def jmj :Sh:=⟨.dead:: .box 1 0::dz 22 (.pv Y14::pI::pI::dz 46 []),[(1,false,[.pv (.sl .str),.pv Y14])]⟩
def jrC :Sh:=⟨.dead:: .box 1 0::dz 22 (.pv Y14::pI::pI::dz 12 (pB::dz 7 (pB:: .dead:: .dead:: .pv (.sl .str)::pI::pI::dz 20 []))),[(1,false,[.pv (.sl .str),.pv Y14])]⟩
def jaj (j:List Z2) (b:List Z4):Z8:=
 (bif decide ((6:Int)<j.length)then some false else oB (jb2 N j) fun E=>bif !E then some false else bif decide ((4:Int)<b.length)then some false else iter (fun y (n,l,e,z,A)=>bif decide (e<l)then oB (idx n e) fun a=>(oB (jm N (a.1.length:Int) 1 3) fun w=>bif !w then some false else oB (jO N a.2) fun p=>bif !p then some false else oB (jaB N a.2) fun m=>bif !decide (m=a.2)then some false else iter (fun B (q,o,h,D,v,t,k,d,f,r)=>bif decide (d<k)then oB (idx t d) fun c=>(oB (jO N c) fun C=>bif !C then some false else oB (jaB N c) fun x=>bif !decide (x=c)then some false else oB (jao N f c) fun u=>bif u then some false else if fits (d+1)then B (q,o,h,D,v,t,k,(d+1),f,r)else none)else if fits (h+1)then y (q,o,(h+1),f,r)else none) N (n,l,e,(!p),(!decide (m=a.2)),a.1,(a.1.length:Int),(0:Int),z,A))else some true) N (b,(b.length:Int),(0:Int),j,b))
theorem jdX :mK 70 (bX [.agg [.pv (.sl .str),.pv Y14]] [pB] (c2A (jaj N))):=
 mO (fC (jtw N) (fC (jY N) (fC (jcM N) (fC (jio N) (fC (jh5 N) ja))))) func70 rfl N (.seq .no (.seq .no (.seq (.seq .no (.block (.loop jmj (.seq .no (.seq .no (.seq (.block (.seq .no (.seq .no (.seq .no (.block (.loop jrC .no)))))) .no)))))) .no))) _
def jtd :Sh:=⟨pS::dz 4 (pI::pI::dz 16 []),[]⟩
def jaF (c:List UInt8):Z8:=
 (iter (fun e (b,d,a)=>bif decide (a<d)then oB (idx b a) fun i=>(bif decide ((i.toNat:Int)<32)then some false else oB (idx b a) fun h=>bif decide ((126:Int)<(h.toNat:Int))then some false else if fits (a+1)then e (b,d,(a+1))else none)else some (decide ((b.length:Int)<=160))) N (c,(c.length:Int),(0:Int)))
theorem jdK :mK 133 (bX [pS] [pB] (c1A (jaF N))):=
 mO ja func133 rfl N (.seq .no (.seq (.seq .no (.block (.loop jtd .no))) .no)) _
def jlC :Sh:=⟨.dead:: .box 1 0::dz 22 (.pv Y17::pI::pI::dz 66 []),[(1,false,[pI,.pv Y17,.pv Y13])]⟩
def jpt :Sh:=⟨.dead:: .box 1 0::dz 57 (.pv Y13::pI::pI::dz 31 []),[(1,false,[pI,.pv Y17,.pv Y13])]⟩
def jbx (r:Int) (e:Z12) (v:Z7):Z8:=
 (oB (jm N r 1 9999) fun C=>bif !C then some false else bif decide ((3:Int)<e.length)then some false else bif decide ((3:Int)<v.length)then some false else iter (fun q (h,f,a,m,d,c)=>bif decide (a<f)then oB (idx h a) fun l=>(oB (jO N l.1) fun y=>bif !y then some false else oB (jaF N l.2) fun x=>bif !x then some false else bif decide ((0:Int)<a)then if fits (a-1)then oB (idx d (a-1)) fun B=>(bif !Op.bytesLess B.1 l.1 then some false else if fits (a+1)then q (h,f,(a+1),m,d,c)else none)else none else if fits (a+1)then q (h,f,(a+1),m,d,c)else none)else iter (fun t (i,o,b,p,u,j)=>bif decide (b<o)then oB (idx i b) fun k=>(oB (jO N k.1) fun w=>bif !w then some false else oB (jm N k.2 0 999999999) fun A=>bif !A then some false else bif decide ((0:Int)<b)then if fits (b-1)then oB (idx j (b-1)) fun z=>(bif !Op.bytesLess z.1 k.1 then some false else if fits (b+1)then t (i,o,(b+1),p,u,j)else none)else none else if fits (b+1)then t (i,o,(b+1),p,u,j)else none)else some true) N (c,(c.length:Int),(0:Int),m,d,c)) N (e,(e.length:Int),(0:Int),r,e,v))
theorem jh0 :mK 105 (bX [.agg [pI,.pv Y17,.pv Y13]] [pB] (c3A (jbx N))):=
 mO (fC (jY N) (fC (jcM N) (fC (jdK N) ja))) func105 rfl N (.seq .no (.seq .no (.seq (.seq .no (.block (.loop jlC .no))) (.seq (.seq .no (.block (.loop jpt .no))) .no)))) _
def jpj :Sh:=⟨.pv Y3::dz 4 (.pv Y3::pI::pI::dz 26 []),[]⟩
def jbf (f:List Z0):Z8:=
 (iter (fun h (c,e,d,a)=>bif decide (a<d)then oB (idx e a) fun b=>(oB (jbx N b.1 b.2.1 b.2.2) fun k=>bif !k then some false else bif decide ((0:Int)<a)then if fits (a-1)then oB (idx c (a-1)) fun j=>(bif decide (b.1<=j.1)then some false else if fits (a+1)then h (c,e,d,(a+1))else none)else none else if fits (a+1)then h (c,e,d,(a+1))else none)else some (decide ((c.length:Int)<=16))) N (f,f,(f.length:Int),(0:Int)))
theorem jjU :mK 47 (bX [.pv Y3] [pB] (c1A (jbf N))):=
 mO (fC (jh0 N) ja) func47 rfl N (.seq .no (.seq (.seq .no (.block (.loop jpj .no))) .no)) _
def jbO (N:Nat) (c:Int) (a:Z12) (b:Z7):Option Z0:=
 (if room ([]:Z12).length a.length 32 then if room ([]:Z7).length b.length 24 then some (c,(([]:Z12)++a),(([]:Z7)++b))else none else none)
theorem jrI :mK 132 (bX [.agg [pI,.pv Y17,.pv Y13]] [.agg [pI,.own 1 Y18 116 true,.own 2 Y15 149 true]] (c3A (jbO N))):=
 mO ja func132 rfl N .no _
def joW :Sh:=⟨dz 3 (.own 600003 Y4 80 true::dz 3 (.pv Y3::pI::pI::dz 10 [])),[]⟩
def jbV (h:List Z0):Z15:=
 (iter (fun i (c,d,e,a)=>bif decide (a<e)then oB (idx d a) fun b=>(oB (jbO N b.1 b.2.1 b.2.2) fun f=>if room c.length ([f]:List Z0).length 56 then if fits (a+1)then i ((c++([f]:List Z0)),d,e,(a+1))else none else none)else some c) N (([]:List Z0),h,(h.length:Int),(0:Int)))
theorem joC :mK 74 (bX [.pv Y3] [.own 1 Y4 80 true] (c1A (jbV N))):=
 mO (fC (jrI N) ja) func74 rfl N (.seq .no (.seq .no (.seq (.seq .no (.block (.loop joW .no))) .no))) _
def jI (N:Nat) (a:Int):Z11:=
 (bif decide ((65:Int)<=a)then bif decide (a<=90)then some (IntKind.u8.wrap ((IntKind.u8.wrap (a+97))-65))else(some a)else some a)
theorem jmu :mK 171 (bX [.pv (.int .u8)] [.pv (.int .u8)] (c1A (jI N))):=
 mO ja func171 rfl N .no _
def jpB :Sh:=⟨pS:: .dead:: .dead:: .own 600003 Y7 174 true::pI::dz 57 [],[]⟩
def jo6 :Sh:=⟨pS:: .dead:: .dead:: .own 600003 Y7 174 true::pI:: .box 5 0:: .own 600006 (.int .u8) 5 true::dz 55 [],[(5,false,[pS,pI,pI,pI])]⟩
def jct (m:List UInt8):Option ((List Z10)):=
 (oB (jaF N m) fun y=>bif !y then some ([]:List Z10)else iter (fun k (i,j,f)=>bif decide (f<(i.length:Int))then oB (idx i f) fun z=>(oB (jI N (z.toNat:Int)) fun v=>oB (jaw N v) fun u=>bif !u then if fits (f+1)then k (i,j,(f+1))else none else iter (fun q (c,e,a,b,o,h,d,n)=>bif decide (a<(c.length:Int))then oB (idx c a) fun t=>(oB (jI N (t.toNat:Int)) fun r=>oB (jaw N r) fun x=>bif x then bif decide ((b.length:Int)<12)then oB (idx c a) fun w=>(oB (jI N (w.toNat:Int)) fun p=>if room b.length ([p]:List Int).length 1 then if fits (a+1)then q (c,e,(a+1),(b++([p]:List Int)),o,h,d,n)else none else none)else(if fits (a+1)then q (c,e,(a+1),b,o,h,d,n)else none)else if room e.length ([((bytesOf b),h,d,a)]:List Z10).length 40 then k (c,(e++([((bytesOf b),h,d,a)]:List Z10)),a)else none)else if room e.length ([((bytesOf b),h,d,a)]:List Z10).length 40 then k (c,(e++([((bytesOf b),h,d,a)]:List Z10)),a)else none) N (i,j,f,([]:List Int),([]:List UInt8),(j.length:Int),f,(0:Int)))else some j) N (m,([]:List Z10),(0:Int)))
theorem jqc :mK 134 (bX [pS] [.own 1 Y7 174 true] (c1A (jct N))):=
 mO (fC (jdK N) (fC (jmu N) (fC (jeK N) ja))) func134 rfl N (.seq .no (.seq .no (.seq .no (.seq (.seq .no (.block (.loop jpB (.seq .no (.block (.seq .no (.seq .no (.seq .no (.seq (.block (.loop jo6 .no)) .no))))))))) .no)))) _
def jty :Sh:=⟨.dead:: .pv Y13::pI:: .box 3 0::dz 3 (.pv (.opt Y16)::dz 8 (pI::pI::dz 73 [])),[(3,false,[.pv (.sl .str),.pv Y14])]⟩
def jss :Sh:=⟨.dead:: .pv Y13::pI:: .box 3 0::dz 3 (.pv (.opt Y16):: .dead:: .ptr Y16::pB::dz 5 (pI::pI::dz 31 (pB::dz 4 (.pv (.sl .str)::pI::pI::dz 34 [])))),[(3,false,[.pv (.sl .str),.pv Y14])]⟩
def jbH (c:List Z2) (c2:List Z4) (terms:Z7) (at0:Int):Option ((Option Z4)):=
 (iter (fun go (terms2,at02,best,t16,t17,c3,c4)=>bif decide (t17<t16)then oB (idx c4 t17) fun e=>(if fits ((terms2.length:Int)-at02)then bif decide (((terms2.length:Int)-at02)<(e.1.length:Int))then if fits (t17+1)then go (terms2,at02,best,t16,(t17+1),c3,c4)else none else(bif !(Option.isNone best)then oB best fun p=>(bif decide ((e.1.length:Int)<=(p.1.length:Int))then if fits (t17+1)then go (terms2,at02,best,t16,(t17+1),c3,c4)else none else iter (fun go2 (terms3,at03,best2,r,fits0,t162,t172,t49,t54,t55,t56,c5,c6)=>bif decide (t56<t55)then oB (idx t54 t56) fun e2=>(if fits (at03+t56)then oB (idx terms3 (at03+t56)) fun e3=>(bif fits0 then bif decide (e3.1=e2)then oB (idx terms3 at03) fun e4=>(if fits (e4.2+t56)then if fits (t56+1)then go2 (terms3,at03,best2,r,(decide (e3.2=(e4.2+t56))),t162,t172,t49,t54,t55,(t56+1),c5,c6)else none else none)else(if fits (t56+1)then go2 (terms3,at03,best2,r,false,t162,t172,t49,t54,t55,(t56+1),c5,c6)else none)else if fits (t56+1)then go2 (terms3,at03,best2,r,false,t162,t172,t49,t54,t55,(t56+1),c5,c6)else none)else none)else bif fits0 then if fits (t172+1)then go (terms3,at03,(some r),t162,(t172+1),c5,c6)else none else if fits (t172+1)then go (terms3,at03,best2,t162,(t172+1),c5,c6)else none) N (terms2,at02,best,e,true,t16,t17,(decide ((e.1.length:Int)<=(p.1.length:Int))),e.1,(e.1.length:Int),(0:Int),c3,c4))else iter (fun go3 (terms4,at04,best3,r2,fits02,t163,t173,t492,t542,t552,t562,c7,c8)=>bif decide (t562<t552)then oB (idx t542 t562) fun e5=>(if fits (at04+t562)then oB (idx terms4 (at04+t562)) fun e6=>(bif fits02 then bif decide (e6.1=e5)then oB (idx terms4 at04) fun e7=>(if fits (e7.2+t562)then if fits (t562+1)then go3 (terms4,at04,best3,r2,(decide (e6.2=(e7.2+t562))),t163,t173,t492,t542,t552,(t562+1),c7,c8)else none else none)else(if fits (t562+1)then go3 (terms4,at04,best3,r2,false,t163,t173,t492,t542,t552,(t562+1),c7,c8)else none)else if fits (t562+1)then go3 (terms4,at04,best3,r2,false,t163,t173,t492,t542,t552,(t562+1),c7,c8)else none)else none)else bif fits02 then if fits (t173+1)then go (terms4,at04,(some r2),t163,(t173+1),c7,c8)else none else if fits (t173+1)then go (terms4,at04,best3,t163,(t173+1),c7,c8)else none) N (terms2,at02,best,e,true,t16,t17,false,e.1,(e.1.length:Int),(0:Int),c3,c4))else none)else some best) N (terms,at0,(none:Option Z4),(c2.length:Int),(0:Int),c,c2))
theorem jtv :mK 135 (bX [.agg [.pv (.sl .str),.pv Y14],.pv Y13,pI] [.pv (.opt Y16)] (c4A (jbH N))):=
 mO ja func135 rfl N (.seq .no (.seq .no (.seq (.seq .no (.block (.loop jty (.seq .no (.seq .no (.seq (.block (.seq .no (.seq .no (.seq .no (.seq .no (.seq (.seq .no (.block (.loop jss .no))) .no)))))) .no)))))) .no))) _
def jlW :Sh:=⟨.dead:: .dead:: .box 2 0:: .dead:: .dead:: .own 600005 Y15 120 true:: .own 600006 Y15 120 true::dz 17 (.own 600024 Y7 174 true::pI::pI::dz 67 []),[(2,false,[.pv (.sl .str),.pv Y14])]⟩
def jnt :Sh:=⟨.dead:: .dead:: .box 2 0:: .dead:: .dead:: .own 600005 Y15 120 true:: .own 600006 Y15 120 true::dz 3 (pI::dz 83 []),[(2,false,[.pv (.sl .str),.pv Y14])]⟩
def jbw (B:List Z2) (w:List Z4) (u:List UInt8):Option (Z9):=
 (oB (jaj N B w) fun G=>bif !G then some ([]:Z7)else oB (jaF N u) fun C=>bif !C then some ([]:Z7)else oB (jct N u) fun x=>iter (fun p (l,f,i,h,a,d,j)=>bif decide (a<h)then oB (idx i a) fun k=>(oB (jaB N k.1) fun o=>oB (jao N d k.1) fun E=>bif !E then oB (jao N d o) fun D=>(bif !D then if room f.length ([(o,k.2.1)]:Z7).length 24 then if fits (a+1)then p (l,(f++([(o,k.2.1)]:Z7)),i,h,(a+1),d,j)else none else none else if fits (a+1)then p (l,f,i,h,(a+1),d,j)else none)else if fits (a+1)then p (l,f,i,h,(a+1),d,j)else none)else iter (fun z (e,c,b,n,r)=>bif decide (b<(c.length:Int))then oB (jbH N n r c b) fun m=>(bif Option.isNone m then oB (idx c b) fun A=>(if room e.length ([A]:Z7).length 24 then if fits (b+1)then z ((e++([A]:Z7)),c,(b+1),n,r)else none else none)else oB m fun v=>oB (idx c b) fun y=>if room e.length ([(v.2,y.2)]:Z7).length 24 then oB m fun t=>(if fits (b+(t.1.length:Int))then z ((e++([(v.2,y.2)]:Z7)),c,(b+(t.1.length:Int)),n,r)else none)else none)else some e) N (l,f,(0:Int),d,j)) N (([]:Z7),([]:Z7),x,(x.length:Int),(0:Int),B,w))
theorem jgO :mK 75 (bX [.agg [.pv (.sl .str),.pv Y14],pS] [.own 1 Y15 120 true] (c3A (jbw N))):=
 mO (fC (jdX N) (fC (jdK N) (fC (jqc N) (fC (jio N) (fC (jh5 N) (fC (jtv N) ja)))))) func75 rfl N (.seq .no (.seq .no (.seq .no (.seq .no (.seq (.seq .no (.block (.loop jlW .no))) (.seq (.seq .no (.block (.loop jnt .no))) .no)))))) _
def k__loop_example_fossick_impl_Seg_put_1_m (N:Nat) (c:List UInt8) (a:List UInt8) (e:List Z5) (d:List UInt8) (b:Z2×Int):Z8:=
 (bif decide (c=d)then some (decide (a=b.1))else some false)
theorem jmw :mK 137 (bX [.agg [pS,pS,.pv Y11],.ptr .str,.ptr Y15] [pB] (c5A (k__loop_example_fossick_impl_Seg_put_1_m N))):=
 mO ja func137 rfl N .no _
def jnc :Sh:=⟨.pv Y5:: .clo 137 [.ptr .str,.ptr Y15]::dz 5 (pI::pI::dz 10 []),[]⟩
def k_slices_IndexFunc_146_m (d:List Z1) (h:Z2×Z2×Int):Z11:=
 (iter (fun i (f,b,e,a)=>bif decide (a<e)then oB (idx f a) fun c=>(oB (k__loop_example_fossick_impl_Seg_put_1_m N c.1 c.2.1 c.2.2 b.1 b.2) fun k=>bif k then some a else if fits (a+1)then i (f,b,e,(a+1))else none)else some (-1)) N (d,h,(d.length:Int),(0:Int)))
theorem jrl :mK 136 (bX [.pv Y5,.clo 137 [.ptr .str,.ptr Y15]] [pI] (c2A (k_slices_IndexFunc_146_m N))):=
 mO (fC (jmw N) ja) func136 rfl N (.seq .no (.seq (.seq .no (.block (.loop jnc .no))) .no)) _
def i_Seg_put_m (h:List UInt8) (f:List UInt8) (i:Int) (e:Int) (o:List Z0) (a:List Z1):Z20:=
 (oB (k_slices_IndexFunc_146_m N a (h,f,i)) fun d=>bif decide (d<0)then if room a.length ([(h,f,([]:List Z5))]:List Z1).length 56 then if 0<=(a.length:Int)/\(a.length:Int)<((a++([(h,f,([]:List Z5))]:List Z1)).length:Int)then oB ((a++([(h,f,([]:List Z5))]:List Z1))[(a.length:Int).toNat]?) fun c=>(if fits ((c.2.2.length:Int)-1)then bif decide (((c.2.2.length:Int)-1)<0)then oB ((a++([(h,f,([]:List Z5))]:List Z1))[(a.length:Int).toNat]?) fun ap=>(if(a.length:Int).toNat=(a.length:Int).toNat then if room c.2.2.length ([(e,([]:List Int))]:List Z5).length 32 then if(a.length:Int).toNat=(a.length:Int).toNat then oB ((a++([(h,f,([]:List Z5))]:List Z1))[(a.length:Int).toNat]?) fun k=>(if fits (((c.2.2.length:Int)-1)+1)then oB (((a++([(h,f,([]:List Z5))]:List Z1)).set (a.length:Int).toNat (k.1,k.2.1,(c.2.2++([(e,([]:List Int))]:List Z5))))[(a.length:Int).toNat]?) fun r=>(oB (r.2.2[(((c.2.2.length:Int)-1)+1).toNat]?) fun E=>oB (((a++([(h,f,([]:List Z5))]:List Z1)).set (a.length:Int).toNat (k.1,k.2.1,(c.2.2++([(e,([]:List Int))]:List Z5))))[(a.length:Int).toNat]?) fun T=>if(a.length:Int).toNat=(a.length:Int).toNat then oB (((a++([(h,f,([]:List Z5))]:List Z1)).set (a.length:Int).toNat (k.1,k.2.1,(c.2.2++([(e,([]:List Int))]:List Z5))))[(a.length:Int).toNat]?) fun V=>(if(a.length:Int).toNat=(a.length:Int).toNat then if 0<=(((c.2.2.length:Int)-1)+1)/\(((c.2.2.length:Int)-1)+1)<(r.2.2.length:Int)then oB (r.2.2[(((c.2.2.length:Int)-1)+1).toNat]?) fun aq=>(if(((c.2.2.length:Int)-1)+1).toNat=(((c.2.2.length:Int)-1)+1).toNat then if room E.2.length ([i]:List Int).length 8 then if 0<=(((c.2.2.length:Int)-1)+1)/\(((c.2.2.length:Int)-1)+1)<(r.2.2.length:Int)then if(((c.2.2.length:Int)-1)+1).toNat=(((c.2.2.length:Int)-1)+1).toNat then oB (r.2.2[(((c.2.2.length:Int)-1)+1).toNat]?) fun G=>(some (o,(((a++([(h,f,([]:List Z5))]:List Z1)).set (a.length:Int).toNat (k.1,k.2.1,(c.2.2++([(e,([]:List Int))]:List Z5)))).modify ((a.length:Int).toNat) fun x=>(x.1,x.2.1,(r.2.2.set (((c.2.2.length:Int)-1)+1).toNat (G.1,(E.2++([i]:List Int))))))))else none else none else none else none)else none else none)else none)else none)else none else none else none)else(oB ((a++([(h,f,([]:List Z5))]:List Z1))[(a.length:Int).toNat]?) fun aj=>if(a.length:Int).toNat=(a.length:Int).toNat then if 0<=((c.2.2.length:Int)-1)/\((c.2.2.length:Int)-1)<(c.2.2.length:Int)then oB (c.2.2[((c.2.2.length:Int)-1).toNat]?) fun O=>(bif !decide (O.1=e)then oB ((a++([(h,f,([]:List Z5))]:List Z1))[(a.length:Int).toNat]?) fun an=>(if(a.length:Int).toNat=(a.length:Int).toNat then if room c.2.2.length ([(e,([]:List Int))]:List Z5).length 32 then if(a.length:Int).toNat=(a.length:Int).toNat then oB ((a++([(h,f,([]:List Z5))]:List Z1))[(a.length:Int).toNat]?) fun l=>(if fits (((c.2.2.length:Int)-1)+1)then oB (((a++([(h,f,([]:List Z5))]:List Z1)).set (a.length:Int).toNat (l.1,l.2.1,(c.2.2++([(e,([]:List Int))]:List Z5))))[(a.length:Int).toNat]?) fun p=>(oB (p.2.2[(((c.2.2.length:Int)-1)+1).toNat]?) fun t=>oB (((a++([(h,f,([]:List Z5))]:List Z1)).set (a.length:Int).toNat (l.1,l.2.1,(c.2.2++([(e,([]:List Int))]:List Z5))))[(a.length:Int).toNat]?) fun ag=>if(a.length:Int).toNat=(a.length:Int).toNat then oB (((a++([(h,f,([]:List Z5))]:List Z1)).set (a.length:Int).toNat (l.1,l.2.1,(c.2.2++([(e,([]:List Int))]:List Z5))))[(a.length:Int).toNat]?) fun aa=>(if(a.length:Int).toNat=(a.length:Int).toNat then if 0<=(((c.2.2.length:Int)-1)+1)/\(((c.2.2.length:Int)-1)+1)<(p.2.2.length:Int)then oB (p.2.2[(((c.2.2.length:Int)-1)+1).toNat]?) fun af=>(if(((c.2.2.length:Int)-1)+1).toNat=(((c.2.2.length:Int)-1)+1).toNat then if room t.2.length ([i]:List Int).length 8 then if 0<=(((c.2.2.length:Int)-1)+1)/\(((c.2.2.length:Int)-1)+1)<(p.2.2.length:Int)then if(((c.2.2.length:Int)-1)+1).toNat=(((c.2.2.length:Int)-1)+1).toNat then oB (p.2.2[(((c.2.2.length:Int)-1)+1).toNat]?) fun I=>(some (o,(((a++([(h,f,([]:List Z5))]:List Z1)).set (a.length:Int).toNat (l.1,l.2.1,(c.2.2++([(e,([]:List Int))]:List Z5)))).modify ((a.length:Int).toNat) fun D=>(D.1,D.2.1,(p.2.2.set (((c.2.2.length:Int)-1)+1).toNat (I.1,(t.2++([i]:List Int))))))))else none else none else none else none)else none else none)else none)else none)else none else none else none)else if(a.length:Int).toNat=(a.length:Int).toNat then oB (c.2.2[((c.2.2.length:Int)-1).toNat]?) fun w=>(oB ((a++([(h,f,([]:List Z5))]:List Z1))[(a.length:Int).toNat]?) fun ao=>if(a.length:Int).toNat=(a.length:Int).toNat then oB ((a++([(h,f,([]:List Z5))]:List Z1))[(a.length:Int).toNat]?) fun X=>(if(a.length:Int).toNat=(a.length:Int).toNat then if 0<=((c.2.2.length:Int)-1)/\((c.2.2.length:Int)-1)<(c.2.2.length:Int)then oB (c.2.2[((c.2.2.length:Int)-1).toNat]?) fun ak=>(if((c.2.2.length:Int)-1).toNat=((c.2.2.length:Int)-1).toNat then if room w.2.length ([i]:List Int).length 8 then if 0<=((c.2.2.length:Int)-1)/\((c.2.2.length:Int)-1)<(c.2.2.length:Int)then if((c.2.2.length:Int)-1).toNat=((c.2.2.length:Int)-1).toNat then oB (c.2.2[((c.2.2.length:Int)-1).toNat]?) fun H=>(some (o,((a++([(h,f,([]:List Z5))]:List Z1)).modify ((a.length:Int).toNat) fun v=>(v.1,v.2.1,(c.2.2.set ((c.2.2.length:Int)-1).toNat (H.1,(w.2++([i]:List Int))))))))else none else none else none else none)else none else none)else none)else none)else none else none)else none)else none else none else if 0<=d/\d<(a.length:Int)then oB (a[d.toNat]?) fun b=>(if fits ((b.2.2.length:Int)-1)then bif decide (((b.2.2.length:Int)-1)<0)then oB (a[d.toNat]?) fun W=>(if d.toNat=d.toNat then if room b.2.2.length ([(e,([]:List Int))]:List Z5).length 32 then if d.toNat=d.toNat then oB (a[d.toNat]?) fun j=>(if fits (((b.2.2.length:Int)-1)+1)then oB ((a.set d.toNat (j.1,j.2.1,(b.2.2++([(e,([]:List Int))]:List Z5))))[d.toNat]?) fun n=>(oB (n.2.2[(((b.2.2.length:Int)-1)+1).toNat]?) fun z=>oB ((a.set d.toNat (j.1,j.2.1,(b.2.2++([(e,([]:List Int))]:List Z5))))[d.toNat]?) fun al=>if d.toNat=d.toNat then oB ((a.set d.toNat (j.1,j.2.1,(b.2.2++([(e,([]:List Int))]:List Z5))))[d.toNat]?) fun ae=>(if d.toNat=d.toNat then if 0<=(((b.2.2.length:Int)-1)+1)/\(((b.2.2.length:Int)-1)+1)<(n.2.2.length:Int)then oB (n.2.2[(((b.2.2.length:Int)-1)+1).toNat]?) fun ab=>(if(((b.2.2.length:Int)-1)+1).toNat=(((b.2.2.length:Int)-1)+1).toNat then if room z.2.length ([i]:List Int).length 8 then if 0<=(((b.2.2.length:Int)-1)+1)/\(((b.2.2.length:Int)-1)+1)<(n.2.2.length:Int)then if(((b.2.2.length:Int)-1)+1).toNat=(((b.2.2.length:Int)-1)+1).toNat then oB (n.2.2[(((b.2.2.length:Int)-1)+1).toNat]?) fun Q=>(some (o,((a.set d.toNat (j.1,j.2.1,(b.2.2++([(e,([]:List Int))]:List Z5)))).modify d.toNat fun B=>(B.1,B.2.1,(n.2.2.set (((b.2.2.length:Int)-1)+1).toNat (Q.1,(z.2++([i]:List Int))))))))else none else none else none else none)else none else none)else none)else none)else none else none else none)else(oB (a[d.toNat]?) fun ad=>if d.toNat=d.toNat then if 0<=((b.2.2.length:Int)-1)/\((b.2.2.length:Int)-1)<(b.2.2.length:Int)then oB (b.2.2[((b.2.2.length:Int)-1).toNat]?) fun P=>(bif !decide (P.1=e)then oB (a[d.toNat]?) fun U=>(if d.toNat=d.toNat then if room b.2.2.length ([(e,([]:List Int))]:List Z5).length 32 then if d.toNat=d.toNat then oB (a[d.toNat]?) fun m=>(if fits (((b.2.2.length:Int)-1)+1)then oB ((a.set d.toNat (m.1,m.2.1,(b.2.2++([(e,([]:List Int))]:List Z5))))[d.toNat]?) fun q=>(oB (q.2.2[(((b.2.2.length:Int)-1)+1).toNat]?) fun A=>oB ((a.set d.toNat (m.1,m.2.1,(b.2.2++([(e,([]:List Int))]:List Z5))))[d.toNat]?) fun am=>if d.toNat=d.toNat then oB ((a.set d.toNat (m.1,m.2.1,(b.2.2++([(e,([]:List Int))]:List Z5))))[d.toNat]?) fun ai=>(if d.toNat=d.toNat then if 0<=(((b.2.2.length:Int)-1)+1)/\(((b.2.2.length:Int)-1)+1)<(q.2.2.length:Int)then oB (q.2.2[(((b.2.2.length:Int)-1)+1).toNat]?) fun ah=>(if(((b.2.2.length:Int)-1)+1).toNat=(((b.2.2.length:Int)-1)+1).toNat then if room A.2.length ([i]:List Int).length 8 then if 0<=(((b.2.2.length:Int)-1)+1)/\(((b.2.2.length:Int)-1)+1)<(q.2.2.length:Int)then if(((b.2.2.length:Int)-1)+1).toNat=(((b.2.2.length:Int)-1)+1).toNat then oB (q.2.2[(((b.2.2.length:Int)-1)+1).toNat]?) fun K=>(some (o,((a.set d.toNat (m.1,m.2.1,(b.2.2++([(e,([]:List Int))]:List Z5)))).modify d.toNat fun y=>(y.1,y.2.1,(q.2.2.set (((b.2.2.length:Int)-1)+1).toNat (K.1,(A.2++([i]:List Int))))))))else none else none else none else none)else none else none)else none)else none)else none else none else none)else if d.toNat=d.toNat then oB (b.2.2[((b.2.2.length:Int)-1).toNat]?) fun C=>(oB (a[d.toNat]?) fun R=>if d.toNat=d.toNat then oB (a[d.toNat]?) fun S=>(if d.toNat=d.toNat then if 0<=((b.2.2.length:Int)-1)/\((b.2.2.length:Int)-1)<(b.2.2.length:Int)then oB (b.2.2[((b.2.2.length:Int)-1).toNat]?) fun ac=>(if((b.2.2.length:Int)-1).toNat=((b.2.2.length:Int)-1).toNat then if room C.2.length ([i]:List Int).length 8 then if 0<=((b.2.2.length:Int)-1)/\((b.2.2.length:Int)-1)<(b.2.2.length:Int)then if((b.2.2.length:Int)-1).toNat=((b.2.2.length:Int)-1).toNat then oB (b.2.2[((b.2.2.length:Int)-1).toNat]?) fun L=>(some (o,(a.modify d.toNat fun u=>(u.1,u.2.1,(b.2.2.set ((b.2.2.length:Int)-1).toNat (L.1,(C.2++([i]:List Int))))))))else none else none else none else none)else none else none)else none)else none)else none else none)else none)else none)
theorem jky :mK 76 ⟨⟨[.box 900000 0,pS,.agg [pS,pI],pI],[(900000,false,[.pv Y3,.tre 850001 Y6 106])]⟩,⟨[.tup []],[(900000,false,[.pv Y3,.tre 1 Y6 106])]⟩,c6A (i_Seg_put_m N)⟩:=
 mO (fC (jrl N) ja) func76 rfl N (.seq .no (.seq .no (.seq .no (.seq .no (.seq .no (.seq .no (.touch [.out 9 [(2,79,164,10),(1,88,3,0)]]))))))) _ (wr:=[33,34,70,71,91,92]) (rs:=[900000,850001]) (dw:=[16,33,70])
def jl0 :Sh:=⟨.pv (.int .u64):: .dead::pI::dz 22 [],[]⟩
def k_math_bits_Len64_m (N:Nat) (f:Int):Z11:=
 (meet (fun(a:Int×Int)=>match a with|(d,b)=>meet (fun(a:Int×Int)=>match a with|(e,c)=>meet (fun(a:Int×Int)=>match a with|(m,i)=>oB (idx ([0,1,2,2,3,3,3,3,4,4,4,4,4,4,4,4,5,5,5,5,5,5,5,5,5,5,5,5,5,5,5,5,6,6,6,6,6,6,6,6,6,6,6,6,6,6,6,6,6,6,6,6,6,6,6,6,6,6,6,6,6,6,6,6,7,7,7,7,7,7,7,7,7,7,7,7,7,7,7,7,7,7,7,7,7,7,7,7,7,7,7,7,7,7,7,7,7,7,7,7,7,7,7,7,7,7,7,7,7,7,7,7,7,7,7,7,7,7,7,7,7,7,7,7,7,7,7,7,8,8,8,8,8,8,8,8,8,8,8,8,8,8,8,8,8,8,8,8,8,8,8,8,8,8,8,8,8,8,8,8,8,8,8,8,8,8,8,8,8,8,8,8,8,8,8,8,8,8,8,8,8,8,8,8,8,8,8,8,8,8,8,8,8,8,8,8,8,8,8,8,8,8,8,8,8,8,8,8,8,8,8,8,8,8,8,8,8,8,8,8,8,8,8,8,8,8,8,8,8,8,8,8,8,8,8,8,8,8,8,8,8,8,8,8,8,8,8,8,8,8,8,8,8,8,8,8]:List UInt8) (IntKind.u8.wrap m)) fun k=>if fits (i+(IntKind.i64.wrap (k.toNat:Int)))then some (i+(IntKind.i64.wrap (k.toNat:Int)))else none) fun h=>bif decide ((256:Int)<=e)then if 0<=(8:Int)then if fits (c+8)then h ((e.fdiv (2^(min (8:Int).toNat (IntKind.bits .u64)))),(c+8))else none else none else h (e,c)) fun l=>bif decide ((65536:Int)<=d)then if 0<=(16:Int)then if fits (b+16)then l ((d.fdiv (2^(min (16:Int).toNat (IntKind.bits .u64)))),(b+16))else none else none else l (d,b)) fun j=>bif decide ((4294967296:Int)<=f)then if 0<=(32:Int)then j ((f.fdiv (2^(min (32:Int).toNat (IntKind.bits .u64)))),32)else none else j (f,0))
theorem jrK :mK 181 (bX [.pv (.int .u64)] [pI] (c1A (k_math_bits_Len64_m N))):=
 mO ja func181 rfl N (.seq .no (.meet jl0 .no (.meet jl0 .no (.meet jl0 .no .no)))) _
def k_math_bits_Len_m (b:Int):Z11:=
 (oB (k_math_bits_Len64_m N b) fun a=>some a)
theorem jda :mK 139 (bX [.pv (.int .u64)] [pI] (c1A (k_math_bits_Len_m N))):=
 mO (fC (jrK N) ja) func139 rfl N .no _
def jbn (N:Nat) (a:List UInt8):Z8:=
 (some (!decide (a=a)))
theorem jkt :mK 140 (bX [pS] [pB] (c1A (jbn N))):=
 mO ja func140 rfl N .no _
def jam (a:List UInt8) (b:List UInt8):Z11:=
 (oB (jbn N a) fun d=>oB (jbn N b) fun c=>bif d then bif c then some 0 else(some (-1))else bif c then some 1 else bif Op.bytesLess a b then some (-1)else bif !(Op.bytesLess a b||decide (a=b))then some 1 else some 0)
theorem ji2 :mK 80 (bX [pS,pS] [pI] (c2A (jam N))):=
 mO (fC (jkt N) ja) func80 rfl N .no _
def jlp :Sh:=⟨dz 3 (pI:: .dead:: .dead:: .pv Y19::pI::pI::dz 9 []),[]⟩
def jbe (f:List Int):Z11:=
 (iter (fun h (b,c,d,a)=>bif decide (a<d)then oB (idx c a) fun e=>(bif !decide (e=b)then some e else if fits (a+1)then h (b,c,d,(a+1))else none)else some b) N ((0:Int),f,(f.length:Int),(0:Int)))
theorem jhC :mK 79 (bX [.pv Y19] [pI] (c1A (jbe N))):=
 mO ja func79 rfl N (.seq .no (.seq .no (.seq (.seq .no (.block (.loop jlp .no))) .no))) _
def je (d:List UInt8) (c:List UInt8) (j:List Z5) (e:List UInt8) (h:List UInt8) (i:List Z5):Z11:=
 (oB (jam N d e) fun f=>oB (jam N c h) fun b=>oB (jbe N ([f,b]:List Int)) fun a=>some a)
theorem jaf :mK 78 (bX [.agg [pS,pS,.pv Y11],.agg [pS,pS,.pv Y11]] [pI] (c6A (je N))):=
 mO (fC (ji2 N) (fC (jhC N) ja)) func78 rfl N .no _
def k_slices_nextPowerOfTwo_m (b:Int):Z11:=
 (oB (k_math_bits_Len_m N (IntKind.u64.wrap b)) fun a=>if 0<=a then some (IntKind.u64.wrap ((1:Int)*2^(min a.toNat (IntKind.bits .u64))))else none)
theorem jhv :mK 209 (bX [pI] [.pv (.int .u64)] (c1A (k_slices_nextPowerOfTwo_m N))):=
 mO (fC (jda N) ja) func209 rfl N .no _
def k__slices_xorshift_Next_m (N:Nat) (a:Int):Option (Int×Int):=
 (if 0<=(13:Int)then if 0<=(7:Int)then if 0<=(17:Int)then some ((bitsI .xor .u64 (bitsI .xor .u64 (bitsI .xor .u64 a (IntKind.u64.wrap (a*2^(min (13:Int).toNat (IntKind.bits .u64))))) ((bitsI .xor .u64 a (IntKind.u64.wrap (a*2^(min (13:Int).toNat (IntKind.bits .u64))))).fdiv (2^(min (7:Int).toNat (IntKind.bits .u64))))) (IntKind.u64.wrap ((bitsI .xor .u64 (bitsI .xor .u64 a (IntKind.u64.wrap (a*2^(min (13:Int).toNat (IntKind.bits .u64))))) ((bitsI .xor .u64 a (IntKind.u64.wrap (a*2^(min (13:Int).toNat (IntKind.bits .u64))))).fdiv (2^(min (7:Int).toNat (IntKind.bits .u64)))))*2^(min (17:Int).toNat (IntKind.bits .u64))))),(bitsI .xor .u64 (bitsI .xor .u64 (bitsI .xor .u64 a (IntKind.u64.wrap (a*2^(min (13:Int).toNat (IntKind.bits .u64))))) ((bitsI .xor .u64 a (IntKind.u64.wrap (a*2^(min (13:Int).toNat (IntKind.bits .u64))))).fdiv (2^(min (7:Int).toNat (IntKind.bits .u64))))) (IntKind.u64.wrap ((bitsI .xor .u64 (bitsI .xor .u64 a (IntKind.u64.wrap (a*2^(min (13:Int).toNat (IntKind.bits .u64))))) ((bitsI .xor .u64 a (IntKind.u64.wrap (a*2^(min (13:Int).toNat (IntKind.bits .u64))))).fdiv (2^(min (7:Int).toNat (IntKind.bits .u64)))))*2^(min (17:Int).toNat (IntKind.bits .u64))))))else none else none else none)
theorem jet :mK 210 ⟨⟨[.box 900000 0],[(900000,false,[.pv (.int .u64)])]⟩,⟨[.pv (.int .u64)],[(900000,false,[.pv (.int .u64)])]⟩,c1A (k__slices_xorshift_Next_m N)⟩:=
 mO ja func210 rfl N .no _ (rs:=[900000])
section
variable {Y γ ρ : Type} (c : γ -> Y -> Y -> Option Int)
def swpG (d:List Y) (i j:Int) (k:List Y->Option ρ):Option ρ:=
 if 0<=j/\j<(d.length:Int)then oB (d[j.toNat]?) fun e=>if 0<=i/\i<(d.length:Int)then oB (d[i.toNat]?) fun e2=>
  if 0<=i/\i<(d.length:Int)then oB (d[i.toNat]?) fun e3=>if 0<=j/\j<((d.set i.toNat e).length:Int)then oB ((d.set i.toNat e)[j.toNat]?) fun e4=>k ((d.set i.toNat e).set j.toNat e2)
  else none else none else none else none
def cmpG (ks:γ) (d:List Y) (i j:Int) (k:Int->Option ρ):Option ρ:=
 if 0<=i/\i<(d.length:Int)then oB (d[i.toNat]?) fun e=>if 0<=j/\j<(d.length:Int)then oB (d[j.toNat]?) fun e2=>oB (c ks e e2) k else none else none
def cmpP (ks:γ) (d:List Y) (j:Int) (k:Int->Option ρ):Option ρ:=
 if 0<=j/\j<(d.length:Int)then oB (d[j.toNat]?) fun e=>if fits (j-1)then if 0<=(j-1)/\(j-1)<(d.length:Int)then oB (d[(j-1).toNat]?) fun e2=>oB (c ks e e2) k else none else none else none
def swpP (d:List Y) (j:Int) (k:List Y->Option ρ):Option ρ:=if fits (j-1)then if fits (j-1)then swpG d j (j-1) k else none else none
def insG (N:Nat) (d:List Y) (a b:Int) (ks:γ):Option (List Y):=
 if fits (a+1)then iter (fun go (g:List Y×Int×Int×γ×Int)=>
  match g with
  |(d2,a2,b2,ks2,i)=>
  bif decide (i<b2)then
   iter (fun go2 (g:List Y×Int×Int×γ×Int×Int)=>
    match g with
    |(d3,a3,b3,ks3,i2,j)=>
    bif decide (a3<j)then cmpP c ks3 d3 j fun r=>bif decide (r<0)then swpP d3 j fun d=>if fits (j-1)then go2 (d,a3,b3,ks3,i2,j-1)else none
     else if fits (i2+1)then go (d3,a3,b3,ks3,i2+1)else none
    else if fits (i2+1)then go (d3,a3,b3,ks3,i2+1)else none) N (d2,a2,b2,ks2,i,i)
  else some d2) N (d,a,b,ks,a+1)else none
def siftG (N:Nat) (data:List Y) (lo:Int) (hi:Int) (first:Int) (cmp:γ):Option ((List Y)):=
 (iter (fun go (g:(List Y)×Int×Int×γ×Int)=>
   match g with
   |(data2,hi2,first2,cmp2,root)=>
   (if fits (2*root)then(if fits ((2*root)+1)then(bif(decide (hi2<=((2*root)+1)))then
      (some data2)
      else
      (meet (fun(g:(List Y)×Int×Int×γ×Int×Int)=>
        match g with
        |(data3,hi3,first3,cmp3,root2,child)=>
        (if fits (first3+root2)then(if 0<=(first3+root2)/\(first3+root2)<(data3.length:Int)then
          (oB (data3[(first3+root2).toNat]?) fun e3=>
           (if fits (first3+child)then(if 0<=(first3+child)/\(first3+child)<(data3.length:Int)then
             (oB (data3[(first3+child).toNat]?) fun e4=>
              (oB (c cmp3 e3 e4) fun r2=>
               (bif(!(decide (r2<0)))then
                (some data3)
                else
                (if fits (first3+root2)then(if fits (first3+child)then(if fits (first3+child)then(if 0<=(first3+child)/\(first3+child)<(data3.length:Int)then
                    (oB (data3[(first3+child).toNat]?) fun e5=>
                     (if fits (first3+root2)then(if 0<=(first3+root2)/\(first3+root2)<(data3.length:Int)then
                       (oB (data3[(first3+root2).toNat]?) fun e6=>
                        (if 0<=(first3+root2)/\(first3+root2)<(data3.length:Int)then
                         (oB (data3[(first3+root2).toNat]?) fun e7=>
                          (if 0<=(first3+child)/\(first3+child)<((data3.set (first3+root2).toNat e5).length:Int)then
                           (oB ((data3.set (first3+root2).toNat e5)[(first3+child).toNat]?) fun e8=>
                            (go (((data3.set (first3+root2).toNat e5).set (first3+child).toNat e6),hi3,first3,cmp3,child)))
                           else none))
                         else none))
                       else none)else none))
                    else none)else none)else none)else none))))
             else none)else none))
          else none)else none)) fun J=>
       (if fits (((2*root)+1)+1)then(bif(decide ((((2*root)+1)+1)<hi2))then
         (if fits (first2+((2*root)+1))then(if 0<=(first2+((2*root)+1))/\(first2+((2*root)+1))<(data2.length:Int)then
           (oB (data2[(first2+((2*root)+1)).toNat]?) fun e=>
            (if fits (first2+((2*root)+1))then(if fits ((first2+((2*root)+1))+1)then(if 0<=((first2+((2*root)+1))+1)/\((first2+((2*root)+1))+1)<(data2.length:Int)then
               (oB (data2[((first2+((2*root)+1))+1).toNat]?) fun e2=>
                (oB (c cmp2 e e2) fun r=>
                 (bif(decide (r<0))then
                  (if fits (((2*root)+1)+1)then(J (data2,hi2,first2,cmp2,root,(((2*root)+1)+1)))else none)
                  else
                  (J (data2,hi2,first2,cmp2,root,((2*root)+1))))))
               else none)else none)else none))
           else none)else none)
         else
         (J (data2,hi2,first2,cmp2,root,((2*root)+1))))else none)))else none)else none)) N (data,hi,first,cmp,lo))
def heapG (N:Nat) (data:List Y) (a:Int) (b:Int) (cmp:γ):Option ((List Y)):=
 (if fits (b-a)then(if fits ((b-a)-1)then(if 2≠0 then
    (if fits (((b-a)-1).tdiv 2)then(iter (fun go (g:(List Y)×γ×Int×Int×Int×Int)=>
       match g with
       |(data2,cmp2,first,lo,hi,i)=>
       (bif(decide ((0:Int)<=i))then
        (oB (siftG c N data2 i hi first cmp2) fun r=>
         (if fits (i-1)then(go (r,cmp2,first,lo,hi,(i-1)))else none))
        else
        (if fits (hi-1)then(iter (fun go2 (g:(List Y)×γ×Int×Int×Int)=>
           match g with
           |(data3,cmp3,first2,lo2,i2)=>
           (bif(decide ((0:Int)<=i2))then
            (if fits (first2+i2)then(if fits (first2+i2)then swpG data3 first2 (first2+i2) fun d=>(oB (siftG c N d lo2 i2 first2 cmp3) fun r2=>
                       (if fits (i2-1)then(go2 (r2,cmp3,first2,lo2,(i2-1)))else none))else none)else none)
            else
            (some data3))) N (data2,cmp2,first,lo,(hi-1)))else none))) N (data,cmp,a,0,(b-a),(((b-a)-1).tdiv 2)))else none)
    else none)else none)else none)
def breakG (N:Nat) (data:List Y) (a:Int) (b:Int) (cmp:γ):Option (List Y):=
 (if fits (b-a)then(bif(decide ((8:Int)<=(b-a)))then
   (oB (k_slices_nextPowerOfTwo_m N (b-a)) fun r=>
    (if 4≠0 then
     (if fits ((b-a).tdiv 4)then(if fits (((b-a).tdiv 4)*2)then(if fits (a+(((b-a).tdiv 4)*2))then(if fits ((a+(((b-a).tdiv 4)*2))-1)then(iter (fun go (g:(List Y)×Int×Int×Int×Int×Int)=>
           match g with
           |(data2,a2,length,modulus,idx0,random)=>
           (if 4≠0 then
            (if fits (length.tdiv 4)then(if fits ((length.tdiv 4)*2)then(if fits (a2+((length.tdiv 4)*2))then(if fits ((a2+((length.tdiv 4)*2))+1)then(bif(decide (idx0<=((a2+((length.tdiv 4)*2))+1)))then
                 (oB (k__slices_xorshift_Next_m N random) fun r2=>
                  (meet (fun(g:(List Y)×Int×Int×Int×Int×Int×Int)=>
                    match g with
                    |(data3,a3,length2,modulus2,idx02,other,random2)=>
                    (if fits (a3+other)then(if fits (a3+other)then swpG data3 idx02 (a3+other) fun d=>(if fits (idx02+1)then(go (d,a3,length2,modulus2,(idx02+1),random2))else none)else none)else none)) fun J=>
                   (bif(decide (length<=(IntKind.i64.wrap (bitsI .and .u64 r2.1 (IntKind.u64.wrap (modulus-1))))))then
                    (if fits ((IntKind.i64.wrap (bitsI .and .u64 r2.1 (IntKind.u64.wrap (modulus-1))))-length)then(J (data2,a2,length,modulus,idx0,((IntKind.i64.wrap (bitsI .and .u64 r2.1 (IntKind.u64.wrap (modulus-1))))-length),r2.2))else none)
                    else
                    (J (data2,a2,length,modulus,idx0,(IntKind.i64.wrap (bitsI .and .u64 r2.1 (IntKind.u64.wrap (modulus-1)))),r2.2)))))
                 else
                 (some data2))else none)else none)else none)else none)
            else none)) N (data,a,(b-a),r,((a+(((b-a).tdiv 4)*2))-1),(IntKind.u64.wrap (b-a))))else none)else none)else none)else none)
     else none))
   else
   (some data))else none)
def order2G (N:Nat) (data:List Y) (a:Int) (b:Int) (cmp:γ) (b2:Int):Option (Int×Int×(List Y)×Int):=
 cmpG c cmp data b a fun r=>(bif(decide (r<0))then(if fits (b2+1)then(some (b,a,data,(b2+1)))else none)else(some (a,b,data,b2)))
def medianG (N:Nat) (data:List Y) (a:Int) (b:Int) (c0:Int) (cmp:γ) (b2:Int):Option (Int×(List Y)×Int):=
 (oB (order2G c N data a b cmp b2) fun r=>
  (oB (order2G c N r.2.2.1 r.2.1 c0 cmp r.2.2.2) fun r2=>
   (oB (order2G c N r2.2.2.1 r.1 r2.1 cmp r2.2.2.2) fun r3=>
    (some (r3.2.1,r3.2.2.1,r3.2.2.2)))))
def medianAdjacentG (N:Nat) (data:List Y) (a:Int) (cmp:γ) (b:Int):Option (Int×(List Y)×Int):=
 (if fits (a-1)then(if fits (a+1)then(oB (medianG c N data (a-1) a (a+1) cmp b) fun r=>
    (some (r.1,r.2.1,r.2.2)))else none)else none)
def choosePivotG (N:Nat) (data:List Y) (a:Int) (b:Int) (cmp:γ):Option (Int×Int×(List Y)):=
 (if fits (b-a)then(if 4≠0 then
   (if fits ((b-a).tdiv 4)then(if fits (((b-a).tdiv 4)*1)then(if fits (a+(((b-a).tdiv 4)*1))then(if 4≠0 then
       (if fits ((b-a).tdiv 4)then(if fits (((b-a).tdiv 4)*2)then(if fits (a+(((b-a).tdiv 4)*2))then(if 4≠0 then
           (if fits ((b-a).tdiv 4)then(if fits (((b-a).tdiv 4)*3)then(if fits (a+(((b-a).tdiv 4)*3))then(meet (fun(g:(List Y)×Int×Int)=>
                match g with
                |(data3,j2,swaps2)=>
                (bif(decide (swaps2=0))then
                 (some (j2,1,data3))
                 else
                 (bif(decide (swaps2=12))then
                  (some (j2,2,data3))
                  else
                  (some (j2,0,data3))))) fun J=>
               (bif(decide ((8:Int)<=(b-a)))then
                (meet (fun(g:(List Y)×γ×Int×Int×Int×Int)=>
                  match g with
                  |(data2,cmp2,i,j,k,swaps)=>
                  (oB (medianG c N data2 i j k cmp2 swaps) fun r4=>
                   (J (r4.2.1,r4.1,r4.2.2)))) fun J2=>
                 (bif(decide ((50:Int)<=(b-a)))then
                  (oB (medianAdjacentG c N data (a+(((b-a).tdiv 4)*1)) cmp 0) fun r=>
                   (oB (medianAdjacentG c N r.2.1 (a+(((b-a).tdiv 4)*2)) cmp r.2.2) fun r2=>
                    (oB (medianAdjacentG c N r2.2.1 (a+(((b-a).tdiv 4)*3)) cmp r2.2.2) fun r3=>
                     (J2 (r3.2.1,cmp,r.1,r2.1,r3.1,r3.2.2)))))
                  else
                  (J2 (data,cmp,(a+(((b-a).tdiv 4)*1)),(a+(((b-a).tdiv 4)*2)),(a+(((b-a).tdiv 4)*3)),0))))
                else
                (J (data,(a+(((b-a).tdiv 4)*2)),0))))else none)else none)else none)
           else none)else none)else none)else none)
       else none)else none)else none)else none)
   else none)else none)
def reverseRangeG (N:Nat) (data:List Y) (a:Int) (b:Int) (cmp:γ):Option ((List Y)):=
 (if fits (b-1)then(iter (fun go (g:(List Y)×Int×Int)=>
    match g with
    |(data2,i,j)=>
    (bif(decide (i<j))then swpG data2 i j fun d=>(if fits (i+1)then(if fits (j-1)then(go (d,(i+1),(j-1)))else none)else none)
     else
     (some data2))) N (data,a,(b-1)))else none)
def shDown (k:(List Y×Int×Int×γ×Int×Int)->Option ρ) (N:Nat) (g:List Y×Int×Int×γ×Int×Int×Int):Option ρ:=
 iter (fun go3 (g:(List Y)×Int×Int×γ×Int×Int×Int)=>
  match g with
  |(d,a,b,ks,i,j,j4)=>
  bif decide ((1:Int)<=j4)then cmpP c ks d j4 fun r=>bif !decide (r<0)then k (d,a,b,ks,i,j)else swpP d j4 fun d'=>if fits (j4-1)then go3 (d',a,b,ks,i,j,j4-1)else none
  else k (d,a,b,ks,i,j)) N g
def shUp (k:(List Y×Int×Int×γ×Int×Int)->Option ρ) (N:Nat) (g:List Y×Int×Int×γ×Int×Int×Int):Option ρ:=
 iter (fun go4 (g:(List Y)×Int×Int×γ×Int×Int×Int)=>
  match g with
  |(d,a,b,ks,i,j,j4)=>
  bif decide (j4<b)then cmpP c ks d j4 fun r=>bif !decide (r<0)then(if fits (j+1)then k (d,a,b,ks,i,j+1)else none)else swpP d j4 fun d'=>if fits (j4+1)then go4 (d',a,b,ks,i,j,j4+1)else none
  else if fits (j+1)then k (d,a,b,ks,i,j+1)else none) N g
def pisX (N:Nat) (go:(List Y×Int×Int×γ×Int×Int)->Option (Bool×List Y)) (d:List Y) (a b:Int) (ks:γ) (i j:Int):Option (Bool×List Y):=
 bif decide (i=b)then some (true,d)else if fits (b-a)then bif decide ((b-a)<50)then some (false,d)else
  swpP d i fun d'=>meet (fun(g:List Y×Int×Int×γ×Int×Int)=>
   match g with
   |(d5,a5,b5,ks5,i4,j5)=>
   if fits (b5-i4)then bif decide ((2:Int)<=(b5-i4))then if fits (i4+1)then shUp c go N (d5,a5,b5,ks5,i4,j5,i4+1)else none
    else(if fits (j5+1)then go (d5,a5,b5,ks5,i4,j5+1)else none)else none) fun J=>
   if fits (i-a)then bif decide ((2:Int)<=(i-a))then if fits (i-1)then shDown c J N (d',a,b,ks,i,j,i-1)else none else J (d',a,b,ks,i,j)else none
 else none
def pisG (N:Nat) (d:List Y) (a b:Int) (ks:γ):Option (Bool×List Y):=
 if fits (a+1)then iter (fun go (g:List Y×Int×Int×γ×Int×Int)=>
  match g with
  |(d2,a2,b2,ks2,i,j)=>
  bif decide (j<5)then
   iter (fun go2 (g:List Y×Int×Int×γ×Int×Int)=>
    match g with
    |(d3,a3,b3,ks3,i2,j2)=>
    bif decide (i2<b3)then cmpP c ks3 d3 i2 fun r=>bif !decide (r<0)then(if fits (i2+1)then go2 (d3,a3,b3,ks3,i2+1,j2)else none)else pisX c N go d3 a3 b3 ks3 i2 j2
    else pisX c N go d3 a3 b3 ks3 i2 j2) N (d2,a2,b2,ks2,i,j)
  else some (false,d2)) N (d,a,b,ks,a+1,0)else none
def partE (go3:(List Y×Int×γ×Int×Int)->Option (Int×Bool×List Y)) (fl:Bool) (g:List Y×Int×γ×Int×Int):Option (Int×Bool×List Y):=
 match g with
 |(d,a,ks,i,j)=>
 bif decide (j<i)then swpG d j a fun d'=>some (j,fl,d')else swpG d i j fun d'=>if fits (i+1)then if fits (j-1)then go3 (d',a,ks,i+1,j-1)else none else none
def partD (k:(List Y×Int×γ×Int×Int)->Option ρ) (N:Nat) (g:List Y×Int×γ×Int×Int):Option ρ:=
 iter (fun go (g:List Y×Int×γ×Int×Int)=>
  match g with
  |(d,a,ks,i,j)=>
  bif decide (i<=j)then cmpG c ks d j a fun r=>bif !decide (r<0)then(if fits (j-1)then go (d,a,ks,i,j-1)else none)else k (d,a,ks,i,j)
  else k (d,a,ks,i,j)) N g
def partU (k:(List Y×Int×γ×Int×Int)->Option ρ) (N:Nat) (g:List Y×Int×γ×Int×Int):Option ρ:=
 iter (fun go (g:List Y×Int×γ×Int×Int)=>
  match g with
  |(d,a,ks,i,j)=>
  bif decide (i<=j)then cmpG c ks d i a fun r=>bif decide (r<0)then(if fits (i+1)then go (d,a,ks,i+1,j)else none)else k (d,a,ks,i,j)
  else k (d,a,ks,i,j)) N g
def partG (N:Nat) (d:List Y) (a b p:Int) (ks:γ):Option (Int×Bool×List Y):=
 swpG d a p fun d=>if fits (a+1)then if fits (b-1)then
  partU c (fun g=>partD c (partE (fun g=>iter (fun go3 g=>partU c (fun g=>partD c (partE go3 false) N g) N g) N g) true) N g) N (d,a,ks,a+1,b-1)
 else none else none
def peqE (go:(List Y×Int×γ×Int×Int)->Option (Int×List Y)) (g:List Y×Int×γ×Int×Int):Option (Int×List Y):=
 match g with
 |(d,a,ks,i,j)=>
 bif decide (j<i)then some (i,d)else swpG d i j fun d'=>if fits (i+1)then if fits (j-1)then go (d',a,ks,i+1,j-1)else none else none
def peqD (k:(List Y×Int×γ×Int×Int)->Option ρ) (N:Nat) (g:List Y×Int×γ×Int×Int):Option ρ:=
 iter (fun go (g:List Y×Int×γ×Int×Int)=>
  match g with
  |(d,a,ks,i,j)=>
  bif decide (i<=j)then cmpG c ks d a j fun r=>bif decide (r<0)then(if fits (j-1)then go (d,a,ks,i,j-1)else none)else k (d,a,ks,i,j)
  else k (d,a,ks,i,j)) N g
def peqU (k:(List Y×Int×γ×Int×Int)->Option ρ) (N:Nat) (g:List Y×Int×γ×Int×Int):Option ρ:=
 iter (fun go (g:List Y×Int×γ×Int×Int)=>
  match g with
  |(d,a,ks,i,j)=>
  bif decide (i<=j)then cmpG c ks d a i fun r=>bif !decide (r<0)then(if fits (i+1)then go (d,a,ks,i+1,j)else none)else k (d,a,ks,i,j)
  else k (d,a,ks,i,j)) N g
def peqG (N:Nat) (d:List Y) (a b p:Int) (ks:γ):Option (Int×List Y):=
 swpG d a p fun d=>if fits (a+1)then if fits (b-1)then iter (fun go g=>peqU c (fun g=>peqD c (peqE go) N g) N g) N (d,a,ks,a+1,b-1)else none else none
def pdqG (hs:List Y->Int->Int->γ->Option (List Y)) (pe:List Y->Int->Int->Int->γ->Option (Int×List Y)) (N:Nat):(D:Nat)->(List Y)->Int->Int->Int->γ->Option ((List Y))
 |0,_,_,_,_,_=>none
 |D+1,data,a,b,limit,cmp=>
 (iter (fun go (g:(List Y)×Int×Int×Int×γ×Bool×Bool)=>
   match g with
   |(data2,a2,b2,limit2,cmp2,wasBalanced,wasPartitioned)=>
   (if fits (b2-a2)then(bif(decide ((b2-a2)<=12))then
     (oB (insG c N data2 a2 b2 cmp2) fun r=>
      (some r))
     else
     (bif(decide (limit2=0))then
      (oB (hs data2 a2 b2 cmp2) fun r2=>
       (some r2))
      else
      (meet (fun(g:(List Y)×Int×Int×Int×γ×Bool×Bool×Int)=>
        match g with
        |(data3,a3,b3,limit3,cmp3,wasBalanced2,wasPartitioned2,length)=>
        (oB (choosePivotG c N data3 a3 b3 cmp3) fun r4=>
         (meet (fun(g:(List Y)×Int×Int×Int×γ×Bool×Bool×Int×Int×Int)=>
           match g with
           |(data4,a4,b4,limit4,cmp4,wasBalanced3,wasPartitioned3,length2,pivot,hint)=>
           (meet (fun(g:(List Y)×Int×Int×Int×γ×Bool×Bool×Int×Int)=>
             match g with
             |(data5,a5,b5,limit5,cmp5,wasBalanced4,wasPartitioned4,length3,pivot2)=>
             (bif(decide ((0:Int)<a5))then
              (if fits (a5-1)then(if 0<=(a5-1)/\(a5-1)<(data5.length:Int)then
                (oB (data5[(a5-1).toNat]?) fun e=>
                 (if 0<=pivot2/\pivot2<(data5.length:Int)then
                  (oB (data5[pivot2.toNat]?) fun e2=>
                   (oB (c cmp5 e e2) fun r7=>
                    (bif(!(decide (r7<0)))then
                     (oB (pe data5 a5 b5 pivot2 cmp5) fun r8=>
                      (go (r8.2,r8.1,b5,limit5,cmp5,wasBalanced4,wasPartitioned4)))
                     else
                     (oB (partG c N data5 a5 b5 pivot2 cmp5) fun r9=>
                      (if fits (r9.1-a5)then(if fits (b5-r9.1)then(if 8≠0 then
                         (if fits (length3.tdiv 8)then(bif(decide ((r9.1-a5)<(b5-r9.1)))then
                           (oB (pdqG hs pe N D r9.2.2 a5 r9.1 limit5 cmp5) fun r10=>
                            (if fits (r9.1+1)then(go (r10,(r9.1+1),b5,limit5,cmp5,(decide ((length3.tdiv 8)<=(r9.1-a5))),r9.2.1))else none))
                           else
                           (if fits (r9.1+1)then(oB (pdqG hs pe N D r9.2.2 (r9.1+1) b5 limit5 cmp5) fun r11=>
                             (go (r11,a5,r9.1,limit5,cmp5,(decide ((length3.tdiv 8)<=(b5-r9.1))),r9.2.1)))else none))else none)
                         else none)else none)else none)))))
                  else none))
                else none)else none)
              else
              (oB (partG c N data5 a5 b5 pivot2 cmp5) fun r12=>
               (if fits (r12.1-a5)then(if fits (b5-r12.1)then(if 8≠0 then
                  (if fits (length3.tdiv 8)then(bif(decide ((r12.1-a5)<(b5-r12.1)))then
                    (oB (pdqG hs pe N D r12.2.2 a5 r12.1 limit5 cmp5) fun r13=>
                     (if fits (r12.1+1)then(go (r13,(r12.1+1),b5,limit5,cmp5,(decide ((length3.tdiv 8)<=(r12.1-a5))),r12.2.1))else none))
                    else
                    (if fits (r12.1+1)then(oB (pdqG hs pe N D r12.2.2 (r12.1+1) b5 limit5 cmp5) fun r14=>
                      (go (r14,a5,r12.1,limit5,cmp5,(decide ((length3.tdiv 8)<=(b5-r12.1))),r12.2.1)))else none))else none)
                  else none)else none)else none)))) fun J3=>
            (bif wasBalanced3 then
             (bif wasPartitioned3 then
              (bif(decide (hint=1))then
               (oB (pisG c N data4 a4 b4 cmp4) fun r6=>
                (bif r6.1 then
                 (some r6.2)
                 else
                 (J3 (r6.2,a4,b4,limit4,cmp4,wasBalanced3,wasPartitioned3,length2,pivot))))
               else
               (J3 (data4,a4,b4,limit4,cmp4,wasBalanced3,wasPartitioned3,length2,pivot)))
              else
              (J3 (data4,a4,b4,limit4,cmp4,wasBalanced3,wasPartitioned3,length2,pivot)))
             else
             (J3 (data4,a4,b4,limit4,cmp4,wasBalanced3,wasPartitioned3,length2,pivot))))) fun J2=>
          (bif(decide (r4.2.1=2))then
           (oB (reverseRangeG N r4.2.2 a3 b3 cmp3) fun r5=>
            (if fits (b3-1)then(if fits (r4.1-a3)then(if fits ((b3-1)-(r4.1-a3))then(J2 (r5,a3,b3,limit3,cmp3,wasBalanced2,wasPartitioned2,length,((b3-1)-(r4.1-a3)),1))else none)else none)else none))
           else
           (J2 (r4.2.2,a3,b3,limit3,cmp3,wasBalanced2,wasPartitioned2,length,r4.1,r4.2.1)))))) fun J=>
       (bif(!wasBalanced)then
        (oB (breakG N data2 a2 b2 cmp2) fun r3=>
         (if fits (limit2-1)then(J (r3,a2,b2,(limit2-1),cmp2,wasBalanced,wasPartitioned,(b2-a2)))else none))
        else
        (J (data2,a2,b2,limit2,cmp2,wasBalanced,wasPartitioned,(b2-a2)))))))else none)) N (data,a,b,limit,cmp,true,true))
end
def cmp105 (N:Nat):(Unit)->Z1->Z1->Option Int:=(fun(cmp:Unit) (e e2:Z2×Z2×(List Z5))=>je N e.1 e.2.1 e.2.2 e2.1 e2.2.1 e2.2.2)
def jny :Sh:=⟨.mtk 800000 Y6 106 false::pI::pI:: .clo 78 []::dz 4 (pI::dz 44 []),[]⟩
def jll :Sh:=⟨.mtk 800000 Y6 106 false::pI::pI:: .clo 78 []::dz 4 (pI::pI::dz 43 []),[]⟩
def jeC (a:List Z1) (c:Int) (d:Int) (b:Unit):Option ((List Z1)):=insG (cmp105 N) N a c d b
 
theorem jqw :mK 172 (bX [.mtk 800000 Y6 106 false,pI,pI,.clo 78 []] [.tup [],.mtk 800000 Y6 106 false] (c4A (jeC N))):=
 mO (fC (jaf N) ja) func172 rfl N (.seq .no (.block (.loop jny (.seq .no (.seq (.block (.seq .no (.block (.loop jll .no)))) .no))))) _ (rs:=[800000])
def jnV :Sh:=⟨.mtk 800000 Y6 106 false:: .dead::pI::pI:: .clo 78 []::dz 5 (pI::dz 71 []),[]⟩
def jmo :Sh:=⟨.mtk 800000 Y6 106 false:: .dead::pI::pI:: .clo 78 []::dz 5 (pI::pI::dz 70 []),[]⟩
def jdy (a:List Z1) (e:Int) (b:Int) (d:Int) (c:Unit):Option ((List Z1)):=siftG (cmp105 N) N a e b d c
 
theorem jqE :mK 208 (bX [.mtk 800000 Y6 106 false,pI,pI,pI,.clo 78 []] [.tup [],.mtk 800000 Y6 106 false] (c5A (jdy N))):=
 mO (fC (jaf N) ja) func208 rfl N (.seq .no (.block (.loop jnV (.block (.seq .no (.seq .no (.meet jmo .no .no))))))) _ (rs:=[800000])
def jmY :Sh:=⟨.mtk 800000 Y6 106 false:: .dead:: .dead:: .clo 78 []::dz 4 (pI::pI::pI::pI::dz 48 []),[]⟩
def jq3 :Sh:=⟨.mtk 800000 Y6 106 false:: .dead:: .dead:: .clo 78 []::dz 4 (pI::pI:: .dead:: .dead::pI::dz 47 []),[]⟩
def jaC (a:List Z1) (c:Int) (d:Int) (b:Unit):Option ((List Z1)):=heapG (cmp105 N) N a c d b
 
theorem jqz :mK 173 (bX [.mtk 800000 Y6 106 false,pI,pI,.clo 78 []] [.tup [],.mtk 800000 Y6 106 false] (c4A (jaC N))):=
 mO (fC (jqE N) ja) func173 rfl N (.seq .no (.seq .no (.seq .no (.seq (.seq .no (.block (.loop jmY .no))) (.seq .no (.block (.loop jq3 .no))))))) _ (rs:=[800000])
def jkH :Sh:=⟨.mtk 800000 Y6 106 false::pI::dz 6 (pI:: .box 9 0:: .pv (.int .u64)::pI::dz 55 []),[(9,false,[.pv (.int .u64)])]⟩
def jmx :Sh:=⟨.mtk 800000 Y6 106 false::pI::dz 6 (pI:: .box 9 0:: .pv (.int .u64)::pI::pI::dz 54 []),[(9,false,[.pv (.int .u64)])]⟩
def jez (a:List Z1) (c:Int) (d:Int) (b:Unit):Option ((List Z1)):=breakG N a c d b
 
theorem jlO :mK 174 (bX [.mtk 800000 Y6 106 false,pI,pI,.clo 78 []] [.tup [],.mtk 800000 Y6 106 false] (c4A (jez N))):=
 mO (fC (jhv N) (fC (jet N) ja)) func174 rfl N (.seq .no (.seq .no (.cond (.seq .no (.seq .no (.seq .no (.block (.loop jkH (.seq .no (.seq (.block (.seq .no (.meet jmx .no .no))) .no))))))) .no))) _ (rs:=[800000])
end Go.Proofs.YtlfbmkkddcelcaaGreat
