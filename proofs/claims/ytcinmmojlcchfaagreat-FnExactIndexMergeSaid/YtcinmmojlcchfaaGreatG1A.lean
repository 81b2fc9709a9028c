import Derived.Test.YtcinmmojlcchfaaGreatSE
set_option linter.unusedVariables false
set_option linter.unusedSimpArgs false
namespace Go.Proofs.YtcinmmojlcchfaaGreat
open Go.RowKit Go.Proofs.Tryz
variable (N : Nat)
open Option renaming bind -> oB
set_option maxRecDepth 1000000
abbrev Z0 :Type:=Int×(List ((List UInt8)×(List UInt8)))×(List ((List UInt8)×Int))
abbrev Z1 :Type:=(List UInt8)×(List UInt8)×(List (Int×(List Int)))
abbrev Z2 :Type:=List UInt8
abbrev Z3 :Type:=((List Z0)×(List Z1))×(List Int)
abbrev Z4 :Type:=(List Z2)×Z2
abbrev Z5 :Type:=List (Int×(List Int))
abbrev Z6 :Type:=List (Z2×Int)
abbrev Z7 :Type:=List (Z2×Int)
abbrev Z8 :Type:=Option (Bool)
abbrev Z9 :Type:=Z2×Int×Int×Int
abbrev Z10 :Type:=List (Int×(List Int))
abbrev Z11 :Type:=Option (Int)
abbrev Z12 :Type:=List (Z2×Z2)
abbrev Z13 :Type:=List (Z2×Z2)
abbrev Z14 :Type:=Option ((List Z0))
abbrev Z16 :Type:=Option ((List Z0)×(List Z1))
abbrev bX (a r:List VS) (f:HD (Sh.codes ⟨a,[]⟩)->Option (HD (Sh.codes ⟨r,[]⟩))):Model:=⟨⟨a,[]⟩,⟨r,[]⟩,f⟩
abbrev mK :=ModelOk Tryz.prog
theorem mO {l:List (Nat×Model)} (hl:jR Tryz.prog l) {f:FuncId} {fn:Func} {c:Code} (hf:Tryz.prog.funcs[f]? =some fn) (hbody:fn.body=some c) (N:Nat) (h:Hint) (m:Model) (wr rs dw:List Nat:=[])
  (hname:(fn.name== "runtime.NumGoroutine")=false:=by kernel_rfl) (hres:m.arg.names.all (jbC l wr rs dw).res=true:=by kernel_rfl) (hlen:Nat.ble m.arg.vals.length fn.ntmps=true:=by kernel_rfl)
  (hrun:∀a,m.run a=runF N (jbC l wr rs dw) okDraw fn c h m.arg m.ret a:=by intro a;kernel_rfl):ModelOk Tryz.prog f m:=modelOk_of (E:=jbC l wr rs dw) (jtQ hl wr rs dw) hf hname hbody N h m hres hlen hrun
theorem fC {k:Nat} {m:Model} {l:List (Nat×Model)} (h:ModelOk Tryz.prog k m) (hl:jR Tryz.prog l):jR Tryz.prog ((k,m)::l):=jsH h hl
abbrev pI :VS:=.pv (.int .i64)
abbrev pS :VS:=.pv .str
abbrev pB :VS:=.pv .bool
abbrev tI :Tp:=.int .i64
abbrev c1A {α ρ:Type} (f:α->ρ) (a:α):ρ:=f a
abbrev c2A {α0 α1 ρ:Type} (f:α0->α1->ρ) (a:α0×α1):ρ:=f a.1 a.2
abbrev c3A {α0 α1 α2 ρ:Type} (f:α0->α1->α2->ρ) (a:α0×α1×α2):ρ:=f a.1 a.2.1 a.2.2
abbrev c4A {α0 α1 α2 α3 ρ:Type} (f:α0->α1->α2->α3->ρ) (a:α0×α1×α2×α3):ρ:=f a.1 a.2.1 a.2.2.1 a.2.2.2
abbrev c5A {α0 α1 α2 α3 α4 ρ:Type} (f:α0->α1->α2->α3->α4->ρ) (a:α0×α1×α2×α3×α4):ρ:=f a.1 a.2.1 a.2.2.1 a.2.2.2.1 a.2.2.2.2
abbrev c6A {α0 α1 α2 α3 α4 α5 ρ:Type} (f:α0->α1->α2->α3->α4->α5->ρ) (a:α0×α1×α2×α3×α4×α5):ρ:=f a.1 a.2.1 a.2.2.1 a.2.2.2.1 a.2.2.2.2.1 a.2.2.2.2.2
abbrev c7A {α0 α1 α2 α3 α4 α5 α6 ρ:Type} (f:α0->α1->α2->α3->α4->α5->α6->ρ) (a:α0×α1×α2×α3×α4×α5×α6):ρ:=f a.1 a.2.1 a.2.2.1 a.2.2.2.1 a.2.2.2.2.1 a.2.2.2.2.2.1 a.2.2.2.2.2.2
def dz :Nat->List VS->List VS
 |0,l=>l
 |n+1,l=>.dead::dz n l
abbrev Y19 :Tp:=.sl tI
abbrev Y18 :Tp:=.pair .str .str
abbrev Y17 :Tp:=.sl (.pair .str .str)
abbrev Y16 :Tp:=.pair (.sl .str) .str
abbrev Y15 :Tp:=.pair .str tI
abbrev Y14 :Tp:=.sl (.pair (.sl .str) .str)
abbrev Y13 :Tp:=.sl (.pair .str tI)
abbrev Y12 :Tp:=.pair tI (.sl tI)
abbrev Y11 :Tp:=.sl (.pair tI (.sl tI))
abbrev Y7 :Tp:=.pair .str (.pair tI (.pair tI tI))
abbrev Y6 :Tp:=.pair .str (.pair .str (.sl (.pair tI (.sl tI))))
abbrev Y5 :Tp:=.sl (.pair .str (.pair .str (.sl (.pair tI (.sl tI)))))
abbrev Y4 :Tp:=.pair tI (.pair (.sl (.pair .str .str)) (.sl (.pair .str tI)))
abbrev Y3 :Tp:=.sl (.pair tI (.pair (.sl (.pair .str .str)) (.sl (.pair .str tI))))
abbrev Y2 :Tp:=.pair (.sl (.pair tI (.pair (.sl (.pair .str .str)) (.sl (.pair .str tI))))) (.sl (.pair .str (.pair .str (.sl (.pair tI (.sl tI))))))
abbrev Y1 :Tp:=.pair (.pair (.sl (.pair tI (.pair (.sl (.pair .str .str)) (.sl (.pair .str tI))))) (.sl (.pair .str (.pair .str (.sl (.pair tI (.sl tI))))))) (.sl tI)
abbrev Y0 :Tp:=.sl (.pair (.pair (.sl (.pair tI (.pair (.sl (.pair .str .str)) (.sl (.pair .str tI))))) (.sl (.pair .str (.pair .str (.sl (.pair tI (.sl tI))))))) (.sl tI))
def jso :Sh:=⟨.pv (.sl .str)::pI::dz 3 (pI::dz 22 []),[]⟩
def jbK (b:List Z2) (e:Int):Z11:=
 (if fits (e-(b.length:Int))then bif decide ((e-(b.length:Int))<0)then some (-1)else(iter (fun h (f,a,c)=>bif decide (c<(f.length:Int))then oB (idx f c) fun d=>(if fits (a-(d.length:Int))then bif decide ((a-(d.length:Int))<0)then some (-1)else(if fits (c+1)then h (f,(a-(d.length:Int)),(c+1))else none)else none)else some a) N (b,(e-(b.length:Int)),(0:Int)))else none)
theorem jjn :mK 31 (bX [.pv (.sl .str),pI] [pI] (c2A (jbK N))):=
 mO ja func31 rfl N (.seq .no (.seq .no (.seq .no (.seq (.seq .no (.block (.loop jso .no))) .no)))) _
def jbp (c:List Z2) (b:List UInt8) (d:Int):Z11:=
 (oB (jbK N c d) fun a=>bif decide (a<0)then some (-1)else if fits (a-(b.length:Int))then bif decide ((a-(b.length:Int))<0)then some (-1)else(some (a-(b.length:Int)))else none)
theorem jsV :mK 79 (bX [.agg [.pv (.sl .str),pS],pI] [pI] (c3A (jbp N))):=
 mO (fC (jjn N) ja) func79 rfl N .no _
def jki :Sh:=⟨.pv Y14::pI::dz 3 (pI::dz 21 []),[]⟩
def jc6 (a:List Z4) (c:Int):Z11:=
 (if fits (c-(a.length:Int))then bif decide ((c-(a.length:Int))<0)then some (-1)else(iter (fun i (d,h,b)=>bif decide (b<(d.length:Int))then oB (idx d b) fun e=>(oB (jbp N e.1 e.2 h) fun f=>bif decide (f<0)then some (-1)else if fits (b+1)then i (d,f,(b+1))else none)else some h) N (a,(c-(a.length:Int)),(0:Int)))else none)
theorem jkX :mK 32 (bX [.pv Y14,pI] [pI] (c2A (jc6 N))):=
 mO (fC (jsV N) ja) func32 rfl N (.seq .no (.seq .no (.seq .no (.seq (.seq .no (.block (.loop jki .no))) .no)))) _
def jbD (c:List Z2) (d:List Z4) (e:Int):Z11:=
 (oB (jbK N c e) fun a=>bif decide (a<0)then some (-1)else oB (jc6 N d a) fun b=>bif decide (b<0)then some (-1)else some b)
theorem jm8 :mK 11 (bX [.agg [.pv (.sl .str),.pv Y14],pI] [pI] (c3A (jbD N))):=
 mO (fC (jjn N) (fC (jkX N) ja)) func11 rfl N .no _
def jaN (N:Nat) (a:List UInt8) (c:List UInt8) (b:Int):Z11:=
 (if fits (b-(a.length:Int))then bif decide ((b-(a.length:Int))<0)then some (-1)else(if fits ((b-(a.length:Int))-(c.length:Int))then bif decide (((b-(a.length:Int))-(c.length:Int))<0)then some (-1)else(some ((b-(a.length:Int))-(c.length:Int)))else none)else none)
theorem jpy :mK 195 (bX [.agg [pS,pS],pI] [pI] (c3A (jaN N))):=
 mO ja func195 rfl N .no _
def jms :Sh:=⟨.pv Y17::pI::dz 3 (pI::dz 21 []),[]⟩
def jdb (a:Z12) (c:Int):Z11:=
 (if fits (c-(a.length:Int))then bif decide ((c-(a.length:Int))<0)then some (-1)else(iter (fun i (d,h,b)=>bif decide (b<(d.length:Int))then oB (idx d b) fun e=>(oB (jaN N e.1 e.2 h) fun f=>bif decide (f<0)then some (-1)else if fits (b+1)then i (d,f,(b+1))else none)else some h) N (a,(c-(a.length:Int)),(0:Int)))else none)
theorem jns :mK 183 (bX [.pv Y17,pI] [pI] (c2A (jdb N))):=
 mO (fC (jpy N) ja) func183 rfl N (.seq .no (.seq .no (.seq .no (.seq (.seq .no (.block (.loop jms .no))) .no)))) _
def jaT (N:Nat) (a:List UInt8) (c:Int) (b:Int):Z11:=
 (if fits (b-(a.length:Int))then bif decide ((b-(a.length:Int))<0)then some (-1)else(some (b-(a.length:Int)))else none)
theorem joe :mK 196 (bX [.agg [pS,pI],pI] [pI] (c3A (jaT N))):=
 mO ja func196 rfl N .no _
def jkA :Sh:=⟨.pv Y13::pI::dz 3 (pI::dz 21 []),[]⟩
def jdV (a:Z6) (c:Int):Z11:=
 (if fits (c-(a.length:Int))then bif decide ((c-(a.length:Int))<0)then some (-1)else(iter (fun i (d,h,b)=>bif decide (b<(d.length:Int))then oB (idx d b) fun e=>(oB (jaT N e.1 e.2 h) fun f=>bif decide (f<0)then some (-1)else if fits (b+1)then i (d,f,(b+1))else none)else some h) N (a,(c-(a.length:Int)),(0:Int)))else none)
theorem jn5 :mK 184 (bX [.pv Y13,pI] [pI] (c2A (jdV N))):=
 mO (fC (joe N) ja) func184 rfl N (.seq .no (.seq .no (.seq .no (.seq (.seq .no (.block (.loop jkA .no))) .no)))) _
def jbq (f:Int) (c:Z12) (e:Z6) (d:Int):Z11:=
 (oB (jdb N c d) fun a=>bif decide (a<0)then some (-1)else oB (jdV N e a) fun b=>bif decide (b<0)then some (-1)else some b)
theorem jnC :mK 163 (bX [.agg [pI,.pv Y17,.pv Y13],pI] [pI] (c4A (jbq N))):=
 mO (fC (jns N) (fC (jn5 N) ja)) func163 rfl N .no _
def jqA :Sh:=⟨.pv Y3::pI::dz 3 (pI::dz 21 []),[]⟩
def jdo (a:List Z0) (d:Int):Z11:=
 (if fits (d-(a.length:Int))then bif decide ((d-(a.length:Int))<0)then some (-1)else(iter (fun i (e,h,b)=>bif decide (b<(e.length:Int))then oB (idx e b) fun c=>(oB (jbq N c.1 c.2.1 c.2.2 h) fun f=>bif decide (f<0)then some (-1)else if fits (b+1)then i (e,f,(b+1))else none)else some h) N (a,(d-(a.length:Int)),(0:Int)))else none)
theorem jsn :mK 126 (bX [.pv Y3,pI] [pI] (c2A (jdo N))):=
 mO (fC (jnC N) ja) func126 rfl N (.seq .no (.seq .no (.seq .no (.seq (.seq .no (.block (.loop jqA .no))) .no)))) _
def jeb (N:Nat) (a:List Int) (b:Int):Z11:=
 (if fits (b-(a.length:Int))then bif decide ((b-(a.length:Int))<0)then some (-1)else(some (b-(a.length:Int)))else none)
theorem jm4 :mK 81 (bX [.pv Y19,pI] [pI] (c2A (jeb N))):=
 mO ja func81 rfl N .no _
def jbb (d:Int) (c:List Int) (b:Int):Z11:=
 (oB (jeb N c b) fun a=>bif decide (a<0)then some (-1)else some a)
theorem jsZ :mK 197 (bX [.agg [pI,.pv Y19],pI] [pI] (c3A (jbb N))):=
 mO (fC (jm4 N) ja) func197 rfl N .no _
def joP :Sh:=⟨.pv Y11::pI::dz 3 (pI::dz 21 []),[]⟩
def jdz (a:Z5) (c:Int):Z11:=
 (if fits (c-(a.length:Int))then bif decide ((c-(a.length:Int))<0)then some (-1)else(iter (fun i (d,h,b)=>bif decide (b<(d.length:Int))then oB (idx d b) fun e=>(oB (jbb N e.1 e.2 h) fun f=>bif decide (f<0)then some (-1)else if fits (b+1)then i (d,f,(b+1))else none)else some h) N (a,(c-(a.length:Int)),(0:Int)))else none)
theorem jnZ :mK 185 (bX [.pv Y11,pI] [pI] (c2A (jdz N))):=
 mO (fC (jsZ N) ja) func185 rfl N (.seq .no (.seq .no (.seq .no (.seq (.seq .no (.block (.loop joP .no))) .no)))) _
def jbj (a:List UInt8) (c:List UInt8) (e:Z5) (b:Int):Z11:=
 (if fits (b-(a.length:Int))then bif decide ((b-(a.length:Int))<0)then some (-1)else(if fits ((b-(a.length:Int))-(c.length:Int))then bif decide (((b-(a.length:Int))-(c.length:Int))<0)then some (-1)else(oB (jdz N e ((b-(a.length:Int))-(c.length:Int))) fun d=>bif decide (d<0)then some (-1)else some d)else none)else none)
theorem joB :mK 164 (bX [.agg [pS,pS,.pv Y11],pI] [pI] (c4A (jbj N))):=
 mO (fC (jnZ N) ja) func164 rfl N .no _
def jtA :Sh:=⟨.pv Y5::pI::dz 3 (pI::dz 21 []),[]⟩
def jej (a:List Z1) (d:Int):Z11:=
 (if fits (d-(a.length:Int))then bif decide ((d-(a.length:Int))<0)then some (-1)else(iter (fun i (e,h,b)=>bif decide (b<(e.length:Int))then oB (idx e b) fun c=>(oB (jbj N c.1 c.2.1 c.2.2 h) fun f=>bif decide (f<0)then some (-1)else if fits (b+1)then i (e,f,(b+1))else none)else some h) N (a,(d-(a.length:Int)),(0:Int)))else none)
theorem jrU :mK 127 (bX [.pv Y5,pI] [pI] (c2A (jej N))):=
 mO (fC (joB N) ja) func127 rfl N (.seq .no (.seq .no (.seq .no (.seq (.seq .no (.block (.loop jtA .no))) .no)))) _
def jbR (c:List Z0) (d:List Z1) (e:Int):Z11:=
 (oB (jdo N c e) fun a=>bif decide (a<0)then some (-1)else oB (jej N d a) fun b=>bif decide (b<0)then some (-1)else some b)
theorem jpO :mK 80 (bX [.agg [.pv Y3,.pv Y5],pI] [pI] (c3A (jbR N))):=
 mO (fC (jsn N) (fC (jrU N) ja)) func80 rfl N .no _
def jJQ (c:List Z0) (d:List Z1) (f:List Int) (e:Int):Z11:=
 (oB (jbR N c d e) fun a=>bif decide (a<0)then some (-1)else oB (jeb N f a) fun b=>bif decide (b<0)then some (-1)else some b)
theorem jJg :mK 33 (bX [.agg [.pv Y3,.pv Y5,.pv Y19],pI] [pI] (c4A (jJQ N))):=
 mO (fC (jpO N) (fC (jm4 N) ja)) func33 rfl N .no _
def jJf :Sh:=⟨.pv Y0::pI::dz 3 (pI::dz 21 []),[]⟩
def jKm (a:List Z3) (d:Int):Z11:=
 (if fits (d-(a.length:Int))then bif decide ((d-(a.length:Int))<0)then some (-1)else(iter (fun i (e,h,b)=>bif decide (b<(e.length:Int))then oB (idx e b) fun c=>(oB (jJQ N c.1.1 c.1.2 c.2 h) fun f=>bif decide (f<0)then some (-1)else if fits (b+1)then i (e,f,(b+1))else none)else some h) N (a,(d-(a.length:Int)),(0:Int)))else none)
theorem jJA :mK 12 (bX [.pv Y0,pI] [pI] (c2A (jKm N))):=
 mO (fC (jJg N) ja) func12 rfl N (.seq .no (.seq .no (.seq .no (.seq (.seq .no (.block (.loop jJf .no))) .no)))) _
def jJ5 (c:List Z2) (d:List Z4) (f:List Z3) (e:Int):Z11:=
 (oB (jbD N c d e) fun a=>bif decide (a<0)then some (-1)else oB (jKm N f a) fun b=>bif decide (b<0)then some (-1)else some b)
theorem jIX :mK 4 (bX [.agg [.pv (.sl .str),.pv Y14,.pv Y0],pI] [pI] (c4A (jJ5 N))):=
 mO (fC (jm8 N) (fC (jJA N) ja)) func4 rfl N .no _
def jqD :Sh:=⟨.pv (.sl .str):: .dead:: .dead:: .mtk 600003 .str 9 true::pI::dz 17 [],[]⟩
def jci (b:List Z2):Option ((List Z2)):=
 (if(b.length:Int)=(b.length:Int)/\0<=(b.length:Int)/\(b.length:Int)*16<=140737488355328/\(b.length:Int)<=140737488355328 then iter (fun e (d,c,a)=>bif decide (a<(d.length:Int))then oB (idx d a) fun f=>(if 0<=a/\a<(c.length:Int)then oB (c[a.toNat]?) fun i=>(if fits (a+1)then e (d,(c.set a.toNat f),(a+1))else none)else none)else some c) N (b,(List.replicate (b.length:Int).toNat ([]:List UInt8)),(0:Int))else none)
theorem jiJ :mK 47 (bX [.pv (.sl .str)] [.own 1 .str 9 true] (c1A (jci N))):=
 mO ja func47 rfl N (.seq .no (.seq .no (.seq (.seq .no (.block (.loop jqD .no))) .no))) _ (wr:=[7])
def ja0 (a:List Z2) (c:List UInt8):Option Z4:=
 (oB (jci N a) fun b=>some (b,c))
theorem jr7 :mK 93 (bX [.agg [.pv (.sl .str),pS]] [.agg [.own 1 .str 9 true,pS]] (c2A (ja0 N))):=
 mO (fC (jiJ N) ja) func93 rfl N .no _ (dw:=[6])
def jos :Sh:=⟨.pv Y14:: .dead:: .dead:: .tre 600003 Y16 126::pI::dz 18 [],[]⟩
def jeh (b:List Z4):Option ((List Z4)):=
 (if(b.length:Int)=(b.length:Int)/\0<=(b.length:Int)/\(b.length:Int)*40<=140737488355328/\(b.length:Int)<=140737488355328 then iter (fun f (d,c,a)=>bif decide (a<(d.length:Int))then oB (idx d a) fun e=>(oB (ja0 N e.1 e.2) fun h=>if 0<=a/\a<(c.length:Int)then oB (c[a.toNat]?) fun j=>(if fits (a+1)then f (d,(c.set a.toNat h),(a+1))else none)else none)else some c) N (b,(List.replicate (b.length:Int).toNat (([]:List Z2),([]:List UInt8))),(0:Int))else none)
theorem jqR :mK 48 (bX [.pv Y14] [.own 1 Y16 126 true] (c1A (jeh N))):=
 mO (fC (jr7 N) ja) func48 rfl N (.seq .no (.seq .no (.seq (.seq .no (.block (.loop jos .no))) .no))) _ (wr:=[7]) (dw:=[20])
def jad (a:List Z2) (b:List Z4):Option ((List Z2)×(List Z4)):=
 (oB (jci N a) fun c=>oB (jeh N b) fun d=>some (c,d))
theorem jtJ :mK 18 (bX [.agg [.pv (.sl .str),.pv Y14]] [.agg [.own 1 .str 9 true,.own 2 Y16 126 true]] (c2A (jad N))):=
 mO (fC (jiJ N) (fC (jqR N) ja)) func18 rfl N .no _ (dw:=[6,10])
def jaW (N:Nat) (a:List UInt8) (b:List UInt8):Option (Z2×Z2):=
 (some (a,b))
theorem jlT :mK 198 (bX [.agg [pS,pS]] [.agg [pS,pS]] (c2A (jaW N))):=
 mO ja func198 rfl N .no _
def jp2 :Sh:=⟨.pv Y17:: .dead:: .dead:: .mtk 600003 Y18 99 true::pI::dz 18 [],[]⟩
def jdS (b:Z12):Option (Z13):=
 (if(b.length:Int)=(b.length:Int)/\0<=(b.length:Int)/\(b.length:Int)*32<=140737488355328/\(b.length:Int)<=140737488355328 then iter (fun f (d,c,a)=>bif decide (a<(d.length:Int))then oB (idx d a) fun e=>(oB (jaW N e.1 e.2) fun h=>if 0<=a/\a<(c.length:Int)then oB (c[a.toNat]?) fun j=>(if fits (a+1)then f (d,(c.set a.toNat h),(a+1))else none)else none)else some c) N (b,(List.replicate (b.length:Int).toNat (([]:List UInt8),([]:List UInt8))),(0:Int))else none)
theorem jmr :mK 186 (bX [.pv Y17] [.own 1 Y18 99 true] (c1A (jdS N))):=
 mO (fC (jlT N) ja) func186 rfl N (.seq .no (.seq .no (.seq (.seq .no (.block (.loop jp2 .no))) .no))) _ (wr:=[7]) (dw:=[20])
def jaX (N:Nat) (a:List UInt8) (b:Int):Option (Z2×Int):=
 (some (a,b))
theorem jnE :mK 199 (bX [.agg [pS,pI]] [.agg [pS,pI]] (c2A (jaX N))):=
 mO ja func199 rfl N .no _
def jpn :Sh:=⟨.pv Y13:: .dead:: .dead:: .mtk 600003 Y15 169 true::pI::dz 18 [],[]⟩
def jd3 (b:Z6):Option (Z7):=
 (if(b.length:Int)=(b.length:Int)/\0<=(b.length:Int)/\(b.length:Int)*24<=140737488355328/\(b.length:Int)<=140737488355328 then iter (fun f (d,c,a)=>bif decide (a<(d.length:Int))then oB (idx d a) fun e=>(oB (jaX N e.1 e.2) fun h=>if 0<=a/\a<(c.length:Int)then oB (c[a.toNat]?) fun j=>(if fits (a+1)then f (d,(c.set a.toNat h),(a+1))else none)else none)else some c) N (b,(List.replicate (b.length:Int).toNat (([]:List UInt8),0)),(0:Int))else none)
theorem jqJ :mK 187 (bX [.pv Y13] [.own 1 Y15 169 true] (c1A (jd3 N))):=
 mO (fC (jnE N) ja) func187 rfl N (.seq .no (.seq .no (.seq (.seq .no (.block (.loop jpn .no))) .no))) _ (wr:=[7]) (dw:=[20])
def jbv (a:Int) (b:Z12) (d:Z6):Option Z0:=
 (oB (jdS N b) fun c=>oB (jd3 N d) fun e=>some (a,c,e))
theorem jsM :mK 168 (bX [.agg [pI,.pv Y17,.pv Y13]] [.agg [pI,.own 1 Y18 99 true,.own 2 Y15 169 true]] (c3A (jbv N))):=
 mO (fC (jmr N) (fC (jqJ N) ja)) func168 rfl N .no _ (dw:=[9,13])
def jmB :Sh:=⟨.pv Y3:: .dead:: .dead:: .tre 600003 Y4 77::pI::dz 18 [],[]⟩
def jdO (b:List Z0):Z14:=
 (if(b.length:Int)=(b.length:Int)/\0<=(b.length:Int)/\(b.length:Int)*56<=140737488355328/\(b.length:Int)<=140737488355328 then iter (fun f (e,c,a)=>bif decide (a<(e.length:Int))then oB (idx e a) fun d=>(oB (jbv N d.1 d.2.1 d.2.2) fun h=>if 0<=a/\a<(c.length:Int)then oB (c[a.toNat]?) fun j=>(if fits (a+1)then f (e,(c.set a.toNat h),(a+1))else none)else none)else some c) N (b,(List.replicate (b.length:Int).toNat (0,([]:Z12),([]:Z6))),(0:Int))else none)
theorem jsQ :mK 134 (bX [.pv Y3] [.own 1 Y4 77 true] (c1A (jdO N))):=
 mO (fC (jsM N) ja) func134 rfl N (.seq .no (.seq .no (.seq (.seq .no (.block (.loop jmB .no))) .no))) _ (wr:=[7]) (dw:=[20])
def jng :Sh:=⟨.pv Y19:: .dead:: .dead:: .mtk 600003 tI 3 true::pI::dz 17 [],[]⟩
def jek (b:List Int):Option ((List Int)):=
 (if(b.length:Int)=(b.length:Int)/\0<=(b.length:Int)/\(b.length:Int)*8<=140737488355328/\(b.length:Int)<=140737488355328 then iter (fun e (d,c,a)=>bif decide (a<(d.length:Int))then oB (idx d a) fun f=>(if 0<=a/\a<(c.length:Int)then oB (c[a.toNat]?) fun i=>(if fits (a+1)then e (d,(c.set a.toNat f),(a+1))else none)else none)else some c) N (b,(List.replicate (b.length:Int).toNat 0),(0:Int))else none)
theorem jqI :mK 95 (bX [.pv Y19] [.own 1 tI 3 true] (c1A (jek N))):=
 mO ja func95 rfl N (.seq .no (.seq .no (.seq (.seq .no (.block (.loop jng .no))) .no))) _ (wr:=[7])
def jbr (a:Int) (c:List Int):Option (Int×(List Int)):=
 (oB (jek N c) fun b=>some (a,b))
theorem jks :mK 200 (bX [.agg [pI,.pv Y19]] [.agg [pI,.own 1 tI 3 true]] (c2A (jbr N))):=
 mO (fC (jqI N) ja) func200 rfl N .no _ (dw:=[9])
def joy :Sh:=⟨.pv Y11:: .dead:: .dead:: .tre 600003 Y12 136::pI::dz 18 [],[]⟩
def jdx (b:Z5):Option (Z10):=
 (if(b.length:Int)=(b.length:Int)/\0<=(b.length:Int)/\(b.length:Int)*32<=140737488355328/\(b.length:Int)<=140737488355328 then iter (fun f (d,c,a)=>bif decide (a<(d.length:Int))then oB (idx d a) fun e=>(oB (jbr N e.1 e.2) fun h=>if 0<=a/\a<(c.length:Int)then oB (c[a.toNat]?) fun j=>(if fits (a+1)then f (d,(c.set a.toNat h),(a+1))else none)else none)else some c) N (b,(List.replicate (b.length:Int).toNat (0,([]:List Int))),(0:Int))else none)
theorem jpe :mK 188 (bX [.pv Y11] [.own 1 Y12 136 true] (c1A (jdx N))):=
 mO (fC (jks N) ja) func188 rfl N (.seq .no (.seq .no (.seq (.seq .no (.block (.loop joy .no))) .no))) _ (wr:=[7]) (dw:=[20])
def jaM (a:List UInt8) (d:List UInt8) (c:Z5):Option Z1:=
 (oB (jdx N c) fun b=>some (a,d,b))
theorem jnB :mK 169 (bX [.agg [pS,pS,.pv Y11]] [.agg [pS,pS,.own 1 Y12 136 true]] (c3A (jaM N))):=
 mO (fC (jpe N) ja) func169 rfl N .no _ (dw:=[12])
def jk2 :Sh:=⟨.pv Y5:: .dead:: .dead:: .tre 600003 Y6 89::pI::dz 18 [],[]⟩
def jd4 (b:List Z1):Option ((List Z1)):=
 (if(b.length:Int)=(b.length:Int)/\0<=(b.length:Int)/\(b.length:Int)*56<=140737488355328/\(b.length:Int)<=140737488355328 then iter (fun f (e,c,a)=>bif decide (a<(e.length:Int))then oB (idx e a) fun d=>(oB (jaM N d.1 d.2.1 d.2.2) fun h=>if 0<=a/\a<(c.length:Int)then oB (c[a.toNat]?) fun j=>(if fits (a+1)then f (e,(c.set a.toNat h),(a+1))else none)else none)else some c) N (b,(List.replicate (b.length:Int).toNat (([]:List UInt8),([]:List UInt8),([]:Z5))),(0:Int))else none)
theorem jsC :mK 135 (bX [.pv Y5] [.own 1 Y6 89 true] (c1A (jd4 N))):=
 mO (fC (jnB N) ja) func135 rfl N (.seq .no (.seq .no (.seq (.seq .no (.block (.loop jk2 .no))) .no))) _ (wr:=[7]) (dw:=[20])
def jZ (a:List Z0) (b:List Z1):Z16:=
 (oB (jdO N a) fun c=>oB (jd4 N b) fun d=>some (c,d))
theorem jqs :mK 94 (bX [.agg [.pv Y3,.pv Y5]] [.agg [.own 1 Y4 77 true,.own 2 Y6 89 true]] (c2A (jZ N))):=
 mO (fC (jsQ N) (fC (jsC N) ja)) func94 rfl N .no _ (dw:=[6,10])
def jJS (b:List Z0) (c:List Z1) (d:List Int):Option ((List Z0)×(List Z1)×(List Int)):=
 (oB (jZ N b c) fun a=>oB (jek N d) fun e=>some (a.1,a.2,e))
theorem jI5 :mK 49 (bX [.agg [.pv Y3,.pv Y5,.pv Y19]] [.agg [.own 1 Y4 77 true,.own 2 Y6 89 true,.own 3 tI 3 true]] (c3A (jJS N))):=
 mO (fC (jqs N) (fC (jqI N) ja)) func49 rfl N .no _ (dw:=[6,10])
def jIN :Sh:=⟨.pv Y0:: .dead:: .dead:: .tre 600003 Y1 55::pI::dz 18 [],[]⟩
def jKe (b:List Z3):Option ((List Z3)):=
 (if(b.length:Int)=(b.length:Int)/\0<=(b.length:Int)/\(b.length:Int)*72<=140737488355328/\(b.length:Int)<=140737488355328 then iter (fun h (f,c,a)=>bif decide (a<(f.length:Int))then oB (idx f a) fun d=>(oB (jJS N d.1.1 d.1.2 d.2) fun e=>if 0<=a/\a<(c.length:Int)then oB (c[a.toNat]?) fun j=>(if fits (a+1)then h (f,(c.set a.toNat ((e.1,e.2.1),e.2.2)),(a+1))else none)else none)else some c) N (b,(List.replicate (b.length:Int).toNat ((([]:List Z0),([]:List Z1)),([]:List Int))),(0:Int))else none)
theorem jJj :mK 19 (bX [.pv Y0] [.own 1 Y1 55 true] (c1A (jKe N))):=
 mO (fC (jI5 N) ja) func19 rfl N (.seq .no (.seq .no (.seq (.seq .no (.block (.loop jIN .no))) .no))) _ (wr:=[7]) (dw:=[20])
def jJM (b:List Z2) (c:List Z4) (d:List Z3):Option ((List Z2)×(List Z4)×(List Z3)):=
 (oB (jad N b c) fun a=>oB (jKe N d) fun e=>some (a.1,a.2,e))
theorem jJt :mK 6 (bX [.agg [.pv (.sl .str),.pv Y14,.pv Y0]] [.agg [.own 1 .str 9 true,.own 2 Y16 126 true,.own 3 Y1 55 true]] (c3A (jJM N))):=
 mO (fC (jtJ N) (fC (jJj N) ja)) func6 rfl N .no _ (dw:=[6,10])
def jt (N:Nat) (a:Int):Z11:=
 (bif decide ((65:Int)<=a)then bif decide (a<=90)then some (IntKind.u8.wrap (a+32))else(bif decide ((97:Int)<=a)then bif decide (a<=122)then some a else(bif decide ((48:Int)<=a)then bif decide (a<=57)then some a else(some 0)else some 0)else bif decide ((48:Int)<=a)then bif decide (a<=57)then some a else(some 0)else some 0)else bif decide ((97:Int)<=a)then bif decide (a<=122)then some a else(bif decide ((48:Int)<=a)then bif decide (a<=57)then some a else(some 0)else some 0)else bif decide ((48:Int)<=a)then bif decide (a<=57)then some a else(some 0)else some 0)
theorem jfG :mK 129 (bX [.pv (.int .u8)] [.pv (.int .u8)] (c1A (jt N))):=
 mO ja func129 rfl N .no _
def jJ (N:Nat) (a:Int) (b:Int) (c:Int):Z8:=
 (bif decide (b<=a)then some (decide (a<=c))else some false)
theorem jcL :mK 14 (bX [pI,pI,pI] [pB] (c3A (jJ N))):=
 mO ja func14 rfl N .no _
def jr5 :Sh:=⟨pS:: .dead:: .dead::pI::dz 23 [],[]⟩
def jT (c:List UInt8):Z8:=
 (iter (fun d (a,b)=>bif decide (b<(a.length:Int))then oB (idx a b) fun e=>(oB (jt N (e.toNat:Int)) fun f=>oB (idx a b) fun k=>bif !decide (f=(k.toNat:Int))then some false else oB (idx a b) fun j=>bif decide ((j.toNat:Int)=0)then some false else if fits (b+1)then d (a,(b+1))else none)else oB (jJ N (a.length:Int) 1 12) fun h=>some h) N (c,(0:Int)))
theorem jgp :mK 83 (bX [pS] [pB] (c1A (jT N))):=
 mO (fC (jfG N) (fC (jcL N) ja)) func83 rfl N (.seq .no (.seq (.seq .no (.block (.loop jr5 .no))) .no)) _
def jdI (N:Nat):Option ((List Z2)):=
 (some ([([105,110,103]:List UInt8),([101,100]:List UInt8),([101,115]:List UInt8),([108,121]:List UInt8),([115]:List UInt8)]:List Z2))
theorem jkj :mK 165 ⟨⟨[],[]⟩,⟨[.own 1 .str 9 true],[]⟩,fun a=>jdI N⟩:=
 mO ja func165 rfl N .no _
def jl2 :Sh:=⟨pS:: .dead:: .dead::pI::dz 30 [],[]⟩
def ja6 (e:List UInt8):Option (Z2):=
 (iter (fun d (a,b)=>oB (jdI N) fun i=>bif decide (b<(i.length:Int))then oB (jdI N) fun j=>(oB (idx j b) fun c=>if fits ((a.length:Int)-(c.length:Int))then bif decide ((3:Int)<=((a.length:Int)-(c.length:Int)))then oB (cut a ((a.length:Int)-(c.length:Int)) (a.length:Int)) fun f=>(bif decide (f=c)then oB (cut a 0 ((a.length:Int)-(c.length:Int))) fun h=>(some h)else if fits (b+1)then d (a,(b+1))else none)else(if fits (b+1)then d (a,(b+1))else none)else none)else some a) N (e,(0:Int)))
theorem jtL :mK 130 (bX [pS] [pS] (c1A (ja6 N))):=
 mO (fC (jkj N) ja) func130 rfl N (.seq .no (.seq (.seq .no (.block (.loop jl2 .no))) .no)) _
def jto :Sh:=⟨pS::dz 9 [],[]⟩
def jaq (a:List UInt8):Option (Z2):=
 (iter (fun b (e:Z2)=>let s2:=e;(oB (ja6 N s2) fun c=>bif !decide (c=s2)then oB (ja6 N s2) fun d=>(b d)else some s2)) N a)
theorem jfZ :mK 84 (bX [pS] [pS] (c1A (jaq N))):=
 mO (fC (jtL N) ja) func84 rfl N (.seq .no (.seq (.block (.loop jto .no)) .no)) _
def jlY :Sh:=⟨.pv (.sl .str)::pS::dz 3 (pI::dz 12 []),[]⟩
def jap (d:List Z2) (e:List UInt8):Z8:=
 (iter (fun f (b,c,a)=>bif decide (a<(b.length:Int))then oB (idx b a) fun h=>(bif decide (h=c)then some true else if fits (a+1)then f (b,c,(a+1))else none)else some false) N (d,e,(0:Int)))
theorem jhP :mK 85 (bX [.pv (.sl .str),pS] [pB] (c2A (jap N))):=
 mO ja func85 rfl N (.seq .no (.seq (.seq .no (.block (.loop jlY .no))) .no)) _
def jrs :Sh:=⟨.dead:: .box 1 0:: .dead::pI::dz 114 [],[(1,false,[.pv (.sl .str),.pv Y14])]⟩
def js0 :Sh:=⟨.dead:: .box 1 0:: .dead:: .dead::pI::dz 113 [],[(1,false,[.pv (.sl .str),.pv Y14])]⟩
def jrc :Sh:=⟨.dead:: .box 1 0:: .dead:: .dead::pI:: .box 5 0::pI::dz 111 [],[(1,false,[.pv (.sl .str),.pv Y14]),(5,false,[.pv (.sl .str),pS])]⟩
def jcw (u:List Z2) (H:List Z4):Z8:=
 (iter (fun n (a,c,i)=>bif decide (a<(c.length:Int))then oB (idx c a) fun v=>(oB (jT N v) fun C=>bif !C then some false else bif decide ((0:Int)<a)then oB (idx c a) fun m=>(if fits (a-1)then oB (idx c (a-1)) fun p=>(bif Op.bytesLess m p||decide (m=p)then some false else if fits (a+1)then n ((a+1),c,i)else none)else none)else if fits (a+1)then n ((a+1),c,i)else none)else iter (fun I (j,q,h)=>bif decide (j<(h.length:Int))then oB (idx h j) fun o=>(iter (fun G (l,d,k,r,b,f)=>bif decide (d<(b.length:Int))then oB (idx b d) fun y=>(oB (jT N y) fun x=>bif !x then some false else oB (idx b d) fun A=>oB (jaq N A) fun B=>oB (idx b d) fun z=>bif !decide (B=z)then some false else oB (idx b d) fun t=>oB (jap N k t) fun K=>bif K then some false else if fits (d+1)then G (l,(d+1),k,r,b,f)else none)else oB (jJ N (b.length:Int) 1 3) fun E=>bif !E then some false else oB (jT N f) fun w=>bif !w then some false else oB (jaq N f) fun D=>bif !decide (D=f)then some false else if fits (l+1)then I ((l+1),k,r)else none) N (j,(0:Int),q,h,o.1,o.2))else bif decide ((q.length:Int)<=6)then some (decide ((h.length:Int)<=4))else some false) N ((0:Int),c,i)) N ((0:Int),u,H))
theorem jtf :mK 37 (bX [.agg [.pv (.sl .str),.pv Y14]] [pB] (c2A (jcw N))):=
 mO (fC (jgp N) (fC (jfZ N) (fC (jhP N) (fC (jcL N) ja)))) func37 rfl N (.seq .no (.seq (.seq .no (.block (.loop jrs .no))) (.seq (.seq .no (.block (.loop js0 (.seq .no (.seq (.block (.seq .no (.seq (.seq .no (.block (.loop jrc .no))) .no))) .no))))) .no))) _
def jot :Sh:=⟨pS:: .dead:: .dead::pI::dz 19 [],[]⟩
def jcu (c:List UInt8):Z8:=
 (iter (fun d (a,b)=>bif decide (b<(a.length:Int))then oB (idx a b) fun e=>(bif decide ((e.toNat:Int)<32)then some false else oB (idx a b) fun h=>bif decide ((126:Int)<(h.toNat:Int))then some false else if fits (b+1)then d (a,(b+1))else none)else some (decide ((a.length:Int)<=160))) N (c,(0:Int)))
theorem jpZ :mK 131 (bX [pS] [pB] (c1A (jcu N))):=
 mO ja func131 rfl N (.seq .no (.seq (.seq .no (.block (.loop jot .no))) .no)) _
def jp0 :Sh:=⟨.dead:: .box 1 0:: .dead::pI::dz 100 [],[(1,false,[pI,.pv Y17,.pv Y13])]⟩
def jtP :Sh:=⟨.dead:: .box 1 0::dz 3 (pI::dz 98 []),[(1,false,[pI,.pv Y17,.pv Y13])]⟩
def jcb (y:Int) (w:Z12) (t:Z6):Z8:=
 (iter (fun m (b,f,d,j)=>bif decide (b<(d.length:Int))then oB (idx d b) fun e=>(oB (jT N e.1) fun z=>bif !z then some false else oB (jcu N e.2) fun u=>bif !u then some false else bif decide ((0:Int)<b)then if fits (b-1)then oB (idx d (b-1)) fun l=>(bif Op.bytesLess e.1 l.1||decide (e.1=l.1)then some false else if fits (b+1)then m ((b+1),f,d,j)else none)else none else if fits (b+1)then m ((b+1),f,d,j)else none)else iter (fun p (a,k,h,c)=>bif decide (a<(c.length:Int))then oB (idx c a) fun v=>(oB (jT N v.1) fun x=>bif !x then some false else oB (idx c a) fun r=>oB (jJ N r.2 0 999999999) fun B=>bif !B then some false else bif decide ((0:Int)<a)then oB (idx c a) fun n=>(if fits (a-1)then oB (idx c (a-1)) fun o=>(bif Op.bytesLess n.1 o.1||decide (n.1=o.1)then some false else if fits (a+1)then p ((a+1),k,h,c)else none)else none)else if fits (a+1)then p ((a+1),k,h,c)else none)else oB (jJ N k 1 9999) fun A=>bif A then oB (jJ N (h.length:Int) 0 3) fun q=>(bif q then some (decide ((c.length:Int)<=3))else some false)else some false) N ((0:Int),f,d,j)) N ((0:Int),y,w,t))
theorem jpD :mK 86 (bX [.agg [pI,.pv Y17,.pv Y13]] [pB] (c3A (jcb N))):=
 mO (fC (jgp N) (fC (jpZ N) (fC (jcL N) ja))) func86 rfl N (.seq .no (.seq (.seq .no (.block (.loop jp0 .no))) (.seq (.seq .no (.block (.loop jtP .no))) .no))) _
def jkS :Sh:=⟨.pv Y3:: .dead:: .dead::pI::dz 33 [],[]⟩
def jbU (f:List Z0):Z8:=
 (iter (fun d (b,a)=>bif decide (a<(b.length:Int))then oB (idx b a) fun c=>(oB (jcb N c.1 c.2.1 c.2.2) fun h=>bif !h then some false else bif decide ((0:Int)<a)then oB (idx b a) fun e=>(if fits (a-1)then oB (idx b (a-1)) fun j=>(bif decide (e.1<=j.1)then some false else if fits (a+1)then d (b,(a+1))else none)else none)else if fits (a+1)then d (b,(a+1))else none)else some (decide ((b.length:Int)<=16))) N (f,(0:Int)))
theorem jpx :mK 38 (bX [.pv Y3] [pB] (c1A (jbU N))):=
 mO (fC (jpD N) ja) func38 rfl N (.seq .no (.seq (.seq .no (.block (.loop jkS .no))) .no)) _
def jl5 :Sh:=⟨.pv (.sl .str)::pS::dz 3 (pI::dz 42 []),[]⟩
def s_l7Put_m (n:List Z2) (t:List UInt8):Option ((List Z2)):=
 (iter (fun o (a,b,c)=>bif decide (c<(a.length:Int))then oB (idx a c) fun p=>(bif Op.bytesLess p b then if fits (c+1)then o (a,b,(c+1))else none else bif decide (c<(a.length:Int))then oB (idx a c) fun m=>(bif decide (m=b)then some a else oB (cut a 0 c) fun d=>if room ([]:List Z2).length d.length 16 then if room (([]:List Z2)++d).length ([b]:List Z2).length 16 then oB (cut a c (a.length:Int)) fun j=>(if room ((([]:List Z2)++d)++([b]:List Z2)).length j.length 16 then some (((([]:List Z2)++d)++([b]:List Z2))++j)else none)else none else none)else oB (cut a 0 c) fun f=>if room ([]:List Z2).length f.length 16 then if room (([]:List Z2)++f).length ([b]:List Z2).length 16 then oB (cut a c (a.length:Int)) fun i=>(if room ((([]:List Z2)++f)++([b]:List Z2)).length i.length 16 then some (((([]:List Z2)++f)++([b]:List Z2))++i)else none)else none else none)else bif decide (c<(a.length:Int))then oB (idx a c) fun r=>(bif decide (r=b)then some a else oB (cut a 0 c) fun e=>if room ([]:List Z2).length e.length 16 then if room (([]:List Z2)++e).length ([b]:List Z2).length 16 then oB (cut a c (a.length:Int)) fun l=>(if room ((([]:List Z2)++e)++([b]:List Z2)).length l.length 16 then some (((([]:List Z2)++e)++([b]:List Z2))++l)else none)else none else none)else oB (cut a 0 c) fun h=>if room ([]:List Z2).length h.length 16 then if room (([]:List Z2)++h).length ([b]:List Z2).length 16 then oB (cut a c (a.length:Int)) fun k=>(if room ((([]:List Z2)++h)++([b]:List Z2)).length k.length 16 then some (((([]:List Z2)++h)++([b]:List Z2))++k)else none)else none else none) N (n,t,(0:Int)))
theorem jgt :mK 89 (bX [.pv (.sl .str),pS] [.pv (.sl .str)] (c2A (s_l7Put_m N))):=
 mO ja func89 rfl N (.seq .no (.seq .no (.seq (.block (.loop jl5 .no)) .no))) _
def joT :Sh:=⟨.pv Y3:: .dead:: .dead:: .pv (.sl .str)::pI::dz 30 [],[]⟩
def jkn :Sh:=⟨.pv Y3:: .dead:: .dead:: .pv (.sl .str)::pI::pI::dz 29 [],[]⟩
def s_l7Names_m (n:List Z0):Option ((List Z2)):=
 (iter (fun k (f,i,h)=>bif decide (h<(f.length:Int))then iter (fun p (b,e,a,c)=>oB (idx b a) fun l=>bif decide (c<(l.2.1.length:Int))then oB (idx b a) fun j=>(oB (idx j.2.1 c) fun o=>oB (s_l7Put_m N e o.1) fun m=>if fits (c+1)then p (b,m,a,(c+1))else none)else if fits (a+1)then k (b,e,(a+1))else none) N (f,i,h,(0:Int))else some i) N (n,([]:List Z2),(0:Int)))
theorem jlz :mK 43 (bX [.pv Y3] [.pv (.sl .str)] (c1A (s_l7Names_m N))):=
 mO (fC (jgt N) ja) func43 rfl N (.seq .no (.seq .no (.seq (.seq .no (.block (.loop joT (.seq .no (.seq (.block (.seq .no (.block (.loop jkn .no)))) .no))))) .no))) _
def jl8 :Sh:=⟨.dead::pS:: .box 2 0:: .dead:: .dead::pI::dz 21 [],[(2,false,[pI,.pv Y17,.pv Y13])]⟩
def s_l6Field_m (f:Int) (n:Z12) (j:Z6) (m:List UInt8):Option (Z2):=
 (iter (fun e (c,a,k,b,h)=>bif decide (a<(b.length:Int))then oB (idx b a) fun i=>(bif decide (i.1=c)then oB (idx b a) fun d=>(some d.2)else if fits (a+1)then e (c,(a+1),k,b,h)else none)else some ([]:List UInt8)) N (m,(0:Int),f,n,j))
theorem jhA :mK 91 (bX [.agg [pI,.pv Y17,.pv Y13],pS] [pS] (c4A (s_l6Field_m N))):=
 mO ja func91 rfl N (.seq .no (.seq (.seq .no (.block (.loop jl8 .no))) .no)) _
def jo3 :Sh:=⟨pS:: .dead:: .dead:: .own 600003 Y7 146 true::pI::dz 50 [],[]⟩
def jm6 :Sh:=⟨pS:: .dead:: .dead:: .own 600003 Y7 146 true::pI:: .own 600005 (.int .u8) 5 true::pI::dz 48 [],[]⟩
def jtK :Sh:=⟨pS:: .dead:: .dead:: .own 600003 Y7 146 true::pI:: .pv (.sl (.int .u8))::pI::dz 48 [],[]⟩
def jb3 (B:List UInt8):Option ((List Z9)):=
 (iter (fun l (r,y,n)=>bif decide (n<(r.length:Int))then iter (fun G (c,i,a,b,h)=>bif decide (a<(c.length:Int))then oB (idx c a) fun z=>(oB (jt N (z.toNat:Int)) fun D=>bif !decide (D=0)then oB (idx c a) fun E=>(oB (jt N (E.toNat:Int)) fun u=>if room b.length ([u]:List Int).length 1 then if fits (a+1)then G (c,i,(a+1),(b++([u]:List Int)),h)else none else none)else meet (fun(d:Z2×(List Z9)×Int×(List Int)×Int)=>match d with|(x,j,f,m,v)=>bif decide ((0:Int)<m.length)then if room j.length ([((bytesOf m),(j.length:Int),v,f)]:List Z9).length 40 then if fits (f+1)then l (x,(j++([((bytesOf m),(j.length:Int),v,f)]:List Z9)),(f+1))else none else none else if fits (f+1)then l (x,j,(f+1))else none) fun q=>bif decide ((12:Int)<b.length)then oB (cut b 0 12) fun A=>(q (c,i,a,A,h))else q (c,i,a,b,h))else meet (fun(d:Z2×(List Z9)×Int×(List Int)×Int)=>match d with|(p,k,e,o,w)=>bif decide ((0:Int)<o.length)then if room k.length ([((bytesOf o),(k.length:Int),w,e)]:List Z9).length 40 then if fits (e+1)then l (p,(k++([((bytesOf o),(k.length:Int),w,e)]:List Z9)),(e+1))else none else none else if fits (e+1)then l (p,k,(e+1))else none) fun t=>bif decide ((12:Int)<b.length)then oB (cut b 0 12) fun C=>(t (c,i,a,C,h))else t (c,i,a,b,h)) N (r,y,n,([]:List Int),n)else some y) N (B,([]:List Z9),(0:Int)))
theorem jsr :mK 166 (bX [pS] [.own 1 Y7 146 true] (c1A (jb3 N))):=
 mO (fC (jfG N) ja) func166 rfl N (.seq .no (.seq .no (.seq (.seq .no (.block (.loop jo3 (.seq .no (.seq (.block (.seq .no (.seq .no (.seq (.block (.loop jm6 .no)) (.meet jtK .no .no))))) .no))))) .no))) _
def jmf :Sh:=⟨.dead:: .dead:: .box 2 0:: .dead:: .dead:: .own 600005 Y15 103 true:: .own 600006 Y7 146 true::pI::dz 43 [],[(2,false,[.pv (.sl .str),.pv Y14])]⟩
def jbY (k:List Z2) (q:List Z4) (o:List UInt8):Option (Z7):=
 (oB (jb3 N o) fun p=>iter (fun e (d,b,a,c,h)=>bif decide (a<(b.length:Int))then oB (idx b a) fun l=>(oB (jaq N l.1) fun f=>oB (idx b a) fun j=>oB (jap N c j.1) fun n=>bif !n then oB (jap N c f) fun r=>(bif !r then oB (idx b a) fun i=>(if room d.length ([(f,i.2.1)]:Z6).length 24 then if fits (a+1)then e ((d++([(f,i.2.1)]:Z6)),b,(a+1),c,h)else none else none)else if fits (a+1)then e (d,b,(a+1),c,h)else none)else if fits (a+1)then e (d,b,(a+1),c,h)else none)else some d) N (([]:Z6),p,(0:Int),k,q))
theorem jrk :mK 132 (bX [.agg [.pv (.sl .str),.pv Y14],pS] [.own 1 Y15 103 true] (c3A (jbY N))):=
 mO (fC (jsr N) (fC (jfZ N) (fC (jhP N) ja))) func132 rfl N (.seq .no (.seq .no (.seq .no (.seq (.seq .no (.block (.loop jmf .no))) .no)))) _
def jrL :Sh:=⟨.pv Y13:: .pv (.sl .str)::dz 3 (pI::dz 36 []),[]⟩
def jcC (f:Z6) (h:List Z2):Z8:=
 (iter (fun i (b,c,a)=>bif decide (a<(c.length:Int))then bif decide ((b.length:Int)<=a)then some false else(oB (idx b a) fun j=>oB (idx c a) fun e=>bif !decide (j.1=e)then some false else oB (idx b a) fun l=>oB (idx b 0) fun d=>if fits (d.2+a)then bif !decide (l.2=(d.2+a))then some false else(if fits (a+1)then i (b,c,(a+1))else none)else none)else some true) N (f,h,(0:Int)))
theorem jtg :mK 167 (bX [.pv Y13,.pv (.sl .str)] [pB] (c2A (jcC N))):=
 mO ja func167 rfl N (.seq .no (.seq (.seq .no (.block (.loop jrL .no))) .no)) _
def jlL :Sh:=⟨.dead:: .pv Y13:: .box 2 0:: .dead:: .dead::pI::pI::dz 38 [],[(2,false,[.pv (.sl .str),.pv Y14])]⟩
def jcJ (j:List Z2) (o:List Z4) (i:Z6):Z11:=
 (iter (fun e (c,d,a,f,b)=>bif decide (a<(b.length:Int))then oB (idx b a) fun k=>(oB (jcC N c k.1) fun l=>bif l then bif decide (d<0)then if fits (a+1)then e (c,a,(a+1),f,b)else none else(oB (idx b a) fun h=>oB (idx b d) fun n=>bif decide ((n.1.length:Int)<(h.1.length:Int))then if fits (a+1)then e (c,a,(a+1),f,b)else none else if fits (a+1)then e (c,d,(a+1),f,b)else none)else if fits (a+1)then e (c,d,(a+1),f,b)else none)else some d) N (i,((-1):Int),(0:Int),j,o))
theorem jqp :mK 133 (bX [.agg [.pv (.sl .str),.pv Y14],.pv Y13] [pI] (c3A (jcJ N))):=
 mO (fC (jtg N) ja) func133 rfl N (.seq .no (.seq .no (.seq (.seq .no (.block (.loop jlL .no))) .no))) _
def jnK :Sh:=⟨.dead:: .dead:: .box 2 0:: .dead:: .dead:: .own 600005 Y15 103 true:: .pv Y13::dz 45 [],[(2,false,[.pv (.sl .str),.pv Y14])]⟩
def ja5 (j:List Z2) (l:List Z4) (p:List UInt8):Option (Z7):=
 (oB (jbY N j l p) fun r=>iter (fun h (c,a,e,b)=>bif decide ((0:Int)<a.length)then oB (jcJ N e b a) fun d=>(bif decide (d<0)then oB (idx a 0) fun i=>(if room c.length ([i]:Z6).length 24 then oB (cut a 1 (a.length:Int)) fun m=>(h ((c++([i]:Z6)),m,e,b))else none)else oB (idx b d) fun f=>oB (idx a 0) fun k=>if room c.length ([(f.2,k.2)]:Z6).length 24 then oB (idx b d) fun n=>(oB (cut a (n.1.length:Int) (a.length:Int)) fun q=>h ((c++([(f.2,k.2)]:Z6)),q,e,b))else none)else some c) N (([]:Z6),r,j,l))
theorem jiO :mK 90 (bX [.agg [.pv (.sl .str),.pv Y14],pS] [.own 1 Y15 103 true] (c3A (ja5 N))):=
 mO (fC (jrk N) (fC (jqp N) ja)) func90 rfl N (.seq .no (.seq .no (.seq .no (.seq (.block (.loop jnK .no)) .no)))) _
def jn9 :Sh:=⟨.dead:: .pv Y3::pS:: .box 3 0::dz 3 (.pv (.sl .str)::pI::dz 31 []),[(3,false,[.pv (.sl .str),.pv Y14])]⟩
def jrT :Sh:=⟨.dead:: .pv Y3::pS:: .box 3 0::dz 3 (.pv (.sl .str)::pI:: .own 600009 Y15 103 true::pI::dz 29 []),[(3,false,[.pv (.sl .str),.pv Y14])]⟩
def s_l7Terms_m (u:List Z2) (y:List Z4) (z:List Z0) (B:List UInt8):Option ((List Z2)):=
 (iter (fun t (f,j,q,h,n,i)=>bif decide (h<(f.length:Int))then oB (idx f h) fun c=>(oB (s_l6Field_m N c.1 c.2.1 c.2.2 j) fun x=>oB (ja5 N n i x) fun v=>iter (fun A (l,k,m,e,b,a,p,o)=>bif decide (a<(b.length:Int))then oB (idx b a) fun r=>(oB (s_l7Put_m N m r.1) fun w=>if fits (a+1)then A (l,k,w,e,b,(a+1),p,o)else none)else if fits (e+1)then t (l,k,m,(e+1),p,o)else none) N (f,j,q,h,v,(0:Int),n,i))else some q) N (z,B,([]:List Z2),(0:Int),u,y))
theorem jqQ :mK 44 (bX [.agg [.pv (.sl .str),.pv Y14],.pv Y3,pS] [.pv (.sl .str)] (c4A (s_l7Terms_m N))):=
 mO (fC (jhA N) (fC (jiO N) (fC (jgt N) ja))) func44 rfl N (.seq .no (.seq .no (.seq (.seq .no (.block (.loop jn9 (.seq .no (.seq (.block (.seq .no (.seq .no (.block (.loop jrT .no))))) .no))))) .no))) _
def jnY :Sh:=⟨dz 3 (pS::dz 5 (.own 600009 tI 3 true:: .own 600010 Y15 103 true::pI::dz 28 [])),[]⟩
def s_l7Post_m (h:List Z2) (p:List Z4) (n:Int) (m:Z12) (j:Z6) (r:List UInt8) (q:List UInt8):Option ((List Int)):=
 (oB (s_l6Field_m N n m j r) fun o=>oB (ja5 N h p o) fun k=>iter (fun f (d,c,b,a)=>bif decide (a<(b.length:Int))then oB (idx b a) fun i=>(bif decide (i.1=d)then oB (idx b a) fun e=>(if room c.length ([e.2]:List Int).length 8 then if fits (a+1)then f (d,(c++([e.2]:List Int)),b,(a+1))else none else none)else if fits (a+1)then f (d,c,b,(a+1))else none)else some c) N (q,([]:List Int),k,(0:Int)))
theorem js6 :mK 92 (bX [.agg [.pv (.sl .str),.pv Y14],.agg [pI,.pv Y17,.pv Y13],pS,pS] [.own 1 tI 3 true] (c7A (s_l7Post_m N))):=
 mO (fC (jhA N) (fC (jiO N) ja)) func92 rfl N (.seq .no (.seq .no (.seq .no (.seq (.seq .no (.block (.loop jnY .no))) .no)))) _
def jkw :Sh:=⟨.dead:: .pv Y3::pS::pS:: .box 4 0::dz 3 (.box 8 0:: .box 9 0::pI::dz 34 []),[(4,false,[.pv (.sl .str),.pv Y14]),(8,false,[pS,pS,.nils]),(9,false,[pS,pS,.own 700902 Y12 136 true])]⟩
def s_l7Entry_m (t:List Z2) (w:List Z4) (v:List Z0) (r:List UInt8) (q:List UInt8):Option Z1:=
 (iter (fun m (b,j,e,a,l,i,n,p,f,d,c)=>bif decide (a<(b.length:Int))then oB (idx b a) fun h=>(oB (s_l7Post_m N l i h.1 h.2.1 h.2.2 j e) fun k=>bif decide ((0:Int)<k.length)then oB (idx b a) fun o=>(if room c.length ([(o.1,k)]:Z5).length 32 then if fits (a+1)then m (b,j,e,(a+1),l,i,n,p,f,d,(c++([(o.1,k)]:Z5)))else none else none)else if fits (a+1)then m (b,j,e,(a+1),l,i,n,p,f,d,c)else none)else some (f,d,c)) N (v,r,q,(0:Int),t,w,([]:List UInt8),([]:List UInt8),r,q,([]:Z5)))
theorem jtr :mK 45 (bX [.agg [.pv (.sl .str),.pv Y14],.pv Y3,pS,pS] [.agg [pS,pS,.own 1 Y12 136 true]] (c5A (s_l7Entry_m N))):=
 mO (fC (js6 N) ja) func45 rfl N (.seq .no (.seq .no (.seq (.seq .no (.block (.loop jkw .no))) .no))) _
def s_l7CopyDoc_m (N:Nat) (c:Int) (b:Z12) (a:Z6):Option Z0:=
 (if room ([]:Z12).length b.length 32 then if room ([]:Z6).length a.length 24 then some (c,(([]:Z12)++b),(([]:Z6)++a))else none else none)
theorem jtC :mK 46 (bX [.agg [pI,.pv Y17,.pv Y13]] [.agg [pI,.own 1 Y18 99 true,.own 2 Y15 169 true]] (c3A (s_l7CopyDoc_m N))):=
 mO ja func46 rfl N .no _
def jn8 :Sh:=⟨.dead:: .pv Y3:: .box 2 0:: .dead:: .box 4 0:: .box 5 0:: .pv (.sl .str)::pI::dz 58 [],[(2,false,[.pv (.sl .str),.pv Y14]),(4,false,[.nils,.nils]),(5,false,[.nils,.own 700501 Y6 89 true])]⟩
def jpr :Sh:=⟨.dead:: .pv Y3:: .box 2 0:: .dead:: .box 4 0:: .box 5 0:: .pv (.sl .str)::pI:: .pv (.sl .str)::pI::dz 56 [],[(2,false,[.pv (.sl .str),.pv Y14]),(4,false,[.nils,.nils]),(5,false,[.nils,.own 700501 Y6 89 true])]⟩
def jn0 :Sh:=⟨.dead:: .pv Y3:: .dead:: .dead:: .box 4 0:: .box 5 0::dz 4 (pI::dz 55 []),[(4,false,[.nils,.nils]),(5,false,[.own 700500 Y4 77 true,.own 700501 Y6 89 true])]⟩
def s_l7Of_m (B:List Z2) (I:List Z4) (w:List Z0):Z16:=
 (oB (s_l7Names_m N w) fun G=>iter (fun A (i,h,j,x,r,u)=>bif decide (j<(h.length:Int))then oB (idx h j) fun C=>(oB (s_l7Terms_m N x r i C) fun D=>iter (fun K (n,k,b,m,d,q,p,e)=>bif decide (d<(m.length:Int))then oB (idx k b) fun z=>(oB (idx m d) fun E=>oB (s_l7Entry_m N q p n z E) fun t=>if room e.length ([t]:List Z1).length 56 then if fits (d+1)then K (n,k,b,m,(d+1),q,p,(e++([t]:List Z1)))else none else none)else if fits (b+1)then A (n,k,(b+1),q,p,e)else none) N (i,h,j,D,(0:Int),x,r,u))else iter (fun H (l,c,o,v)=>bif decide (c<(l.length:Int))then oB (idx l c) fun f=>(oB (s_l7CopyDoc_m N f.1 f.2.1 f.2.2) fun y=>if room o.length ([y]:List Z0).length 56 then if fits (c+1)then H (l,(c+1),(o++([y]:List Z0)),v)else none else none)else some (o,v)) N (i,(0:Int),([]:List Z0),u)) N (w,G,(0:Int),B,I,([]:List Z1)))
theorem jmU :mK 17 (bX [.agg [.pv (.sl .str),.pv Y14],.pv Y3] [.agg [.own 1 Y4 77 true,.own 2 Y6 89 true]] (c3A (s_l7Of_m N))):=
 mO (fC (jlz N) (fC (jqQ N) (fC (jtr N) (fC (jtC N) ja)))) func17 rfl N (.seq .no (.seq .no (.seq .no (.seq (.seq .no (.block (.loop jn8 (.seq .no (.seq (.block (.seq .no (.seq .no (.block (.loop jpr .no))))) .no))))) (.seq (.seq .no (.block (.loop jn0 .no))) .no))))) _
def jnI :Sh:=⟨.pv Y19:: .pv Y19::dz 3 (pI::dz 20 []),[]⟩
def jb1 (d:List Int) (c:List Int):Z8:=
 (bif !decide ((d.length:Int)=(c.length:Int))then some false else iter (fun h (b,e,a)=>bif decide (a<(b.length:Int))then oB (idx b a) fun i=>(oB (idx e a) fun f=>bif !decide (i=f)then some false else if fits (a+1)then h (b,e,(a+1))else none)else some true) N (d,c,(0:Int)))
theorem jlH :mK 128 (bX [.pv Y19,.pv Y19] [pB] (c2A (jb1 N))):=
 mO ja func128 rfl N (.seq .no (.seq .no (.seq (.seq .no (.block (.loop jnI .no))) .no))) _
def jnx :Sh:=⟨.dead:: .dead:: .box 2 0:: .box 3 0:: .dead::pI::dz 57 [],[(2,false,[pS,pS,.pv Y11]),(3,false,[pS,pS,.pv Y11])]⟩
def jbQ (f:List UInt8) (i:List UInt8) (j:Z5) (e:List UInt8) (h:List UInt8) (d:Z5):Z8:=
 (bif !decide (f=e)then some false else bif !decide (i=h)then some false else bif !decide ((j.length:Int)=(d.length:Int))then some false else iter (fun l (a,t,v,b,r,n,c)=>bif decide (a<(b.length:Int))then oB (idx b a) fun m=>(oB (idx c a) fun k=>bif !decide (m.1=k.1)then some false else oB (idx b a) fun q=>oB (idx c a) fun o=>oB (jb1 N q.2 o.2) fun u=>bif !u then some false else if fits (a+1)then l ((a+1),t,v,b,r,n,c)else none)else some true) N ((0:Int),f,i,j,e,h,d))
theorem jtG :mK 82 (bX [.agg [pS,pS,.pv Y11],.agg [pS,pS,.pv Y11]] [pB] (c6A (jbQ N))):=
 mO (fC (jlH N) ja) func82 rfl N (.seq .no (.seq .no (.seq (.seq .no (.block (.loop jnx .no))) .no))) _
def jrW :Sh:=⟨dz 3 (.box 3 0:: .dead:: .box 5 0::pI::dz 39 []),[(3,false,[.pv Y3,.pv Y5]),(5,false,[.own 700500 Y4 77 true,.own 700501 Y6 89 true])]⟩
def jcR (h:List Z2) (k:List Z4) (f:List Z0) (i:List Z1):Z8:=
 (oB (jcw N h k) fun p=>bif !p then some false else oB (jbU N f) fun n=>bif !n then some false else oB (s_l7Of_m N h k f) fun e=>bif !decide ((e.2.length:Int)=(i.length:Int))then some false else iter (fun l (a,q,j,m,c)=>bif decide (a<(c.length:Int))then oB (idx c a) fun d=>(oB (idx j a) fun b=>oB (jbQ N d.1 d.2.1 d.2.2 b.1 b.2.1 b.2.2) fun r=>bif !r then some false else if fits (a+1)then l ((a+1),q,j,m,c)else none)else some true) N ((0:Int),f,i,e.1,e.2))
theorem jpm :mK 34 (bX [.agg [.pv (.sl .str),.pv Y14],.agg [.pv Y3,.pv Y5]] [pB] (c4A (jcR N))):=
 mO (fC (jtf N) (fC (jpx N) (fC (jmU N) (fC (jtG N) ja)))) func34 rfl N (.seq .no (.seq .no (.seq .no (.seq .no (.seq (.seq .no (.block (.loop jrW .no))) .no))))) _
def jCI :Sh:=⟨.pv Y19:: .dead:: .dead::pI::dz 31 [],[]⟩
def jx3 (e:List Int):Z8:=
 (iter (fun c (b,a)=>bif decide (a<(b.length:Int))then oB (idx b a) fun f=>(oB (jJ N f 0 999999999) fun h=>bif !h then some false else bif decide ((0:Int)<a)then oB (idx b a) fun d=>(if fits (a-1)then oB (idx b (a-1)) fun j=>(bif decide (d<=j)then some false else if fits (a+1)then c (b,(a+1))else none)else none)else if fits (a+1)then c (b,(a+1))else none)else some (decide ((b.length:Int)<=60))) N (e,(0:Int)))
theorem jC9 :mK 35 (bX [.pv Y19] [pB] (c1A (jx3 N))):=
 mO (fC (jcL N) ja) func35 rfl N (.seq .no (.seq (.seq .no (.block (.loop jCI .no))) .no)) _
def jA0 :Sh:=⟨.dead::pI:: .box 2 0:: .dead:: .box 4 0::pI::dz 21 [],[(2,false,[.pv Y3,.pv Y5]),(4,false,[pI,.nils,.nils])]⟩
def s_l12Doc_m (e:List Z0) (j:List Z1) (m:Int):Option Z0:=
 (iter (fun f (d,a,b,h,k)=>bif decide (a<(b.length:Int))then oB (idx b a) fun i=>(bif decide (i.1=d)then oB (idx b a) fun c=>(some (c.1,c.2.1,c.2.2))else if fits (a+1)then f (d,(a+1),b,h,k)else none)else some (0,([]:Z12),([]:Z6))) N (m,(0:Int),e,j,(0:Int)))
theorem jDn :mK 36 (bX [.agg [.pv Y3,.pv Y5],pI] [.agg [pI,.pv Y17,.pv Y13]] (c3A (s_l12Doc_m N))):=
 mO ja func36 rfl N (.seq .no (.seq (.seq .no (.block (.loop jA0 .no))) .no)) _
def jJe :Sh:=⟨.pv Y19::pI::dz 3 (pI::dz 12 []),[]⟩
def s_l8Has_m (d:List Int) (i:Int):Z8:=
 (iter (fun e (b,c,a)=>bif decide (a<(b.length:Int))then oB (idx b a) fun f=>(bif decide (f=c)then some true else if fits (a+1)then e (b,c,(a+1))else none)else some false) N (d,i,(0:Int)))
theorem jIb :mK 88 (bX [.pv Y19,pI] [pB] (c2A (s_l8Has_m N))):=
 mO ja func88 rfl N (.seq .no (.seq (.seq .no (.block (.loop jJe .no))) .no)) _
def s_l18Dead_m (e:List Z0) (d:List Z1) (a:List Int) (b:Int):Z8:=
 (oB (s_l8Has_m N a b) fun c=>some c)
theorem jIy :mK 41 (bX [.agg [.pv Y3,.pv Y5,.pv Y19],pI] [pB] (c4A (s_l18Dead_m N))):=
 mO (fC (jIb N) ja) func41 rfl N .no _
def jIl :Sh:=⟨.pv Y3:: .dead:: .dead:: .box 3 0:: .dead::pI::dz 32 [],[(3,false,[pI,.pv Y17,.pv Y13])]⟩
def s_l18Put_m (m:List Z0) (t:Int) (r:Z12) (p:Z6):Z14:=
 (iter (fun n (a,b,d,j,h)=>bif decide (b<(a.length:Int))then oB (idx a b) fun o=>(bif decide (o.1<d)then if fits (b+1)then n (a,(b+1),d,j,h)else none else oB (cut a 0 b) fun c=>if room ([]:List Z0).length c.length 56 then oB (s_l7CopyDoc_m N d j h) fun i=>(if room (([]:List Z0)++c).length ([i]:List Z0).length 56 then oB (cut a b (a.length:Int)) fun l=>(if room ((([]:List Z0)++c)++([i]:List Z0)).length l.length 56 then some (((([]:List Z0)++c)++([i]:List Z0))++l)else none)else none)else none)else oB (cut a 0 b) fun e=>if room ([]:List Z0).length e.length 56 then oB (s_l7CopyDoc_m N d j h) fun f=>(if room (([]:List Z0)++e).length ([f]:List Z0).length 56 then oB (cut a b (a.length:Int)) fun k=>(if room ((([]:List Z0)++e)++([f]:List Z0)).length k.length 56 then some (((([]:List Z0)++e)++([f]:List Z0))++k)else none)else none)else none) N (m,(0:Int),t,r,p))
theorem jJy :mK 42 (bX [.pv Y3,.agg [pI,.pv Y17,.pv Y13]] [.own 1 Y4 77 false] (c4A (s_l18Put_m N))):=
 mO (fC (jtC N) ja) func42 rfl N (.seq .no (.seq .no (.seq (.block (.loop jIl .no)) .no))) _
def jI2 :Sh:=⟨.dead:: .box 1 0:: .dead:: .own 600003 Y4 77 false::pI::dz 45 [],[(1,false,[.pv (.sl .str),.pv Y14,.pv Y0])]⟩
def jJx :Sh:=⟨.dead:: .box 1 0:: .dead:: .own 600003 Y4 77 false::pI::pI::dz 44 [],[(1,false,[.pv (.sl .str),.pv Y14,.pv Y0])]⟩
def s_l18Docs_m (t:List Z2) (p:List Z4) (x:List Z3):Z14:=
 (iter (fun q (m,k,w,v,l)=>bif decide (k<(l.length:Int))then iter (fun n (j,a,b,h,i,c)=>oB (idx c a) fun r=>bif decide (b<(r.1.1.length:Int))then oB (idx c a) fun o=>(oB (idx o.1.1 b) fun d=>oB (idx c a) fun e=>oB (s_l18Dead_m N e.1.1 e.1.2 e.2 d.1) fun y=>bif !y then oB (s_l18Put_m N j d.1 d.2.1 d.2.2) fun u=>(if fits (b+1)then n (u,a,(b+1),h,i,c)else none)else if fits (b+1)then n (j,a,(b+1),h,i,c)else none)else if fits (a+1)then q (j,(a+1),h,i,c)else none) N (m,k,(0:Int),w,v,l)else some m) N (([]:List Z0),(0:Int),t,p,x))
theorem jH3 :mK 16 (bX [.agg [.pv (.sl .str),.pv Y14,.pv Y0]] [.own 1 Y4 77 false] (c3A (s_l18Docs_m N))):=
 mO (fC (jIy N) (fC (jJy N) ja)) func16 rfl N (.seq .no (.seq .no (.seq (.seq .no (.block (.loop jI2 (.seq .no (.seq (.block (.seq .no (.block (.loop jJx .no)))) .no))))) .no))) _
def jIz :Sh:=⟨.dead:: .box 1 0:: .dead::pI::dz 67 [],[(1,false,[.pv (.sl .str),.pv Y14,.pv Y0])]⟩
def jJd :Sh:=⟨.dead:: .box 1 0:: .dead::pI:: .box 4 0::pI::dz 22 (pB::dz 9 (pB::dz 32 [])),[(1,false,[.pv (.sl .str),.pv Y14,.pv Y0]),(4,false,[.pv Y3,.pv Y5,.pv Y19])]⟩
def s_l18Ok_m (v:List Z2) (r:List Z4) (x:List Z3):Z8:=
 (iter (fun t (i,d,c,b)=>bif decide (i<(b.length:Int))then oB (idx b i) fun a=>(oB (jcR N d c a.1.1 a.1.2) fun A=>bif !A then some false else oB (jx3 N a.2) fun k=>bif !k then some false else bif decide ((a.1.1.length:Int)<=(a.2.length:Int))then some false else iter (fun C (h,e,z,w,l,m,p,o,n,j)=>bif decide (e<(j.length:Int))then oB (idx j e) fun q=>(oB (s_l12Doc_m N o n q) fun y=>bif decide (y.1=0)then some false else if fits (e+1)then C (h,(e+1),z,w,l,m,p,o,n,j)else none)else if fits (h+1)then t ((h+1),l,m,p)else none) N (i,(0:Int),(!k),(decide ((a.1.1.length:Int)<=(a.2.length:Int))),d,c,b,a.1.1,a.1.2,a.2))else oB (jcw N d c) fun D=>bif D then bif decide ((b.length:Int)<=5)then oB (s_l18Docs_m N d c b) fun B=>(oB (jbU N B) fun u=>some u)else(some false)else some false) N ((0:Int),v,r,x))
theorem jIW :mK 13 (bX [.agg [.pv (.sl .str),.pv Y14,.pv Y0]] [pB] (c3A (s_l18Ok_m N))):=
 mO (fC (jpm N) (fC (jC9 N) (fC (jDn N) (fC (jtf N) (fC (jH3 N) (fC (jpx N) ja)))))) func13 rfl N (.seq .no (.seq (.seq .no (.block (.loop jIz (.seq .no (.seq (.block (.seq .no (.seq .no (.seq .no (.block (.loop jJd .no)))))) .no))))) .no)) _
def jMA :Sh:=⟨.dead:: .box 1 0:: .box 2 0:: .box 3 0::pI::dz 33 [],[(1,false,[.pv (.sl .str),.pv Y14]),(2,false,[.nils,.nils]),(3,false,[.own 700300 .str 9 true,.own 700301 Y16 126 true])]⟩
def s_l18CopyConf_m (c:List Z2) (l:List Z4):Option ((List Z2)×(List Z4)):=
 (if room ([]:List Z2).length c.length 16 then iter (fun i (a,j,b,h,e)=>bif decide (a<(b.length:Int))then oB (idx b a) fun d=>(if room ([]:List Z2).length d.1.length 16 then oB (idx b a) fun f=>(if room e.length ([((([]:List Z2)++d.1),f.2)]:List Z4).length 40 then if fits (a+1)then i ((a+1),j,b,h,(e++([((([]:List Z2)++d.1),f.2)]:List Z4)))else none else none)else none)else some (h,e)) N ((0:Int),c,l,(([]:List Z2)++c),([]:List Z4))else none)
theorem jMp :mK 39 (bX [.agg [.pv (.sl .str),.pv Y14]] [.agg [.own 1 .str 9 true,.own 2 Y16 126 true]] (c2A (s_l18CopyConf_m N))):=
 mO ja func39 rfl N (.seq .no (.seq .no (.seq (.seq .no (.block (.loop jMA .no))) .no))) _
def jMc :Sh:=⟨.pv Y11:: .dead:: .dead:: .own 600003 Y12 136 true::pI::dz 24 [],[]⟩
def s_l7CopyPosts_m (f:Z5):Option (Z10):=
 (iter (fun h (b,d,a)=>bif decide (a<(b.length:Int))then oB (idx b a) fun e=>(oB (idx b a) fun c=>if room ([]:List Int).length c.2.length 8 then if room d.length ([(e.1,(([]:List Int)++c.2))]:Z5).length 32 then if fits (a+1)then h (b,(d++([(e.1,(([]:List Int)++c.2))]:Z5)),(a+1))else none else none else none)else some d) N (f,([]:Z5),(0:Int)))
theorem jLV :mK 87 (bX [.pv Y11] [.own 1 Y12 136 true] (c1A (s_l7CopyPosts_m N))):=
 mO ja func87 rfl N (.seq .no (.seq .no (.seq (.seq .no (.block (.loop jMc .no))) .no))) _
def jLx :Sh:=⟨.dead:: .box 1 0:: .box 2 0:: .box 3 0::pI::dz 47 [],[(1,false,[.pv Y3,.pv Y5]),(2,false,[.nils,.nils]),(3,false,[.own 700300 Y4 77 true,.nils])]⟩
def jKX :Sh:=⟨.dead:: .box 1 0:: .box 2 0:: .box 3 0:: .dead::pI::dz 46 [],[(1,false,[.pv Y3,.pv Y5]),(2,false,[.nils,.nils]),(3,false,[.own 700300 Y4 77 true,.own 700301 Y6 89 true])]⟩
def s_l18CopySeg_m (r:List Z0) (q:List Z1):Z16:=
 (iter (fun p (c,d,l,j)=>bif decide (c<(d.length:Int))then oB (idx d c) fun e=>(oB (s_l7CopyDoc_m N e.1 e.2.1 e.2.2) fun m=>if room j.length ([m]:List Z0).length 56 then if fits (c+1)then p ((c+1),d,l,(j++([m]:List Z0)))else none else none)else iter (fun t (b,o,h,n,i)=>bif decide (b<(h.length:Int))then oB (idx h b) fun a=>(oB (s_l7CopyPosts_m N a.2.2) fun k=>if room i.length ([(a.1,a.2.1,k)]:List Z1).length 56 then if fits (b+1)then t ((b+1),o,h,n,(i++([(a.1,a.2.1,k)]:List Z1)))else none else none)else some (n,i)) N ((0:Int),d,l,j,([]:List Z1))) N ((0:Int),r,q,([]:List Z0)))
theorem jK3 :mK 40 (bX [.agg [.pv Y3,.pv Y5]] [.agg [.own 1 Y4 77 true,.own 2 Y6 89 true]] (c2A (s_l18CopySeg_m N))):=
 mO (fC (jtC N) (fC (jLV N) ja)) func40 rfl N (.seq .no (.seq .no (.seq (.seq .no (.block (.loop jLx .no))) (.seq (.seq .no (.block (.loop jKX .no))) .no)))) _
def jMK :Sh:=⟨.dead:: .box 1 0:: .box 2 0:: .box 3 0::pI::dz 33 [],[(1,false,[.pv (.sl .str),.pv Y14,.pv Y0]),(2,false,[.nils,.nils,.nils]),(3,false,[.own 700300 .str 9 true,.own 700301 Y16 126 true,.own 700302 Y1 55 true])]⟩
def s_l18Copy_m (i:List Z2) (e:List Z4) (q:List Z3):Option ((List Z2)×(List Z4)×(List Z3)):=
 (oB (s_l18CopyConf_m N i e) fun h=>iter (fun m (a,p,n,b,l,k,d)=>bif decide (a<(b.length:Int))then oB (idx b a) fun f=>(oB (s_l18CopySeg_m N f.1.1 f.1.2) fun j=>oB (idx b a) fun c=>if room ([]:List Int).length c.2.length 8 then if room d.length ([(j,(([]:List Int)++c.2))]:List Z3).length 72 then if fits (a+1)then m ((a+1),p,n,b,l,k,(d++([(j,(([]:List Int)++c.2))]:List Z3)))else none else none else none)else some (l,k,d)) N ((0:Int),i,e,q,h.1,h.2,([]:List Z3)))
theorem jL0 :mK 15 (bX [.agg [.pv (.sl .str),.pv Y14,.pv Y0]] [.agg [.own 1 .str 9 true,.own 2 Y16 126 true,.own 3 Y1 55 true]] (c3A (s_l18Copy_m N))):=
 mO (fC (jMp N) (fC (jK3 N) ja)) func15 rfl N (.seq .no (.seq .no (.seq (.seq .no (.block (.loop jMK .no))) .no))) _
def s_IndexMerge_m (f:List Z2) (d:List Z4) (b:List Z3) (a:Int):Option ((List Z2)×(List Z4)×(List Z3)×Bool):=
 (oB (s_l18Ok_m N f d b) fun l=>bif !l then some (([]:List Z2),([]:List Z4),([]:List Z3),false)else if fits ((b.length:Int)-2)then oB (jJ N a 0 ((b.length:Int)-2)) fun m=>(bif !m then oB (s_l18Copy_m N f d b) fun h=>(some (h.1,h.2.1,h.2.2,false))else if fits (a+2)then oB (cut b a (a+2)) fun k=>(oB (s_l18Docs_m N ([]:List Z2) ([]:List Z4) k) fun n=>oB (s_l18Copy_m N f d b) fun c=>oB (cut c.2.2 0 a) fun e=>if room ([]:List Z3).length e.length 72 then oB (s_l7Of_m N f d n) fun i=>(if room (([]:List Z3)++e).length ([(i,([]:List Int))]:List Z3).length 72 then if fits (a+2)then oB (cut c.2.2 (a+2) (c.2.2.length:Int)) fun j=>(if room ((([]:List Z3)++e)++([(i,([]:List Int))]:List Z3)).length j.length 72 then some (c.1,c.2.1,(((([]:List Z3)++e)++([(i,([]:List Int))]:List Z3))++j),true)else none)else none else none)else none)else none)else none)
theorem jNO :mK 5 (bX [.agg [.pv (.sl .str),.pv Y14,.pv Y0],pI] [.tup [.agg [.own 1 .str 9 true,.own 2 Y16 126 true,.own 3 Y1 55 false],pB]] (c4A (s_IndexMerge_m N))):=
 mO (fC (jIW N) (fC (jcL N) (fC (jL0 N) (fC (jH3 N) (fC (jmU N) ja))))) func5 rfl N .no _
def jaw (N:Nat) (a:Int):Z8:=
 (bif decide ((97:Int)<=a)then bif decide (a<=122)then some true else(bif decide ((48:Int)<=a)then some (decide (a<=57))else some false)else bif decide ((48:Int)<=a)then some (decide (a<=57))else some false)
theorem jeK :mK 136 (bX [.pv (.int .u8)] [pB] (c1A (jaw N))):=
 mO ja func136 rfl N .no _
def jm (N:Nat) (a:Int) (b:Int) (c:Int):Z8:=
 (bif decide (b<=a)then some (decide (a<=c))else some false)
theorem jY :mK 22 (bX [pI,pI,pI] [pB] (c3A (jm N))):=
 mO ja func22 rfl N .no _
def jqW :Sh:=⟨pS::dz 4 (pI::pI::dz 11 []),[]⟩
def jO (c:List UInt8):Z8:=
 (iter (fun e (b,d,a)=>bif decide (a<d)then oB (idx b a) fun f=>(oB (jaw N (f.toNat:Int)) fun h=>bif !h then some false else if fits (a+1)then e (b,d,(a+1))else none)else oB (jm N (b.length:Int) 1 12) fun i=>some i) N (c,(c.length:Int),(0:Int)))
theorem jcM :mK 97 (bX [pS] [pB] (c1A (jO N))):=
 mO (fC (jeK N) (fC (jY N) ja)) func97 rfl N (.seq .no (.seq (.seq .no (.block (.loop jqW .no))) .no)) _
def jmc :Sh:=⟨.pv (.sl .str)::dz 4 (.pv (.sl .str)::pI::pI::dz 21 []),[]⟩
def jb2 (b:List Z2):Z8:=
 (iter (fun f (d,c,e,a)=>bif decide (a<e)then oB (idx c a) fun h=>(oB (jO N h) fun j=>bif !j then some false else bif decide ((0:Int)<a)then if fits (a-1)then oB (idx d (a-1)) fun i=>(bif !Op.bytesLess i h then some false else if fits (a+1)then f (d,c,e,(a+1))else none)else none else if fits (a+1)then f (d,c,e,(a+1))else none)else some true) N (b,b,(b.length:Int),(0:Int)))
theorem jtw :mK 96 (bX [.pv (.sl .str)] [pB] (c1A (jb2 N))):=
 mO (fC (jcM N) ja) func96 rfl N (.seq .no (.seq (.seq .no (.block (.loop jmc .no))) .no)) _
def jdF (N:Nat) (a:List UInt8) (b:List UInt8):Z8:=
 (bif decide ((b.length:Int)<=(a.length:Int))then if fits ((a.length:Int)-(b.length:Int))then oB (cut a ((a.length:Int)-(b.length:Int)) (a.length:Int)) fun c=>(some (decide (c=b)))else none else some false)
theorem jpU :mK 170 (bX [pS,pS] [pB] (c2A (jdF N))):=
 mO ja func170 rfl N .no _
def jcN (b:List UInt8) (a:List UInt8):Z8:=
 (oB (jdF N b a) fun c=>some c)
theorem jsu :mK 137 (bX [pS,pS] [pB] (c2A (jcN N))):=
 mO (fC (jpU N) ja) func137 rfl N .no _
def jod :Sh:=⟨pS:: .dead:: .dead::pB::dz 32 [],[]⟩
def jnf :Sh:=⟨pS:: .dead:: .dead::pB::dz 6 (.own 600010 .str 9 true::pI::pI::dz 23 []),[]⟩
def jaB (i:List UInt8):Option (Z2):=
 (oB (jO N i) fun o=>bif !o then some ([]:List UInt8)else iter (fun j (k,m)=>bif m then iter (fun l (a,e,h,d,b)=>bif decide (b<d)then oB (idx h b) fun c=>(oB (jcN N a c) fun p=>bif p then if fits ((a.length:Int)-(c.length:Int))then bif decide ((3:Int)<=((a.length:Int)-(c.length:Int)))then if fits ((a.length:Int)-(c.length:Int))then oB (cut a 0 ((a.length:Int)-(c.length:Int))) fun n=>(j (n,true))else none else(if fits (b+1)then l (a,e,h,d,(b+1))else none)else none else if fits (b+1)then l (a,e,h,d,(b+1))else none)else j (a,e)) N (k,false,([([105,110,103]:List UInt8),([101,100]:List UInt8),([101,115]:List UInt8),([108,121]:List UInt8),([115]:List UInt8)]:List Z2),(([([105,110,103]:List UInt8),([101,100]:List UInt8),([101,115]:List UInt8),([108,121]:List UInt8),([115]:List UInt8)]:List Z2).length:Int),(0:Int))else some k) N (i,true))
theorem jio :mK 98 (bX [pS] [pS] (c1A (jaB N))):=
 mO (fC (jcM N) (fC (jsu N) ja)) func98 rfl N (.seq .no (.seq .no (.seq (.seq .no (.block (.loop jod (.seq .no (.block (.seq .no (.seq .no (.block (.loop jnf .no))))))))) .no))) _
def jkJ :Sh:=⟨.pv (.sl .str)::pS::dz 5 (pI::pI::dz 10 []),[]⟩
def jdH (c:List Z2) (i:List UInt8):Z11:=
 (iter (fun f (d,b,e,a)=>bif decide (a<e)then oB (idx d a) fun h=>(bif decide (b=h)then some a else if fits (a+1)then f (d,b,e,(a+1))else none)else some (-1)) N (c,i,(c.length:Int),(0:Int)))
theorem jkZ :mK 138 (bX [.pv (.sl .str),pS] [pI] (c2A (jdH N))):=
 mO ja func138 rfl N (.seq .no (.seq (.seq .no (.block (.loop jkJ .no))) .no)) _
def jao (a:List Z2) (b:List UInt8):Z8:=
 (oB (jdH N a b) fun c=>some (decide ((0:Int)<=c)))
theorem jh5 :mK 99 (bX [.pv (.sl .str),pS] [pB] (c2A (jao N))):=
 mO (fC (jkZ N) ja) func99 rfl N .no _
def jmj :Sh:=⟨.dead:: .box 1 0::dz 22 (.pv Y14::pI::pI::dz 46 []),[(1,false,[.pv (.sl .str),.pv Y14])]⟩
def jrC :Sh:=⟨.dead:: .box 1 0::dz 22 (.pv Y14::pI::pI::dz 12 (pB::dz 7 (pB:: .dead:: .dead:: .pv (.sl .str)::pI::pI::dz 20 []))),[(1,false,[.pv (.sl .str),.pv Y14])]⟩
def jaj (e:List Z2) (d:List Z4):Z8:=
 (bif decide ((6:Int)<e.length)then some false else oB (jb2 N e) fun A=>bif !A then some false else bif decide ((4:Int)<d.length)then some false else iter (fun u (l,o,f,B,y)=>bif decide (f<o)then oB (idx l f) fun a=>(oB (jm N (a.1.length:Int) 1 3) fun x=>bif !x then some false else oB (jO N a.2) fun m=>bif !m then some false else oB (jaB N a.2) fun t=>bif !decide (t=a.2)then some false else iter (fun E (q,r,i,w,z,k,n,c,j,p)=>bif decide (c<n)then oB (idx k c) fun b=>(oB (jO N b) fun D=>bif !D then some false else oB (jaB N b) fun v=>bif !decide (v=b)then some false else oB (jao N j b) fun C=>bif C then some false else if fits (c+1)then E (q,r,i,w,z,k,n,(c+1),j,p)else none)else if fits (i+1)then u (q,r,(i+1),j,p)else none) N (l,o,f,(!m),(!decide (t=a.2)),a.1,(a.1.length:Int),(0:Int),B,y))else some true) N (d,(d.length:Int),(0:Int),e,d))
theorem jdX :mK 50 (bX [.agg [.pv (.sl .str),.pv Y14]] [pB] (c2A (jaj N))):=
 mO (fC (jtw N) (fC (jY N) (fC (jcM N) (fC (jio N) (fC (jh5 N) ja))))) func50 rfl N (.seq .no (.seq .no (.seq (.seq .no (.block (.loop jmj (.seq .no (.seq .no (.seq (.block (.seq .no (.seq .no (.seq .no (.block (.loop jrC .no)))))) .no)))))) .no))) _
def jtd :Sh:=⟨pS::dz 4 (pI::pI::dz 16 []),[]⟩
def jaF (c:List UInt8):Z8:=
 (iter (fun e (b,d,a)=>bif decide (a<d)then oB (idx b a) fun f=>(bif decide ((f.toNat:Int)<32)then some false else oB (idx b a) fun i=>bif decide ((126:Int)<(i.toNat:Int))then some false else if fits (a+1)then e (b,d,(a+1))else none)else some (decide ((b.length:Int)<=160))) N (c,(c.length:Int),(0:Int)))
theorem jdK :mK 105 (bX [pS] [pB] (c1A (jaF N))):=
 mO ja func105 rfl N (.seq .no (.seq (.seq .no (.block (.loop jtd .no))) .no)) _
def jlC :Sh:=⟨.dead:: .box 1 0::dz 22 (.pv Y17::pI::pI::dz 66 []),[(1,false,[pI,.pv Y17,.pv Y13])]⟩
def jpt :Sh:=⟨.dead:: .box 1 0::dz 57 (.pv Y13::pI::pI::dz 31 []),[(1,false,[pI,.pv Y17,.pv Y13])]⟩
def jbx (t:Int) (d:Z12) (q:Z6):Z8:=
 (oB (jm N t 1 9999) fun A=>bif !A then some false else bif decide ((3:Int)<d.length)then some false else bif decide ((3:Int)<q.length)then some false else iter (fun p (j,n,a,i,e,c)=>bif decide (a<n)then oB (idx j a) fun h=>(oB (jO N h.1) fun y=>bif !y then some false else oB (jaF N h.2) fun z=>bif !z then some false else bif decide ((0:Int)<a)then if fits (a-1)then oB (idx e (a-1)) fun w=>(bif !Op.bytesLess w.1 h.1 then some false else if fits (a+1)then p (j,n,(a+1),i,e,c)else none)else none else if fits (a+1)then p (j,n,(a+1),i,e,c)else none)else iter (fun v (m,o,b,u,r,f)=>bif decide (b<o)then oB (idx m b) fun l=>(oB (jO N l.1) fun C=>bif !C then some false else oB (jm N l.2 0 999999999) fun B=>bif !B then some false else bif decide ((0:Int)<b)then if fits (b-1)then oB (idx f (b-1)) fun x=>(bif !Op.bytesLess x.1 l.1 then some false else if fits (b+1)then v (m,o,(b+1),u,r,f)else none)else none else if fits (b+1)then v (m,o,(b+1),u,r,f)else none)else some true) N (c,(c.length:Int),(0:Int),i,e,c)) N (d,(d.length:Int),(0:Int),t,d,q))
theorem jh0 :mK 103 (bX [.agg [pI,.pv Y17,.pv Y13]] [pB] (c3A (jbx N))):=
 mO (fC (jY N) (fC (jcM N) (fC (jdK N) ja))) func103 rfl N (.seq .no (.seq .no (.seq (.seq .no (.block (.loop jlC .no))) (.seq (.seq .no (.block (.loop jpt .no))) .no)))) _
def jpj :Sh:=⟨.pv Y3::dz 4 (.pv Y3::pI::pI::dz 26 []),[]⟩
def jbf (d:List Z0):Z8:=
 (iter (fun h (c,e,f,a)=>bif decide (a<f)then oB (idx e a) fun b=>(oB (jbx N b.1 b.2.1 b.2.2) fun j=>bif !j then some false else bif decide ((0:Int)<a)then if fits (a-1)then oB (idx c (a-1)) fun i=>(bif decide (b.1<=i.1)then some false else if fits (a+1)then h (c,e,f,(a+1))else none)else none else if fits (a+1)then h (c,e,f,(a+1))else none)else some (decide ((c.length:Int)<=16))) N (d,d,(d.length:Int),(0:Int)))
theorem jjU :mK 52 (bX [.pv Y3] [pB] (c1A (jbf N))):=
 mO (fC (jh0 N) ja) func52 rfl N (.seq .no (.seq (.seq .no (.block (.loop jpj .no))) .no)) _
def jbO (N:Nat) (c:Int) (b:Z12) (a:Z6):Option Z0:=
 (if room ([]:Z12).length b.length 32 then if room ([]:Z6).length a.length 24 then some (c,(([]:Z12)++b),(([]:Z6)++a))else none else none)
theorem jrI :mK 104 (bX [.agg [pI,.pv Y17,.pv Y13]] [.agg [pI,.own 1 Y18 99 true,.own 2 Y15 169 true]] (c3A (jbO N))):=
 mO ja func104 rfl N .no _
def joW :Sh:=⟨dz 3 (.own 600003 Y4 77 true::dz 3 (.pv Y3::pI::pI::dz 10 [])),[]⟩
def jbV (d:List Z0):Z14:=
 (iter (fun i (c,f,h,a)=>bif decide (a<h)then oB (idx f a) fun b=>(oB (jbO N b.1 b.2.1 b.2.2) fun e=>if room c.length ([e]:List Z0).length 56 then if fits (a+1)then i ((c++([e]:List Z0)),f,h,(a+1))else none else none)else some c) N (([]:List Z0),d,(d.length:Int),(0:Int)))
theorem joC :mK 55 (bX [.pv Y3] [.own 1 Y4 77 true] (c1A (jbV N))):=
 mO (fC (jrI N) ja) func55 rfl N (.seq .no (.seq .no (.seq (.seq .no (.block (.loop joW .no))) .no))) _
def jI (N:Nat) (a:Int):Z11:=
 (bif decide ((65:Int)<=a)then bif decide (a<=90)then some (IntKind.u8.wrap ((IntKind.u8.wrap (a+97))-65))else(some a)else some a)
theorem jmu :mK 141 (bX [.pv (.int .u8)] [.pv (.int .u8)] (c1A (jI N))):=
 mO ja func141 rfl N .no _
def jpB :Sh:=⟨pS:: .dead:: .dead:: .own 600003 Y7 146 true::pI::dz 57 [],[]⟩
def jo6 :Sh:=⟨pS:: .dead:: .dead:: .own 600003 Y7 146 true::pI:: .box 5 0:: .own 600006 (.int .u8) 5 true::dz 55 [],[(5,false,[pS,pI,pI,pI])]⟩
def jct (o:List UInt8):Option ((List Z9)):=
 (oB (jaF N o) fun v=>bif !v then some ([]:List Z9)else iter (fun k (i,j,f)=>bif decide (f<(i.length:Int))then oB (idx i f) fun r=>(oB (jI N (r.toNat:Int)) fun t=>oB (jaw N t) fun u=>bif !u then if fits (f+1)then k (i,j,(f+1))else none else iter (fun q (c,e,a,b,p,d,h,m)=>bif decide (a<(c.length:Int))then oB (idx c a) fun w=>(oB (jI N (w.toNat:Int)) fun z=>oB (jaw N z) fun y=>bif y then bif decide ((b.length:Int)<12)then oB (idx c a) fun x=>(oB (jI N (x.toNat:Int)) fun n=>if room b.length ([n]:List Int).length 1 then if fits (a+1)then q (c,e,(a+1),(b++([n]:List Int)),p,d,h,m)else none else none)else(if fits (a+1)then q (c,e,(a+1),b,p,d,h,m)else none)else if room e.length ([((bytesOf b),d,h,a)]:List Z9).length 40 then k (c,(e++([((bytesOf b),d,h,a)]:List Z9)),a)else none)else if room e.length ([((bytesOf b),d,h,a)]:List Z9).length 40 then k (c,(e++([((bytesOf b),d,h,a)]:List Z9)),a)else none) N (i,j,f,([]:List Int),([]:List UInt8),(j.length:Int),f,(0:Int)))else some j) N (o,([]:List Z9),(0:Int)))
theorem jqc :mK 106 (bX [pS] [.own 1 Y7 146 true] (c1A (jct N))):=
 mO (fC (jdK N) (fC (jmu N) (fC (jeK N) ja))) func106 rfl N (.seq .no (.seq .no (.seq .no (.seq (.seq .no (.block (.loop jpB (.seq .no (.block (.seq .no (.seq .no (.seq .no (.seq (.block (.loop jo6 .no)) .no))))))))) .no)))) _
def jty :Sh:=⟨.dead:: .pv Y13::pI:: .box 3 0::dz 3 (.pv (.opt Y16)::dz 8 (pI::pI::dz 73 [])),[(3,false,[.pv (.sl .str),.pv Y14])]⟩
def jss :Sh:=⟨.dead:: .pv Y13::pI:: .box 3 0::dz 3 (.pv (.opt Y16):: .dead:: .ptr Y16::pB::dz 5 (pI::pI::dz 31 (pB::dz 4 (.pv (.sl .str)::pI::pI::dz 34 [])))),[(3,false,[.pv (.sl .str),.pv Y14])]⟩
def jbH (c:List Z2) (c2:List Z4) (terms:Z6) (at0:Int):Option ((Option Z4)):=
 (iter (fun go (terms2,at02,best,t16,t17,c3,c4)=>bif decide (t17<t16)then oB (idx c4 t17) fun e=>(if fits ((terms2.length:Int)-at02)then bif decide (((terms2.length:Int)-at02)<(e.1.length:Int))then if fits (t17+1)then go (terms2,at02,best,t16,(t17+1),c3,c4)else none else(bif !(Option.isNone best)then oB best fun p=>(bif decide ((e.1.length:Int)<=(p.1.length:Int))then if fits (t17+1)then go (terms2,at02,best,t16,(t17+1),c3,c4)else none else iter (fun go2 (terms3,at03,best2,r,fits0,t162,t172,t49,t54,t55,t56,c5,c6)=>bif decide (t56<t55)then oB (idx t54 t56) fun e2=>(if fits (at03+t56)then oB (idx terms3 (at03+t56)) fun e3=>(bif fits0 then bif decide (e3.1=e2)then oB (idx terms3 at03) fun e4=>(if fits (e4.2+t56)then if fits (t56+1)then go2 (terms3,at03,best2,r,(decide (e3.2=(e4.2+t56))),t162,t172,t49,t54,t55,(t56+1),c5,c6)else none else none)else(if fits (t56+1)then go2 (terms3,at03,best2,r,false,t162,t172,t49,t54,t55,(t56+1),c5,c6)else none)else if fits (t56+1)then go2 (terms3,at03,best2,r,false,t162,t172,t49,t54,t55,(t56+1),c5,c6)else none)else none)else bif fits0 then if fits (t172+1)then go (terms3,at03,(some r),t162,(t172+1),c5,c6)else none else if fits (t172+1)then go (terms3,at03,best2,t162,(t172+1),c5,c6)else none) N (terms2,at02,best,e,true,t16,t17,(decide ((e.1.length:Int)<=(p.1.length:Int))),e.1,(e.1.length:Int),(0:Int),c3,c4))else iter (fun go3 (terms4,at04,best3,r2,fits02,t163,t173,t492,t542,t552,t562,c7,c8)=>bif decide (t562<t552)then oB (idx t542 t562) fun e5=>(if fits (at04+t562)then oB (idx terms4 (at04+t562)) fun e6=>(bif fits02 then bif decide (e6.1=e5)then oB (idx terms4 at04) fun e7=>(if fits (e7.2+t562)then if fits (t562+1)then go3 (terms4,at04,best3,r2,(decide (e6.2=(e7.2+t562))),t163,t173,t492,t542,t552,(t562+1),c7,c8)else none else none)else(if fits (t562+1)then go3 (terms4,at04,best3,r2,false,t163,t173,t492,t542,t552,(t562+1),c7,c8)else none)else if fits (t562+1)then go3 (terms4,at04,best3,r2,false,t163,t173,t492,t542,t552,(t562+1),c7,c8)else none)else none)else bif fits02 then if fits (t173+1)then go (terms4,at04,(some r2),t163,(t173+1),c7,c8)else none else if fits (t173+1)then go (terms4,at04,best3,t163,(t173+1),c7,c8)else none) N (terms2,at02,best,e,true,t16,t17,false,e.1,(e.1.length:Int),(0:Int),c3,c4))else none)else some best) N (terms,at0,(none:Option Z4),(c2.length:Int),(0:Int),c,c2))
theorem jtv :mK 107 (bX [.agg [.pv (.sl .str),.pv Y14],.pv Y13,pI] [.pv (.opt Y16)] (c4A (jbH N))):=
 mO ja func107 rfl N (.seq .no (.seq .no (.seq (.seq .no (.block (.loop jty (.seq .no (.seq .no (.seq (.block (.seq .no (.seq .no (.seq .no (.seq .no (.seq (.seq .no (.block (.loop jss .no))) .no)))))) .no)))))) .no))) _
def jlW :Sh:=⟨.dead:: .dead:: .box 2 0:: .dead:: .dead:: .own 600005 Y15 103 true:: .own 600006 Y15 103 true::dz 17 (.own 600024 Y7 146 true::pI::pI::dz 67 []),[(2,false,[.pv (.sl .str),.pv Y14])]⟩
def jnt :Sh:=⟨.dead:: .dead:: .box 2 0:: .dead:: .dead:: .own 600005 Y15 103 true:: .own 600006 Y15 103 true::dz 3 (pI::dz 83 []),[(2,false,[.pv (.sl .str),.pv Y14])]⟩
def jbw (u:List Z2) (A:List Z4) (y:List UInt8):Option (Z7):=
 (oB (jaj N u A) fun E=>bif !E then some ([]:Z6)else oB (jaF N y) fun D=>bif !D then some ([]:Z6)else oB (jct N y) fun x=>iter (fun m (i,e,k,l,a,c,j)=>bif decide (a<l)then oB (idx k a) fun h=>(oB (jaB N h.1) fun r=>oB (jao N c h.1) fun G=>bif !G then oB (jao N c r) fun C=>(bif !C then if room e.length ([(r,h.2.1)]:Z6).length 24 then if fits (a+1)then m (i,(e++([(r,h.2.1)]:Z6)),k,l,(a+1),c,j)else none else none else if fits (a+1)then m (i,e,k,l,(a+1),c,j)else none)else if fits (a+1)then m (i,e,k,l,(a+1),c,j)else none)else iter (fun B (f,d,b,p,o)=>bif decide (b<(d.length:Int))then oB (jbH N p o d b) fun q=>(bif Option.isNone q then oB (idx d b) fun t=>(if room f.length ([t]:Z6).length 24 then if fits (b+1)then B ((f++([t]:Z6)),d,(b+1),p,o)else none else none)else oB q fun z=>oB (idx d b) fun v=>if room f.length ([(z.2,v.2)]:Z6).length 24 then oB q fun w=>(if fits (b+(w.1.length:Int))then B ((f++([(z.2,v.2)]:Z6)),d,(b+(w.1.length:Int)),p,o)else none)else none)else some f) N (i,e,(0:Int),c,j)) N (([]:Z6),([]:Z6),x,(x.length:Int),(0:Int),u,A))
theorem jgO :mK 56 (bX [.agg [.pv (.sl .str),.pv Y14],pS] [.own 1 Y15 103 true] (c3A (jbw N))):=
 mO (fC (jdX N) (fC (jdK N) (fC (jqc N) (fC (jio N) (fC (jh5 N) (fC (jtv N) ja)))))) func56 rfl N (.seq .no (.seq .no (.seq .no (.seq .no (.seq (.seq .no (.block (.loop jlW .no))) (.seq (.seq .no (.block (.loop jnt .no))) .no)))))) _
def k__loop_example_fossick_impl_Seg_put_1_m (N:Nat) (d:List UInt8) (a:List UInt8) (e:Z5) (b:List UInt8) (c:Z2×Int):Z8:=
 (bif decide (d=b)then some (decide (a=c.1))else some false)
theorem jmw :mK 109 (bX [.agg [pS,pS,.pv Y11],.ptr .str,.ptr Y15] [pB] (c5A (k__loop_example_fossick_impl_Seg_put_1_m N))):=
 mO ja func109 rfl N .no _
def jnc :Sh:=⟨.pv Y5:: .clo 109 [.ptr .str,.ptr Y15]::dz 5 (pI::pI::dz 10 []),[]⟩
def k_slices_IndexFunc_146_m (d:List Z1) (k:Z2×Z2×Int):Z11:=
 (iter (fun h (e,c,f,a)=>bif decide (a<f)then oB (idx e a) fun b=>(oB (k__loop_example_fossick_impl_Seg_put_1_m N b.1 b.2.1 b.2.2 c.1 c.2) fun i=>bif i then some a else if fits (a+1)then h (e,c,f,(a+1))else none)else some (-1)) N (d,k,(d.length:Int),(0:Int)))
theorem jrl :mK 108 (bX [.pv Y5,.clo 109 [.ptr .str,.ptr Y15]] [pI] (c2A (k_slices_IndexFunc_146_m N))):=
 mO (fC (jmw N) ja) func108 rfl N (.seq .no (.seq (.seq .no (.block (.loop jnc .no))) .no)) _
def i_Seg_put_m (f:List UInt8) (h:List UInt8) (i:Int) (e:Int) (q:List Z0) (a:List Z1):Z16:=
 (oB (k_slices_IndexFunc_146_m N a (f,h,i)) fun d=>bif decide (d<0)then if room a.length ([(f,h,([]:Z5))]:List Z1).length 56 then if 0<=(a.length:Int)/\(a.length:Int)<((a++([(f,h,([]:Z5))]:List Z1)).length:Int)then oB ((a++([(f,h,([]:Z5))]:List Z1))[(a.length:Int).toNat]?) fun c=>(if fits ((c.2.2.length:Int)-1)then bif decide (((c.2.2.length:Int)-1)<0)then oB ((a++([(f,h,([]:Z5))]:List Z1))[(a.length:Int).toNat]?) fun af=>(if(a.length:Int).toNat=(a.length:Int).toNat then if room c.2.2.length ([(e,([]:List Int))]:Z5).length 32 then if(a.length:Int).toNat=(a.length:Int).toNat then oB ((a++([(f,h,([]:Z5))]:List Z1))[(a.length:Int).toNat]?) fun m=>(if fits (((c.2.2.length:Int)-1)+1)then oB (((a++([(f,h,([]:Z5))]:List Z1)).set (a.length:Int).toNat (m.1,m.2.1,(c.2.2++([(e,([]:List Int))]:Z5))))[(a.length:Int).toNat]?) fun p=>(oB (p.2.2[(((c.2.2.length:Int)-1)+1).toNat]?) fun v=>oB (((a++([(f,h,([]:Z5))]:List Z1)).set (a.length:Int).toNat (m.1,m.2.1,(c.2.2++([(e,([]:List Int))]:Z5))))[(a.length:Int).toNat]?) fun V=>if(a.length:Int).toNat=(a.length:Int).toNat then oB (((a++([(f,h,([]:Z5))]:List Z1)).set (a.length:Int).toNat (m.1,m.2.1,(c.2.2++([(e,([]:List Int))]:Z5))))[(a.length:Int).toNat]?) fun aj=>(if(a.length:Int).toNat=(a.length:Int).toNat then if 0<=(((c.2.2.length:Int)-1)+1)/\(((c.2.2.length:Int)-1)+1)<(p.2.2.length:Int)then oB (p.2.2[(((c.2.2.length:Int)-1)+1).toNat]?) fun ag=>(if(((c.2.2.length:Int)-1)+1).toNat=(((c.2.2.length:Int)-1)+1).toNat then if room v.2.length ([i]:List Int).length 8 then if 0<=(((c.2.2.length:Int)-1)+1)/\(((c.2.2.length:Int)-1)+1)<(p.2.2.length:Int)then if(((c.2.2.length:Int)-1)+1).toNat=(((c.2.2.length:Int)-1)+1).toNat then oB (p.2.2[(((c.2.2.length:Int)-1)+1).toNat]?) fun Q=>(some (q,(((a++([(f,h,([]:Z5))]:List Z1)).set (a.length:Int).toNat (m.1,m.2.1,(c.2.2++([(e,([]:List Int))]:Z5)))).modify ((a.length:Int).toNat) fun A=>(A.1,A.2.1,(p.2.2.set (((c.2.2.length:Int)-1)+1).toNat (Q.1,(v.2++([i]:List Int))))))))else none else none else none else none)else none else none)else none)else none)else none else none else none)else(oB ((a++([(f,h,([]:Z5))]:List Z1))[(a.length:Int).toNat]?) fun am=>if(a.length:Int).toNat=(a.length:Int).toNat then if 0<=((c.2.2.length:Int)-1)/\((c.2.2.length:Int)-1)<(c.2.2.length:Int)then oB (c.2.2[((c.2.2.length:Int)-1).toNat]?) fun I=>(bif !decide (I.1=e)then oB ((a++([(f,h,([]:Z5))]:List Z1))[(a.length:Int).toNat]?) fun ah=>(if(a.length:Int).toNat=(a.length:Int).toNat then if room c.2.2.length ([(e,([]:List Int))]:Z5).length 32 then if(a.length:Int).toNat=(a.length:Int).toNat then oB ((a++([(f,h,([]:Z5))]:List Z1))[(a.length:Int).toNat]?) fun l=>(if fits (((c.2.2.length:Int)-1)+1)then oB (((a++([(f,h,([]:Z5))]:List Z1)).set (a.length:Int).toNat (l.1,l.2.1,(c.2.2++([(e,([]:List Int))]:Z5))))[(a.length:Int).toNat]?) fun n=>(oB (n.2.2[(((c.2.2.length:Int)-1)+1).toNat]?) fun t=>oB (((a++([(f,h,([]:Z5))]:List Z1)).set (a.length:Int).toNat (l.1,l.2.1,(c.2.2++([(e,([]:List Int))]:Z5))))[(a.length:Int).toNat]?) fun aa=>if(a.length:Int).toNat=(a.length:Int).toNat then oB (((a++([(f,h,([]:Z5))]:List Z1)).set (a.length:Int).toNat (l.1,l.2.1,(c.2.2++([(e,([]:List Int))]:Z5))))[(a.length:Int).toNat]?) fun W=>(if(a.length:Int).toNat=(a.length:Int).toNat then if 0<=(((c.2.2.length:Int)-1)+1)/\(((c.2.2.length:Int)-1)+1)<(n.2.2.length:Int)then oB (n.2.2[(((c.2.2.length:Int)-1)+1).toNat]?) fun ai=>(if(((c.2.2.length:Int)-1)+1).toNat=(((c.2.2.length:Int)-1)+1).toNat then if room t.2.length ([i]:List Int).length 8 then if 0<=(((c.2.2.length:Int)-1)+1)/\(((c.2.2.length:Int)-1)+1)<(n.2.2.length:Int)then if(((c.2.2.length:Int)-1)+1).toNat=(((c.2.2.length:Int)-1)+1).toNat then oB (n.2.2[(((c.2.2.length:Int)-1)+1).toNat]?) fun G=>(some (q,(((a++([(f,h,([]:Z5))]:List Z1)).set (a.length:Int).toNat (l.1,l.2.1,(c.2.2++([(e,([]:List Int))]:Z5)))).modify ((a.length:Int).toNat) fun x=>(x.1,x.2.1,(n.2.2.set (((c.2.2.length:Int)-1)+1).toNat (G.1,(t.2++([i]:List Int))))))))else none else none else none else none)else none else none)else none)else none)else none else none else none)else if(a.length:Int).toNat=(a.length:Int).toNat then oB (c.2.2[((c.2.2.length:Int)-1).toNat]?) fun z=>(oB ((a++([(f,h,([]:Z5))]:List Z1))[(a.length:Int).toNat]?) fun al=>if(a.length:Int).toNat=(a.length:Int).toNat then oB ((a++([(f,h,([]:Z5))]:List Z1))[(a.length:Int).toNat]?) fun ac=>(if(a.length:Int).toNat=(a.length:Int).toNat then if 0<=((c.2.2.length:Int)-1)/\((c.2.2.length:Int)-1)<(c.2.2.length:Int)then oB (c.2.2[((c.2.2.length:Int)-1).toNat]?) fun ae=>(if((c.2.2.length:Int)-1).toNat=((c.2.2.length:Int)-1).toNat then if room z.2.length ([i]:List Int).length 8 then if 0<=((c.2.2.length:Int)-1)/\((c.2.2.length:Int)-1)<(c.2.2.length:Int)then if((c.2.2.length:Int)-1).toNat=((c.2.2.length:Int)-1).toNat then oB (c.2.2[((c.2.2.length:Int)-1).toNat]?) fun L=>(some (q,((a++([(f,h,([]:Z5))]:List Z1)).modify ((a.length:Int).toNat) fun D=>(D.1,D.2.1,(c.2.2.set ((c.2.2.length:Int)-1).toNat (L.1,(z.2++([i]:List Int))))))))else none else none else none else none)else none else none)else none)else none)else none else none)else none)else none else none else if 0<=d/\d<(a.length:Int)then oB (a[d.toNat]?) fun b=>(if fits ((b.2.2.length:Int)-1)then bif decide (((b.2.2.length:Int)-1)<0)then oB (a[d.toNat]?) fun ap=>(if d.toNat=d.toNat then if room b.2.2.length ([(e,([]:List Int))]:Z5).length 32 then if d.toNat=d.toNat then oB (a[d.toNat]?) fun j=>(if fits (((b.2.2.length:Int)-1)+1)then oB ((a.set d.toNat (j.1,j.2.1,(b.2.2++([(e,([]:List Int))]:Z5))))[d.toNat]?) fun o=>(oB (o.2.2[(((b.2.2.length:Int)-1)+1).toNat]?) fun w=>oB ((a.set d.toNat (j.1,j.2.1,(b.2.2++([(e,([]:List Int))]:Z5))))[d.toNat]?) fun ak=>if d.toNat=d.toNat then oB ((a.set d.toNat (j.1,j.2.1,(b.2.2++([(e,([]:List Int))]:Z5))))[d.toNat]?) fun ad=>(if d.toNat=d.toNat then if 0<=(((b.2.2.length:Int)-1)+1)/\(((b.2.2.length:Int)-1)+1)<(o.2.2.length:Int)then oB (o.2.2[(((b.2.2.length:Int)-1)+1).toNat]?) fun ao=>(if(((b.2.2.length:Int)-1)+1).toNat=(((b.2.2.length:Int)-1)+1).toNat then if room w.2.length ([i]:List Int).length 8 then if 0<=(((b.2.2.length:Int)-1)+1)/\(((b.2.2.length:Int)-1)+1)<(o.2.2.length:Int)then if(((b.2.2.length:Int)-1)+1).toNat=(((b.2.2.length:Int)-1)+1).toNat then oB (o.2.2[(((b.2.2.length:Int)-1)+1).toNat]?) fun K=>(some (q,((a.set d.toNat (j.1,j.2.1,(b.2.2++([(e,([]:List Int))]:Z5)))).modify d.toNat fun B=>(B.1,B.2.1,(o.2.2.set (((b.2.2.length:Int)-1)+1).toNat (K.1,(w.2++([i]:List Int))))))))else none else none else none else none)else none else none)else none)else none)else none else none else none)else(oB (a[d.toNat]?) fun an=>if d.toNat=d.toNat then if 0<=((b.2.2.length:Int)-1)/\((b.2.2.length:Int)-1)<(b.2.2.length:Int)then oB (b.2.2[((b.2.2.length:Int)-1).toNat]?) fun O=>(bif !decide (O.1=e)then oB (a[d.toNat]?) fun R=>(if d.toNat=d.toNat then if room b.2.2.length ([(e,([]:List Int))]:Z5).length 32 then if d.toNat=d.toNat then oB (a[d.toNat]?) fun k=>(if fits (((b.2.2.length:Int)-1)+1)then oB ((a.set d.toNat (k.1,k.2.1,(b.2.2++([(e,([]:List Int))]:Z5))))[d.toNat]?) fun r=>(oB (r.2.2[(((b.2.2.length:Int)-1)+1).toNat]?) fun C=>oB ((a.set d.toNat (k.1,k.2.1,(b.2.2++([(e,([]:List Int))]:Z5))))[d.toNat]?) fun S=>if d.toNat=d.toNat then oB ((a.set d.toNat (k.1,k.2.1,(b.2.2++([(e,([]:List Int))]:Z5))))[d.toNat]?) fun T=>(if d.toNat=d.toNat then if 0<=(((b.2.2.length:Int)-1)+1)/\(((b.2.2.length:Int)-1)+1)<(r.2.2.length:Int)then oB (r.2.2[(((b.2.2.length:Int)-1)+1).toNat]?) fun U=>(if(((b.2.2.length:Int)-1)+1).toNat=(((b.2.2.length:Int)-1)+1).toNat then if room C.2.length ([i]:List Int).length 8 then if 0<=(((b.2.2.length:Int)-1)+1)/\(((b.2.2.length:Int)-1)+1)<(r.2.2.length:Int)then if(((b.2.2.length:Int)-1)+1).toNat=(((b.2.2.length:Int)-1)+1).toNat then oB (r.2.2[(((b.2.2.length:Int)-1)+1).toNat]?) fun H=>(some (q,((a.set d.toNat (k.1,k.2.1,(b.2.2++([(e,([]:List Int))]:Z5)))).modify d.toNat fun u=>(u.1,u.2.1,(r.2.2.set (((b.2.2.length:Int)-1)+1).toNat (H.1,(C.2++([i]:List Int))))))))else none else none else none else none)else none else none)else none)else none)else none else none else none)else if d.toNat=d.toNat then oB (b.2.2[((b.2.2.length:Int)-1).toNat]?) fun y=>(oB (a[d.toNat]?) fun ab=>if d.toNat=d.toNat then oB (a[d.toNat]?) fun aq=>(if d.toNat=d.toNat then if 0<=((b.2.2.length:Int)-1)/\((b.2.2.length:Int)-1)<(b.2.2.length:Int)then oB (b.2.2[((b.2.2.length:Int)-1).toNat]?) fun X=>(if((b.2.2.length:Int)-1).toNat=((b.2.2.length:Int)-1).toNat then if room y.2.length ([i]:List Int).length 8 then if 0<=((b.2.2.length:Int)-1)/\((b.2.2.length:Int)-1)<(b.2.2.length:Int)then if((b.2.2.length:Int)-1).toNat=((b.2.2.length:Int)-1).toNat then oB (b.2.2[((b.2.2.length:Int)-1).toNat]?) fun P=>(some (q,(a.modify d.toNat fun E=>(E.1,E.2.1,(b.2.2.set ((b.2.2.length:Int)-1).toNat (P.1,(y.2++([i]:List Int))))))))else none else none else none else none)else none else none)else none)else none)else none else none)else none)else none)
theorem jky :mK 57 ⟨⟨[.box 900000 0,pS,.agg [pS,pI],pI],[(900000,false,[.tre 850000 Y4 77,.tre 850001 Y6 89])]⟩,⟨[.tup []],[(900000,false,[.tre 850000 Y4 77,.tre 1 Y6 89])]⟩,c6A (i_Seg_put_m N)⟩:=
 mO (fC (jrl N) ja) func57 rfl N (.seq .no (.seq .no (.seq .no (.seq .no (.seq .no (.seq .no (.touch [.out 9 [(2,79,136,10),(1,88,3,0)]]))))))) _ (wr:=[33,34,70,71,91,92]) (rs:=[900000,850000,850001]) (dw:=[16,33,70])
noncomputable def jaS (N:Nat) (a:List Z1) (b:Unit):Option (List Z1):=jWO a
 
noncomputable def jjA (N:Nat):Model:=⟨⟨[.tre 800000 Y6 89,.clo 59 []],[]⟩,⟨[.tup [],.tre 800000 Y6 89],[]⟩,c2A (jaS N)⟩
theorem jtu :mK 58 (jjA N):=jW9
def jmK :Sh:=⟨.dead:: .dead:: .box 2 0:: .dead:: .box 4 0:: .box 5 0::dz 19 (.pv Y3::pI::pI::dz 32 []),[(2,false,[.pv (.sl .str),.pv Y14]),(4,false,[.nils,.nils]),(5,false,[.tre 700500 Y4 77,.tre 700501 Y6 89])]⟩
def jor :Sh:=⟨.dead:: .dead:: .box 2 0:: .dead:: .box 4 0:: .box 5 0:: .dead:: .box 7 0::dz 17 (.pv Y3::pI::pI::dz 4 (.pv Y17::pI::pI::dz 25 [])),[(2,false,[.pv (.sl .str),.pv Y14]),(4,false,[.nils,.nils]),(5,false,[.tre 700500 Y4 77,.tre 700501 Y6 89]),(7,false,[pI,.pv Y17,.pv Y13])]⟩
def jnj :Sh:=⟨.dead:: .dead:: .box 2 0:: .dead:: .box 4 0:: .box 5 0:: .dead:: .box 7 0:: .dead:: .box 9 0::dz 15 (.pv Y3::pI::pI::dz 4 (.pv Y17::pI::pI::dz 6 (.own 600041 Y15 103 true::pI::pI::dz 16 []))),[(2,false,[.pv (.sl .str),.pv Y14]),(4,false,[.nils,.nils]),(5,false,[.tre 700500 Y4 77,.tre 700501 Y6 89]),(7,false,[pI,.pv Y17,.pv Y13]),(9,false,[pS,pS])]⟩
noncomputable def jbT (c:List Z2) (c2:List Z4) (docs:List Z0):Z16:=
 (oB (jaj N c c2) fun r=>bif !r then some (([]:List Z0),([]:List Z1))else oB (jbf N docs) fun r2=>bif !r2 then some (([]:List Z0),([]:List Z1))else oB (jbV N docs) fun r3=>iter (fun go (t25,t26,t27,c3,c4,s,s2)=>bif decide (t27<t26)then oB (idx t25 t27) fun e=>(iter (fun go2 (t252,t262,t272,t32,t33,t34,c5,c6,s3,s4,d,d2,d3)=>bif decide (t34<t33)then oB (idx t32 t34) fun e2=>(oB (jbw N c5 c6 e2.2) fun r4=>iter (fun go3 (t253,t263,t273,t322,t332,t342,t41,t42,t43,c7,c8,s5,s6,d4,d5,d6,f,f2)=>bif decide (t43<t42)then oB (idx t41 t43) fun e3=>(oB (i_Seg_put_m N f e3.1 e3.2 d4 s5 s6) fun r5=>if fits (t43+1)then go3 (t253,t263,t273,t322,t332,t342,t41,t42,(t43+1),c7,c8,r5.1,r5.2,d4,d5,d6,f,f2)else none)else if fits (t342+1)then go2 (t253,t263,t273,t322,t332,(t342+1),c7,c8,s5,s6,d4,d5,d6)else none) N (t252,t262,t272,t32,t33,t34,r4,(r4.length:Int),(0:Int),c5,c6,s3,s4,d,d2,d3,e2.1,e2.2))else if fits (t272+1)then go (t252,t262,(t272+1),c5,c6,s3,s4)else none) N (t25,t26,t27,e.2.1,(e.2.1.length:Int),(0:Int),c3,c4,s,s2,e.1,e.2.1,e.2.2))else oB (jaS N s2 ()) fun r6=>some (s,r6)) N (docs,(docs.length:Int),(0:Int),c,c2,r3,([]:List Z1)))
theorem jqC :mK 23 (bX [.agg [.pv (.sl .str),.pv Y14],.pv Y3] [.agg [.own 1 Y4 77 true,.own 2 Y6 89 true]] (c3A (jbT N))):=
 mO (fC (jdX N) (fC (jjU N) (fC (joC N) (fC (jgO N) (fC (jky N) (fC (jtu N) ja)))))) func23 rfl N (.seq .no (.seq .no (.seq .no (.seq (.seq .no (.block (.loop jmK (.seq .no (.seq .no (.seq (.block (.seq .no (.seq .no (.block (.loop jor (.seq .no (.seq .no (.seq (.block (.seq .no (.seq .no (.block (.loop jnj .no))))) .no)))))))) .no)))))) .no)))) _ (wr:=[23]) (dw:=[22,23])
end Go.Proofs.YtcinmmojlcchfaaGreat
