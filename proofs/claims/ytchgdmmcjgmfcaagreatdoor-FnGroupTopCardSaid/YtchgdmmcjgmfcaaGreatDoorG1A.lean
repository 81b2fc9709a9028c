import Derived.Test.YtchgdmmcjgmfcaaGreatDoorSJ
import Derived.Test.YtchgdmmcjgmfcaaGreatDoorSZ
set_option linter.unusedVariables false
set_option linter.unusedSimpArgs false
namespace Go.Proofs.YtchgdmmcjgmfcaaGreatDoor
open Go.RowKit Go.Proofs.Tryz
variable (N : Nat)
open Option renaming bind -> oB
set_option maxRecDepth 1000000
abbrev Z0 :Type:=List UInt8
abbrev Z1 :Type:=Int×(List (Z0×Z0))×(List (Z0×Int))
abbrev Z2 :Type:=Z0×Z0×(List (Int×(List Int)))
abbrev Z3 :Type:=List (Int×(List Int))
abbrev Z4 :Type:=(List Z0)×Z0
abbrev Z5 :Type:=List (Int×Int)
abbrev Z6 :Type:=List (Int×Int)
abbrev Z7 :Type:=List (Z0×Int)
abbrev Z8 :Type:=List (Z0×Int)
abbrev Z9 :Type:=Option (Bool)
abbrev Z10 :Type:=Z0×Int×Int×Int
abbrev Z11 :Type:=((List Z0)×(List Z4))×(List Z1)×(List Z2)
abbrev Z12 :Type:=List (Z0×Z0)
abbrev Z13 :Type:=Option (Int)
abbrev Z14 :Type:=List (Z0×Z0)
abbrev Z15 :Type:=List (Int×(List Int))
abbrev Z16 :Type:=List (List Int)
abbrev Z17 :Type:=Z0×Z0×(List Int)×Int×Int×Int
abbrev Z18 :Type:=Int×Int×Z0×(List Z0)×Int×Int×(List DQ)×Bool×Int×Int×Int×Int×Bool×Int×Int
abbrev bX (a r:List VS) (f:HD (Sh.codes ⟨a,[]⟩)->Option (HD (Sh.codes ⟨r,[]⟩))):Model:=⟨⟨a,[]⟩,⟨r,[]⟩,f⟩
abbrev mK :=ModelOk Tryz.prog
theorem mO {l:List (Nat×Model)} (hl:jR Tryz.prog l) {f:FuncId} {fn:Func} {c:Code} (hf:Tryz.prog.funcs[f]? =some fn) (hbody:fn.body=some c) (N:Nat) (h:Hint) (m:Model) (wr rs dw:List Nat:=[])
  (hname:(fn.name== "runtime.NumGoroutine")=false:=by kernel_rfl) (hres:m.arg.names.all (jbC l wr rs dw).res=true:=by kernel_rfl) (hlen:Nat.ble m.arg.vals.length fn.ntmps=true:=by kernel_rfl)
  (hrun:∀a,m.run a=runF N (jbC l wr rs dw) okDraw fn c h m.arg m.ret a:=by intro a;kernel_rfl):ModelOk Tryz.prog f m:=modelOk_of (E:=jbC l wr rs dw) (jtQ hl wr rs dw) hf hname hbody N h m hres hlen hrun
theorem fC {k:Nat} {m:Model} {l:List (Nat×Model)} (h:ModelOk Tryz.prog k m) (hl:jR Tryz.prog l):jR Tryz.prog ((k,m)::l):=jsH h hl
abbrev pI :VS:=.pv (.int .i64)
abbrev pS :VS:=.pv .str
abbrev pB :VS:=.pv .bool
abbrev tI :Tp:=.int .i64
abbrev c1A {Y Z:Type} (f:Y->Z) (a:Y):Z:=f a
abbrev c2A {α0 α1 Z:Type} (f:α0->α1->Z) (a:α0×α1):Z:=f a.1 a.2
abbrev c3A {α0 α1 α2 Z:Type} (f:α0->α1->α2->Z) (a:α0×α1×α2):Z:=f a.1 a.2.1 a.2.2
abbrev c4A {α0 α1 α2 α3 Z:Type} (f:α0->α1->α2->α3->Z) (a:α0×α1×α2×α3):Z:=f a.1 a.2.1 a.2.2.1 a.2.2.2
abbrev c5A {α0 α1 α2 α3 α4 Z:Type} (f:α0->α1->α2->α3->α4->Z) (a:α0×α1×α2×α3×α4):Z:=f a.1 a.2.1 a.2.2.1 a.2.2.2.1 a.2.2.2.2
abbrev c6A {α0 α1 α2 α3 α4 α5 Z:Type} (f:α0->α1->α2->α3->α4->α5->Z) (a:α0×α1×α2×α3×α4×α5):Z:=f a.1 a.2.1 a.2.2.1 a.2.2.2.1 a.2.2.2.2.1 a.2.2.2.2.2
abbrev c7A {α0 α1 α2 α3 α4 α5 α6 Z:Type} (f:α0->α1->α2->α3->α4->α5->α6->Z) (a:α0×α1×α2×α3×α4×α5×α6):Z:=f a.1 a.2.1 a.2.2.1 a.2.2.2.1 a.2.2.2.2.1 a.2.2.2.2.2.1 a.2.2.2.2.2.2
abbrev c9A {α0 α1 α2 α3 α4 α5 α6 α7 α8 Z:Type} (f:α0->α1->α2->α3->α4->α5->α6->α7->α8->Z) (a:α0×α1×α2×α3×α4×α5×α6×α7×α8):Z:=f a.1 a.2.1 a.2.2.1 a.2.2.2.1 a.2.2.2.2.1 a.2.2.2.2.2.1 a.2.2.2.2.2.2.1 a.2.2.2.2.2.2.2.1 a.2.2.2.2.2.2.2.2
abbrev c10A {α0 α1 α2 α3 α4 α5 α6 α7 α8 α9 Z:Type} (f:α0->α1->α2->α3->α4->α5->α6->α7->α8->α9->Z) (a:α0×α1×α2×α3×α4×α5×α6×α7×α8×α9):Z:=f a.1 a.2.1 a.2.2.1 a.2.2.2.1 a.2.2.2.2.1 a.2.2.2.2.2.1 a.2.2.2.2.2.2.1 a.2.2.2.2.2.2.2.1 a.2.2.2.2.2.2.2.2.1 a.2.2.2.2.2.2.2.2.2
abbrev c11A {α0 α1 α2 α3 α4 α5 α6 α7 α8 α9 α10 Z:Type} (f:α0->α1->α2->α3->α4->α5->α6->α7->α8->α9->α10->Z) (a:α0×α1×α2×α3×α4×α5×α6×α7×α8×α9×α10):Z:=f a.1 a.2.1 a.2.2.1 a.2.2.2.1 a.2.2.2.2.1 a.2.2.2.2.2.1 a.2.2.2.2.2.2.1 a.2.2.2.2.2.2.2.1 a.2.2.2.2.2.2.2.2.1 a.2.2.2.2.2.2.2.2.2.1 a.2.2.2.2.2.2.2.2.2.2
def dz :Nat->List VS->List VS
 |0,l=>l
 |n+1,l=>.dead::dz n l
abbrev Y21 :Tp:=.sl tI
abbrev Y20 :Tp:=.pair .str .str
abbrev Y19 :Tp:=.sl (.pair .str .str)
abbrev Y18 :Tp:=.pair (.sl .str) .str
abbrev Y17 :Tp:=.pair .str tI
abbrev Y16 :Tp:=.sl (.pair (.sl .str) .str)
abbrev Y15 :Tp:=.sl (.pair .str tI)
abbrev Y14 :Tp:=.pair tI tI
abbrev Y13 :Tp:=.sl (.pair tI tI)
abbrev Y12 :Tp:=.pair tI (.sl tI)
abbrev Y11 :Tp:=.sl (.pair tI (.sl tI))
abbrev Y6 :Tp:=.pair .str (.pair tI (.pair tI tI))
abbrev Y5 :Tp:=.pair .str (.pair .str (.sl (.pair tI (.sl tI))))
abbrev Y4 :Tp:=.sl (.pair .str (.pair .str (.sl (.pair tI (.sl tI)))))
abbrev Y3 :Tp:=.pair tI (.pair (.sl (.pair .str .str)) (.sl (.pair .str tI)))
abbrev Y2 :Tp:=.sl (.pair tI (.pair (.sl (.pair .str .str)) (.sl (.pair .str tI))))
abbrev Y1 :Tp:=.pair (.sl (.pair tI (.pair (.sl (.pair .str .str)) (.sl (.pair .str tI))))) (.sl (.pair .str (.pair .str (.sl (.pair tI (.sl tI))))))
abbrev Y0 :Tp:=.pair (.pair (.sl .str) (.sl (.pair (.sl .str) .str))) (.pair (.sl (.pair tI (.pair (.sl (.pair .str .str)) (.sl (.pair .str tI))))) (.sl (.pair .str (.pair .str (.sl (.pair tI (.sl tI)))))))
def jt0 (N:Nat) (a:List Int):Option ((List Int)×Int):=
 (bif decide ((2000:Int)<a.length)then oB (cut a 0 2000) fun b=>(some (b,0))else some (a,0))
theorem juQ :mK 50 ⟨⟨[.pv (.sl (.int .u8))],[]⟩,⟨[.box 10 0],[(10,false,[.pv (.sl (.int .u8)),pI])]⟩,c1A (jt0 N)⟩:=
 mO ja func50 rfl N .no _
def jtW (N:Nat) (e:Int) (b:List Int) (a:Int):Option (Int×(List Int)×Int):=
 (if fits (a+1)then bif decide (e<1)then some (0,b,(a+1))else(bif decide ((b.length:Int)=0)then some (0,b,(a+1))else if fits ((a+1)-1)then bif decide (((a+1)-1)<(b.length:Int))then oB (idx b ((a+1)-1)) fun f=>(if e≠0 then some (((IntKind.i64.wrap f).tmod e),b,(a+1))else none)else(if(b.length:Int)≠0 then oB (idx b (((a+1)-1).tmod (b.length:Int))) fun d=>(if fits ((IntKind.i64.wrap d)*131)then if fits (((a+1)-1)*7)then if fits ((((a+1)-1)*7)+3)then if(b.length:Int)≠0 then oB (idx b (((((a+1)-1)*7)+3).tmod (b.length:Int))) fun c=>(if fits ((IntKind.i64.wrap c)*1117)then if fits (((IntKind.i64.wrap d)*131)+((IntKind.i64.wrap c)*1117))then if fits (((a+1)-1)*29)then if fits ((((IntKind.i64.wrap d)*131)+((IntKind.i64.wrap c)*1117))+(((a+1)-1)*29))then if(b.length:Int)≠0 then if fits (((a+1)-1).tdiv (b.length:Int))then if fits ((((a+1)-1).tdiv (b.length:Int))*53)then if fits (((((IntKind.i64.wrap d)*131)+((IntKind.i64.wrap c)*1117))+(((a+1)-1)*29))+((((a+1)-1).tdiv (b.length:Int))*53))then if 64≠0 then if fits ((((((IntKind.i64.wrap d)*131)+((IntKind.i64.wrap c)*1117))+(((a+1)-1)*29))+((((a+1)-1).tdiv (b.length:Int))*53)).tdiv 64)then if e≠0 then some (((bitsI .xor .i64 (((((IntKind.i64.wrap d)*131)+((IntKind.i64.wrap c)*1117))+(((a+1)-1)*29))+((((a+1)-1).tdiv (b.length:Int))*53)) ((((((IntKind.i64.wrap d)*131)+((IntKind.i64.wrap c)*1117))+(((a+1)-1)*29))+((((a+1)-1).tdiv (b.length:Int))*53)).tdiv 64)).tmod e),b,(a+1))else none else none else none else none else none else none else none else none else none else none else none)else none else none else none else none)else none)else none)else none)
theorem jtX :mK 98 ⟨⟨[.box 900000 0,pI],[(900000,false,[.pv (.sl (.int .u8)),pI])]⟩,⟨[pI],[(900000,false,[.pv (.sl (.int .u8)),pI])]⟩,c3A (jtW N)⟩:=
 mO ja func98 rfl N .no _ (rs:=[900000])
def juL :Sh:=⟨.box 900000 0:: .dead:: .box 2 0:: .box 3 0::dz 30 [],[(2,false,[.nils,.nils]),(3,false,[.own 13 .str 9 true,.nils]),(900000,false,[.pv (.sl (.int .u8)),pI])]⟩
def juw :Sh:=⟨.box 900000 0:: .dead:: .box 2 0:: .box 3 0::dz 30 [],[(2,false,[.nils,.nils]),(3,false,[.own 8 .str 9 true,.nils]),(900000,false,[.pv (.sl (.int .u8)),pI])]⟩
def s_l30Conf_m (m:List Int) (j:Int):Option ((List Z0)×(List Z4)×(List Int)×Int):=
 (meet (fun(d:(List Z0)×(List Int)×Int)=>match d with|(i,k,o)=>meet (fun(d:(List Z0)×(List Int)×Int)=>match d with|(e,n,l)=>oB (jtW N 4 n l) fun a=>bif decide (a.1=0)then some (e,([(([([110,101,119]:List UInt8),([121,111,114,107]:List UInt8)]:List Z0),([110,121]:List UInt8))]:List Z4),a.2.1,a.2.2)else bif decide (a.1=1)then some (e,([(([([98,105,103]:List UInt8)]:List Z0),([108,97,114,103]:List UInt8)),(([([98,105,103]:List UInt8),([114,101,100]:List UInt8),([102,111,120]:List UInt8)]:List Z0),([102,111,120]:List UInt8)),(([([110,101,119]:List UInt8),([121,111,114,107]:List UInt8)]:List Z0),([110,121]:List UInt8))]:List Z4),a.2.1,a.2.2)else some (e,([]:List Z4),a.2.1,a.2.2)) fun f=>oB (jtW N 4 k o) fun b=>bif decide (b.1=0)then f (([([100,111,103]:List UInt8),([116,104,101]:List UInt8)]:List Z0),b.2.1,b.2.2)else f (i,b.2.1,b.2.2)) fun h=>oB (jtW N 3 m j) fun c=>bif decide ((0:Int)<c.1)then h (([([116,104,101]:List UInt8)]:List Z0),c.2.1,c.2.2)else h (([]:List Z0),c.2.1,c.2.2))
theorem jva :mK 137 ⟨⟨[.box 900000 0],[(900000,false,[.pv (.sl (.int .u8)),pI])]⟩,⟨[.agg [.own 1 .str 9 true,.own 2 Y18 117 true]],[(900000,false,[.pv (.sl (.int .u8)),pI])]⟩,c2A (s_l30Conf_m N)⟩:=
 mO (fC (jtX N) ja) func137 rfl N (.seq .no (.seq .no (.meet juw .no (.meet juL .no .no)))) _ (rs:=[900000])
def jt (N:Nat) (a:Int):Z13:=
 (bif decide ((65:Int)<=a)then bif decide (a<=90)then some (IntKind.u8.wrap (a+32))else(bif decide ((97:Int)<=a)then bif decide (a<=122)then some a else(bif decide ((48:Int)<=a)then bif decide (a<=57)then some a else(some 0)else some 0)else bif decide ((48:Int)<=a)then bif decide (a<=57)then some a else(some 0)else some 0)else bif decide ((97:Int)<=a)then bif decide (a<=122)then some a else(bif decide ((48:Int)<=a)then bif decide (a<=57)then some a else(some 0)else some 0)else bif decide ((48:Int)<=a)then bif decide (a<=57)then some a else(some 0)else some 0)
theorem jfG :mK 197 (bX [.pv (.int .u8)] [.pv (.int .u8)] (c1A (jt N))):=
 mO ja func197 rfl N .no _
def jJ (N:Nat) (a:Int) (c:Int) (b:Int):Z9:=
 (bif decide (c<=a)then some (decide (a<=b))else some false)
theorem jcL :mK 71 (bX [pI,pI,pI] [pB] (c3A (jJ N))):=
 mO ja func71 rfl N .no _
def jr5 :Sh:=⟨pS:: .dead:: .dead::pI::dz 23 [],[]⟩
def jT (j:List UInt8):Z9:=
 (iter (fun f (b,a)=>bif decide (a<(b.length:Int))then oB (idx b a) fun c=>(oB (jt N (c.toNat:Int)) fun k=>oB (idx b a) fun h=>bif !decide (k=(h.toNat:Int))then some false else oB (idx b a) fun d=>bif decide ((d.toNat:Int)=0)then some false else if fits (a+1)then f (b,(a+1))else none)else oB (jJ N (b.length:Int) 1 12) fun i=>some i) N (j,(0:Int)))
theorem jgp :mK 142 (bX [pS] [pB] (c1A (jT N))):=
 mO (fC (jfG N) (fC (jcL N) ja)) func142 rfl N (.seq .no (.seq (.seq .no (.block (.loop jr5 .no))) .no)) _
def jdI (N:Nat):Option ((List Z0)):=
 (some ([([105,110,103]:List UInt8),([101,100]:List UInt8),([101,115]:List UInt8),([108,121]:List UInt8),([115]:List UInt8)]:List Z0))
theorem jkj :mK 264 ⟨⟨[],[]⟩,⟨[.own 1 .str 9 true],[]⟩,fun a=>jdI N⟩:=
 mO ja func264 rfl N .no _
def jl2 :Sh:=⟨pS:: .dead:: .dead::pI::dz 30 [],[]⟩
def ja6 (j:List UInt8):Option (Z0):=
 (iter (fun d (a,b)=>oB (jdI N) fun k=>bif decide (b<(k.length:Int))then oB (jdI N) fun i=>(oB (idx i b) fun c=>if fits ((a.length:Int)-(c.length:Int))then bif decide ((3:Int)<=((a.length:Int)-(c.length:Int)))then oB (cut a ((a.length:Int)-(c.length:Int)) (a.length:Int)) fun f=>(bif decide (f=c)then oB (cut a 0 ((a.length:Int)-(c.length:Int))) fun h=>(some h)else if fits (b+1)then d (a,(b+1))else none)else(if fits (b+1)then d (a,(b+1))else none)else none)else some a) N (j,(0:Int)))
theorem jtL :mK 198 (bX [pS] [pS] (c1A (ja6 N))):=
 mO (fC (jkj N) ja) func198 rfl N (.seq .no (.seq (.seq .no (.block (.loop jl2 .no))) .no)) _
def jto :Sh:=⟨pS::dz 9 [],[]⟩
def jaq (d:List UInt8):Option (Z0):=
 (iter (fun a (c:Z0)=>let s2:=c;(oB (ja6 N s2) fun e=>bif !decide (e=s2)then oB (ja6 N s2) fun b=>(a b)else some s2)) N d)
theorem jfZ :mK 143 (bX [pS] [pS] (c1A (jaq N))):=
 mO (fC (jtL N) ja) func143 rfl N (.seq .no (.seq (.block (.loop jto .no)) .no)) _
def jlY :Sh:=⟨.pv (.sl .str)::pS::dz 3 (pI::dz 12 []),[]⟩
def jap (h:List Z0) (i:List UInt8):Z9:=
 (iter (fun f (b,c,a)=>bif decide (a<(b.length:Int))then oB (idx b a) fun e=>(bif decide (e=c)then some true else if fits (a+1)then f (b,c,(a+1))else none)else some false) N (h,i,(0:Int)))
theorem jhP :mK 144 (bX [.pv (.sl .str),pS] [pB] (c2A (jap N))):=
 mO ja func144 rfl N (.seq .no (.seq (.seq .no (.block (.loop jlY .no))) .no)) _
def jrs :Sh:=⟨.dead:: .box 1 0:: .dead::pI::dz 114 [],[(1,false,[.pv (.sl .str),.pv Y16])]⟩
def js0 :Sh:=⟨.dead:: .box 1 0:: .dead:: .dead::pI::dz 113 [],[(1,false,[.pv (.sl .str),.pv Y16])]⟩
def jrc :Sh:=⟨.dead:: .box 1 0:: .dead:: .dead::pI:: .box 5 0::pI::dz 111 [],[(1,false,[.pv (.sl .str),.pv Y16]),(5,false,[.pv (.sl .str),pS])]⟩
def jcw (t:List Z0) (I:List Z4):Z9:=
 (iter (fun q (a,b,i)=>bif decide (a<(b.length:Int))then oB (idx b a) fun G=>(oB (jT N G) fun B=>bif !B then some false else bif decide ((0:Int)<a)then oB (idx b a) fun n=>(if fits (a-1)then oB (idx b (a-1)) fun r=>(bif Op.bytesLess n r||decide (n=r)then some false else if fits (a+1)then q ((a+1),b,i)else none)else none)else if fits (a+1)then q ((a+1),b,i)else none)else iter (fun u (j,m,h)=>bif decide (j<(h.length:Int))then oB (idx h j) fun o=>(iter (fun v (l,d,k,p,c,f)=>bif decide (d<(c.length:Int))then oB (idx c d) fun K=>(oB (jT N K) fun x=>bif !x then some false else oB (idx c d) fun C=>oB (jaq N C) fun z=>oB (idx c d) fun A=>bif !decide (z=A)then some false else oB (idx c d) fun D=>oB (jap N k D) fun w=>bif w then some false else if fits (d+1)then v (l,(d+1),k,p,c,f)else none)else oB (jJ N (c.length:Int) 1 3) fun H=>bif !H then some false else oB (jT N f) fun y=>bif !y then some false else oB (jaq N f) fun E=>bif !decide (E=f)then some false else if fits (l+1)then u ((l+1),k,p)else none) N (j,(0:Int),m,h,o.1,o.2))else bif decide ((m.length:Int)<=6)then some (decide ((h.length:Int)<=4))else some false) N ((0:Int),b,i)) N ((0:Int),t,I))
theorem jtf :mK 82 (bX [.agg [.pv (.sl .str),.pv Y16]] [pB] (c2A (jcw N))):=
 mO (fC (jgp N) (fC (jfZ N) (fC (jhP N) (fC (jcL N) ja)))) func82 rfl N (.seq .no (.seq (.seq .no (.block (.loop jrs .no))) (.seq (.seq .no (.block (.loop js0 (.seq .no (.seq (.block (.seq .no (.seq (.seq .no (.block (.loop jrc .no))) .no))) .no))))) .no))) _
def jot :Sh:=⟨pS:: .dead:: .dead::pI::dz 19 [],[]⟩
def jcu (h:List UInt8):Z9:=
 (iter (fun e (b,a)=>bif decide (a<(b.length:Int))then oB (idx b a) fun c=>(bif decide ((c.toNat:Int)<32)then some false else oB (idx b a) fun f=>bif decide ((126:Int)<(f.toNat:Int))then some false else if fits (a+1)then e (b,(a+1))else none)else some (decide ((b.length:Int)<=160))) N (h,(0:Int)))
theorem jpZ :mK 145 (bX [pS] [pB] (c1A (jcu N))):=
 mO ja func145 rfl N (.seq .no (.seq (.seq .no (.block (.loop jot .no))) .no)) _
def jp0 :Sh:=⟨.dead:: .box 1 0:: .dead::pI::dz 100 [],[(1,false,[pI,.pv Y19,.pv Y15])]⟩
def jtP :Sh:=⟨.dead:: .box 1 0::dz 3 (pI::dz 98 []),[(1,false,[pI,.pv Y19,.pv Y15])]⟩
def jcb (u:Int) (B:Z14) (A:Z8):Z9:=
 (iter (fun o (b,j,d,f)=>bif decide (b<(d.length:Int))then oB (idx d b) fun e=>(oB (jT N e.1) fun w=>bif !w then some false else oB (jcu N e.2) fun r=>bif !r then some false else bif decide ((0:Int)<b)then if fits (b-1)then oB (idx d (b-1)) fun m=>(bif Op.bytesLess e.1 m.1||decide (e.1=m.1)then some false else if fits (b+1)then o ((b+1),j,d,f)else none)else none else if fits (b+1)then o ((b+1),j,d,f)else none)else iter (fun l (a,h,k,c)=>bif decide (a<(c.length:Int))then oB (idx c a) fun y=>(oB (jT N y.1) fun v=>bif !v then some false else oB (idx c a) fun x=>oB (jJ N x.2 0 999999999) fun q=>bif !q then some false else bif decide ((0:Int)<a)then oB (idx c a) fun p=>(if fits (a-1)then oB (idx c (a-1)) fun n=>(bif Op.bytesLess p.1 n.1||decide (p.1=n.1)then some false else if fits (a+1)then l ((a+1),h,k,c)else none)else none)else if fits (a+1)then l ((a+1),h,k,c)else none)else oB (jJ N h 1 9999) fun z=>bif z then oB (jJ N (k.length:Int) 0 3) fun t=>(bif t then some (decide ((c.length:Int)<=3))else some false)else some false) N ((0:Int),j,d,f)) N ((0:Int),u,B,A))
theorem jpD :mK 83 (bX [.agg [pI,.pv Y19,.pv Y15]] [pB] (c3A (jcb N))):=
 mO (fC (jgp N) (fC (jpZ N) (fC (jcL N) ja))) func83 rfl N (.seq .no (.seq (.seq .no (.block (.loop jp0 .no))) (.seq (.seq .no (.block (.loop jtP .no))) .no))) _
def jkS :Sh:=⟨.pv Y2:: .dead:: .dead::pI::dz 33 [],[]⟩
def jbU (f:List Z1):Z9:=
 (iter (fun d (b,a)=>bif decide (a<(b.length:Int))then oB (idx b a) fun c=>(oB (jcb N c.1 c.2.1 c.2.2) fun j=>bif !j then some false else bif decide ((0:Int)<a)then oB (idx b a) fun i=>(if fits (a-1)then oB (idx b (a-1)) fun h=>(bif decide (i.1<=h.1)then some false else if fits (a+1)then d (b,(a+1))else none)else none)else if fits (a+1)then d (b,(a+1))else none)else some (decide ((b.length:Int)<=16))) N (f,(0:Int)))
theorem jpx :mK 57 (bX [.pv Y2] [pB] (c1A (jbU N))):=
 mO (fC (jpD N) ja) func57 rfl N (.seq .no (.seq (.seq .no (.block (.loop jkS .no))) .no)) _
def jl5 :Sh:=⟨.pv (.sl .str)::pS::dz 3 (pI::dz 42 []),[]⟩
def s_l7Put_m (m:List Z0) (n:List UInt8):Option ((List Z0)):=
 (iter (fun r (a,b,c)=>bif decide (c<(a.length:Int))then oB (idx a c) fun q=>(bif Op.bytesLess q b then if fits (c+1)then r (a,b,(c+1))else none else bif decide (c<(a.length:Int))then oB (idx a c) fun o=>(bif decide (o=b)then some a else oB (cut a 0 c) fun d=>if room ([]:List Z0).length d.length 16 then if room (([]:List Z0)++d).length ([b]:List Z0).length 16 then oB (cut a c (a.length:Int)) fun j=>(if room ((([]:List Z0)++d)++([b]:List Z0)).length j.length 16 then some (((([]:List Z0)++d)++([b]:List Z0))++j)else none)else none else none)else oB (cut a 0 c) fun h=>if room ([]:List Z0).length h.length 16 then if room (([]:List Z0)++h).length ([b]:List Z0).length 16 then oB (cut a c (a.length:Int)) fun l=>(if room ((([]:List Z0)++h)++([b]:List Z0)).length l.length 16 then some (((([]:List Z0)++h)++([b]:List Z0))++l)else none)else none else none)else bif decide (c<(a.length:Int))then oB (idx a c) fun t=>(bif decide (t=b)then some a else oB (cut a 0 c) fun f=>if room ([]:List Z0).length f.length 16 then if room (([]:List Z0)++f).length ([b]:List Z0).length 16 then oB (cut a c (a.length:Int)) fun k=>(if room ((([]:List Z0)++f)++([b]:List Z0)).length k.length 16 then some (((([]:List Z0)++f)++([b]:List Z0))++k)else none)else none else none)else oB (cut a 0 c) fun e=>if room ([]:List Z0).length e.length 16 then if room (([]:List Z0)++e).length ([b]:List Z0).length 16 then oB (cut a c (a.length:Int)) fun i=>(if room ((([]:List Z0)++e)++([b]:List Z0)).length i.length 16 then some (((([]:List Z0)++e)++([b]:List Z0))++i)else none)else none else none) N (m,n,(0:Int)))
theorem jgt :mK 180 (bX [.pv (.sl .str),pS] [.pv (.sl .str)] (c2A (s_l7Put_m N))):=
 mO ja func180 rfl N (.seq .no (.seq .no (.seq (.block (.loop jl5 .no)) .no))) _
def joT :Sh:=⟨.pv Y2:: .dead:: .dead:: .pv (.sl .str)::pI::dz 30 [],[]⟩
def jkn :Sh:=⟨.pv Y2:: .dead:: .dead:: .pv (.sl .str)::pI::pI::dz 29 [],[]⟩
def s_l7Names_m (k:List Z1):Option ((List Z0)):=
 (iter (fun m (h,i,f)=>bif decide (f<(h.length:Int))then iter (fun j (b,e,a,c)=>oB (idx b a) fun l=>bif decide (c<(l.2.1.length:Int))then oB (idx b a) fun o=>(oB (idx o.2.1 c) fun n=>oB (s_l7Put_m N e n.1) fun p=>if fits (c+1)then j (b,p,a,(c+1))else none)else if fits (a+1)then m (b,e,(a+1))else none) N (h,i,f,(0:Int))else some i) N (k,([]:List Z0),(0:Int)))
theorem jlz :mK 124 (bX [.pv Y2] [.pv (.sl .str)] (c1A (s_l7Names_m N))):=
 mO (fC (jgt N) ja) func124 rfl N (.seq .no (.seq .no (.seq (.seq .no (.block (.loop joT (.seq .no (.seq (.block (.seq .no (.block (.loop jkn .no)))) .no))))) .no))) _
def jl8 :Sh:=⟨.dead::pS:: .box 2 0:: .dead:: .dead::pI::dz 21 [],[(2,false,[pI,.pv Y19,.pv Y15])]⟩
def s_l6Field_m (i:Int) (m:Z14) (d:Z8) (k:List UInt8):Option (Z0):=
 (iter (fun j (c,a,h,b,l)=>bif decide (a<(b.length:Int))then oB (idx b a) fun f=>(bif decide (f.1=c)then oB (idx b a) fun n=>(some n.2)else if fits (a+1)then j (c,(a+1),h,b,l)else none)else some ([]:List UInt8)) N (k,(0:Int),i,m,d))
theorem jhA :mK 182 (bX [.agg [pI,.pv Y19,.pv Y15],pS] [pS] (c4A (s_l6Field_m N))):=
 mO ja func182 rfl N (.seq .no (.seq (.seq .no (.block (.loop jl8 .no))) .no)) _
def jo3 :Sh:=⟨pS:: .dead:: .dead:: .own 600003 Y6 196 true::pI::dz 50 [],[]⟩
def jm6 :Sh:=⟨pS:: .dead:: .dead:: .own 600003 Y6 196 true::pI:: .own 600005 (.int .u8) 5 true::pI::dz 48 [],[]⟩
def jtK :Sh:=⟨pS:: .dead:: .dead:: .own 600003 Y6 196 true::pI:: .pv (.sl (.int .u8))::pI::dz 48 [],[]⟩
def jb3 (D:List UInt8):Option ((List Z10)):=
 (iter (fun l (t,u,n)=>bif decide (n<(t.length:Int))then iter (fun A (b,h,a,c,i)=>bif decide (a<(b.length:Int))then oB (idx b a) fun z=>(oB (jt N (z.toNat:Int)) fun E=>bif !decide (E=0)then oB (idx b a) fun G=>(oB (jt N (G.toNat:Int)) fun q=>if room c.length ([q]:List Int).length 1 then if fits (a+1)then A (b,h,(a+1),(c++([q]:List Int)),i)else none else none)else meet (fun(d:Z0×(List Z10)×Int×(List Int)×Int)=>match d with|(p,k,e,m,w)=>bif decide ((0:Int)<m.length)then if room k.length ([((bytesOf m),(k.length:Int),w,e)]:List Z10).length 40 then if fits (e+1)then l (p,(k++([((bytesOf m),(k.length:Int),w,e)]:List Z10)),(e+1))else none else none else if fits (e+1)then l (p,k,(e+1))else none) fun x=>bif decide ((12:Int)<c.length)then oB (cut c 0 12) fun B=>(x (b,h,a,B,i))else x (b,h,a,c,i))else meet (fun(d:Z0×(List Z10)×Int×(List Int)×Int)=>match d with|(y,j,f,o,r)=>bif decide ((0:Int)<o.length)then if room j.length ([((bytesOf o),(j.length:Int),r,f)]:List Z10).length 40 then if fits (f+1)then l (y,(j++([((bytesOf o),(j.length:Int),r,f)]:List Z10)),(f+1))else none else none else if fits (f+1)then l (y,j,(f+1))else none) fun v=>bif decide ((12:Int)<c.length)then oB (cut c 0 12) fun C=>(v (b,h,a,C,i))else v (b,h,a,c,i)) N (t,u,n,([]:List Int),n)else some u) N (D,([]:List Z10),(0:Int)))
theorem jsr :mK 289 (bX [pS] [.own 1 Y6 196 true] (c1A (jb3 N))):=
 mO (fC (jfG N) ja) func289 rfl N (.seq .no (.seq .no (.seq (.seq .no (.block (.loop jo3 (.seq .no (.seq (.block (.seq .no (.seq .no (.seq (.block (.loop jm6 .no)) (.meet jtK .no .no))))) .no))))) .no))) _
def jmf :Sh:=⟨.dead:: .dead:: .box 2 0:: .dead:: .dead:: .own 600005 Y17 126 true:: .own 600006 Y6 196 true::pI::dz 43 [],[(2,false,[.pv (.sl .str),.pv Y16])]⟩
def jbY (j:List Z0) (r:List Z4) (m:List UInt8):Option (Z7):=
 (oB (jb3 N m) fun o=>iter (fun h (d,b,a,c,e)=>bif decide (a<(b.length:Int))then oB (idx b a) fun q=>(oB (jaq N q.1) fun f=>oB (idx b a) fun n=>oB (jap N c n.1) fun l=>bif !l then oB (jap N c f) fun k=>(bif !k then oB (idx b a) fun i=>(if room d.length ([(f,i.2.1)]:Z8).length 24 then if fits (a+1)then h ((d++([(f,i.2.1)]:Z8)),b,(a+1),c,e)else none else none)else if fits (a+1)then h (d,b,(a+1),c,e)else none)else if fits (a+1)then h (d,b,(a+1),c,e)else none)else some d) N (([]:Z8),o,(0:Int),j,r))
theorem jrk :mK 243 (bX [.agg [.pv (.sl .str),.pv Y16],pS] [.own 1 Y17 126 true] (c3A (jbY N))):=
 mO (fC (jsr N) (fC (jfZ N) (fC (jhP N) ja))) func243 rfl N (.seq .no (.seq .no (.seq .no (.seq (.seq .no (.block (.loop jmf .no))) .no)))) _
def jrL :Sh:=⟨.pv Y15:: .pv (.sl .str)::dz 3 (pI::dz 36 []),[]⟩
def jcC (j:Z8) (f:List Z0):Z9:=
 (iter (fun i (b,c,a)=>bif decide (a<(c.length:Int))then bif decide ((b.length:Int)<=a)then some false else(oB (idx b a) fun h=>oB (idx c a) fun l=>bif !decide (h.1=l)then some false else oB (idx b a) fun k=>oB (idx b 0) fun d=>if fits (d.2+a)then bif !decide (k.2=(d.2+a))then some false else(if fits (a+1)then i (b,c,(a+1))else none)else none)else some true) N (j,f,(0:Int)))
theorem jtg :mK 290 (bX [.pv Y15,.pv (.sl .str)] [pB] (c2A (jcC N))):=
 mO ja func290 rfl N (.seq .no (.seq (.seq .no (.block (.loop jrL .no))) .no)) _
def jlL :Sh:=⟨.dead:: .pv Y15:: .box 2 0:: .dead:: .dead::pI::pI::dz 38 [],[(2,false,[.pv (.sl .str),.pv Y16])]⟩
def jcJ (h:List Z0) (k:List Z4) (l:Z8):Z13:=
 (iter (fun f (d,c,a,e,b)=>bif decide (a<(b.length:Int))then oB (idx b a) fun j=>(oB (jcC N d j.1) fun o=>bif o then bif decide (c<0)then if fits (a+1)then f (d,a,(a+1),e,b)else none else(oB (idx b a) fun n=>oB (idx b c) fun m=>bif decide ((m.1.length:Int)<(n.1.length:Int))then if fits (a+1)then f (d,a,(a+1),e,b)else none else if fits (a+1)then f (d,c,(a+1),e,b)else none)else if fits (a+1)then f (d,c,(a+1),e,b)else none)else some c) N (l,((-1):Int),(0:Int),h,k))
theorem jqp :mK 244 (bX [.agg [.pv (.sl .str),.pv Y16],.pv Y15] [pI] (c3A (jcJ N))):=
 mO (fC (jtg N) ja) func244 rfl N (.seq .no (.seq .no (.seq (.seq .no (.block (.loop jlL .no))) .no))) _
def jnK :Sh:=⟨.dead:: .dead:: .box 2 0:: .dead:: .dead:: .own 600005 Y17 126 true:: .pv Y15::dz 45 [],[(2,false,[.pv (.sl .str),.pv Y16])]⟩
def ja5 (f:List Z0) (k:List Z4) (o:List UInt8):Option (Z7):=
 (oB (jbY N f k o) fun p=>iter (fun j (c,a,d,b)=>bif decide ((0:Int)<a.length)then oB (jcJ N d b a) fun e=>(bif decide (e<0)then oB (idx a 0) fun i=>(if room c.length ([i]:Z8).length 24 then oB (cut a 1 (a.length:Int)) fun m=>(j ((c++([i]:Z8)),m,d,b))else none)else oB (idx b e) fun h=>oB (idx a 0) fun l=>if room c.length ([(h.2,l.2)]:Z8).length 24 then oB (idx b e) fun q=>(oB (cut a (q.1.length:Int) (a.length:Int)) fun n=>j ((c++([(h.2,l.2)]:Z8)),n,d,b))else none)else some c) N (([]:Z8),p,f,k))
theorem jiO :mK 181 (bX [.agg [.pv (.sl .str),.pv Y16],pS] [.own 1 Y17 126 true] (c3A (ja5 N))):=
 mO (fC (jrk N) (fC (jqp N) ja)) func181 rfl N (.seq .no (.seq .no (.seq .no (.seq (.block (.loop jnK .no)) .no)))) _
def jn9 :Sh:=⟨.dead:: .pv Y2::pS:: .box 3 0::dz 3 (.pv (.sl .str)::pI::dz 31 []),[(3,false,[.pv (.sl .str),.pv Y16])]⟩
def jrT :Sh:=⟨.dead:: .pv Y2::pS:: .box 3 0::dz 3 (.pv (.sl .str)::pI:: .own 600009 Y17 126 true::pI::dz 29 []),[(3,false,[.pv (.sl .str),.pv Y16])]⟩
def s_l7Terms_m (r:List Z0) (B:List Z4) (u:List Z1) (v:List UInt8):Option ((List Z0)):=
 (iter (fun A (h,p,n,c,k,i)=>bif decide (c<(h.length:Int))then oB (idx h c) fun f=>(oB (s_l6Field_m N f.1 f.2.1 f.2.2 p) fun z=>oB (ja5 N k i z) fun w=>iter (fun t (o,q,j,b,d,a,l,m)=>bif decide (a<(d.length:Int))then oB (idx d a) fun y=>(oB (s_l7Put_m N j y.1) fun x=>if fits (a+1)then t (o,q,x,b,d,(a+1),l,m)else none)else if fits (b+1)then A (o,q,j,(b+1),l,m)else none) N (h,p,n,c,w,(0:Int),k,i))else some n) N (u,v,([]:List Z0),(0:Int),r,B))
theorem jqQ :mK 125 (bX [.agg [.pv (.sl .str),.pv Y16],.pv Y2,pS] [.pv (.sl .str)] (c4A (s_l7Terms_m N))):=
 mO (fC (jhA N) (fC (jiO N) (fC (jgt N) ja))) func125 rfl N (.seq .no (.seq .no (.seq (.seq .no (.block (.loop jn9 (.seq .no (.seq (.block (.seq .no (.seq .no (.block (.loop jrT .no))))) .no))))) .no))) _
def jnY :Sh:=⟨dz 3 (pS::dz 5 (.own 600009 tI 3 true:: .own 600010 Y17 126 true::pI::dz 28 [])),[]⟩
def s_l7Post_m (h:List Z0) (p:List Z4) (k:Int) (r:Z14) (q:Z8) (i:List UInt8) (o:List UInt8):Option ((List Int)):=
 (oB (s_l6Field_m N k r q i) fun l=>oB (ja5 N h p l) fun j=>iter (fun f (d,c,b,a)=>bif decide (a<(b.length:Int))then oB (idx b a) fun n=>(bif decide (n.1=d)then oB (idx b a) fun e=>(if room c.length ([e.2]:List Int).length 8 then if fits (a+1)then f (d,(c++([e.2]:List Int)),b,(a+1))else none else none)else if fits (a+1)then f (d,c,b,(a+1))else none)else some c) N (o,([]:List Int),j,(0:Int)))
theorem js6 :mK 183 (bX [.agg [.pv (.sl .str),.pv Y16],.agg [pI,.pv Y19,.pv Y15],pS,pS] [.own 1 tI 3 true] (c7A (s_l7Post_m N))):=
 mO (fC (jhA N) (fC (jiO N) ja)) func183 rfl N (.seq .no (.seq .no (.seq .no (.seq (.seq .no (.block (.loop jnY .no))) .no)))) _
def jkw :Sh:=⟨.dead:: .pv Y2::pS::pS:: .box 4 0::dz 3 (.box 8 0:: .box 9 0::pI::dz 34 []),[(4,false,[.pv (.sl .str),.pv Y16]),(8,false,[pS,pS,.nils]),(9,false,[pS,pS,.own 700902 Y12 204 true])]⟩
def s_l7Entry_m (t:List Z0) (w:List Z4) (u:List Z1) (n:List UInt8) (p:List UInt8):Option Z2:=
 (iter (fun q (b,k,j,a,e,d,o,m,l,i,c)=>bif decide (a<(b.length:Int))then oB (idx b a) fun f=>(oB (s_l7Post_m N e d f.1 f.2.1 f.2.2 k j) fun h=>bif decide ((0:Int)<h.length)then oB (idx b a) fun r=>(if room c.length ([(r.1,h)]:Z3).length 32 then if fits (a+1)then q (b,k,j,(a+1),e,d,o,m,l,i,(c++([(r.1,h)]:Z3)))else none else none)else if fits (a+1)then q (b,k,j,(a+1),e,d,o,m,l,i,c)else none)else some (l,i,c)) N (u,n,p,(0:Int),t,w,([]:List UInt8),([]:List UInt8),n,p,([]:Z3)))
theorem jtr :mK 126 (bX [.agg [.pv (.sl .str),.pv Y16],.pv Y2,pS,pS] [.agg [pS,pS,.own 1 Y12 204 true]] (c5A (s_l7Entry_m N))):=
 mO (fC (js6 N) ja) func126 rfl N (.seq .no (.seq .no (.seq (.seq .no (.block (.loop jkw .no))) .no))) _
def s_l7CopyDoc_m (N:Nat) (c:Int) (b:Z14) (a:Z8):Option Z1:=
 (if room ([]:Z14).length b.length 32 then if room ([]:Z8).length a.length 24 then some (c,(([]:Z14)++b),(([]:Z8)++a))else none else none)
theorem jtC :mK 127 (bX [.agg [pI,.pv Y19,.pv Y15]] [.agg [pI,.own 1 Y20 120 true,.own 2 Y17 122 true]] (c3A (s_l7CopyDoc_m N))):=
 mO ja func127 rfl N .no _
def jn8 :Sh:=⟨.dead:: .pv Y2:: .box 2 0:: .dead:: .box 4 0:: .box 5 0:: .pv (.sl .str)::pI::dz 58 [],[(2,false,[.pv (.sl .str),.pv Y16]),(4,false,[.nils,.nils]),(5,false,[.nils,.own 700501 Y5 131 true])]⟩
def jpr :Sh:=⟨.dead:: .pv Y2:: .box 2 0:: .dead:: .box 4 0:: .box 5 0:: .pv (.sl .str)::pI:: .pv (.sl .str)::pI::dz 56 [],[(2,false,[.pv (.sl .str),.pv Y16]),(4,false,[.nils,.nils]),(5,false,[.nils,.own 700501 Y5 131 true])]⟩
def jn0 :Sh:=⟨.dead:: .pv Y2:: .dead:: .dead:: .box 4 0:: .box 5 0::dz 4 (pI::dz 55 []),[(4,false,[.nils,.nils]),(5,false,[.own 700500 Y3 51 true,.own 700501 Y5 131 true])]⟩
def s_l7Of_m (z:List Z0) (I:List Z4) (u:List Z1):Option ((List Z1)×(List Z2)):=
 (oB (s_l7Names_m N u) fun E=>iter (fun H (q,o,i,v,t,y)=>bif decide (i<(o.length:Int))then oB (idx o i) fun G=>(oB (s_l7Terms_m N v t q G) fun C=>iter (fun A (n,p,b,m,d,f,l,j)=>bif decide (d<(m.length:Int))then oB (idx p b) fun D=>(oB (idx m d) fun K=>oB (s_l7Entry_m N f l n D K) fun x=>if room j.length ([x]:List Z2).length 56 then if fits (d+1)then A (n,p,b,m,(d+1),f,l,(j++([x]:List Z2)))else none else none)else if fits (b+1)then H (n,p,(b+1),f,l,j)else none) N (q,o,i,C,(0:Int),v,t,y))else iter (fun B (e,c,h,r)=>bif decide (c<(e.length:Int))then oB (idx e c) fun k=>(oB (s_l7CopyDoc_m N k.1 k.2.1 k.2.2) fun w=>if room h.length ([w]:List Z1).length 56 then if fits (c+1)then B (e,(c+1),(h++([w]:List Z1)),r)else none else none)else some (h,r)) N (q,(0:Int),([]:List Z1),y)) N (u,E,(0:Int),z,I,([]:List Z2)))
theorem jmU :mK 61 (bX [.agg [.pv (.sl .str),.pv Y16],.pv Y2] [.agg [.own 1 Y3 51 true,.own 2 Y5 131 true]] (c3A (s_l7Of_m N))):=
 mO (fC (jlz N) (fC (jqQ N) (fC (jtr N) (fC (jtC N) ja)))) func61 rfl N (.seq .no (.seq .no (.seq .no (.seq (.seq .no (.block (.loop jn8 (.seq .no (.seq (.block (.seq .no (.seq .no (.block (.loop jpr .no))))) .no))))) (.seq (.seq .no (.block (.loop jn0 .no))) .no))))) _
def jnI :Sh:=⟨.pv Y21:: .pv Y21::dz 3 (pI::dz 20 []),[]⟩
def jb1 (e:List Int) (d:List Int):Z9:=
 (bif !decide ((e.length:Int)=(d.length:Int))then some false else iter (fun i (b,c,a)=>bif decide (a<(b.length:Int))then oB (idx b a) fun h=>(oB (idx c a) fun j=>bif !decide (h=j)then some false else if fits (a+1)then i (b,c,(a+1))else none)else some true) N (e,d,(0:Int)))
theorem jlH :mK 221 (bX [.pv Y21,.pv Y21] [pB] (c2A (jb1 N))):=
 mO ja func221 rfl N (.seq .no (.seq .no (.seq (.seq .no (.block (.loop jnI .no))) .no))) _
def jnx :Sh:=⟨.dead:: .dead:: .box 2 0:: .box 3 0:: .dead::pI::dz 57 [],[(2,false,[pS,pS,.pv Y11]),(3,false,[pS,pS,.pv Y11])]⟩
def jbQ (j:List UInt8) (f:List UInt8) (h:Z3) (i:List UInt8) (d:List UInt8) (e:Z3):Z9:=
 (bif !decide (j=i)then some false else bif !decide (f=d)then some false else bif !decide ((h.length:Int)=(e.length:Int))then some false else iter (fun q (a,n,t,b,v,r,c)=>bif decide (a<(b.length:Int))then oB (idx b a) fun p=>(oB (idx c a) fun k=>bif !decide (p.1=k.1)then some false else oB (idx b a) fun u=>oB (idx c a) fun m=>oB (jb1 N u.2 m.2) fun l=>bif !l then some false else if fits (a+1)then q ((a+1),n,t,b,v,r,c)else none)else some true) N ((0:Int),j,f,h,i,d,e))
theorem jtG :mK 164 (bX [.agg [pS,pS,.pv Y11],.agg [pS,pS,.pv Y11]] [pB] (c6A (jbQ N))):=
 mO (fC (jlH N) ja) func164 rfl N (.seq .no (.seq .no (.seq (.seq .no (.block (.loop jnx .no))) .no))) _
def jrW :Sh:=⟨dz 3 (.box 3 0:: .dead:: .box 5 0::pI::dz 39 []),[(3,false,[.pv Y2,.pv Y4]),(5,false,[.own 700500 Y3 51 true,.own 700501 Y5 131 true])]⟩
def s_l7Ok_m (i:List Z0) (k:List Z4) (c:List Z1) (j:List Z2):Z9:=
 (oB (jcw N i k) fun o=>bif !o then some false else oB (jbU N c) fun n=>bif !n then some false else oB (s_l7Of_m N i k c) fun b=>bif !decide ((b.2.length:Int)=(j.length:Int))then some false else iter (fun q (a,l,h,r,f)=>bif decide (a<(f.length:Int))then oB (idx f a) fun e=>(oB (idx h a) fun d=>oB (jbQ N e.1 e.2.1 e.2.2 d.1 d.2.1 d.2.2) fun m=>bif !m then some false else if fits (a+1)then q ((a+1),l,h,r,f)else none)else some true) N ((0:Int),c,j,b.1,b.2))
theorem jpm :mK 100 (bX [.agg [.pv (.sl .str),.pv Y16],.agg [.pv Y2,.pv Y4]] [pB] (c4A (s_l7Ok_m N))):=
 mO (fC (jtf N) (fC (jpx N) (fC (jmU N) (fC (jtG N) ja)))) func100 rfl N (.seq .no (.seq .no (.seq .no (.seq .no (.seq (.seq .no (.block (.loop jrW .no))) .no))))) _
def jCI :Sh:=⟨.pv Y21:: .dead:: .dead::pI::dz 31 [],[]⟩
def jx3 (f:List Int):Z9:=
 (iter (fun c (b,a)=>bif decide (a<(b.length:Int))then oB (idx b a) fun e=>(oB (jJ N e 0 999999999) fun j=>bif !j then some false else bif decide ((0:Int)<a)then oB (idx b a) fun i=>(if fits (a-1)then oB (idx b (a-1)) fun h=>(bif decide (i<=h)then some false else if fits (a+1)then c (b,(a+1))else none)else none)else if fits (a+1)then c (b,(a+1))else none)else some (decide ((b.length:Int)<=60))) N (f,(0:Int)))
theorem jC9 :mK 118 (bX [.pv Y21] [pB] (c1A (jx3 N))):=
 mO (fC (jcL N) ja) func118 rfl N (.seq .no (.seq (.seq .no (.block (.loop jCI .no))) .no)) _
def jA0 :Sh:=⟨.dead::pI:: .box 2 0:: .dead:: .box 4 0::pI::dz 21 [],[(2,false,[.pv Y2,.pv Y4]),(4,false,[pI,.nils,.nils])]⟩
def jyv (m:List Z1) (l:List Z2) (e:Int):Option Z1:=
 (iter (fun k (d,a,b,f,h)=>bif decide (a<(b.length:Int))then oB (idx b a) fun j=>(bif decide (j.1=d)then oB (idx b a) fun c=>(some (c.1,c.2.1,c.2.2))else if fits (a+1)then k (d,(a+1),b,f,h)else none)else some (0,([]:Z14),([]:Z8))) N (e,(0:Int),m,l,(0:Int)))
theorem jDn :mK 119 (bX [.agg [.pv Y2,.pv Y4],pI] [.agg [pI,.pv Y19,.pv Y15]] (c3A (jyv N))):=
 mO ja func119 rfl N (.seq .no (.seq (.seq .no (.block (.loop jA0 .no))) .no)) _
def s_l30Rd_of_m (b:List Z0) (e:List Int) (c:Int):Option (Z0×(List Int)×Int):=
 (oB (jtW N (b.length:Int) e c) fun a=>oB (idx b a.1) fun d=>some (d,a.2.1,a.2.2))
theorem jt3 :mK 141 ⟨⟨[.box 900000 0,.pv (.sl .str)],[(900000,false,[.pv (.sl (.int .u8)),pI])]⟩,⟨[pS],[(900000,false,[.pv (.sl (.int .u8)),pI])]⟩,c3A (s_l30Rd_of_m N)⟩:=
 mO (fC (jtX N) ja) func141 rfl N .no _ (rs:=[900000])
def jt1 (c:List Int) (b:Int):Option (Z0×(List Int)×Int):=
 (oB (s_l30Rd_of_m N ([([99,97,116]:List UInt8),([67,97,116,115]:List UInt8),([100,111,103]:List UInt8),([100,111,103,115]:List UInt8),([114,117,110]:List UInt8),([82,85,78,78,73,78,71]:List UInt8),([116,104,101]:List UInt8),([114,101,100]:List UInt8),([98,105,103]:List UInt8),([110,101,119,32,121,111,114,107]:List UInt8),([78,101,119,32,32,89,111,114,107]:List UInt8),([110,121]:List UInt8),([102,111,120]:List UInt8),([112,97,115,115,101,100]:List UInt8),([120,49]:List UInt8),([97,118,101,114,121,118,101,114,121,108,111,110,103,119,111,114,100]:List UInt8)]:List Z0) c b) fun a=>some (a.1,a.2.1,a.2.2))
theorem jvg :mK 256 ⟨⟨[.box 900000 0],[(900000,false,[.pv (.sl (.int .u8)),pI])]⟩,⟨[pS],[(900000,false,[.pv (.sl (.int .u8)),pI])]⟩,c2A (jt1 N)⟩:=
 mO (fC (jt3 N) ja) func256 rfl N .no _ (rs:=[900000])
def juP :Sh:=⟨.box 900000 0:: .dead:: .dead::pS::pI::dz 15 [],[(900000,false,[.pv (.sl (.int .u8)),pI])]⟩
def jtZ (j:List Int) (i:Int):Option (Z0×(List Int)×Int):=
 (oB (jtW N 9 j i) fun e=>iter (fun l (c,d,f,h)=>bif decide ((0:Int)<d)then oB (jt1 N f h) fun a=>(if c.length+a.1.length<=9223372036854775807 then oB (s_l30Rd_of_m N ([([32]:List UInt8),([32]:List UInt8),([44,32]:List UInt8),([45]:List UInt8),([46,32]:List UInt8)]:List Z0) a.2.1 a.2.2) fun b=>(if(c++a.1).length+b.1.length<=9223372036854775807 then if fits (d-1)then l (((c++a.1)++b.1),(d-1),b.2.1,b.2.2)else none else none)else none)else some (c,f,h)) N (([]:List UInt8),e.1,e.2.1,e.2.2))
theorem juT :mK 189 ⟨⟨[.box 900000 0],[(900000,false,[.pv (.sl (.int .u8)),pI])]⟩,⟨[pS],[(900000,false,[.pv (.sl (.int .u8)),pI])]⟩,c2A (jtZ N)⟩:=
 mO (fC (jtX N) (fC (jvg N) (fC (jt3 N) ja))) func189 rfl N (.seq .no (.seq .no (.seq (.seq .no (.block (.loop juP .no))) .no))) _ (rs:=[900000])
def juy :Sh:=⟨.box 900000 0::dz 3 (.box 4 0:: .box 5 0::dz 48 []),[(4,false,[pI,.nils,.nils]),(5,false,[pI,.own 28 Y20 120 true,.own 39 Y17 122 true]),(900000,false,[.pv (.sl (.int .u8)),pI])]⟩
def juX :Sh:=⟨.box 900000 0::dz 3 (.box 4 0:: .box 5 0::dz 48 []),[(4,false,[pI,.nils,.nils]),(5,false,[pI,.own 28 Y20 120 true,.nils]),(900000,false,[.pv (.sl (.int .u8)),pI])]⟩
def jvb :Sh:=⟨.box 900000 0::dz 3 (.box 4 0:: .box 5 0::dz 48 []),[(4,false,[pI,.nils,.nils]),(5,false,[pI,.own 17 Y20 120 true,.nils]),(900000,false,[.pv (.sl (.int .u8)),pI])]⟩
def s_l30Doc_m (r:Int) (B:List Int) (y:Int):Option (Int×Z12×Z7×(List Int)×Int):=
 (meet (fun(e:Int×Int×Z12×(List Int)×Int)=>match e with|(m,p,l,G,D)=>meet (fun(e:Int×Int×Z12×(List Int)×Int)=>match e with|(n,x,v,C,A)=>meet (fun(e:Int×Int×Z12×Z7×(List Int)×Int)=>match e with|(H,q,t,k,E,z)=>oB (jtW N 3 E z) fun d=>bif decide (d.1=0)then oB (jtW N 30 d.2.1 d.2.2) fun a=>(if fits (2000+a.1)then if room k.length ([(([121,101,97,114]:List UInt8),(2000+a.1))]:Z8).length 24 then some (q,t,(k++([(([121,101,97,114]:List UInt8),(2000+a.1))]:Z8)),a.2.1,a.2.2)else none else none)else some (q,t,k,d.2.1,d.2.2)) fun o=>oB (jtW N 3 C A) fun f=>bif decide ((0:Int)<f.1)then oB (jtW N 4 f.2.1 f.2.2) fun j=>(if room ([]:Z8).length ([(([114,97,116,101]:List UInt8),j.1)]:Z8).length 24 then o (n,x,v,(([]:Z8)++([(([114,97,116,101]:List UInt8),j.1)]:Z8)),j.2.1,j.2.2)else none)else o (n,x,v,([]:Z8),f.2.1,f.2.2)) fun u=>oB (jtW N 3 G D) fun b=>bif decide (b.1=0)then oB (jtZ N b.2.1 b.2.2) fun h=>(if room l.length ([(([116,105,116,108,101]:List UInt8),h.1)]:Z14).length 32 then u (m,p,(l++([(([116,105,116,108,101]:List UInt8),h.1)]:Z14)),h.2.1,h.2.2)else none)else u (m,p,l,b.2.1,b.2.2)) fun w=>oB (jtW N 6 B y) fun c=>bif decide ((0:Int)<c.1)then oB (jtZ N c.2.1 c.2.2) fun i=>(if room ([]:Z14).length ([(([98,111,100,121]:List UInt8),i.1)]:Z14).length 32 then w (0,r,(([]:Z14)++([(([98,111,100,121]:List UInt8),i.1)]:Z14)),i.2.1,i.2.2)else none)else w (0,r,([]:Z14),c.2.1,c.2.2))
theorem jvf :mK 138 ⟨⟨[.box 900000 0,pI],[(900000,false,[.pv (.sl (.int .u8)),pI])]⟩,⟨[.agg [pI,.own 1 Y20 120 true,.own 2 Y17 122 true]],[(900000,false,[.pv (.sl (.int .u8)),pI])]⟩,c3A (s_l30Doc_m N)⟩:=
 mO (fC (jtX N) (fC (juT N) ja)) func138 rfl N (.seq .no (.seq .no (.meet jvb .no (.meet juX .no (.meet juy .no .no))))) _ (rs:=[900000])
def juU :Sh:=⟨.box 900000 0:: .dead:: .dead:: .own 600003 Y3 51 true::pI::pI::dz 19 [],[(900000,false,[.pv (.sl (.int .u8)),pI])]⟩
def s_l30Docs_m (k:List Int) (j:Int):Option ((List Z1)×(List Int)×Int):=
 (oB (jtW N 6 k j) fun e=>iter (fun m (f,c,d,h,i)=>bif decide ((0:Int)<d)then if fits (c+1)then oB (jtW N 3 h i) fun b=>(if fits ((c+1)+b.1)then oB (s_l30Doc_m N ((c+1)+b.1) b.2.1 b.2.2) fun a=>(if room f.length ([(a.1,a.2.1,a.2.2.1)]:List Z1).length 56 then if fits (d-1)then m ((f++([(a.1,a.2.1,a.2.2.1)]:List Z1)),((c+1)+b.1),(d-1),a.2.2.2.1,a.2.2.2.2)else none else none)else none)else none else some (f,h,i)) N (([]:List Z1),(0:Int),e.1,e.2.1,e.2.2))
theorem juO :mK 115 ⟨⟨[.box 900000 0],[(900000,false,[.pv (.sl (.int .u8)),pI])]⟩,⟨[.own 1 Y3 51 true],[(900000,false,[.pv (.sl (.int .u8)),pI])]⟩,c2A (s_l30Docs_m N)⟩:=
 mO (fC (jtX N) (fC (jvf N) ja)) func115 rfl N (.seq .no (.seq .no (.seq .no (.seq (.seq .no (.block (.loop juU .no))) .no)))) _ (rs:=[900000])
def s_l30Rd_one_m (b:List Int) (e:List Int) (c:Int):Option (Int×(List Int)×Int):=
 (oB (jtW N (b.length:Int) e c) fun a=>oB (idx b a.1) fun d=>some (d,a.2.1,a.2.2))
theorem juA :mK 69 ⟨⟨[.box 900000 0,.pv Y21],[(900000,false,[.pv (.sl (.int .u8)),pI])]⟩,⟨[pI],[(900000,false,[.pv (.sl (.int .u8)),pI])]⟩,c3A (s_l30Rd_one_m N)⟩:=
 mO (fC (jtX N) ja) func69 rfl N .no _ (rs:=[900000])
def jaw (N:Nat) (a:Int):Z9:=
 (bif decide ((97:Int)<=a)then bif decide (a<=122)then some true else(bif decide ((48:Int)<=a)then some (decide (a<=57))else some false)else bif decide ((48:Int)<=a)then some (decide (a<=57))else some false)
theorem jeK :mK 153 (bX [.pv (.int .u8)] [pB] (c1A (jaw N))):=
 mO ja func153 rfl N .no _
def jm (N:Nat) (a:Int) (c:Int) (b:Int):Z9:=
 (bif decide (c<=a)then some (decide (a<=b))else some false)
theorem jY :mK 67 (bX [pI,pI,pI] [pB] (c3A (jm N))):=
 mO ja func67 rfl N .no _
def jqW :Sh:=⟨pS::dz 4 (pI::pI::dz 11 []),[]⟩
def jO (d:List UInt8):Z9:=
 (iter (fun h (b,c,a)=>bif decide (a<c)then oB (idx b a) fun e=>(oB (jaw N (e.toNat:Int)) fun j=>bif !j then some false else if fits (a+1)then h (b,c,(a+1))else none)else oB (jm N (b.length:Int) 1 12) fun i=>some i) N (d,(d.length:Int),(0:Int)))
theorem jcM :mK 85 (bX [pS] [pB] (c1A (jO N))):=
 mO (fC (jeK N) (fC (jY N) ja)) func85 rfl N (.seq .no (.seq (.seq .no (.block (.loop jqW .no))) .no)) _
def jmc :Sh:=⟨.pv (.sl .str)::dz 4 (.pv (.sl .str)::pI::pI::dz 21 []),[]⟩
def jb2 (e:List Z0):Z9:=
 (iter (fun h (d,b,c,a)=>bif decide (a<c)then oB (idx b a) fun f=>(oB (jO N f) fun k=>bif !k then some false else bif decide ((0:Int)<a)then if fits (a-1)then oB (idx d (a-1)) fun j=>(bif !Op.bytesLess j f then some false else if fits (a+1)then h (d,b,c,(a+1))else none)else none else if fits (a+1)then h (d,b,c,(a+1))else none)else some true) N (e,e,(e.length:Int),(0:Int)))
theorem jtw :mK 86 (bX [.pv (.sl .str)] [pB] (c1A (jb2 N))):=
 mO (fC (jcM N) ja) func86 rfl N (.seq .no (.seq (.seq .no (.block (.loop jmc .no))) .no)) _
def jdF (N:Nat) (a:List UInt8) (b:List UInt8):Z9:=
 (bif decide ((b.length:Int)<=(a.length:Int))then if fits ((a.length:Int)-(b.length:Int))then oB (cut a ((a.length:Int)-(b.length:Int)) (a.length:Int)) fun c=>(some (decide (c=b)))else none else some false)
theorem jpU :mK 209 (bX [pS,pS] [pB] (c2A (jdF N))):=
 mO ja func209 rfl N .no _
def jcN (b:List UInt8) (a:List UInt8):Z9:=
 (oB (jdF N b a) fun c=>some c)
theorem jsu :mK 154 (bX [pS,pS] [pB] (c2A (jcN N))):=
 mO (fC (jpU N) ja) func154 rfl N .no _
def jod :Sh:=⟨pS:: .dead:: .dead::pB::dz 32 [],[]⟩
def jnf :Sh:=⟨pS:: .dead:: .dead::pB::dz 6 (.own 600010 .str 9 true::pI::pI::dz 23 []),[]⟩
def jaB (l:List UInt8):Option (Z0):=
 (oB (jO N l) fun p=>bif !p then some ([]:List UInt8)else iter (fun j (k,m)=>bif m then iter (fun i (a,d,h,f,b)=>bif decide (b<f)then oB (idx h b) fun c=>(oB (jcN N a c) fun o=>bif o then if fits ((a.length:Int)-(c.length:Int))then bif decide ((3:Int)<=((a.length:Int)-(c.length:Int)))then if fits ((a.length:Int)-(c.length:Int))then oB (cut a 0 ((a.length:Int)-(c.length:Int))) fun n=>(j (n,true))else none else(if fits (b+1)then i (a,d,h,f,(b+1))else none)else none else if fits (b+1)then i (a,d,h,f,(b+1))else none)else j (a,d)) N (k,false,([([105,110,103]:List UInt8),([101,100]:List UInt8),([101,115]:List UInt8),([108,121]:List UInt8),([115]:List UInt8)]:List Z0),(([([105,110,103]:List UInt8),([101,100]:List UInt8),([101,115]:List UInt8),([108,121]:List UInt8),([115]:List UInt8)]:List Z0).length:Int),(0:Int))else some k) N (l,true))
theorem jio :mK 87 (bX [pS] [pS] (c1A (jaB N))):=
 mO (fC (jcM N) (fC (jsu N) ja)) func87 rfl N (.seq .no (.seq .no (.seq (.seq .no (.block (.loop jod (.seq .no (.block (.seq .no (.seq .no (.block (.loop jnf .no))))))))) .no))) _
def jkJ :Sh:=⟨.pv (.sl .str)::pS::dz 5 (pI::pI::dz 10 []),[]⟩
def jdH (e:List Z0) (h:List UInt8):Z13:=
 (iter (fun j (d,c,b,a)=>bif decide (a<b)then oB (idx d a) fun i=>(bif decide (c=i)then some a else if fits (a+1)then j (d,c,b,(a+1))else none)else some (-1)) N (e,h,(e.length:Int),(0:Int)))
theorem jkZ :mK 155 (bX [.pv (.sl .str),pS] [pI] (c2A (jdH N))):=
 mO ja func155 rfl N (.seq .no (.seq (.seq .no (.block (.loop jkJ .no))) .no)) _
def jao (a:List Z0) (b:List UInt8):Z9:=
 (oB (jdH N a b) fun c=>some (decide ((0:Int)<=c)))
theorem jh5 :mK 88 (bX [.pv (.sl .str),pS] [pB] (c2A (jao N))):=
 mO (fC (jkZ N) ja) func88 rfl N .no _
def jmj :Sh:=⟨.dead:: .box 1 0::dz 22 (.pv Y16::pI::pI::dz 46 []),[(1,false,[.pv (.sl .str),.pv Y16])]⟩
def jrC :Sh:=⟨.dead:: .box 1 0::dz 22 (.pv Y16::pI::pI::dz 12 (pB::dz 7 (pB:: .dead:: .dead:: .pv (.sl .str)::pI::pI::dz 20 []))),[(1,false,[.pv (.sl .str),.pv Y16])]⟩
def jaj (e:List Z0) (d:List Z4):Z9:=
 (bif decide ((6:Int)<e.length)then some false else oB (jb2 N e) fun A=>bif !A then some false else bif decide ((4:Int)<d.length)then some false else iter (fun E (t,p,j,w,u)=>bif decide (j<p)then oB (idx t j) fun a=>(oB (jm N (a.1.length:Int) 1 3) fun y=>bif !y then some false else oB (jO N a.2) fun o=>bif !o then some false else oB (jaB N a.2) fun n=>bif !decide (n=a.2)then some false else iter (fun v (k,m,h,x,C,r,l,c,f,q)=>bif decide (c<l)then oB (idx r c) fun b=>(oB (jO N b) fun D=>bif !D then some false else oB (jaB N b) fun z=>bif !decide (z=b)then some false else oB (jao N f b) fun B=>bif B then some false else if fits (c+1)then v (k,m,h,x,C,r,l,(c+1),f,q)else none)else if fits (h+1)then E (k,m,(h+1),f,q)else none) N (t,p,j,(!o),(!decide (n=a.2)),a.1,(a.1.length:Int),(0:Int),w,u))else some true) N (d,(d.length:Int),(0:Int),e,d))
theorem jdX :mK 29 (bX [.agg [.pv (.sl .str),.pv Y16]] [pB] (c2A (jaj N))):=
 mO (fC (jtw N) (fC (jY N) (fC (jcM N) (fC (jio N) (fC (jh5 N) ja))))) func29 rfl N (.seq .no (.seq .no (.seq (.seq .no (.block (.loop jmj (.seq .no (.seq .no (.seq (.block (.seq .no (.seq .no (.seq .no (.block (.loop jrC .no)))))) .no)))))) .no))) _
def jtd :Sh:=⟨pS::dz 4 (pI::pI::dz 16 []),[]⟩
def jaF (d:List UInt8):Z9:=
 (iter (fun h (b,c,a)=>bif decide (a<c)then oB (idx b a) fun e=>(bif decide ((e.toNat:Int)<32)then some false else oB (idx b a) fun i=>bif decide ((126:Int)<(i.toNat:Int))then some false else if fits (a+1)then h (b,c,(a+1))else none)else some (decide ((b.length:Int)<=160))) N (d,(d.length:Int),(0:Int)))
theorem jdK :mK 89 (bX [pS] [pB] (c1A (jaF N))):=
 mO ja func89 rfl N (.seq .no (.seq (.seq .no (.block (.loop jtd .no))) .no)) _
def jlC :Sh:=⟨.dead:: .box 1 0::dz 22 (.pv Y19::pI::pI::dz 66 []),[(1,false,[pI,.pv Y19,.pv Y15])]⟩
def jpt :Sh:=⟨.dead:: .box 1 0::dz 57 (.pv Y15::pI::pI::dz 31 []),[(1,false,[pI,.pv Y19,.pv Y15])]⟩
def jbx (q:Int) (e:Z14) (u:Z8):Z9:=
 (oB (jm N q 1 9999) fun A=>bif !A then some false else bif decide ((3:Int)<e.length)then some false else bif decide ((3:Int)<u.length)then some false else iter (fun t (h,i,a,o,d,c)=>bif decide (a<i)then oB (idx h a) fun n=>(oB (jO N n.1) fun x=>bif !x then some false else oB (jaF N n.2) fun y=>bif !y then some false else bif decide ((0:Int)<a)then if fits (a-1)then oB (idx d (a-1)) fun z=>(bif !Op.bytesLess z.1 n.1 then some false else if fits (a+1)then t (h,i,(a+1),o,d,c)else none)else none else if fits (a+1)then t (h,i,(a+1),o,d,c)else none)else iter (fun p (f,l,b,r,v,k)=>bif decide (b<l)then oB (idx f b) fun j=>(oB (jO N j.1) fun w=>bif !w then some false else oB (jm N j.2 0 999999999) fun C=>bif !C then some false else bif decide ((0:Int)<b)then if fits (b-1)then oB (idx k (b-1)) fun B=>(bif !Op.bytesLess B.1 j.1 then some false else if fits (b+1)then p (f,l,(b+1),r,v,k)else none)else none else if fits (b+1)then p (f,l,(b+1),r,v,k)else none)else some true) N (c,(c.length:Int),(0:Int),o,d,c)) N (e,(e.length:Int),(0:Int),q,e,u))
theorem jh0 :mK 30 (bX [.agg [pI,.pv Y19,.pv Y15]] [pB] (c3A (jbx N))):=
 mO (fC (jY N) (fC (jcM N) (fC (jdK N) ja))) func30 rfl N (.seq .no (.seq .no (.seq (.seq .no (.block (.loop jlC .no))) (.seq (.seq .no (.block (.loop jpt .no))) .no)))) _
def jpj :Sh:=⟨.pv Y2::dz 4 (.pv Y2::pI::pI::dz 26 []),[]⟩
def jbf (f:List Z1):Z9:=
 (iter (fun h (c,d,e,a)=>bif decide (a<e)then oB (idx d a) fun b=>(oB (jbx N b.1 b.2.1 b.2.2) fun k=>bif !k then some false else bif decide ((0:Int)<a)then if fits (a-1)then oB (idx c (a-1)) fun j=>(bif decide (b.1<=j.1)then some false else if fits (a+1)then h (c,d,e,(a+1))else none)else none else if fits (a+1)then h (c,d,e,(a+1))else none)else some (decide ((c.length:Int)<=16))) N (f,f,(f.length:Int),(0:Int)))
theorem jjU :mK 31 (bX [.pv Y2] [pB] (c1A (jbf N))):=
 mO (fC (jh0 N) ja) func31 rfl N (.seq .no (.seq (.seq .no (.block (.loop jpj .no))) .no)) _
def jbO (N:Nat) (c:Int) (b:Z14) (a:Z8):Option Z1:=
 (if room ([]:Z14).length b.length 32 then if room ([]:Z8).length a.length 24 then some (c,(([]:Z14)++b),(([]:Z8)++a))else none else none)
theorem jrI :mK 129 (bX [.agg [pI,.pv Y19,.pv Y15]] [.agg [pI,.own 1 Y20 120 true,.own 2 Y17 122 true]] (c3A (jbO N))):=
 mO ja func129 rfl N .no _
def joW :Sh:=⟨dz 3 (.own 600003 Y3 51 true::dz 3 (.pv Y2::pI::pI::dz 10 [])),[]⟩
def jbV (f:List Z1):Option ((List Z1)):=
 (iter (fun j (c,d,e,a)=>bif decide (a<e)then oB (idx d a) fun b=>(oB (jbO N b.1 b.2.1 b.2.2) fun h=>if room c.length ([h]:List Z1).length 56 then if fits (a+1)then j ((c++([h]:List Z1)),d,e,(a+1))else none else none)else some c) N (([]:List Z1),f,(f.length:Int),(0:Int)))
theorem joC :mK 65 (bX [.pv Y2] [.own 1 Y3 51 true] (c1A (jbV N))):=
 mO (fC (jrI N) ja) func65 rfl N (.seq .no (.seq .no (.seq (.seq .no (.block (.loop joW .no))) .no))) _
def jI (N:Nat) (a:Int):Z13:=
 (bif decide ((65:Int)<=a)then bif decide (a<=90)then some (IntKind.u8.wrap ((IntKind.u8.wrap (a+97))-65))else(some a)else some a)
theorem jmu :mK 210 (bX [.pv (.int .u8)] [.pv (.int .u8)] (c1A (jI N))):=
 mO ja func210 rfl N .no _
def jpB :Sh:=⟨pS:: .dead:: .dead:: .own 600003 Y6 196 true::pI::dz 57 [],[]⟩
def jo6 :Sh:=⟨pS:: .dead:: .dead:: .own 600003 Y6 196 true::pI:: .box 5 0:: .own 600006 (.int .u8) 5 true::dz 55 [],[(5,false,[pS,pI,pI,pI])]⟩
def jct (o:List UInt8):Option ((List Z10)):=
 (oB (jaF N o) fun x=>bif !x then some ([]:List Z10)else iter (fun l (i,j,f)=>bif decide (f<(i.length:Int))then oB (idx i f) fun r=>(oB (jI N (r.toNat:Int)) fun v=>oB (jaw N v) fun w=>bif !w then if fits (f+1)then l (i,j,(f+1))else none else iter (fun m (c,d,a,b,q,e,h,p)=>bif decide (a<(c.length:Int))then oB (idx c a) fun z=>(oB (jI N (z.toNat:Int)) fun u=>oB (jaw N u) fun y=>bif y then bif decide ((b.length:Int)<12)then oB (idx c a) fun t=>(oB (jI N (t.toNat:Int)) fun n=>if room b.length ([n]:List Int).length 1 then if fits (a+1)then m (c,d,(a+1),(b++([n]:List Int)),q,e,h,p)else none else none)else(if fits (a+1)then m (c,d,(a+1),b,q,e,h,p)else none)else if room d.length ([((bytesOf b),e,h,a)]:List Z10).length 40 then l (c,(d++([((bytesOf b),e,h,a)]:List Z10)),a)else none)else if room d.length ([((bytesOf b),e,h,a)]:List Z10).length 40 then l (c,(d++([((bytesOf b),e,h,a)]:List Z10)),a)else none) N (i,j,f,([]:List Int),([]:List UInt8),(j.length:Int),f,(0:Int)))else some j) N (o,([]:List Z10),(0:Int)))
theorem jqc :mK 156 (bX [pS] [.own 1 Y6 196 true] (c1A (jct N))):=
 mO (fC (jdK N) (fC (jmu N) (fC (jeK N) ja))) func156 rfl N (.seq .no (.seq .no (.seq .no (.seq (.seq .no (.block (.loop jpB (.seq .no (.block (.seq .no (.seq .no (.seq .no (.seq (.block (.loop jo6 .no)) .no))))))))) .no)))) _
def jty :Sh:=⟨.dead:: .pv Y15::pI:: .box 3 0::dz 3 (.pv (.opt Y18)::dz 8 (pI::pI::dz 73 [])),[(3,false,[.pv (.sl .str),.pv Y16])]⟩
def jss :Sh:=⟨.dead:: .pv Y15::pI:: .box 3 0::dz 3 (.pv (.opt Y18):: .dead:: .ptr Y18::pB::dz 5 (pI::pI::dz 31 (pB::dz 4 (.pv (.sl .str)::pI::pI::dz 34 [])))),[(3,false,[.pv (.sl .str),.pv Y16])]⟩
def jbH (c:List Z0) (c2:List Z4) (terms:Z8) (at0:Int):Option ((Option Z4)):=
 (iter (fun go (terms2,at02,best,t16,t17,c3,c4)=>bif decide (t17<t16)then oB (idx c4 t17) fun e=>(if fits ((terms2.length:Int)-at02)then bif decide (((terms2.length:Int)-at02)<(e.1.length:Int))then if fits (t17+1)then go (terms2,at02,best,t16,(t17+1),c3,c4)else none else(bif !(Option.isNone best)then oB best fun p=>(bif decide ((e.1.length:Int)<=(p.1.length:Int))then if fits (t17+1)then go (terms2,at02,best,t16,(t17+1),c3,c4)else none else iter (fun go2 (terms3,at03,best2,r,fits0,t162,t172,t49,t54,t55,t56,c5,c6)=>bif decide (t56<t55)then oB (idx t54 t56) fun e2=>(if fits (at03+t56)then oB (idx terms3 (at03+t56)) fun e3=>(bif fits0 then bif decide (e3.1=e2)then oB (idx terms3 at03) fun e4=>(if fits (e4.2+t56)then if fits (t56+1)then go2 (terms3,at03,best2,r,(decide (e3.2=(e4.2+t56))),t162,t172,t49,t54,t55,(t56+1),c5,c6)else none else none)else(if fits (t56+1)then go2 (terms3,at03,best2,r,false,t162,t172,t49,t54,t55,(t56+1),c5,c6)else none)else if fits (t56+1)then go2 (terms3,at03,best2,r,false,t162,t172,t49,t54,t55,(t56+1),c5,c6)else none)else none)else bif fits0 then if fits (t172+1)then go (terms3,at03,(some r),t162,(t172+1),c5,c6)else none else if fits (t172+1)then go (terms3,at03,best2,t162,(t172+1),c5,c6)else none) N (terms2,at02,best,e,true,t16,t17,(decide ((e.1.length:Int)<=(p.1.length:Int))),e.1,(e.1.length:Int),(0:Int),c3,c4))else iter (fun go3 (terms4,at04,best3,r2,fits02,t163,t173,t492,t542,t552,t562,c7,c8)=>bif decide (t562<t552)then oB (idx t542 t562) fun e5=>(if fits (at04+t562)then oB (idx terms4 (at04+t562)) fun e6=>(bif fits02 then bif decide (e6.1=e5)then oB (idx terms4 at04) fun e7=>(if fits (e7.2+t562)then if fits (t562+1)then go3 (terms4,at04,best3,r2,(decide (e6.2=(e7.2+t562))),t163,t173,t492,t542,t552,(t562+1),c7,c8)else none else none)else(if fits (t562+1)then go3 (terms4,at04,best3,r2,false,t163,t173,t492,t542,t552,(t562+1),c7,c8)else none)else if fits (t562+1)then go3 (terms4,at04,best3,r2,false,t163,t173,t492,t542,t552,(t562+1),c7,c8)else none)else none)else bif fits02 then if fits (t173+1)then go (terms4,at04,(some r2),t163,(t173+1),c7,c8)else none else if fits (t173+1)then go (terms4,at04,best3,t163,(t173+1),c7,c8)else none) N (terms2,at02,best,e,true,t16,t17,false,e.1,(e.1.length:Int),(0:Int),c3,c4))else none)else some best) N (terms,at0,(none:Option Z4),(c2.length:Int),(0:Int),c,c2))
theorem jtv :mK 157 (bX [.agg [.pv (.sl .str),.pv Y16],.pv Y15,pI] [.pv (.opt Y18)] (c4A (jbH N))):=
 mO ja func157 rfl N (.seq .no (.seq .no (.seq (.seq .no (.block (.loop jty (.seq .no (.seq .no (.seq (.block (.seq .no (.seq .no (.seq .no (.seq .no (.seq (.seq .no (.block (.loop jss .no))) .no)))))) .no)))))) .no))) _
def jlW :Sh:=⟨.dead:: .dead:: .box 2 0:: .dead:: .dead:: .own 600005 Y17 126 true:: .own 600006 Y17 126 true::dz 17 (.own 600024 Y6 196 true::pI::pI::dz 67 []),[(2,false,[.pv (.sl .str),.pv Y16])]⟩
def jnt :Sh:=⟨.dead:: .dead:: .box 2 0:: .dead:: .dead:: .own 600005 Y17 126 true:: .own 600006 Y17 126 true::dz 3 (pI::dz 83 []),[(2,false,[.pv (.sl .str),.pv Y16])]⟩
def jbw (t:List Z0) (A:List Z4) (x:List UInt8):Option (Z7):=
 (oB (jaj N t A) fun E=>bif !E then some ([]:Z8)else oB (jaF N x) fun C=>bif !C then some ([]:Z8)else oB (jct N x) fun w=>iter (fun r (k,f,i,j,a,c,h)=>bif decide (a<j)then oB (idx i a) fun l=>(oB (jaB N l.1) fun n=>oB (jao N c l.1) fun G=>bif !G then oB (jao N c n) fun D=>(bif !D then if room f.length ([(n,l.2.1)]:Z8).length 24 then if fits (a+1)then r (k,(f++([(n,l.2.1)]:Z8)),i,j,(a+1),c,h)else none else none else if fits (a+1)then r (k,f,i,j,(a+1),c,h)else none)else if fits (a+1)then r (k,f,i,j,(a+1),c,h)else none)else iter (fun u (e,d,b,m,p)=>bif decide (b<(d.length:Int))then oB (jbH N m p d b) fun o=>(bif Option.isNone o then oB (idx d b) fun y=>(if room e.length ([y]:Z8).length 24 then if fits (b+1)then u ((e++([y]:Z8)),d,(b+1),m,p)else none else none)else oB o fun z=>oB (idx d b) fun B=>if room e.length ([(z.2,B.2)]:Z8).length 24 then oB o fun v=>(if fits (b+(v.1.length:Int))then u ((e++([(z.2,B.2)]:Z8)),d,(b+(v.1.length:Int)),m,p)else none)else none)else some e) N (k,f,(0:Int),c,h)) N (([]:Z8),([]:Z8),w,(w.length:Int),(0:Int),t,A))
theorem jgO :mK 90 (bX [.agg [.pv (.sl .str),.pv Y16],pS] [.own 1 Y17 126 true] (c3A (jbw N))):=
 mO (fC (jdX N) (fC (jdK N) (fC (jqc N) (fC (jio N) (fC (jh5 N) (fC (jtv N) ja)))))) func90 rfl N (.seq .no (.seq .no (.seq .no (.seq .no (.seq (.seq .no (.block (.loop jlW .no))) (.seq (.seq .no (.block (.loop jnt .no))) .no)))))) _
def k__loop_example_fossick_impl_Seg_put_1_m (N:Nat) (d:List UInt8) (c:List UInt8) (e:Z3) (b:List UInt8) (a:Z0×Int):Z9:=
 (bif decide (d=b)then some (decide (c=a.1))else some false)
theorem jmw :mK 159 (bX [.agg [pS,pS,.pv Y11],.ptr .str,.ptr Y17] [pB] (c5A (k__loop_example_fossick_impl_Seg_put_1_m N))):=
 mO ja func159 rfl N .no _
def jnc :Sh:=⟨.pv Y4:: .clo 159 [.ptr .str,.ptr Y17]::dz 5 (pI::pI::dz 10 []),[]⟩
def k_slices_IndexFunc_146_m (f:List Z2) (k:Z0×Z0×Int):Z13:=
 (iter (fun i (e,b,d,a)=>bif decide (a<d)then oB (idx e a) fun c=>(oB (k__loop_example_fossick_impl_Seg_put_1_m N c.1 c.2.1 c.2.2 b.1 b.2) fun j=>bif j then some a else if fits (a+1)then i (e,b,d,(a+1))else none)else some (-1)) N (f,k,(f.length:Int),(0:Int)))
theorem jrl :mK 158 (bX [.pv Y4,.clo 159 [.ptr .str,.ptr Y17]] [pI] (c2A (k_slices_IndexFunc_146_m N))):=
 mO (fC (jmw N) ja) func158 rfl N (.seq .no (.seq (.seq .no (.block (.loop jnc .no))) .no)) _
def i_Seg_put_m (h:List UInt8) (f:List UInt8) (i:Int) (e:Int) (p:List Z1) (a:List Z2):Option ((List Z1)×(List Z2)):=
 (oB (k_slices_IndexFunc_146_m N a (h,f,i)) fun d=>bif decide (d<0)then if room a.length ([(h,f,([]:Z3))]:List Z2).length 56 then if 0<=(a.length:Int)/\(a.length:Int)<((a++([(h,f,([]:Z3))]:List Z2)).length:Int)then oB ((a++([(h,f,([]:Z3))]:List Z2))[(a.length:Int).toNat]?) fun c=>(if fits ((c.2.2.length:Int)-1)then bif decide (((c.2.2.length:Int)-1)<0)then oB ((a++([(h,f,([]:Z3))]:List Z2))[(a.length:Int).toNat]?) fun ah=>(if(a.length:Int).toNat=(a.length:Int).toNat then if room c.2.2.length ([(e,([]:List Int))]:Z3).length 32 then if(a.length:Int).toNat=(a.length:Int).toNat then oB ((a++([(h,f,([]:Z3))]:List Z2))[(a.length:Int).toNat]?) fun m=>(if fits (((c.2.2.length:Int)-1)+1)then oB (((a++([(h,f,([]:Z3))]:List Z2)).set (a.length:Int).toNat (m.1,m.2.1,(c.2.2++([(e,([]:List Int))]:Z3))))[(a.length:Int).toNat]?) fun q=>(oB (q.2.2[(((c.2.2.length:Int)-1)+1).toNat]?) fun z=>oB (((a++([(h,f,([]:Z3))]:List Z2)).set (a.length:Int).toNat (m.1,m.2.1,(c.2.2++([(e,([]:List Int))]:Z3))))[(a.length:Int).toNat]?) fun X=>if(a.length:Int).toNat=(a.length:Int).toNat then oB (((a++([(h,f,([]:Z3))]:List Z2)).set (a.length:Int).toNat (m.1,m.2.1,(c.2.2++([(e,([]:List Int))]:Z3))))[(a.length:Int).toNat]?) fun ai=>(if(a.length:Int).toNat=(a.length:Int).toNat then if 0<=(((c.2.2.length:Int)-1)+1)/\(((c.2.2.length:Int)-1)+1)<(q.2.2.length:Int)then oB (q.2.2[(((c.2.2.length:Int)-1)+1).toNat]?) fun V=>(if(((c.2.2.length:Int)-1)+1).toNat=(((c.2.2.length:Int)-1)+1).toNat then if room z.2.length ([i]:List Int).length 8 then if 0<=(((c.2.2.length:Int)-1)+1)/\(((c.2.2.length:Int)-1)+1)<(q.2.2.length:Int)then if(((c.2.2.length:Int)-1)+1).toNat=(((c.2.2.length:Int)-1)+1).toNat then oB (q.2.2[(((c.2.2.length:Int)-1)+1).toNat]?) fun G=>(some (p,(((a++([(h,f,([]:Z3))]:List Z2)).set (a.length:Int).toNat (m.1,m.2.1,(c.2.2++([(e,([]:List Int))]:Z3)))).modify ((a.length:Int).toNat) fun t=>(t.1,t.2.1,(q.2.2.set (((c.2.2.length:Int)-1)+1).toNat (G.1,(z.2++([i]:List Int))))))))else none else none else none else none)else none else none)else none)else none)else none else none else none)else(oB ((a++([(h,f,([]:Z3))]:List Z2))[(a.length:Int).toNat]?) fun S=>if(a.length:Int).toNat=(a.length:Int).toNat then if 0<=((c.2.2.length:Int)-1)/\((c.2.2.length:Int)-1)<(c.2.2.length:Int)then oB (c.2.2[((c.2.2.length:Int)-1).toNat]?) fun H=>(bif !decide (H.1=e)then oB ((a++([(h,f,([]:Z3))]:List Z2))[(a.length:Int).toNat]?) fun W=>(if(a.length:Int).toNat=(a.length:Int).toNat then if room c.2.2.length ([(e,([]:List Int))]:Z3).length 32 then if(a.length:Int).toNat=(a.length:Int).toNat then oB ((a++([(h,f,([]:Z3))]:List Z2))[(a.length:Int).toNat]?) fun k=>(if fits (((c.2.2.length:Int)-1)+1)then oB (((a++([(h,f,([]:Z3))]:List Z2)).set (a.length:Int).toNat (k.1,k.2.1,(c.2.2++([(e,([]:List Int))]:Z3))))[(a.length:Int).toNat]?) fun o=>(oB (o.2.2[(((c.2.2.length:Int)-1)+1).toNat]?) fun w=>oB (((a++([(h,f,([]:Z3))]:List Z2)).set (a.length:Int).toNat (k.1,k.2.1,(c.2.2++([(e,([]:List Int))]:Z3))))[(a.length:Int).toNat]?) fun an=>if(a.length:Int).toNat=(a.length:Int).toNat then oB (((a++([(h,f,([]:Z3))]:List Z2)).set (a.length:Int).toNat (k.1,k.2.1,(c.2.2++([(e,([]:List Int))]:Z3))))[(a.length:Int).toNat]?) fun ac=>(if(a.length:Int).toNat=(a.length:Int).toNat then if 0<=(((c.2.2.length:Int)-1)+1)/\(((c.2.2.length:Int)-1)+1)<(o.2.2.length:Int)then oB (o.2.2[(((c.2.2.length:Int)-1)+1).toNat]?) fun aa=>(if(((c.2.2.length:Int)-1)+1).toNat=(((c.2.2.length:Int)-1)+1).toNat then if room w.2.length ([i]:List Int).length 8 then if 0<=(((c.2.2.length:Int)-1)+1)/\(((c.2.2.length:Int)-1)+1)<(o.2.2.length:Int)then if(((c.2.2.length:Int)-1)+1).toNat=(((c.2.2.length:Int)-1)+1).toNat then oB (o.2.2[(((c.2.2.length:Int)-1)+1).toNat]?) fun I=>(some (p,(((a++([(h,f,([]:Z3))]:List Z2)).set (a.length:Int).toNat (k.1,k.2.1,(c.2.2++([(e,([]:List Int))]:Z3)))).modify ((a.length:Int).toNat) fun B=>(B.1,B.2.1,(o.2.2.set (((c.2.2.length:Int)-1)+1).toNat (I.1,(w.2++([i]:List Int))))))))else none else none else none else none)else none else none)else none)else none)else none else none else none)else if(a.length:Int).toNat=(a.length:Int).toNat then oB (c.2.2[((c.2.2.length:Int)-1).toNat]?) fun C=>(oB ((a++([(h,f,([]:Z3))]:List Z2))[(a.length:Int).toNat]?) fun T=>if(a.length:Int).toNat=(a.length:Int).toNat then oB ((a++([(h,f,([]:Z3))]:List Z2))[(a.length:Int).toNat]?) fun ab=>(if(a.length:Int).toNat=(a.length:Int).toNat then if 0<=((c.2.2.length:Int)-1)/\((c.2.2.length:Int)-1)<(c.2.2.length:Int)then oB (c.2.2[((c.2.2.length:Int)-1).toNat]?) fun ad=>(if((c.2.2.length:Int)-1).toNat=((c.2.2.length:Int)-1).toNat then if room C.2.length ([i]:List Int).length 8 then if 0<=((c.2.2.length:Int)-1)/\((c.2.2.length:Int)-1)<(c.2.2.length:Int)then if((c.2.2.length:Int)-1).toNat=((c.2.2.length:Int)-1).toNat then oB (c.2.2[((c.2.2.length:Int)-1).toNat]?) fun O=>(some (p,((a++([(h,f,([]:Z3))]:List Z2)).modify ((a.length:Int).toNat) fun D=>(D.1,D.2.1,(c.2.2.set ((c.2.2.length:Int)-1).toNat (O.1,(C.2++([i]:List Int))))))))else none else none else none else none)else none else none)else none)else none)else none else none)else none)else none else none else if 0<=d/\d<(a.length:Int)then oB (a[d.toNat]?) fun b=>(if fits ((b.2.2.length:Int)-1)then bif decide (((b.2.2.length:Int)-1)<0)then oB (a[d.toNat]?) fun ao=>(if d.toNat=d.toNat then if room b.2.2.length ([(e,([]:List Int))]:Z3).length 32 then if d.toNat=d.toNat then oB (a[d.toNat]?) fun j=>(if fits (((b.2.2.length:Int)-1)+1)then oB ((a.set d.toNat (j.1,j.2.1,(b.2.2++([(e,([]:List Int))]:Z3))))[d.toNat]?) fun n=>(oB (n.2.2[(((b.2.2.length:Int)-1)+1).toNat]?) fun E=>oB ((a.set d.toNat (j.1,j.2.1,(b.2.2++([(e,([]:List Int))]:Z3))))[d.toNat]?) fun ak=>if d.toNat=d.toNat then oB ((a.set d.toNat (j.1,j.2.1,(b.2.2++([(e,([]:List Int))]:Z3))))[d.toNat]?) fun ap=>(if d.toNat=d.toNat then if 0<=(((b.2.2.length:Int)-1)+1)/\(((b.2.2.length:Int)-1)+1)<(n.2.2.length:Int)then oB (n.2.2[(((b.2.2.length:Int)-1)+1).toNat]?) fun ae=>(if(((b.2.2.length:Int)-1)+1).toNat=(((b.2.2.length:Int)-1)+1).toNat then if room E.2.length ([i]:List Int).length 8 then if 0<=(((b.2.2.length:Int)-1)+1)/\(((b.2.2.length:Int)-1)+1)<(n.2.2.length:Int)then if(((b.2.2.length:Int)-1)+1).toNat=(((b.2.2.length:Int)-1)+1).toNat then oB (n.2.2[(((b.2.2.length:Int)-1)+1).toNat]?) fun L=>(some (p,((a.set d.toNat (j.1,j.2.1,(b.2.2++([(e,([]:List Int))]:Z3)))).modify d.toNat fun A=>(A.1,A.2.1,(n.2.2.set (((b.2.2.length:Int)-1)+1).toNat (L.1,(E.2++([i]:List Int))))))))else none else none else none else none)else none else none)else none)else none)else none else none else none)else(oB (a[d.toNat]?) fun R=>if d.toNat=d.toNat then if 0<=((b.2.2.length:Int)-1)/\((b.2.2.length:Int)-1)<(b.2.2.length:Int)then oB (b.2.2[((b.2.2.length:Int)-1).toNat]?) fun K=>(bif !decide (K.1=e)then oB (a[d.toNat]?) fun ag=>(if d.toNat=d.toNat then if room b.2.2.length ([(e,([]:List Int))]:Z3).length 32 then if d.toNat=d.toNat then oB (a[d.toNat]?) fun l=>(if fits (((b.2.2.length:Int)-1)+1)then oB ((a.set d.toNat (l.1,l.2.1,(b.2.2++([(e,([]:List Int))]:Z3))))[d.toNat]?) fun r=>(oB (r.2.2[(((b.2.2.length:Int)-1)+1).toNat]?) fun u=>oB ((a.set d.toNat (l.1,l.2.1,(b.2.2++([(e,([]:List Int))]:Z3))))[d.toNat]?) fun aj=>if d.toNat=d.toNat then oB ((a.set d.toNat (l.1,l.2.1,(b.2.2++([(e,([]:List Int))]:Z3))))[d.toNat]?) fun al=>(if d.toNat=d.toNat then if 0<=(((b.2.2.length:Int)-1)+1)/\(((b.2.2.length:Int)-1)+1)<(r.2.2.length:Int)then oB (r.2.2[(((b.2.2.length:Int)-1)+1).toNat]?) fun aq=>(if(((b.2.2.length:Int)-1)+1).toNat=(((b.2.2.length:Int)-1)+1).toNat then if room u.2.length ([i]:List Int).length 8 then if 0<=(((b.2.2.length:Int)-1)+1)/\(((b.2.2.length:Int)-1)+1)<(r.2.2.length:Int)then if(((b.2.2.length:Int)-1)+1).toNat=(((b.2.2.length:Int)-1)+1).toNat then oB (r.2.2[(((b.2.2.length:Int)-1)+1).toNat]?) fun Q=>(some (p,((a.set d.toNat (l.1,l.2.1,(b.2.2++([(e,([]:List Int))]:Z3)))).modify d.toNat fun x=>(x.1,x.2.1,(r.2.2.set (((b.2.2.length:Int)-1)+1).toNat (Q.1,(u.2++([i]:List Int))))))))else none else none else none else none)else none else none)else none)else none)else none else none else none)else if d.toNat=d.toNat then oB (b.2.2[((b.2.2.length:Int)-1).toNat]?) fun y=>(oB (a[d.toNat]?) fun U=>if d.toNat=d.toNat then oB (a[d.toNat]?) fun af=>(if d.toNat=d.toNat then if 0<=((b.2.2.length:Int)-1)/\((b.2.2.length:Int)-1)<(b.2.2.length:Int)then oB (b.2.2[((b.2.2.length:Int)-1).toNat]?) fun am=>(if((b.2.2.length:Int)-1).toNat=((b.2.2.length:Int)-1).toNat then if room y.2.length ([i]:List Int).length 8 then if 0<=((b.2.2.length:Int)-1)/\((b.2.2.length:Int)-1)<(b.2.2.length:Int)then if((b.2.2.length:Int)-1).toNat=((b.2.2.length:Int)-1).toNat then oB (b.2.2[((b.2.2.length:Int)-1).toNat]?) fun P=>(some (p,(a.modify d.toNat fun v=>(v.1,v.2.1,(b.2.2.set ((b.2.2.length:Int)-1).toNat (P.1,(y.2++([i]:List Int))))))))else none else none else none else none)else none else none)else none)else none)else none else none)else none)else none)
theorem jky :mK 91 ⟨⟨[.box 900000 0,pS,.agg [pS,pI],pI],[(900000,false,[.pv Y2,.tre 850001 Y5 131])]⟩,⟨[.tup []],[(900000,false,[.pv Y2,.tre 1 Y5 131])]⟩,c6A (i_Seg_put_m N)⟩:=
 mO (fC (jrl N) ja) func91 rfl N (.seq .no (.seq .no (.seq .no (.seq .no (.seq .no (.seq .no (.touch [.out 9 [(2,79,204,10),(1,88,3,0)]]))))))) _ (wr:=[33,34,70,71,91,92]) (rs:=[900000,850001]) (dw:=[16,33,70])
def jl0 :Sh:=⟨.pv (.int .u64):: .dead::pI::dz 22 [],[]⟩
def k_math_bits_Len64_m (N:Nat) (d:Int):Z13:=
 (meet (fun(a:Int×Int)=>match a with|(f,c)=>meet (fun(a:Int×Int)=>match a with|(b,e)=>meet (fun(a:Int×Int)=>match a with|(m,j)=>oB (idx ([0,1,2,2,3,3,3,3,4,4,4,4,4,4,4,4,5,5,5,5,5,5,5,5,5,5,5,5,5,5,5,5,6,6,6,6,6,6,6,6,6,6,6,6,6,6,6,6,6,6,6,6,6,6,6,6,6,6,6,6,6,6,6,6,7,7,7,7,7,7,7,7,7,7,7,7,7,7,7,7,7,7,7,7,7,7,7,7,7,7,7,7,7,7,7,7,7,7,7,7,7,7,7,7,7,7,7,7,7,7,7,7,7,7,7,7,7,7,7,7,7,7,7,7,7,7,7,7,8,8,8,8,8,8,8,8,8,8,8,8,8,8,8,8,8,8,8,8,8,8,8,8,8,8,8,8,8,8,8,8,8,8,8,8,8,8,8,8,8,8,8,8,8,8,8,8,8,8,8,8,8,8,8,8,8,8,8,8,8,8,8,8,8,8,8,8,8,8,8,8,8,8,8,8,8,8,8,8,8,8,8,8,8,8,8,8,8,8,8,8,8,8,8,8,8,8,8,8,8,8,8,8,8,8,8,8,8,8,8,8,8,8,8,8,8,8,8,8,8,8,8,8,8,8,8,8]:List UInt8) (IntKind.u8.wrap m)) fun h=>if fits (j+(IntKind.i64.wrap (h.toNat:Int)))then some (j+(IntKind.i64.wrap (h.toNat:Int)))else none) fun l=>bif decide ((256:Int)<=b)then if 0<=(8:Int)then if fits (e+8)then l ((b.fdiv (2^(min (8:Int).toNat (IntKind.bits .u64)))),(e+8))else none else none else l (b,e)) fun i=>bif decide ((65536:Int)<=f)then if 0<=(16:Int)then if fits (c+16)then i ((f.fdiv (2^(min (16:Int).toNat (IntKind.bits .u64)))),(c+16))else none else none else i (f,c)) fun k=>bif decide ((4294967296:Int)<=d)then if 0<=(32:Int)then k ((d.fdiv (2^(min (32:Int).toNat (IntKind.bits .u64)))),32)else none else k (d,0))
theorem jrK :mK 220 (bX [.pv (.int .u64)] [pI] (c1A (k_math_bits_Len64_m N))):=
 mO ja func220 rfl N (.seq .no (.meet jl0 .no (.meet jl0 .no (.meet jl0 .no .no)))) _
def k_math_bits_Len_m (a:Int):Z13:=
 (oB (k_math_bits_Len64_m N a) fun b=>some b)
theorem jda :mK 161 (bX [.pv (.int .u64)] [pI] (c1A (k_math_bits_Len_m N))):=
 mO (fC (jrK N) ja) func161 rfl N .no _
def jbn (N:Nat) (a:List UInt8):Z9:=
 (some (!decide (a=a)))
theorem jkt :mK 162 (bX [pS] [pB] (c1A (jbn N))):=
 mO ja func162 rfl N .no _
def jam (b:List UInt8) (a:List UInt8):Z13:=
 (oB (jbn N b) fun d=>oB (jbn N a) fun c=>bif d then bif c then some 0 else(some (-1))else bif c then some 1 else bif Op.bytesLess b a then some (-1)else bif !(Op.bytesLess b a||decide (b=a))then some 1 else some 0)
theorem ji2 :mK 95 (bX [pS,pS] [pI] (c2A (jam N))):=
 mO (fC (jkt N) ja) func95 rfl N .no _
def jlp :Sh:=⟨dz 3 (pI:: .dead:: .dead:: .pv Y21::pI::pI::dz 9 []),[]⟩
def jbe (e:List Int):Z13:=
 (iter (fun i (b,f,c,a)=>bif decide (a<c)then oB (idx f a) fun d=>(bif !decide (d=b)then some d else if fits (a+1)then i (b,f,c,(a+1))else none)else some b) N ((0:Int),e,(e.length:Int),(0:Int)))
theorem jhC :mK 94 (bX [.pv Y21] [pI] (c1A (jbe N))):=
 mO ja func94 rfl N (.seq .no (.seq .no (.seq (.seq .no (.block (.loop jlp .no))) .no))) _
def je (d:List UInt8) (c:List UInt8) (i:Z3) (b:List UInt8) (a:List UInt8) (j:Z3):Z13:=
 (oB (jam N d b) fun h=>oB (jam N c a) fun e=>oB (jbe N ([h,e]:List Int)) fun f=>some f)
theorem jaf :mK 93 (bX [.agg [pS,pS,.pv Y11],.agg [pS,pS,.pv Y11]] [pI] (c6A (je N))):=
 mO (fC (ji2 N) (fC (jhC N) ja)) func93 rfl N .no _
def k_slices_nextPowerOfTwo_m (b:Int):Z13:=
 (oB (k_math_bits_Len_m N (IntKind.u64.wrap b)) fun a=>if 0<=a then some (IntKind.u64.wrap ((1:Int)*2^(min a.toNat (IntKind.bits .u64))))else none)
theorem jhv :mK 270 (bX [pI] [.pv (.int .u64)] (c1A (k_slices_nextPowerOfTwo_m N))):=
 mO (fC (jda N) ja) func270 rfl N .no _
def k__slices_xorshift_Next_m (N:Nat) (a:Int):Option (Int×Int):=
 (if 0<=(13:Int)then if 0<=(7:Int)then if 0<=(17:Int)then some ((bitsI .xor .u64 (bitsI .xor .u64 (bitsI .xor .u64 a (IntKind.u64.wrap (a*2^(min (13:Int).toNat (IntKind.bits .u64))))) ((bitsI .xor .u64 a (IntKind.u64.wrap (a*2^(min (13:Int).toNat (IntKind.bits .u64))))).fdiv (2^(min (7:Int).toNat (IntKind.bits .u64))))) (IntKind.u64.wrap ((bitsI .xor .u64 (bitsI .xor .u64 a (IntKind.u64.wrap (a*2^(min (13:Int).toNat (IntKind.bits .u64))))) ((bitsI .xor .u64 a (IntKind.u64.wrap (a*2^(min (13:Int).toNat (IntKind.bits .u64))))).fdiv (2^(min (7:Int).toNat (IntKind.bits .u64)))))*2^(min (17:Int).toNat (IntKind.bits .u64))))),(bitsI .xor .u64 (bitsI .xor .u64 (bitsI .xor .u64 a (IntKind.u64.wrap (a*2^(min (13:Int).toNat (IntKind.bits .u64))))) ((bitsI .xor .u64 a (IntKind.u64.wrap (a*2^(min (13:Int).toNat (IntKind.bits .u64))))).fdiv (2^(min (7:Int).toNat (IntKind.bits .u64))))) (IntKind.u64.wrap ((bitsI .xor .u64 (bitsI .xor .u64 a (IntKind.u64.wrap (a*2^(min (13:Int).toNat (IntKind.bits .u64))))) ((bitsI .xor .u64 a (IntKind.u64.wrap (a*2^(min (13:Int).toNat (IntKind.bits .u64))))).fdiv (2^(min (7:Int).toNat (IntKind.bits .u64)))))*2^(min (17:Int).toNat (IntKind.bits .u64))))))else none else none else none)
theorem jet :mK 271 ⟨⟨[.box 900000 0],[(900000,false,[.pv (.int .u64)])]⟩,⟨[.pv (.int .u64)],[(900000,false,[.pv (.int .u64)])]⟩,c1A (k__slices_xorshift_Next_m N)⟩:=
 mO ja func271 rfl N .no _ (rs:=[900000])
section
variable {Y γ Z : Type} (c : γ -> Y -> Y -> Option Int)
def swpG (d:List Y) (i j:Int) (k:List Y->Option Z):Option Z:=
 if 0<=j/\j<(d.length:Int)then oB (d[j.toNat]?) fun e=>if 0<=i/\i<(d.length:Int)then oB (d[i.toNat]?) fun e2=>
  if 0<=i/\i<(d.length:Int)then oB (d[i.toNat]?) fun e3=>if 0<=j/\j<((d.set i.toNat e).length:Int)then oB ((d.set i.toNat e)[j.toNat]?) fun e4=>k ((d.set i.toNat e).set j.toNat e2)
  else none else none else none else none
def cmpG (ks:γ) (d:List Y) (i j:Int) (k:Int->Option Z):Option Z:=
 if 0<=i/\i<(d.length:Int)then oB (d[i.toNat]?) fun e=>if 0<=j/\j<(d.length:Int)then oB (d[j.toNat]?) fun e2=>oB (c ks e e2) k else none else none
def cmpP (ks:γ) (d:List Y) (j:Int) (k:Int->Option Z):Option Z:=
 if 0<=j/\j<(d.length:Int)then oB (d[j.toNat]?) fun e=>if fits (j-1)then if 0<=(j-1)/\(j-1)<(d.length:Int)then oB (d[(j-1).toNat]?) fun e2=>oB (c ks e e2) k else none else none else none
def swpP (d:List Y) (j:Int) (k:List Y->Option Z):Option Z:=if fits (j-1)then if fits (j-1)then swpG d j (j-1) k else none else none
def insG (N:Nat) (d:List Y) (a b:Int) (ks:γ):Option (List Y):=
 if fits (a+1)then iter (fun go (g:List Y×Int×Int×γ×Int)=>
  match g with
  |(d2,a2,b2,ks2,i)=>
  bif decide (i<b2)then
   iter (fun go2 (g:List Y×Int×Int×γ×Int×Int)=>
    match g with
    |(d3,a3,b3,ks3,i2,j)=>
    bif decide (a3<j)then cmpP c ks3 d3 j fun r=>bif decide (r<0)then swpP d3 j fun d=>if fits (j-1)then go2 (d,a3,b3,ks3,i2,j-1)else none
     else if fits (i2+1)then go (d3,a3,b3,ks3,i2+1)else none
    else if fits (i2+1)then go (d3,a3,b3,ks3,i2+1)else none) N (d2,a2,b2,ks2,i,i)
  else some d2) N (d,a,b,ks,a+1)else none
def siftG (N:Nat) (data:List Y) (lo:Int) (hi:Int) (first:Int) (cmp:γ):Option ((List Y)):=
 (iter (fun go (g:(List Y)×Int×Int×γ×Int)=>
   match g with
   |(data2,hi2,first2,cmp2,root)=>
   (if fits (2*root)then(if fits ((2*root)+1)then(bif(decide (hi2<=((2*root)+1)))then
      (some data2)
      else
      (meet (fun(g:(List Y)×Int×Int×γ×Int×Int)=>
        match g with
        |(data3,hi3,first3,cmp3,root2,child)=>
        (if fits (first3+root2)then(if 0<=(first3+root2)/\(first3+root2)<(data3.length:Int)then
          (oB (data3[(first3+root2).toNat]?) fun e3=>
           (if fits (first3+child)then(if 0<=(first3+child)/\(first3+child)<(data3.length:Int)then
             (oB (data3[(first3+child).toNat]?) fun e4=>
              (oB (c cmp3 e3 e4) fun r2=>
               (bif(!(decide (r2<0)))then
                (some data3)
                else
                (if fits (first3+root2)then(if fits (first3+child)then(if fits (first3+child)then(if 0<=(first3+child)/\(first3+child)<(data3.length:Int)then
                    (oB (data3[(first3+child).toNat]?) fun e5=>
                     (if fits (first3+root2)then(if 0<=(first3+root2)/\(first3+root2)<(data3.length:Int)then
                       (oB (data3[(first3+root2).toNat]?) fun e6=>
                        (if 0<=(first3+root2)/\(first3+root2)<(data3.length:Int)then
                         (oB (data3[(first3+root2).toNat]?) fun e7=>
                          (if 0<=(first3+child)/\(first3+child)<((data3.set (first3+root2).toNat e5).length:Int)then
                           (oB ((data3.set (first3+root2).toNat e5)[(first3+child).toNat]?) fun e8=>
                            (go (((data3.set (first3+root2).toNat e5).set (first3+child).toNat e6),hi3,first3,cmp3,child)))
                           else none))
                         else none))
                       else none)else none))
                    else none)else none)else none)else none))))
             else none)else none))
          else none)else none)) fun J=>
       (if fits (((2*root)+1)+1)then(bif(decide ((((2*root)+1)+1)<hi2))then
         (if fits (first2+((2*root)+1))then(if 0<=(first2+((2*root)+1))/\(first2+((2*root)+1))<(data2.length:Int)then
           (oB (data2[(first2+((2*root)+1)).toNat]?) fun e=>
            (if fits (first2+((2*root)+1))then(if fits ((first2+((2*root)+1))+1)then(if 0<=((first2+((2*root)+1))+1)/\((first2+((2*root)+1))+1)<(data2.length:Int)then
               (oB (data2[((first2+((2*root)+1))+1).toNat]?) fun e2=>
                (oB (c cmp2 e e2) fun r=>
                 (bif(decide (r<0))then
                  (if fits (((2*root)+1)+1)then(J (data2,hi2,first2,cmp2,root,(((2*root)+1)+1)))else none)
                  else
                  (J (data2,hi2,first2,cmp2,root,((2*root)+1))))))
               else none)else none)else none))
           else none)else none)
         else
         (J (data2,hi2,first2,cmp2,root,((2*root)+1))))else none)))else none)else none)) N (data,hi,first,cmp,lo))
def heapG (N:Nat) (data:List Y) (a:Int) (b:Int) (cmp:γ):Option ((List Y)):=
 (if fits (b-a)then(if fits ((b-a)-1)then(if 2≠0 then
    (if fits (((b-a)-1).tdiv 2)then(iter (fun go (g:(List Y)×γ×Int×Int×Int×Int)=>
       match g with
       |(data2,cmp2,first,lo,hi,i)=>
       (bif(decide ((0:Int)<=i))then
        (oB (siftG c N data2 i hi first cmp2) fun r=>
         (if fits (i-1)then(go (r,cmp2,first,lo,hi,(i-1)))else none))
        else
        (if fits (hi-1)then(iter (fun go2 (g:(List Y)×γ×Int×Int×Int)=>
           match g with
           |(data3,cmp3,first2,lo2,i2)=>
           (bif(decide ((0:Int)<=i2))then
            (if fits (first2+i2)then(if fits (first2+i2)then swpG data3 first2 (first2+i2) fun d=>(oB (siftG c N d lo2 i2 first2 cmp3) fun r2=>
                       (if fits (i2-1)then(go2 (r2,cmp3,first2,lo2,(i2-1)))else none))else none)else none)
            else
            (some data3))) N (data2,cmp2,first,lo,(hi-1)))else none))) N (data,cmp,a,0,(b-a),(((b-a)-1).tdiv 2)))else none)
    else none)else none)else none)
def breakG (N:Nat) (data:List Y) (a:Int) (b:Int) (cmp:γ):Option (List Y):=
 (if fits (b-a)then(bif(decide ((8:Int)<=(b-a)))then
   (oB (k_slices_nextPowerOfTwo_m N (b-a)) fun r=>
    (if 4≠0 then
     (if fits ((b-a).tdiv 4)then(if fits (((b-a).tdiv 4)*2)then(if fits (a+(((b-a).tdiv 4)*2))then(if fits ((a+(((b-a).tdiv 4)*2))-1)then(iter (fun go (g:(List Y)×Int×Int×Int×Int×Int)=>
           match g with
           |(data2,a2,length,modulus,idx0,random)=>
           (if 4≠0 then
            (if fits (length.tdiv 4)then(if fits ((length.tdiv 4)*2)then(if fits (a2+((length.tdiv 4)*2))then(if fits ((a2+((length.tdiv 4)*2))+1)then(bif(decide (idx0<=((a2+((length.tdiv 4)*2))+1)))then
                 (oB (k__slices_xorshift_Next_m N random) fun r2=>
                  (meet (fun(g:(List Y)×Int×Int×Int×Int×Int×Int)=>
                    match g with
                    |(data3,a3,length2,modulus2,idx02,other,random2)=>
                    (if fits (a3+other)then(if fits (a3+other)then swpG data3 idx02 (a3+other) fun d=>(if fits (idx02+1)then(go (d,a3,length2,modulus2,(idx02+1),random2))else none)else none)else none)) fun J=>
                   (bif(decide (length<=(IntKind.i64.wrap (bitsI .and .u64 r2.1 (IntKind.u64.wrap (modulus-1))))))then
                    (if fits ((IntKind.i64.wrap (bitsI .and .u64 r2.1 (IntKind.u64.wrap (modulus-1))))-length)then(J (data2,a2,length,modulus,idx0,((IntKind.i64.wrap (bitsI .and .u64 r2.1 (IntKind.u64.wrap (modulus-1))))-length),r2.2))else none)
                    else
                    (J (data2,a2,length,modulus,idx0,(IntKind.i64.wrap (bitsI .and .u64 r2.1 (IntKind.u64.wrap (modulus-1)))),r2.2)))))
                 else
                 (some data2))else none)else none)else none)else none)
            else none)) N (data,a,(b-a),r,((a+(((b-a).tdiv 4)*2))-1),(IntKind.u64.wrap (b-a))))else none)else none)else none)else none)
     else none))
   else
   (some data))else none)
def order2G (N:Nat) (data:List Y) (a:Int) (b:Int) (cmp:γ) (b2:Int):Option (Int×Int×(List Y)×Int):=
 cmpG c cmp data b a fun r=>(bif(decide (r<0))then(if fits (b2+1)then(some (b,a,data,(b2+1)))else none)else(some (a,b,data,b2)))
def medianG (N:Nat) (data:List Y) (a:Int) (b:Int) (c0:Int) (cmp:γ) (b2:Int):Option (Int×(List Y)×Int):=
 (oB (order2G c N data a b cmp b2) fun r=>
  (oB (order2G c N r.2.2.1 r.2.1 c0 cmp r.2.2.2) fun r2=>
   (oB (order2G c N r2.2.2.1 r.1 r2.1 cmp r2.2.2.2) fun r3=>
    (some (r3.2.1,r3.2.2.1,r3.2.2.2)))))
def medianAdjacentG (N:Nat) (data:List Y) (a:Int) (cmp:γ) (b:Int):Option (Int×(List Y)×Int):=
 (if fits (a-1)then(if fits (a+1)then(oB (medianG c N data (a-1) a (a+1) cmp b) fun r=>
    (some (r.1,r.2.1,r.2.2)))else none)else none)
def choosePivotG (N:Nat) (data:List Y) (a:Int) (b:Int) (cmp:γ):Option (Int×Int×(List Y)):=
 (if fits (b-a)then(if 4≠0 then
   (if fits ((b-a).tdiv 4)then(if fits (((b-a).tdiv 4)*1)then(if fits (a+(((b-a).tdiv 4)*1))then(if 4≠0 then
       (if fits ((b-a).tdiv 4)then(if fits (((b-a).tdiv 4)*2)then(if fits (a+(((b-a).tdiv 4)*2))then(if 4≠0 then
           (if fits ((b-a).tdiv 4)then(if fits (((b-a).tdiv 4)*3)then(if fits (a+(((b-a).tdiv 4)*3))then(meet (fun(g:(List Y)×Int×Int)=>
                match g with
                |(data3,j2,swaps2)=>
                (bif(decide (swaps2=0))then
                 (some (j2,1,data3))
                 else
                 (bif(decide (swaps2=12))then
                  (some (j2,2,data3))
                  else
                  (some (j2,0,data3))))) fun J=>
               (bif(decide ((8:Int)<=(b-a)))then
                (meet (fun(g:(List Y)×γ×Int×Int×Int×Int)=>
                  match g with
                  |(data2,cmp2,i,j,k,swaps)=>
                  (oB (medianG c N data2 i j k cmp2 swaps) fun r4=>
                   (J (r4.2.1,r4.1,r4.2.2)))) fun J2=>
                 (bif(decide ((50:Int)<=(b-a)))then
                  (oB (medianAdjacentG c N data (a+(((b-a).tdiv 4)*1)) cmp 0) fun r=>
                   (oB (medianAdjacentG c N r.2.1 (a+(((b-a).tdiv 4)*2)) cmp r.2.2) fun r2=>
                    (oB (medianAdjacentG c N r2.2.1 (a+(((b-a).tdiv 4)*3)) cmp r2.2.2) fun r3=>
                     (J2 (r3.2.1,cmp,r.1,r2.1,r3.1,r3.2.2)))))
                  else
                  (J2 (data,cmp,(a+(((b-a).tdiv 4)*1)),(a+(((b-a).tdiv 4)*2)),(a+(((b-a).tdiv 4)*3)),0))))
                else
                (J (data,(a+(((b-a).tdiv 4)*2)),0))))else none)else none)else none)
           else none)else none)else none)else none)
       else none)else none)else none)else none)
   else none)else none)
def reverseRangeG (N:Nat) (data:List Y) (a:Int) (b:Int) (cmp:γ):Option ((List Y)):=
 (if fits (b-1)then(iter (fun go (g:(List Y)×Int×Int)=>
    match g with
    |(data2,i,j)=>
    (bif(decide (i<j))then swpG data2 i j fun d=>(if fits (i+1)then(if fits (j-1)then(go (d,(i+1),(j-1)))else none)else none)
     else
     (some data2))) N (data,a,(b-1)))else none)
def shDown (k:(List Y×Int×Int×γ×Int×Int)->Option Z) (N:Nat) (g:List Y×Int×Int×γ×Int×Int×Int):Option Z:=
 iter (fun go3 (g:(List Y)×Int×Int×γ×Int×Int×Int)=>
  match g with
  |(d,a,b,ks,i,j,j4)=>
  bif decide ((1:Int)<=j4)then cmpP c ks d j4 fun r=>bif !decide (r<0)then k (d,a,b,ks,i,j)else swpP d j4 fun d'=>if fits (j4-1)then go3 (d',a,b,ks,i,j,j4-1)else none
  else k (d,a,b,ks,i,j)) N g
def shUp (k:(List Y×Int×Int×γ×Int×Int)->Option Z) (N:Nat) (g:List Y×Int×Int×γ×Int×Int×Int):Option Z:=
 iter (fun go4 (g:(List Y)×Int×Int×γ×Int×Int×Int)=>
  match g with
  |(d,a,b,ks,i,j,j4)=>
  bif decide (j4<b)then cmpP c ks d j4 fun r=>bif !decide (r<0)then(if fits (j+1)then k (d,a,b,ks,i,j+1)else none)else swpP d j4 fun d'=>if fits (j4+1)then go4 (d',a,b,ks,i,j,j4+1)else none
  else if fits (j+1)then k (d,a,b,ks,i,j+1)else none) N g
def pisX (N:Nat) (go:(List Y×Int×Int×γ×Int×Int)->Option (Bool×List Y)) (d:List Y) (a b:Int) (ks:γ) (i j:Int):Option (Bool×List Y):=
 bif decide (i=b)then some (true,d)else if fits (b-a)then bif decide ((b-a)<50)then some (false,d)else
  swpP d i fun d'=>meet (fun(g:List Y×Int×Int×γ×Int×Int)=>
   match g with
   |(d5,a5,b5,ks5,i4,j5)=>
   if fits (b5-i4)then bif decide ((2:Int)<=(b5-i4))then if fits (i4+1)then shUp c go N (d5,a5,b5,ks5,i4,j5,i4+1)else none
    else(if fits (j5+1)then go (d5,a5,b5,ks5,i4,j5+1)else none)else none) fun J=>
   if fits (i-a)then bif decide ((2:Int)<=(i-a))then if fits (i-1)then shDown c J N (d',a,b,ks,i,j,i-1)else none else J (d',a,b,ks,i,j)else none
 else none
def pisG (N:Nat) (d:List Y) (a b:Int) (ks:γ):Option (Bool×List Y):=
 if fits (a+1)then iter (fun go (g:List Y×Int×Int×γ×Int×Int)=>
  match g with
  |(d2,a2,b2,ks2,i,j)=>
  bif decide (j<5)then
   iter (fun go2 (g:List Y×Int×Int×γ×Int×Int)=>
    match g with
    |(d3,a3,b3,ks3,i2,j2)=>
    bif decide (i2<b3)then cmpP c ks3 d3 i2 fun r=>bif !decide (r<0)then(if fits (i2+1)then go2 (d3,a3,b3,ks3,i2+1,j2)else none)else pisX c N go d3 a3 b3 ks3 i2 j2
    else pisX c N go d3 a3 b3 ks3 i2 j2) N (d2,a2,b2,ks2,i,j)
  else some (false,d2)) N (d,a,b,ks,a+1,0)else none
def partE (go3:(List Y×Int×γ×Int×Int)->Option (Int×Bool×List Y)) (fl:Bool) (g:List Y×Int×γ×Int×Int):Option (Int×Bool×List Y):=
 match g with
 |(d,a,ks,i,j)=>
 bif decide (j<i)then swpG d j a fun d'=>some (j,fl,d')else swpG d i j fun d'=>if fits (i+1)then if fits (j-1)then go3 (d',a,ks,i+1,j-1)else none else none
def partD (k:(List Y×Int×γ×Int×Int)->Option Z) (N:Nat) (g:List Y×Int×γ×Int×Int):Option Z:=
 iter (fun go (g:List Y×Int×γ×Int×Int)=>
  match g with
  |(d,a,ks,i,j)=>
  bif decide (i<=j)then cmpG c ks d j a fun r=>bif !decide (r<0)then(if fits (j-1)then go (d,a,ks,i,j-1)else none)else k (d,a,ks,i,j)
  else k (d,a,ks,i,j)) N g
def partU (k:(List Y×Int×γ×Int×Int)->Option Z) (N:Nat) (g:List Y×Int×γ×Int×Int):Option Z:=
 iter (fun go (g:List Y×Int×γ×Int×Int)=>
  match g with
  |(d,a,ks,i,j)=>
  bif decide (i<=j)then cmpG c ks d i a fun r=>bif decide (r<0)then(if fits (i+1)then go (d,a,ks,i+1,j)else none)else k (d,a,ks,i,j)
  else k (d,a,ks,i,j)) N g
def partG (N:Nat) (d:List Y) (a b p:Int) (ks:γ):Option (Int×Bool×List Y):=
 swpG d a p fun d=>if fits (a+1)then if fits (b-1)then
  partU c (fun g=>partD c (partE (fun g=>iter (fun go3 g=>partU c (fun g=>partD c (partE go3 false) N g) N g) N g) true) N g) N (d,a,ks,a+1,b-1)
 else none else none
def peqE (go:(List Y×Int×γ×Int×Int)->Option (Int×List Y)) (g:List Y×Int×γ×Int×Int):Option (Int×List Y):=
 match g with
 |(d,a,ks,i,j)=>
 bif decide (j<i)then some (i,d)else swpG d i j fun d'=>if fits (i+1)then if fits (j-1)then go (d',a,ks,i+1,j-1)else none else none
def peqD (k:(List Y×Int×γ×Int×Int)->Option Z) (N:Nat) (g:List Y×Int×γ×Int×Int):Option Z:=
 iter (fun go (g:List Y×Int×γ×Int×Int)=>
  match g with
  |(d,a,ks,i,j)=>
  bif decide (i<=j)then cmpG c ks d a j fun r=>bif decide (r<0)then(if fits (j-1)then go (d,a,ks,i,j-1)else none)else k (d,a,ks,i,j)
  else k (d,a,ks,i,j)) N g
def peqU (k:(List Y×Int×γ×Int×Int)->Option Z) (N:Nat) (g:List Y×Int×γ×Int×Int):Option Z:=
 iter (fun go (g:List Y×Int×γ×Int×Int)=>
  match g with
  |(d,a,ks,i,j)=>
  bif decide (i<=j)then cmpG c ks d a i fun r=>bif !decide (r<0)then(if fits (i+1)then go (d,a,ks,i+1,j)else none)else k (d,a,ks,i,j)
  else k (d,a,ks,i,j)) N g
def peqG (N:Nat) (d:List Y) (a b p:Int) (ks:γ):Option (Int×List Y):=
 swpG d a p fun d=>if fits (a+1)then if fits (b-1)then iter (fun go g=>peqU c (fun g=>peqD c (peqE go) N g) N g) N (d,a,ks,a+1,b-1)else none else none
def pdqG (hs:List Y->Int->Int->γ->Option (List Y)) (pe:List Y->Int->Int->Int->γ->Option (Int×List Y)) (N:Nat):(D:Nat)->(List Y)->Int->Int->Int->γ->Option ((List Y))
 |0,_,_,_,_,_=>none
 |D+1,data,a,b,limit,cmp=>
 (iter (fun go (g:(List Y)×Int×Int×Int×γ×Bool×Bool)=>
   match g with
   |(data2,a2,b2,limit2,cmp2,wasBalanced,wasPartitioned)=>
   (if fits (b2-a2)then(bif(decide ((b2-a2)<=12))then
     (oB (insG c N data2 a2 b2 cmp2) fun r=>
      (some r))
     else
     (bif(decide (limit2=0))then
      (oB (hs data2 a2 b2 cmp2) fun r2=>
       (some r2))
      else
      (meet (fun(g:(List Y)×Int×Int×Int×γ×Bool×Bool×Int)=>
        match g with
        |(data3,a3,b3,limit3,cmp3,wasBalanced2,wasPartitioned2,length)=>
        (oB (choosePivotG c N data3 a3 b3 cmp3) fun r4=>
         (meet (fun(g:(List Y)×Int×Int×Int×γ×Bool×Bool×Int×Int×Int)=>
           match g with
           |(data4,a4,b4,limit4,cmp4,wasBalanced3,wasPartitioned3,length2,pivot,hint)=>
           (meet (fun(g:(List Y)×Int×Int×Int×γ×Bool×Bool×Int×Int)=>
             match g with
             |(data5,a5,b5,limit5,cmp5,wasBalanced4,wasPartitioned4,length3,pivot2)=>
             (bif(decide ((0:Int)<a5))then
              (if fits (a5-1)then(if 0<=(a5-1)/\(a5-1)<(data5.length:Int)then
                (oB (data5[(a5-1).toNat]?) fun e=>
                 (if 0<=pivot2/\pivot2<(data5.length:Int)then
                  (oB (data5[pivot2.toNat]?) fun e2=>
                   (oB (c cmp5 e e2) fun r7=>
                    (bif(!(decide (r7<0)))then
                     (oB (pe data5 a5 b5 pivot2 cmp5) fun r8=>
                      (go (r8.2,r8.1,b5,limit5,cmp5,wasBalanced4,wasPartitioned4)))
                     else
                     (oB (partG c N data5 a5 b5 pivot2 cmp5) fun r9=>
                      (if fits (r9.1-a5)then(if fits (b5-r9.1)then(if 8≠0 then
                         (if fits (length3.tdiv 8)then(bif(decide ((r9.1-a5)<(b5-r9.1)))then
                           (oB (pdqG hs pe N D r9.2.2 a5 r9.1 limit5 cmp5) fun r10=>
                            (if fits (r9.1+1)then(go (r10,(r9.1+1),b5,limit5,cmp5,(decide ((length3.tdiv 8)<=(r9.1-a5))),r9.2.1))else none))
                           else
                           (if fits (r9.1+1)then(oB (pdqG hs pe N D r9.2.2 (r9.1+1) b5 limit5 cmp5) fun r11=>
                             (go (r11,a5,r9.1,limit5,cmp5,(decide ((length3.tdiv 8)<=(b5-r9.1))),r9.2.1)))else none))else none)
                         else none)else none)else none)))))
                  else none))
                else none)else none)
              else
              (oB (partG c N data5 a5 b5 pivot2 cmp5) fun r12=>
               (if fits (r12.1-a5)then(if fits (b5-r12.1)then(if 8≠0 then
                  (if fits (length3.tdiv 8)then(bif(decide ((r12.1-a5)<(b5-r12.1)))then
                    (oB (pdqG hs pe N D r12.2.2 a5 r12.1 limit5 cmp5) fun r13=>
                     (if fits (r12.1+1)then(go (r13,(r12.1+1),b5,limit5,cmp5,(decide ((length3.tdiv 8)<=(r12.1-a5))),r12.2.1))else none))
                    else
                    (if fits (r12.1+1)then(oB (pdqG hs pe N D r12.2.2 (r12.1+1) b5 limit5 cmp5) fun r14=>
                      (go (r14,a5,r12.1,limit5,cmp5,(decide ((length3.tdiv 8)<=(b5-r12.1))),r12.2.1)))else none))else none)
                  else none)else none)else none)))) fun J3=>
            (bif wasBalanced3 then
             (bif wasPartitioned3 then
              (bif(decide (hint=1))then
               (oB (pisG c N data4 a4 b4 cmp4) fun r6=>
                (bif r6.1 then
                 (some r6.2)
                 else
                 (J3 (r6.2,a4,b4,limit4,cmp4,wasBalanced3,wasPartitioned3,length2,pivot))))
               else
               (J3 (data4,a4,b4,limit4,cmp4,wasBalanced3,wasPartitioned3,length2,pivot)))
              else
              (J3 (data4,a4,b4,limit4,cmp4,wasBalanced3,wasPartitioned3,length2,pivot)))
             else
             (J3 (data4,a4,b4,limit4,cmp4,wasBalanced3,wasPartitioned3,length2,pivot))))) fun J2=>
          (bif(decide (r4.2.1=2))then
           (oB (reverseRangeG N r4.2.2 a3 b3 cmp3) fun r5=>
            (if fits (b3-1)then(if fits (r4.1-a3)then(if fits ((b3-1)-(r4.1-a3))then(J2 (r5,a3,b3,limit3,cmp3,wasBalanced2,wasPartitioned2,length,((b3-1)-(r4.1-a3)),1))else none)else none)else none))
           else
           (J2 (r4.2.2,a3,b3,limit3,cmp3,wasBalanced2,wasPartitioned2,length,r4.1,r4.2.1)))))) fun J=>
       (bif(!wasBalanced)then
        (oB (breakG N data2 a2 b2 cmp2) fun r3=>
         (if fits (limit2-1)then(J (r3,a2,b2,(limit2-1),cmp2,wasBalanced,wasPartitioned,(b2-a2)))else none))
        else
        (J (data2,a2,b2,limit2,cmp2,wasBalanced,wasPartitioned,(b2-a2)))))))else none)) N (data,a,b,limit,cmp,true,true))
end
def cmp105 (N:Nat):(Unit)->Z2->Z2->Option Int:=(fun(cmp:Unit) (e e2:Z0×Z0×Z15)=>je N e.1 e.2.1 e.2.2 e2.1 e2.2.1 e2.2.2)
def jny :Sh:=⟨.mtk 800000 Y5 131 false::pI::pI:: .clo 93 []::dz 4 (pI::dz 44 []),[]⟩
def jll :Sh:=⟨.mtk 800000 Y5 131 false::pI::pI:: .clo 93 []::dz 4 (pI::pI::dz 43 []),[]⟩
def jeC (b:List Z2) (d:Int) (c:Int) (a:Unit):Option ((List Z2)):=insG (cmp105 N) N b d c a
 
theorem jqw :mK 211 (bX [.mtk 800000 Y5 131 false,pI,pI,.clo 93 []] [.tup [],.mtk 800000 Y5 131 false] (c4A (jeC N))):=
 mO (fC (jaf N) ja) func211 rfl N (.seq .no (.block (.loop jny (.seq .no (.seq (.block (.seq .no (.block (.loop jll .no)))) .no))))) _ (rs:=[800000])
def jnV :Sh:=⟨.mtk 800000 Y5 131 false:: .dead::pI::pI:: .clo 93 []::dz 5 (pI::dz 71 []),[]⟩
def jmo :Sh:=⟨.mtk 800000 Y5 131 false:: .dead::pI::pI:: .clo 93 []::dz 5 (pI::pI::dz 70 []),[]⟩
def jdy (c:List Z2) (e:Int) (b:Int) (a:Int) (d:Unit):Option ((List Z2)):=siftG (cmp105 N) N c e b a d
 
theorem jqE :mK 269 (bX [.mtk 800000 Y5 131 false,pI,pI,pI,.clo 93 []] [.tup [],.mtk 800000 Y5 131 false] (c5A (jdy N))):=
 mO (fC (jaf N) ja) func269 rfl N (.seq .no (.block (.loop jnV (.block (.seq .no (.seq .no (.meet jmo .no .no))))))) _ (rs:=[800000])
def jmY :Sh:=⟨.mtk 800000 Y5 131 false:: .dead:: .dead:: .clo 93 []::dz 4 (pI::pI::pI::pI::dz 48 []),[]⟩
def jq3 :Sh:=⟨.mtk 800000 Y5 131 false:: .dead:: .dead:: .clo 93 []::dz 4 (pI::pI:: .dead:: .dead::pI::dz 47 []),[]⟩
def jaC (b:List Z2) (d:Int) (c:Int) (a:Unit):Option ((List Z2)):=heapG (cmp105 N) N b d c a
 
theorem jqz :mK 212 (bX [.mtk 800000 Y5 131 false,pI,pI,.clo 93 []] [.tup [],.mtk 800000 Y5 131 false] (c4A (jaC N))):=
 mO (fC (jqE N) ja) func212 rfl N (.seq .no (.seq .no (.seq .no (.seq (.seq .no (.block (.loop jmY .no))) (.seq .no (.block (.loop jq3 .no))))))) _ (rs:=[800000])
def jkH :Sh:=⟨.mtk 800000 Y5 131 false::pI::dz 6 (pI:: .box 9 0:: .pv (.int .u64)::pI::dz 55 []),[(9,false,[.pv (.int .u64)])]⟩
def jmx :Sh:=⟨.mtk 800000 Y5 131 false::pI::dz 6 (pI:: .box 9 0:: .pv (.int .u64)::pI::pI::dz 54 []),[(9,false,[.pv (.int .u64)])]⟩
def jez (b:List Z2) (d:Int) (c:Int) (a:Unit):Option ((List Z2)):=breakG N b d c a
 
theorem jlO :mK 213 (bX [.mtk 800000 Y5 131 false,pI,pI,.clo 93 []] [.tup [],.mtk 800000 Y5 131 false] (c4A (jez N))):=
 mO (fC (jhv N) (fC (jet N) ja)) func213 rfl N (.seq .no (.seq .no (.cond (.seq .no (.seq .no (.seq .no (.block (.loop jkH (.seq .no (.seq (.block (.seq .no (.meet jmx .no .no))) .no))))))) .no))) _ (rs:=[800000])
def jcG (c:List Z2) (e:Int) (d:Int) (a:Unit) (b:Int):Option (Int×Int×(List Z2)×Int):=order2G (cmp105 N) N c e d a b
 
theorem jrN :mK 303 ⟨⟨[.mtk 800000 Y5 131 false,pI,pI,.box 900003 0,.clo 93 []],[(900003,false,[pI])]⟩,⟨[.tup [pI,pI],.mtk 800000 Y5 131 false],[(900003,false,[pI])]⟩,c5A (jcG N)⟩:=
 mO (fC (jaf N) ja) func303 rfl N .no _ (rs:=[900003,800000])
def jdE (d:List Z2) (f:Int) (e:Int) (b:Int) (a:Unit) (c:Int):Option (Int×(List Z2)×Int):=medianG (cmp105 N) N d f e b a c
 
theorem jfr :mK 273 ⟨⟨[.mtk 800000 Y5 131 false,pI,pI,pI,.box 900004 0,.clo 93 []],[(900004,false,[pI])]⟩,⟨[pI,.mtk 800000 Y5 131 false],[(900004,false,[pI])]⟩,c6A (jdE N)⟩:=
 mO (fC (jrN N) ja) func273 rfl N .no _ (rs:=[900004,800000])
def jca (b:List Z2) (d:Int) (a:Unit) (c:Int):Option (Int×(List Z2)×Int):=medianAdjacentG (cmp105 N) N b d a c
 
theorem jko :mK 272 ⟨⟨[.mtk 800000 Y5 131 false,pI,.box 900002 0,.clo 93 []],[(900002,false,[pI])]⟩,⟨[pI,.mtk 800000 Y5 131 false],[(900002,false,[pI])]⟩,c4A (jca N)⟩:=
 mO (fC (jfr N) ja) func272 rfl N .no _ (rs:=[900002,800000])
def jnR :Sh:=⟨.mtk 800000 Y5 131 false:: .dead:: .dead:: .clo 93 []::dz 7 (.box 11 0::pI::pI::pI::dz 48 []),[(11,false,[pI])]⟩
def jrt :Sh:=⟨.mtk 800000 Y5 131 false::dz 10 (.box 11 0:: .dead::pI::dz 49 []),[(11,false,[pI])]⟩
def jjM (b:List Z2) (d:Int) (c:Int) (a:Unit):Option (Int×Int×(List Z2)):=choosePivotG (cmp105 N) N b d c a
 
theorem joO :mK 214 (bX [.mtk 800000 Y5 131 false,pI,pI,.clo 93 []] [.tup [pI,pI],.mtk 800000 Y5 131 false] (c4A (jjM N))):=
 mO (fC (jko N) (fC (jfr N) ja)) func214 rfl N (.seq .no (.seq .no (.seq .no (.seq .no (.seq .no (.seq .no (.meet jrt (.seq .no (.cond (.meet jnR .no .no) .no)) .no))))))) _ (rs:=[800000])
def jpl :Sh:=⟨.mtk 800000 Y5 131 false::dz 7 (pI::pI::dz 24 []),[]⟩
def jeV (b:List Z2) (d:Int) (c:Int) (a:Unit):Option ((List Z2)):=reverseRangeG N b d c a
 
theorem jma :mK 215 (bX [.mtk 800000 Y5 131 false,pI,pI,.clo 93 []] [.tup [],.mtk 800000 Y5 131 false] (c4A (jeV N))):=
 mO ja func215 rfl N (.seq .no (.seq .no (.block (.loop jpl .no)))) _ (rs:=[800000])
def jn3 :Sh:=⟨.mtk 800000 Y5 131 false::pI::pI:: .clo 93 []::dz 5 (pI::pI::dz 130 []),[]⟩
def jsj :Sh:=⟨.mtk 800000 Y5 131 false::pI::pI:: .clo 93 []::dz 5 (pI::pI::pI::dz 129 []),[]⟩
def jnQ :Sh:=⟨.mtk 800000 Y5 131 false::pI::pI:: .clo 93 []::dz 5 (pI::pI:: .dead::pI::dz 128 []),[]⟩
def jhb (b:List Z2) (d:Int) (c:Int) (a:Unit):Option (Bool×(List Z2)):=pisG (cmp105 N) N b d c a
 
theorem jnw :mK 216 (bX [.mtk 800000 Y5 131 false,pI,pI,.clo 93 []] [pB,.mtk 800000 Y5 131 false] (c4A (jhb N))):=
 mO (fC (jaf N) ja) func216 rfl N (.seq .no (.seq .no (.seq (.seq .no (.block (.loop jn3 (.seq .no (.seq (.block (.seq (.block (.loop jn3 .no)) (.seq .no (.seq .no (.seq .no (.meet jn3 (.seq .no (.cond (.seq .no (.block (.loop jsj .no))) .no)) (.seq .no (.cond (.seq .no (.block (.loop jnQ .no))) .no)))))))) .no))))) .no))) _ (rs:=[800000])
def jnv :Sh:=⟨.mtk 800000 Y5 131 false::pI:: .dead:: .dead:: .clo 93 []::dz 6 (pI::pI::dz 77 []),[]⟩
def jbG (b:List Z2) (d:Int) (c:Int) (e:Int) (a:Unit):Option (Int×(List Z2)):=peqG (cmp105 N) N b d c e a
 
theorem jp1 :mK 217 (bX [.mtk 800000 Y5 131 false,pI,pI,pI,.clo 93 []] [pI,.mtk 800000 Y5 131 false] (c5A (jbG N))):=
 mO (fC (jaf N) ja) func217 rfl N (.seq .no (.seq .no (.seq .no (.seq (.block (.loop jnv (.block (.seq (.block (.loop jnv .no)) (.seq (.block (.loop jnv .no)) .no))))) .no)))) _ (rs:=[800000])
def jru :Sh:=⟨.mtk 800000 Y5 131 false::pI:: .dead:: .dead:: .clo 93 []::dz 7 (pI::pI::dz 164 []),[]⟩
def jcT (b:List Z2) (d:Int) (c:Int) (e:Int) (a:Unit):Option (Int×Bool×(List Z2)):=partG (cmp105 N) N b d c e a
 
theorem jrO :mK 218 (bX [.mtk 800000 Y5 131 false,pI,pI,pI,.clo 93 []] [.tup [pI,pB],.mtk 800000 Y5 131 false] (c5A (jcT N))):=
 mO (fC (jaf N) ja) func218 rfl N (.seq .no (.seq .no (.seq .no (.seq (.block (.loop jru .no)) (.seq (.block (.loop jru .no)) (.seq .no (.seq .no (.seq .no (.seq .no (.seq (.block (.loop jru (.block (.seq (.block (.loop jru .no)) (.seq (.block (.loop jru .no)) .no))))) .no)))))))))) _ (rs:=[800000])
def jmM :Sh:=⟨.mtk 800000 Y5 131 false::pI::pI::pI:: .clo 93 []::dz 5 (pB::pB::dz 136 []),[]⟩
def jnd :Sh:=⟨.mtk 800000 Y5 131 false::pI::pI::pI:: .clo 93 []::dz 5 (pB::pB::pI::pI::dz 134 []),[]⟩
def jmi :Sh:=⟨.mtk 800000 Y5 131 false::pI::pI::pI:: .clo 93 []::dz 5 (pB::pB::pI::pI::pI::dz 133 []),[]⟩
def js7 :Sh:=⟨.mtk 800000 Y5 131 false::pI::pI::pI:: .clo 93 []::dz 5 (pB::pB::pI::dz 135 []),[]⟩
def jK (N D:Nat) (f:List Z2) (b a limit:Int) (h:Unit):Option ((List Z2)):=pdqG (cmp105 N) (fun d b a c=>heapG (cmp105 N) N d b a c) (fun d b a e c=>peqG (cmp105 N) N d b a e c) N D f b a limit h
 
def jcj (N D:Nat):Model:=⟨⟨[.mtk 800000 Y5 131 false,pI,pI,pI,.clo 93 []],[]⟩,⟨[.tup [],.mtk 800000 Y5 131 false],[]⟩,c5A (jK N D)⟩
theorem jrm (N D:Nat) (ih:mK 160 (jcj N D)):mK 160 (jcj N (D+1)):=
 mO (fC ih (fC (jqw N) (fC (jqz N) (fC (jlO N) (fC (joO N) (fC (jma N) (fC (jnw N) (fC (jaf N) (fC (jp1 N) (fC (jrO N) ja)))))))))) func160 rfl N (.seq .no (.seq .no (.block (.loop jmM (.block (.seq .no (.seq .no (.seq .no (.meet js7 .no (.seq .no (.meet jmi .no (.meet jnd .no .no)))))))))))) (jcj N (D+1)) (rs:=[800000])
theorem jix (N:Nat):∀D,mK 160 (jcj N D)
 |0=>modelOk_none ⟨_,func160,by decide,by kernel_rfl⟩ _ (fun a=>rfl)
 |D+1=>jrm N D (jix N D)
def k_slices_SortFunc_105_m (a:List Z2) (d:Unit):Option ((List Z2)):=
 (oB (k_math_bits_Len_m N (IntKind.u64.wrap (a.length:Int))) fun c=>oB (jK N N a 0 (a.length:Int) c ()) fun b=>some b)
theorem jtu :mK 92 (bX [.mtk 800000 Y5 131 false,.clo 93 []] [.tup [],.mtk 800000 Y5 131 false] (c2A (k_slices_SortFunc_105_m N))):=
 mO (fC (jda N) (fC (jix N N) ja)) func92 rfl N .no _ (rs:=[800000])
def jmK :Sh:=⟨.dead:: .dead:: .box 2 0:: .dead:: .box 4 0:: .box 5 0::dz 19 (.pv Y2::pI::pI::dz 32 []),[(2,false,[.pv (.sl .str),.pv Y16]),(4,false,[.nils,.nils]),(5,false,[.pv Y2,.tre 700501 Y5 131])]⟩
def jor :Sh:=⟨.dead:: .dead:: .box 2 0:: .dead:: .box 4 0:: .box 5 0:: .dead:: .box 7 0::dz 17 (.pv Y2::pI::pI::dz 4 (.pv Y19::pI::pI::dz 25 [])),[(2,false,[.pv (.sl .str),.pv Y16]),(4,false,[.nils,.nils]),(5,false,[.pv Y2,.tre 700501 Y5 131]),(7,false,[pI,.pv Y19,.pv Y15])]⟩
def jnj :Sh:=⟨.dead:: .dead:: .box 2 0:: .dead:: .box 4 0:: .box 5 0:: .dead:: .box 7 0:: .dead:: .box 9 0::dz 15 (.pv Y2::pI::pI::dz 4 (.pv Y19::pI::pI::dz 6 (.own 600041 Y17 126 true::pI::pI::dz 16 []))),[(2,false,[.pv (.sl .str),.pv Y16]),(4,false,[.nils,.nils]),(5,false,[.pv Y2,.tre 700501 Y5 131]),(7,false,[pI,.pv Y19,.pv Y15]),(9,false,[pS,pS])]⟩
def jbT (n:List Z0) (S:List Z4) (c:List Z1):Option ((List Z1)×(List Z2)):=
 (oB (jaj N n S) fun W=>bif !W then some (([]:List Z1),([]:List Z2))else oB (jbf N c) fun af=>bif !af then some (([]:List Z1),([]:List Z2))else oB (jbV N c) fun ah=>iter (fun X (t,A,e,ae,ab,r,O)=>bif decide (e<A)then oB (idx t e) fun b=>(iter (fun ac (C,w,l,K,o,i,f,k,D,B,V,aj,ai)=>bif decide (i<o)then oB (idx K i) fun j=>(oB (jbw N f k j.2) fun E=>iter (fun ad (v,G,p,L,y,h,T,I,d,H,Q,U,x,m,u,q,P,aa)=>bif decide (d<I)then oB (idx T d) fun R=>(oB (i_Seg_put_m N P R.1 R.2 m U x) fun z=>if fits (d+1)then ad (v,G,p,L,y,h,T,I,(d+1),H,Q,z.1,z.2,m,u,q,P,aa)else none)else if fits (h+1)then ac (v,G,p,L,y,(h+1),H,Q,U,x,m,u,q)else none) N (C,w,l,K,o,i,E,(E.length:Int),(0:Int),f,k,D,B,V,aj,ai,j.1,j.2))else if fits (l+1)then X (C,w,(l+1),f,k,D,B)else none) N (t,A,e,b.2.1,(b.2.1.length:Int),(0:Int),ae,ab,r,O,b.1,b.2.1,b.2.2))else oB (k_slices_SortFunc_105_m N O ()) fun ag=>some (r,ag)) N (c,(c.length:Int),(0:Int),n,S,ah,([]:List Z2)))
theorem jqC :mK 32 (bX [.agg [.pv (.sl .str),.pv Y16],.pv Y2] [.agg [.pv Y2,.own 1 Y5 131 false]] (c3A (jbT N))):=
 mO (fC (jdX N) (fC (jjU N) (fC (joC N) (fC (jgO N) (fC (jky N) (fC (jtu N) ja)))))) func32 rfl N (.seq .no (.seq .no (.seq .no (.seq (.seq .no (.block (.loop jmK (.seq .no (.seq .no (.seq (.block (.seq .no (.seq .no (.block (.loop jor (.seq .no (.seq .no (.seq (.block (.seq .no (.seq .no (.block (.loop jnj .no))))) .no)))))))) .no)))))) .no)))) _ (wr:=[23]) (dw:=[23,57])
def jtB :Sh:=⟨.pv Y21:: .pv Y21::dz 10 (pI::pI::dz 12 []),[]⟩
def jbX (b:List Int) (f:List Int):Z9:=
 (bif !decide ((b.length:Int)=(f.length:Int))then some false else iter (fun j (d,e,c,a)=>bif decide (a<c)then oB (idx d a) fun i=>(oB (idx e a) fun k=>bif !decide (i=k)then some false else if fits (a+1)then j (d,e,c,(a+1))else none)else some true) N (b,f,(b.length:Int),(0:Int)))
theorem jqi :mK 222 (bX [.pv Y21,.pv Y21] [pB] (c2A (jbX N))):=
 mO ja func222 rfl N (.seq .no (.seq .no (.seq (.seq .no (.block (.loop jtB .no))) .no))) _
def jcp (e:Int) (c:List Int) (b:Int) (a:List Int):Z9:=
 (bif decide (e=b)then oB (jbX N c a) fun d=>(some d)else some false)
theorem jth :mK 166 (bX [.agg [pI,.pv Y21],.agg [pI,.pv Y21]] [pB] (c4A (jcp N))):=
 mO (fC (jqi N) ja) func166 rfl N .no _
def jlX :Sh:=⟨.dead:: .pv Y11:: .clo 166 []::dz 12 (.pv Y11::pI::pI::dz 14 []),[]⟩
def jb6 (b:Z3) (h:Z3) (m:Unit):Z9:=
 (bif !decide ((b.length:Int)=(h.length:Int))then some false else iter (fun k (f,n,e,c,a)=>bif decide (a<c)then oB (idx e a) fun d=>(oB (idx f a) fun i=>oB (jcp N d.1 d.2 i.1 i.2) fun l=>bif !l then some false else if fits (a+1)then k (f,(),e,c,(a+1))else none)else some true) N (h,(),b,(b.length:Int),(0:Int)))
theorem jnG :mK 165 (bX [.pv Y11,.pv Y11,.clo 166 []] [pB] (c3A (jb6 N))):=
 mO (fC (jth N) ja) func165 rfl N (.seq .no (.seq .no (.seq (.seq .no (.block (.loop jlX .no))) .no))) _
def jcz (f:List UInt8) (e:List UInt8) (a:Z3) (d:List UInt8) (b:List UInt8) (c:Z3):Z9:=
 (bif decide (f=d)then bif decide (e=b)then oB (jb6 N a c ()) fun h=>(some h)else(some false)else some false)
theorem jp4 :mK 102 (bX [.agg [pS,pS,.pv Y11],.agg [pS,pS,.pv Y11]] [pB] (c6A (jcz N))):=
 mO (fC (jnG N) ja) func102 rfl N .no _
def jlD :Sh:=⟨.dead:: .pv Y4:: .clo 102 []::dz 12 (.pv Y4::pI::pI::dz 14 []),[]⟩
def jcn (c:List Z2) (i:List Z2) (m:Unit):Z9:=
 (bif !decide ((c.length:Int)=(i.length:Int))then some false else iter (fun k (h,n,f,e,a)=>bif decide (a<e)then oB (idx f a) fun b=>(oB (idx h a) fun d=>oB (jcz N b.1 b.2.1 b.2.2 d.1 d.2.1 d.2.2) fun l=>bif !l then some false else if fits (a+1)then k (h,(),f,e,(a+1))else none)else some true) N (i,(),c,(c.length:Int),(0:Int)))
theorem jsa :mK 101 (bX [.pv Y4,.pv Y4,.clo 102 []] [pB] (c3A (jcn N))):=
 mO (fC (jp4 N) ja) func101 rfl N (.seq .no (.seq .no (.seq (.seq .no (.block (.loop jlD .no))) .no))) _
def i_SegOk_m (a:List Z0) (b:List Z4) (c:List Z1) (h:List Z2):Z9:=
 (oB (jaj N a b) fun i=>bif !i then some false else oB (jbf N c) fun e=>bif !e then some false else oB (jbT N a b c) fun f=>oB (jcn N f.2 h ()) fun d=>some d)
theorem joa :mK 40 (bX [.agg [.pv (.sl .str),.pv Y16],.agg [.pv Y2,.pv Y4]] [pB] (c4A (i_SegOk_m N))):=
 mO (fC (jdX N) (fC (jjU N) (fC (jqC N) (fC (jsa N) ja)))) func40 rfl N .no _
def jDT :Sh:=⟨.pv Y21::dz 4 (.pv Y21::pI::pI::dz 24 []),[]⟩
def jx1 (e:List Int):Z9:=
 (iter (fun h (b,c,d,a)=>bif decide (a<d)then oB (idx c a) fun f=>(oB (jm N f 0 999999999) fun k=>bif !k then some false else bif decide ((0:Int)<a)then if fits (a-1)then oB (idx b (a-1)) fun j=>(bif decide (f<=j)then some false else if fits (a+1)then h (b,c,d,(a+1))else none)else none else if fits (a+1)then h (b,c,d,(a+1))else none)else some (decide ((b.length:Int)<=60))) N (e,e,(e.length:Int),(0:Int)))
theorem jAN :mK 104 (bX [.pv Y21] [pB] (c1A (jx1 N))):=
 mO (fC (jY N) ja) func104 rfl N (.seq .no (.seq (.seq .no (.block (.loop jDT .no))) .no)) _
def jqv :Sh:=⟨.dead::pI:: .dead:: .dead:: .box 4 0::dz 6 (.pv Y2::pI::pI::dz 10 []),[(4,false,[pI,.nils,.nils])]⟩
def i_Seg_doc_m (f:(List Z1)×(List Z2)) (h:Int):Option (Int×Z12×Z7×Bool):=
 (iter (fun k (e,d,c,b,i)=>bif decide (b<c)then oB (idx d b) fun a=>(bif decide (a.1=e)then some (a.1,a.2.1,a.2.2,true)else if fits (b+1)then k (e,d,c,(b+1),i)else none)else some (0,([]:Z14),([]:Z8),false)) N (h,f.1,(f.1.length:Int),(0:Int),(0:Int)))
theorem jlU :mK 136 (bX [.ptr Y1,pI] [.tup [.agg [pI,.pv Y19,.pv Y15],pB]] (c2A (i_Seg_doc_m N))):=
 mO ja func136 rfl N (.seq .no (.seq (.seq .no (.block (.loop jqv .no))) .no)) _
def jIP :Sh:=⟨.pv Y21::pI::dz 5 (pI::pI::dz 10 []),[]⟩
def jHJ (e:List Int) (h:Int):Z13:=
 (iter (fun j (d,c,b,a)=>bif decide (a<b)then oB (idx d a) fun i=>(bif decide (c=i)then some a else if fits (a+1)then j (d,c,b,(a+1))else none)else some (-1)) N (e,h,(e.length:Int),(0:Int)))
theorem jJu :mK 168 (bX [.pv Y21,pI] [pI] (c2A (jHJ N))):=
 mO ja func168 rfl N (.seq .no (.seq (.seq .no (.block (.loop jIP .no))) .no)) _
end Go.Proofs.YtchgdmmcjgmfcaaGreatDoor
