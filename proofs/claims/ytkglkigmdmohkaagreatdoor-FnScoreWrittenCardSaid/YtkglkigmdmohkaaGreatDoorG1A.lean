import Derived.Test.YtkglkigmdmohkaaGreatDoorSA
import Derived.Test.YtkglkigmdmohkaaGreatDoorSC
import Derived.Test.YtkglkigmdmohkaaGreatDoorSJ
import Derived.Test.YtkglkigmdmohkaaGreatDoorSN
import Derived.Test.YtkglkigmdmohkaaGreatDoorSP
set_option linter.unusedVariables false
set_option linter.unusedSimpArgs false
namespace Go.Proofs.YtkglkigmdmohkaaGreatDoor
open Go.RowKit Go.Proofs.Tryz
variable (N : Nat)
open Option renaming bind -> oB
set_option maxRecDepth 1000000
abbrev Z0 :Type:=List UInt8
abbrev Z1 :Type:=Z0×Z0×(List (Int×(List Int)))
abbrev Z2 :Type:=Int×(List (Z0×Z0))×(List (Z0×Int))
abbrev Z3 :Type:=List (Int×(List Int))
abbrev Z4 :Type:=(List Z0)×Z0
abbrev Z5 :Type:=List (Z0×Int)
abbrev Z6 :Type:=List (Z0×Int)
abbrev Z7 :Type:=Option (Bool)
abbrev Z8 :Type:=Z0×Int×Int×Int
abbrev Z9 :Type:=((List Z0)×(List Z4))×(List Z2)×(List Z1)
abbrev Z10 :Type:=List (Z0×Z0)
abbrev Z11 :Type:=Option (Int)
abbrev Z12 :Type:=List (Z0×Z0)
abbrev Z13 :Type:=List (Int×(List Int))
abbrev Z14 :Type:=List (List Int)
abbrev Z15 :Type:=Z0×Z0×(List Int)×Int×Int×Int
abbrev Z16 :Type:=Int×Int×Z0×(List Z0)×Int×Int×(List DQ)×Bool×Int×Int×Int×Int×Bool×Int×Int
abbrev bX (a r:List VS) (f:HD (Sh.codes ⟨a,[]⟩)->Option (HD (Sh.codes ⟨r,[]⟩))):Model:=⟨⟨a,[]⟩,⟨r,[]⟩,f⟩
abbrev mK :=ModelOk Tryz.prog
theorem mO {l:List (Nat×Model)} (hl:jR Tryz.prog l) {f:FuncId} {fn:Func} {c:Code} (hf:Tryz.prog.funcs[f]? =some fn) (hbody:fn.body=some c) (N:Nat) (h:Hint) (m:Model) (wr rs dw:List Nat:=[])
  (hname:(fn.name== "runtime.NumGoroutine")=false:=by kernel_rfl) (hres:m.arg.names.all (jbC l wr rs dw).res=true:=by kernel_rfl) (hlen:Nat.ble m.arg.vals.length fn.ntmps=true:=by kernel_rfl)
  (hrun:∀a,m.run a=runF N (jbC l wr rs dw) okDraw fn c h m.arg m.ret a:=by intro a;kernel_rfl):ModelOk Tryz.prog f m:=modelOk_of (E:=jbC l wr rs dw) (jtQ hl wr rs dw) hf hname hbody N h m hres hlen hrun
theorem fC {k:Nat} {m:Model} {l:List (Nat×Model)} (h:ModelOk Tryz.prog k m) (hl:jR Tryz.prog l):jR Tryz.prog ((k,m)::l):=jsH h hl
abbrev pI :VS:=.pv (.int .i64)
abbrev pS :VS:=.pv .str
abbrev pB :VS:=.pv .bool
abbrev tI :Tp:=.int .i64
abbrev c1A {α ρ:Type} (f:α->ρ) (a:α):ρ:=f a
abbrev c2A {α0 α1 ρ:Type} (f:α0->α1->ρ) (a:α0×α1):ρ:=f a.1 a.2
abbrev c3A {α0 α1 α2 ρ:Type} (f:α0->α1->α2->ρ) (a:α0×α1×α2):ρ:=f a.1 a.2.1 a.2.2
abbrev c4A {α0 α1 α2 α3 ρ:Type} (f:α0->α1->α2->α3->ρ) (a:α0×α1×α2×α3):ρ:=f a.1 a.2.1 a.2.2.1 a.2.2.2
abbrev c5A {α0 α1 α2 α3 α4 ρ:Type} (f:α0->α1->α2->α3->α4->ρ) (a:α0×α1×α2×α3×α4):ρ:=f a.1 a.2.1 a.2.2.1 a.2.2.2.1 a.2.2.2.2
abbrev c6A {α0 α1 α2 α3 α4 α5 ρ:Type} (f:α0->α1->α2->α3->α4->α5->ρ) (a:α0×α1×α2×α3×α4×α5):ρ:=f a.1 a.2.1 a.2.2.1 a.2.2.2.1 a.2.2.2.2.1 a.2.2.2.2.2
abbrev c7A {α0 α1 α2 α3 α4 α5 α6 ρ:Type} (f:α0->α1->α2->α3->α4->α5->α6->ρ) (a:α0×α1×α2×α3×α4×α5×α6):ρ:=f a.1 a.2.1 a.2.2.1 a.2.2.2.1 a.2.2.2.2.1 a.2.2.2.2.2.1 a.2.2.2.2.2.2
abbrev c9A {α0 α1 α2 α3 α4 α5 α6 α7 α8 ρ:Type} (f:α0->α1->α2->α3->α4->α5->α6->α7->α8->ρ) (a:α0×α1×α2×α3×α4×α5×α6×α7×α8):ρ:=f a.1 a.2.1 a.2.2.1 a.2.2.2.1 a.2.2.2.2.1 a.2.2.2.2.2.1 a.2.2.2.2.2.2.1 a.2.2.2.2.2.2.2.1 a.2.2.2.2.2.2.2.2
abbrev c10A {α0 α1 α2 α3 α4 α5 α6 α7 α8 α9 ρ:Type} (f:α0->α1->α2->α3->α4->α5->α6->α7->α8->α9->ρ) (a:α0×α1×α2×α3×α4×α5×α6×α7×α8×α9):ρ:=f a.1 a.2.1 a.2.2.1 a.2.2.2.1 a.2.2.2.2.1 a.2.2.2.2.2.1 a.2.2.2.2.2.2.1 a.2.2.2.2.2.2.2.1 a.2.2.2.2.2.2.2.2.1 a.2.2.2.2.2.2.2.2.2
abbrev c11A {α0 α1 α2 α3 α4 α5 α6 α7 α8 α9 α10 ρ:Type} (f:α0->α1->α2->α3->α4->α5->α6->α7->α8->α9->α10->ρ) (a:α0×α1×α2×α3×α4×α5×α6×α7×α8×α9×α10):ρ:=f a.1 a.2.1 a.2.2.1 a.2.2.2.1 a.2.2.2.2.1 a.2.2.2.2.2.1 a.2.2.2.2.2.2.1 a.2.2.2.2.2.2.2.1 a.2.2.2.2.2.2.2.2.1 a.2.2.2.2.2.2.2.2.2.1 a.2.2.2.2.2.2.2.2.2.2
def dz :Nat->List VS->List VS
 |0,l=>l
 |n+1,l=>.dead::dz n l
abbrev Y19 :Tp:=.sl tI
abbrev Y18 :Tp:=.pair .str .str
abbrev Y17 :Tp:=.pair (.sl .str) .str
abbrev Y16 :Tp:=.sl (.pair .str .str)
abbrev Y15 :Tp:=.pair .str tI
abbrev Y14 :Tp:=.sl (.pair (.sl .str) .str)
abbrev Y13 :Tp:=.sl (.pair .str tI)
abbrev Y12 :Tp:=.pair tI (.sl tI)
abbrev Y11 :Tp:=.sl (.pair tI (.sl tI))
abbrev Y6 :Tp:=.pair .str (.pair tI (.pair tI tI))
abbrev Y5 :Tp:=.pair .str (.pair .str (.sl (.pair tI (.sl tI))))
abbrev Y4 :Tp:=.sl (.pair .str (.pair .str (.sl (.pair tI (.sl tI)))))
abbrev Y3 :Tp:=.pair tI (.pair (.sl (.pair .str .str)) (.sl (.pair .str tI)))
abbrev Y2 :Tp:=.sl (.pair tI (.pair (.sl (.pair .str .str)) (.sl (.pair .str tI))))
abbrev Y1 :Tp:=.pair (.sl (.pair tI (.pair (.sl (.pair .str .str)) (.sl (.pair .str tI))))) (.sl (.pair .str (.pair .str (.sl (.pair tI (.sl tI))))))
abbrev Y0 :Tp:=.pair (.pair (.sl .str) (.sl (.pair (.sl .str) .str))) (.pair (.sl (.pair tI (.pair (.sl (.pair .str .str)) (.sl (.pair .str tI))))) (.sl (.pair .str (.pair .str (.sl (.pair tI (.sl tI)))))))
def jt0 (N:Nat) (a:List Int):Option ((List Int)×Int):=
 (bif decide ((2000:Int)<a.length)then oB (cut a 0 2000) fun b=>(some (b,0))else some (a,0))
theorem juQ :mK 9 ⟨⟨[.pv (.sl (.int .u8))],[]⟩,⟨[.box 10 0],[(10,false,[.pv (.sl (.int .u8)),pI])]⟩,c1A (jt0 N)⟩:=
 mO ja func9 rfl N .no _
def jtW (N:Nat) (e:Int) (b:List Int) (a:Int):Option (Int×(List Int)×Int):=
 (if fits (a+1)then bif decide (e<1)then some (0,b,(a+1))else(bif decide ((b.length:Int)=0)then some (0,b,(a+1))else if fits ((a+1)-1)then bif decide (((a+1)-1)<(b.length:Int))then oB (idx b ((a+1)-1)) fun f=>(if e≠0 then some (((IntKind.i64.wrap f).tmod e),b,(a+1))else none)else(if(b.length:Int)≠0 then oB (idx b (((a+1)-1).tmod (b.length:Int))) fun c=>(if fits ((IntKind.i64.wrap c)*131)then if fits (((a+1)-1)*7)then if fits ((((a+1)-1)*7)+3)then if(b.length:Int)≠0 then oB (idx b (((((a+1)-1)*7)+3).tmod (b.length:Int))) fun d=>(if fits ((IntKind.i64.wrap d)*1117)then if fits (((IntKind.i64.wrap c)*131)+((IntKind.i64.wrap d)*1117))then if fits (((a+1)-1)*29)then if fits ((((IntKind.i64.wrap c)*131)+((IntKind.i64.wrap d)*1117))+(((a+1)-1)*29))then if(b.length:Int)≠0 then if fits (((a+1)-1).tdiv (b.length:Int))then if fits ((((a+1)-1).tdiv (b.length:Int))*53)then if fits (((((IntKind.i64.wrap c)*131)+((IntKind.i64.wrap d)*1117))+(((a+1)-1)*29))+((((a+1)-1).tdiv (b.length:Int))*53))then if 64≠0 then if fits ((((((IntKind.i64.wrap c)*131)+((IntKind.i64.wrap d)*1117))+(((a+1)-1)*29))+((((a+1)-1).tdiv (b.length:Int))*53)).tdiv 64)then if e≠0 then some (((bitsI .xor .i64 (((((IntKind.i64.wrap c)*131)+((IntKind.i64.wrap d)*1117))+(((a+1)-1)*29))+((((a+1)-1).tdiv (b.length:Int))*53)) ((((((IntKind.i64.wrap c)*131)+((IntKind.i64.wrap d)*1117))+(((a+1)-1)*29))+((((a+1)-1).tdiv (b.length:Int))*53)).tdiv 64)).tmod e),b,(a+1))else none else none else none else none else none else none else none else none else none else none else none)else none else none else none else none)else none)else none)else none)
theorem jtX :mK 12 ⟨⟨[.box 900000 0,pI],[(900000,false,[.pv (.sl (.int .u8)),pI])]⟩,⟨[pI],[(900000,false,[.pv (.sl (.int .u8)),pI])]⟩,c3A (jtW N)⟩:=
 mO ja func12 rfl N .no _ (rs:=[900000])
def juL :Sh:=⟨.box 900000 0:: .dead:: .box 2 0:: .box 3 0::dz 30 [],[(2,false,[.nils,.nils]),(3,false,[.own 13 .str 9 true,.nils]),(900000,false,[.pv (.sl (.int .u8)),pI])]⟩
def juw :Sh:=⟨.box 900000 0:: .dead:: .box 2 0:: .box 3 0::dz 30 [],[(2,false,[.nils,.nils]),(3,false,[.own 8 .str 9 true,.nils]),(900000,false,[.pv (.sl (.int .u8)),pI])]⟩
def s_l30Conf_m (j:List Int) (n:Int):Option ((List Z0)×(List Z4)×(List Int)×Int):=
 (meet (fun(d:(List Z0)×(List Int)×Int)=>match d with|(i,o,k)=>meet (fun(d:(List Z0)×(List Int)×Int)=>match d with|(e,l,m)=>oB (jtW N 4 l m) fun a=>bif decide (a.1=0)then some (e,([(([([110,101,119]:List UInt8),([121,111,114,107]:List UInt8)]:List Z0),([110,121]:List UInt8))]:List Z4),a.2.1,a.2.2)else bif decide (a.1=1)then some (e,([(([([98,105,103]:List UInt8)]:List Z0),([108,97,114,103]:List UInt8)),(([([98,105,103]:List UInt8),([114,101,100]:List UInt8),([102,111,120]:List UInt8)]:List Z0),([102,111,120]:List UInt8)),(([([110,101,119]:List UInt8),([121,111,114,107]:List UInt8)]:List Z0),([110,121]:List UInt8))]:List Z4),a.2.1,a.2.2)else some (e,([]:List Z4),a.2.1,a.2.2)) fun h=>oB (jtW N 4 o k) fun c=>bif decide (c.1=0)then h (([([100,111,103]:List UInt8),([116,104,101]:List UInt8)]:List Z0),c.2.1,c.2.2)else h (i,c.2.1,c.2.2)) fun f=>oB (jtW N 3 j n) fun b=>bif decide ((0:Int)<b.1)then f (([([116,104,101]:List UInt8)]:List Z0),b.2.1,b.2.2)else f (([]:List Z0),b.2.1,b.2.2))
theorem jva :mK 59 ⟨⟨[.box 900000 0],[(900000,false,[.pv (.sl (.int .u8)),pI])]⟩,⟨[.agg [.own 1 .str 9 true,.own 2 Y17 103 true]],[(900000,false,[.pv (.sl (.int .u8)),pI])]⟩,c2A (s_l30Conf_m N)⟩:=
 mO (fC (jtX N) ja) func59 rfl N (.seq .no (.seq .no (.meet juw .no (.meet juL .no .no)))) _ (rs:=[900000])
def s_l30Rd_of_m (b:List Z0) (d:List Int) (e:Int):Option (Z0×(List Int)×Int):=
 (oB (jtW N (b.length:Int) d e) fun a=>oB (idx b a.1) fun c=>some (c,a.2.1,a.2.2))
theorem jt3 :mK 61 ⟨⟨[.box 900000 0,.pv (.sl .str)],[(900000,false,[.pv (.sl (.int .u8)),pI])]⟩,⟨[pS],[(900000,false,[.pv (.sl (.int .u8)),pI])]⟩,c3A (s_l30Rd_of_m N)⟩:=
 mO (fC (jtX N) ja) func61 rfl N .no _ (rs:=[900000])
def jt1 (b:List Int) (c:Int):Option (Z0×(List Int)×Int):=
 (oB (s_l30Rd_of_m N ([([99,97,116]:List UInt8),([67,97,116,115]:List UInt8),([100,111,103]:List UInt8),([100,111,103,115]:List UInt8),([114,117,110]:List UInt8),([82,85,78,78,73,78,71]:List UInt8),([116,104,101]:List UInt8),([114,101,100]:List UInt8),([98,105,103]:List UInt8),([110,101,119,32,121,111,114,107]:List UInt8),([78,101,119,32,32,89,111,114,107]:List UInt8),([110,121]:List UInt8),([102,111,120]:List UInt8),([112,97,115,115,101,100]:List UInt8),([120,49]:List UInt8),([97,118,101,114,121,118,101,114,121,108,111,110,103,119,111,114,100]:List UInt8)]:List Z0) b c) fun a=>some (a.1,a.2.1,a.2.2))
theorem jvg :mK 190 ⟨⟨[.box 900000 0],[(900000,false,[.pv (.sl (.int .u8)),pI])]⟩,⟨[pS],[(900000,false,[.pv (.sl (.int .u8)),pI])]⟩,c2A (jt1 N)⟩:=
 mO (fC (jt3 N) ja) func190 rfl N .no _ (rs:=[900000])
def juP :Sh:=⟨.box 900000 0:: .dead:: .dead::pS::pI::dz 15 [],[(900000,false,[.pv (.sl (.int .u8)),pI])]⟩
def jtZ (i:List Int) (l:Int):Option (Z0×(List Int)×Int):=
 (oB (jtW N 9 i l) fun d=>iter (fun k (b,e,h,f)=>bif decide ((0:Int)<e)then oB (jt1 N h f) fun a=>(if b.length+a.1.length<=9223372036854775807 then oB (s_l30Rd_of_m N ([([32]:List UInt8),([32]:List UInt8),([44,32]:List UInt8),([45]:List UInt8),([46,32]:List UInt8)]:List Z0) a.2.1 a.2.2) fun c=>(if(b++a.1).length+c.1.length<=9223372036854775807 then if fits (e-1)then k (((b++a.1)++c.1),(e-1),c.2.1,c.2.2)else none else none)else none)else some (b,h,f)) N (([]:List UInt8),d.1,d.2.1,d.2.2))
theorem juT :mK 154 ⟨⟨[.box 900000 0],[(900000,false,[.pv (.sl (.int .u8)),pI])]⟩,⟨[pS],[(900000,false,[.pv (.sl (.int .u8)),pI])]⟩,c2A (jtZ N)⟩:=
 mO (fC (jtX N) (fC (jvg N) (fC (jt3 N) ja))) func154 rfl N (.seq .no (.seq .no (.seq (.seq .no (.block (.loop juP .no))) .no))) _ (rs:=[900000])
def juy :Sh:=⟨.box 900000 0::dz 3 (.box 4 0:: .box 5 0::dz 48 []),[(4,false,[pI,.nils,.nils]),(5,false,[pI,.own 28 Y18 110 true,.own 39 Y15 137 true]),(900000,false,[.pv (.sl (.int .u8)),pI])]⟩
def juX :Sh:=⟨.box 900000 0::dz 3 (.box 4 0:: .box 5 0::dz 48 []),[(4,false,[pI,.nils,.nils]),(5,false,[pI,.own 28 Y18 110 true,.nils]),(900000,false,[.pv (.sl (.int .u8)),pI])]⟩
def jvb :Sh:=⟨.box 900000 0::dz 3 (.box 4 0:: .box 5 0::dz 48 []),[(4,false,[pI,.nils,.nils]),(5,false,[pI,.own 17 Y18 110 true,.nils]),(900000,false,[.pv (.sl (.int .u8)),pI])]⟩
def s_l30Doc_m (w:Int) (A:List Int) (z:Int):Option (Int×Z10×Z5×(List Int)×Int):=
 (meet (fun(a:Int×Int×Z10×(List Int)×Int)=>match a with|(x,r,l,B,C)=>meet (fun(a:Int×Int×Z10×(List Int)×Int)=>match a with|(u,o,q,y,E)=>meet (fun(a:Int×Int×Z10×Z5×(List Int)×Int)=>match a with|(H,p,v,k,G,D)=>oB (jtW N 3 G D) fun e=>bif decide (e.1=0)then oB (jtW N 30 e.2.1 e.2.2) fun b=>(if fits (2000+b.1)then if room k.length ([(([121,101,97,114]:List UInt8),(2000+b.1))]:Z6).length 24 then some (p,v,(k++([(([121,101,97,114]:List UInt8),(2000+b.1))]:Z6)),b.2.1,b.2.2)else none else none)else some (p,v,k,e.2.1,e.2.2)) fun m=>oB (jtW N 3 y E) fun d=>bif decide ((0:Int)<d.1)then oB (jtW N 4 d.2.1 d.2.2) fun h=>(if room ([]:Z6).length ([(([114,97,116,101]:List UInt8),h.1)]:Z6).length 24 then m (u,o,q,(([]:Z6)++([(([114,97,116,101]:List UInt8),h.1)]:Z6)),h.2.1,h.2.2)else none)else m (u,o,q,([]:Z6),d.2.1,d.2.2)) fun n=>oB (jtW N 3 B C) fun f=>bif decide (f.1=0)then oB (jtZ N f.2.1 f.2.2) fun j=>(if room l.length ([(([116,105,116,108,101]:List UInt8),j.1)]:Z12).length 32 then n (x,r,(l++([(([116,105,116,108,101]:List UInt8),j.1)]:Z12)),j.2.1,j.2.2)else none)else n (x,r,l,f.2.1,f.2.2)) fun t=>oB (jtW N 6 A z) fun c=>bif decide ((0:Int)<c.1)then oB (jtZ N c.2.1 c.2.2) fun i=>(if room ([]:Z12).length ([(([98,111,100,121]:List UInt8),i.1)]:Z12).length 32 then t (0,w,(([]:Z12)++([(([98,111,100,121]:List UInt8),i.1)]:Z12)),i.2.1,i.2.2)else none)else t (0,w,([]:Z12),c.2.1,c.2.2))
theorem jvf :mK 112 ⟨⟨[.box 900000 0,pI],[(900000,false,[.pv (.sl (.int .u8)),pI])]⟩,⟨[.agg [pI,.own 1 Y18 110 true,.own 2 Y15 137 true]],[(900000,false,[.pv (.sl (.int .u8)),pI])]⟩,c3A (s_l30Doc_m N)⟩:=
 mO (fC (jtX N) (fC (juT N) ja)) func112 rfl N (.seq .no (.seq .no (.meet jvb .no (.meet juX .no (.meet juy .no .no))))) _ (rs:=[900000])
def juU :Sh:=⟨.box 900000 0:: .dead:: .dead:: .own 600003 Y3 50 true::pI::pI::dz 19 [],[(900000,false,[.pv (.sl (.int .u8)),pI])]⟩
def s_l30Docs_m (j:List Int) (m:Int):Option ((List Z2)×(List Int)×Int):=
 (oB (jtW N 6 j m) fun d=>iter (fun l (f,c,e,i,h)=>bif decide ((0:Int)<e)then if fits (c+1)then oB (jtW N 3 i h) fun b=>(if fits ((c+1)+b.1)then oB (s_l30Doc_m N ((c+1)+b.1) b.2.1 b.2.2) fun a=>(if room f.length ([(a.1,a.2.1,a.2.2.1)]:List Z2).length 56 then if fits (e-1)then l ((f++([(a.1,a.2.1,a.2.2.1)]:List Z2)),((c+1)+b.1),(e-1),a.2.2.2.1,a.2.2.2.2)else none else none)else none)else none else some (f,i,h)) N (([]:List Z2),(0:Int),d.1,d.2.1,d.2.2))
theorem juO :mK 60 ⟨⟨[.box 900000 0],[(900000,false,[.pv (.sl (.int .u8)),pI])]⟩,⟨[.own 1 Y3 50 true],[(900000,false,[.pv (.sl (.int .u8)),pI])]⟩,c2A (s_l30Docs_m N)⟩:=
 mO (fC (jtX N) (fC (jvf N) ja)) func60 rfl N (.seq .no (.seq .no (.seq .no (.seq (.seq .no (.block (.loop juU .no))) .no)))) _ (rs:=[900000])
def jl5 :Sh:=⟨.pv (.sl .str)::pS::dz 3 (pI::dz 42 []),[]⟩
def s_l7Put_m (t:List Z0) (q:List UInt8):Option ((List Z0)):=
 (iter (fun n (a,c,b)=>bif decide (b<(a.length:Int))then oB (idx a b) fun r=>(bif Op.bytesLess r c then if fits (b+1)then n (a,c,(b+1))else none else bif decide (b<(a.length:Int))then oB (idx a b) fun o=>(bif decide (o=c)then some a else oB (cut a 0 b) fun h=>if room ([]:List Z0).length h.length 16 then if room (([]:List Z0)++h).length ([c]:List Z0).length 16 then oB (cut a b (a.length:Int)) fun j=>(if room ((([]:List Z0)++h)++([c]:List Z0)).length j.length 16 then some (((([]:List Z0)++h)++([c]:List Z0))++j)else none)else none else none)else oB (cut a 0 b) fun e=>if room ([]:List Z0).length e.length 16 then if room (([]:List Z0)++e).length ([c]:List Z0).length 16 then oB (cut a b (a.length:Int)) fun i=>(if room ((([]:List Z0)++e)++([c]:List Z0)).length i.length 16 then some (((([]:List Z0)++e)++([c]:List Z0))++i)else none)else none else none)else bif decide (b<(a.length:Int))then oB (idx a b) fun p=>(bif decide (p=c)then some a else oB (cut a 0 b) fun f=>if room ([]:List Z0).length f.length 16 then if room (([]:List Z0)++f).length ([c]:List Z0).length 16 then oB (cut a b (a.length:Int)) fun l=>(if room ((([]:List Z0)++f)++([c]:List Z0)).length l.length 16 then some (((([]:List Z0)++f)++([c]:List Z0))++l)else none)else none else none)else oB (cut a 0 b) fun d=>if room ([]:List Z0).length d.length 16 then if room (([]:List Z0)++d).length ([c]:List Z0).length 16 then oB (cut a b (a.length:Int)) fun k=>(if room ((([]:List Z0)++d)++([c]:List Z0)).length k.length 16 then some (((([]:List Z0)++d)++([c]:List Z0))++k)else none)else none else none) N (t,q,(0:Int)))
theorem jgt :mK 141 (bX [.pv (.sl .str),pS] [.pv (.sl .str)] (c2A (s_l7Put_m N))):=
 mO ja func141 rfl N (.seq .no (.seq .no (.seq (.block (.loop jl5 .no)) .no))) _
def joT :Sh:=⟨.pv Y2:: .dead:: .dead:: .pv (.sl .str)::pI::dz 30 [],[]⟩
def jkn :Sh:=⟨.pv Y2:: .dead:: .dead:: .pv (.sl .str)::pI::pI::dz 29 [],[]⟩
def s_l7Names_m (m:List Z2):Option ((List Z0)):=
 (iter (fun n (f,e,i)=>bif decide (i<(f.length:Int))then iter (fun l (c,h,a,b)=>oB (idx c a) fun k=>bif decide (b<(k.2.1.length:Int))then oB (idx c a) fun o=>(oB (idx o.2.1 b) fun p=>oB (s_l7Put_m N h p.1) fun j=>if fits (b+1)then l (c,j,a,(b+1))else none)else if fits (a+1)then n (c,h,(a+1))else none) N (f,e,i,(0:Int))else some e) N (m,([]:List Z0),(0:Int)))
theorem jlz :mK 95 (bX [.pv Y2] [.pv (.sl .str)] (c1A (s_l7Names_m N))):=
 mO (fC (jgt N) ja) func95 rfl N (.seq .no (.seq .no (.seq (.seq .no (.block (.loop joT (.seq .no (.seq (.block (.seq .no (.block (.loop jkn .no)))) .no))))) .no))) _
def jl8 :Sh:=⟨.dead::pS:: .box 2 0:: .dead:: .dead::pI::dz 21 [],[(2,false,[pI,.pv Y16,.pv Y13])]⟩
def s_l6Field_m (h:Int) (k:Z12) (l:Z6) (m:List UInt8):Option (Z0):=
 (iter (fun i (c,a,e,b,n)=>bif decide (a<(b.length:Int))then oB (idx b a) fun d=>(bif decide (d.1=c)then oB (idx b a) fun j=>(some j.2)else if fits (a+1)then i (c,(a+1),e,b,n)else none)else some ([]:List UInt8)) N (m,(0:Int),h,k,l))
theorem jhA :mK 142 (bX [.agg [pI,.pv Y16,.pv Y13],pS] [pS] (c4A (s_l6Field_m N))):=
 mO ja func142 rfl N (.seq .no (.seq (.seq .no (.block (.loop jl8 .no))) .no)) _
def jt (N:Nat) (a:Int):Z11:=
 (bif decide ((65:Int)<=a)then bif decide (a<=90)then some (IntKind.u8.wrap (a+32))else(bif decide ((97:Int)<=a)then bif decide (a<=122)then some a else(bif decide ((48:Int)<=a)then bif decide (a<=57)then some a else(some 0)else some 0)else bif decide ((48:Int)<=a)then bif decide (a<=57)then some a else(some 0)else some 0)else bif decide ((97:Int)<=a)then bif decide (a<=122)then some a else(bif decide ((48:Int)<=a)then bif decide (a<=57)then some a else(some 0)else some 0)else bif decide ((48:Int)<=a)then bif decide (a<=57)then some a else(some 0)else some 0)
theorem jfG :mK 138 (bX [.pv (.int .u8)] [.pv (.int .u8)] (c1A (jt N))):=
 mO ja func138 rfl N .no _
def jo3 :Sh:=⟨pS:: .dead:: .dead:: .own 600003 Y6 165 true::pI::dz 50 [],[]⟩
def jm6 :Sh:=⟨pS:: .dead:: .dead:: .own 600003 Y6 165 true::pI:: .own 600005 (.int .u8) 5 true::pI::dz 48 [],[]⟩
def jtK :Sh:=⟨pS:: .dead:: .dead:: .own 600003 Y6 165 true::pI:: .pv (.sl (.int .u8))::pI::dz 48 [],[]⟩
def jb3 (B:List UInt8):Option ((List Z8)):=
 (iter (fun l (w,v,n)=>bif decide (n<(w.length:Int))then iter (fun G (b,i,a,c,h)=>bif decide (a<(b.length:Int))then oB (idx b a) fun E=>(oB (jt N (E.toNat:Int)) fun C=>bif !decide (C=0)then oB (idx b a) fun z=>(oB (jt N (z.toNat:Int)) fun u=>if room c.length ([u]:List Int).length 1 then if fits (a+1)then G (b,i,(a+1),(c++([u]:List Int)),h)else none else none)else meet (fun(d:Z0×(List Z8)×Int×(List Int)×Int)=>match d with|(y,k,e,o,p)=>bif decide ((0:Int)<o.length)then if room k.length ([((bytesOf o),(k.length:Int),p,e)]:List Z8).length 40 then if fits (e+1)then l (y,(k++([((bytesOf o),(k.length:Int),p,e)]:List Z8)),(e+1))else none else none else if fits (e+1)then l (y,k,(e+1))else none) fun x=>bif decide ((12:Int)<c.length)then oB (cut c 0 12) fun D=>(x (b,i,a,D,h))else x (b,i,a,c,h))else meet (fun(d:Z0×(List Z8)×Int×(List Int)×Int)=>match d with|(q,j,f,m,r)=>bif decide ((0:Int)<m.length)then if room j.length ([((bytesOf m),(j.length:Int),r,f)]:List Z8).length 40 then if fits (f+1)then l (q,(j++([((bytesOf m),(j.length:Int),r,f)]:List Z8)),(f+1))else none else none else if fits (f+1)then l (q,j,(f+1))else none) fun t=>bif decide ((12:Int)<c.length)then oB (cut c 0 12) fun A=>(t (b,i,a,A,h))else t (b,i,a,c,h)) N (w,v,n,([]:List Int),n)else some v) N (B,([]:List Z8),(0:Int)))
theorem jsr :mK 188 (bX [pS] [.own 1 Y6 165 true] (c1A (jb3 N))):=
 mO (fC (jfG N) ja) func188 rfl N (.seq .no (.seq .no (.seq (.seq .no (.block (.loop jo3 (.seq .no (.seq (.block (.seq .no (.seq .no (.seq (.block (.loop jm6 .no)) (.meet jtK .no .no))))) .no))))) .no))) _
def jdI (N:Nat):Option ((List Z0)):=
 (some ([([105,110,103]:List UInt8),([101,100]:List UInt8),([101,115]:List UInt8),([108,121]:List UInt8),([115]:List UInt8)]:List Z0))
theorem jkj :mK 186 ⟨⟨[],[]⟩,⟨[.own 1 .str 9 true],[]⟩,fun a=>jdI N⟩:=
 mO ja func186 rfl N .no _
def jl2 :Sh:=⟨pS:: .dead:: .dead::pI::dz 30 [],[]⟩
def ja6 (k:List UInt8):Option (Z0):=
 (iter (fun d (a,b)=>oB (jdI N) fun e=>bif decide (b<(e.length:Int))then oB (jdI N) fun j=>(oB (idx j b) fun c=>if fits ((a.length:Int)-(c.length:Int))then bif decide ((3:Int)<=((a.length:Int)-(c.length:Int)))then oB (cut a ((a.length:Int)-(c.length:Int)) (a.length:Int)) fun f=>(bif decide (f=c)then oB (cut a 0 ((a.length:Int)-(c.length:Int))) fun i=>(some i)else if fits (b+1)then d (a,(b+1))else none)else(if fits (b+1)then d (a,(b+1))else none)else none)else some a) N (k,(0:Int)))
theorem jtL :mK 139 (bX [pS] [pS] (c1A (ja6 N))):=
 mO (fC (jkj N) ja) func139 rfl N (.seq .no (.seq (.seq .no (.block (.loop jl2 .no))) .no)) _
def jto :Sh:=⟨pS::dz 9 [],[]⟩
def jaq (e:List UInt8):Option (Z0):=
 (iter (fun d (b:Z0)=>let s2:=b;(oB (ja6 N s2) fun a=>bif !decide (a=s2)then oB (ja6 N s2) fun c=>(d c)else some s2)) N e)
theorem jfZ :mK 92 (bX [pS] [pS] (c1A (jaq N))):=
 mO (fC (jtL N) ja) func92 rfl N (.seq .no (.seq (.block (.loop jto .no)) .no)) _
def jlY :Sh:=⟨.pv (.sl .str)::pS::dz 3 (pI::dz 12 []),[]⟩
def jap (h:List Z0) (i:List UInt8):Z7:=
 (iter (fun f (b,c,a)=>bif decide (a<(b.length:Int))then oB (idx b a) fun d=>(bif decide (d=c)then some true else if fits (a+1)then f (b,c,(a+1))else none)else some false) N (h,i,(0:Int)))
theorem jhP :mK 93 (bX [.pv (.sl .str),pS] [pB] (c2A (jap N))):=
 mO ja func93 rfl N (.seq .no (.seq (.seq .no (.block (.loop jlY .no))) .no)) _
def jmf :Sh:=⟨.dead:: .dead:: .box 2 0:: .dead:: .dead:: .own 600005 Y15 114 true:: .own 600006 Y6 165 true::pI::dz 43 [],[(2,false,[.pv (.sl .str),.pv Y14])]⟩
def jbY (q:List Z0) (k:List Z4) (m:List UInt8):Option (Z5):=
 (oB (jb3 N m) fun n=>iter (fun e (d,b,a,c,f)=>bif decide (a<(b.length:Int))then oB (idx b a) fun p=>(oB (jaq N p.1) fun h=>oB (idx b a) fun l=>oB (jap N c l.1) fun r=>bif !r then oB (jap N c h) fun o=>(bif !o then oB (idx b a) fun i=>(if room d.length ([(h,i.2.1)]:Z6).length 24 then if fits (a+1)then e ((d++([(h,i.2.1)]:Z6)),b,(a+1),c,f)else none else none)else if fits (a+1)then e (d,b,(a+1),c,f)else none)else if fits (a+1)then e (d,b,(a+1),c,f)else none)else some d) N (([]:Z6),n,(0:Int),q,k))
theorem jrk :mK 149 (bX [.agg [.pv (.sl .str),.pv Y14],pS] [.own 1 Y15 114 true] (c3A (jbY N))):=
 mO (fC (jsr N) (fC (jfZ N) (fC (jhP N) ja))) func149 rfl N (.seq .no (.seq .no (.seq .no (.seq (.seq .no (.block (.loop jmf .no))) .no)))) _
def jrL :Sh:=⟨.pv Y13:: .pv (.sl .str)::dz 3 (pI::dz 36 []),[]⟩
def jcC (i:Z6) (j:List Z0):Z7:=
 (iter (fun h (b,c,a)=>bif decide (a<(c.length:Int))then bif decide ((b.length:Int)<=a)then some false else(oB (idx b a) fun e=>oB (idx c a) fun k=>bif !decide (e.1=k)then some false else oB (idx b a) fun l=>oB (idx b 0) fun d=>if fits (d.2+a)then bif !decide (l.2=(d.2+a))then some false else(if fits (a+1)then h (b,c,(a+1))else none)else none)else some true) N (i,j,(0:Int)))
theorem jtg :mK 189 (bX [.pv Y13,.pv (.sl .str)] [pB] (c2A (jcC N))):=
 mO ja func189 rfl N (.seq .no (.seq (.seq .no (.block (.loop jrL .no))) .no)) _
def jlL :Sh:=⟨.dead:: .pv Y13:: .box 2 0:: .dead:: .dead::pI::pI::dz 38 [],[(2,false,[.pv (.sl .str),.pv Y14])]⟩
def jcJ (j:List Z0) (l:List Z4) (m:Z6):Z11:=
 (iter (fun f (c,d,a,e,b)=>bif decide (a<(b.length:Int))then oB (idx b a) fun i=>(oB (jcC N c i.1) fun h=>bif h then bif decide (d<0)then if fits (a+1)then f (c,a,(a+1),e,b)else none else(oB (idx b a) fun n=>oB (idx b d) fun o=>bif decide ((o.1.length:Int)<(n.1.length:Int))then if fits (a+1)then f (c,a,(a+1),e,b)else none else if fits (a+1)then f (c,d,(a+1),e,b)else none)else if fits (a+1)then f (c,d,(a+1),e,b)else none)else some d) N (m,((-1):Int),(0:Int),j,l))
theorem jqp :mK 150 (bX [.agg [.pv (.sl .str),.pv Y14],.pv Y13] [pI] (c3A (jcJ N))):=
 mO (fC (jtg N) ja) func150 rfl N (.seq .no (.seq .no (.seq (.seq .no (.block (.loop jlL .no))) .no))) _
def jnK :Sh:=⟨.dead:: .dead:: .box 2 0:: .dead:: .dead:: .own 600005 Y15 114 true:: .pv Y13::dz 45 [],[(2,false,[.pv (.sl .str),.pv Y14])]⟩
def ja5 (l:List Z0) (f:List Z4) (o:List UInt8):Option (Z5):=
 (oB (jbY N l f o) fun p=>iter (fun h (c,a,e,b)=>bif decide ((0:Int)<a.length)then oB (jcJ N e b a) fun d=>(bif decide (d<0)then oB (idx a 0) fun k=>(if room c.length ([k]:Z6).length 24 then oB (cut a 1 (a.length:Int)) fun q=>(h ((c++([k]:Z6)),q,e,b))else none)else oB (idx b d) fun i=>oB (idx a 0) fun j=>if room c.length ([(i.2,j.2)]:Z6).length 24 then oB (idx b d) fun r=>(oB (cut a (r.1.length:Int) (a.length:Int)) fun n=>h ((c++([(i.2,j.2)]:Z6)),n,e,b))else none)else some c) N (([]:Z6),p,l,f))
theorem jiO :mK 106 (bX [.agg [.pv (.sl .str),.pv Y14],pS] [.own 1 Y15 114 true] (c3A (ja5 N))):=
 mO (fC (jrk N) (fC (jqp N) ja)) func106 rfl N (.seq .no (.seq .no (.seq .no (.seq (.block (.loop jnK .no)) .no)))) _
def jn9 :Sh:=⟨.dead:: .pv Y2::pS:: .box 3 0::dz 3 (.pv (.sl .str)::pI::dz 31 []),[(3,false,[.pv (.sl .str),.pv Y14])]⟩
def jrT :Sh:=⟨.dead:: .pv Y2::pS:: .box 3 0::dz 3 (.pv (.sl .str)::pI:: .own 600009 Y15 114 true::pI::dz 29 []),[(3,false,[.pv (.sl .str),.pv Y14])]⟩
def s_l7Terms_m (y:List Z0) (r:List Z4) (w:List Z2) (A:List UInt8):Option ((List Z0)):=
 (iter (fun t (c,l,n,d,m,i)=>bif decide (d<(c.length:Int))then oB (idx c d) fun e=>(oB (s_l6Field_m N e.1 e.2.1 e.2.2 l) fun x=>oB (ja5 N m i x) fun v=>iter (fun z (j,q,o,f,h,a,k,p)=>bif decide (a<(h.length:Int))then oB (idx h a) fun u=>(oB (s_l7Put_m N o u.1) fun B=>if fits (a+1)then z (j,q,B,f,h,(a+1),k,p)else none)else if fits (f+1)then t (j,q,o,(f+1),k,p)else none) N (c,l,n,d,v,(0:Int),m,i))else some n) N (w,A,([]:List Z0),(0:Int),y,r))
theorem jqQ :mK 96 (bX [.agg [.pv (.sl .str),.pv Y14],.pv Y2,pS] [.pv (.sl .str)] (c4A (s_l7Terms_m N))):=
 mO (fC (jhA N) (fC (jiO N) (fC (jgt N) ja))) func96 rfl N (.seq .no (.seq .no (.seq (.seq .no (.block (.loop jn9 (.seq .no (.seq (.block (.seq .no (.seq .no (.block (.loop jrT .no))))) .no))))) .no))) _
def jnY :Sh:=⟨dz 3 (pS::dz 5 (.own 600009 tI 3 true:: .own 600010 Y15 114 true::pI::dz 28 [])),[]⟩
def s_l7Post_m (o:List Z0) (i:List Z4) (p:Int) (r:Z12) (k:Z6) (q:List UInt8) (j:List UInt8):Option ((List Int)):=
 (oB (s_l6Field_m N p r k q) fun m=>oB (ja5 N o i m) fun l=>iter (fun e (d,c,b,a)=>bif decide (a<(b.length:Int))then oB (idx b a) fun n=>(bif decide (n.1=d)then oB (idx b a) fun f=>(if room c.length ([f.2]:List Int).length 8 then if fits (a+1)then e (d,(c++([f.2]:List Int)),b,(a+1))else none else none)else if fits (a+1)then e (d,c,b,(a+1))else none)else some c) N (j,([]:List Int),l,(0:Int)))
theorem js6 :mK 143 (bX [.agg [.pv (.sl .str),.pv Y14],.agg [pI,.pv Y16,.pv Y13],pS,pS] [.own 1 tI 3 true] (c7A (s_l7Post_m N))):=
 mO (fC (jhA N) (fC (jiO N) ja)) func143 rfl N (.seq .no (.seq .no (.seq .no (.seq (.seq .no (.block (.loop jnY .no))) .no)))) _
def jkw :Sh:=⟨.dead:: .pv Y2::pS::pS:: .box 4 0::dz 3 (.box 8 0:: .box 9 0::pI::dz 34 []),[(4,false,[.pv (.sl .str),.pv Y14]),(8,false,[pS,pS,.nils]),(9,false,[pS,pS,.own 700902 Y12 121 true])]⟩
def s_l7Entry_m (w:List Z0) (u:List Z4) (v:List Z2) (r:List UInt8) (n:List UInt8):Option Z1:=
 (iter (fun m (b,i,k,a,j,e,q,o,h,d,c)=>bif decide (a<(b.length:Int))then oB (idx b a) fun l=>(oB (s_l7Post_m N j e l.1 l.2.1 l.2.2 i k) fun f=>bif decide ((0:Int)<f.length)then oB (idx b a) fun p=>(if room c.length ([(p.1,f)]:Z3).length 32 then if fits (a+1)then m (b,i,k,(a+1),j,e,q,o,h,d,(c++([(p.1,f)]:Z3)))else none else none)else if fits (a+1)then m (b,i,k,(a+1),j,e,q,o,h,d,c)else none)else some (h,d,c)) N (v,r,n,(0:Int),w,u,([]:List UInt8),([]:List UInt8),r,n,([]:Z3)))
theorem jtr :mK 97 (bX [.agg [.pv (.sl .str),.pv Y14],.pv Y2,pS,pS] [.agg [pS,pS,.own 1 Y12 121 true]] (c5A (s_l7Entry_m N))):=
 mO (fC (js6 N) ja) func97 rfl N (.seq .no (.seq .no (.seq (.seq .no (.block (.loop jkw .no))) .no))) _
def s_l7CopyDoc_m (N:Nat) (c:Int) (b:Z12) (a:Z6):Option Z2:=
 (if room ([]:Z12).length b.length 32 then if room ([]:Z6).length a.length 24 then some (c,(([]:Z12)++b),(([]:Z6)++a))else none else none)
theorem jtC :mK 98 (bX [.agg [pI,.pv Y16,.pv Y13]] [.agg [pI,.own 1 Y18 110 true,.own 2 Y15 137 true]] (c3A (s_l7CopyDoc_m N))):=
 mO ja func98 rfl N .no _
def jn8 :Sh:=⟨.dead:: .pv Y2:: .box 2 0:: .dead:: .box 4 0:: .box 5 0:: .pv (.sl .str)::pI::dz 58 [],[(2,false,[.pv (.sl .str),.pv Y14]),(4,false,[.nils,.nils]),(5,false,[.nils,.own 700501 Y5 69 true])]⟩
def jpr :Sh:=⟨.dead:: .pv Y2:: .box 2 0:: .dead:: .box 4 0:: .box 5 0:: .pv (.sl .str)::pI:: .pv (.sl .str)::pI::dz 56 [],[(2,false,[.pv (.sl .str),.pv Y14]),(4,false,[.nils,.nils]),(5,false,[.nils,.own 700501 Y5 69 true])]⟩
def jn0 :Sh:=⟨.dead:: .pv Y2:: .dead:: .dead:: .box 4 0:: .box 5 0::dz 4 (pI::dz 55 []),[(4,false,[.nils,.nils]),(5,false,[.own 700500 Y3 50 true,.own 700501 Y5 69 true])]⟩
def s_l7Of_m (H:List Z0) (z:List Z4) (t:List Z2):Option ((List Z2)×(List Z1)):=
 (oB (s_l7Names_m N t) fun E=>iter (fun A (h,k,l,w,r,v)=>bif decide (l<(k.length:Int))then oB (idx k l) fun G=>(oB (s_l7Terms_m N w r h G) fun C=>iter (fun I (m,e,d,i,b,q,n,o)=>bif decide (b<(i.length:Int))then oB (idx e d) fun B=>(oB (idx i b) fun D=>oB (s_l7Entry_m N q n m B D) fun y=>if room o.length ([y]:List Z1).length 56 then if fits (b+1)then I (m,e,d,i,(b+1),q,n,(o++([y]:List Z1)))else none else none)else if fits (d+1)then A (m,e,(d+1),q,n,o)else none) N (h,k,l,C,(0:Int),w,r,v))else iter (fun K (f,c,j,x)=>bif decide (c<(f.length:Int))then oB (idx f c) fun p=>(oB (s_l7CopyDoc_m N p.1 p.2.1 p.2.2) fun u=>if room j.length ([u]:List Z2).length 56 then if fits (c+1)then K (f,(c+1),(j++([u]:List Z2)),x)else none else none)else some (j,x)) N (h,(0:Int),([]:List Z2),v)) N (t,E,(0:Int),H,z,([]:List Z1)))
theorem jmU :mK 48 (bX [.agg [.pv (.sl .str),.pv Y14],.pv Y2] [.agg [.own 1 Y3 50 true,.own 2 Y5 69 true]] (c3A (s_l7Of_m N))):=
 mO (fC (jlz N) (fC (jqQ N) (fC (jtr N) (fC (jtC N) ja)))) func48 rfl N (.seq .no (.seq .no (.seq .no (.seq (.seq .no (.block (.loop jn8 (.seq .no (.seq (.block (.seq .no (.seq .no (.block (.loop jpr .no))))) .no))))) (.seq (.seq .no (.block (.loop jn0 .no))) .no))))) _
def s_l30Seg_m (d:List Int) (e:Int):Option ((List Z0)×(List Z4)×(List Z2)×(List Z1)×(List Int)×Int):=
 (oB (s_l30Conf_m N d e) fun a=>oB (s_l30Docs_m N a.2.2.1 a.2.2.2) fun b=>oB (s_l7Of_m N a.1 a.2.1 b.1) fun c=>some (a.1,a.2.1,c.1,c.2,b.2.1,b.2.2))
theorem jvc :mK 23 ⟨⟨[.box 900000 0],[(900000,false,[.pv (.sl (.int .u8)),pI])]⟩,⟨[.tup [.agg [.own 1 .str 9 true,.own 2 Y17 103 true],.agg [.tre 3 Y3 50,.tre 4 Y5 69]]],[(900000,false,[.pv (.sl (.int .u8)),pI])]⟩,c2A (s_l30Seg_m N)⟩:=
 mO (fC (jva N) (fC (juO N) (fC (jmU N) ja))) func23 rfl N .no _ (rs:=[900000]) (dw:=[11])
def s_l30AnySeg_m (h:List Int) (i:Int):Option ((List Z0)×(List Z4)×(List Z2)×(List Z1)×(List Int)×Int):=
 (oB (s_l30Seg_m N h i) fun a=>bif decide ((0:Int)<a.2.2.2.1.length)then oB (jtW N (a.2.2.2.1.length:Int) a.2.2.2.2.1 a.2.2.2.2.2) fun c=>(oB (jtW N 16 c.2.1 c.2.2) fun b=>bif decide (b.1=0)then if 0<=c.1/\c.1<(a.2.2.2.1.length:Int)then oB (a.2.2.2.1[c.1.toNat]?) fun d=>(some (a.1,a.2.1,a.2.2.1,(a.2.2.2.1.set c.1.toNat (d.1,([122,122,122]:List UInt8),d.2.2)),b.2.1,b.2.2))else none else bif decide (b.1=1)then if 0<=c.1/\c.1<(a.2.2.2.1.length:Int)then oB (a.2.2.2.1[c.1.toNat]?) fun e=>(if room a.2.2.2.1.length ([e]:List Z1).length 56 then some (a.1,a.2.1,a.2.2.1,(a.2.2.2.1++([e]:List Z1)),b.2.1,b.2.2)else none)else none else bif decide (b.1=2)then oB (cut a.2.2.1 1 (a.2.2.1.length:Int)) fun f=>(some (a.1,a.2.1,f,a.2.2.2.1,b.2.1,b.2.2))else some (a.1,a.2.1,a.2.2.1,a.2.2.2.1,b.2.1,b.2.2))else some (a.1,a.2.1,a.2.2.1,a.2.2.2.1,a.2.2.2.2.1,a.2.2.2.2.2))
theorem juW :mK 10 ⟨⟨[.box 900000 0],[(900000,false,[.pv (.sl (.int .u8)),pI])]⟩,⟨[.tup [.agg [.own 1 .str 9 true,.own 2 Y17 103 true],.agg [.pv Y2,.own 3 Y5 69 false]]],[(900000,false,[.pv (.sl (.int .u8)),pI])]⟩,c2A (s_l30AnySeg_m N)⟩:=
 mO (fC (jvc N) (fC (jtX N) ja)) func10 rfl N (.seq .no (.seq .no (.seq (.seq (.touch [.thaw 5 0,.thaw 5 1]) .no) .no))) _ (wr:=[39,40,46]) (rs:=[900000])
def s_l30Known_m (N:Nat):Option ((List Z0)):=
 (some ([([99,97,116]:List UInt8),([99,97,116,115]:List UInt8),([100,111,103]:List UInt8),([100,111,103,115]:List UInt8),([114,117,110]:List UInt8),([114,117,110,110,105,110,103]:List UInt8),([116,104,101]:List UInt8),([114,101,100]:List UInt8),([98,105,103]:List UInt8),([110,101,119]:List UInt8),([121,111,114,107]:List UInt8),([110,121]:List UInt8),([102,111,120]:List UInt8)]:List Z0))
theorem jGd :mK 62 ⟨⟨[],[]⟩,⟨[.own 1 .str 9 true],[]⟩,fun a=>s_l30Known_m N⟩:=
 mO ja func62 rfl N .no _
def s_l30Leaf_m (n:List Int) (q:Int):Option (Int×Z0×(List Z0)×Int×Int×(List Int)×Int):=
 (oB (s_l30Rd_of_m N ([([98,111,100,121]:List UInt8),([98,111,100,121]:List UInt8),([116,105,116,108,101]:List UInt8)]:List Z0) n q) fun b=>oB (jtW N 9 b.2.1 b.2.2) fun a=>bif decide (a.1=0)then some (1,([]:List UInt8),([]:List Z0),0,0,a.2.1,a.2.2)else bif decide (a.1=1)then oB (s_l30Known_m N) fun p=>(oB (s_l30Rd_of_m N p a.2.1 a.2.2) fun f=>oB (s_l30Known_m N) fun m=>oB (s_l30Rd_of_m N m f.2.1 f.2.2) fun i=>oB (jtW N 3 i.2.1 i.2.2) fun h=>some (3,b.1,([f.1,i.1]:List Z0),h.1,0,h.2.1,h.2.2))else bif decide (a.1=2)then oB (s_l30Rd_of_m N ([([99,111,116]:List UInt8),([100,117,103]:List UInt8),([114,110]:List UInt8),([102,111,103]:List UInt8)]:List Z0) a.2.1 a.2.2) fun j=>(oB (jtW N 2 j.2.1 j.2.2) fun d=>if fits (1+d.1)then some (4,b.1,([j.1]:List Z0),(1+d.1),0,d.2.1,d.2.2)else none)else bif decide (a.1=3)then oB (s_l30Rd_of_m N ([([99,42]:List UInt8),([63,111,63]:List UInt8),([42,110]:List UInt8),([42]:List UInt8)]:List Z0) a.2.1 a.2.2) fun l=>(some (5,b.1,([l.1]:List Z0),0,0,l.2.1,l.2.2))else bif decide (a.1=4)then oB (jtW N 4 a.2.1 a.2.2) fun c=>(oB (jtW N 3 c.2.1 c.2.2) fun e=>if fits (c.1+e.1)then some (6,([114,97,116,101]:List UInt8),([]:List Z0),c.1,(c.1+e.1),e.2.1,e.2.2)else none)else oB (s_l30Known_m N) fun o=>oB (s_l30Rd_of_m N o a.2.1 a.2.2) fun k=>some (2,b.1,([k.1]:List Z0),0,0,k.2.1,k.2.2))
theorem jGD :mK 24 ⟨⟨[.box 900000 0],[(900000,false,[.pv (.sl (.int .u8)),pI])]⟩,⟨[.agg [pI,pS,.own 1 .str 9 true,pI,pI,.nils]],[(900000,false,[.pv (.sl (.int .u8)),pI])]⟩,c2A (s_l30Leaf_m N)⟩:=
 mO (fC (jt3 N) (fC (jtX N) (fC (jGd N) ja))) func24 rfl N .no _ (rs:=[900000])
def jFT :Sh:=⟨.box 900000 0::pI:: .dead:: .dead:: .box 4 0::dz 36 (pB::dz 30 []),[(4,false,[pI,pS,.nils,pI,pI,.nils]),(900000,false,[.pv (.sl (.int .u8)),pI])]⟩
def jFQ :Sh:=⟨.box 900000 0::pI:: .dead:: .dead:: .box 4 0:: .box 5 0::pI::dz 65 [],[(4,false,[pI,pS,.nils,pI,pI,.nils]),(5,false,[pI,pS,.nils,pI,pI,.own 700505 .q 33 true]),(900000,false,[.pv (.sl (.int .u8)),pI])]⟩
def s_l30Query_m (N:Nat):(D:Nat)->Int->(List Int)->Int->Option (Int×Z0×(List Z0)×Int×Int×(List DQ)×(List Int)×Int)
 |0,_,_,_=>none
 |D+1,deep,b,b2=>
 bif decide (deep<=1)then
 oB (s_l30Leaf_m N b b2) fun r=>
 (some (r.1,r.2.1,r.2.2.1,r.2.2.2.1,r.2.2.2.2.1,([]:List DQ),r.2.2.2.2.2.1,r.2.2.2.2.2.2))
 else
 oB (jtW N 3 b b2) fun r2=>
 bif decide (r2.1=0)then
 oB (s_l30Leaf_m N r2.2.1 r2.2.2) fun r3=>
 (some (r3.1,r3.2.1,r3.2.2.1,r3.2.2.2.1,r3.2.2.2.2.1,([]:List DQ),r3.2.2.2.2.2.1,r3.2.2.2.2.2.2))
 else
 oB (jtW N 6 r2.2.1 r2.2.2) fun r4=>
 bif decide (r4.1=0)then
 if fits (deep-1)then oB (s_l30Query_m N D (deep-1) r4.2.1 r4.2.2) fun r5=>
 (if fits (deep-1)then oB (s_l30Query_m N D (deep-1) r5.2.2.2.2.2.2.1 r5.2.2.2.2.2.2.2) fun r6=>
 (some (9,([]:List UInt8),([]:List Z0),0,0,([(DQ.mk r5.1 r5.2.1 r5.2.2.1 r5.2.2.2.1 r5.2.2.2.2.1 r5.2.2.2.2.2.1),(DQ.mk r6.1 r6.2.1 r6.2.2.1 r6.2.2.2.1 r6.2.2.2.2.1 r6.2.2.2.2.2.1)]:List DQ),r6.2.2.2.2.2.2.1,r6.2.2.2.2.2.2.2))else none)else none
 else
 bif decide (r4.1=1)then
 oB (jtW N 4 r4.2.1 r4.2.2) fun r7=>
 (if fits (2+r7.1)then if fits (deep-1)then oB (s_l30Query_m N D (deep-1) r7.2.1 r7.2.2) fun r8=>
 (some (10,([]:List UInt8),([]:List Z0),(2+r7.1),0,([(DQ.mk r8.1 r8.2.1 r8.2.2.1 r8.2.2.2.1 r8.2.2.2.2.1 r8.2.2.2.2.2.1)]:List DQ),r8.2.2.2.2.2.2.1,r8.2.2.2.2.2.2.2))else none else none)
 else
 meet (fun(g:Int×Bool×Int×Z0×Int×Int×(List Int)×Int)=>
 match g with
 |(deep2,t41,b3,b4,b5,b6,b7,b8)=>
 bif t41 then
 if fits (deep2-1)then oB (s_l30Query_m N D (deep2-1) b7 b8) fun r9=>
 (if fits (deep2-1)then oB (s_l30Query_m N D (deep2-1) r9.2.2.2.2.2.2.1 r9.2.2.2.2.2.2.2) fun r10=>
 (some (7,([]:List UInt8),([]:List Z0),0,0,([(DQ.mk r9.1 r9.2.1 r9.2.2.1 r9.2.2.2.1 r9.2.2.2.2.1 r9.2.2.2.2.2.1),(DQ.mk r10.1 r10.2.1 r10.2.2.1 r10.2.2.2.1 r10.2.2.2.2.1 r10.2.2.2.2.2.1)]:List DQ),r10.2.2.2.2.2.2.1,r10.2.2.2.2.2.2.2))else none)else none
 else
 oB (jtW N 2 b7 b8) fun r11=>
 if fits (2+r11.1)then iter (fun go (g:Int×Int×Int×Z0×Int×Int×Int×Z0×Int×Int×(List DQ)×(List Int)×Int)=>
 match g with
 |(deep3,n,b9,b10,b11,b12,q,q2,q3,q4,q5,b13,b14)=>
 bif decide ((0:Int)<n)then
 if fits (deep3-1)then oB (s_l30Query_m N D (deep3-1) b13 b14) fun r12=>
 (if room q5.length ([(DQ.mk r12.1 r12.2.1 r12.2.2.1 r12.2.2.2.1 r12.2.2.2.2.1 r12.2.2.2.2.2.1)]:List DQ).length 88 then
 if fits (n-1)then go (deep3,(n-1),b9,b10,b11,b12,q,q2,q3,q4,(q5++([(DQ.mk r12.1 r12.2.1 r12.2.2.1 r12.2.2.2.1 r12.2.2.2.2.1 r12.2.2.2.2.2.1)]:List DQ)),r12.2.2.2.2.2.2.1,r12.2.2.2.2.2.2.2)else none
 else none)else none
 else
 some (q,q2,([]:List Z0),q3,q4,q5,b13,b14)) N (deep2,(2+r11.1),b3,b4,b5,b6,8,([]:List UInt8),0,0,([]:List DQ),r11.2.1,r11.2.2)else none) fun J=>
 bif decide (r4.1=2)then
 J (deep,true,0,([]:List UInt8),0,0,r4.2.1,r4.2.2)
 else
 J (deep,(decide (r4.1=3)),0,([]:List UInt8),0,0,r4.2.1,r4.2.2)
def jE6 (N D:Nat):Model:=⟨⟨[.box 900000 0,pI],[(900000,false,[.pv (.sl (.int .u8)),pI])]⟩,⟨[.agg [pI,pS,.own 1 .str 9 true,pI,pI,.own 2 .q 33 true]],[(900000,false,[.pv (.sl (.int .u8)),pI])]⟩,c3A (s_l30Query_m N D)⟩
theorem jGF (N D:Nat) (ih:mK 11 (jE6 N D)):mK 11 (jE6 N (D+1)):=
 mO (fC ih (fC (jGD N) (fC (jtX N) ja))) func11 rfl N (.seq .no (.seq .no (.seq (.seq .no (.block (.seq .no (.cond .no (.seq .no (.cond .no (.meet jFT .no .no))))))) (.seq .no (.seq (.seq .no (.block (.loop jFQ .no))) .no))))) (jE6 N (D+1)) (rs:=[900000])
theorem jE7 (N:Nat):∀D,mK 11 (jE6 N D)
 |0=>modelOk_none ⟨_,func11,by decide,by kernel_rfl⟩ _ (fun a=>rfl)
 |D+1=>jGF N D (jE7 N D)
def s_DrawScoreOf_m (e:List Int):Option ((List Z0)×(List Z4)×(List Z2)×(List Z1)×Int×Z0×(List Z0)×Int×Int×(List DQ)×Int):=
 (oB (jt0 N e) fun c=>oB (s_l30AnySeg_m N c.1 c.2) fun b=>oB (s_l30Query_m N N 3 b.2.2.2.2.1 b.2.2.2.2.2) fun a=>oB (jtW N 9 a.2.2.2.2.2.2.1 a.2.2.2.2.2.2.2) fun d=>some (b.1,b.2.1,b.2.2.1,b.2.2.2.1,a.1,a.2.1,a.2.2.1,a.2.2.2.1,a.2.2.2.2.1,a.2.2.2.2.2.1,d.1))
theorem j48 :mK 4 (bX [.pv (.sl (.int .u8))] [.tup [.agg [.own 1 .str 9 true,.own 2 Y17 103 true],.agg [.pv Y2,.own 3 Y5 69 false],.agg [pI,pS,.own 4 .str 9 true,pI,pI,.own 5 .q 33 true],pI]] (c1A (s_DrawScoreOf_m N))):=
 mO (fC (juQ N) (fC (juW N) (fC (jE7 N N) (fC (jtX N) ja)))) func4 rfl N .no _
def jqv :Sh:=⟨.dead::pI:: .dead:: .dead:: .box 4 0::dz 6 (.pv Y2::pI::pI::dz 10 []),[(4,false,[pI,.nils,.nils])]⟩
def i_Seg_doc_m (f:(List Z2)×(List Z1)) (k:Int):Option (Int×Z10×Z5×Bool):=
 (iter (fun j (e,c,d,b,h)=>bif decide (b<d)then oB (idx c b) fun a=>(bif decide (a.1=e)then some (a.1,a.2.1,a.2.2,true)else if fits (b+1)then j (e,c,d,(b+1),h)else none)else some (0,([]:Z12),([]:Z6),false)) N (k,f.1,(f.1.length:Int),(0:Int),(0:Int)))
theorem jlU :mK 13 (bX [.ptr Y1,pI] [.tup [.agg [pI,.pv Y16,.pv Y13],pB]] (c2A (i_Seg_doc_m N))):=
 mO ja func13 rfl N (.seq .no (.seq (.seq .no (.block (.loop jqv .no))) .no)) _
def jaw (N:Nat) (a:Int):Z7:=
 (bif decide ((97:Int)<=a)then bif decide (a<=122)then some true else(bif decide ((48:Int)<=a)then some (decide (a<=57))else some false)else bif decide ((48:Int)<=a)then some (decide (a<=57))else some false)
theorem jeK :mK 113 (bX [.pv (.int .u8)] [pB] (c1A (jaw N))):=
 mO ja func113 rfl N .no _
def jm (N:Nat) (a:Int) (c:Int) (b:Int):Z7:=
 (bif decide (c<=a)then some (decide (a<=b))else some false)
theorem jY :mK 36 (bX [pI,pI,pI] [pB] (c3A (jm N))):=
 mO ja func36 rfl N .no _
def jqW :Sh:=⟨pS::dz 4 (pI::pI::dz 11 []),[]⟩
def jO (d:List UInt8):Z7:=
 (iter (fun i (b,c,a)=>bif decide (a<c)then oB (idx b a) fun f=>(oB (jaw N (f.toNat:Int)) fun e=>bif !e then some false else if fits (a+1)then i (b,c,(a+1))else none)else oB (jm N (b.length:Int) 1 12) fun j=>some j) N (d,(d.length:Int),(0:Int)))
theorem jcM :mK 64 (bX [pS] [pB] (c1A (jO N))):=
 mO (fC (jeK N) (fC (jY N) ja)) func64 rfl N (.seq .no (.seq (.seq .no (.block (.loop jqW .no))) .no)) _
def jmc :Sh:=⟨.pv (.sl .str)::dz 4 (.pv (.sl .str)::pI::pI::dz 21 []),[]⟩
def jb2 (d:List Z0):Z7:=
 (iter (fun h (b,e,c,a)=>bif decide (a<c)then oB (idx e a) fun f=>(oB (jO N f) fun i=>bif !i then some false else bif decide ((0:Int)<a)then if fits (a-1)then oB (idx b (a-1)) fun k=>(bif !Op.bytesLess k f then some false else if fits (a+1)then h (b,e,c,(a+1))else none)else none else if fits (a+1)then h (b,e,c,(a+1))else none)else some true) N (d,d,(d.length:Int),(0:Int)))
theorem jtw :mK 63 (bX [.pv (.sl .str)] [pB] (c1A (jb2 N))):=
 mO (fC (jcM N) ja) func63 rfl N (.seq .no (.seq (.seq .no (.block (.loop jmc .no))) .no)) _
def jdF (N:Nat) (a:List UInt8) (b:List UInt8):Z7:=
 (bif decide ((b.length:Int)<=(a.length:Int))then if fits ((a.length:Int)-(b.length:Int))then oB (cut a ((a.length:Int)-(b.length:Int)) (a.length:Int)) fun c=>(some (decide (c=b)))else none else some false)
theorem jpU :mK 155 (bX [pS,pS] [pB] (c2A (jdF N))):=
 mO ja func155 rfl N .no _
def jcN (c:List UInt8) (b:List UInt8):Z7:=
 (oB (jdF N c b) fun a=>some a)
theorem jsu :mK 114 (bX [pS,pS] [pB] (c2A (jcN N))):=
 mO (fC (jpU N) ja) func114 rfl N .no _
def jod :Sh:=⟨pS:: .dead:: .dead::pB::dz 32 [],[]⟩
def jnf :Sh:=⟨pS:: .dead:: .dead::pB::dz 6 (.own 600010 .str 9 true::pI::pI::dz 23 []),[]⟩
def jaB (l:List UInt8):Option (Z0):=
 (oB (jO N l) fun m=>bif !m then some ([]:List UInt8)else iter (fun k (j,o)=>bif o then iter (fun i (a,h,d,f,b)=>bif decide (b<f)then oB (idx d b) fun c=>(oB (jcN N a c) fun p=>bif p then if fits ((a.length:Int)-(c.length:Int))then bif decide ((3:Int)<=((a.length:Int)-(c.length:Int)))then if fits ((a.length:Int)-(c.length:Int))then oB (cut a 0 ((a.length:Int)-(c.length:Int))) fun n=>(k (n,true))else none else(if fits (b+1)then i (a,h,d,f,(b+1))else none)else none else if fits (b+1)then i (a,h,d,f,(b+1))else none)else k (a,h)) N (j,false,([([105,110,103]:List UInt8),([101,100]:List UInt8),([101,115]:List UInt8),([108,121]:List UInt8),([115]:List UInt8)]:List Z0),(([([105,110,103]:List UInt8),([101,100]:List UInt8),([101,115]:List UInt8),([108,121]:List UInt8),([115]:List UInt8)]:List Z0).length:Int),(0:Int))else some j) N (l,true))
theorem jio :mK 65 (bX [pS] [pS] (c1A (jaB N))):=
 mO (fC (jcM N) (fC (jsu N) ja)) func65 rfl N (.seq .no (.seq .no (.seq (.seq .no (.block (.loop jod (.seq .no (.block (.seq .no (.seq .no (.block (.loop jnf .no))))))))) .no))) _
def jkJ :Sh:=⟨.pv (.sl .str)::pS::dz 5 (pI::pI::dz 10 []),[]⟩
def jdH (e:List Z0) (h:List UInt8):Z11:=
 (iter (fun j (b,d,c,a)=>bif decide (a<c)then oB (idx b a) fun f=>(bif decide (d=f)then some a else if fits (a+1)then j (b,d,c,(a+1))else none)else some (-1)) N (e,h,(e.length:Int),(0:Int)))
theorem jkZ :mK 115 (bX [.pv (.sl .str),pS] [pI] (c2A (jdH N))):=
 mO ja func115 rfl N (.seq .no (.seq (.seq .no (.block (.loop jkJ .no))) .no)) _
def jao (c:List Z0) (b:List UInt8):Z7:=
 (oB (jdH N c b) fun a=>some (decide ((0:Int)<=a)))
theorem jh5 :mK 66 (bX [.pv (.sl .str),pS] [pB] (c2A (jao N))):=
 mO (fC (jkZ N) ja) func66 rfl N .no _
def jmj :Sh:=⟨.dead:: .box 1 0::dz 22 (.pv Y14::pI::pI::dz 46 []),[(1,false,[.pv (.sl .str),.pv Y14])]⟩
def jrC :Sh:=⟨.dead:: .box 1 0::dz 22 (.pv Y14::pI::pI::dz 12 (pB::dz 7 (pB:: .dead:: .dead:: .pv (.sl .str)::pI::pI::dz 20 []))),[(1,false,[.pv (.sl .str),.pv Y14])]⟩
def jaj (j:List Z0) (b:List Z4):Z7:=
 (bif decide ((6:Int)<j.length)then some false else oB (jb2 N j) fun A=>bif !A then some false else bif decide ((4:Int)<b.length)then some false else iter (fun u (n,o,i,C,x)=>bif decide (i<o)then oB (idx n i) fun a=>(oB (jm N (a.1.length:Int) 1 3) fun y=>bif !y then some false else oB (jO N a.2) fun t=>bif !t then some false else oB (jaB N a.2) fun q=>bif !decide (q=a.2)then some false else iter (fun D (p,m,f,w,z,k,l,d,h,r)=>bif decide (d<l)then oB (idx k d) fun c=>(oB (jO N c) fun B=>bif !B then some false else oB (jaB N c) fun v=>bif !decide (v=c)then some false else oB (jao N h c) fun E=>bif E then some false else if fits (d+1)then D (p,m,f,w,z,k,l,(d+1),h,r)else none)else if fits (f+1)then u (p,m,(f+1),h,r)else none) N (n,o,i,(!t),(!decide (q=a.2)),a.1,(a.1.length:Int),(0:Int),C,x))else some true) N (b,(b.length:Int),(0:Int),j,b))
theorem jdX :mK 25 (bX [.agg [.pv (.sl .str),.pv Y14]] [pB] (c2A (jaj N))):=
 mO (fC (jtw N) (fC (jY N) (fC (jcM N) (fC (jio N) (fC (jh5 N) ja))))) func25 rfl N (.seq .no (.seq .no (.seq (.seq .no (.block (.loop jmj (.seq .no (.seq .no (.seq (.block (.seq .no (.seq .no (.seq .no (.block (.loop jrC .no)))))) .no)))))) .no))) _
def jtd :Sh:=⟨pS::dz 4 (pI::pI::dz 16 []),[]⟩
def jaF (d:List UInt8):Z7:=
 (iter (fun i (b,c,a)=>bif decide (a<c)then oB (idx b a) fun e=>(bif decide ((e.toNat:Int)<32)then some false else oB (idx b a) fun h=>bif decide ((126:Int)<(h.toNat:Int))then some false else if fits (a+1)then i (b,c,(a+1))else none)else some (decide ((b.length:Int)<=160))) N (d,(d.length:Int),(0:Int)))
theorem jdK :mK 116 (bX [pS] [pB] (c1A (jaF N))):=
 mO ja func116 rfl N (.seq .no (.seq (.seq .no (.block (.loop jtd .no))) .no)) _
def jlC :Sh:=⟨.dead:: .box 1 0::dz 22 (.pv Y16::pI::pI::dz 66 []),[(1,false,[pI,.pv Y16,.pv Y13])]⟩
def jpt :Sh:=⟨.dead:: .box 1 0::dz 57 (.pv Y13::pI::pI::dz 31 []),[(1,false,[pI,.pv Y16,.pv Y13])]⟩
def jbx (u:Int) (e:Z12) (r:Z6):Z7:=
 (oB (jm N u 1 9999) fun y=>bif !y then some false else bif decide ((3:Int)<e.length)then some false else bif decide ((3:Int)<r.length)then some false else iter (fun p (h,i,a,l,d,c)=>bif decide (a<i)then oB (idx h a) fun k=>(oB (jO N k.1) fun x=>bif !x then some false else oB (jaF N k.2) fun B=>bif !B then some false else bif decide ((0:Int)<a)then if fits (a-1)then oB (idx d (a-1)) fun w=>(bif !Op.bytesLess w.1 k.1 then some false else if fits (a+1)then p (h,i,(a+1),l,d,c)else none)else none else if fits (a+1)then p (h,i,(a+1),l,d,c)else none)else iter (fun t (m,n,b,q,v,o)=>bif decide (b<n)then oB (idx m b) fun j=>(oB (jO N j.1) fun z=>bif !z then some false else oB (jm N j.2 0 999999999) fun A=>bif !A then some false else bif decide ((0:Int)<b)then if fits (b-1)then oB (idx o (b-1)) fun C=>(bif !Op.bytesLess C.1 j.1 then some false else if fits (b+1)then t (m,n,(b+1),q,v,o)else none)else none else if fits (b+1)then t (m,n,(b+1),q,v,o)else none)else some true) N (c,(c.length:Int),(0:Int),l,d,c)) N (e,(e.length:Int),(0:Int),u,e,r))
theorem jh0 :mK 67 (bX [.agg [pI,.pv Y16,.pv Y13]] [pB] (c3A (jbx N))):=
 mO (fC (jY N) (fC (jcM N) (fC (jdK N) ja))) func67 rfl N (.seq .no (.seq .no (.seq (.seq .no (.block (.loop jlC .no))) (.seq (.seq .no (.block (.loop jpt .no))) .no)))) _
def jpj :Sh:=⟨.pv Y2::dz 4 (.pv Y2::pI::pI::dz 26 []),[]⟩
def jbf (e:List Z2):Z7:=
 (iter (fun h (c,f,d,a)=>bif decide (a<d)then oB (idx f a) fun b=>(oB (jbx N b.1 b.2.1 b.2.2) fun i=>bif !i then some false else bif decide ((0:Int)<a)then if fits (a-1)then oB (idx c (a-1)) fun k=>(bif decide (b.1<=k.1)then some false else if fits (a+1)then h (c,f,d,(a+1))else none)else none else if fits (a+1)then h (c,f,d,(a+1))else none)else some (decide ((c.length:Int)<=16))) N (e,e,(e.length:Int),(0:Int)))
theorem jjU :mK 26 (bX [.pv Y2] [pB] (c1A (jbf N))):=
 mO (fC (jh0 N) ja) func26 rfl N (.seq .no (.seq (.seq .no (.block (.loop jpj .no))) .no)) _
def jbO (N:Nat) (c:Int) (b:Z12) (a:Z6):Option Z2:=
 (if room ([]:Z12).length b.length 32 then if room ([]:Z6).length a.length 24 then some (c,(([]:Z12)++b),(([]:Z6)++a))else none else none)
theorem jrI :mK 117 (bX [.agg [pI,.pv Y16,.pv Y13]] [.agg [pI,.own 1 Y18 110 true,.own 2 Y15 137 true]] (c3A (jbO N))):=
 mO ja func117 rfl N .no _
def joW :Sh:=⟨dz 3 (.own 600003 Y3 50 true::dz 3 (.pv Y2::pI::pI::dz 10 [])),[]⟩
def jbV (h:List Z2):Option ((List Z2)):=
 (iter (fun j (c,f,e,a)=>bif decide (a<e)then oB (idx f a) fun b=>(oB (jbO N b.1 b.2.1 b.2.2) fun d=>if room c.length ([d]:List Z2).length 56 then if fits (a+1)then j ((c++([d]:List Z2)),f,e,(a+1))else none else none)else some c) N (([]:List Z2),h,(h.length:Int),(0:Int)))
theorem joC :mK 68 (bX [.pv Y2] [.own 1 Y3 50 true] (c1A (jbV N))):=
 mO (fC (jrI N) ja) func68 rfl N (.seq .no (.seq .no (.seq (.seq .no (.block (.loop joW .no))) .no))) _
def jI (N:Nat) (a:Int):Z11:=
 (bif decide ((65:Int)<=a)then bif decide (a<=90)then some (IntKind.u8.wrap ((IntKind.u8.wrap (a+97))-65))else(some a)else some a)
theorem jmu :mK 156 (bX [.pv (.int .u8)] [.pv (.int .u8)] (c1A (jI N))):=
 mO ja func156 rfl N .no _
def jpB :Sh:=⟨pS:: .dead:: .dead:: .own 600003 Y6 165 true::pI::dz 57 [],[]⟩
def jo6 :Sh:=⟨pS:: .dead:: .dead:: .own 600003 Y6 165 true::pI:: .box 5 0:: .own 600006 (.int .u8) 5 true::dz 55 [],[(5,false,[pS,pI,pI,pI])]⟩
def jct (p:List UInt8):Option ((List Z8)):=
 (oB (jaF N p) fun u=>bif !u then some ([]:List Z8)else iter (fun l (j,i,e)=>bif decide (e<(j.length:Int))then oB (idx j e) fun w=>(oB (jI N (w.toNat:Int)) fun t=>oB (jaw N t) fun z=>bif !z then if fits (e+1)then l (j,i,(e+1))else none else iter (fun q (c,h,a,b,o,f,d,m)=>bif decide (a<(c.length:Int))then oB (idx c a) fun r=>(oB (jI N (r.toNat:Int)) fun v=>oB (jaw N v) fun x=>bif x then bif decide ((b.length:Int)<12)then oB (idx c a) fun y=>(oB (jI N (y.toNat:Int)) fun n=>if room b.length ([n]:List Int).length 1 then if fits (a+1)then q (c,h,(a+1),(b++([n]:List Int)),o,f,d,m)else none else none)else(if fits (a+1)then q (c,h,(a+1),b,o,f,d,m)else none)else if room h.length ([((bytesOf b),f,d,a)]:List Z8).length 40 then l (c,(h++([((bytesOf b),f,d,a)]:List Z8)),a)else none)else if room h.length ([((bytesOf b),f,d,a)]:List Z8).length 40 then l (c,(h++([((bytesOf b),f,d,a)]:List Z8)),a)else none) N (j,i,e,([]:List Int),([]:List UInt8),(i.length:Int),e,(0:Int)))else some i) N (p,([]:List Z8),(0:Int)))
theorem jqc :mK 118 (bX [pS] [.own 1 Y6 165 true] (c1A (jct N))):=
 mO (fC (jdK N) (fC (jmu N) (fC (jeK N) ja))) func118 rfl N (.seq .no (.seq .no (.seq .no (.seq (.seq .no (.block (.loop jpB (.seq .no (.block (.seq .no (.seq .no (.seq .no (.seq (.block (.loop jo6 .no)) .no))))))))) .no)))) _
def jty :Sh:=⟨.dead:: .pv Y13::pI:: .box 3 0::dz 3 (.pv (.opt Y17)::dz 8 (pI::pI::dz 73 [])),[(3,false,[.pv (.sl .str),.pv Y14])]⟩
def jss :Sh:=⟨.dead:: .pv Y13::pI:: .box 3 0::dz 3 (.pv (.opt Y17):: .dead:: .ptr Y17::pB::dz 5 (pI::pI::dz 31 (pB::dz 4 (.pv (.sl .str)::pI::pI::dz 34 [])))),[(3,false,[.pv (.sl .str),.pv Y14])]⟩
def jbH (c:List Z0) (c2:List Z4) (terms:Z6) (at0:Int):Option ((Option Z4)):=
 (iter (fun go (terms2,at02,best,t16,t17,c3,c4)=>bif decide (t17<t16)then oB (idx c4 t17) fun e=>(if fits ((terms2.length:Int)-at02)then bif decide (((terms2.length:Int)-at02)<(e.1.length:Int))then if fits (t17+1)then go (terms2,at02,best,t16,(t17+1),c3,c4)else none else(bif !(Option.isNone best)then oB best fun p=>(bif decide ((e.1.length:Int)<=(p.1.length:Int))then if fits (t17+1)then go (terms2,at02,best,t16,(t17+1),c3,c4)else none else iter (fun go2 (terms3,at03,best2,r,fits0,t162,t172,t49,t54,t55,t56,c5,c6)=>bif decide (t56<t55)then oB (idx t54 t56) fun e2=>(if fits (at03+t56)then oB (idx terms3 (at03+t56)) fun e3=>(bif fits0 then bif decide (e3.1=e2)then oB (idx terms3 at03) fun e4=>(if fits (e4.2+t56)then if fits (t56+1)then go2 (terms3,at03,best2,r,(decide (e3.2=(e4.2+t56))),t162,t172,t49,t54,t55,(t56+1),c5,c6)else none else none)else(if fits (t56+1)then go2 (terms3,at03,best2,r,false,t162,t172,t49,t54,t55,(t56+1),c5,c6)else none)else if fits (t56+1)then go2 (terms3,at03,best2,r,false,t162,t172,t49,t54,t55,(t56+1),c5,c6)else none)else none)else bif fits0 then if fits (t172+1)then go (terms3,at03,(some r),t162,(t172+1),c5,c6)else none else if fits (t172+1)then go (terms3,at03,best2,t162,(t172+1),c5,c6)else none) N (terms2,at02,best,e,true,t16,t17,(decide ((e.1.length:Int)<=(p.1.length:Int))),e.1,(e.1.length:Int),(0:Int),c3,c4))else iter (fun go3 (terms4,at04,best3,r2,fits02,t163,t173,t492,t542,t552,t562,c7,c8)=>bif decide (t562<t552)then oB (idx t542 t562) fun e5=>(if fits (at04+t562)then oB (idx terms4 (at04+t562)) fun e6=>(bif fits02 then bif decide (e6.1=e5)then oB (idx terms4 at04) fun e7=>(if fits (e7.2+t562)then if fits (t562+1)then go3 (terms4,at04,best3,r2,(decide (e6.2=(e7.2+t562))),t163,t173,t492,t542,t552,(t562+1),c7,c8)else none else none)else(if fits (t562+1)then go3 (terms4,at04,best3,r2,false,t163,t173,t492,t542,t552,(t562+1),c7,c8)else none)else if fits (t562+1)then go3 (terms4,at04,best3,r2,false,t163,t173,t492,t542,t552,(t562+1),c7,c8)else none)else none)else bif fits02 then if fits (t173+1)then go (terms4,at04,(some r2),t163,(t173+1),c7,c8)else none else if fits (t173+1)then go (terms4,at04,best3,t163,(t173+1),c7,c8)else none) N (terms2,at02,best,e,true,t16,t17,false,e.1,(e.1.length:Int),(0:Int),c3,c4))else none)else some best) N (terms,at0,(none:Option Z4),(c2.length:Int),(0:Int),c,c2))
theorem jtv :mK 119 (bX [.agg [.pv (.sl .str),.pv Y14],.pv Y13,pI] [.pv (.opt Y17)] (c4A (jbH N))):=
 mO ja func119 rfl N (.seq .no (.seq .no (.seq (.seq .no (.block (.loop jty (.seq .no (.seq .no (.seq (.block (.seq .no (.seq .no (.seq .no (.seq .no (.seq (.seq .no (.block (.loop jss .no))) .no)))))) .no)))))) .no))) _
def jlW :Sh:=⟨.dead:: .dead:: .box 2 0:: .dead:: .dead:: .own 600005 Y15 114 true:: .own 600006 Y15 114 true::dz 17 (.own 600024 Y6 165 true::pI::pI::dz 67 []),[(2,false,[.pv (.sl .str),.pv Y14])]⟩
def jnt :Sh:=⟨.dead:: .dead:: .box 2 0:: .dead:: .dead:: .own 600005 Y15 114 true:: .own 600006 Y15 114 true::dz 3 (pI::dz 83 []),[(2,false,[.pv (.sl .str),.pv Y14])]⟩
def jbw (y:List Z0) (u:List Z4) (x:List UInt8):Option (Z5):=
 (oB (jaj N y u) fun E=>bif !E then some ([]:Z6)else oB (jaF N x) fun D=>bif !D then some ([]:Z6)else oB (jct N x) fun B=>iter (fun n (l,e,h,i,b,c,j)=>bif decide (b<i)then oB (idx h b) fun k=>(oB (jaB N k.1) fun o=>oB (jao N c k.1) fun G=>bif !G then oB (jao N c o) fun C=>(bif !C then if room e.length ([(o,k.2.1)]:Z6).length 24 then if fits (b+1)then n (l,(e++([(o,k.2.1)]:Z6)),h,i,(b+1),c,j)else none else none else if fits (b+1)then n (l,e,h,i,(b+1),c,j)else none)else if fits (b+1)then n (l,e,h,i,(b+1),c,j)else none)else iter (fun z (f,d,a,r,p)=>bif decide (a<(d.length:Int))then oB (jbH N r p d a) fun q=>(bif Option.isNone q then oB (idx d a) fun v=>(if room f.length ([v]:Z6).length 24 then if fits (a+1)then z ((f++([v]:Z6)),d,(a+1),r,p)else none else none)else oB q fun A=>oB (idx d a) fun w=>if room f.length ([(A.2,w.2)]:Z6).length 24 then oB q fun t=>(if fits (a+(t.1.length:Int))then z ((f++([(A.2,w.2)]:Z6)),d,(a+(t.1.length:Int)),r,p)else none)else none)else some f) N (l,e,(0:Int),c,j)) N (([]:Z6),([]:Z6),B,(B.length:Int),(0:Int),y,u))
theorem jgO :mK 69 (bX [.agg [.pv (.sl .str),.pv Y14],pS] [.own 1 Y15 114 true] (c3A (jbw N))):=
 mO (fC (jdX N) (fC (jdK N) (fC (jqc N) (fC (jio N) (fC (jh5 N) (fC (jtv N) ja)))))) func69 rfl N (.seq .no (.seq .no (.seq .no (.seq .no (.seq (.seq .no (.block (.loop jlW .no))) (.seq (.seq .no (.block (.loop jnt .no))) .no)))))) _
def k__loop_example_fossick_impl_Seg_put_1_m (N:Nat) (b:List UInt8) (c:List UInt8) (e:Z3) (d:List UInt8) (a:Z0×Int):Z7:=
 (bif decide (b=d)then some (decide (c=a.1))else some false)
theorem jmw :mK 121 (bX [.agg [pS,pS,.pv Y11],.ptr .str,.ptr Y15] [pB] (c5A (k__loop_example_fossick_impl_Seg_put_1_m N))):=
 mO ja func121 rfl N .no _
def jnc :Sh:=⟨.pv Y4:: .clo 121 [.ptr .str,.ptr Y15]::dz 5 (pI::pI::dz 10 []),[]⟩
def k_slices_IndexFunc_146_m (f:List Z1) (k:Z0×Z0×Int):Z11:=
 (iter (fun j (d,c,e,a)=>bif decide (a<e)then oB (idx d a) fun b=>(oB (k__loop_example_fossick_impl_Seg_put_1_m N b.1 b.2.1 b.2.2 c.1 c.2) fun h=>bif h then some a else if fits (a+1)then j (d,c,e,(a+1))else none)else some (-1)) N (f,k,(f.length:Int),(0:Int)))
theorem jrl :mK 120 (bX [.pv Y4,.clo 121 [.ptr .str,.ptr Y15]] [pI] (c2A (k_slices_IndexFunc_146_m N))):=
 mO (fC (jmw N) ja) func120 rfl N (.seq .no (.seq (.seq .no (.block (.loop jnc .no))) .no)) _
def i_Seg_put_m (h:List UInt8) (f:List UInt8) (i:Int) (e:Int) (q:List Z2) (a:List Z1):Option ((List Z2)×(List Z1)):=
 (oB (k_slices_IndexFunc_146_m N a (h,f,i)) fun d=>bif decide (d<0)then if room a.length ([(h,f,([]:Z3))]:List Z1).length 56 then if 0<=(a.length:Int)/\(a.length:Int)<((a++([(h,f,([]:Z3))]:List Z1)).length:Int)then oB ((a++([(h,f,([]:Z3))]:List Z1))[(a.length:Int).toNat]?) fun b=>(if fits ((b.2.2.length:Int)-1)then bif decide (((b.2.2.length:Int)-1)<0)then oB ((a++([(h,f,([]:Z3))]:List Z1))[(a.length:Int).toNat]?) fun V=>(if(a.length:Int).toNat=(a.length:Int).toNat then if room b.2.2.length ([(e,([]:List Int))]:Z3).length 32 then if(a.length:Int).toNat=(a.length:Int).toNat then oB ((a++([(h,f,([]:Z3))]:List Z1))[(a.length:Int).toNat]?) fun k=>(if fits (((b.2.2.length:Int)-1)+1)then oB (((a++([(h,f,([]:Z3))]:List Z1)).set (a.length:Int).toNat (k.1,k.2.1,(b.2.2++([(e,([]:List Int))]:Z3))))[(a.length:Int).toNat]?) fun r=>(oB (r.2.2[(((b.2.2.length:Int)-1)+1).toNat]?) fun v=>oB (((a++([(h,f,([]:Z3))]:List Z1)).set (a.length:Int).toNat (k.1,k.2.1,(b.2.2++([(e,([]:List Int))]:Z3))))[(a.length:Int).toNat]?) fun ah=>if(a.length:Int).toNat=(a.length:Int).toNat then oB (((a++([(h,f,([]:Z3))]:List Z1)).set (a.length:Int).toNat (k.1,k.2.1,(b.2.2++([(e,([]:List Int))]:Z3))))[(a.length:Int).toNat]?) fun ac=>(if(a.length:Int).toNat=(a.length:Int).toNat then if 0<=(((b.2.2.length:Int)-1)+1)/\(((b.2.2.length:Int)-1)+1)<(r.2.2.length:Int)then oB (r.2.2[(((b.2.2.length:Int)-1)+1).toNat]?) fun S=>(if(((b.2.2.length:Int)-1)+1).toNat=(((b.2.2.length:Int)-1)+1).toNat then if room v.2.length ([i]:List Int).length 8 then if 0<=(((b.2.2.length:Int)-1)+1)/\(((b.2.2.length:Int)-1)+1)<(r.2.2.length:Int)then if(((b.2.2.length:Int)-1)+1).toNat=(((b.2.2.length:Int)-1)+1).toNat then oB (r.2.2[(((b.2.2.length:Int)-1)+1).toNat]?) fun G=>(some (q,(((a++([(h,f,([]:Z3))]:List Z1)).set (a.length:Int).toNat (k.1,k.2.1,(b.2.2++([(e,([]:List Int))]:Z3)))).modify ((a.length:Int).toNat) fun u=>(u.1,u.2.1,(r.2.2.set (((b.2.2.length:Int)-1)+1).toNat (G.1,(v.2++([i]:List Int))))))))else none else none else none else none)else none else none)else none)else none)else none else none else none)else(oB ((a++([(h,f,([]:Z3))]:List Z1))[(a.length:Int).toNat]?) fun ae=>if(a.length:Int).toNat=(a.length:Int).toNat then if 0<=((b.2.2.length:Int)-1)/\((b.2.2.length:Int)-1)<(b.2.2.length:Int)then oB (b.2.2[((b.2.2.length:Int)-1).toNat]?) fun P=>(bif !decide (P.1=e)then oB ((a++([(h,f,([]:Z3))]:List Z1))[(a.length:Int).toNat]?) fun aq=>(if(a.length:Int).toNat=(a.length:Int).toNat then if room b.2.2.length ([(e,([]:List Int))]:Z3).length 32 then if(a.length:Int).toNat=(a.length:Int).toNat then oB ((a++([(h,f,([]:Z3))]:List Z1))[(a.length:Int).toNat]?) fun m=>(if fits (((b.2.2.length:Int)-1)+1)then oB (((a++([(h,f,([]:Z3))]:List Z1)).set (a.length:Int).toNat (m.1,m.2.1,(b.2.2++([(e,([]:List Int))]:Z3))))[(a.length:Int).toNat]?) fun n=>(oB (n.2.2[(((b.2.2.length:Int)-1)+1).toNat]?) fun w=>oB (((a++([(h,f,([]:Z3))]:List Z1)).set (a.length:Int).toNat (m.1,m.2.1,(b.2.2++([(e,([]:List Int))]:Z3))))[(a.length:Int).toNat]?) fun ao=>if(a.length:Int).toNat=(a.length:Int).toNat then oB (((a++([(h,f,([]:Z3))]:List Z1)).set (a.length:Int).toNat (m.1,m.2.1,(b.2.2++([(e,([]:List Int))]:Z3))))[(a.length:Int).toNat]?) fun ag=>(if(a.length:Int).toNat=(a.length:Int).toNat then if 0<=(((b.2.2.length:Int)-1)+1)/\(((b.2.2.length:Int)-1)+1)<(n.2.2.length:Int)then oB (n.2.2[(((b.2.2.length:Int)-1)+1).toNat]?) fun ap=>(if(((b.2.2.length:Int)-1)+1).toNat=(((b.2.2.length:Int)-1)+1).toNat then if room w.2.length ([i]:List Int).length 8 then if 0<=(((b.2.2.length:Int)-1)+1)/\(((b.2.2.length:Int)-1)+1)<(n.2.2.length:Int)then if(((b.2.2.length:Int)-1)+1).toNat=(((b.2.2.length:Int)-1)+1).toNat then oB (n.2.2[(((b.2.2.length:Int)-1)+1).toNat]?) fun Q=>(some (q,(((a++([(h,f,([]:Z3))]:List Z1)).set (a.length:Int).toNat (m.1,m.2.1,(b.2.2++([(e,([]:List Int))]:Z3)))).modify ((a.length:Int).toNat) fun t=>(t.1,t.2.1,(n.2.2.set (((b.2.2.length:Int)-1)+1).toNat (Q.1,(w.2++([i]:List Int))))))))else none else none else none else none)else none else none)else none)else none)else none else none else none)else if(a.length:Int).toNat=(a.length:Int).toNat then oB (b.2.2[((b.2.2.length:Int)-1).toNat]?) fun E=>(oB ((a++([(h,f,([]:Z3))]:List Z1))[(a.length:Int).toNat]?) fun an=>if(a.length:Int).toNat=(a.length:Int).toNat then oB ((a++([(h,f,([]:Z3))]:List Z1))[(a.length:Int).toNat]?) fun ak=>(if(a.length:Int).toNat=(a.length:Int).toNat then if 0<=((b.2.2.length:Int)-1)/\((b.2.2.length:Int)-1)<(b.2.2.length:Int)then oB (b.2.2[((b.2.2.length:Int)-1).toNat]?) fun U=>(if((b.2.2.length:Int)-1).toNat=((b.2.2.length:Int)-1).toNat then if room E.2.length ([i]:List Int).length 8 then if 0<=((b.2.2.length:Int)-1)/\((b.2.2.length:Int)-1)<(b.2.2.length:Int)then if((b.2.2.length:Int)-1).toNat=((b.2.2.length:Int)-1).toNat then oB (b.2.2[((b.2.2.length:Int)-1).toNat]?) fun L=>(some (q,((a++([(h,f,([]:Z3))]:List Z1)).modify ((a.length:Int).toNat) fun z=>(z.1,z.2.1,(b.2.2.set ((b.2.2.length:Int)-1).toNat (L.1,(E.2++([i]:List Int))))))))else none else none else none else none)else none else none)else none)else none)else none else none)else none)else none else none else if 0<=d/\d<(a.length:Int)then oB (a[d.toNat]?) fun c=>(if fits ((c.2.2.length:Int)-1)then bif decide (((c.2.2.length:Int)-1)<0)then oB (a[d.toNat]?) fun T=>(if d.toNat=d.toNat then if room c.2.2.length ([(e,([]:List Int))]:Z3).length 32 then if d.toNat=d.toNat then oB (a[d.toNat]?) fun l=>(if fits (((c.2.2.length:Int)-1)+1)then oB ((a.set d.toNat (l.1,l.2.1,(c.2.2++([(e,([]:List Int))]:Z3))))[d.toNat]?) fun o=>(oB (o.2.2[(((c.2.2.length:Int)-1)+1).toNat]?) fun x=>oB ((a.set d.toNat (l.1,l.2.1,(c.2.2++([(e,([]:List Int))]:Z3))))[d.toNat]?) fun al=>if d.toNat=d.toNat then oB ((a.set d.toNat (l.1,l.2.1,(c.2.2++([(e,([]:List Int))]:Z3))))[d.toNat]?) fun am=>(if d.toNat=d.toNat then if 0<=(((c.2.2.length:Int)-1)+1)/\(((c.2.2.length:Int)-1)+1)<(o.2.2.length:Int)then oB (o.2.2[(((c.2.2.length:Int)-1)+1).toNat]?) fun aa=>(if(((c.2.2.length:Int)-1)+1).toNat=(((c.2.2.length:Int)-1)+1).toNat then if room x.2.length ([i]:List Int).length 8 then if 0<=(((c.2.2.length:Int)-1)+1)/\(((c.2.2.length:Int)-1)+1)<(o.2.2.length:Int)then if(((c.2.2.length:Int)-1)+1).toNat=(((c.2.2.length:Int)-1)+1).toNat then oB (o.2.2[(((c.2.2.length:Int)-1)+1).toNat]?) fun K=>(some (q,((a.set d.toNat (l.1,l.2.1,(c.2.2++([(e,([]:List Int))]:Z3)))).modify d.toNat fun A=>(A.1,A.2.1,(o.2.2.set (((c.2.2.length:Int)-1)+1).toNat (K.1,(x.2++([i]:List Int))))))))else none else none else none else none)else none else none)else none)else none)else none else none else none)else(oB (a[d.toNat]?) fun ai=>if d.toNat=d.toNat then if 0<=((c.2.2.length:Int)-1)/\((c.2.2.length:Int)-1)<(c.2.2.length:Int)then oB (c.2.2[((c.2.2.length:Int)-1).toNat]?) fun O=>(bif !decide (O.1=e)then oB (a[d.toNat]?) fun ad=>(if d.toNat=d.toNat then if room c.2.2.length ([(e,([]:List Int))]:Z3).length 32 then if d.toNat=d.toNat then oB (a[d.toNat]?) fun j=>(if fits (((c.2.2.length:Int)-1)+1)then oB ((a.set d.toNat (j.1,j.2.1,(c.2.2++([(e,([]:List Int))]:Z3))))[d.toNat]?) fun p=>(oB (p.2.2[(((c.2.2.length:Int)-1)+1).toNat]?) fun y=>oB ((a.set d.toNat (j.1,j.2.1,(c.2.2++([(e,([]:List Int))]:Z3))))[d.toNat]?) fun R=>if d.toNat=d.toNat then oB ((a.set d.toNat (j.1,j.2.1,(c.2.2++([(e,([]:List Int))]:Z3))))[d.toNat]?) fun X=>(if d.toNat=d.toNat then if 0<=(((c.2.2.length:Int)-1)+1)/\(((c.2.2.length:Int)-1)+1)<(p.2.2.length:Int)then oB (p.2.2[(((c.2.2.length:Int)-1)+1).toNat]?) fun ab=>(if(((c.2.2.length:Int)-1)+1).toNat=(((c.2.2.length:Int)-1)+1).toNat then if room y.2.length ([i]:List Int).length 8 then if 0<=(((c.2.2.length:Int)-1)+1)/\(((c.2.2.length:Int)-1)+1)<(p.2.2.length:Int)then if(((c.2.2.length:Int)-1)+1).toNat=(((c.2.2.length:Int)-1)+1).toNat then oB (p.2.2[(((c.2.2.length:Int)-1)+1).toNat]?) fun I=>(some (q,((a.set d.toNat (j.1,j.2.1,(c.2.2++([(e,([]:List Int))]:Z3)))).modify d.toNat fun B=>(B.1,B.2.1,(p.2.2.set (((c.2.2.length:Int)-1)+1).toNat (I.1,(y.2++([i]:List Int))))))))else none else none else none else none)else none else none)else none)else none)else none else none else none)else if d.toNat=d.toNat then oB (c.2.2[((c.2.2.length:Int)-1).toNat]?) fun D=>(oB (a[d.toNat]?) fun af=>if d.toNat=d.toNat then oB (a[d.toNat]?) fun W=>(if d.toNat=d.toNat then if 0<=((c.2.2.length:Int)-1)/\((c.2.2.length:Int)-1)<(c.2.2.length:Int)then oB (c.2.2[((c.2.2.length:Int)-1).toNat]?) fun aj=>(if((c.2.2.length:Int)-1).toNat=((c.2.2.length:Int)-1).toNat then if room D.2.length ([i]:List Int).length 8 then if 0<=((c.2.2.length:Int)-1)/\((c.2.2.length:Int)-1)<(c.2.2.length:Int)then if((c.2.2.length:Int)-1).toNat=((c.2.2.length:Int)-1).toNat then oB (c.2.2[((c.2.2.length:Int)-1).toNat]?) fun H=>(some (q,(a.modify d.toNat fun C=>(C.1,C.2.1,(c.2.2.set ((c.2.2.length:Int)-1).toNat (H.1,(D.2++([i]:List Int))))))))else none else none else none else none)else none else none)else none)else none)else none else none)else none)else none)
theorem jky :mK 70 ⟨⟨[.box 900000 0,pS,.agg [pS,pI],pI],[(900000,false,[.pv Y2,.tre 850001 Y5 69])]⟩,⟨[.tup []],[(900000,false,[.pv Y2,.tre 1 Y5 69])]⟩,c6A (i_Seg_put_m N)⟩:=
 mO (fC (jrl N) ja) func70 rfl N (.seq .no (.seq .no (.seq .no (.seq .no (.seq .no (.seq .no (.touch [.out 9 [(2,79,121,10),(1,88,3,0)]]))))))) _ (wr:=[33,34,70,71,91,92]) (rs:=[900000,850001]) (dw:=[16,33,70])
def jl0 :Sh:=⟨.pv (.int .u64):: .dead::pI::dz 22 [],[]⟩
def k_math_bits_Len64_m (N:Nat) (b:Int):Z11:=
 (meet (fun(a:Int×Int)=>match a with|(e,c)=>meet (fun(a:Int×Int)=>match a with|(d,f)=>meet (fun(a:Int×Int)=>match a with|(m,j)=>oB (idx ([0,1,2,2,3,3,3,3,4,4,4,4,4,4,4,4,5,5,5,5,5,5,5,5,5,5,5,5,5,5,5,5,6,6,6,6,6,6,6,6,6,6,6,6,6,6,6,6,6,6,6,6,6,6,6,6,6,6,6,6,6,6,6,6,7,7,7,7,7,7,7,7,7,7,7,7,7,7,7,7,7,7,7,7,7,7,7,7,7,7,7,7,7,7,7,7,7,7,7,7,7,7,7,7,7,7,7,7,7,7,7,7,7,7,7,7,7,7,7,7,7,7,7,7,7,7,7,7,8,8,8,8,8,8,8,8,8,8,8,8,8,8,8,8,8,8,8,8,8,8,8,8,8,8,8,8,8,8,8,8,8,8,8,8,8,8,8,8,8,8,8,8,8,8,8,8,8,8,8,8,8,8,8,8,8,8,8,8,8,8,8,8,8,8,8,8,8,8,8,8,8,8,8,8,8,8,8,8,8,8,8,8,8,8,8,8,8,8,8,8,8,8,8,8,8,8,8,8,8,8,8,8,8,8,8,8,8,8,8,8,8,8,8,8,8,8,8,8,8,8,8,8,8,8,8,8]:List UInt8) (IntKind.u8.wrap m)) fun h=>if fits (j+(IntKind.i64.wrap (h.toNat:Int)))then some (j+(IntKind.i64.wrap (h.toNat:Int)))else none) fun l=>bif decide ((256:Int)<=d)then if 0<=(8:Int)then if fits (f+8)then l ((d.fdiv (2^(min (8:Int).toNat (IntKind.bits .u64)))),(f+8))else none else none else l (d,f)) fun k=>bif decide ((65536:Int)<=e)then if 0<=(16:Int)then if fits (c+16)then k ((e.fdiv (2^(min (16:Int).toNat (IntKind.bits .u64)))),(c+16))else none else none else k (e,c)) fun i=>bif decide ((4294967296:Int)<=b)then if 0<=(32:Int)then i ((b.fdiv (2^(min (32:Int).toNat (IntKind.bits .u64)))),32)else none else i (b,0))
theorem jrK :mK 166 (bX [.pv (.int .u64)] [pI] (c1A (k_math_bits_Len64_m N))):=
 mO ja func166 rfl N (.seq .no (.meet jl0 .no (.meet jl0 .no (.meet jl0 .no .no)))) _
def k_math_bits_Len_m (b:Int):Z11:=
 (oB (k_math_bits_Len64_m N b) fun a=>some a)
theorem jda :mK 123 (bX [.pv (.int .u64)] [pI] (c1A (k_math_bits_Len_m N))):=
 mO (fC (jrK N) ja) func123 rfl N .no _
def jbn (N:Nat) (a:List UInt8):Z7:=
 (some (!decide (a=a)))
theorem jkt :mK 124 (bX [pS] [pB] (c1A (jbn N))):=
 mO ja func124 rfl N .no _
def jam (a:List UInt8) (b:List UInt8):Z11:=
 (oB (jbn N a) fun d=>oB (jbn N b) fun c=>bif d then bif c then some 0 else(some (-1))else bif c then some 1 else bif Op.bytesLess a b then some (-1)else bif !(Op.bytesLess a b||decide (a=b))then some 1 else some 0)
theorem ji2 :mK 74 (bX [pS,pS] [pI] (c2A (jam N))):=
 mO (fC (jkt N) ja) func74 rfl N .no _
def jlp :Sh:=⟨dz 3 (pI:: .dead:: .dead:: .pv Y19::pI::pI::dz 9 []),[]⟩
def jbe (d:List Int):Z11:=
 (iter (fun i (b,e,f,a)=>bif decide (a<f)then oB (idx e a) fun c=>(bif !decide (c=b)then some c else if fits (a+1)then i (b,e,f,(a+1))else none)else some b) N ((0:Int),d,(d.length:Int),(0:Int)))
theorem jhC :mK 73 (bX [.pv Y19] [pI] (c1A (jbe N))):=
 mO ja func73 rfl N (.seq .no (.seq .no (.seq (.seq .no (.block (.loop jlp .no))) .no))) _
def je (d:List UInt8) (b:List UInt8) (i:Z3) (c:List UInt8) (f:List UInt8) (j:Z3):Z11:=
 (oB (jam N d c) fun a=>oB (jam N b f) fun h=>oB (jbe N ([a,h]:List Int)) fun e=>some e)
theorem jaf :mK 72 (bX [.agg [pS,pS,.pv Y11],.agg [pS,pS,.pv Y11]] [pI] (c6A (je N))):=
 mO (fC (ji2 N) (fC (jhC N) ja)) func72 rfl N .no _
def k_slices_nextPowerOfTwo_m (b:Int):Z11:=
 (oB (k_math_bits_Len_m N (IntKind.u64.wrap b)) fun a=>if 0<=a then some (IntKind.u64.wrap ((1:Int)*2^(min a.toNat (IntKind.bits .u64))))else none)
theorem jhv :mK 192 (bX [pI] [.pv (.int .u64)] (c1A (k_slices_nextPowerOfTwo_m N))):=
 mO (fC (jda N) ja) func192 rfl N .no _
def k__slices_xorshift_Next_m (N:Nat) (a:Int):Option (Int×Int):=
 (if 0<=(13:Int)then if 0<=(7:Int)then if 0<=(17:Int)then some ((bitsI .xor .u64 (bitsI .xor .u64 (bitsI .xor .u64 a (IntKind.u64.wrap (a*2^(min (13:Int).toNat (IntKind.bits .u64))))) ((bitsI .xor .u64 a (IntKind.u64.wrap (a*2^(min (13:Int).toNat (IntKind.bits .u64))))).fdiv (2^(min (7:Int).toNat (IntKind.bits .u64))))) (IntKind.u64.wrap ((bitsI .xor .u64 (bitsI .xor .u64 a (IntKind.u64.wrap (a*2^(min (13:Int).toNat (IntKind.bits .u64))))) ((bitsI .xor .u64 a (IntKind.u64.wrap (a*2^(min (13:Int).toNat (IntKind.bits .u64))))).fdiv (2^(min (7:Int).toNat (IntKind.bits .u64)))))*2^(min (17:Int).toNat (IntKind.bits .u64))))),(bitsI .xor .u64 (bitsI .xor .u64 (bitsI .xor .u64 a (IntKind.u64.wrap (a*2^(min (13:Int).toNat (IntKind.bits .u64))))) ((bitsI .xor .u64 a (IntKind.u64.wrap (a*2^(min (13:Int).toNat (IntKind.bits .u64))))).fdiv (2^(min (7:Int).toNat (IntKind.bits .u64))))) (IntKind.u64.wrap ((bitsI .xor .u64 (bitsI .xor .u64 a (IntKind.u64.wrap (a*2^(min (13:Int).toNat (IntKind.bits .u64))))) ((bitsI .xor .u64 a (IntKind.u64.wrap (a*2^(min (13:Int).toNat (IntKind.bits .u64))))).fdiv (2^(min (7:Int).toNat (IntKind.bits .u64)))))*2^(min (17:Int).toNat (IntKind.bits .u64))))))else none else none else none)
theorem jet :mK 193 ⟨⟨[.box 900000 0],[(900000,false,[.pv (.int .u64)])]⟩,⟨[.pv (.int .u64)],[(900000,false,[.pv (.int .u64)])]⟩,c1A (k__slices_xorshift_Next_m N)⟩:=
 mO ja func193 rfl N .no _ (rs:=[900000])
section
variable {α γ ρ : Type} (c : γ -> α -> α -> Option Int)
def swpG (d:List α) (i j:Int) (k:List α->Option ρ):Option ρ:=
 if 0<=j/\j<(d.length:Int)then oB (d[j.toNat]?) fun e=>if 0<=i/\i<(d.length:Int)then oB (d[i.toNat]?) fun e2=>
  if 0<=i/\i<(d.length:Int)then oB (d[i.toNat]?) fun e3=>if 0<=j/\j<((d.set i.toNat e).length:Int)then oB ((d.set i.toNat e)[j.toNat]?) fun e4=>k ((d.set i.toNat e).set j.toNat e2)
  else none else none else none else none
def cmpG (ks:γ) (d:List α) (i j:Int) (k:Int->Option ρ):Option ρ:=
 if 0<=i/\i<(d.length:Int)then oB (d[i.toNat]?) fun e=>if 0<=j/\j<(d.length:Int)then oB (d[j.toNat]?) fun e2=>oB (c ks e e2) k else none else none
def cmpP (ks:γ) (d:List α) (j:Int) (k:Int->Option ρ):Option ρ:=
 if 0<=j/\j<(d.length:Int)then oB (d[j.toNat]?) fun e=>if fits (j-1)then if 0<=(j-1)/\(j-1)<(d.length:Int)then oB (d[(j-1).toNat]?) fun e2=>oB (c ks e e2) k else none else none else none
def swpP (d:List α) (j:Int) (k:List α->Option ρ):Option ρ:=if fits (j-1)then if fits (j-1)then swpG d j (j-1) k else none else none
def insG (N:Nat) (d:List α) (a b:Int) (ks:γ):Option (List α):=
 if fits (a+1)then iter (fun go (g:List α×Int×Int×γ×Int)=>
  match g with
  |(d2,a2,b2,ks2,i)=>
  bif decide (i<b2)then
   iter (fun go2 (g:List α×Int×Int×γ×Int×Int)=>
    match g with
    |(d3,a3,b3,ks3,i2,j)=>
    bif decide (a3<j)then cmpP c ks3 d3 j fun r=>bif decide (r<0)then swpP d3 j fun d=>if fits (j-1)then go2 (d,a3,b3,ks3,i2,j-1)else none
     else if fits (i2+1)then go (d3,a3,b3,ks3,i2+1)else none
    else if fits (i2+1)then go (d3,a3,b3,ks3,i2+1)else none) N (d2,a2,b2,ks2,i,i)
  else some d2) N (d,a,b,ks,a+1)else none
def siftG (N:Nat) (data:List α) (lo:Int) (hi:Int) (first:Int) (cmp:γ):Option ((List α)):=
 (iter (fun go (g:(List α)×Int×Int×γ×Int)=>
   match g with
   |(data2,hi2,first2,cmp2,root)=>
   (if fits (2*root)then(if fits ((2*root)+1)then(bif(decide (hi2<=((2*root)+1)))then
      (some data2)
      else
      (meet (fun(g:(List α)×Int×Int×γ×Int×Int)=>
        match g with
        |(data3,hi3,first3,cmp3,root2,child)=>
        (if fits (first3+root2)then(if 0<=(first3+root2)/\(first3+root2)<(data3.length:Int)then
          (oB (data3[(first3+root2).toNat]?) fun e3=>
           (if fits (first3+child)then(if 0<=(first3+child)/\(first3+child)<(data3.length:Int)then
             (oB (data3[(first3+child).toNat]?) fun e4=>
              (oB (c cmp3 e3 e4) fun r2=>
               (bif(!(decide (r2<0)))then
                (some data3)
                else
                (if fits (first3+root2)then(if fits (first3+child)then(if fits (first3+child)then(if 0<=(first3+child)/\(first3+child)<(data3.length:Int)then
                    (oB (data3[(first3+child).toNat]?) fun e5=>
                     (if fits (first3+root2)then(if 0<=(first3+root2)/\(first3+root2)<(data3.length:Int)then
                       (oB (data3[(first3+root2).toNat]?) fun e6=>
                        (if 0<=(first3+root2)/\(first3+root2)<(data3.length:Int)then
                         (oB (data3[(first3+root2).toNat]?) fun e7=>
                          (if 0<=(first3+child)/\(first3+child)<((data3.set (first3+root2).toNat e5).length:Int)then
                           (oB ((data3.set (first3+root2).toNat e5)[(first3+child).toNat]?) fun e8=>
                            (go (((data3.set (first3+root2).toNat e5).set (first3+child).toNat e6),hi3,first3,cmp3,child)))
                           else none))
                         else none))
                       else none)else none))
                    else none)else none)else none)else none))))
             else none)else none))
          else none)else none)) fun J=>
       (if fits (((2*root)+1)+1)then(bif(decide ((((2*root)+1)+1)<hi2))then
         (if fits (first2+((2*root)+1))then(if 0<=(first2+((2*root)+1))/\(first2+((2*root)+1))<(data2.length:Int)then
           (oB (data2[(first2+((2*root)+1)).toNat]?) fun e=>
            (if fits (first2+((2*root)+1))then(if fits ((first2+((2*root)+1))+1)then(if 0<=((first2+((2*root)+1))+1)/\((first2+((2*root)+1))+1)<(data2.length:Int)then
               (oB (data2[((first2+((2*root)+1))+1).toNat]?) fun e2=>
                (oB (c cmp2 e e2) fun r=>
                 (bif(decide (r<0))then
                  (if fits (((2*root)+1)+1)then(J (data2,hi2,first2,cmp2,root,(((2*root)+1)+1)))else none)
                  else
                  (J (data2,hi2,first2,cmp2,root,((2*root)+1))))))
               else none)else none)else none))
           else none)else none)
         else
         (J (data2,hi2,first2,cmp2,root,((2*root)+1))))else none)))else none)else none)) N (data,hi,first,cmp,lo))
def heapG (N:Nat) (data:List α) (a:Int) (b:Int) (cmp:γ):Option ((List α)):=
 (if fits (b-a)then(if fits ((b-a)-1)then(if 2≠0 then
    (if fits (((b-a)-1).tdiv 2)then(iter (fun go (g:(List α)×γ×Int×Int×Int×Int)=>
       match g with
       |(data2,cmp2,first,lo,hi,i)=>
       (bif(decide ((0:Int)<=i))then
        (oB (siftG c N data2 i hi first cmp2) fun r=>
         (if fits (i-1)then(go (r,cmp2,first,lo,hi,(i-1)))else none))
        else
        (if fits (hi-1)then(iter (fun go2 (g:(List α)×γ×Int×Int×Int)=>
           match g with
           |(data3,cmp3,first2,lo2,i2)=>
           (bif(decide ((0:Int)<=i2))then
            (if fits (first2+i2)then(if fits (first2+i2)then swpG data3 first2 (first2+i2) fun d=>(oB (siftG c N d lo2 i2 first2 cmp3) fun r2=>
                       (if fits (i2-1)then(go2 (r2,cmp3,first2,lo2,(i2-1)))else none))else none)else none)
            else
            (some data3))) N (data2,cmp2,first,lo,(hi-1)))else none))) N (data,cmp,a,0,(b-a),(((b-a)-1).tdiv 2)))else none)
    else none)else none)else none)
def breakG (N:Nat) (data:List α) (a:Int) (b:Int) (cmp:γ):Option (List α):=
 (if fits (b-a)then(bif(decide ((8:Int)<=(b-a)))then
   (oB (k_slices_nextPowerOfTwo_m N (b-a)) fun r=>
    (if 4≠0 then
     (if fits ((b-a).tdiv 4)then(if fits (((b-a).tdiv 4)*2)then(if fits (a+(((b-a).tdiv 4)*2))then(if fits ((a+(((b-a).tdiv 4)*2))-1)then(iter (fun go (g:(List α)×Int×Int×Int×Int×Int)=>
           match g with
           |(data2,a2,length,modulus,idx0,random)=>
           (if 4≠0 then
            (if fits (length.tdiv 4)then(if fits ((length.tdiv 4)*2)then(if fits (a2+((length.tdiv 4)*2))then(if fits ((a2+((length.tdiv 4)*2))+1)then(bif(decide (idx0<=((a2+((length.tdiv 4)*2))+1)))then
                 (oB (k__slices_xorshift_Next_m N random) fun r2=>
                  (meet (fun(g:(List α)×Int×Int×Int×Int×Int×Int)=>
                    match g with
                    |(data3,a3,length2,modulus2,idx02,other,random2)=>
                    (if fits (a3+other)then(if fits (a3+other)then swpG data3 idx02 (a3+other) fun d=>(if fits (idx02+1)then(go (d,a3,length2,modulus2,(idx02+1),random2))else none)else none)else none)) fun J=>
                   (bif(decide (length<=(IntKind.i64.wrap (bitsI .and .u64 r2.1 (IntKind.u64.wrap (modulus-1))))))then
                    (if fits ((IntKind.i64.wrap (bitsI .and .u64 r2.1 (IntKind.u64.wrap (modulus-1))))-length)then(J (data2,a2,length,modulus,idx0,((IntKind.i64.wrap (bitsI .and .u64 r2.1 (IntKind.u64.wrap (modulus-1))))-length),r2.2))else none)
                    else
                    (J (data2,a2,length,modulus,idx0,(IntKind.i64.wrap (bitsI .and .u64 r2.1 (IntKind.u64.wrap (modulus-1)))),r2.2)))))
                 else
                 (some data2))else none)else none)else none)else none)
            else none)) N (data,a,(b-a),r,((a+(((b-a).tdiv 4)*2))-1),(IntKind.u64.wrap (b-a))))else none)else none)else none)else none)
     else none))
   else
   (some data))else none)
def order2G (N:Nat) (data:List α) (a:Int) (b:Int) (cmp:γ) (b2:Int):Option (Int×Int×(List α)×Int):=
 cmpG c cmp data b a fun r=>(bif(decide (r<0))then(if fits (b2+1)then(some (b,a,data,(b2+1)))else none)else(some (a,b,data,b2)))
def medianG (N:Nat) (data:List α) (a:Int) (b:Int) (c0:Int) (cmp:γ) (b2:Int):Option (Int×(List α)×Int):=
 (oB (order2G c N data a b cmp b2) fun r=>
  (oB (order2G c N r.2.2.1 r.2.1 c0 cmp r.2.2.2) fun r2=>
   (oB (order2G c N r2.2.2.1 r.1 r2.1 cmp r2.2.2.2) fun r3=>
    (some (r3.2.1,r3.2.2.1,r3.2.2.2)))))
def medianAdjacentG (N:Nat) (data:List α) (a:Int) (cmp:γ) (b:Int):Option (Int×(List α)×Int):=
 (if fits (a-1)then(if fits (a+1)then(oB (medianG c N data (a-1) a (a+1) cmp b) fun r=>
    (some (r.1,r.2.1,r.2.2)))else none)else none)
def choosePivotG (N:Nat) (data:List α) (a:Int) (b:Int) (cmp:γ):Option (Int×Int×(List α)):=
 (if fits (b-a)then(if 4≠0 then
   (if fits ((b-a).tdiv 4)then(if fits (((b-a).tdiv 4)*1)then(if fits (a+(((b-a).tdiv 4)*1))then(if 4≠0 then
       (if fits ((b-a).tdiv 4)then(if fits (((b-a).tdiv 4)*2)then(if fits (a+(((b-a).tdiv 4)*2))then(if 4≠0 then
           (if fits ((b-a).tdiv 4)then(if fits (((b-a).tdiv 4)*3)then(if fits (a+(((b-a).tdiv 4)*3))then(meet (fun(g:(List α)×Int×Int)=>
                match g with
                |(data3,j2,swaps2)=>
                (bif(decide (swaps2=0))then
                 (some (j2,1,data3))
                 else
                 (bif(decide (swaps2=12))then
                  (some (j2,2,data3))
                  else
                  (some (j2,0,data3))))) fun J=>
               (bif(decide ((8:Int)<=(b-a)))then
                (meet (fun(g:(List α)×γ×Int×Int×Int×Int)=>
                  match g with
                  |(data2,cmp2,i,j,k,swaps)=>
                  (oB (medianG c N data2 i j k cmp2 swaps) fun r4=>
                   (J (r4.2.1,r4.1,r4.2.2)))) fun J2=>
                 (bif(decide ((50:Int)<=(b-a)))then
                  (oB (medianAdjacentG c N data (a+(((b-a).tdiv 4)*1)) cmp 0) fun r=>
                   (oB (medianAdjacentG c N r.2.1 (a+(((b-a).tdiv 4)*2)) cmp r.2.2) fun r2=>
                    (oB (medianAdjacentG c N r2.2.1 (a+(((b-a).tdiv 4)*3)) cmp r2.2.2) fun r3=>
                     (J2 (r3.2.1,cmp,r.1,r2.1,r3.1,r3.2.2)))))
                  else
                  (J2 (data,cmp,(a+(((b-a).tdiv 4)*1)),(a+(((b-a).tdiv 4)*2)),(a+(((b-a).tdiv 4)*3)),0))))
                else
                (J (data,(a+(((b-a).tdiv 4)*2)),0))))else none)else none)else none)
           else none)else none)else none)else none)
       else none)else none)else none)else none)
   else none)else none)
def reverseRangeG (N:Nat) (data:List α) (a:Int) (b:Int) (cmp:γ):Option ((List α)):=
 (if fits (b-1)then(iter (fun go (g:(List α)×Int×Int)=>
    match g with
    |(data2,i,j)=>
    (bif(decide (i<j))then swpG data2 i j fun d=>(if fits (i+1)then(if fits (j-1)then(go (d,(i+1),(j-1)))else none)else none)
     else
     (some data2))) N (data,a,(b-1)))else none)
def shDown (k:(List α×Int×Int×γ×Int×Int)->Option ρ) (N:Nat) (g:List α×Int×Int×γ×Int×Int×Int):Option ρ:=
 iter (fun go3 (g:(List α)×Int×Int×γ×Int×Int×Int)=>
  match g with
  |(d,a,b,ks,i,j,j4)=>
  bif decide ((1:Int)<=j4)then cmpP c ks d j4 fun r=>bif !decide (r<0)then k (d,a,b,ks,i,j)else swpP d j4 fun d'=>if fits (j4-1)then go3 (d',a,b,ks,i,j,j4-1)else none
  else k (d,a,b,ks,i,j)) N g
def shUp (k:(List α×Int×Int×γ×Int×Int)->Option ρ) (N:Nat) (g:List α×Int×Int×γ×Int×Int×Int):Option ρ:=
 iter (fun go4 (g:(List α)×Int×Int×γ×Int×Int×Int)=>
  match g with
  |(d,a,b,ks,i,j,j4)=>
  bif decide (j4<b)then cmpP c ks d j4 fun r=>bif !decide (r<0)then(if fits (j+1)then k (d,a,b,ks,i,j+1)else none)else swpP d j4 fun d'=>if fits (j4+1)then go4 (d',a,b,ks,i,j,j4+1)else none
  else if fits (j+1)then k (d,a,b,ks,i,j+1)else none) N g
def pisX (N:Nat) (go:(List α×Int×Int×γ×Int×Int)->Option (Bool×List α)) (d:List α) (a b:Int) (ks:γ) (i j:Int):Option (Bool×List α):=
 bif decide (i=b)then some (true,d)else if fits (b-a)then bif decide ((b-a)<50)then some (false,d)else
  swpP d i fun d'=>meet (fun(g:List α×Int×Int×γ×Int×Int)=>
   match g with
   |(d5,a5,b5,ks5,i4,j5)=>
   if fits (b5-i4)then bif decide ((2:Int)<=(b5-i4))then if fits (i4+1)then shUp c go N (d5,a5,b5,ks5,i4,j5,i4+1)else none
    else(if fits (j5+1)then go (d5,a5,b5,ks5,i4,j5+1)else none)else none) fun J=>
   if fits (i-a)then bif decide ((2:Int)<=(i-a))then if fits (i-1)then shDown c J N (d',a,b,ks,i,j,i-1)else none else J (d',a,b,ks,i,j)else none
 else none
def pisG (N:Nat) (d:List α) (a b:Int) (ks:γ):Option (Bool×List α):=
 if fits (a+1)then iter (fun go (g:List α×Int×Int×γ×Int×Int)=>
  match g with
  |(d2,a2,b2,ks2,i,j)=>
  bif decide (j<5)then
   iter (fun go2 (g:List α×Int×Int×γ×Int×Int)=>
    match g with
    |(d3,a3,b3,ks3,i2,j2)=>
    bif decide (i2<b3)then cmpP c ks3 d3 i2 fun r=>bif !decide (r<0)then(if fits (i2+1)then go2 (d3,a3,b3,ks3,i2+1,j2)else none)else pisX c N go d3 a3 b3 ks3 i2 j2
    else pisX c N go d3 a3 b3 ks3 i2 j2) N (d2,a2,b2,ks2,i,j)
  else some (false,d2)) N (d,a,b,ks,a+1,0)else none
def partE (go3:(List α×Int×γ×Int×Int)->Option (Int×Bool×List α)) (fl:Bool) (g:List α×Int×γ×Int×Int):Option (Int×Bool×List α):=
 match g with
 |(d,a,ks,i,j)=>
 bif decide (j<i)then swpG d j a fun d'=>some (j,fl,d')else swpG d i j fun d'=>if fits (i+1)then if fits (j-1)then go3 (d',a,ks,i+1,j-1)else none else none
def partD (k:(List α×Int×γ×Int×Int)->Option ρ) (N:Nat) (g:List α×Int×γ×Int×Int):Option ρ:=
 iter (fun go (g:List α×Int×γ×Int×Int)=>
  match g with
  |(d,a,ks,i,j)=>
  bif decide (i<=j)then cmpG c ks d j a fun r=>bif !decide (r<0)then(if fits (j-1)then go (d,a,ks,i,j-1)else none)else k (d,a,ks,i,j)
  else k (d,a,ks,i,j)) N g
def partU (k:(List α×Int×γ×Int×Int)->Option ρ) (N:Nat) (g:List α×Int×γ×Int×Int):Option ρ:=
 iter (fun go (g:List α×Int×γ×Int×Int)=>
  match g with
  |(d,a,ks,i,j)=>
  bif decide (i<=j)then cmpG c ks d i a fun r=>bif decide (r<0)then(if fits (i+1)then go (d,a,ks,i+1,j)else none)else k (d,a,ks,i,j)
  else k (d,a,ks,i,j)) N g
def partG (N:Nat) (d:List α) (a b p:Int) (ks:γ):Option (Int×Bool×List α):=
 swpG d a p fun d=>if fits (a+1)then if fits (b-1)then
  partU c (fun g=>partD c (partE (fun g=>iter (fun go3 g=>partU c (fun g=>partD c (partE go3 false) N g) N g) N g) true) N g) N (d,a,ks,a+1,b-1)
 else none else none
def peqE (go:(List α×Int×γ×Int×Int)->Option (Int×List α)) (g:List α×Int×γ×Int×Int):Option (Int×List α):=
 match g with
 |(d,a,ks,i,j)=>
 bif decide (j<i)then some (i,d)else swpG d i j fun d'=>if fits (i+1)then if fits (j-1)then go (d',a,ks,i+1,j-1)else none else none
def peqD (k:(List α×Int×γ×Int×Int)->Option ρ) (N:Nat) (g:List α×Int×γ×Int×Int):Option ρ:=
 iter (fun go (g:List α×Int×γ×Int×Int)=>
  match g with
  |(d,a,ks,i,j)=>
  bif decide (i<=j)then cmpG c ks d a j fun r=>bif decide (r<0)then(if fits (j-1)then go (d,a,ks,i,j-1)else none)else k (d,a,ks,i,j)
  else k (d,a,ks,i,j)) N g
def peqU (k:(List α×Int×γ×Int×Int)->Option ρ) (N:Nat) (g:List α×Int×γ×Int×Int):Option ρ:=
 iter (fun go (g:List α×Int×γ×Int×Int)=>
  match g with
  |(d,a,ks,i,j)=>
  bif decide (i<=j)then cmpG c ks d a i fun r=>bif !decide (r<0)then(if fits (i+1)then go (d,a,ks,i+1,j)else none)else k (d,a,ks,i,j)
  else k (d,a,ks,i,j)) N g
def peqG (N:Nat) (d:List α) (a b p:Int) (ks:γ):Option (Int×List α):=
 swpG d a p fun d=>if fits (a+1)then if fits (b-1)then iter (fun go g=>peqU c (fun g=>peqD c (peqE go) N g) N g) N (d,a,ks,a+1,b-1)else none else none
def pdqG (hs:List α->Int->Int->γ->Option (List α)) (pe:List α->Int->Int->Int->γ->Option (Int×List α)) (N:Nat):(D:Nat)->(List α)->Int->Int->Int->γ->Option ((List α))
 |0,_,_,_,_,_=>none
 |D+1,data,a,b,limit,cmp=>
 (iter (fun go (g:(List α)×Int×Int×Int×γ×Bool×Bool)=>
   match g with
   |(data2,a2,b2,limit2,cmp2,wasBalanced,wasPartitioned)=>
   (if fits (b2-a2)then(bif(decide ((b2-a2)<=12))then
     (oB (insG c N data2 a2 b2 cmp2) fun r=>
      (some r))
     else
     (bif(decide (limit2=0))then
      (oB (hs data2 a2 b2 cmp2) fun r2=>
       (some r2))
      else
      (meet (fun(g:(List α)×Int×Int×Int×γ×Bool×Bool×Int)=>
        match g with
        |(data3,a3,b3,limit3,cmp3,wasBalanced2,wasPartitioned2,length)=>
        (oB (choosePivotG c N data3 a3 b3 cmp3) fun r4=>
         (meet (fun(g:(List α)×Int×Int×Int×γ×Bool×Bool×Int×Int×Int)=>
           match g with
           |(data4,a4,b4,limit4,cmp4,wasBalanced3,wasPartitioned3,length2,pivot,hint)=>
           (meet (fun(g:(List α)×Int×Int×Int×γ×Bool×Bool×Int×Int)=>
             match g with
             |(data5,a5,b5,limit5,cmp5,wasBalanced4,wasPartitioned4,length3,pivot2)=>
             (bif(decide ((0:Int)<a5))then
              (if fits (a5-1)then(if 0<=(a5-1)/\(a5-1)<(data5.length:Int)then
                (oB (data5[(a5-1).toNat]?) fun e=>
                 (if 0<=pivot2/\pivot2<(data5.length:Int)then
                  (oB (data5[pivot2.toNat]?) fun e2=>
                   (oB (c cmp5 e e2) fun r7=>
                    (bif(!(decide (r7<0)))then
                     (oB (pe data5 a5 b5 pivot2 cmp5) fun r8=>
                      (go (r8.2,r8.1,b5,limit5,cmp5,wasBalanced4,wasPartitioned4)))
                     else
                     (oB (partG c N data5 a5 b5 pivot2 cmp5) fun r9=>
                      (if fits (r9.1-a5)then(if fits (b5-r9.1)then(if 8≠0 then
                         (if fits (length3.tdiv 8)then(bif(decide ((r9.1-a5)<(b5-r9.1)))then
                           (oB (pdqG hs pe N D r9.2.2 a5 r9.1 limit5 cmp5) fun r10=>
                            (if fits (r9.1+1)then(go (r10,(r9.1+1),b5,limit5,cmp5,(decide ((length3.tdiv 8)<=(r9.1-a5))),r9.2.1))else none))
                           else
                           (if fits (r9.1+1)then(oB (pdqG hs pe N D r9.2.2 (r9.1+1) b5 limit5 cmp5) fun r11=>
                             (go (r11,a5,r9.1,limit5,cmp5,(decide ((length3.tdiv 8)<=(b5-r9.1))),r9.2.1)))else none))else none)
                         else none)else none)else none)))))
                  else none))
                else none)else none)
              else
              (oB (partG c N data5 a5 b5 pivot2 cmp5) fun r12=>
               (if fits (r12.1-a5)then(if fits (b5-r12.1)then(if 8≠0 then
                  (if fits (length3.tdiv 8)then(bif(decide ((r12.1-a5)<(b5-r12.1)))then
                    (oB (pdqG hs pe N D r12.2.2 a5 r12.1 limit5 cmp5) fun r13=>
                     (if fits (r12.1+1)then(go (r13,(r12.1+1),b5,limit5,cmp5,(decide ((length3.tdiv 8)<=(r12.1-a5))),r12.2.1))else none))
                    else
                    (if fits (r12.1+1)then(oB (pdqG hs pe N D r12.2.2 (r12.1+1) b5 limit5 cmp5) fun r14=>
                      (go (r14,a5,r12.1,limit5,cmp5,(decide ((length3.tdiv 8)<=(b5-r12.1))),r12.2.1)))else none))else none)
                  else none)else none)else none)))) fun J3=>
            (bif wasBalanced3 then
             (bif wasPartitioned3 then
              (bif(decide (hint=1))then
               (oB (pisG c N data4 a4 b4 cmp4) fun r6=>
                (bif r6.1 then
                 (some r6.2)
                 else
                 (J3 (r6.2,a4,b4,limit4,cmp4,wasBalanced3,wasPartitioned3,length2,pivot))))
               else
               (J3 (data4,a4,b4,limit4,cmp4,wasBalanced3,wasPartitioned3,length2,pivot)))
              else
              (J3 (data4,a4,b4,limit4,cmp4,wasBalanced3,wasPartitioned3,length2,pivot)))
             else
             (J3 (data4,a4,b4,limit4,cmp4,wasBalanced3,wasPartitioned3,length2,pivot))))) fun J2=>
          (bif(decide (r4.2.1=2))then
           (oB (reverseRangeG N r4.2.2 a3 b3 cmp3) fun r5=>
            (if fits (b3-1)then(if fits (r4.1-a3)then(if fits ((b3-1)-(r4.1-a3))then(J2 (r5,a3,b3,limit3,cmp3,wasBalanced2,wasPartitioned2,length,((b3-1)-(r4.1-a3)),1))else none)else none)else none))
           else
           (J2 (r4.2.2,a3,b3,limit3,cmp3,wasBalanced2,wasPartitioned2,length,r4.1,r4.2.1)))))) fun J=>
       (bif(!wasBalanced)then
        (oB (breakG N data2 a2 b2 cmp2) fun r3=>
         (if fits (limit2-1)then(J (r3,a2,b2,(limit2-1),cmp2,wasBalanced,wasPartitioned,(b2-a2)))else none))
        else
        (J (data2,a2,b2,limit2,cmp2,wasBalanced,wasPartitioned,(b2-a2)))))))else none)) N (data,a,b,limit,cmp,true,true))
end
def cmp105 (N:Nat):(Unit)->Z1->Z1->Option Int:=(fun(cmp:Unit) (e e2:Z0×Z0×Z13)=>je N e.1 e.2.1 e.2.2 e2.1 e2.2.1 e2.2.2)
def jny :Sh:=⟨.mtk 800000 Y5 69 false::pI::pI:: .clo 72 []::dz 4 (pI::dz 44 []),[]⟩
def jll :Sh:=⟨.mtk 800000 Y5 69 false::pI::pI:: .clo 72 []::dz 4 (pI::pI::dz 43 []),[]⟩
def jeC (b:List Z1) (d:Int) (c:Int) (a:Unit):Option ((List Z1)):=insG (cmp105 N) N b d c a
 
theorem jqw :mK 157 (bX [.mtk 800000 Y5 69 false,pI,pI,.clo 72 []] [.tup [],.mtk 800000 Y5 69 false] (c4A (jeC N))):=
 mO (fC (jaf N) ja) func157 rfl N (.seq .no (.block (.loop jny (.seq .no (.seq (.block (.seq .no (.block (.loop jll .no)))) .no))))) _ (rs:=[800000])
def jnV :Sh:=⟨.mtk 800000 Y5 69 false:: .dead::pI::pI:: .clo 72 []::dz 5 (pI::dz 71 []),[]⟩
def jmo :Sh:=⟨.mtk 800000 Y5 69 false:: .dead::pI::pI:: .clo 72 []::dz 5 (pI::pI::dz 70 []),[]⟩
def jdy (b:List Z1) (e:Int) (c:Int) (d:Int) (a:Unit):Option ((List Z1)):=siftG (cmp105 N) N b e c d a
 
theorem jqE :mK 191 (bX [.mtk 800000 Y5 69 false,pI,pI,pI,.clo 72 []] [.tup [],.mtk 800000 Y5 69 false] (c5A (jdy N))):=
 mO (fC (jaf N) ja) func191 rfl N (.seq .no (.block (.loop jnV (.block (.seq .no (.seq .no (.meet jmo .no .no))))))) _ (rs:=[800000])
def jmY :Sh:=⟨.mtk 800000 Y5 69 false:: .dead:: .dead:: .clo 72 []::dz 4 (pI::pI::pI::pI::dz 48 []),[]⟩
def jq3 :Sh:=⟨.mtk 800000 Y5 69 false:: .dead:: .dead:: .clo 72 []::dz 4 (pI::pI:: .dead:: .dead::pI::dz 47 []),[]⟩
def jaC (b:List Z1) (d:Int) (c:Int) (a:Unit):Option ((List Z1)):=heapG (cmp105 N) N b d c a
 
theorem jqz :mK 158 (bX [.mtk 800000 Y5 69 false,pI,pI,.clo 72 []] [.tup [],.mtk 800000 Y5 69 false] (c4A (jaC N))):=
 mO (fC (jqE N) ja) func158 rfl N (.seq .no (.seq .no (.seq .no (.seq (.seq .no (.block (.loop jmY .no))) (.seq .no (.block (.loop jq3 .no))))))) _ (rs:=[800000])
def jkH :Sh:=⟨.mtk 800000 Y5 69 false::pI::dz 6 (pI:: .box 9 0:: .pv (.int .u64)::pI::dz 55 []),[(9,false,[.pv (.int .u64)])]⟩
def jmx :Sh:=⟨.mtk 800000 Y5 69 false::pI::dz 6 (pI:: .box 9 0:: .pv (.int .u64)::pI::pI::dz 54 []),[(9,false,[.pv (.int .u64)])]⟩
def jez (b:List Z1) (d:Int) (c:Int) (a:Unit):Option ((List Z1)):=breakG N b d c a
 
theorem jlO :mK 159 (bX [.mtk 800000 Y5 69 false,pI,pI,.clo 72 []] [.tup [],.mtk 800000 Y5 69 false] (c4A (jez N))):=
 mO (fC (jhv N) (fC (jet N) ja)) func159 rfl N (.seq .no (.seq .no (.cond (.seq .no (.seq .no (.seq .no (.block (.loop jkH (.seq .no (.seq (.block (.seq .no (.meet jmx .no .no))) .no))))))) .no))) _ (rs:=[800000])
def jcG (b:List Z1) (d:Int) (c:Int) (a:Unit) (e:Int):Option (Int×Int×(List Z1)×Int):=order2G (cmp105 N) N b d c a e
 
theorem jrN :mK 213 ⟨⟨[.mtk 800000 Y5 69 false,pI,pI,.box 900003 0,.clo 72 []],[(900003,false,[pI])]⟩,⟨[.tup [pI,pI],.mtk 800000 Y5 69 false],[(900003,false,[pI])]⟩,c5A (jcG N)⟩:=
 mO (fC (jaf N) ja) func213 rfl N .no _ (rs:=[900003,800000])
def jdE (b:List Z1) (e:Int) (d:Int) (c:Int) (a:Unit) (f:Int):Option (Int×(List Z1)×Int):=medianG (cmp105 N) N b e d c a f
 
theorem jfr :mK 195 ⟨⟨[.mtk 800000 Y5 69 false,pI,pI,pI,.box 900004 0,.clo 72 []],[(900004,false,[pI])]⟩,⟨[pI,.mtk 800000 Y5 69 false],[(900004,false,[pI])]⟩,c6A (jdE N)⟩:=
 mO (fC (jrN N) ja) func195 rfl N .no _ (rs:=[900004,800000])
def jca (b:List Z1) (d:Int) (a:Unit) (c:Int):Option (Int×(List Z1)×Int):=medianAdjacentG (cmp105 N) N b d a c
 
theorem jko :mK 194 ⟨⟨[.mtk 800000 Y5 69 false,pI,.box 900002 0,.clo 72 []],[(900002,false,[pI])]⟩,⟨[pI,.mtk 800000 Y5 69 false],[(900002,false,[pI])]⟩,c4A (jca N)⟩:=
 mO (fC (jfr N) ja) func194 rfl N .no _ (rs:=[900002,800000])
def jnR :Sh:=⟨.mtk 800000 Y5 69 false:: .dead:: .dead:: .clo 72 []::dz 7 (.box 11 0::pI::pI::pI::dz 48 []),[(11,false,[pI])]⟩
def jrt :Sh:=⟨.mtk 800000 Y5 69 false::dz 10 (.box 11 0:: .dead::pI::dz 49 []),[(11,false,[pI])]⟩
def jjM (b:List Z1) (d:Int) (c:Int) (a:Unit):Option (Int×Int×(List Z1)):=choosePivotG (cmp105 N) N b d c a
 
theorem joO :mK 160 (bX [.mtk 800000 Y5 69 false,pI,pI,.clo 72 []] [.tup [pI,pI],.mtk 800000 Y5 69 false] (c4A (jjM N))):=
 mO (fC (jko N) (fC (jfr N) ja)) func160 rfl N (.seq .no (.seq .no (.seq .no (.seq .no (.seq .no (.seq .no (.meet jrt (.seq .no (.cond (.meet jnR .no .no) .no)) .no))))))) _ (rs:=[800000])
def jpl :Sh:=⟨.mtk 800000 Y5 69 false::dz 7 (pI::pI::dz 24 []),[]⟩
def jeV (b:List Z1) (d:Int) (c:Int) (a:Unit):Option ((List Z1)):=reverseRangeG N b d c a
 
theorem jma :mK 161 (bX [.mtk 800000 Y5 69 false,pI,pI,.clo 72 []] [.tup [],.mtk 800000 Y5 69 false] (c4A (jeV N))):=
 mO ja func161 rfl N (.seq .no (.seq .no (.block (.loop jpl .no)))) _ (rs:=[800000])
def jn3 :Sh:=⟨.mtk 800000 Y5 69 false::pI::pI:: .clo 72 []::dz 5 (pI::pI::dz 130 []),[]⟩
def jsj :Sh:=⟨.mtk 800000 Y5 69 false::pI::pI:: .clo 72 []::dz 5 (pI::pI::pI::dz 129 []),[]⟩
def jnQ :Sh:=⟨.mtk 800000 Y5 69 false::pI::pI:: .clo 72 []::dz 5 (pI::pI:: .dead::pI::dz 128 []),[]⟩
def jhb (b:List Z1) (d:Int) (c:Int) (a:Unit):Option (Bool×(List Z1)):=pisG (cmp105 N) N b d c a
 
theorem jnw :mK 162 (bX [.mtk 800000 Y5 69 false,pI,pI,.clo 72 []] [pB,.mtk 800000 Y5 69 false] (c4A (jhb N))):=
 mO (fC (jaf N) ja) func162 rfl N (.seq .no (.seq .no (.seq (.seq .no (.block (.loop jn3 (.seq .no (.seq (.block (.seq (.block (.loop jn3 .no)) (.seq .no (.seq .no (.seq .no (.meet jn3 (.seq .no (.cond (.seq .no (.block (.loop jsj .no))) .no)) (.seq .no (.cond (.seq .no (.block (.loop jnQ .no))) .no)))))))) .no))))) .no))) _ (rs:=[800000])
end Go.Proofs.YtkglkigmdmohkaaGreatDoor
