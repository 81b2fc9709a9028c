
import Derived.Test.YtnkagklajgimlaaGreatDoorG1A
set_option linter.unusedVariables false
set_option linter.unusedSimpArgs false
namespace Go.Proofs.YtnkagklajgimlaaGreatDoor
open Go.RowKit Go.Proofs.Tryz
variable (N : Nat)
open Option renaming bind -> oB
def agi :aw:=⟨.ay 800000 cF 109 false::ak 7 (ab::ab::ak 24 []),[]⟩
def agw (a:List bq) (c:Int) (b:Int) (d:Unit):lJ:=tq N a c b d
 
theorem af5 :ax 246 (aI [.ay 800000 cF 109 false,ab,ab,.aV 109 []] [fK,.ay 800000 cF 109 false] (dq (agw N))):=
 aB aA func246 rfl N (ae (ae (aR agi))) _ (rs:=[800000])
def HP :aw:=⟨.ay 800000 cF 109 false::ab::ab:: .aV 109 []::ak 5 (ab::ab::ak 130 []),[]⟩
def agq :aw:=⟨.ay 800000 cF 109 false::ab::ab:: .aV 109 []::ak 5 (ab::ab::ab::ak 129 []),[]⟩
def afP :aw:=⟨.ay 800000 cF 109 false::ab::ab:: .aV 109 []::ak 5 (ab::ab:: .dead::ab::ak 128 []),[]⟩
def agf (a:List bq) (c:Int) (b:Int) (d:Unit):Option (Bool×(List bq)):=tj (j5 N) N a c b d
 
theorem afE :ax 247 (aI [.ay 800000 cF 109 false,ab,ab,.aV 109 []] [a7,.ay 800000 cF 109 false] (dq (agf N))):=
 aB (al (sM N) aA) func247 rfl N (ae (ae (.seq (ae (.block (.loop HP (ae (.seq (.block (.seq (aR HP) (ae (ae (ae (.meet HP (ae (.cond (ae (aR agq)) .no)) (ae (.cond (ae (aR afP)) .no)))))))) .no))))) .no))) _ (rs:=[800000])
def HO :aw:=⟨.ay 800000 cF 109 false::ab:: .dead:: .dead:: .aV 109 []::ak 6 (ab::ab::ak 77 []),[]⟩
def af2 (a:List bq) (d:Int) (b:Int) (c:Int) (e:Unit):Option (Int×(List bq)):=mN (j5 N) N a d b c e
 
theorem afu :ax 248 (aI [.ay 800000 cF 109 false,ab,ab,ab,.aV 109 []] [ab,.ay 800000 cF 109 false] (fm (af2 N))):=
 aB (al (sM N) aA) func248 rfl N (ae (ae (ae (.seq (.block (.loop HO (.block (.seq (aR HO) (.seq (aR HO) .no))))) .no)))) _ (rs:=[800000])
def x0 :aw:=⟨.ay 800000 cF 109 false::ab:: .dead:: .dead:: .aV 109 []::ak 7 (ab::ab::ak 164 []),[]⟩
def afY (a:List bq) (d:Int) (b:Int) (c:Int) (e:Unit):Option (Int×Bool×(List bq)):=p1 (j5 N) N a d b c e
 
theorem agn :ax 249 (aI [.ay 800000 cF 109 false,ab,ab,ab,.aV 109 []] [.bR [ab,a7],.ay 800000 cF 109 false] (fm (afY N))):=
 aB (al (sM N) aA) func249 rfl N (ae (ae (ae (.seq (aR x0) (.seq (aR x0) (ae (ae (ae (ae (.seq (.block (.loop x0 (.block (.seq (aR x0) (.seq (aR x0) .no))))) .no)))))))))) _ (rs:=[800000])
def agd :aw:=⟨.ay 800000 cF 109 false::ab::ab::ab:: .aV 109 []::ak 5 (a7::a7::ak 136 []),[]⟩
def agb :aw:=⟨.ay 800000 cF 109 false::ab::ab::ab:: .aV 109 []::ak 5 (a7::a7::ab::ab::ak 134 []),[]⟩
def afX :aw:=⟨.ay 800000 cF 109 false::ab::ab::ab:: .aV 109 []::ak 5 (a7::a7::ab::ab::ab::ak 133 []),[]⟩
def afO :aw:=⟨.ay 800000 cF 109 false::ab::ab::ab:: .aV 109 []::ak 5 (a7::a7::ab::ak 135 []),[]⟩
def Pz (N D:Nat) (h:List bq) (a b g:Int) (e:Unit):lJ:=l3 (j5 N) (fun d a b c=>lS (j5 N) N d a b c) (fun d a b f c=>mN (j5 N) N d a b f c) N D h a b g e
 
def BG (N D:Nat):Model:=⟨⟨[.ay 800000 cF 109 false,ab,ab,ab,.aV 109 []],[]⟩,⟨[fK,.ay 800000 cF 109 false],[]⟩,fm (Pz N D)⟩
theorem agu (N D:Nat) (a:ax 170 (BG N D)):ax 170 (BG N (D+1)):=
 aB (al a (al (afN N) (al (agm N) (al (aga N) (al (agB N) (al (af5 N) (al (afE N) (al (sM N) (al (afu N) (al (agn N) aA)))))))))) func170 rfl N (ae (ae (.block (.loop agd (.block (ae (ae (ae (.meet afO .no (ae (.meet afX .no (.meet agb .no .no)))))))))))) (BG N (D+1)) (rs:=[800000])
theorem PD (N:Nat):∀D,ax 170 (BG N D)
 |0=>lg ⟨_,func170,by decide,by kernel_rfl⟩ _ (fun a=>rfl)
 |D+1=>agu N D (PD N D)
def C8 (a:List bq) (d:Unit):lJ:=
 (oB (pQ N (IntKind.u64.wrap (a.length:Int))) fun b=>oB (Pz N N a 0 (a.length:Int) b ()) fun c=>some c)
theorem agc :ax 108 (aI [.ay 800000 cF 109 false,.aV 109 []] [fK,.ay 800000 cF 109 false] (cr (C8 N))):=
 aB (al (yb N) (al (PD N N) aA)) func108 rfl N .no _ (rs:=[800000])
def afs :aw:=⟨ak 3 (.ay 600003 cF 109 false::ak 3 (.af jw::ab::ab::ak 11 [])),[]⟩
def sB (f:List cU):lJ:=
 (iter (fun i (b,e,h,a)=>bif decide (a<h)then oB (idx e a) fun c=>(oB (x1 N c.1.1 c.1.2 c.2) fun d=>if room b.length d.length 56 then if fits (a+1)then i ((b++d),e,h,(a+1))else none else none)else oB (C8 N b ()) fun k=>some k) N (([]:List bq),f,(f.length:Int),(0:Int)))
theorem HR :ax 49 (aI [.af jw] [.own 1 cF 109 false] (dY (sB N))):=
 aB (al (Py N) (al (agc N) aA)) func49 rfl N (ae (ae (.seq (ae (aR afs)) .no))) _ (wr:=[6,16])
def af0 :aw:=⟨.dead:: .box 1 0::ak 14 (.af jw::ab::ab::ak 13 []),[(1,false,[bl,.af dx,.af jw])]⟩
def mF (f:List ah) (h:List b3) (b:List cU):cx:=
 (oB (oI N f h) fun m=>bif !m then some false else bif decide ((5:Int)<b.length)then some false else iter (fun l (k,d,a,i,e,j)=>bif decide (a<d)then oB (idx k a) fun c=>(oB (BJ N i e c.1.1 c.1.2 c.2) fun p=>bif !p then some false else if fits (a+1)then l (k,d,(a+1),i,e,j)else none)else oB (sB N j) fun o=>oB (vl N o) fun q=>some q) N (b,(b.length:Int),(0:Int),f,h,b))
theorem sN :ax 14 (aI [lq] [a7] (eI (mF N))):=
 aB (al (sX N) (al (agk N) (al (HR N) (al (Iw N) aA)))) func14 rfl N (ae (ae (.seq (ae (aR af0)) .no))) _
def ke (N:Nat) (a:Int):Option (ah):=xV a
 
def ahj (N:Nat):Model:=⟨⟨[ab],[]⟩,⟨[aD],[]⟩,dY (ke N)⟩
theorem vb :ax 31 (ahj N):=ahw
def u2 (a:Int):Option (ah):=
 (if fits (1000+a)then oB (ke N (1000+a)) fun b=>(if([103,101,110]:ah).length+b.length<=9223372036854775807 then some (([103,101,110]:ah)++b)else none)else none)
theorem Og :ax 30 (aI [ab] [aD] (dY (u2 N))):=
 aB (al (vb N) aA) func30 rfl N .no _
def abg :aw:=⟨.dead::aD::ak 7 (.af fg::ab::ab::ak 10 []),[]⟩
def uY (e:cD) (i:ah):Option (ah×Bool):=
 (iter (fun h (d,b,c,a)=>bif decide (a<c)then oB (idx b a) fun f=>(bif decide (f.1=d)then some (f.2,true)else if fits (a+1)then h (d,b,c,(a+1))else none)else some (([]:ah),false)) N (i,e,(e.length:Int),(0:Int)))
theorem Oi :ax 29 (aI [.agg [.af fg],aD] [.bR [aD,a7]] (cr (uY N))):=
 aB aA func29 rfl N (ae (.seq (ae (aR abg)) .no)) _
def ahN :aw:=⟨.dead:: .box 1 0:: .dead::aD::ak 13 (.af fg::ab::ab::ak 34 []),[(1,false,[ab,.af fg,.af gb])]⟩
def ahF :aw:=⟨ak 3 (aD::ak 31 (.af gb::ab::ab::ak 16 [])),[]⟩
def Bf (h:Int) (c:cD) (p:dz):Option (ah):=
 (oB (pJ N h c p) fun t=>bif !t then some ([]:ah)else oB (ke N h) fun j=>if([100,111,99,32]:ah).length+j.length<=9223372036854775807 then if(([100,111,99,32]:ah)++j).length+([10]:ah).length<=9223372036854775807 then iter (fun u (k,n,r,d,x,w,i)=>bif decide (d<r)then oB (idx n d) fun a=>(if([102,105,101,108,100,32]:ah).length+a.1.length<=9223372036854775807 then if(([102,105,101,108,100,32]:ah)++a.1).length+([32]:ah).length<=9223372036854775807 then if((([102,105,101,108,100,32]:ah)++a.1)++([32]:ah)).length+a.2.length<=9223372036854775807 then if(((([102,105,101,108,100,32]:ah)++a.1)++([32]:ah))++a.2).length+([10]:ah).length<=9223372036854775807 then if k.length+((((([102,105,101,108,100,32]:ah)++a.1)++([32]:ah))++a.2)++([10]:ah)).length<=9223372036854775807 then if fits (d+1)then u ((k++((((([102,105,101,108,100,32]:ah)++a.1)++([32]:ah))++a.2)++([10]:ah))),n,r,(d+1),x,w,i)else none else none else none else none else none else none)else iter (fun v (m,q,o,e)=>bif decide (e<o)then oB (idx q e) fun b=>(if([110,117,109,32]:ah).length+b.1.length<=9223372036854775807 then if(([110,117,109,32]:ah)++b.1).length+([32]:ah).length<=9223372036854775807 then oB (ke N b.2) fun f=>(if((([110,117,109,32]:ah)++b.1)++([32]:ah)).length+f.length<=9223372036854775807 then if(((([110,117,109,32]:ah)++b.1)++([32]:ah))++f).length+([10]:ah).length<=9223372036854775807 then if m.length+((((([110,117,109,32]:ah)++b.1)++([32]:ah))++f)++([10]:ah)).length<=9223372036854775807 then if fits (e+1)then v ((m++((((([110,117,109,32]:ah)++b.1)++([32]:ah))++f)++([10]:ah))),q,o,(e+1))else none else none else none else none)else none else none)else some m) N (k,i,(i.length:Int),(0:Int))) N (((([100,111,99,32]:ah)++j)++([10]:ah)),c,(c.length:Int),(0:Int),h,c,p)else none else none)
theorem ah9 :ax 83 (aI [jN] [aD] (eI (Bf N))):=
 aB (al (Cs N) (al (vb N) aA)) func83 rfl N (ae (ae (ae (.seq (ae (aR ahN)) (.seq (ae (aR ahF)) .no))))) _
def ahS :aw:=⟨ak 3 (.box 3 0:: .dead::aD::ak 12 (.af cI::ab::ab::ak 23 [])),[(3,false,[.af cI,.af eU,.af cR])]⟩
def ahI :aw:=⟨ak 5 (aD::ak 24 (.af cR::ab::ab::ak 11 [])),[]⟩
def sz (y:List ah) (v:List b3) (a:List bq) (m:List bJ) (n:List Int):Option (ah):=
 (oB (mF N y v ([((a,m),n)]:List cU)) fun r=>bif !r then some ([]:ah)else iter (fun w (e,k,o,c,t,u,f)=>bif decide (c<o)then oB (idx k c) fun h=>(oB (Bf N h.1 h.2.1 h.2.2) fun q=>if e.length+q.length<=9223372036854775807 then if fits (c+1)then w ((e++q),k,o,(c+1),t,u,f)else none else none)else iter (fun x (j,l,p,b)=>bif decide (b<p)then oB (idx l b) fun z=>(oB (ke N z) fun d=>if([100,101,97,100,32]:ah).length+d.length<=9223372036854775807 then if(([100,101,97,100,32]:ah)++d).length+([10]:ah).length<=9223372036854775807 then if j.length+((([100,101,97,100,32]:ah)++d)++([10]:ah)).length<=9223372036854775807 then if fits (b+1)then x ((j++((([100,101,97,100,32]:ah)++d)++([10]:ah))),l,p,(b+1))else none else none else none else none)else some j) N (e,f,(f.length:Int),(0:Int))) N (([]:ah),a,(a.length:Int),(0:Int),a,m,n))
theorem P9 :ax 32 (aI [fb,.agg [.af cI,.af eU,.af cR]] [aD] (fm (sz N))):=
 aB (al (sN N) (al (ah9 N) (al (vb N) aA))) func32 rfl N (ae (ae (ae (.seq (ae (aR ahS)) (.seq (ae (aR ahI)) .no))))) _
def aih :aw:=⟨aD:: .dead:: .dead:: .af (.int .u32):: .dead:: .dead::ab::ab::ak 23 [],[]⟩
def abj :aw:=⟨aD:: .dead:: .dead:: .af (.int .u32):: .dead:: .dead::ab::ab::ak 8 (ab::ak 14 []),[]⟩
def xG (l:ah):eH:=
 (iter (fun n (i,k,m,e)=>bif decide (e<m)then oB (idx i e) fun o=>(iter (fun j (h,c,d,b,a)=>bif decide (a<8)then bif decide ((ey .and .u32 c 1)=1)then if 0<=(1:Int)then if fits (a+1)then j (h,(ey .xor .u32 (c.fdiv (2^(min (1:Int).toNat (IntKind.bits .u32)))) 3988292384),d,b,(a+1))else none else none else(if 0<=(1:Int)then if fits (a+1)then j (h,(c.fdiv (2^(min (1:Int).toNat (IntKind.bits .u32)))),d,b,(a+1))else none else none)else if fits (b+1)then n (h,c,d,(b+1))else none) N (i,(ey .xor .u32 k (IntKind.u32.wrap (o.toNat:Int))),m,e,(0:Int)))else some (IntKind.i64.wrap (ey .xor .u32 4294967295 k))) N (l,(4294967295:Int),(l.length:Int),(0:Int)))
theorem Qh :ax 33 (aI [aD] [ab] (dY (xG N))):=
 aB aA func33 rfl N (ae (ae (.seq (ae (.block (.loop aih (ae (ae (.seq (.block (ae (ae (ae (aR abj))))) .no)))))) .no))) _
def BA (c:ah) (d:ah) (a:ah) (e:ah):eH:=
 (oB (q9 N c a) fun b=>some b)
theorem sI :ax 85 (aI [.agg [aD,aD],.agg [aD,aD]] [ab] (dq (BA N))):=
 aB (al (QT N) aA) func85 rfl N .no _
def j4 (N:Nat):(Unit)->(ah×ah)->(ah×ah)->Option Int:=(fun(cmp:Unit) (e a:ah×ah)=>BA N e.1 e.2 a.1 a.2)
def acq :aw:=⟨.ay 800000 cM 83 true::ab::ab:: .aV 85 []::ak 4 (ab::ak 44 []),[]⟩
def ace :aw:=⟨.ay 800000 cM 83 true::ab::ab:: .aV 85 []::ak 4 (ab::ab::ak 43 []),[]⟩
def ab5 (a:cD) (c:Int) (b:Int) (d:Unit):Option (gd):=sG (j4 N) N a c b d
 
theorem acn :ax 218 (aI [.ay 800000 cM 83 true,ab,ab,.aV 85 []] [fK,.ay 800000 cM 83 true] (dq (ab5 N))):=
 aB (al (sI N) aA) func218 rfl N (ae (.block (.loop acq (ae (.seq (.block (ae (aR ace))) .no))))) _ (rs:=[800000])
def abG :aw:=⟨.ay 800000 cM 83 true:: .dead::ab::ab:: .aV 85 []::ak 5 (ab::ak 71 []),[]⟩
def acA :aw:=⟨.ay 800000 cM 83 true:: .dead::ab::ab:: .aV 85 []::ak 5 (ab::ab::ak 70 []),[]⟩
def abQ (b:cD) (d:Int) (c:Int) (a:Int) (e:Unit):Option (gd):=rJ (j4 N) N b d c a e
 
theorem ab0 :ax 295 (aI [.ay 800000 cM 83 true,ab,ab,ab,.aV 85 []] [fK,.ay 800000 cM 83 true] (fm (abQ N))):=
 aB (al (sI N) aA) func295 rfl N (ae (.block (.loop abG (.block (ae (ae (.meet acA .no .no))))))) _ (rs:=[800000])
def abT :aw:=⟨.ay 800000 cM 83 true:: .dead:: .dead:: .aV 85 []::ak 4 (ab::ab::ab::ab::ak 48 []),[]⟩
def abD :aw:=⟨.ay 800000 cM 83 true:: .dead:: .dead:: .aV 85 []::ak 4 (ab::ab:: .dead:: .dead::ab::ak 47 []),[]⟩
def ab3 (a:cD) (c:Int) (b:Int) (d:Unit):Option (gd):=lS (j4 N) N a c b d
 
theorem acE :ax 219 (aI [.ay 800000 cM 83 true,ab,ab,.aV 85 []] [fK,.ay 800000 cM 83 true] (dq (ab3 N))):=
 aB (al (ab0 N) aA) func219 rfl N (ae (ae (ae (.seq (ae (aR abT)) (ae (aR abD)))))) _ (rs:=[800000])
def acm :aw:=⟨.ay 800000 cM 83 true::ab::ak 6 (ab:: .box 9 0:: .af (.int .u64)::ab::ak 55 []),[(9,false,[.af (.int .u64)])]⟩
def abp :aw:=⟨.ay 800000 cM 83 true::ab::ak 6 (ab:: .box 9 0:: .af (.int .u64)::ab::ab::ak 54 []),[(9,false,[.af (.int .u64)])]⟩
def aca (a:cD) (c:Int) (b:Int) (d:Unit):Option (gd):=r3 N a c b d
 
theorem ab2 :ax 220 (aI [.ay 800000 cM 83 true,ab,ab,.aV 85 []] [fK,.ay 800000 cM 83 true] (dq (aca N))):=
 aB (al (Ct N) (al (Cq N) aA)) func220 rfl N (ae (ae (.cond (ae (ae (ae (.block (.loop acm (ae (.seq (.block (ae (.meet abp .no .no))) .no))))))) .no))) _ (rs:=[800000])
def acC (a:cD) (d:Int) (c:Int) (e:Unit) (b:Int):Option (Int×Int×gd×Int):=p0 (j4 N) N a d c e b
 
theorem abF :ax 333 ⟨⟨[.ay 800000 cM 83 true,ab,ab,.box 900003 0,.aV 85 []],[(900003,false,[ab])]⟩,⟨[.bR [ab,ab],.ay 800000 cM 83 true],[(900003,false,[ab])]⟩,fm (acC N)⟩:=
 aB (al (sI N) aA) func333 rfl N .no _ (rs:=[900003,800000])
def ab6 (a:cD) (e:Int) (d:Int) (b:Int) (f:Unit) (c:Int):Option (Int×gd×Int):=rl (j4 N) N a e d b f c
 
theorem Oq :ax 297 ⟨⟨[.ay 800000 cM 83 true,ab,ab,ab,.box 900004 0,.aV 85 []],[(900004,false,[ab])]⟩,⟨[ab,.ay 800000 cM 83 true],[(900004,false,[ab])]⟩,kv (ab6 N)⟩:=
 aB (al (abF N) aA) func297 rfl N .no _ (rs:=[900004,800000])
def abR (a:cD) (c:Int) (d:Unit) (b:Int):Option (Int×gd×Int):=pR (j4 N) N a c d b
 
theorem acj :ax 296 ⟨⟨[.ay 800000 cM 83 true,ab,.box 900002 0,.aV 85 []],[(900002,false,[ab])]⟩,⟨[ab,.ay 800000 cM 83 true],[(900002,false,[ab])]⟩,dq (abR N)⟩:=
 aB (al (Oq N) aA) func296 rfl N .no _ (rs:=[900002,800000])
def acg :aw:=⟨.ay 800000 cM 83 true:: .dead:: .dead:: .aV 85 []::ak 7 (.box 11 0::ab::ab::ab::ak 48 []),[(11,false,[ab])]⟩
def abP :aw:=⟨.ay 800000 cM 83 true::ak 10 (.box 11 0:: .dead::ab::ak 49 []),[(11,false,[ab])]⟩
def abN (a:cD) (c:Int) (b:Int) (d:Unit):Option (Int×Int×gd):=r4 (j4 N) N a c b d
 
theorem abO :ax 221 (aI [.ay 800000 cM 83 true,ab,ab,.aV 85 []] [.bR [ab,ab],.ay 800000 cM 83 true] (dq (abN N))):=
 aB (al (acj N) (al (Oq N) aA)) func221 rfl N (ae (ae (ae (ae (ae (ae (.meet abP (ae (.cond (.meet acg .no .no) .no)) .no))))))) _ (rs:=[800000])
def abm :aw:=⟨.ay 800000 cM 83 true::ak 7 (ab::ab::ak 24 []),[]⟩
def acw (a:cD) (c:Int) (b:Int) (d:Unit):Option (gd):=tq N a c b d
 
theorem ab4 :ax 222 (aI [.ay 800000 cM 83 true,ab,ab,.aV 85 []] [fK,.ay 800000 cM 83 true] (dq (acw N))):=
 aB aA func222 rfl N (ae (ae (aR abm))) _ (rs:=[800000])
def HF :aw:=⟨.ay 800000 cM 83 true::ab::ab:: .aV 85 []::ak 5 (ab::ab::ak 130 []),[]⟩
def ach :aw:=⟨.ay 800000 cM 83 true::ab::ab:: .aV 85 []::ak 5 (ab::ab::ab::ak 129 []),[]⟩
def acb :aw:=⟨.ay 800000 cM 83 true::ab::ab:: .aV 85 []::ak 5 (ab::ab:: .dead::ab::ak 128 []),[]⟩
def acp (a:cD) (c:Int) (b:Int) (d:Unit):Option (Bool×gd):=tj (j4 N) N a c b d
 
theorem ab1 :ax 223 (aI [.ay 800000 cM 83 true,ab,ab,.aV 85 []] [a7,.ay 800000 cM 83 true] (dq (acp N))):=
 aB (al (sI N) aA) func223 rfl N (ae (ae (.seq (ae (.block (.loop HF (ae (.seq (.block (.seq (aR HF) (ae (ae (ae (.meet HF (ae (.cond (ae (aR ach)) .no)) (ae (.cond (ae (aR acb)) .no)))))))) .no))))) .no))) _ (rs:=[800000])
def HG :aw:=⟨.ay 800000 cM 83 true::ab:: .dead:: .dead:: .aV 85 []::ak 6 (ab::ab::ak 77 []),[]⟩
def acx (a:cD) (d:Int) (b:Int) (c:Int) (e:Unit):Option (Int×gd):=mN (j4 N) N a d b c e
 
theorem ack :ax 224 (aI [.ay 800000 cM 83 true,ab,ab,ab,.aV 85 []] [ab,.ay 800000 cM 83 true] (fm (acx N))):=
 aB (al (sI N) aA) func224 rfl N (ae (ae (ae (.seq (.block (.loop HG (.block (.seq (aR HG) (.seq (aR HG) .no))))) .no)))) _ (rs:=[800000])
def xX :aw:=⟨.ay 800000 cM 83 true::ab:: .dead:: .dead:: .aV 85 []::ak 7 (ab::ab::ak 164 []),[]⟩
def abE (a:cD) (d:Int) (b:Int) (c:Int) (e:Unit):Option (Int×Bool×gd):=p1 (j4 N) N a d b c e
 
theorem abX :ax 225 (aI [.ay 800000 cM 83 true,ab,ab,ab,.aV 85 []] [.bR [ab,a7],.ay 800000 cM 83 true] (fm (abE N))):=
 aB (al (sI N) aA) func225 rfl N (ae (ae (ae (.seq (aR xX) (.seq (aR xX) (ae (ae (ae (ae (.seq (.block (.loop xX (.block (.seq (aR xX) (.seq (aR xX) .no))))) .no)))))))))) _ (rs:=[800000])
def acv :aw:=⟨.ay 800000 cM 83 true::ab::ab::ab:: .aV 85 []::ak 5 (a7::a7::ak 136 []),[]⟩
def abC :aw:=⟨.ay 800000 cM 83 true::ab::ab::ab:: .aV 85 []::ak 5 (a7::a7::ab::ab::ak 134 []),[]⟩
def abY :aw:=⟨.ay 800000 cM 83 true::ab::ab::ab:: .aV 85 []::ak 5 (a7::a7::ab::ab::ab::ak 133 []),[]⟩
def ab8 :aw:=⟨.ay 800000 cM 83 true::ab::ab::ab:: .aV 85 []::ak 5 (a7::a7::ab::ak 135 []),[]⟩
def OM (N D:Nat) (h:cD) (a b g:Int) (e:Unit):Option (gd):=l3 (j4 N) (fun d a b c=>lS (j4 N) N d a b c) (fun d a b f c=>mN (j4 N) N d a b f c) N D h a b g e
 
def BD (N D:Nat):Model:=⟨⟨[.ay 800000 cM 83 true,ab,ab,ab,.aV 85 []],[]⟩,⟨[fK,.ay 800000 cM 83 true],[]⟩,fm (OM N D)⟩
theorem abU (N D:Nat) (a:ax 153 (BD N D)):ax 153 (BD N (D+1)):=
 aB (al a (al (acn N) (al (acE N) (al (ab2 N) (al (abO N) (al (ab4 N) (al (ab1 N) (al (sI N) (al (ack N) (al (abX N) aA)))))))))) func153 rfl N (ae (ae (.block (.loop acv (.block (ae (ae (ae (.meet ab8 .no (ae (.meet abY .no (.meet abC .no .no)))))))))))) (BD N (D+1)) (rs:=[800000])
theorem Ok (N:Nat):∀D,ax 153 (BD N D)
 |0=>lg ⟨_,func153,by decide,by kernel_rfl⟩ _ (fun a=>rfl)
 |D+1=>abU N D (Ok N D)
def C7 (a:cD) (d:Unit):Option (gd):=
 (oB (pQ N (IntKind.u64.wrap (a.length:Int))) fun b=>oB (OM N N a 0 (a.length:Int) b ()) fun c=>some c)
theorem abM :ax 84 (aI [.ay 800000 cM 83 true,.aV 85 []] [fK,.ay 800000 cM 83 true] (cr (C7 N))):=
 aB (al (yb N) (al (Ok N N) aA)) func84 rfl N .no _ (rs:=[800000])
def abk :aw:=⟨.box 900000 0::aD::aD::ak 8 (ab::ab::ak 38 []),[(900000,false,[.ay 850000 cM 83 true])]⟩
def va (k:ah) (i:ah) (f:cD):Option (gd):=
 (iter (fun h (c,d,e,a,b)=>bif decide (a<e)then if 0<=a/\a<(b.length:Int)then oB (b[a.toNat]?) fun l=>(bif decide (l.1=c)then if 0<=a/\a<(b.length:Int)then oB (b[a.toNat]?) fun n=>(some (b.set a.toNat (n.1,d)))else none else if fits (a+1)then h (c,d,e,(a+1),b)else none)else none else if room b.length ([(c,d)]:cD).length 32 then oB (C7 N (b++([(c,d)]:cD)) ()) fun j=>(some j)else none) N (k,i,(f.length:Int),(0:Int),f))
theorem abL :ax 34 ⟨⟨[.box 900000 0,aD,aD],[(900000,false,[.ay 850000 cM 83 true])]⟩,⟨[fK],[(900000,false,[.ay 1 cM 83 true])]⟩,eI (va N)⟩:=
 aB (al (abM N) aA) func34 rfl N (.seq (ae (aR abk)) .no) _ (wr:=[42,43]) (rs:=[900000,850000])
def nz (N:Nat) (a:ah):Option Int:=wQ a
 
def ah1 (N:Nat):Model:=⟨⟨[aD],[]⟩,⟨[.bR [ab,.dead]],[]⟩,dY (nz N)⟩
theorem HW :ax 87 (ah1 N):=aic
def abv :aw:=⟨aD::ab::ak 3 (ab::ak 40 []),[]⟩
def Bz (a:ah) (k:Int):cx:=
 (bif decide ((a.length:Int)<7)then some false else oB (cut a 0 3) fun n=>bif !decide (n=([103,101,110]:ah))then oB (cut a 0 3) fun t=>(bif !decide (t=([115,101,103]:ah))then some false else iter (fun r (d,h,b)=>bif decide (b<7)then oB (idx d b) fun w=>(bif decide ((w.toNat:Int)<48)then some false else oB (idx d b) fun o=>bif decide ((57:Int)<(o.toNat:Int))then some false else if fits (b+1)then r (d,h,(b+1))else none)else oB (cut d 3 7) fun q=>oB (nz N q) fun j=>if fits (j-1000)then if fits (h-1)then oB (dV N (j-1000) 1 (h-1)) fun p=>(some p)else none else none) N (a,k,(3:Int)))else iter (fun v (e,f,c)=>bif decide (c<7)then oB (idx e c) fun x=>(bif decide ((x.toNat:Int)<48)then some false else oB (idx e c) fun m=>bif decide ((57:Int)<(m.toNat:Int))then some false else if fits (c+1)then v (e,f,(c+1))else none)else oB (cut e 3 7) fun u=>oB (nz N u) fun l=>if fits (l-1000)then if fits (f-1)then oB (dV N (l-1000) 1 (f-1)) fun y=>(some y)else none else none) N (a,k,(3:Int)))
theorem ab9 :ax 37 (aI [aD,ab] [a7] (cr (Bz N))):=
 aB (al (HW N) (al (hg N) aA)) func37 rfl N (ae (ae (.seq (ae (aR abv)) .no))) _
def sJ (c:ah) (d:ah) (a:Int):cx:=
 (oB (Bz N c a) fun b=>some b)
theorem OJ :ax 36 (aI [.agg [aD,aD],.ptr aW] [a7] (eI (sJ N))):=
 aB (al (ab9 N) aA) func36 rfl N .no _
def abl :aw:=⟨.ay 800000 cM 83 true:: .aV 36 [.ptr aW]::ak 5 (ab::ab::ak 10 []),[]⟩
def Bx (f:cD) (k:Int):Option (Int×gd):=
 (iter (fun h (b,c,d,a)=>bif decide (a<d)then if 0<=a/\a<(b.length:Int)then oB (b[a.toNat]?) fun e=>(oB (sJ N e.1 e.2 c) fun i=>bif i then some (a,b)else if fits (a+1)then h (b,c,d,(a+1))else none)else none else some ((-1),b)) N (f,k,(f.length:Int),(0:Int)))
theorem abx :ax 86 (aI [.ay 800000 cM 83 true,.aV 36 [.ptr aW]] [ab,.ay 800000 cM 83 true] (cr (Bx N))):=
 aB (al (OJ N) aA) func86 rfl N (ae (.seq (ae (aR abl)) .no)) _ (rs:=[800000])
def abZ :aw:=⟨.ay 800000 cM 83 true:: .aV 36 [.ptr aW]::ak 3 (ab::ab::ak 35 []),[]⟩
def xY (l:cD) (i:Int):Option (gd):=
 (oB (Bx N l i) fun d=>bif decide (d.1=(-1))then some d.2 else if fits (d.1+1)then iter (fun h (a,f,b,c)=>bif decide (c<(a.length:Int))then if 0<=c/\c<(a.length:Int)then oB (a[c.toNat]?) fun e=>(oB (sJ N e.1 e.2 f) fun m=>bif !m then if 0<=b/\b<(a.length:Int)then oB (a[b.toNat]?) fun n=>(if fits (b+1)then if fits (c+1)then h ((a.set b.toNat e),f,(b+1),(c+1))else none else none)else none else if fits (c+1)then h (a,f,b,(c+1))else none)else none else oB (cut a b (a.length:Int)) fun _=>oB (cut (a.take b.toNat++List.replicate ((a.length:Int).toNat-b.toNat) (([]:ah),([]:ah))++a.drop ((a.length:Int).toNat)) 0 b) fun j=>some j) N (d.2,i,d.1,(d.1+1))else none)
theorem acr :ax 35 (aI [.ay 800000 cM 83 true,.aV 36 [.ptr aW]] [.own 1 cM 83 true,.dead] (cr (xY N))):=
 aB (al (abx N) (al (OJ N) aA)) func35 rfl N (ae (ae (ae (.seq (ae (aR abZ)) .no)))) _ (wr:=[41]) (rs:=[800000]) (dw:=[38])
def abH :aw:=⟨.dead:: .dead::ab:: .box 3 0:: .box 4 0:: .dead:: .box 6 0:: .dead:: .box 8 0:: .box 9 0::ab::ak 134 [],[(3,false,[.af fg]),(4,false,[bl,.af dx,.af jw]),(6,false,[.aT]),(8,false,[.ay 700800 cM 83 true]),(9,false,[ab])]⟩
def abS :aw:=⟨.dead:: .dead::ab:: .dead:: .box 4 0:: .dead:: .box 6 0:: .dead:: .box 8 0:: .box 9 0::ak 3 (.ay 600013 cM 83 true::aD::ak 46 (.af jw::ab::ab::ak 81 [])),[(4,false,[bl,.af dx,.af jw]),(6,false,[.aT]),(8,false,[.ay 700800 cM 83 true]),(9,false,[ab])]⟩
def acy :aw:=⟨.dead:: .dead::ab::ak 3 (.box 6 0:: .dead:: .box 8 0:: .box 9 0::ak 3 (.af fg::ak 91 (.af fg::ab::ab::ak 37 []))),[(6,false,[.aT]),(8,false,[.ay 700800 cM 83 true]),(9,false,[ab])]⟩
def xH (q:cD) (O:List ah) (P:List b3) (Q:List cU) (ac:Int):Option (gd×Int):=
 (oB (xI N q) fun V=>bif !V then some (([]:cD),(-1))else oB (mF N O P Q) fun g=>bif !g then some (([]:cD),(-1))else if room ([]:cD).length q.length 32 then iter (fun R (D,e,k,C,z,l,p,A)=>bif decide (e<=99)then oB (u2 N e) fun s=>(oB (uY N k s) fun F=>bif F.2 then if fits (e+1)then if fits (e+1)then R (D,(e+1),k,C,z,l,p,(e+1))else none else none else if fits (e+1)then R (D,(e+1),k,C,z,l,p,A)else none)else bif decide ((99:Int)<A)then some (p,0)else if fits ((k.length:Int)+5)then if fits (((k.length:Int)+5)+1)then bif decide ((24:Int)<(((k.length:Int)+5)+1))then some (p,0)else(iter (fun J (I,i,f,S,G,o,U,H,M,L,m)=>bif decide (o<G)then oB (idx S o) fun E=>(if fits (1000+m)then oB (ke N (1000+m)) fun a=>(if([115,101,103]:ah).length+a.length<=9223372036854775807 then if(([115,101,103]:ah)++a).length+([120]:ah).length<=9223372036854775807 then oB (ke N o) fun d=>(if((([115,101,103]:ah)++a)++([120]:ah)).length+d.length<=9223372036854775807 then oB (sz N U H E.1.1 E.1.2 E.2) fun B=>(if room i.length ([((((([115,101,103]:ah)++a)++([120]:ah))++d),B)]:cD).length 32 then if(((([115,101,103]:ah)++a)++([120]:ah))++d).length+([32]:ah).length<=9223372036854775807 then oB (xG N B) fun X=>(oB (ke N X) fun w=>if((((([115,101,103]:ah)++a)++([120]:ah))++d)++([32]:ah)).length+w.length<=9223372036854775807 then if(((((([115,101,103]:ah)++a)++([120]:ah))++d)++([32]:ah))++w).length+([10]:ah).length<=9223372036854775807 then if f.length+((((((([115,101,103]:ah)++a)++([120]:ah))++d)++([32]:ah))++w)++([10]:ah)).length<=9223372036854775807 then if fits (o+1)then J (I,(i++([((((([115,101,103]:ah)++a)++([120]:ah))++d),B)]:cD)),(f++((((((([115,101,103]:ah)++a)++([120]:ah))++d)++([32]:ah))++w)++([10]:ah))),S,G,(o+1),U,H,M,L,m)else none else none else none else none)else none else none)else none)else none else none)else none)else oB (u2 N m) fun r=>if f.length+([101,110,100]:ah).length<=9223372036854775807 then if room i.length ([(r,(f++([101,110,100]:ah)))]:cD).length 32 then iter (fun y (h,v,t,x,b,j,c)=>bif decide (b<x)then oB (idx t b) fun u=>(bif decide (h<0)then oB (va N u.1 u.2 j) fun W=>(if fits (b+1)then y (h,v,t,x,(b+1),W,c)else none)else bif decide (b<h)then oB (va N u.1 u.2 j) fun Y=>(if fits (b+1)then y (h,v,t,x,(b+1),Y,c)else none)else if fits (b+1)then y (h,v,t,x,(b+1),j,c)else none)else bif decide (h<0)then oB (xY N j c) fun T=>(if room ([]:cD).length T.length 32 then some ((([]:cD)++T),c)else none)else bif decide ((v.length:Int)<h)then oB (xY N j c) fun K=>(if room ([]:cD).length K.length 32 then some ((([]:cD)++K),c)else none)else some (j,c)) N (I,(i++([(r,(f++([101,110,100]:ah)))]:cD)),(i++([(r,(f++([101,110,100]:ah)))]:cD)),((i++([(r,(f++([101,110,100]:ah)))]:cD)).length:Int),(0:Int),L,m)else none else none) N (D,([]:cD),([]:ah),l,(l.length:Int),(0:Int),C,z,l,p,A))else none else none) N (ac,(1:Int),q,O,P,Q,(([]:cD)++q),(1:Int))else none)
theorem abK :ax 7 (aI [.agg [.af fg],lq,ab] [.bR [.agg [.own 1 cM 83 true],ab]] (fm (xH N))):=
 aB (al (Oh N) (al (sN N) (al (Og N) (al (Oi N) (al (vb N) (al (P9 N) (al (Qh N) (al (abL N) (al (acr N) aA))))))))) func7 rfl N (ae (ae (ae (ae (.seq (ae (aR abH)) (ae (ae (ae (.seq (ae (aR abS)) (ae (.seq (ae (aR acy)) .no))))))))))) _ (wr:=[29,32,59,83,84,103,104,138,141])
def yr (N:Nat) (a:ah) (b:ah):Option ((List ah)):=tz a b
 
def aia (N:Nat):Model:=⟨⟨[aD,aD],[]⟩,⟨[bl],[]⟩,cr (yr N)⟩
theorem Qg :ax 103 (aia N):=ahP
def agP :aw:=⟨.dead:: .dead:: .box 2 0:: .box 3 0::ak 9 (.af dx::ab::ab::ak 17 []),[(2,false,[.aT,.aT]),(3,false,[.own 700300 .str 9 true,.own 700301 ij 158 true])]⟩
def xR (f:List ah) (h:List b3):Option ((List ah)×(List b3)):=
 (if room ([]:List ah).length f.length 16 then iter (fun j (d,i,b,e,c)=>bif decide (b<i)then oB (idx d b) fun a=>(if room ([]:List ah).length a.1.length 16 then if room c.length ([((([]:List ah)++a.1),a.2)]:List b3).length 40 then if fits (b+1)then j (d,i,(b+1),e,(c++([((([]:List ah)++a.1),a.2)]:List b3)))else none else none else none)else some (e,c)) N (h,(h.length:Int),(0:Int),(([]:List ah)++f),([]:List b3))else none)
theorem PK :ax 104 (aI [fb] [.agg [nU,.own 2 ij 158 true]] (cr (xR N))):=
 aB aA func104 rfl N (ae (ae (.seq (ae (aR agP)) .no))) _
def s4 (N:Nat) (a:ah) (b:ah):Option (ah×ah×Bool):=wX a b
 
def aib (N:Nat):Model:=⟨⟨[aD,aD],[]⟩,⟨[.bR [aD,aD,a7]],[]⟩,cr (s4 N)⟩
theorem P5 :ax 105 (aib N):=ahM
def s3 (N:Nat) (b:ah) (a:ah):cx:=
 (bif decide ((a.length:Int)<=(b.length:Int))then oB (cut b 0 (a.length:Int)) fun c=>(some (decide (c=a)))else some false)
theorem P7 :ax 240 (aI [aD,aD] [a7] (cr (s3 N))):=
 aB aA func240 rfl N .no _
def I8 (a:ah) (b:ah):Option (ah×Bool):=
 (oB (s3 N a b) fun c=>bif !c then some (a,false)else oB (cut a (b.length:Int) (a.length:Int)) fun d=>some (d,true))
theorem ahY :ax 239 (aI [aD,aD] [.bR [aD,a7]] (cr (I8 N))):=
 aB (al (P7 N) aA) func239 rfl N .no _
def Da (c:ah) (b:ah):Option (ah×Bool):=
 (oB (I8 N c b) fun a=>some (a.1,a.2))
theorem ah3 :ax 166 (aI [aD,aD] [.bR [aD,a7]] (cr (Da N))):=
 aB (al (ahY N) aA) func166 rfl N .no _
def vu (c:ah) (a:ah):cx:=
 (oB (s3 N c a) fun b=>some b)
theorem ahJ :ax 167 (aI [aD,aD] [a7] (cr (vu N))):=
 aB (al (P7 N) aA) func167 rfl N .no _
def ah7 :aw:=⟨.dead:: .dead:: .box 2 0:: .box 3 0::ak 13 (bl::ab::ab::ak 51 []),[(2,false,[ab,.aT,.aT]),(3,false,[ab,.own 700301 cM 110 true,.own 700302 hr 221 true])]⟩
def sD (l:List ah):Option bq:=
 (iter (fun i (e,h,a,k,j,d,c)=>bif decide (a<h)then oB (idx e a) fun n=>(oB (s4 N n ([32]:ah)) fun f=>oB (s4 N f.2.1 ([32]:ah)) fun b=>bif decide (f.1=([100,111,99]:ah))then oB (nz N f.2.1) fun p=>(if fits (a+1)then i (e,h,(a+1),k,p,d,c)else none)else bif decide (f.1=([102,105,101,108,100]:ah))then if room d.length ([(b.1,b.2.1)]:cD).length 32 then if fits (a+1)then i (e,h,(a+1),k,j,(d++([(b.1,b.2.1)]:cD)),c)else none else none else bif decide (f.1=([110,117,109]:ah))then oB (nz N b.2.1) fun m=>(if room c.length ([(b.1,m)]:dz).length 24 then if fits (a+1)then i (e,h,(a+1),k,j,d,(c++([(b.1,m)]:dz)))else none else none)else if fits (a+1)then i (e,h,(a+1),k,j,d,c)else none)else some (j,d,c)) N (l,(l.length:Int),(0:Int),(0:Int),(0:Int),([]:cD),([]:dz)))
theorem ahU :ax 168 (aI [bl] [EU] (dY (sD N))):=
 aB (al (P5 N) (al (HW N) aA)) func168 rfl N (ae (ae (.seq (ae (aR ah7)) .no))) _
def ahG :aw:=⟨.dead::aD:: .box 2 0:: .dead:: .box 4 0:: .dead:: .own 600006 cF 109 true:: .own 600007 aW 3 true::bl::ab::ak 92 [],[(2,false,[bl,.af dx]),(4,false,[.aT,.aT,.aT])]⟩
def ahQ :aw:=⟨.dead::aD:: .box 2 0:: .dead:: .box 4 0:: .dead:: .own 600006 cF 109 true:: .own 600007 aW 3 true::bl::ab::ak 4 (ab::ak 87 []),[(2,false,[bl,.af dx]),(4,false,[.aT,.aT,.aT])]⟩
def Bi (A:List ah) (z:List b3) (y:ah):Option ((List bq)×(List bJ)×(List Int)×Bool):=
 (oB (oI N A z) fun C=>bif !C then some (([]:List bq),([]:List bJ),([]:List Int),false)else oB (yr N y ([10]:ah)) fun U=>iter (fun f (q,t,l,m,k,p,n)=>bif decide (k<(m.length:Int))then oB (idx m k) fun T=>(oB (Da N T ([100,101,97,100,32]:ah)) fun w=>bif w.2 then oB (nz N w.1) fun B=>(if room l.length ([B]:List Int).length 8 then if fits (k+1)then f (q,t,(l++([B]:List Int)),m,(k+1),p,n)else none else none)else if fits (k+1)then iter (fun R (e,c,h,a,j,b,i,d)=>bif decide (b<(a.length:Int))then oB (idx a b) fun K=>(oB (vu N K ([100,111,99,32]:ah)) fun P=>bif !P then oB (idx a b) fun Q=>(oB (vu N Q ([100,101,97,100,32]:ah)) fun I=>bif !I then if fits (b+1)then R (e,c,h,a,j,(b+1),i,d)else none else oB (idx a j) fun G=>bif !decide (G=([]:ah))then oB (cut a j b) fun E=>(oB (sD N E) fun u=>if room c.length ([u]:List bq).length 56 then f (e,(c++([u]:List bq)),h,a,b,i,d)else none)else f (e,c,h,a,b,i,d))else oB (idx a j) fun S=>bif !decide (S=([]:ah))then oB (cut a j b) fun H=>(oB (sD N H) fun v=>if room c.length ([v]:List bq).length 56 then f (e,(c++([v]:List bq)),h,a,b,i,d)else none)else f (e,c,h,a,b,i,d))else oB (idx a j) fun L=>bif !decide (L=([]:ah))then oB (cut a j b) fun O=>(oB (sD N O) fun x=>if room c.length ([x]:List bq).length 56 then f (e,(c++([x]:List bq)),h,a,b,i,d)else none)else f (e,c,h,a,b,i,d)) N (q,t,l,m,k,(k+1),p,n)else none)else oB (q0 N p n t) fun o=>bif decide (q=([]:ah))then some (([]:List bq),([]:List bJ),([]:List Int),false)else oB (sz N p n o.1 o.2 l) fun D=>bif !decide (D=q)then some (([]:List bq),([]:List bJ),([]:List Int),false)else some (o.1,o.2,l,true)) N (y,([]:List bq),([]:List Int),U,(0:Int),A,z))
theorem ah6 :ax 106 (aI [fb,aD] [.bR [.agg [.af cI,.own 1 cY 119 false,.own 2 aW 3 true],a7]] (eI (Bi N))):=
 aB (al (sX N) (al (Qg N) (al (ah3 N) (al (HW N) (al (ahJ N) (al (ahU N) (al (Cv N) (al (P9 N) aA)))))))) func106 rfl N (ae (ae (ae (ae (ae (.seq (ae (.block (.loop ahG (ae (.block (ae (ae (.seq (aR ahQ) .no)))))))) .no)))))) _
def aii :aw:=⟨ak 3 (.box 3 0:: .box 4 0:: .dead:: .box 6 0::ak 5 (.box 12 0::ak 37 (bl::ab::ab::ak 44 []))),[(3,false,[.af fg]),(4,false,[bl,.af dx]),(6,false,[.aT,.aT,.aT]),(12,false,[.own 701200 .str 9 true,.own 701201 ij 158 true,.own 701202 jZ 80 false])]⟩
def Bd (i:cD) (q:List ah) (l:List b3) (w:Int):wN:=
 (oB (u2 N w) fun v=>oB (uY N i v) fun t=>oB (yr N t.1 ([10]:ah)) fun b=>if fits ((b.length:Int)-1)then bif !t.2 then some (([]:List ah),([]:List b3),([]:List cU),false)else(oB (idx b ((b.length:Int)-1)) fun B=>bif !decide (B=([101,110,100]:ah))then some (([]:List ah),([]:List b3),([]:List cU),false)else oB (xR N q l) fun u=>oB (cut b 0 ((b.length:Int)-1)) fun k=>iter (fun z (n,p,d,m,r,j,e,f,c)=>bif decide (d<p)then oB (idx n d) fun D=>(oB (s4 N D ([32]:ah)) fun o=>oB (uY N m o.1) fun h=>bif !h.2 then some (([]:List ah),([]:List b3),([]:List cU),false)else oB (xG N h.1) fun x=>oB (ke N x) fun A=>bif !decide (A=o.2.1)then some (([]:List ah),([]:List b3),([]:List cU),false)else oB (Bi N r j h.1) fun a=>bif !a.2.2.2 then some (([]:List ah),([]:List b3),([]:List cU),false)else if room c.length ([((a.1,a.2.1),a.2.2.1)]:List cU).length 72 then if fits (d+1)then z (n,p,(d+1),m,r,j,e,f,(c++([((a.1,a.2.1),a.2.2.1)]:List cU)))else none else none)else oB (mF N e f c) fun y=>some (e,f,c,y)) N (k,(k.length:Int),(0:Int),i,q,l,u.1,u.2,([]:List cU)))else none)
theorem abf :ax 45 (aI [.agg [.af fg],fb,ab] [.bR [zo,a7]] (dq (Bd N))):=
 aB (al (Og N) (al (Oi N) (al (Qg N) (al (PK N) (al (P5 N) (al (Qh N) (al (vb N) (al (ah6 N) (al (sN N) aA))))))))) func45 rfl N (ae (ae (ae (ae (ae (ae (.seq (ae (aR aii)) .no))))))) _
def Bh (a:List ah) (b:List b3):Option ((List ah)×(List b3)×(List cU)):=
 (oB (oI N a b) fun d=>bif !d then some (([]:List ah),([]:List b3),([]:List cU))else oB (xR N a b) fun c=>some (c.1,c.2,([]:List cU)))
theorem ahz :ax 46 (aI [fb] [.agg [nU,.own 2 ij 158 true,.own 3 jZ 80 true]] (cr (Bh N))):=
 aB (al (sX N) (al (PK N) aA)) func46 rfl N .no _
def aif :aw:=⟨.dead:: .dead:: .box 2 0:: .box 3 0:: .box 4 0:: .dead::ab::ak 27 [],[(2,false,[bl,.af dx]),(3,false,[.af fg]),(4,false,[.aT,.aT,.aT])]⟩
def xJ (h:List ah) (f:List b3) (i:cD):Option ((List ah)×(List b3)×(List cU)×Int):=
 (oB (oI N h f) fun l=>bif !l then some (([]:List ah),([]:List b3),([]:List cU),(-1))else oB (xI N i) fun n=>bif !n then some (([]:List ah),([]:List b3),([]:List cU),(-1))else iter (fun k (a,c,d,j)=>bif decide ((1:Int)<=a)then oB (Bd N j c d a) fun b=>(bif b.2.2.2 then some (b.1,b.2.1,b.2.2.1,a)else if fits (a-1)then k ((a-1),c,d,j)else none)else oB (Bh N c d) fun e=>some (e.1,e.2.1,e.2.2,0)) N ((99:Int),h,f,i))
theorem abh :ax 10 (aI [fb,.agg [.af fg]] [.bR [zo,ab]] (eI (xJ N))):=
 aB (al (sX N) (al (Oh N) (al (abf N) (al (ahz N) aA)))) func10 rfl N (ae (ae (.seq (ae (aR aif)) .no))) _
def ae6 :aw:=⟨aD::ak 4 (ab::ab::ak 23 []),[]⟩
def ym (e:ah):cx:=
 (iter (fun d (b,c,a)=>bif decide (a<c)then oB (idx b a) fun h=>(oB (sS N (h.toNat:Int)) fun f=>bif !f then oB (idx b a) fun j=>(bif !decide ((j.toNat:Int)=42)then oB (idx b a) fun k=>(bif !decide ((k.toNat:Int)=63)then some false else if fits (a+1)then d (b,c,(a+1))else none)else if fits (a+1)then d (b,c,(a+1))else none)else if fits (a+1)then d (b,c,(a+1))else none)else oB (dV N (b.length:Int) 1 12) fun l=>some l) N (e,(e.length:Int),(0:Int)))
theorem Rt :ax 124 (aI [aD] [a7] (dY (ym N))):=
 aB (al (Ir N) (al (hg N) aA)) func124 rfl N (ae (.seq (ae (aR ae6)) .no)) _
def adO :aw:=⟨.dead::ab:: .box 2 0::ak 90 (bl::ab::ab::ak 39 []),[(2,false,[ab,aD,bl,ab,ab,.af (.ar .q)])]⟩
def adW :aw:=⟨.dead::ab::ak 121 (.af (.ar .q)::ab::ab::ak 9 []),[]⟩
def aeQ :aw:=⟨.dead::ab:: .box 2 0::ak 132 [],[(2,false,[ab,aD,bl,ab,ab,.af (.ar .q)])]⟩
def RF :aw:=⟨.dead::ab:: .box 2 0:: .dead:: .dead:: .box 5 0::ak 129 [],[(2,false,[ab,aD,bl,ab,ab,.af (.ar .q)]),(5,false,[a7,ab,ab,ab,ab,a7,ab,ab])]⟩
def oO (N:Nat):(D:Nat)->Int->ah->(List ah)->Int->Int->(List aN)->Int->cx
 |0,_,_,_,_,_,_,_=>none
 |D+1,q,G,S,T,U,V,deep=>
 meet (fun(g:Lh)=>
 match g with
 |(v,o0,tk,W,C,I,F,x,X,Y,Z,rM,wq,VJ,VK)=>
 meet (fun(g:Lh)=>
 match g with
 |(b,j,k,l,i,c,o,at0,atU,atV,atW,atX,y,atY,atZ)=>
 meet (fun(g:Int×Int×ah×(List ah)×Int×Int×(List aN))=>
 match g with
 |(z,K,L,A,M,O,P)=>
 iter (fun go (g:Int×(List ah)×Int×Int×Int×ah×(List ah)×Int×Int×(List aN))=>
 match g with
 |(a,t93,t94,t95,d,p,s,t,u,h)=>
 bif decide (t95<t94)then
 oB (idx t93 t95) fun e=>
 (bif decide (d=5)then
 oB (ym N e) fun mQ=>
 (bif !mQ then
 some false
 else
 oB (jh N e) fun o3=>
 bif o3 then
 some false
 else
 bif !decide (d=5)then
 oB (jh N e) fun nM=>
 (bif !nM then
 some false
 else
 if fits (t95+1)then go (a,t93,t94,(t95+1),d,p,s,t,u,h)else none)
 else
 if fits (t95+1)then go (a,t93,t94,(t95+1),d,p,s,t,u,h)else none)
 else
 bif !decide (d=5)then
 oB (jh N e) fun yS=>
 (bif !yS then
 some false
 else
 if fits (t95+1)then go (a,t93,t94,(t95+1),d,p,s,t,u,h)else none)
 else
 if fits (t95+1)then go (a,t93,t94,(t95+1),d,p,s,t,u,h)else none)
 else
 iter (fun go2 (g:Int×(List aN)×Int×Int)=>
 match g with
 |(f,t123,t124,t125)=>
 bif decide (t125<t124)then
 oB (idx t123 t125) fun B=>
 (if fits (f-1)then oB (oO N D B.kind B.field B.words B.lo B.hi B.kids (f-1)) fun Q=>
 (bif !Q then
 some false
 else
 if fits (t125+1)then go2 (f,t123,t124,(t125+1))else none)else none)
 else
 some true) N (a,h,(h.length:Int),0)) N (z,A,(A.length:Int),0,K,L,A,M,O,P)) fun H=>
 bif y then
 oB (dV N c i 999999999) fun o2=>
 (bif !o2 then
 some false
 else
 bif !y then
 bif !decide (c=0)then
 some false
 else
 (H (b,j,k,l,i,c,o))
 else
 H (b,j,k,l,i,c,o))
 else
 bif !y then
 bif !decide (c=0)then
 some false
 else
 (H (b,j,k,l,i,c,o))
 else
 H (b,j,k,l,i,c,o)) fun qx=>
 oB (dV N (W.length:Int) X Y) fun ll=>
 bif !ll then
 some false
 else
 oB (dV N (F.length:Int) VJ VK) fun nK=>
 bif !nK then
 some false
 else
 oB (dV N C Z rM) fun nL=>
 bif !nL then
 some false
 else
 qx (v,o0,tk,W,C,I,F,x,X,Y,Z,rM,wq,VJ,VK)) fun J=>
 bif !((ea aW (.pair .bool (.pair aW (.pair aW (.pair aW (.pair aW (.pair .bool ca)))))) gg q).isSome)then
 some false
 else
 bif decide (deep<1)then
 some false
 else
 bif !((((ea aW (.pair .bool (.pair aW (.pair aW (.pair aW (.pair aW (.pair .bool ca)))))) gg q).getD (false,(0,(0,(0,(0,(false,(0,0)))))))).1)==(!decide (G=([]:ah))))then
 some false
 else
 bif((ea aW (.pair .bool (.pair aW (.pair aW (.pair aW (.pair aW (.pair .bool ca)))))) gg q).getD (false,(0,(0,(0,(0,(false,(0,0)))))))).1 then
 oB (jh N G) fun r=>
 (bif !r then
 some false
 else
 J (deep,q,G,S,T,U,V,((ea aW (.pair .bool (.pair aW (.pair aW (.pair aW (.pair aW (.pair .bool ca)))))) gg q).getD (false,(0,(0,(0,(0,(false,(0,0)))))))).1,(((ea aW (.pair .bool (.pair aW (.pair aW (.pair aW (.pair aW (.pair .bool ca)))))) gg q).getD (false,(0,(0,(0,(0,(false,(0,0)))))))).2).1,((((ea aW (.pair .bool (.pair aW (.pair aW (.pair aW (.pair aW (.pair .bool ca)))))) gg q).getD (false,(0,(0,(0,(0,(false,(0,0)))))))).2).2).1,(((((ea aW (.pair .bool (.pair aW (.pair aW (.pair aW (.pair aW (.pair .bool ca)))))) gg q).getD (false,(0,(0,(0,(0,(false,(0,0)))))))).2).2).2).1,((((((ea aW (.pair .bool (.pair aW (.pair aW (.pair aW (.pair aW (.pair .bool ca)))))) gg q).getD (false,(0,(0,(0,(0,(false,(0,0)))))))).2).2).2).2).1,(((((((ea aW (.pair .bool (.pair aW (.pair aW (.pair aW (.pair aW (.pair .bool ca)))))) gg q).getD (false,(0,(0,(0,(0,(false,(0,0)))))))).2).2).2).2).2).1,((((((((ea aW (.pair .bool (.pair aW (.pair aW (.pair aW (.pair aW (.pair .bool ca)))))) gg q).getD (false,(0,(0,(0,(0,(false,(0,0)))))))).2).2).2).2).2).2).1,((((((((ea aW (.pair .bool (.pair aW (.pair aW (.pair aW (.pair aW (.pair .bool ca)))))) gg q).getD (false,(0,(0,(0,(0,(false,(0,0)))))))).2).2).2).2).2).2).2))
 else
 J (deep,q,G,S,T,U,V,((ea aW (.pair .bool (.pair aW (.pair aW (.pair aW (.pair aW (.pair .bool ca)))))) gg q).getD (false,(0,(0,(0,(0,(false,(0,0)))))))).1,(((ea aW (.pair .bool (.pair aW (.pair aW (.pair aW (.pair aW (.pair .bool ca)))))) gg q).getD (false,(0,(0,(0,(0,(false,(0,0)))))))).2).1,((((ea aW (.pair .bool (.pair aW (.pair aW (.pair aW (.pair aW (.pair .bool ca)))))) gg q).getD (false,(0,(0,(0,(0,(false,(0,0)))))))).2).2).1,(((((ea aW (.pair .bool (.pair aW (.pair aW (.pair aW (.pair aW (.pair .bool ca)))))) gg q).getD (false,(0,(0,(0,(0,(false,(0,0)))))))).2).2).2).1,((((((ea aW (.pair .bool (.pair aW (.pair aW (.pair aW (.pair aW (.pair .bool ca)))))) gg q).getD (false,(0,(0,(0,(0,(false,(0,0)))))))).2).2).2).2).1,(((((((ea aW (.pair .bool (.pair aW (.pair aW (.pair aW (.pair aW (.pair .bool ca)))))) gg q).getD (false,(0,(0,(0,(0,(false,(0,0)))))))).2).2).2).2).2).1,((((((((ea aW (.pair .bool (.pair aW (.pair aW (.pair aW (.pair aW (.pair .bool ca)))))) gg q).getD (false,(0,(0,(0,(0,(false,(0,0)))))))).2).2).2).2).2).2).1,((((((((ea aW (.pair .bool (.pair aW (.pair aW (.pair aW (.pair aW (.pair .bool ca)))))) gg q).getD (false,(0,(0,(0,(0,(false,(0,0)))))))).2).2).2).2).2).2).2)
def CS (N D:Nat):Model:=⟨⟨[.agg [ab,aD,bl,ab,ab,.af (.ar .q)],ab],[]⟩,⟨[a7],[]⟩,FB (oO N D)⟩
theorem ada (N D:Nat) (a:ax 57 (CS N D)):ax 57 (CS N (D+1)):=
 aB (al a (al (pN N) (al (hg N) (al (Rt N) aA)))) func57 rfl N (ae (ae (.meet RF .no (.meet RF .no (.meet aeQ .no (.seq (ae (aR adO)) (.seq (ae (aR adW)) .no))))))) (CS N (D+1))
theorem RJ (N:Nat):∀D,ax 57 (CS N D)
 |0=>lg ⟨_,func57,by decide,by kernel_rfl⟩ _ (fun a=>rfl)
 |D+1=>ada N D (RJ N D)
def pK (a:Int) (f:ah) (h:List ah) (e:Int) (d:Int) (b:List aN):cx:=
 (oB (oO N N a f h e d b 4) fun c=>some c)
theorem xZ :ax 15 (aI [.agg [ab,aD,bl,ab,ab,.af (.ar .q)]] [a7] (kv (pK N))):=
 aB (al (RJ N N) aA) func15 rfl N .no _
def CJ (c:List ah) (f:List b3) (a:ah):Option (ah):=
 (oB (jh N a) fun e=>bif !e then some ([]:ah)else oB (sU N c f a) fun b=>bif decide ((b.length:Int)=0)then some ([]:ah)else oB (idx b 0) fun d=>some d.1)
theorem adL :ax 200 (aI [fb,aD] [aD] (eI (CJ N))):=
 aB (al (pN N) (al (Cr N) aA)) func200 rfl N .no _
def akd :aw:=⟨.dead::aD::aD::ak 9 (.af eU::ab::ab::ak 16 []),[]⟩
def xO (i:(List bq)×(List bJ)) (j:ah) (k:ah):Option (zN):=
 (iter (fun h (d,e,c,b,a)=>bif decide (a<b)then oB (idx c a) fun f=>(bif decide (f.1=d)then bif decide (f.2.1=e)then some f.2.2 else(if fits (a+1)then h (d,e,c,b,(a+1))else none)else if fits (a+1)then h (d,e,c,b,(a+1))else none)else some ([]:c6)) N (j,k,i.2,(i.2.length:Int),(0:Int)))
theorem Qk :ax 274 (aI [.ptr zL,aD,aD] [.af lI] (eI (xO N))):=
 aB aA func274 rfl N (ae (.seq (ae (aR akd)) .no)) _
def aj6 :aw:=⟨ak 3 (ab::ak 12 (.af lI::ab::ab::ak 10 [])),[]⟩
def u3 (i:((List ah)×(List b3))×(List bq)×(List bJ)) (j:ah) (k:ah) (m:Int):Option ((List Int)):=
 (oB (xO N i.2 j k) fun c=>iter (fun h (d,f,b,a)=>bif decide (a<b)then oB (idx f a) fun e=>(bif decide (e.1=d)then some e.2 else if fits (a+1)then h (d,f,b,(a+1))else none)else some ([]:List Int)) N (m,c,(c.length:Int),(0:Int)))
theorem IC :ax 205 (aI [.ptr n7,aD,aD,ab] [.af cR] (dq (u3 N))):=
 aB (al (Qk N) aA) func205 rfl N (ae (.seq (ae (aR aj6)) .no)) _
def ajA :aw:=⟨.dead::aD::ak 8 (.af fg::ab::ab::ak 10 []),[]⟩
def Be (l:Int) (b:cD) (i:dz) (k:ah):Option (ah):=
 (oB (pJ N l b i) fun j=>bif j then iter (fun h (e,d,c,a)=>bif decide (a<c)then oB (idx d a) fun f=>(bif decide (f.1=e)then some f.2 else if fits (a+1)then h (e,d,c,(a+1))else none)else some ([]:ah)) N (k,b,(b.length:Int),(0:Int))else some ([]:ah))
theorem ak6 :ax 320 (aI [jN,aD] [aD] (dq (Be N))):=
 aB (al (Cs N) aA) func320 rfl N (ae (.seq (ae (.cond (ae (aR ajA)) .no)) .no)) _
def xN (e:(List bq)×(List bJ)) (c:List ah) (b:List b3) (d:ah) (i:Int):eH:=
 (oB (xM N e i) fun a=>bif !a.2.2.2 then some 0 else oB (Be N a.1 a.2.1 a.2.2.1 d) fun h=>oB (sU N c b h) fun f=>some (f.length:Int))
theorem aiz :ax 272 (aI [.ptr zL,fb,aD,ab] [ab] (fm (xN N))):=
 aB (al (Q5 N) (al (ak6 N) (al (Cr N) aA))) func272 rfl N .no _
def akw :aw:=⟨ab::ab::ak 13 [],[]⟩
def x4 (f:Int) (d:Int):eH:=
 (iter (fun c (a,b)=>bif !decide (b=0)then if b≠0 then c (b,(a.tmod b))else none else if fits (0-a)then some (if(0-a)>a then 0-a else a)else none) N (f,d))
theorem QX :ax 342 (aI [ab,ab] [ab] (cr (x4 N))):=
 aB aA func342 rfl N (ae (.seq (aR akw) .no)) _
def x9 (a:Int) (b:Int):cx:=
 (oB (dV N a (-1000000000) 1000000000) fun d=>bif d then oB (dV N b 1 1000000000) fun e=>(bif e then oB (x4 N a b) fun c=>(some (decide (c=1)))else some false)else some false)
theorem QP :ax 322 (aI [l6] [a7] (cr (x9 N))):=
 aB (al (hg N) (al (QX N) aA)) func322 rfl N .no _
def aiF :aw:=⟨ab::ab:: .dead:: .dead:: .box 4 0::ak 24 [],[(4,false,[ab,ab])]⟩
def Ch (e:Int) (d:Int):Option (Int×Int×Bool):=
 (meet (fun(h:Int×Int×Int×Int)=>match h with|(b,c,k,j)=>oB (x4 N b c) fun a=>if a≠0 then if fits (b.tdiv a)then if a≠0 then if fits (c.tdiv a)then oB (x9 N (b.tdiv a) (c.tdiv a)) fun i=>(bif !i then some (0,1,false)else some ((b.tdiv a),(c.tdiv a),true))else none else none else none else none) fun f=>bif decide (d<0)then if fits (0-e)then if fits (0-d)then f ((0-e),(0-d),0,0)else none else none else f (e,d,0,0))
theorem ai5 :ax 341 (aI [ab,ab] [.bR [l6,a7]] (cr (Ch N))):=
 aB (al (QX N) (al (QP N) aA)) func341 rfl N (ae (.meet aiF .no .no)) _
def BX (c:Int) (a:Int):Option (Int×Int×Bool):=
 (oB (dV N c (-1000000000) 1000000000) fun d=>bif !d then some (0,1,false)else oB (dV N a (-1000000000) 1000000000) fun e=>bif !e then some (0,1,false)else bif decide (a=0)then some (0,1,false)else oB (Ch N c a) fun b=>some (b.1,b.2.1,b.2.2))
theorem akJ :ax 321 (aI [ab,ab] [.bR [l6,a7]] (cr (BX N))):=
 aB (al (hg N) (al (ai5 N) aA)) func321 rfl N .no _
def al5 :aw:=⟨ab::ab::ab::ab::ab::ak 5 (.box 10 0:: .dead::ab::ak 53 []),[(10,false,[ab,ab])]⟩
def Bm (i:Int) (k:Int) (l:Int) (f:Int) (m:Int):Option (Int×Int×Bool):=
 (oB (dV N i 1 80) fun n=>bif !n then some (0,1,false)else oB (dV N k i 80) fun v=>bif !v then some (0,1,false)else oB (dV N f 1 16) fun r=>bif !r then some (0,1,false)else oB (dV N m 1 f) fun w=>bif !w then some (0,1,false)else oB (dV N l k 1280) fun t=>bif !t then some (0,1,false)else iter (fun p (b,d,e,c,h,a,o,q)=>if fits (a+1)then if 0<=(a+1)then if fits (h*2^(min (a+1).toNat (IntKind.bits .i64)))then bif decide ((h*2^(min (a+1).toNat (IntKind.bits .i64)))<=c)then if fits (a+1)then p (b,d,e,c,h,(a+1),o,q)else none else(if fits (22*b)then if fits (a+1)then if fits ((22*b)*(a+1))then if fits (10*b)then if fits ((10*b)+3)then if fits (9*d)then if fits ((9*d)*c)then if e≠0 then if fits (((9*d)*c).tdiv e)then if fits (((10*b)+3)+(((9*d)*c).tdiv e))then oB (BX N ((22*b)*(a+1)) (((10*b)+3)+(((9*d)*c).tdiv e))) fun j=>(some (j.1,j.2.1,j.2.2))else none else none else none else none else none else none else none else none else none else none)else none else none else none) N (i,k,l,f,m,(0:Int),(0:Int),(0:Int)))
theorem aiw :ax 273 (aI [ab,ab,ab,ab,ab] [.bR [l6,a7]] (fm (Bm N))):=
 aB (al (hg N) (al (akJ N) aA)) func273 rfl N (ae (ae (ae (.seq (aR al5) .no)))) _
def xL (c:Int) (a:Int) (b:Int):eH:=
 (oB (x9 N c a) fun d=>bif !d then some 0 else oB (dV N b 1 1000) fun e=>bif !e then some 0 else if fits (c*b)then bif decide ((0:Int)<=(c*b))then if a≠0 then if fits ((c*b).tdiv a)then some ((c*b).tdiv a)else none else none else(if fits (0-(c*b))then if fits ((0-(c*b))+a)then if fits (((0-(c*b))+a)-1)then if a≠0 then if fits ((((0-(c*b))+a)-1).tdiv a)then if fits (0-((((0-(c*b))+a)-1).tdiv a))then some (0-((((0-(c*b))+a)-1).tdiv a))else none else none else none else none else none else none)else none)
theorem aiB :ax 275 (aI [l6,ab] [ab] (eI (xL N))):=
 aB (al (QP N) (al (hg N) aA)) func275 rfl N .no _
def aje :aw:=⟨.ptr n7::aD::aD::ab::ak 5 (.af cR::ab::ak 16 (.af cI::ab::ab::ak 49 [])),[]⟩
def u4 (b:((List ah)×(List b3))×(List bq)×(List bJ)) (p:ah) (i:ah) (k:Int):eH:=
 (oB (u3 N b p i k) fun f=>bif decide ((f.length:Int)=0)then some 0 else iter (fun r (a,d,n,l,o,e,h,j,c)=>bif decide (c<j)then oB (idx h c) fun u=>(oB (xN N a.2 a.1.1 a.1.2 d u.1) fun q=>if fits (e+q)then if fits (c+1)then r (a,d,n,l,o,(e+q),h,j,(c+1))else none else none)else oB (xN N a.2 a.1.1 a.1.2 d l) fun w=>oB (xO N a.2 d n) fun x=>oB (Bm N (o.length:Int) w e (a.2.1.length:Int) (x.length:Int)) fun m=>oB (xL N m.1 m.2.1 1000) fun t=>some t) N (b,p,i,k,f,(0:Int),b.2.1,(b.2.1.length:Int),(0:Int)))
theorem Rc :ax 199 (aI [.ptr n7,aD,aD,ab] [ab] (dq (u4 N))):=
 aB (al (IC N) (al (aiz N) (al (Qk N) (al (aiw N) (al (aiB N) aA))))) func199 rfl N (ae (ae (ae (ae (.seq (ae (aR aje)) .no))))) _
def yp (N:Nat) (a:List ah) (b:ah):Option (ah):=yi a b
 
def adq (N:Nat):Model:=⟨⟨[bl,aD],[]⟩,⟨[aD],[]⟩,cr (yp N)⟩
theorem Pn :ax 208 (adq N):=adS
def adF :aw:=⟨.af (.ar cR)::ak 4 (.af (.ar cR)::ab::ab::ak 10 []),[]⟩
def CH (b:List (List Int)):cx:=
 (iter (fun f (c,d,e,a)=>bif decide (a<e)then oB (idx d a) fun i=>(oB (yg N i) fun h=>bif !h then some false else if fits (a+1)then f (c,d,e,(a+1))else none)else some (decide ((c.length:Int)<=6))) N (b,b,(b.length:Int),(0:Int)))
theorem aex :ax 343 (aI [.af (.ar cR)] [a7] (dY (CH N))):=
 aB (al (Pe N) aA) func343 rfl N (ae (.seq (ae (aR adF)) .no)) _
def IV (a:List (List Int)):cx:=
 (bif decide ((0:Int)<a.length)then oB (CH N a) fun b=>(some b)else some false)
theorem aeu :ax 323 (aI [.af (.ar cR)] [a7] (dY (IV N))):=
 aB (al (aex N) aA) func323 rfl N .no _
def CL (b:Int) (a:Int):cx:=
 (oB (pP N b) fun c=>bif c then oB (pP N a) fun d=>(bif !d then some true else some (decide (b<a)))else some (decide (b<a)))
theorem ac8 :ax 348 (aI [ab,ab] [a7] (cr (CL N))):=
 aB (al (Q7 N) aA) func348 rfl N .no _
def yn (N:Nat) (a:Int):cx:=
 (some (!decide (a=a)))
theorem aek :ax 349 (aI [ab] [a7] (dY (yn N))):=
 aB aA func349 rfl N .no _
def adm :aw:=⟨.af cR::ab::ak 4 (ab::ab::ab::ak 45 []),[]⟩
def CE (e:List Int) (i:Int):Option (Int×Bool):=
 (iter (fun h (d,c,f,a,b)=>bif decide (a<b)then if fits (a+b)then if 0<=(1:Int)then oB (idx d (IntKind.i64.wrap ((IntKind.u64.wrap (a+b)).fdiv (2^(min (1:Int).toNat (IntKind.bits .u64)))))) fun l=>(oB (CL N l c) fun j=>bif j then if fits ((IntKind.i64.wrap ((IntKind.u64.wrap (a+b)).fdiv (2^(min (1:Int).toNat (IntKind.bits .u64)))))+1)then h (d,c,f,((IntKind.i64.wrap ((IntKind.u64.wrap (a+b)).fdiv (2^(min (1:Int).toNat (IntKind.bits .u64)))))+1),b)else none else h (d,c,f,a,(IntKind.i64.wrap ((IntKind.u64.wrap (a+b)).fdiv (2^(min (1:Int).toNat (IntKind.bits .u64)))))))else none else none else bif decide (a<f)then oB (idx d a) fun n=>(bif decide (n=c)then some (a,true)else oB (idx d a) fun k=>oB (yn N k) fun p=>bif p then oB (yn N c) fun o=>(some (a,o))else some (a,false))else some (a,false)) N (e,i,(e.length:Int),(0:Int),(e.length:Int)))
theorem aeG :ax 344 (aI [.af cR,ab] [.bR [ab,a7]] (cr (CE N))):=
 aB (al (ac8 N) (al (aek N) aA)) func344 rfl N (ae (ae (ae (.seq (aR adm) .no)))) _
def CY (a:List Int) (c:Int):Option (Int×Bool):=
 (oB (CE N a c) fun b=>bif decide (b.1=(a.length:Int))then some (0,false)else oB (idx a b.1) fun d=>some (d,true))
theorem adf :ax 324 (aI [.af cR,ab] [.bR [ab,a7]] (cr (CY N))):=
 aB (al (aeG N) aA) func324 rfl N .no _
def adB :aw:=⟨.af (.ar cR)::ab::ak 3 (.own 600005 aW 3 true::ak 20 (.af cR::ab::ab::ak 42 [])),[]⟩
def ae4 :aw:=⟨.af (.ar cR)::ab::ak 3 (.own 600005 aW 3 true:: .dead::ab::ab::a7::ak 16 (.af cR::ab::ab::ak 5 (.af (.ar cR)::ab::ab::ak 34 []))),[]⟩
def C0 (r:List (List Int)) (B:Int):Option ((List Int)):=
 (oB (IV N r) fun C=>bif !C then some ([]:List Int)else oB (dV N B 0 5) fun D=>bif !D then some ([]:List Int)else oB (idx r 0) fun z=>iter (fun m (j,G,x,v,u,l)=>bif decide (l<u)then oB (idx v l) fun A=>(oB (cut j 1 (j.length:Int)) fun w=>iter (fun y (a,d,f,b,k,t,h,i,c,o,p,e)=>bif decide (e<p)then oB (idx o e) fun E=>(if fits (k+1)then oB (CY N E (k+1)) fun n=>(bif t then if fits (e+1)then y (a,d,f,b,n.1,n.2,h,i,c,o,p,(e+1))else none else if fits (e+1)then y (a,d,f,b,n.1,false,h,i,c,o,p,(e+1))else none)else none)else bif t then if fits (b+(a.length:Int))then if fits ((b+(a.length:Int))-1)then if fits (((b+(a.length:Int))-1)+d)then bif decide (k<=(((b+(a.length:Int))-1)+d))then if room f.length ([b]:List Int).length 8 then if fits (c+1)then m (a,d,(f++([b]:List Int)),h,i,(c+1))else none else none else(if fits (c+1)then m (a,d,f,h,i,(c+1))else none)else none else none else none else if fits (c+1)then m (a,d,f,h,i,(c+1))else none) N (j,G,x,A,A,true,v,u,l,w,(w.length:Int),(0:Int)))else some x) N (r,B,([]:List Int),z,(z.length:Int),(0:Int)))
theorem ad9 :ax 276 (aI [.af (.ar cR),ab] [.own 1 aW 3 true] (cr (C0 N))):=
 aB (al (aeu N) (al (hg N) (al (adf N) aA))) func276 rfl N (ae (ae (ae (.seq (ae (.block (.loop adB (ae (ae (.seq (.block (ae (ae (.seq (ae (aR ae4)) .no)))) .no)))))) .no)))) _
def aef :aw:=⟨.ptr n7::ak 3 (.box 4 0:: .box 5 0:: .dead:: .own 600007 hr 114 true:: .own 600008 cR 72 true::ab::ak 18 (.af gb::ab::ab::ak 59 [])),[(4,false,[ab,aD,bl,ab,ab,.af (.ar .q)]),(5,false,[ab,.af fg,.af gb])]⟩
def aeF :aw:=⟨.ptr n7::ak 3 (.box 4 0:: .box 5 0:: .dead:: .own 600007 hr 114 true:: .own 600008 cR 72 true::ab::ab:: .box 11 0:: .own 600012 aW 3 true::ak 15 (.af gb::ab::ab::ak 12 (.af cR::ab::ab::ak 44 []))),[(4,false,[ab,aD,bl,ab,ab,.af (.ar .q)]),(5,false,[ab,.af fg,.af gb]),(11,false,[aD,ab])]⟩
def CF (x:((List ah)×(List b3))×(List bq)×(List bJ)) (q:Int) (I:ah) (B:List ah) (J:Int) (K:Int) (L:List aN) (d:Int) (d2:cD) (d3:dz):eH:=
 (oB (yp N B ([32]:ah)) fun r=>oB (sU N x.1.1 x.1.2 r) fun s=>bif decide ((s.length:Int)=0)then some 0 else iter (fun go (C,dk,lists,all,t28,t29,t30,M,F,O,p,z,A,d4,d5,d6)=>bif decide (t30<t29)then oB (idx t28 t30) fun e=>(oB (u3 N C F e.1 d4) fun G=>iter (fun go2 (u,a,b,c,i,list,t282,t292,t302,t43,t44,t45,g,f,h,j,k,l,d7,d8,d9,t,t2)=>bif decide (t45<t44)then oB (idx t43 t45) fun v=>(oB (idx a 0) fun o=>if fits (t2-o.2)then if fits ((t2-o.2)-i)then if fits (v-((t2-o.2)-i))then bif decide ((0:Int)<=(v-((t2-o.2)-i)))then if room list.length ([(v-((t2-o.2)-i))]:List Int).length 8 then if fits (t45+1)then go2 (u,a,b,c,i,(list++([(v-((t2-o.2)-i))]:List Int)),t282,t292,t302,t43,t44,(t45+1),g,f,h,j,k,l,d7,d8,d9,t,t2)else none else none else(if fits (t45+1)then go2 (u,a,b,c,i,list,t282,t292,t302,t43,t44,(t45+1),g,f,h,j,k,l,d7,d8,d9,t,t2)else none)else none else none else none)else if room b.length ([list]:List (List Int)).length 24 then oB (u4 N u f t d7) fun H=>(if fits (c+H)then if fits (t302+1)then go (u,a,(b++([list]:List (List Int))),(c+H),t282,t292,(t302+1),g,f,h,j,k,l,d7,d8,d9)else none else none)else none) N (C,dk,lists,all,t30,([]:List Int),t28,t29,t30,G,(G.length:Int),(0:Int),M,F,O,p,z,A,d4,d5,d6,e.1,e.2))else oB (C0 N lists p) fun y=>if fits ((if(y.length:Int)<3 then(y.length:Int)else 3)*all)then some ((if(y.length:Int)<3 then(y.length:Int)else 3)*all)else none) N (x,s,([]:List (List Int)),(0:Int),s,(s.length:Int),(0:Int),q,I,B,J,K,L,d,d2,d3))
theorem aeA :ax 201 (aI [.ptr n7,.agg [ab,aD,bl,ab,ab,.af (.ar .q)],jN] [ab] (uk (CF N))):=
 aB (al (Pn N) (al (Cr N) (al (IC N) (al (Rc N) (al (ad9 N) aA))))) func201 rfl N (ae (ae (ae (ae (ae (.seq (ae (.block (.loop aef (ae (ae (.seq (.block (ae (ae (.seq (ae (aR aeF)) .no)))) .no)))))) .no)))))) _
def al0 :aw:=⟨.dead::aD::ak 3 (.own 600005 .str 9 true::ak 6 (.af eU::ab::ab::ak 14 [])),[]⟩
def sA (i:(List bq)×(List bJ)) (j:ah):Option ((List ah)):=
 (iter (fun h (e,b,d,c,a)=>bif decide (a<c)then oB (idx d a) fun f=>(bif decide (f.1=e)then if room b.length ([f.2.1]:List ah).length 16 then if fits (a+1)then h (e,(b++([f.2.1]:List ah)),d,c,(a+1))else none else none else if fits (a+1)then h (e,b,d,c,(a+1))else none)else some b) N (j,([]:List ah),i.2,(i.2.length:Int),(0:Int)))
theorem ajm :ax 202 (aI [.ptr zL,aD] [nU] (cr (sA N))):=
 aB aA func202 rfl N (ae (ae (.seq (ae (aR al0)) .no))) _
def aeB :aw:=⟨aD::aD::ak 3 (.ay 600005 aW 3 true::ak 18 (ab::ab::ak 62 [])),[]⟩
def adr :aw:=⟨aD::aD::ak 3 (.ay 600005 aW 3 true:: .dead::ab::ak 80 []),[]⟩
def aeo :aw:=⟨aD::aD::ak 3 (.ay 600005 aW 3 true:: .dead::ab::ab::ab::ak 78 []),[]⟩
def adb :aw:=⟨aD::aD::ak 3 (.ay 600005 aW 3 true:: .dead::ab:: .dead::ab::ab::ak 77 []),[]⟩
def adg :aw:=⟨aD::aD::ak 3 (.ay 22 aW 3 true::ak 82 []),[]⟩
def aeR :aw:=⟨aD::aD::ak 86 [],[]⟩
def Bj (a:ah) (b:ah):eH:=
 (meet (fun(g:ah×ah)=>match g with|(a2,a8)=>meet (fun(g:ah×ah×(List Int))=>match g with|(a3,fF,row)=>iter (fun go (a4,y,l,t24,t25)=>bif decide (t25<t24)then if 0<=t25/\t25<(l.length:Int)then oB (l[t25.toNat]?) fun e=>(if fits (t25+1)then go (a4,y,(l.set t25.toNat t25),t24,(t25+1))else none)else none else iter (fun go2 (a5,t,f,i)=>bif decide (i<=(a5.length:Int))then if 0<=(0:Int)/\(0:Int)<f.length then oB (f[(0:Int).toNat]?) fun A=>(if 0<=(0:Int)/\(0:Int)<f.length then oB (f[(0:Int).toNat]?) fun K=>(iter (fun v (u,p,o,i2,h,j)=>bif decide (j<=(p.length:Int))then meet (fun(g:Lg)=>match g with|(B,C,d,i3,k,cost)=>if 0<=k/\k<(d.length:Int)then oB (d[k.toNat]?) fun F=>(if 0<=k/\k<(d.length:Int)then oB (d[k.toNat]?) fun s=>(if fits (s+1)then if fits (k-1)then if 0<=(k-1)/\(k-1)<(d.length:Int)then oB (d[(k-1).toNat]?) fun x=>(if fits (x+1)then if 0<=k/\k<(d.length:Int)then oB (d[k.toNat]?) fun L=>(if fits (k+1)then v (B,C,(d.set k.toNat (if(x+1)<(if(s+1)<cost then s+1 else cost)then x+1 else if(s+1)<cost then s+1 else cost)),i3,F,(k+1))else none)else none else none)else none else none else none)else none)else none) fun z=>(if fits (i2-1)then oB (idx u (i2-1)) fun c=>(if fits (j-1)then oB (idx p (j-1)) fun c2=>(bif !decide ((c.toNat:Int)=(c2.toNat:Int))then if fits (h+1)then z (u,p,o,i2,j,(h+1))else none else z (u,p,o,i2,j,h))else none)else none)else if fits (i2+1)then go2 (u,p,o,(i2+1))else none) N (a5,t,(f.set (0:Int).toNat i),i,A,(1:Int)))else none)else none else if 0<=(t.length:Int)/\(t.length:Int)<(f.length:Int)then oB (f[(t.length:Int).toNat]?) fun G=>(some G)else none) N (a4,y,l,(1:Int))) N (a3,fF,row,(row.length:Int),(0:Int))) fun H=>if fits ((a8.length:Int)+1)then if((a8.length:Int)+1)=((a8.length:Int)+1)/\0<=((a8.length:Int)+1)/\((a8.length:Int)+1)*8<=140737488355328/\((a8.length:Int)+1)<=140737488355328 then H (a2,a8,(List.replicate ((a8.length:Int)+1).toNat 0))else none else none) fun J=>oB (jh N a) fun r=>bif !r then some (-1)else oB (jh N b) fun I=>bif !I then some (-1)else J (a,b))
theorem ae3 :ax 203 (aI [aD,aD] [ab] (cr (Bj N))):=
 aB (al (pN N) aA) func203 rfl N (ae (.meet aeR .no (.meet adg .no (.seq (ae (aR aeB)) (.seq (ae (.block (.loop adr (ae (.seq (.block (ae (ae (ae (.block (.loop aeo (ae (.seq (.block (ae (.meet adb .no .no))) .no)))))))) .no))))) .no))))) _ (wr:=[22])
def pO (N:Nat):(D:Nat)->ah->ah->cx
 |0,_,_=>none
 |D+1,p,s=>
 bif decide (p=([]:ah))then
 some (decide (s=([]:ah)))
 else
 oB (idx p 0) fun c=>
 bif decide ((c.toNat:Int)=42)then
 oB (cut p 1 (p.length:Int)) fun y=>
 (oB (pO N D y s) fun r=>
 bif r then
 some true
 else
 bif !decide (s=([]:ah))then
 oB (cut s 1 (s.length:Int)) fun a=>
 (oB (pO N D p a) fun b=>
 some b)
 else
 some false)
 else
 bif decide (s=([]:ah))then
 some false
 else
 oB (idx p 0) fun c2=>
 bif decide ((c2.toNat:Int)=63)then
 oB (cut p 1 (p.length:Int)) fun d=>
 (oB (cut s 1 (s.length:Int)) fun e=>
 oB (pO N D d e) fun f=>
 some f)
 else
 oB (idx p 0) fun c3=>
 oB (idx s 0) fun c4=>
 bif decide ((c3.toNat:Int)=(c4.toNat:Int))then
 oB (cut p 1 (p.length:Int)) fun g=>
 (oB (cut s 1 (s.length:Int)) fun h=>
 oB (pO N D g h) fun i=>
 some i)
 else
 some false
def CN (N D:Nat):Model:=⟨⟨[aD,aD],[]⟩,⟨[a7],[]⟩,cr (pO N D)⟩
theorem adt (N D:Nat) (a:ax 277 (CN N D)):ax 277 (CN N (D+1)):=
 aB (al a aA) func277 rfl N .no (CN N (D+1))
theorem Pm (N:Nat):∀D,ax 277 (CN N D)
 |0=>lg ⟨_,func277,by decide,by kernel_rfl⟩ _ (fun a=>rfl)
 |D+1=>adt N D (Pm N D)
def Cz (b:ah) (a:ah):cx:=
 (oB (ym N b) fun c=>bif c then oB (jh N a) fun e=>(bif e then oB (pO N N b a) fun d=>(some d)else some false)else some false)
theorem aeT :ax 204 (aI [aD,aD] [a7] (cr (Cz N))):=
 aB (al (Rt N) (al (pN N) (al (Pm N N) aA))) func204 rfl N .no _
def aet :aw:=⟨.dead::aD::ak 8 (.af gb::ab::ab::ak 10 []),[]⟩
def CV (k:Int) (m:cD) (b:dz) (j:ah):eH:=
 (oB (pJ N k m b) fun i=>bif i then iter (fun h (e,d,c,a)=>bif decide (a<c)then oB (idx d a) fun f=>(bif decide (f.1=e)then some f.2 else if fits (a+1)then h (e,d,c,(a+1))else none)else some (-1)) N (j,b,(b.length:Int),(0:Int))else some (-1))
theorem adA :ax 206 (aI [jN,aD] [ab] (dq (CV N))):=
 aB (al (Cs N) aA) func206 rfl N (ae (.seq (ae (.cond (ae (aR aet)) .no)) .no)) _
def aeS :aw:=⟨.ptr n7::ak 3 (.box 4 0:: .box 5 0:: .dead::ab::ak 43 (.own 600051 .str 9 true::ab::ab::ak 122 [])),[(4,false,[ab,aD,bl,ab,ab,.af (.ar .q)]),(5,false,[ab,.af fg,.af gb])]⟩
def ad5 :aw:=⟨.ptr n7::ak 3 (.box 4 0:: .box 5 0::ak 83 (.own 600089 .str 9 true::ab::ab::ak 84 [])),[(4,false,[ab,aD,bl,ab,ab,.af (.ar .q)]),(5,false,[ab,.af fg,.af gb])]⟩
def aeZ :aw:=⟨.ptr n7::ak 3 (.box 4 0:: .box 5 0::ak 7 (ab::ak 140 (.af (.ar .q)::ab::ab::ak 19 []))),[(4,false,[ab,aD,bl,ab,ab,.af (.ar .q)]),(5,false,[ab,.af fg,.af gb])]⟩
def kE (N:Nat):(D:Nat)->zM->Int->ah->(List ah)->Int->Int->(List aN)->Int->gd->na->eH
 |0,_,_,_,_,_,_,_,_,_,_=>none
 |D+1,x,q,f,v,h,y,c,d,d2,d3=>
 bif decide (q=1)then
 some 100
 else
 bif decide (q=2)then
 oB (idx v 0) fun e=>
 (oB (CJ N x.1.1 x.1.2 e) fun r=>
 oB (u4 N x f r d) fun ll=>
 some ll)
 else
 bif decide (q=3)then
 oB (CF N x q f v h y c d d2 d3) fun nK=>
 (some nK)
 else
 bif decide (q=4)then
 oB (sA N x.2 f) fun nL=>
 (iter (fun go (g:zM×Int×(List ah)×Int×Int×Int×ah×(List ah)×Int×Int×(List aN)×Int×gd×na)=>
 match g with
 |(Q,a,t51,t52,t53,o0,S,T,i,z,A,d4,d5,d6)=>
 bif decide (t53<t52)then
 oB (idx t51 t53) fun ck=>
 (oB (idx T 0) fun dr=>
 oB (Bj N ck dr) fun o=>
 oB (dV N o 0 i) fun mQ=>
 bif mQ then
 oB (u4 N Q S ck d4) fun P=>
 (if fits (3-o)then if fits (P*(3-o))then if 3≠0 then
 if fits ((P*(3-o)).tdiv 3)then if fits (t53+1)then go (Q,(if((P*(3-o)).tdiv 3)>a then(P*(3-o)).tdiv 3 else a),t51,t52,(t53+1),o0,S,T,i,z,A,d4,d5,d6)else none else none
 else none else none else none)
 else
 if fits (t53+1)then go (Q,a,t51,t52,(t53+1),o0,S,T,i,z,A,d4,d5,d6)else none)
 else
 some a) N (x,0,nL,(nL.length:Int),0,q,f,v,h,y,c,d,d2,d3))
 else
 bif decide (q=5)then
 oB (sA N x.2 f) fun nM=>
 (iter (fun go2 (g:zM×(List ah)×Int×Int×Int×ah×(List ah)×Int×Int×(List aN)×Int×gd×na)=>
 match g with
 |(U,t89,t90,t91,B,j,k,C,F,G,d7,d8,d9)=>
 bif decide (t91<t90)then
 oB (idx t89 t91) fun gP=>
 (oB (idx k 0) fun gf=>
 oB (Cz N gf gP) fun yS=>
 bif yS then
 oB (u3 N U j gP d7) fun V=>
 (bif decide ((0:Int)<V.length)then
 some 100
 else
 if fits (t91+1)then go2 (U,t89,t90,(t91+1),B,j,k,C,F,G,d7,d8,d9)else none)
 else
 if fits (t91+1)then go2 (U,t89,t90,(t91+1),B,j,k,C,F,G,d7,d8,d9)else none)
 else
 some 0) N (x,nM,(nM.length:Int),0,q,f,v,h,y,c,d,d2,d3))
 else
 bif decide (q=6)then
 oB (CV N d d2 d3 f) fun W=>
 (oB (dV N W h y) fun X=>
 bif X then
 some 100
 else
 some 0)
 else
 bif decide (q=10)then
 oB (idx c 0) fun p=>
 (oB (kE N D x p.kind p.field p.words p.lo p.hi p.kids d d2 d3) fun H=>
 if fits (h*H)then some (h*H)else none)
 else
 bif decide (q=9)then
 oB (idx c 1) fun s=>
 (oB (kE N D x s.kind s.field s.words s.lo s.hi s.kids d d2 d3) fun Y=>
 bif decide ((0:Int)<Y)then
 some 0
 else
 oB (idx c 0) fun t=>
 oB (kE N D x t.kind t.field t.words t.lo t.hi t.kids d d2 d3) fun Z=>
 some Z)
 else
 iter (fun I (g:zM×Int×(List aN)×Int×Int×Int×ah×(List ah)×Int×Int×(List aN)×Int×gd×na)=>
 match g with
 |(K7,all,t154,t155,t156,l,J,K,L,M,O,d10,d11,d12)=>
 bif decide (t156<t155)then
 oB (idx t154 t156) fun u=>
 (oB (kE N D K7 u.kind u.field u.words u.lo u.hi u.kids d10 d11 d12) fun b=>
 bif decide (b=0)then
 bif decide (l=7)then
 some 0
 else
 (if fits (all+b)then if fits (t156+1)then I (K7,(all+b),t154,t155,(t156+1),l,J,K,L,M,O,d10,d11,d12)else none else none)
 else
 if fits (all+b)then if fits (t156+1)then I (K7,(all+b),t154,t155,(t156+1),l,J,K,L,M,O,d10,d11,d12)else none else none)
 else
 some all) N (x,0,c,(c.length:Int),0,q,f,v,h,y,c,d,d2,d3)
def CC (N D:Nat):Model:=⟨⟨[.ptr n7,.agg [ab,aD,bl,ab,ab,.af (.ar .q)],jN],[]⟩,⟨[ab],[]⟩,uk (kE N D)⟩
theorem adN (N D:Nat) (a:ax 134 (CC N D)):ax 134 (CC N (D+1)):=
 aB (al a (al (adL N) (al (Rc N) (al (aeA N) (al (ajm N) (al (ae3 N) (al (hg N) (al (aeT N) (al (IC N) (al (adA N) aA)))))))))) func134 rfl N (ae (.seq (ae (.block (ae (.cond .no (ae (.cond .no (ae (.cond .no (ae (.cond (ae (.seq (ae (aR aeS)) .no)) (ae (.cond (.seq (ae (aR ad5)) .no) .no)))))))))))) (ae (.seq (ae (aR aeZ)) .no)))) (CC N (D+1))
theorem RQ (N:Nat):∀D,ax 134 (CC N D)
 |0=>lg ⟨_,func134,by decide,by kernel_rfl⟩ _ (fun a=>rfl)
 |D+1=>adN N D (RQ N D)
def adx :aw:=⟨ak 5 (.box 5 0:: .dead:: .own 600007 ca 98 true:: .box 26 0::ak 19 (.af cI::ab::ab::ak 18 [])),[(5,false,[ab,aD,bl,ab,ab,.af (.ar .q)]),(26,true,[bl,.af dx,.af cI,.af eU])]⟩
def u5 (B:List ah) (w:List b3) (c:List bq) (z:List bJ) (t:Int) (v:ah) (A:List ah) (u:Int) (C:Int) (y:List aN):Option (ep):=
 (oB (u1 N B w c z) fun D=>bif !D then some ([]:b1)else oB (pK N t v A u C y) fun G=>bif !G then some ([]:b1)else iter (fun x (d,l,i,a,h,e,p,f,o,j,k,m,r,n)=>bif decide (a<i)then oB (idx l a) fun b=>(oB (kE N N ((k,m),r,n) h e p f o j b.1 b.2.1 b.2.2) fun q=>bif decide ((0:Int)<q)then if room d.length ([(b.1,q)]:b1).length 16 then if fits (a+1)then x ((d++([(b.1,q)]:b1)),l,i,(a+1),h,e,p,f,o,j,k,m,r,n)else none else none else if fits (a+1)then x (d,l,i,(a+1),h,e,p,f,o,j,k,m,r,n)else none)else some d) N (([]:b1),c,(c.length:Int),(0:Int),t,v,A,u,C,y,B,w,c,z))
theorem HL :ax 66 (aI [fb,iX,.agg [ab,aD,bl,ab,ab,.af (.ar .q)]] [qe] (uk (u5 N))):=
 aB (al (Q8 N) (al (xZ N) (al (RQ N N) aA))) func66 rfl N (ae (ae (ae (ae (.seq (ae (aR adx)) .no))))) _
def sC (d:Int) (a:Int) (e:Int) (b:Int):eH:=
 (oB (rb N b a) fun c=>oB (rb N d e) fun h=>oB (s0 N ([c,h]:List Int)) fun f=>some f)
theorem ra :ax 136 (aI [l6,l6] [ab] (dq (sC N))):=
 aB (al (Ra N) (al (QM N) aA)) func136 rfl N .no _
def j3 (N:Nat):(Unit)->(Int×Int)->(Int×Int)->Option Int:=(fun(cmp:Unit) (e a:Int×Int)=>sC N e.1 e.2 a.1 a.2)
def ann :aw:=⟨.ay 800000 ca 98 true::ab::ab:: .aV 136 []::ak 4 (ab::ak 44 []),[]⟩
def am2 :aw:=⟨.ay 800000 ca 98 true::ab::ab:: .aV 136 []::ak 4 (ab::ab::ak 43 []),[]⟩
def amF (a:b1) (c:Int) (b:Int) (d:Unit):Option (ep):=sG (j3 N) N a c b d
 
theorem am0 :ax 278 (aI [.ay 800000 ca 98 true,ab,ab,.aV 136 []] [fK,.ay 800000 ca 98 true] (dq (amF N))):=
 aB (al (ra N) aA) func278 rfl N (ae (.block (.loop ann (ae (.seq (.block (ae (aR am2))) .no))))) _ (rs:=[800000])
def amB :aw:=⟨.ay 800000 ca 98 true:: .dead::ab::ab:: .aV 136 []::ak 5 (ab::ak 71 []),[]⟩
def ani :aw:=⟨.ay 800000 ca 98 true:: .dead::ab::ab:: .aV 136 []::ak 5 (ab::ab::ak 70 []),[]⟩
def amO (b:b1) (d:Int) (c:Int) (a:Int) (e:Unit):Option (ep):=rJ (j3 N) N b d c a e
 
theorem anf :ax 325 (aI [.ay 800000 ca 98 true,ab,ab,ab,.aV 136 []] [fK,.ay 800000 ca 98 true] (fm (amO N))):=
 aB (al (ra N) aA) func325 rfl N (ae (.block (.loop amB (.block (ae (ae (.meet ani .no .no))))))) _ (rs:=[800000])
def ans :aw:=⟨.ay 800000 ca 98 true:: .dead:: .dead:: .aV 136 []::ak 4 (ab::ab::ab::ab::ak 48 []),[]⟩
def am4 :aw:=⟨.ay 800000 ca 98 true:: .dead:: .dead:: .aV 136 []::ak 4 (ab::ab:: .dead:: .dead::ab::ak 47 []),[]⟩
def amK (a:b1) (c:Int) (b:Int) (d:Unit):Option (ep):=lS (j3 N) N a c b d
 
theorem ano :ax 279 (aI [.ay 800000 ca 98 true,ab,ab,.aV 136 []] [fK,.ay 800000 ca 98 true] (dq (amK N))):=
 aB (al (anf N) aA) func279 rfl N (ae (ae (ae (.seq (ae (aR ans)) (ae (aR am4)))))) _ (rs:=[800000])
def amT :aw:=⟨.ay 800000 ca 98 true::ab::ak 6 (ab:: .box 9 0:: .af (.int .u64)::ab::ak 55 []),[(9,false,[.af (.int .u64)])]⟩
def amW :aw:=⟨.ay 800000 ca 98 true::ab::ak 6 (ab:: .box 9 0:: .af (.int .u64)::ab::ab::ak 54 []),[(9,false,[.af (.int .u64)])]⟩
def amR (a:b1) (c:Int) (b:Int) (d:Unit):Option (ep):=r3 N a c b d
 
theorem am7 :ax 280 (aI [.ay 800000 ca 98 true,ab,ab,.aV 136 []] [fK,.ay 800000 ca 98 true] (dq (amR N))):=
 aB (al (Ct N) (al (Cq N) aA)) func280 rfl N (ae (ae (.cond (ae (ae (ae (.block (.loop amT (ae (.seq (.block (ae (.meet amW .no .no))) .no))))))) .no))) _ (rs:=[800000])
def amL (a:b1) (d:Int) (c:Int) (e:Unit) (b:Int):Option (Int×Int×ep×Int):=p0 (j3 N) N a d c e b
 
theorem am1 :ax 345 ⟨⟨[.ay 800000 ca 98 true,ab,ab,.box 900003 0,.aV 136 []],[(900003,false,[ab])]⟩,⟨[.bR [ab,ab],.ay 800000 ca 98 true],[(900003,false,[ab])]⟩,fm (amL N)⟩:=
 aB (al (ra N) aA) func345 rfl N .no _ (rs:=[900003,800000])
def amP (a:b1) (e:Int) (d:Int) (b:Int) (f:Unit) (c:Int):Option (Int×ep×Int):=rl (j3 N) N a e d b f c
 
theorem Rf :ax 327 ⟨⟨[.ay 800000 ca 98 true,ab,ab,ab,.box 900004 0,.aV 136 []],[(900004,false,[ab])]⟩,⟨[ab,.ay 800000 ca 98 true],[(900004,false,[ab])]⟩,kv (amP N)⟩:=
 aB (al (am1 N) aA) func327 rfl N .no _ (rs:=[900004,800000])
def amM (a:b1) (c:Int) (d:Unit) (b:Int):Option (Int×ep×Int):=pR (j3 N) N a c d b
 
theorem anj :ax 326 ⟨⟨[.ay 800000 ca 98 true,ab,.box 900002 0,.aV 136 []],[(900002,false,[ab])]⟩,⟨[ab,.ay 800000 ca 98 true],[(900002,false,[ab])]⟩,dq (amM N)⟩:=
 aB (al (Rf N) aA) func326 rfl N .no _ (rs:=[900002,800000])
def anp :aw:=⟨.ay 800000 ca 98 true:: .dead:: .dead:: .aV 136 []::ak 7 (.box 11 0::ab::ab::ab::ak 48 []),[(11,false,[ab])]⟩
def am3 :aw:=⟨.ay 800000 ca 98 true::ak 10 (.box 11 0:: .dead::ab::ak 49 []),[(11,false,[ab])]⟩
def amD (a:b1) (c:Int) (b:Int) (d:Unit):Option (Int×Int×ep):=r4 (j3 N) N a c b d
 
theorem ang :ax 281 (aI [.ay 800000 ca 98 true,ab,ab,.aV 136 []] [.bR [ab,ab],.ay 800000 ca 98 true] (dq (amD N))):=
 aB (al (anj N) (al (Rf N) aA)) func281 rfl N (ae (ae (ae (ae (ae (ae (.meet am3 (ae (.cond (.meet anp .no .no) .no)) .no))))))) _ (rs:=[800000])
def amA :aw:=⟨.ay 800000 ca 98 true::ak 7 (ab::ab::ak 24 []),[]⟩
def amE (a:b1) (c:Int) (b:Int) (d:Unit):Option (ep):=tq N a c b d
 
theorem ant :ax 282 (aI [.ay 800000 ca 98 true,ab,ab,.aV 136 []] [fK,.ay 800000 ca 98 true] (dq (amE N))):=
 aB aA func282 rfl N (ae (ae (aR amA))) _ (rs:=[800000])
def II :aw:=⟨.ay 800000 ca 98 true::ab::ab:: .aV 136 []::ak 5 (ab::ab::ak 130 []),[]⟩
def anm :aw:=⟨.ay 800000 ca 98 true::ab::ab:: .aV 136 []::ak 5 (ab::ab::ab::ak 129 []),[]⟩
def ana :aw:=⟨.ay 800000 ca 98 true::ab::ab:: .aV 136 []::ak 5 (ab::ab:: .dead::ab::ak 128 []),[]⟩
def amS (a:b1) (c:Int) (b:Int) (d:Unit):Option (Bool×ep):=tj (j3 N) N a c b d
 
theorem amV :ax 283 (aI [.ay 800000 ca 98 true,ab,ab,.aV 136 []] [a7,.ay 800000 ca 98 true] (dq (amS N))):=
 aB (al (ra N) aA) func283 rfl N (ae (ae (.seq (ae (.block (.loop II (ae (.seq (.block (.seq (aR II) (ae (ae (ae (.meet II (ae (.cond (ae (aR anm)) .no)) (ae (.cond (ae (aR ana)) .no)))))))) .no))))) .no))) _ (rs:=[800000])
def IK :aw:=⟨.ay 800000 ca 98 true::ab:: .dead:: .dead:: .aV 136 []::ak 6 (ab::ab::ak 77 []),[]⟩
def amN (a:b1) (d:Int) (b:Int) (c:Int) (e:Unit):Option (Int×ep):=mN (j3 N) N a d b c e
 
theorem amY :ax 284 (aI [.ay 800000 ca 98 true,ab,ab,ab,.aV 136 []] [ab,.ay 800000 ca 98 true] (fm (amN N))):=
 aB (al (ra N) aA) func284 rfl N (ae (ae (ae (.seq (.block (.loop IK (.block (.seq (aR IK) (.seq (aR IK) .no))))) .no)))) _ (rs:=[800000])
def yf :aw:=⟨.ay 800000 ca 98 true::ab:: .dead:: .dead:: .aV 136 []::ak 7 (ab::ab::ak 164 []),[]⟩
def amQ (a:b1) (d:Int) (b:Int) (c:Int) (e:Unit):Option (Int×Bool×ep):=p1 (j3 N) N a d b c e
 
theorem amC :ax 285 (aI [.ay 800000 ca 98 true,ab,ab,ab,.aV 136 []] [.bR [ab,a7],.ay 800000 ca 98 true] (fm (amQ N))):=
 aB (al (ra N) aA) func285 rfl N (ae (ae (ae (.seq (aR yf) (.seq (aR yf) (ae (ae (ae (ae (.seq (.block (.loop yf (.block (.seq (aR yf) (.seq (aR yf) .no))))) .no)))))))))) _ (rs:=[800000])
def am8 :aw:=⟨.ay 800000 ca 98 true::ab::ab::ab:: .aV 136 []::ak 5 (a7::a7::ak 136 []),[]⟩
def am5 :aw:=⟨.ay 800000 ca 98 true::ab::ab::ab:: .aV 136 []::ak 5 (a7::a7::ab::ab::ak 134 []),[]⟩
def am6 :aw:=⟨.ay 800000 ca 98 true::ab::ab::ab:: .aV 136 []::ak 5 (a7::a7::ab::ab::ab::ak 133 []),[]⟩
def anl :aw:=⟨.ay 800000 ca 98 true::ab::ab::ab:: .aV 136 []::ak 5 (a7::a7::ab::ak 135 []),[]⟩
def Rg (N D:Nat) (h:b1) (a b g:Int) (e:Unit):Option (ep):=l3 (j3 N) (fun d a b c=>lS (j3 N) N d a b c) (fun d a b f c=>mN (j3 N) N d a b f c) N D h a b g e
 
def Cy (N D:Nat):Model:=⟨⟨[.ay 800000 ca 98 true,ab,ab,ab,.aV 136 []],[]⟩,⟨[fK,.ay 800000 ca 98 true],[]⟩,fm (Rg N D)⟩
theorem anq (N D:Nat) (a:ax 207 (Cy N D)):ax 207 (Cy N (D+1)):=
 aB (al a (al (am0 N) (al (ano N) (al (am7 N) (al (ang N) (al (ant N) (al (amV N) (al (ra N) (al (amY N) (al (amC N) aA)))))))))) func207 rfl N (ae (ae (.block (.loop am8 (.block (ae (ae (ae (.meet anl .no (ae (.meet am6 .no (.meet am5 .no .no)))))))))))) (Cy N (D+1)) (rs:=[800000])
theorem Re (N:Nat):∀D,ax 207 (Cy N D)
 |0=>lg ⟨_,func207,by decide,by kernel_rfl⟩ _ (fun a=>rfl)
 |D+1=>anq N D (Re N D)
def C6 (a:b1) (d:Unit):Option (ep):=
 (oB (pQ N (IntKind.u64.wrap (a.length:Int))) fun b=>oB (Rg N N a 0 (a.length:Int) b ()) fun c=>some c)
theorem am9 :ax 135 (aI [.ay 800000 ca 98 true,.aV 136 []] [fK,.ay 800000 ca 98 true] (cr (C6 N))):=
 aB (al (yb N) (al (Re N N) aA)) func135 rfl N .no _ (rs:=[800000])
def q1 (c:b1) (b:Int):Option (ep):=
 (if room ([]:b1).length c.length 16 then oB (C6 N (([]:b1)++c) ()) fun a=>(oB (cut a 0 (if b<(a.length:Int)then b else(a.length:Int))) fun d=>if room ([]:b1).length d.length 16 then some (([]:b1)++d)else none)else none)
theorem Cx :ax 67 (aI [.af e6,ab] [qe] (cr (q1 N))):=
 aB (al (am9 N) aA) func67 rfl N .no _ (wr:=[6,8,11,17,18])
def Bn (i:List ah) (f:List b3) (m:List bq) (e:List bJ) (b:Int) (l:ah) (h:List ah) (k:Int) (j:Int) (c:List aN) (a:Int):Option (ep):=
 (oB (dV N a 1 16) fun d=>bif !d then some ([]:b1)else oB (u5 N i f m e b l h k j c) fun o=>oB (q1 N o a) fun n=>some n)
theorem aea :ax 48 (aI [fb,iX,.agg [ab,aD,bl,ab,ab,.af (.ar .q)],ab] [qe] (um (Bn N))):=
 aB (al (hg N) (al (HL N) (al (Cx N) aA))) func48 rfl N .no _
def uZ (a:List ah) (b:List b3) (d:List cU) (c:Int) (f:ah) (j:List ah) (e:Int) (l:Int) (h:List aN) (k:Int):Option (ep):=
 (oB (mF N a b d) fun m=>bif !m then some ([]:b1)else oB (pK N c f j e l h) fun p=>bif !p then some ([]:b1)else oB (dV N k 1 16) fun o=>bif !o then some ([]:b1)else oB (sB N d) fun q=>oB (q0 N a b q) fun i=>oB (Bn N a b i.1 i.2 c f j e l h k) fun n=>some n)
theorem PF :ax 12 (aI [lq,.agg [ab,aD,bl,ab,ab,.af (.ar .q)],ab] [qe] (uk (uZ N))):=
 aB (al (sN N) (al (xZ N) (al (hg N) (al (HR N) (al (Cv N) (al (aea N) aA)))))) func12 rfl N .no _
def anu :aw:=⟨.af e6:: .af e6::ak 3 (ab::ak 20 []),[]⟩
def lb (d:b1) (f:b1):cx:=
 (bif !decide ((d.length:Int)=(f.length:Int))then some false else iter (fun i (b,c,a)=>bif decide (a<(b.length:Int))then oB (idx b a) fun e=>(oB (idx c a) fun h=>bif !((decide (e.1=h.1))&&(decide (e.2=h.2)))then some false else if fits (a+1)then i (b,c,(a+1))else none)else some true) N (d,f,(0:Int)))
theorem anc :ax 11 (aI [.af e6,.af e6] [a7] (cr (lb N))):=
 aB aA func11 rfl N (ae (ae (.seq (ae (aR anu)) .no))) _
def mI (N:Nat) (k:Int) (j:ah) (h:List ah) (e:Int) (d:Int) (a:List aN) (i:Bool) (f:Bool) (c:Bool) (b:Bool):cx:=
 (bif i then bif f then bif c then bif b then some true else(some (decide ((a.length:Int)=0)))else(bif decide (e=0)then bif decide (d=0)then bif b then some true else(some (decide ((a.length:Int)=0)))else(some false)else some false)else(bif decide ((h.length:Int)=0)then bif c then bif b then some true else(some (decide ((a.length:Int)=0)))else(bif decide (e=0)then bif decide (d=0)then bif b then some true else(some (decide ((a.length:Int)=0)))else(some false)else some false)else some false)else bif decide (j=([]:ah))then bif f then bif c then bif b then some true else(some (decide ((a.length:Int)=0)))else(bif decide (e=0)then bif decide (d=0)then bif b then some true else(some (decide ((a.length:Int)=0)))else(some false)else some false)else(bif decide ((h.length:Int)=0)then bif c then bif b then some true else(some (decide ((a.length:Int)=0)))else(bif decide (e=0)then bif decide (d=0)then bif b then some true else(some (decide ((a.length:Int)=0)))else(some false)else some false)else some false)else some false)
theorem aeN :ax 250 (aI [.agg [ab,aD,bl,ab,ab,.af (.ar .q)],a7,a7,a7,a7] [a7] (uk (mI N))):=
 aB aA func250 rfl N .no _
def ae2 :aw:=⟨bl::ab::ak 3 (ab::ak 16 []),[]⟩
def vn (j:List ah) (f:Int):cx:=
 (iter (fun d (b,c,a)=>bif decide (a<(b.length:Int))then oB (idx b a) fun h=>(oB (iO N h) fun e=>bif !e then some false else if fits (a+1)then d (b,c,(a+1))else none)else oB (hL N (b.length:Int) 1 c) fun k=>some k) N (j,f,(0:Int)))
theorem ae1 :ax 251 (aI [bl,ab] [a7] (cr (vn N))):=
 aB (al (vm N) (al (nx N) aA)) func251 rfl N (ae (.seq (ae (aR ae2)) .no)) _
def adw :aw:=⟨aD:: .dead:: .dead::ab::ak 28 [],[]⟩
def CR (e:ah):cx:=
 (iter (fun c (b,a)=>bif decide (a<(b.length:Int))then oB (idx b a) fun f=>(bif !decide ((f.toNat:Int)=42)then oB (idx b a) fun j=>(bif !decide ((j.toNat:Int)=63)then if fits (a+1)then oB (cut b a (a+1)) fun i=>(oB (iO N i) fun d=>bif !d then some false else if fits (a+1)then c (b,(a+1))else none)else none else if fits (a+1)then c (b,(a+1))else none)else if fits (a+1)then c (b,(a+1))else none)else oB (hL N (b.length:Int) 1 12) fun k=>some k) N (e,(0:Int)))
theorem adT :ax 252 (aI [aD] [a7] (dY (CR N))):=
 aB (al (vm N) (al (nx N) aA)) func252 rfl N (ae (.seq (ae (aR adw)) .no)) _
def aeI :aw:=⟨.dead:: .box 1 0:: .dead::ab::ak 4 (ab::ak 123 (a7::ak 34 [])),[(1,false,[ab,aD,bl,ab,ab,.af (.ar .q)])]⟩
def CW (a:Int) (c:ah) (b:List ah) (d:Int) (e:Int) (f:List aN):cx:=
 (bif decide (a=1)then oB (mI N a c b d e f false false false false) fun q=>(some q)else bif decide (a=2)then oB (mI N a c b d e f true true false false) fun W=>(bif W then oB (iO N c) fun K=>(bif K then oB (vn N b 1) fun X=>(some X)else some false)else some false)else bif decide (a=3)then oB (mI N a c b d e f true true true false) fun R=>(bif R then oB (iO N c) fun B=>(bif B then oB (vn N b 4) fun w=>(bif w then bif decide ((1:Int)<b.length)then bif decide (e=0)then oB (hL N d 0 5) fun A=>(some A)else(some false)else(some false)else some false)else some false)else some false)else bif decide (a=4)then oB (mI N a c b d e f true true true false) fun O=>(bif O then oB (iO N c) fun x=>(bif x then oB (vn N b 1) fun u=>(bif u then bif decide (e=0)then oB (hL N d 1 2) fun V=>(some V)else(some false)else some false)else some false)else some false)else bif decide (a=5)then oB (mI N a c b d e f true true false false) fun S=>(bif S then oB (iO N c) fun E=>(bif E then bif decide ((b.length:Int)=1)then oB (idx b 0) fun T=>(oB (CR N T) fun D=>bif D then oB (idx b 0) fun I=>(oB (iO N I) fun Q=>some (!Q))else some false)else(some false)else some false)else some false)else bif decide (a=6)then oB (mI N a c b d e f true false true false) fun y=>(bif y then oB (iO N c) fun z=>(bif z then oB (hL N d 0 999999999) fun H=>(bif H then oB (hL N e d 999999999) fun r=>(some r)else some false)else some false)else some false)else meet (fun(G:Int×Int×Bool×Int×ah×(List ah)×Int×Int×(List aN))=>match G with|(k,o,C,m,j,n,h,i,l)=>bif C then oB (mI N m j n h i l false false false true) fun v=>(bif v then oB (hL N k 2 4) fun t=>(some t)else some false)else bif decide (o=9)then oB (mI N m j n h i l false false false true) fun P=>(bif P then some (decide (k=2))else some false)else bif decide (o=10)then oB (mI N m j n h i l false false true true) fun L=>(bif L then bif decide (k=1)then bif decide (i=0)then oB (hL N h 2 9) fun U=>(some U)else(some false)else(some false)else some false)else some false) fun p=>bif decide (a=7)then p ((f.length:Int),a,true,a,c,b,d,e,f)else p ((f.length:Int),a,(decide (a=8)),a,c,b,d,e,f))
theorem ady :ax 172 (aI [.agg [ab,aD,bl,ab,ab,.af (.ar .q)]] [a7] (kv (CW N))):=
 aB (al (aeN N) (al (vm N) (al (ae1 N) (al (nx N) (al (adT N) aA))))) func172 rfl N (ae (ae (.seq (ae (.block (ae (.cond .no (ae (.cond .no (ae (.cond .no (ae (.cond .no (ae (.cond .no (ae (.cond .no (.meet aeI .no .no))))))))))))))) .no))) _
def aev :aw:=⟨.dead::ab:: .box 2 0:: .dead:: .dead::ab::ak 23 [],[(2,false,[ab,aD,bl,ab,ab,.af (.ar .q)])]⟩
def vq (N:Nat):(D:Nat)->Int->ah->(List ah)->Int->Int->(List aN)->Int->cx
 |0,_,_,_,_,_,_,_=>none
 |D+1,q,f,h,j,k,l,deep=>
 bif decide (deep=0)then
 some false
 else
 oB (CW N q f h j k l) fun r=>
 bif !r then
 some false
 else
 iter (fun go (g:Int×Int×Int×ah×(List ah)×Int×Int×(List aN))=>
 match g with
 |(a,i,o,p,s,c,d,b)=>
 bif decide (i<(b.length:Int))then
 oB (idx b i) fun e=>
 (if fits (a-1)then oB (vq N D e.kind e.field e.words e.lo e.hi e.kids (a-1)) fun t=>
 (bif !t then
 some false
 else
 if fits (i+1)then go (a,(i+1),o,p,s,c,d,b)else none)else none)
 else
 some true) N (deep,0,q,f,h,j,k,l)
def CD (N D:Nat):Model:=⟨⟨[.agg [ab,aD,bl,ab,ab,.af (.ar .q)],ab],[]⟩,⟨[a7],[]⟩,FB (vq N D)⟩
theorem adC (N D:Nat) (a:ax 111 (CD N D)):ax 111 (CD N (D+1)):=
 aB (al a (al (ady N) aA)) func111 rfl N (ae (ae (.seq (ae (aR aev)) .no))) (CD N (D+1))
theorem RC (N:Nat):∀D,ax 111 (CD N D)
 |0=>lg ⟨_,func111,by decide,by kernel_rfl⟩ _ (fun a=>rfl)
 |D+1=>adC N D (RC N D)
def D4 (a:Int) (f:ah) (h:List ah) (e:Int) (d:Int) (b:List aN):cx:=
 (oB (vq N N a f h e d b 4) fun c=>some c)
theorem adE :ax 50 (aI [.agg [ab,aD,bl,ab,ab,.af (.ar .q)]] [a7] (kv (D4 N))):=
 aB (al (RC N N) aA) func50 rfl N .no _
def CG (b:List ah) (a:List b3) (c:ah):Option (ah):=
 (oB (sW N b a) fun e=>bif !e then some ([]:ah)else oB (iO N c) fun h=>bif !h then some ([]:ah)else oB (q8 N b a c) fun d=>bif decide ((d.length:Int)=0)then some ([]:ah)else oB (idx d 0) fun f=>some f.1)
theorem aeq :ax 174 (aI [fb,aD] [aD] (eI (CG N))):=
 aB (al (Cw N) (al (vm N) (al (yc N) aA))) func174 rfl N .no _
def amf :aw:=⟨.dead::aD::aD:: .box 3 0::ak 3 (ab::ak 31 []),[(3,false,[.af cI,.af eU])]⟩
def za (n:List bq) (h:List bJ) (k:ah) (l:ah):Option (zN):=
 (iter (fun e (c,d,a,f,b)=>bif decide (a<(b.length:Int))then oB (idx b a) fun j=>(bif decide (j.1=c)then oB (idx b a) fun o=>(bif decide (o.2.1=d)then oB (idx b a) fun i=>(some i.2.2)else if fits (a+1)then e (c,d,(a+1),f,b)else none)else if fits (a+1)then e (c,d,(a+1),f,b)else none)else some ([]:c6)) N (k,l,(0:Int),n,h))
theorem QJ :ax 257 (aI [iX,aD,aD] [.af lI] (dq (za N))):=
 aB aA func257 rfl N (ae (.seq (ae (aR amf)) .no)) _
def alW :aw:=⟨ak 3 (ab::ak 5 (.af lI::ab::ak 22 [])),[]⟩
def vS (l:List bq) (f:List bJ) (i:ah) (j:ah) (n:Int):Option ((List Int)):=
 (oB (za N l f i j) fun e=>iter (fun d (c,b,a)=>bif decide (a<(b.length:Int))then oB (idx b a) fun h=>(bif decide (h.1=c)then oB (idx b a) fun m=>(some m.2)else if fits (a+1)then d (c,b,(a+1))else none)else some ([]:List Int)) N (n,e,(0:Int)))
theorem Iy :ax 253 (aI [iX,aD,aD,ab] [.af cR] (fm (vS N))):=
 aB (al (QJ N) aA) func253 rfl N (ae (ae (.seq (ae (aR alW)) .no))) _
def ak2 :aw:=⟨.dead::aD::ab:: .box 3 0::ak 3 (ab::ab::ak 55 []),[(3,false,[.af cI,.af eU])]⟩
def aju :aw:=⟨.dead::aD::ab:: .box 3 0::ak 3 (ab::ab::ab::ak 54 []),[(3,false,[.af cI,.af eU])]⟩
def El (r:List bq) (w:List bJ) (B:ah) (t:Int):eH:=
 (iter (fun l (x,v,j,n,q,k)=>bif decide (n<(k.length:Int))then iter (fun m (f,d,e,a,c,h,b)=>oB (idx b a) fun A=>bif decide (c<(A.2.2.length:Int))then oB (idx b a) fun p=>(bif decide (p.1=f)then oB (idx b a) fun y=>(oB (idx y.2.2 c) fun u=>bif decide (u.1=d)then oB (idx b a) fun z=>(oB (idx z.2.2 c) fun o=>if fits (e+(o.2.length:Int))then if fits (c+1)then m (f,d,(e+(o.2.length:Int)),a,(c+1),h,b)else none else none)else if fits (c+1)then m (f,d,e,a,(c+1),h,b)else none)else if fits (a+1)then l (f,d,e,(a+1),h,b)else none)else if fits (a+1)then l (f,d,e,(a+1),h,b)else none) N (x,v,j,n,(0:Int),q,k)else some j) N (B,t,(0:Int),(0:Int),r,w))
theorem als :ax 255 (aI [iX,aD,ab] [ab] (dq (El N))):=
 aB aA func255 rfl N (ae (ae (.seq (ae (.block (.loop ak2 (ae (.seq (.block (ae (aR aju))) .no))))) .no))) _
def alJ :aw:=⟨.dead::aD:: .box 2 0:: .dead:: .dead::ab::ab::ak 43 [],[(2,false,[.af cI,.af eU])]⟩
def aj8 :aw:=⟨.dead::aD:: .box 2 0:: .dead:: .dead::ab::ab::ab::ak 42 [],[(2,false,[.af cI,.af eU])]⟩
def D6 (o:List bq) (p:List bJ) (v:ah):eH:=
 (iter (fun l (q,i,m,n,j)=>bif decide (m<(j.length:Int))then iter (fun t (e,c,a,d,f,b)=>oB (idx b a) fun u=>bif decide (d<(u.2.2.length:Int))then oB (idx b a) fun w=>(bif decide (w.1=e)then oB (idx b a) fun r=>(oB (idx r.2.2 d) fun k=>if fits (c+(k.2.length:Int))then if fits (d+1)then t (e,(c+(k.2.length:Int)),a,(d+1),f,b)else none else none)else if fits (a+1)then l (e,c,(a+1),f,b)else none)else if fits (a+1)then l (e,c,(a+1),f,b)else none) N (q,i,m,(0:Int),n,j)else some i) N (v,(0:Int),(0:Int),o,p))
theorem ajN :ax 256 (aI [iX,aD] [ab] (eI (D6 N))):=
 aB aA func256 rfl N (ae (ae (.seq (ae (.block (.loop alJ (ae (.seq (.block (ae (aR aj8))) .no))))) .no))) _
def alY :aw:=⟨ab::ab::ak 3 (ab::ak 13 []),[]⟩
def B6 (f:Int) (e:Int):eH:=
 (iter (fun d (a,c,b)=>bif decide ((0:Int)<a)then if fits (a*2)then bif decide ((a*2)<=c)then if fits (a*2)then if fits (b+1)then d ((a*2),c,(b+1))else none else none else(some b)else none else some b) N (f,e,(0:Int)))
theorem aiQ :ax 313 (aI [ab,ab] [ab] (cr (B6 N))):=
 aB aA func313 rfl N (ae (ae (.seq (aR alY) .no))) _
def aiG :aw:=⟨ab::ab::ak 15 [],[]⟩
def x7 (N:Nat):(D:Nat)->Int->Int->eH
 |0,_,_=>none
 |D+1,a,b=>
 meet (fun(g:Int×Int)=>
 match g with
 |(a2,a8)=>
 bif decide (a8=0)then
 some a2
 else
 if a8≠0 then
 oB (x7 N D a8 (a2.tmod a8)) fun r=>
 (some r)
 else none) fun J=>
 bif decide (a<0)then
 if fits (0-a)then J ((0-a),b)else none
 else
 J (a,b)
def Cb (N D:Nat):Model:=⟨⟨[ab,ab],[]⟩,⟨[ab],[]⟩,cr (x7 N D)⟩
theorem ai7 (N D:Nat) (a:ax 340 (Cb N D)):ax 340 (Cb N (D+1)):=
 aB (al a aA) func340 rfl N (ae (.meet aiG .no .no)) (Cb N (D+1))
theorem Qp (N:Nat):∀D,ax 340 (Cb N D)
 |0=>lg ⟨_,func340,by decide,by kernel_rfl⟩ _ (fun a=>rfl)
 |D+1=>ai7 N D (Qp N D)
def ajh :aw:=⟨ab::ab:: .dead:: .dead:: .box 4 0::ak 17 [],[(4,false,[ab,ab])]⟩
def Cf (e:Int) (b:Int):Option (Int×Int):=
 (meet (fun(h:Int×Int×Int×Int)=>match h with|(c,d,j,i)=>oB (x7 N N c d) fun a=>if a≠0 then if fits (c.tdiv a)then if a≠0 then if fits (d.tdiv a)then some ((c.tdiv a),(d.tdiv a))else none else none else none else none) fun f=>bif decide (b<0)then if fits (0-e)then if fits (0-b)then f ((0-e),(0-b),0,0)else none else none else f (e,b,0,0))
theorem ajO :ax 312 (aI [ab,ab] [l6] (cr (Cf N))):=
 aB (al (Qp N N) aA) func312 rfl N (ae (.meet ajh .no .no)) _
def ak3 :aw:=⟨ab:: .dead:: .dead::ab::ab::ak 5 (.box 10 0::ab::ak 21 []),[(10,false,[ab,ab])]⟩
def D5 (j:Int) (e:Int) (d:Int) (a:Int) (i:Int):Option (Int×Int):=
 (meet (fun(n:Int×Int×Int×Int×Int×Int)=>match n with|(b,l,m,f,p,o)=>oB (B6 N m l) fun c=>if fits (1+c)then if fits ((1+c)*22)then if fits (((1+c)*22)*b)then if fits (10*b)then if fits ((10*b)+3)then if fits (((10*b)+3)+f)then oB (Cf N (((1+c)*22)*b) (((10*b)+3)+f)) fun k=>(some (k.1,k.2))else none else none else none else none else none else none) fun h=>bif decide ((0:Int)<d)then if fits (e*a)then if fits ((e*a)*9)then if d≠0 then if fits (((e*a)*9).tdiv d)then h (j,a,i,(((e*a)*9).tdiv d),0,0)else none else none else none else none else h (j,a,i,1,0,0))
theorem al1 :ax 254 (aI [ab,ab,ab,ab,ab] [l6] (fm (D5 N))):=
 aB (al (aiQ N) (al (ajO N) aA)) func254 rfl N (ae (ae (.meet ak3 .no .no))) _
def vT (b:List bq) (c:List bJ) (d:ah) (h:ah) (f:Int):eH:=
 (oB (vS N b c d h f) fun e=>bif decide ((e.length:Int)=0)then some 0 else oB (El N b c d f) fun j=>oB (D6 N b c d) fun i=>oB (za N b c d h) fun k=>oB (D5 N (e.length:Int) j i (b.length:Int) (k.length:Int)) fun a=>if fits (a.1*1000)then if a.2≠0 then if fits ((a.1*1000).tdiv a.2)then some ((a.1*1000).tdiv a.2)else none else none else none)
theorem ID :ax 173 (aI [iX,aD,aD,ab] [ab] (fm (vT N))):=
 aB (al (Iy N) (al (als N) (al (ajN N) (al (QJ N) (al (al1 N) aA))))) func173 rfl N .no _
def Pk :aw:=⟨bl::aD::ak 3 (aD::ab::ak 18 []),[]⟩
def yj (o:List ah) (n:ah):Option (ah):=
 (iter (fun l (f,b,a,c)=>bif decide (c<(f.length:Int))then meet (fun(e:(List ah)×ah×ah×Int)=>match e with|(j,m,k,d)=>oB (idx j d) fun i=>if k.length+i.length<=9223372036854775807 then if fits (d+1)then l (j,m,(k++i),(d+1))else none else none) fun h=>(bif decide ((0:Int)<c)then if a.length+b.length<=9223372036854775807 then h (f,b,(a++b),c)else none else h (f,b,a,c))else some a) N (o,n,([]:ah),(0:Int)))
theorem Pl :ax 260 (aI [bl,aD] [aD] (cr (yj N))):=
 aB aA func260 rfl N (ae (ae (.seq (ae (.block (.loop Pk (ae (.seq (.block (.meet Pk .no .no)) .no))))) .no))) _
def adl :aw:=⟨ak 3 (ab:: .dead:: .box 5 0:: .box 6 0:: .dead:: .dead:: .own 600009 cR 72 true:: .own 600010 hr 114 true::ab::ak 65 []),[(5,false,[.af cI,.af eU]),(6,false,[ab,aD,bl,ab,ab,.af (.ar .q)])]⟩
def aec :aw:=⟨ak 3 (ab:: .dead:: .box 5 0:: .box 6 0:: .dead:: .dead:: .own 600009 cR 72 true:: .own 600010 hr 114 true::ab::ab:: .af cR:: .own 600014 aW 3 true::ab::ak 61 []),[(5,false,[.af cI,.af eU]),(6,false,[ab,aD,bl,ab,ab,.af (.ar .q)])]⟩
def CM (c:List ah) (c2:List b3) (s:List bq) (s2:List bJ) (q:Int) (H:ah) (B:List ah) (I:Int) (J:Int) (K:List aN) (id:Int):Option (Fj):=
 (oB (yj N B ([32]:ah)) fun r=>oB (q8 N c c2 r) fun L=>iter (fun go (oE,out,dk,i,C,F,M,G,O,t,u,v)=>bif decide (i<(dk.length:Int))then oB (idx dk i) fun e=>(oB (idx dk 0) fun x=>if fits (e.2-x.2)then if fits ((e.2-x.2)-i)then oB (idx dk i) fun P=>(oB (vS N C F G P.1 oE) fun Q=>iter (fun go2 (f,b,a,i2,shift,d,list,k,y,z,g,h,j,l,o,p)=>bif decide (k<(d.length:Int))then oB (idx d k) fun S=>(bif decide (shift<=S)then oB (idx d k) fun A=>(if fits (A-shift)then if room list.length ([(A-shift)]:List Int).length 8 then if fits (k+1)then go2 (f,b,a,i2,shift,d,(list++([(A-shift)]:List Int)),(k+1),y,z,g,h,j,l,o,p)else none else none else none)else if fits (k+1)then go2 (f,b,a,i2,shift,d,list,(k+1),y,z,g,h,j,l,o,p)else none)else if room b.length ([list]:List (List Int)).length 24 then if fits (i2+1)then go (f,(b++([list]:List (List Int))),a,(i2+1),y,z,g,h,j,l,o,p)else none else none) N (oE,out,dk,i,((e.2-x.2)-i),Q,([]:List Int),(0:Int),C,F,M,G,O,t,u,v))else none else none)else some out) N (id,([]:List (List Int)),L,(0:Int),s,s2,q,H,B,I,J,K))
theorem aeh :ax 258 (aI [fb,iX,.agg [ab,aD,bl,ab,ab,.af (.ar .q)],ab] [.own 1 cR 72 true] (um (CM N))):=
 aB (al (Pl N) (al (yc N) (al (Iy N) aA))) func258 rfl N (ae (ae (ae (.seq (ae (.block (.loop adl (ae (.seq (.block (ae (ae (ae (.seq (ae (aR aec)) .no))))) .no))))) .no)))) _
def adv :aw:=⟨.af (.ar cR)::ab::ab::ab::ab::ak 6 (ab::ak 46 []),[]⟩
def sZ (N:Nat):(D:Nat)->Fj->Int->Int->Int->Int->cx
 |0,_,_,_,_,_=>none
 |D+1,lists,k,last,start,f=>
 bif decide (k=(lists.length:Int))then
 if fits (last-start)then if fits ((lists.length:Int)-1)then if fits ((last-start)-((lists.length:Int)-1))then some (decide (((last-start)-((lists.length:Int)-1))<=f))else none else none else none
 else
 iter (fun go (g:Fj×Int×Int×Int×Int×Int)=>
 match g with
 |(a,h,c,b,d,i)=>
 oB (idx a h) fun e=>
 bif decide (i<(e.length:Int))then
 oB (idx a h) fun j=>
 (oB (idx j i) fun l=>
 bif decide (c<l)then
 if fits (h+1)then oB (idx a h) fun o=>
 (oB (idx o i) fun p=>
 oB (sZ N D a (h+1) p b d) fun r=>
 bif r then
 some true
 else
 if fits (i+1)then go (a,h,c,b,d,(i+1))else none)else none
 else
 if fits (i+1)then go (a,h,c,b,d,(i+1))else none)
 else
 some false) N (lists,k,last,start,f,0)
def CQ (N D:Nat):Model:=⟨⟨[.af (.ar cR),ab,ab,ab,ab],[]⟩,⟨[a7],[]⟩,fm (sZ N D)⟩
theorem aew (N D:Nat) (a:ax 314 (CQ N D)):ax 314 (CQ N (D+1)):=
 aB (al a aA) func314 rfl N (ae (ae (.seq (ae (aR adv)) .no))) (CQ N (D+1))
theorem RN (N:Nat):∀D,ax 314 (CQ N D)
 |0=>lg ⟨_,func314,by decide,by kernel_rfl⟩ _ (fun a=>rfl)
 |D+1=>aew N D (RN N D)
def ad0 :aw:=⟨.af (.ar cR)::ab::ak 3 (.own 600005 aW 3 true::ab::ak 56 []),[]⟩
def adH :aw:=⟨.af (.ar cR)::ab::ak 3 (.own 600005 aW 3 true:: .dead::ab::ak 55 []),[]⟩
def CI (z:List (List Int)) (y:Int):Option ((List Int)):=
 (iter (fun r (c,i,j,d)=>bif decide (d<(c.length:Int))then oB (idx c d) fun w=>(oB (yh N w) fun m=>bif !m then some ([]:List Int)else if fits (d+1)then r (c,i,j,(d+1))else none)else oB (hL N (c.length:Int) 1 6) fun p=>bif !p then some ([]:List Int)else oB (hL N i 0 5) fun t=>bif !t then some ([]:List Int)else iter (fun l (b,f,e,a)=>oB (idx b 0) fun n=>bif decide (a<(n.length:Int))then oB (idx b 0) fun u=>(oB (idx u a) fun q=>oB (idx b 0) fun v=>oB (idx v a) fun o=>oB (sZ N N b 1 q o f) fun A=>bif A then oB (idx b 0) fun x=>(oB (idx x a) fun k=>if room e.length ([k]:List Int).length 8 then if fits (a+1)then l (b,f,(e++([k]:List Int)),(a+1))else none else none)else if fits (a+1)then l (b,f,e,(a+1))else none)else some e) N (c,i,j,(0:Int))) N (z,y,([]:List Int),(0:Int)))
theorem adk :ax 259 (aI [.af (.ar cR),ab] [.own 1 aW 3 true] (cr (CI N))):=
 aB (al (Po N) (al (nx N) (al (RN N N) aA))) func259 rfl N (ae (ae (.seq (ae (aR ad0)) (ae (.seq (ae (aR adH)) .no))))) _
def ad6 :aw:=⟨ak 3 (ab:: .dead:: .box 5 0:: .box 6 0::ak 3 (ab::ab:: .own 600012 hr 114 true::ab::ak 41 [])),[(5,false,[.af cI,.af eU]),(6,false,[ab,aD,bl,ab,ab,.af (.ar .q)])]⟩
def ad7 :aw:=⟨ak 3 (ab:: .box 4 0:: .box 5 0:: .box 6 0::ak 3 (ab::ak 44 [])),[(4,false,[bl,.af dx]),(5,false,[.af cI,.af eU]),(6,false,[ab,aD,bl,ab,ab,.af (.ar .q)])]⟩
def CA (q:List ah) (n:List b3) (m:List bq) (p:List bJ) (j:Int) (d:ah) (i:List ah) (c:Int) (f:Int) (o:List aN) (e:Int):eH:=
 (oB (CM N q n m p j d i c f o e) fun r=>bif decide ((r.length:Int)=0)then some 0 else oB (CI N r c) fun A=>meet (fun(h:Int×Int×(List ah)×(List b3)×(List bq)×(List bJ)×Int×ah×(List ah)×Int×Int×(List aN))=>match h with|(T,P,H,E,Q,G,L,B,z,K,V,C)=>oB (yj N z ([32]:ah)) fun I=>oB (q8 N H E I) fun g=>iter (fun R (u,k,a,l,b,v,t,X,x,S,O,U,D)=>bif decide (b<(l.length:Int))then oB (idx l b) fun W=>(oB (vT N v t x W.1 u) fun y=>if fits (a+y)then if fits (b+1)then R (u,k,(a+y),l,(b+1),v,t,X,x,S,O,U,D)else none else none)else if fits (a*k)then some (a*k)else none) N (T,P,(0:Int),g,(0:Int),Q,G,L,B,z,K,V,C)) fun w=>bif decide ((3:Int)<A.length)then w (e,3,q,n,m,p,j,d,i,c,f,o)else w (e,(A.length:Int),q,n,m,p,j,d,i,c,f,o))
theorem ade :ax 175 (aI [fb,iX,.agg [ab,aD,bl,ab,ab,.af (.ar .q)],ab] [ab] (um (CA N))):=
 aB (al (aeh N) (al (adk N) (al (Pl N) (al (yc N) (al (ID N) aA))))) func175 rfl N (ae (ae (ae (ae (.meet ad7 .no (ae (ae (.seq (ae (aR ad6)) .no)))))))) _
def y8 (N:Nat) (b:Int) (a:Int):eH:=
 (bif decide (b<a)then some b else some a)
theorem aeJ :ax 315 (aI [ab,ab] [ab] (cr (y8 N))):=
 aB aA func315 rfl N .no _
def aep :aw:=⟨aD::aD::ak 3 (.ay 600005 aW 3 true::ab::ak 74 []),[]⟩
def aeE :aw:=⟨aD::aD::ak 3 (.ay 600005 aW 3 true:: .dead::ab::ak 73 []),[]⟩
def aeH :aw:=⟨aD::aD::ak 3 (.ay 600005 aW 3 true:: .dead::ab::ab::ab::ak 71 []),[]⟩
def adG :aw:=⟨aD::aD::ak 3 (.ay 600005 aW 3 true:: .dead::ab:: .dead::ab::ab::ak 70 []),[]⟩
def Ei (B:ah) (d:ah):eH:=
 (if fits ((d.length:Int)+1)then if((d.length:Int)+1)=((d.length:Int)+1)/\0<=((d.length:Int)+1)/\((d.length:Int)+1)*8<=140737488355328/\((d.length:Int)+1)<=140737488355328 then iter (fun H (v,p,k,c)=>bif decide (c<=(p.length:Int))then if 0<=c/\c<(k.length:Int)then oB (k[c.toNat]?) fun R=>(if fits (c+1)then H (v,p,(k.set c.toNat c),(c+1))else none)else none else iter (fun K (u,m,f,l)=>bif decide (l<(u.length:Int))then if 0<=(0:Int)/\(0:Int)<f.length then oB (f[(0:Int).toNat]?) fun D=>(if fits (l+1)then if 0<=(0:Int)/\(0:Int)<f.length then oB (f[(0:Int).toNat]?) fun Q=>(iter (fun x (j,i,q,h,o,n)=>bif decide (n<(i.length:Int))then meet (fun(e:Lg)=>match e with|(A,w,b,C,a,y)=>if fits (a+1)then if 0<=(a+1)/\(a+1)<(b.length:Int)then oB (b[(a+1).toNat]?) fun z=>(if fits (a+1)then if 0<=a/\a<(b.length:Int)then oB (b[a.toNat]?) fun O=>(if fits (a+1)then if 0<=(a+1)/\(a+1)<(b.length:Int)then oB (b[(a+1).toNat]?) fun E=>(oB (y8 N O E) fun r=>if fits (r+1)then oB (y8 N y (r+1)) fun P=>(if 0<=(a+1)/\(a+1)<(b.length:Int)then oB (b[(a+1).toNat]?) fun S=>(if fits (a+1)then x (A,w,(b.set (a+1).toNat P),C,z,(a+1))else none)else none)else none)else none else none)else none else none)else none else none) fun t=>(oB (idx j h) fun L=>oB (idx i n) fun G=>bif !decide ((L.toNat:Int)=(G.toNat:Int))then if fits (o+1)then t (j,i,q,h,n,(o+1))else none else t (j,i,q,h,n,o))else if fits (h+1)then K (j,i,q,(h+1))else none) N (u,m,(f.set (0:Int).toNat (l+1)),l,D,(0:Int)))else none else none)else none else if 0<=(m.length:Int)/\(m.length:Int)<(f.length:Int)then oB (f[(m.length:Int).toNat]?) fun I=>(some I)else none) N (v,p,k,(0:Int))) N (B,d,(List.replicate ((d.length:Int)+1).toNat 0),(0:Int))else none else none)
theorem adP :ax 261 (aI [aD,aD] [ab] (cr (Ei N))):=
 aB (al (aeJ N) aA) func261 rfl N (ae (ae (.seq (ae (aR aep)) (.seq (ae (.block (.loop aeE (ae (.seq (.block (ae (ae (ae (.block (.loop aeH (ae (.seq (.block (ae (.meet adG .no .no))) .no)))))))) .no))))) .no)))) _ (wr:=[14])
def adV :aw:=⟨.dead:: .dead::ab:: .box 3 0:: .box 4 0:: .dead:: .dead::ab::ab::ak 49 [],[(3,false,[.af cI,.af eU]),(4,false,[ab,aD,bl,ab,ab,.af (.ar .q)])]⟩
def CB (u:List bq) (x:List bJ) (q:Int) (t:ah) (B:List ah) (r:Int) (y:Int) (w:List aN) (v:Int):eH:=
 (iter (fun m (h,i,a,f,b,k,c,j,e,n,l)=>bif decide (a<(b.length:Int))then oB (idx b a) fun p=>(oB (idx j 0) fun A=>oB (Ei N p.2.1 A) fun d=>bif !decide (p.1=c)then if fits (a+1)then m (h,i,(a+1),f,b,k,c,j,e,n,l)else none else bif decide (e<d)then if fits (a+1)then m (h,i,(a+1),f,b,k,c,j,e,n,l)else none else oB (vT N f b c p.2.1 h) fun o=>if fits (3-d)then if fits (o*(3-d))then if 3≠0 then if fits ((o*(3-d)).tdiv 3)then bif decide (i<((o*(3-d)).tdiv 3))then if fits (a+1)then m (h,((o*(3-d)).tdiv 3),(a+1),f,b,k,c,j,e,n,l)else none else(if fits (a+1)then m (h,i,(a+1),f,b,k,c,j,e,n,l)else none)else none else none else none else none)else some i) N (v,(0:Int),(0:Int),u,x,q,t,B,r,y,w))
theorem aeb :ax 176 (aI [iX,.agg [ab,aD,bl,ab,ab,.af (.ar .q)],ab] [ab] (LM (CB N))):=
 aB (al (adP N) (al (ID N) aA)) func176 rfl N (ae (ae (.seq (ae (aR adV)) .no))) _
def oL (N:Nat):(D:Nat)->ah->ah->cx
 |0,_,_=>none
 |D+1,p,s=>
 bif decide (p=([]:ah))then
 some (decide (s=([]:ah)))
 else
 oB (idx p 0) fun c=>
 bif decide ((c.toNat:Int)=42)then
 oB (cut p 1 (p.length:Int)) fun y=>
 (oB (oL N D y s) fun r=>
 bif r then
 some true
 else
 bif !decide (s=([]:ah))then
 oB (cut s 1 (s.length:Int)) fun a=>
 (oB (oL N D p a) fun b=>
 some b)
 else
 some false)
 else
 bif !decide (s=([]:ah))then
 oB (idx p 0) fun c2=>
 (bif decide ((c2.toNat:Int)=63)then
 oB (cut p 1 (p.length:Int)) fun d=>
 (oB (cut s 1 (s.length:Int)) fun e=>
 oB (oL N D d e) fun f=>
 some f)
 else
 oB (idx p 0) fun c3=>
 oB (idx s 0) fun c4=>
 bif decide ((c3.toNat:Int)=(c4.toNat:Int))then
 oB (cut p 1 (p.length:Int)) fun g=>
 (oB (cut s 1 (s.length:Int)) fun h=>
 oB (oL N D g h) fun i=>
 some i)
 else
 some false)
 else
 some false
def CX (N D:Nat):Model:=⟨⟨[aD,aD],[]⟩,⟨[a7],[]⟩,cr (oL N D)⟩
theorem aeW (N D:Nat) (a:ax 262 (CX N D)):ax 262 (CX N (D+1)):=
 aB (al a aA) func262 rfl N .no (CX N (D+1))
theorem Ry (N:Nat):∀D,ax 262 (CX N D)
 |0=>lg ⟨_,func262,by decide,by kernel_rfl⟩ _ (fun a=>rfl)
 |D+1=>aeW N D (Ry N D)
def adJ :aw:=⟨.dead:: .dead::ab:: .box 3 0:: .box 4 0:: .dead:: .dead::ab::ak 38 [],[(3,false,[.af cI,.af eU]),(4,false,[ab,aD,bl,ab,ab,.af (.ar .q)])]⟩
def CK (r:List bq) (v:List bJ) (n:Int) (q:ah) (z:List ah) (p:Int) (w:Int) (u:List aN) (t:Int):cx:=
 (iter (fun k (e,a,d,b,i,c,f,h,l,j)=>bif decide (a<(b.length:Int))then oB (idx b a) fun m=>(bif decide (m.1=c)then oB (idx f 0) fun y=>(oB (oL N N y m.2.1) fun o=>bif o then oB (vS N d b c m.2.1 e) fun A=>(bif decide ((0:Int)<A.length)then some true else if fits (a+1)then k (e,(a+1),d,b,i,c,f,h,l,j)else none)else if fits (a+1)then k (e,(a+1),d,b,i,c,f,h,l,j)else none)else if fits (a+1)then k (e,(a+1),d,b,i,c,f,h,l,j)else none)else some false) N (t,(0:Int),r,v,n,q,z,p,w,u))
theorem aee :ax 178 (aI [iX,.agg [ab,aD,bl,ab,ab,.af (.ar .q)],ab] [a7] (LM (CK N))):=
 aB (al (Ry N N) (al (Iy N) aA)) func178 rfl N (ae (.seq (ae (aR adJ)) .no)) _
def I3 (N:Nat) (a:Bool):eH:=
 (bif a then some 100 else some 0)
theorem aej :ax 177 (aI [a7] [ab] (dY (I3 N))):=
 aB aA func177 rfl N .no _
def CT (i:Int) (n:cD) (e:dz) (f:ah):eH:=
 (iter (fun d (c,a,l,h,b)=>bif decide (a<(b.length:Int))then oB (idx b a) fun j=>(bif decide (j.1=c)then oB (idx b a) fun m=>(some m.2)else if fits (a+1)then d (c,(a+1),l,h,b)else none)else some (-1)) N (f,(0:Int),i,n,e))
theorem aeK :ax 179 (aI [jN,aD] [ab] (dq (CT N))):=
 aB aA func179 rfl N (ae (.seq (ae (aR Q4)) .no)) _
def aeP :aw:=⟨ak 3 (ab:: .box 4 0:: .box 5 0:: .box 6 0:: .dead:: .dead::ab::ab::ak 111 []),[(4,false,[bl,.af dx]),(5,false,[.af cI,.af eU]),(6,false,[ab,aD,bl,ab,ab,.af (.ar .q)])]⟩
def kk (N:Nat):(D:Nat)->(List ah)->(List b3)->(List bq)->(List bJ)->Int->ah->(List ah)->Int->Int->(List aN)->Int->eH
 |0,_,_,_,_,_,_,_,_,_,_,_=>none
 |D+1,c,c2,s,s2,q,h,p,d,t,f,id=>
 bif decide (q=1)then
 some 100
 else
 bif decide (q=2)then
 oB (idx p 0) fun e=>
 (oB (CG N c c2 e) fun r=>
 oB (vT N s s2 h r id) fun J=>
 some J)
 else
 bif decide (q=3)then
 oB (CA N c c2 s s2 q h p d t f id) fun K=>
 (some K)
 else
 bif decide (q=4)then
 oB (CB N s s2 q h p d t f id) fun L=>
 (some L)
 else
 bif decide (q=5)then
 oB (CK N s s2 q h p d t f id) fun M=>
 (oB (I3 N M) fun O=>
 some O)
 else
 bif decide (q=6)then
 oB (vs N s s2 id) fun y=>
 (oB (CT N y.1 y.2.1 y.2.2 h) fun P=>
 oB (hL N P d t) fun Q=>
 oB (I3 N Q) fun z=>
 some z)
 else
 bif decide (q=10)then
 oB (idx f 0) fun j=>
 (oB (kk N D c c2 s s2 j.kind j.field j.words j.lo j.hi j.kids id) fun u=>
 if fits (d*u)then some (d*u)else none)
 else
 bif decide (q=9)then
 oB (idx f 1) fun k=>
 (oB (kk N D c c2 s s2 k.kind k.field k.words k.lo k.hi k.kids id) fun A=>
 bif decide ((0:Int)<A)then
 some 0
 else
 oB (idx f 0) fun l=>
 oB (kk N D c c2 s s2 l.kind l.field l.words l.lo l.hi l.kids id) fun B=>
 some B)
 else
 iter (fun go (g:Int×Int×Int×(List ah)×(List b3)×(List bq)×(List bJ)×Int×ah×(List ah)×Int×Int×(List aN))=>
 match g with
 |(oE,sum,i,c3,c4,C,F,G,H,I,v,x,b)=>
 bif decide (i<(b.length:Int))then
 oB (idx b i) fun o=>
 (oB (kk N D c3 c4 C F o.kind o.field o.words o.lo o.hi o.kids oE) fun a=>
 bif decide (a=0)then
 bif decide (G=7)then
 some 0
 else
 (if fits (sum+a)then if fits (i+1)then go (oE,(sum+a),(i+1),c3,c4,C,F,G,H,I,v,x,b)else none else none)
 else
 if fits (sum+a)then if fits (i+1)then go (oE,(sum+a),(i+1),c3,c4,C,F,G,H,I,v,x,b)else none else none)
 else
 some sum) N (id,0,0,c,c2,s,s2,q,h,p,d,t,f)
def C1 (N D:Nat):Model:=⟨⟨[fb,iX,.agg [ab,aD,bl,ab,ab,.af (.ar .q)],ab],[]⟩,⟨[ab],[]⟩,um (kk N D)⟩
theorem adu (N D:Nat) (a:ax 112 (C1 N D)):ax 112 (C1 N (D+1)):=
 aB (al a (al (aeq N) (al (ID N) (al (ade N) (al (aeb N) (al (aee N) (al (aej N) (al (HM N) (al (aeK N) (al (nx N) aA)))))))))) func112 rfl N (ae (ae (ae (.seq (ae (aR aeP)) .no)))) (C1 N (D+1))
theorem Rr (N:Nat):∀D,ax 112 (C1 N D)
 |0=>lg ⟨_,func112,by decide,by kernel_rfl⟩ _ (fun a=>rfl)
 |D+1=>adu N D (Rr N D)
def D7 (N:Nat) (d:Int) (a:Int) (c:Int) (b:Int):cx:=
 (bif decide (b<a)then some true else bif decide (a=b)then some (decide (d<c))else some false)
theorem amX :ax 180 (aI [l6,l6] [a7] (dq (D7 N))):=
 aB aA func180 rfl N .no _
def ane :aw:=⟨.af e6:: .dead::ab:: .dead:: .box 4 0:: .dead:: .dead::ab::ak 37 [],[(4,false,[ab,ab])]⟩
def y0 (o:b1) (u:Int) (n:Int) (r:Int):Option (ep):=
 (iter (fun q (c,h,d,b,a)=>bif decide (d<(c.length:Int))then oB (idx c d) fun k=>(oB (D7 N k.1 k.2 b a) fun l=>bif l then if fits (d+1)then q (c,h,(d+1),b,a)else none else oB (cut c 0 d) fun e=>if room ([]:b1).length e.length 16 then if room (([]:b1)++e).length ([(b,a)]:b1).length 16 then oB (cut c d (c.length:Int)) fun i=>(if room ((([]:b1)++e)++([(b,a)]:b1)).length i.length 16 then bif decide (h<((((([]:b1)++e)++([(b,a)]:b1))++i).length:Int))then oB (cut (((([]:b1)++e)++([(b,a)]:b1))++i) 0 h) fun p=>(some p)else(some (((([]:b1)++e)++([(b,a)]:b1))++i))else none)else none else none)else oB (cut c 0 d) fun f=>if room ([]:b1).length f.length 16 then if room (([]:b1)++f).length ([(b,a)]:b1).length 16 then oB (cut c d (c.length:Int)) fun j=>(if room ((([]:b1)++f)++([(b,a)]:b1)).length j.length 16 then bif decide (h<((((([]:b1)++f)++([(b,a)]:b1))++j).length:Int))then oB (cut (((([]:b1)++f)++([(b,a)]:b1))++j) 0 h) fun m=>(some m)else(some (((([]:b1)++f)++([(b,a)]:b1))++j))else none)else none else none) N (o,r,(0:Int),u,n))
theorem anr :ax 113 (aI [.af e6,l6,ab] [qe] (dq (y0 N))):=
 aB (al (amX N) aA) func113 rfl N (ae (ae (.seq (aR ane) .no))) _ (wr:=[23,26,27,30,31,35,36,43])
def adZ :aw:=⟨ak 3 (ab:: .box 4 0:: .box 5 0:: .box 6 0:: .dead:: .dead:: .own 600009 ca 98 true::ab::ak 33 []),[(4,false,[bl,.af dx]),(5,false,[.af cI,.af eU]),(6,false,[ab,aD,bl,ab,ab,.af (.ar .q)])]⟩
def D8 (y:List ah) (v:List b3) (u:List bq) (x:List bJ) (q:Int) (t:ah) (E:List ah) (r:Int) (z:Int) (w:List aN) (B:Int):Option (ep):=
 (iter (fun p (j,k,a,n,h,b,i,e,c,m,d,l,f)=>bif decide (a<(b.length:Int))then oB (idx b a) fun A=>(oB (kk N N n h b i e c m d l f A.1) fun o=>bif decide ((0:Int)<o)then oB (idx b a) fun D=>(oB (y0 N k D.1 o j) fun G=>if fits (a+1)then p (j,G,(a+1),n,h,b,i,e,c,m,d,l,f)else none)else if fits (a+1)then p (j,k,(a+1),n,h,b,i,e,c,m,d,l,f)else none)else some k) N (B,([]:b1),(0:Int),y,v,u,x,q,t,E,r,z,w))
theorem adp :ax 52 (aI [fb,iX,.agg [ab,aD,bl,ab,ab,.af (.ar .q)],ab] [qe] (um (D8 N))):=
 aB (al (Rr N N) (al (anr N) aA)) func52 rfl N (ae (ae (.seq (ae (aR adZ)) .no))) _
def p6 (a:List ah) (b:List b3) (d:List cU) (c:Int) (f:ah) (j:List ah) (e:Int) (l:Int) (h:List aN) (k:Int):Option (ep):=
 (oB (rG N a b d) fun m=>bif !m then some ([]:b1)else oB (D4 N c f j e l h) fun p=>bif !p then some ([]:b1)else oB (hL N k 1 16) fun o=>bif !o then some ([]:b1)else oB (tt N a b d) fun q=>oB (rI N a b q) fun i=>oB (D8 N a b i.1 i.2 c f j e l h k) fun n=>some n)
theorem af1 :ax 13 (aI [lq,.agg [ab,aD,bl,ab,ab,.af (.ar .q)],ab] [qe] (uk (p6 N))):=
 aB (al (BL N) (al (adE N) (al (nx N) (al (HN N) (al (Cu N) (al (adp N) aA)))))) func13 rfl N .no _
def Bg (b:List ah) (f:List b3) (a:List cU):lJ:=
 (oB (mF N b f a) fun c=>bif !c then some ([]:List bq)else oB (sB N a) fun e=>oB (x8 N e) fun d=>some d)
theorem agX :ax 17 (aI [lq] [.own 1 cF 109 true] (eI (Bg N))):=
 aB (al (sN N) (al (HR N) (al (Q6 N) aA))) func17 rfl N .no _
def Bq (a:Int) (c:Int):cx:=
 (oB (dV N a 1 4) fun b=>bif b then if fits (a-1)then oB (dV N c 0 (a-1)) fun d=>(some d)else none else some false)
theorem ae7 :ax 65 (aI [ab,ab] [a7] (cr (Bq N))):=
 aB (al (hg N) aA) func65 rfl N .no _
def ae8 :aw:=⟨ak 3 (ab::ab::ab::ak 7 (.own 600013 ca 98 true::ak 16 (.own 600030 ca 98 true::ab::ab::ak 17 []))),[]⟩
def xP (y:List ah) (u:List b3) (t:List bq) (w:List bJ) (o:Int) (r:ah) (x:List ah) (q:Int) (z:Int) (v:List aN) (j:Int) (l:Int) (m:Int):Option (ep):=
 (oB (Bq N j l) fun p=>bif !p then some ([]:b1)else oB (dV N m 1 16) fun B=>bif !B then some ([]:b1)else oB (u5 N y u t w o r x q z v) fun n=>iter (fun k (b,i,e,c,d,h,a)=>bif decide (a<h)then oB (idx d a) fun f=>(if b≠0 then bif decide ((f.1.tmod b)=i)then if room c.length ([f]:b1).length 16 then if fits (a+1)then k (b,i,e,(c++([f]:b1)),d,h,(a+1))else none else none else(if fits (a+1)then k (b,i,e,c,d,h,(a+1))else none)else none)else oB (q1 N c e) fun C=>some C) N (j,l,m,([]:b1),n,(n.length:Int),(0:Int)))
theorem ae9 :ax 18 (aI [fb,iX,.agg [ab,aD,bl,ab,ab,.af (.ar .q)],ab,ab,ab] [qe] (LL (xP N))):=
 aB (al (ae7 N) (al (hg N) (al (HL N) (al (Cx N) aA)))) func18 rfl N (ae (ae (ae (.seq (ae (aR ae8)) .no)))) _
def afa :aw:=⟨ak 3 (ab::ak 5 (.own 600009 e6 46 true:: .own 600010 ca 98 true::ab::ak 32 [])),[]⟩
def xK (r:List ah) (m:List b3) (l:List bq) (p:List bJ) (h:Int) (k:ah) (q:List ah) (j:Int) (t:Int) (o:List aN) (f:Int):Option ((List ep)):=
 (oB (dV N f 1 16) fun i=>bif !i then some ([]:List ep)else oB (u5 N r m l p h k q j t o) fun w=>oB (q1 N w 16) fun v=>iter (fun n (b,e,c,a)=>bif decide (a<(c.length:Int))then if fits (a+b)then oB (cut c a (if(c.length:Int)<(a+b)then(c.length:Int)else a+b)) fun d=>(if room ([]:b1).length d.length 16 then if room e.length ([(([]:b1)++d)]:List ep).length 24 then if fits (a+b)then n (b,(e++([(([]:b1)++d)]:List ep)),c,(a+b))else none else none else none)else none else some e) N (f,([]:List ep),v,(0:Int)))
theorem afb :ax 19 (aI [fb,iX,.agg [ab,aD,bl,ab,ab,.af (.ar .q)],ab] [.own 1 e6 46 true] (um (xK N))):=
 aB (al (hg N) (al (HL N) (al (Cx N) aA))) func19 rfl N (ae (ae (ae (ae (.seq (ae (aR afa)) .no))))) _
def Bc (a:Int):Option (Int×Int×rW):=
 (oB (dV N a 1 5) fun b=>bif !b then some (0,0,([]:hG))else some (a,0,([]:hG)))
theorem acL :ax 21 (aI [ab] [ER] (dY (Bc N))):=
 aB (al (hg N) aA) func21 rfl N .no _
def Bp (N:Nat) (b:Int) (c:Int) (a:Int):cx:=
 (some (decide (b=a)))
theorem amZ :ax 141 (aI [l6,.ptr aW] [a7] (eI (Bp N))):=
 aB aA func141 rfl N .no _
def anb :aw:=⟨.af e6:: .aV 141 [.ptr aW]::ak 5 (ab::ab::ak 10 []),[]⟩
def vt (f:b1) (k:Int):eH:=
 (iter (fun h (c,b,d,a)=>bif decide (a<d)then oB (idx c a) fun e=>(oB (Bp N e.1 e.2 b) fun i=>bif i then some a else if fits (a+1)then h (c,b,d,(a+1))else none)else some (-1)) N (f,k,(f.length:Int),(0:Int)))
theorem ank :ax 209 (aI [.af e6,.aV 141 [.ptr aW]] [ab] (cr (vt N))):=
 aB (al (amZ N) aA) func209 rfl N (ae (.seq (ae (aR anb)) .no)) _
def C4 (b:b1) (c:Int):cx:=
 (oB (vt N b c) fun a=>some (decide ((0:Int)<=a)))
theorem anh :ax 140 (aI [.af e6,.aV 141 [.ptr aW]] [a7] (cr (C4 N))):=
 aB (al (ank N) aA) func140 rfl N .no _
def q2 (a:b1) (c:Int):cx:=
 (oB (C4 N a c) fun b=>some b)
theorem Rh :ax 73 (aI [.af e6,ab] [a7] (cr (q2 N))):=
 aB (al (anh N) aA) func73 rfl N .no _
def amU :aw:=⟨.af e6::ak 4 (.af e6::ab::ab::ak 39 []),[]⟩
def nw (e:b1):cx:=
 (iter (fun h (b,d,f,a)=>bif decide (a<f)then oB (idx d a) fun c=>(oB (dV N c.1 1 9999) fun j=>bif !j then some false else bif decide (c.2<1)then some false else oB (cut b 0 a) fun l=>oB (q2 N l c.1) fun n=>bif n then some false else bif decide ((0:Int)<a)then if fits (a-1)then oB (idx b (a-1)) fun i=>(oB (sC N i.1 i.2 c.1 c.2) fun m=>bif decide ((0:Int)<=m)then some false else if fits (a+1)then h (b,d,f,(a+1))else none)else none else if fits (a+1)then h (b,d,f,(a+1))else none)else some (decide ((b.length:Int)<=16))) N (e,e,(e.length:Int),(0:Int)))
theorem IJ :ax 72 (aI [.af e6] [a7] (dY (nw N))):=
 aB (al (hg N) (al (Rh N) (al (ra N) aA))) func72 rfl N (ae (.seq (ae (aR amU)) .no)) _
def ahg :aw:=⟨.dead::aD::ak 6 (.af ue::ab::ab::ak 10 []),[]⟩
def xF (k:Int) (l:Int) (e:hG) (j:ah):eH:=
 (iter (fun f (c,d,b,a)=>bif decide (a<b)then oB (idx d a) fun h=>(bif decide (h.1=c)then some a else if fits (a+1)then f (c,d,b,(a+1))else none)else some (-1)) N (j,e,(e.length:Int),(0:Int)))
theorem PY :ax 137 (aI [wj,aD] [ab] (dq (xF N))):=
 aB aA func137 rfl N (ae (.seq (ae (aR ahg)) .no)) _
def ag8 :aw:=⟨.dead:: .box 1 0::ak 22 (.af ue::ab::ab::ak 22 []),[(1,false,[ab,ab,.af ue])]⟩
def sx (c:Int) (e:Int) (b:hG):cx:=
 (oB (dV N c 1 5) fun m=>bif !m then some false else oB (dV N e 0 999999999) fun p=>bif !p then some false else bif decide (c<(b.length:Int))then some false else iter (fun l (k,h,a,j,f,i)=>bif decide (a<h)then oB (idx k a) fun d=>(bif decide (d.1=([]:ah))then some false else oB (nw N d.2) fun o=>bif !o then some false else oB (xF N j f i d.1) fun q=>bif !decide (q=a)then some false else if fits (a+1)then l (k,h,(a+1),j,f,i)else none)else some true) N (b,(b.length:Int),(0:Int),c,e,b))
theorem HT :ax 68 (aI [wj] [a7] (eI (sx N))):=
 aB (al (hg N) (al (IJ N) (al (PY N) aA))) func68 rfl N (ae (ae (.seq (ae (aR ag8)) .no))) _
def ag9 :aw:=⟨.dead:: .box 1 0::ak 5 (ab:: .dead:: .dead::a7::ak 82 []),[(1,false,[ab,aD,bl,ab,ab,.af (.ar .q)])]⟩
def aht :aw:=⟨ak 3 (aD::ak 75 (.af (.ar .q)::ab::ab::ak 11 [])),[]⟩
def ahk :aw:=⟨.dead:: .box 1 0:: .dead::aD::ak 89 [],[(1,false,[ab,aD,bl,ab,ab,.af (.ar .q)])]⟩
def u0 (N:Nat):(D:Nat)->Int->ah->(List ah)->Int->Int->(List aN)->Option (ah)
 |0,_,_,_,_,_,_=>none
 |D+1,q,t,u,v,x,y=>
 bif decide (q=1)then
 some ([97,108,108]:ah)
 else
 meet (fun(g:Int×Bool×Int×ah×(List ah)×Int×Int×(List aN))=>
 match g with
 |(t7,t10,d,a,i,c,f,j)=>
 bif t10 then
 if a.length+([58]:ah).length<=9223372036854775807 then
 oB (idx i 0) fun e=>
 (if(a++([58]:ah)).length+e.length<=9223372036854775807 then
 some ((a++([58]:ah))++e)
 else none)
 else none
 else
 bif decide (t7=3)then
 if a.length+([58]:ah).length<=9223372036854775807 then
 oB (yp N i ([43]:ah)) fun r=>
 (if(a++([58]:ah)).length+r.length<=9223372036854775807 then
 if((a++([58]:ah))++r).length+([126]:ah).length<=9223372036854775807 then
 oB (ke N c) fun z=>
 (if(((a++([58]:ah))++r)++([126]:ah)).length+z.length<=9223372036854775807 then
 some ((((a++([58]:ah))++r)++([126]:ah))++z)
 else none)
 else none
 else none)
 else none
 else
 bif decide (t7=4)then
 if a.length+([58]:ah).length<=9223372036854775807 then
 oB (idx i 0) fun l=>
 (if(a++([58]:ah)).length+l.length<=9223372036854775807 then
 if((a++([58]:ah))++l).length+([37]:ah).length<=9223372036854775807 then
 oB (ke N c) fun A=>
 (if(((a++([58]:ah))++l)++([37]:ah)).length+A.length<=9223372036854775807 then
 some ((((a++([58]:ah))++l)++([37]:ah))++A)
 else none)
 else none
 else none)
 else none
 else
 bif decide (t7=6)then
 if a.length+([61]:ah).length<=9223372036854775807 then
 oB (ke N c) fun o=>
 (if(a++([61]:ah)).length+o.length<=9223372036854775807 then
 if((a++([61]:ah))++o).length+([46,46]:ah).length<=9223372036854775807 then
 oB (ke N f) fun B=>
 (if(((a++([61]:ah))++o)++([46,46]:ah)).length+B.length<=9223372036854775807 then
 some ((((a++([61]:ah))++o)++([46,46]:ah))++B)
 else none)
 else none
 else none)
 else none
 else
 if([40]:ah).length+((ea aW .str nh d).getD ([]:ah)).length<=9223372036854775807 then
 meet (fun(g:ah×Int×ah×(List ah)×Int×Int×(List aN))=>
 match g with
 |(out,F,G,H,I,K,k)=>
 iter (fun go (g:ah×(List aN)×Int×Int)=>
 match g with
 |(b,t79,t80,t81)=>
 bif decide (t81<t80)then
 oB (idx t79 t81) fun h=>
 (oB (u0 N D h.kind h.field h.words h.lo h.hi h.kids) fun p=>
 if([32]:ah).length+p.length<=9223372036854775807 then
 if b.length+(([32]:ah)++p).length<=9223372036854775807 then
 if fits (t81+1)then go ((b++(([32]:ah)++p)),t79,t80,(t81+1))else none
 else none
 else none)
 else
 if b.length+([41]:ah).length<=9223372036854775807 then
 some (b++([41]:ah))
 else none) N (out,k,(k.length:Int),0)) fun C=>
 (bif decide (d=10)then
 oB (ke N c) fun s=>
 (if([32]:ah).length+s.length<=9223372036854775807 then
 if(([40]:ah)++((ea aW .str nh d).getD ([]:ah))).length+(([32]:ah)++s).length<=9223372036854775807 then
 C (((([40]:ah)++((ea aW .str nh d).getD ([]:ah)))++(([32]:ah)++s)),d,a,i,c,f,j)
 else none
 else none)
 else
 C ((([40]:ah)++((ea aW .str nh d).getD ([]:ah))),d,a,i,c,f,j))
 else none) fun J=>
 bif decide (q=2)then
 J (q,true,q,t,u,v,x,y)
 else
 J (q,(decide (q=5)),q,t,u,v,x,y)
def BO (N D:Nat):Model:=⟨⟨[.agg [ab,aD,bl,ab,ab,.af (.ar .q)]],[]⟩,⟨[aD],[]⟩,kv (u0 N D)⟩
theorem ahl (N D:Nat) (a:ax 138 (BO N D)):ax 138 (BO N (D+1)):=
 aB (al a (al (Pn N) (al (vb N) aA))) func138 rfl N (ae (.seq (ae (.block (ae (.cond .no (.meet ag9 .no .no))))) (ae (.meet ahk .no (.seq (ae (aR aht)) .no))))) (BO N (D+1))
theorem P1 (N:Nat):∀D,ax 138 (BO N D)
 |0=>lg ⟨_,func138,by decide,by kernel_rfl⟩ _ (fun a=>rfl)
 |D+1=>ahl N D (P1 N D)
def Bk (a:Int) (e:ah) (f:List ah) (d:Int) (c:Int) (b:List aN):Option (ah):=
 (oB (pK N a e f d c b) fun h=>bif !h then some ([]:ah)else oB (u0 N N a e f d c b) fun i=>some i)
theorem ahd :ax 69 (aI [.agg [ab,aD,bl,ab,ab,.af (.ar .q)]] [aD] (kv (Bk N))):=
 aB (al (xZ N) (al (P1 N N) aA)) func69 rfl N .no _
def ahf :aw:=⟨.dead::aD::ak 3 (.ay 600005 zJ 207 true::ak 4 (.af ue::ab::ab::ak 19 [])),[]⟩
def nv (l:Int) (m:Int) (i:hG) (k:ah):Option (rW):=
 (iter (fun h (d,c,f,e,a)=>bif decide (a<e)then oB (idx f a) fun b=>(bif !decide (b.1=d)then if room ([]:b1).length b.2.length 16 then if room c.length ([(b.1,(([]:b1)++b.2))]:hG).length 40 then if fits (a+1)then h (d,(c++([(b.1,(([]:b1)++b.2))]:hG)),f,e,(a+1))else none else none else none else if fits (a+1)then h (d,c,f,e,(a+1))else none)else some c) N (k,([]:hG),i,(i.length:Int),(0:Int)))
theorem P0 :ax 139 (aI [wj,aD] [.ay 1 zJ 207 true] (dq (nv N))):=
 aB aA func139 rfl N (ae (ae (.seq (ae (aR ahf)) .no))) _ (wr:=[8,28,29])
def xD (b:Int) (a:Int) (c:hG) (e:ah) (j:Int):Option (Int×Int×rW×ep×Bool):=
 (oB (sx N b a c) fun i=>bif !i then some (0,0,([]:hG),([]:b1),false)else oB (xF N b a c e) fun h=>bif !decide (j=a)then oB (nv N b a c ([]:ah)) fun k=>(some (b,a,k,([]:b1),false))else bif decide (h<0)then oB (nv N b a c ([]:ah)) fun l=>(some (b,a,l,([]:b1),false))else oB (idx c h) fun d=>if room ([]:b1).length d.2.length 16 then oB (nv N b a c e) fun f=>(if room ([(e,(([]:b1)++d.2))]:hG).length f.length 40 then if room ([]:b1).length d.2.length 16 then some (b,a,(([(e,(([]:b1)++d.2))]:hG)++f),(([]:b1)++d.2),true)else none else none)else none)
theorem ahe :ax 70 (aI [wj,aD,ab] [.bR [ER,.own 2 ca 98 true,a7]] (fm (xD N))):=
 aB (al (HT N) (al (PY N) (al (P0 N) aA))) func70 rfl N .no _
def ahv :aw:=⟨.dead:: .dead::ab:: .dead:: .box 4 0::ak 3 (.box 8 0:: .own 56 zJ 207 true::ak 52 []),[(4,false,[ab,ab,.af ue]),(8,false,[ab,ab,.aT])]⟩
def xE (a:Int) (b:Int) (c:hG) (e:ah) (f:Int) (d:b1):Option (Int×Int×rW):=
 (oB (sx N a b c) fun k=>bif !k then some (0,0,([]:hG))else bif decide (e=([]:ah))then oB (nv N a b c ([]:ah)) fun m=>(some (a,b,m))else oB (dV N f 0 999999999) fun t=>bif !t then oB (nv N a b c ([]:ah)) fun u=>(some (a,b,u))else oB (nw N d) fun p=>bif !p then oB (nv N a b c ([]:ah)) fun o=>(some (a,b,o))else if room ([]:b1).length d.length 16 then meet (fun(q:Int×rW×Int×Int×rW×Int×Int)=>match q with|(n,r,l,x,y,v,w)=>some (l,n,r)) fun j=>(bif decide (f=b)then oB (nv N a b c e) fun h=>(if fits (a-1)then oB (cut h 0 (if(a-1)<(h.length:Int)then a-1 else(h.length:Int))) fun i=>(if room ([(e,(([]:b1)++d))]:hG).length i.length 40 then j (f,(([(e,(([]:b1)++d))]:hG)++i),a,b,c,0,0)else none)else none)else j (f,([(e,(([]:b1)++d))]:hG),a,b,c,0,0))else none)
theorem ahr :ax 71 (aI [wj,aD,ab,.af e6] [ER] (kv (xE N))):=
 aB (al (HT N) (al (P0 N) (al (hg N) (al (IJ N) aA)))) func71 rfl N (ae (ae (ae (ae (.meet ahv .no .no))))) _ (wr:=[55])
def sy (k:Int) (f:Int) (m:hG) (n:List ah) (o:List b3) (p:List cU) (e:Int) (b:Int) (d:ah) (j:List ah) (c:Int) (l:Int) (i:List aN):Option (Int×Int×rW×ep×Bool):=
 (oB (sx N k f m) fun t=>bif !t then some (0,0,([]:hG),([]:b1),false)else oB (mF N n o p) fun v=>bif !v then some (0,0,([]:hG),([]:b1),false)else oB (pK N b d j c l i) fun u=>bif !u then some (0,0,([]:hG),([]:b1),false)else oB (dV N e 0 999999999) fun w=>bif !w then some (0,0,([]:hG),([]:b1),false)else oB (Bk N b d j c l i) fun r=>oB (xD N k f m r e) fun a=>bif a.2.2.2.2 then some (a.1,a.2.1,a.2.2.1,a.2.2.2.1,true)else oB (uZ N n o p b d j c l i 16) fun q=>oB (xE N k f m r e q) fun h=>some (h.1,h.2.1,h.2.2,q,false))
theorem ahc :ax 20 (aI [wj,lq,ab,.agg [ab,aD,bl,ab,ab,.af (.ar .q)]] [.bR [ER,.own 2 ca 98 true,a7]] (LL (sy N))):=
 aB (al (HT N) (al (sN N) (al (xZ N) (al (hg N) (al (ahd N) (al (ahe N) (al (PF N) (al (ahr N) aA)))))))) func20 rfl N .no _
def afB :aw:=⟨.dead::ab::ak 3 (.own 600005 ca 98 true::ak 14 (.af (.ar e6)::ab::ab::ak 26 [])),[]⟩
def afC :aw:=⟨.dead::ab::ak 3 (.own 600005 ca 98 true:: .dead:: .af e6::ak 12 (.af (.ar e6)::ab::ab::ak 7 (.af e6::ab::ab::ak 16 []))),[]⟩
def xQ (i:List ep) (o:Int):Option (ep):=
 (bif decide ((4:Int)<i.length)then some ([]:b1)else oB (dV N o 1 16) fun u=>bif !u then some ([]:b1)else iter (fun w (n,j,q,t,f)=>bif decide (f<t)then oB (idx q f) fun b=>(oB (nw N b) fun v=>bif !v then some ([]:b1)else iter (fun x (m,a,d,p,l,e,k,r,c)=>bif decide (c<r)then oB (idx k c) fun y=>(oB (q2 N a y.1) fun z=>bif z then some ([]:b1)else if fits (c+1)then x (m,a,d,p,l,e,k,r,(c+1))else none)else if room a.length d.length 16 then if fits (e+1)then w (m,(a++d),p,l,(e+1))else none else none) N (n,j,b,q,t,f,b,(b.length:Int),(0:Int)))else oB (q1 N j n) fun A=>some A) N (o,([]:b1),i,(i.length:Int),(0:Int)))
theorem afz :ax 22 (aI [.af (.ar e6),ab] [qe] (cr (xQ N))):=
 aB (al (hg N) (al (IJ N) (al (Rh N) (al (Cx N) aA)))) func22 rfl N (ae (ae (ae (.seq (ae (.block (.loop afB (ae (ae (.seq (.block (ae (ae (.seq (ae (aR afC)) .no)))) .no)))))) .no)))) _
def acS :aw:=⟨.dead::rr::ak 3 (.box 5 0:: .box 6 0::ab:: .own 600008 ca 98 true:: .box 9 0::ab:: .own 600011 e6 46 true::ab::ak 195 []),[(5,false,[.own 700500 .str 9 true,.own 700501 ij 158 true,.own 700502 jZ 80 false]),(6,false,[ab,aD,.own 700602 .str 9 true,ab,ab,.own 700605 .q 37 true]),(9,false,[.af cI,.own 700901 cY 119 false])]⟩
def ac3 :aw:=⟨ak 5 (.box 5 0:: .box 6 0::ab:: .own 600008 ca 98 true:: .dead:: .dead:: .own 600011 e6 46 true:: .dead:: .own 600013 ca 98 true:: .own 600014 e6 46 true::ab::ak 192 []),[(5,false,[.own 700500 .str 9 true,.own 700501 ij 158 true,.own 700502 jZ 80 false]),(6,false,[ab,aD,.own 700602 .str 9 true,ab,ab,.own 700605 .q 37 true])]⟩
def acJ :aw:=⟨ak 6 (.box 6 0::ab:: .own 600008 ca 98 true:: .dead:: .dead:: .own 600011 e6 46 true:: .dead:: .af e6::ak 3 (.af e6:: .dead:: .dead:: .af e6::a7:: .dead::ab:: .box 24 0::ab::ak 182 [])),[(6,false,[ab,aD,.own 700602 .str 9 true,ab,ab,.own 700605 .q 37 true]),(24,false,[.own 146001 .str 9 true,.own 146002 ij 158 true,.own 146003 jZ 80 false])]⟩
def ac4 :aw:=⟨ak 6 (.box 6 0::ab:: .own 600008 ca 98 true:: .dead:: .dead:: .own 600011 e6 46 true:: .dead:: .af e6::ak 3 (.af e6:: .dead:: .dead:: .own 132002 ca 98 true::a7:: .dead::ab:: .box 24 0::ab::ak 182 [])),[(6,false,[ab,aD,.own 700602 .str 9 true,ab,ab,.own 700605 .q 37 true]),(24,false,[.own 146001 .str 9 true,.own 146002 ij 158 true,.own 146003 jZ 80 false])]⟩
def acZ :aw:=⟨ak 6 (.box 6 0::ab:: .own 600008 ca 98 true:: .dead:: .dead:: .own 600011 e6 46 true:: .dead:: .af e6::ak 3 (.own 124002 ca 98 true:: .dead:: .dead:: .own 132002 ca 98 true::a7:: .dead::ab:: .box 24 0::ab::ak 182 [])),[(6,false,[ab,aD,.own 700602 .str 9 true,ab,ab,.own 700605 .q 37 true]),(24,false,[.own 146001 .str 9 true,.own 146002 ij 158 true,.own 146003 jZ 80 false])]⟩
def Df (code:List Int) (more:List Int):cx:=
 (bif decide ((1048576:Int)<code.length)then some true else bif decide ((1048576:Int)<more.length)then some true else oB (D0 N code) fun r=>oB (uZ N r.1 r.2.1 r.2.2.1 r.2.2.2.1 r.2.2.2.2.1 r.2.2.2.2.2.1 r.2.2.2.2.2.2.1 r.2.2.2.2.2.2.2.1 r.2.2.2.2.2.2.2.2.1 r.2.2.2.2.2.2.2.2.2) fun W=>oB (p6 N r.1 r.2.1 r.2.2.1 r.2.2.2.1 r.2.2.2.2.1 r.2.2.2.2.2.1 r.2.2.2.2.2.2.1 r.2.2.2.2.2.2.2.1 r.2.2.2.2.2.2.2.2.1 r.2.2.2.2.2.2.2.2.2) fun nK=>oB (lb N W nK) fun nL=>bif !nL then oB (p6 N r.1 r.2.1 r.2.2.1 r.2.2.2.1 r.2.2.2.2.1 r.2.2.2.2.2.1 r.2.2.2.2.2.2.1 r.2.2.2.2.2.2.2.1 r.2.2.2.2.2.2.2.2.1 r.2.2.2.2.2.2.2.2.2) fun o2=>(oB (lb N W o2) fun mQ=>some mQ)else oB (mF N r.1 r.2.1 r.2.2.1) fun o3=>bif !o3 then oB (p6 N r.1 r.2.1 r.2.2.1 r.2.2.2.1 r.2.2.2.2.1 r.2.2.2.2.2.1 r.2.2.2.2.2.2.1 r.2.2.2.2.2.2.2.1 r.2.2.2.2.2.2.2.2.1 r.2.2.2.2.2.2.2.2.2) fun nM=>(oB (lb N W nM) fun yS=>some yS)else oB (pK N r.2.2.2.1 r.2.2.2.2.1 r.2.2.2.2.2.1 r.2.2.2.2.2.2.1 r.2.2.2.2.2.2.2.1 r.2.2.2.2.2.2.2.2.1) fun vR=>bif !vR then oB (p6 N r.1 r.2.1 r.2.2.1 r.2.2.2.1 r.2.2.2.2.1 r.2.2.2.2.2.1 r.2.2.2.2.2.2.1 r.2.2.2.2.2.2.2.1 r.2.2.2.2.2.2.2.2.1 r.2.2.2.2.2.2.2.2.2) fun yR=>(oB (lb N W yR) fun apO=>some apO)else bif decide (r.2.2.2.2.2.2.2.2.2<1)then oB (p6 N r.1 r.2.1 r.2.2.1 r.2.2.2.1 r.2.2.2.2.1 r.2.2.2.2.2.1 r.2.2.2.2.2.2.1 r.2.2.2.2.2.2.2.1 r.2.2.2.2.2.2.2.2.1 r.2.2.2.2.2.2.2.2.2) fun apP=>(oB (lb N W apP) fun apQ=>some apQ)else oB (Bg N r.1 r.2.1 r.2.2.1) fun apR=>oB (q0 N r.1 r.2.1 apR) fun X=>if 4≠0 then if fits (1+((more.length:Int).tmod 4))then iter (fun go (j,most,list,many,lists,k,x,ia,E0,q,jH,mP,jI,l5,p2,s,s2)=>bif decide (k<many)then oB (xP N x ia s s2 q jH mP jI l5 p2 many k most) fun Y=>(if room lists.length ([Y]:List ep).length 24 then if fits (k+1)then go (j,most,list,many,(lists++([Y]:List ep)),(k+1),x,ia,E0,q,jH,mP,jI,l5,p2,s,s2)else none else none)else if 3≠0 then if fits (1+((j.length:Int).tmod 3))then oB (xK N x ia s s2 q jH mP jI l5 p2 (1+((j.length:Int).tmod 3))) fun apS=>(iter (fun go2 (a,l,c,all,o,i,Z,rM,wq,o0,tk,yP,A,B,C)=>bif decide (i<(o.length:Int))then oB (idx o i) fun e=>(if room all.length e.length 16 then if fits (i+1)then go2 (a,l,c,(all++e),o,(i+1),Z,rM,wq,o0,tk,yP,A,B,C)else none else none)else oB (Bc N 1) fun T=>oB (sy N T.1 T.2.1 T.2.2 Z rM wq 0 o0 tk yP A B C) fun F=>oB (sy N F.1 F.2.1 F.2.2.1 Z rM wq 0 o0 tk yP A B C) fun L=>oB (xH N ([]:cD) Z rM wq (-1)) fun U=>oB (xJ N Z rM U.1) fun h=>meet (fun(g:Fi)=>match g with|(d,G,t,Q,first,kept,H,n,m,Tj,Tk,Tl,Tm,Tn,To,VM,VN,VO)=>meet (fun(g:Fi)=>match g with|(f,I,u,S,v,p,z,yC,m2,Tp,Tq,Tr,Ts,Tt,Tu,VP,VQ,VR)=>meet (fun(g:Fi)=>match g with|(K,b,M,Wn,O,V,P,aoy,m3,apE,apF,apG,apH,apI,apJ,asf,asg,ash)=>oB (xQ N M K) fun apT=>oB (lb N apT b) fun apU=>bif apU then oB (lb N Wn b) fun apV=>(bif apV then oB (lb N O b) fun apW=>(bif apW then bif P then oB (lb N V b) fun apX=>(bif apX then bif decide (aoy=1)then bif decide (m3=1)then oB (uZ N asf asg ash apE apF apG apH apI apJ K) fun apY=>(oB (lb N apY b) fun apZ=>some apZ)else(some false)else(some false)else some false)else(some false)else some false)else some false)else some false) fun zF=>bif decide (f<(p.length:Int))then oB (cut p 0 f) fun asj=>(zF (f,I,u,S,v,asj,z,yC,m2,Tp,Tq,Tr,Ts,Tt,Tu,VP,VQ,VR))else zF (f,I,u,S,v,p,z,yC,m2,Tp,Tq,Tr,Ts,Tt,Tu,VP,VQ,VR)) fun qx=>bif decide (d<(first.length:Int))then oB (cut first 0 d) fun asi=>(qx (d,G,t,Q,asi,kept,H,n,m,Tj,Tk,Tl,Tm,Tn,To,VM,VN,VO))else qx (d,G,t,Q,first,kept,H,n,m,Tj,Tk,Tl,Tm,Tn,To,VM,VN,VO)) fun J=>bif decide (a<(all.length:Int))then oB (cut all 0 a) fun y=>(J (a,l,c,y,F.2.2.2.1,L.2.2.2.1,L.2.2.2.2,U.2,h.2.2.2,o0,tk,yP,A,B,C,h.1,h.2.1,h.2.2.1))else J (a,l,c,all,F.2.2.2.1,L.2.2.2.1,L.2.2.2.2,U.2,h.2.2.2,o0,tk,yP,A,B,C,h.1,h.2.1,h.2.2.1)) N (most,list,lists,([]:b1),apS,(0:Int),x,ia,E0,q,jH,mP,jI,l5,p2))else none else none) N (more,r.2.2.2.2.2.2.2.2.2,W,(1+((more.length:Int).tmod 4)),([]:List ep),(0:Int),r.1,r.2.1,r.2.2.1,r.2.2.2.1,r.2.2.2.2.1,r.2.2.2.2.2.1,r.2.2.2.2.2.2.1,r.2.2.2.2.2.2.2.1,r.2.2.2.2.2.2.2.2.1,X.1,X.2)else none else none)
def O4 (N:Nat):Model:=⟨⟨[rr,rr],[]⟩,⟨[a7],[]⟩,cr (Df N)⟩
theorem acX :ax 4 (O4 N):=
 aB (al (ag0 N) (al (PF N) (al (af1 N) (al (anc N) (al (sN N) (al (xZ N) (al (agX N) (al (Cv N) (al (ae9 N) (al (afb N) (al (acL N) (al (ahc N) (al (abK N) (al (abh N) (al (afz N) aA))))))))))))))) func4 rfl N (ae (ae (ae (ae (ae (ae (ae (ae (.seq (ae (aR acS)) (ae (ae (.seq (ae (aR ac3)) (ae (ae (ae (ae (.meet acZ .no (.meet ac4 .no (.meet acJ .no .no))))))))))))))))))) (O4 N)
end Go.Proofs.YtnkagklajgimlaaGreatDoor
