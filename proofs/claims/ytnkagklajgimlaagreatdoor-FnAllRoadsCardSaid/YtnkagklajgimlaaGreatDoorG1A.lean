
import Derived.Test.YtnkagklajgimlaaGreatDoorSA
import Derived.Test.YtnkagklajgimlaaGreatDoorSC
import Derived.Test.YtnkagklajgimlaaGreatDoorSJ
import Derived.Test.YtnkagklajgimlaaGreatDoorSN
import Derived.Test.YtnkagklajgimlaaGreatDoorSP
set_option linter.unusedVariables false
set_option linter.unusedSimpArgs false
namespace Go.Proofs.YtnkagklajgimlaaGreatDoor
open Go.RowKit Go.Proofs.Tryz
variable (N : Nat)
open Option renaming bind -> oB
set_option maxRecDepth 1000000
abbrev bq :Type:=Int×(List ((List UInt8)×(List UInt8)))×(List ((List UInt8)×Int))
abbrev ah :Type:=List UInt8
abbrev bJ :Type:=ah×ah×(List (Int×(List Int)))
abbrev cU :Type:=((List bq)×(List bJ))×(List Int)
abbrev b3 :Type:=(List ah)×ah
abbrev ep :Type:=List (Int×Int)
abbrev b1 :Type:=List (Int×Int)
abbrev c6 :Type:=List (Int×(List Int))
abbrev gd :Type:=List (ah×ah)
abbrev cD :Type:=List (ah×ah)
abbrev na :Type:=List (ah×Int)
abbrev cx :Type:=Option (Bool)
abbrev dz :Type:=List (ah×Int)
abbrev kt :Type:=ah×Int×Int×Int
abbrev eH :Type:=Option (Int)
abbrev Fi :Type:=Int×ep×(List ep)×ep×ep×ep×Bool×Int×Int×Int×ah×(List ah)×Int×Int×(List aN)×(List ah)×(List b3)×(List cU)
abbrev zM :Type:=((List ah)×(List b3))×(List bq)×(List bJ)
abbrev zN :Type:=List (Int×(List Int))
abbrev hG :Type:=List (ah×ep)
abbrev wN :Type:=Option ((List ah)×(List b3)×(List cU)×Bool)
abbrev Fj :Type:=List (List Int)
abbrev lJ :Type:=Option ((List bq))
abbrev rW :Type:=List (ah×ep)
abbrev Lg :Type:=ah×ah×(List Int)×Int×Int×Int
abbrev Lh :Type:=Int×Int×ah×(List ah)×Int×Int×(List aN)×Bool×Int×Int×Int×Int×Bool×Int×Int
abbrev aI (a r:List cc) (f:gp (aw.ft ⟨a,[]⟩)->Option (gp (aw.ft ⟨r,[]⟩))):Model:=⟨⟨a,[]⟩,⟨r,[]⟩,f⟩
abbrev ax :=ig Tryz.prog
theorem aB {l:List (Nat×Model)} (i:pM Tryz.prog l) {f:FuncId} {fn:Func} {c:Code} (j:Tryz.prog.funcs[f]? =some fn) (b:fn.body=some c) (N:Nat) (h:Hint) (m:Model) (wr rs dw:List Nat:=[])
  (d:(fn.name== "runtime.NumGoroutine")=false:=by kernel_rfl) (e:m.arg.names.all (BZ l wr rs dw).res=true:=by kernel_rfl) (hlen:Nat.ble m.arg.vals.length fn.ntmps=true:=by kernel_rfl)
  (g:∀a,m.run a=Kx N (BZ l wr rs dw) yG fn c h m.arg m.ret a:=by intro a;kernel_rfl):ig Tryz.prog f m:=aov (E:=BZ l wr rs dw) (al7 i wr rs dw) j d b N h m e hlen g
theorem al {k:Nat} {m:Model} {l:List (Nat×Model)} (h:ig Tryz.prog k m) (a:pM Tryz.prog l):pM Tryz.prog ((k,m)::l):=alL h a
abbrev ab :cc:=.af (.int .i64)
abbrev aD :cc:=.af .str
abbrev a7 :cc:=.af .bool
abbrev aW :aJ:=.int .i64
abbrev dY {α ρ:Type} (f:α->ρ) (a:α):ρ:=f a
abbrev cr {b d ρ:Type} (f:b->d->ρ) (a:b×d):ρ:=f a.1 a.2
abbrev eI {b d e ρ:Type} (f:b->d->e->ρ) (a:b×d×e):ρ:=f a.1 a.2.1 a.2.2
abbrev dq {b d e g ρ:Type} (f:b->d->e->g->ρ) (a:b×d×e×g):ρ:=f a.1 a.2.1 a.2.2.1 a.2.2.2
abbrev fm {b d e g h ρ:Type} (f:b->d->e->g->h->ρ) (a:b×d×e×g×h):ρ:=f a.1 a.2.1 a.2.2.1 a.2.2.2.1 a.2.2.2.2
abbrev kv {b d e g h i ρ:Type} (f:b->d->e->g->h->i->ρ) (a:b×d×e×g×h×i):ρ:=f a.1 a.2.1 a.2.2.1 a.2.2.2.1 a.2.2.2.2.1 a.2.2.2.2.2
abbrev FB {b d e g h i j ρ:Type} (f:b->d->e->g->h->i->j->ρ) (a:b×d×e×g×h×i×j):ρ:=f a.1 a.2.1 a.2.2.1 a.2.2.2.1 a.2.2.2.2.1 a.2.2.2.2.2.1 a.2.2.2.2.2.2
abbrev LM {b d e g h i j k l ρ:Type} (f:b->d->e->g->h->i->j->k->l->ρ) (a:b×d×e×g×h×i×j×k×l):ρ:=f a.1 a.2.1 a.2.2.1 a.2.2.2.1 a.2.2.2.2.1 a.2.2.2.2.2.1 a.2.2.2.2.2.2.1 a.2.2.2.2.2.2.2.1 a.2.2.2.2.2.2.2.2
abbrev uk {b d e g h i j k l o ρ:Type} (f:b->d->e->g->h->i->j->k->l->o->ρ) (a:b×d×e×g×h×i×j×k×l×o):ρ:=f a.1 a.2.1 a.2.2.1 a.2.2.2.1 a.2.2.2.2.1 a.2.2.2.2.2.1 a.2.2.2.2.2.2.1 a.2.2.2.2.2.2.2.1 a.2.2.2.2.2.2.2.2.1 a.2.2.2.2.2.2.2.2.2
abbrev um {d e g h i j k l o p b ρ:Type} (f:d->e->g->h->i->j->k->l->o->p->b->ρ) (a:d×e×g×h×i×j×k×l×o×p×b):ρ:=f a.1 a.2.1 a.2.2.1 a.2.2.2.1 a.2.2.2.2.1 a.2.2.2.2.2.1 a.2.2.2.2.2.2.1 a.2.2.2.2.2.2.2.1 a.2.2.2.2.2.2.2.2.1 a.2.2.2.2.2.2.2.2.2.1 a.2.2.2.2.2.2.2.2.2.2
abbrev LL {g h i j k l o p r s b d e ρ:Type} (f:g->h->i->j->k->l->o->p->r->s->b->d->e->ρ) (a:g×h×i×j×k×l×o×p×r×s×b×d×e):ρ:=f a.1 a.2.1 a.2.2.1 a.2.2.2.1 a.2.2.2.2.1 a.2.2.2.2.2.1 a.2.2.2.2.2.2.1 a.2.2.2.2.2.2.2.1 a.2.2.2.2.2.2.2.2.1 a.2.2.2.2.2.2.2.2.2.1 a.2.2.2.2.2.2.2.2.2.2.1 a.2.2.2.2.2.2.2.2.2.2.2.1 a.2.2.2.2.2.2.2.2.2.2.2.2
def ak :Nat->List cc->List cc
 |0,l=>l
 |n+1,l=>.dead::ak n l
abbrev cR :aJ:=.ar aW
abbrev cM :aJ:=.pair .str .str
abbrev fg :aJ:=.ar (.pair .str .str)
abbrev ij :aJ:=.pair (.ar .str) .str
abbrev hr :aJ:=.pair .str aW
abbrev dx :aJ:=.ar (.pair (.ar .str) .str)
abbrev gb :aJ:=.ar (.pair .str aW)
abbrev ca :aJ:=.pair aW aW
abbrev e6 :aJ:=.ar (.pair aW aW)
abbrev zK :aJ:=.pair aW (.ar aW)
abbrev lI :aJ:=.ar (.pair aW (.ar aW))
abbrev zJ :aJ:=.pair .str (.ar (.pair aW aW))
abbrev ue :aJ:=.ar (.pair .str (.ar (.pair aW aW)))
abbrev pq :aJ:=.pair .str (.pair aW (.pair aW aW))
abbrev cY :aJ:=.pair .str (.pair .str (.ar (.pair aW (.ar aW))))
abbrev eU :aJ:=.ar (.pair .str (.pair .str (.ar (.pair aW (.ar aW)))))
abbrev cF :aJ:=.pair aW (.pair (.ar (.pair .str .str)) (.ar (.pair .str aW)))
abbrev cI :aJ:=.ar (.pair aW (.pair (.ar (.pair .str .str)) (.ar (.pair .str aW))))
abbrev zL :aJ:=.pair (.ar (.pair aW (.pair (.ar (.pair .str .str)) (.ar (.pair .str aW))))) (.ar (.pair .str (.pair .str (.ar (.pair aW (.ar aW))))))
abbrev jZ :aJ:=.pair (.pair (.ar (.pair aW (.pair (.ar (.pair .str .str)) (.ar (.pair .str aW))))) (.ar (.pair .str (.pair .str (.ar (.pair aW (.ar aW))))))) (.ar aW)
abbrev jw :aJ:=.ar (.pair (.pair (.ar (.pair aW (.pair (.ar (.pair .str .str)) (.ar (.pair .str aW))))) (.ar (.pair .str (.pair .str (.ar (.pair aW (.ar aW))))))) (.ar aW))
abbrev n7 :aJ:=.pair (.pair (.ar .str) (.ar (.pair (.ar .str) .str))) (.pair (.ar (.pair aW (.pair (.ar (.pair .str .str)) (.ar (.pair .str aW))))) (.ar (.pair .str (.pair .str (.ar (.pair aW (.ar aW)))))))
abbrev bl :cc:=.af (.ar .str)
abbrev rr :cc:=.af (.ar (.int .u8))
abbrev kV :Nat×Bool×List cc:=(900000,false,[rr,ab])
abbrev mo (a r:List cc) (f:gp (aw.ft ⟨.box 900000 0::a,[kV]⟩)->Option (gp (aw.ft ⟨r,[kV]⟩))):Model:=⟨⟨.box 900000 0::a,[kV]⟩,⟨r,[kV]⟩,f⟩
abbrev ae (h:Hint):Hint:=.seq .no h
abbrev aR (s:aw):Hint:=.block (.loop s .no)
abbrev fb :cc:=.agg [bl,.af dx]
abbrev jN :cc:=.agg [ab,.af fg,.af gb]
abbrev iX :cc:=.agg [.af cI,.af eU]
abbrev lq :cc:=.agg [bl,.af dx,.af jw]
abbrev zo :cc:=.agg [.own 1 .str 9 true,.own 2 ij 158 true,.own 3 jZ 80 false]
abbrev EU :cc:=.agg [ab,.own 1 cM 110 true,.own 2 hr 221 true]
abbrev nU :cc:=.own 1 .str 9 true
abbrev zp :cc:=.agg [bl,.af dx,.own 1 jZ 80 false]
abbrev qe :cc:=.own 1 ca 98 true
abbrev tH :cc:=.agg [aD,aD,.af lI]
abbrev l6 :cc:=.agg [ab,ab]
abbrev ER :cc:=.agg [ab,ab,.own 1 zJ 207 true]
abbrev wj :cc:=.agg [ab,ab,.af ue]
abbrev fK :cc:=.bR []
def y5 (N:Nat) (a:List Int):Option ((List Int)×Int):=
 (bif decide ((2000:Int)<a.length)then oB (cut a 0 2000) fun b=>(some (b,0))else some (a,0))
theorem amu :ax 23 ⟨⟨[rr],[]⟩,⟨[.box 10 0],[(10,false,[rr,ab])]⟩,dY (y5 N)⟩:=
 aB aA func23 rfl N .no _
def fj (N:Nat) (e:Int) (b:List Int) (a:Int):Option (Int×(List Int)×Int):=
 (if fits (a+1)then bif decide (e<1)then some (0,b,(a+1))else(bif decide ((b.length:Int)=0)then some (0,b,(a+1))else if fits ((a+1)-1)then bif decide (((a+1)-1)<(b.length:Int))then oB (idx b ((a+1)-1)) fun f=>(if e≠0 then some (((IntKind.i64.wrap f).tmod e),b,(a+1))else none)else(if(b.length:Int)≠0 then oB (idx b (((a+1)-1).tmod (b.length:Int))) fun c=>(if fits ((IntKind.i64.wrap c)*131)then if fits (((a+1)-1)*7)then if fits ((((a+1)-1)*7)+3)then if(b.length:Int)≠0 then oB (idx b (((((a+1)-1)*7)+3).tmod (b.length:Int))) fun d=>(if fits ((IntKind.i64.wrap d)*1117)then if fits (((IntKind.i64.wrap c)*131)+((IntKind.i64.wrap d)*1117))then if fits (((a+1)-1)*29)then if fits ((((IntKind.i64.wrap c)*131)+((IntKind.i64.wrap d)*1117))+(((a+1)-1)*29))then if(b.length:Int)≠0 then if fits (((a+1)-1).tdiv (b.length:Int))then if fits ((((a+1)-1).tdiv (b.length:Int))*53)then if fits (((((IntKind.i64.wrap c)*131)+((IntKind.i64.wrap d)*1117))+(((a+1)-1)*29))+((((a+1)-1).tdiv (b.length:Int))*53))then if 64≠0 then if fits ((((((IntKind.i64.wrap c)*131)+((IntKind.i64.wrap d)*1117))+(((a+1)-1)*29))+((((a+1)-1).tdiv (b.length:Int))*53)).tdiv 64)then if e≠0 then some (((ey .xor .i64 (((((IntKind.i64.wrap c)*131)+((IntKind.i64.wrap d)*1117))+(((a+1)-1)*29))+((((a+1)-1).tdiv (b.length:Int))*53)) ((((((IntKind.i64.wrap c)*131)+((IntKind.i64.wrap d)*1117))+(((a+1)-1)*29))+((((a+1)-1).tdiv (b.length:Int))*53)).tdiv 64)).tmod e),b,(a+1))else none else none else none else none else none else none else none else none else none else none else none)else none else none else none else none)else none)else none)else none)
theorem oK :ax 75 (mo [ab] [ab] (eI (fj N))):=
 aB aA func75 rfl N .no _ (rs:=[900000])
def amr :aw:=⟨.box 900000 0:: .dead:: .box 2 0:: .box 3 0::ak 30 [],[(2,false,[.aT,.aT]),(3,false,[.own 13 .str 9 true,.aT]),kV]⟩
def amy :aw:=⟨.box 900000 0:: .dead:: .box 2 0:: .box 3 0::ak 30 [],[(2,false,[.aT,.aT]),(3,false,[.own 8 .str 9 true,.aT]),kV]⟩
def Ed (n:List Int) (i:Int):Option ((List ah)×(List b3)×(List Int)×Int):=
 (meet (fun(e:(List ah)×(List Int)×Int)=>match e with|(m,o,k)=>meet (fun(e:(List ah)×(List Int)×Int)=>match e with|(d,j,l)=>oB (fj N 4 j l) fun a=>bif decide (a.1=0)then some (d,([(([([110,101,119]:ah),([121,111,114,107]:ah)]:List ah),([110,121]:ah))]:List b3),a.2.1,a.2.2)else bif decide (a.1=1)then some (d,([(([([98,105,103]:ah)]:List ah),([108,97,114,103]:ah)),(([([98,105,103]:ah),([114,101,100]:ah),([102,111,120]:ah)]:List ah),([102,111,120]:ah)),(([([110,101,119]:ah),([121,111,114,107]:ah)]:List ah),([110,121]:ah))]:List b3),a.2.1,a.2.2)else some (d,([]:List b3),a.2.1,a.2.2)) fun h=>oB (fj N 4 o k) fun c=>bif decide (c.1=0)then h (([([100,111,103]:ah),([116,104,101]:ah)]:List ah),c.2.1,c.2.2)else h (m,c.2.1,c.2.2)) fun f=>oB (fj N 3 n i) fun b=>bif decide ((0:Int)<b.1)then f (([([116,104,101]:ah)]:List ah),b.2.1,b.2.2)else f (([]:List ah),b.2.1,b.2.2))
theorem amG :ax 147 (mo [] [.agg [nU,.own 2 ij 158 true]] (cr (Ed N))):=
 aB (al (oK N) aA) func147 rfl N (ae (ae (.meet amy .no (.meet amr .no .no)))) _ (rs:=[900000])
def lX (N:Nat) (a:Int):eH:=
 (bif decide ((65:Int)<=a)then bif decide (a<=90)then some (IntKind.u8.wrap (a+32))else(bif decide ((97:Int)<=a)then bif decide (a<=122)then some a else(bif decide ((48:Int)<=a)then bif decide (a<=57)then some a else(some 0)else some 0)else bif decide ((48:Int)<=a)then bif decide (a<=57)then some a else(some 0)else some 0)else bif decide ((97:Int)<=a)then bif decide (a<=122)then some a else(bif decide ((48:Int)<=a)then bif decide (a<=57)then some a else(some 0)else some 0)else bif decide ((48:Int)<=a)then bif decide (a<=57)then some a else(some 0)else some 0)
theorem Qy :ax 156 (aI [.af (.int .u8)] [.af (.int .u8)] (dY (lX N))):=
 aB aA func156 rfl N .no _
def hL (N:Nat) (a:Int) (b:Int) (c:Int):cx:=
 (bif decide (b<=a)then some (decide (a<=c))else some false)
theorem nx :ax 51 (aI [ab,ab,ab] [a7] (eI (hL N))):=
 aB aA func51 rfl N .no _
def alg :aw:=⟨aD:: .dead:: .dead::ab::ak 23 [],[]⟩
def iO (h:ah):cx:=
 (iter (fun c (a,b)=>bif decide (b<(a.length:Int))then oB (idx a b) fun e=>(oB (lX N (e.toNat:Int)) fun d=>oB (idx a b) fun i=>bif !decide (d=(i.toNat:Int))then some false else oB (idx a b) fun j=>bif decide ((j.toNat:Int)=0)then some false else if fits (b+1)then c (a,(b+1))else none)else oB (hL N (a.length:Int) 1 12) fun k=>some k) N (h,(0:Int)))
theorem vm :ax 88 (aI [aD] [a7] (dY (iO N))):=
 aB (al (Qy N) (al (nx N) aA)) func88 rfl N (ae (.seq (ae (aR alg)) .no)) _
def Ii (N:Nat):Option ((List ah)):=
 (some ([([105,110,103]:ah),([101,100]:ah),([101,115]:ah),([108,121]:ah),([115]:ah)]:List ah))
theorem aiS :ax 301 ⟨⟨[],[]⟩,⟨[nU],[]⟩,fun a=>Ii N⟩:=
 aB aA func301 rfl N .no _
def aiZ :aw:=⟨aD:: .dead:: .dead::ab::ak 30 [],[]⟩
def x5 (j:ah):Option (ah):=
 (iter (fun d (a,b)=>oB (Ii N) fun f=>bif decide (b<(f.length:Int))then oB (Ii N) fun k=>(oB (idx k b) fun c=>if fits ((a.length:Int)-(c.length:Int))then bif decide ((3:Int)<=((a.length:Int)-(c.length:Int)))then oB (cut a ((a.length:Int)-(c.length:Int)) (a.length:Int)) fun i=>(bif decide (i=c)then oB (cut a 0 ((a.length:Int)-(c.length:Int))) fun e=>(some e)else if fits (b+1)then d (a,(b+1))else none)else(if fits (b+1)then d (a,(b+1))else none)else none)else some a) N (j,(0:Int)))
theorem al4 :ax 232 (aI [aD] [aD] (dY (x5 N))):=
 aB (al (aiS N) aA) func232 rfl N (ae (.seq (ae (aR aiZ)) .no)) _
def amg :aw:=⟨aD::ak 9 [],[]⟩
def vi (d:ah):Option (ah):=
 (iter (fun a (b:ah)=>let s2:=b;(oB (x5 N s2) fun c=>bif !decide (c=s2)then oB (x5 N s2) fun e=>(a e)else some s2)) N d)
theorem QB :ax 158 (aI [aD] [aD] (dY (vi N))):=
 aB (al (al4 N) aA) func158 rfl N (ae (.seq (aR amg) .no)) _
def ajd :aw:=⟨bl::aD::ak 3 (ab::ak 12 []),[]⟩
def vh (h:List ah) (i:ah):cx:=
 (iter (fun d (b,c,a)=>bif decide (a<(b.length:Int))then oB (idx b a) fun e=>(bif decide (e=c)then some true else if fits (a+1)then d (b,c,(a+1))else none)else some false) N (h,i,(0:Int)))
theorem QO :ax 159 (aI [bl,aD] [a7] (cr (vh N))):=
 aB aA func159 rfl N (ae (.seq (ae (aR ajd)) .no)) _
def alA :aw:=⟨.dead:: .box 1 0:: .dead::ab::ak 114 [],[(1,false,[bl,.af dx])]⟩
def alE :aw:=⟨.dead:: .box 1 0:: .dead:: .dead::ab::ak 113 [],[(1,false,[bl,.af dx])]⟩
def alu :aw:=⟨.dead:: .box 1 0:: .dead:: .dead::ab:: .box 5 0::ab::ak 111 [],[(1,false,[bl,.af dx]),(5,false,[bl,aD])]⟩
def sW (C:List ah) (x:List b3):cx:=
 (iter (fun p (a,d,i)=>bif decide (a<(d.length:Int))then oB (idx d a) fun E=>(oB (iO N E) fun u=>bif !u then some false else bif decide ((0:Int)<a)then oB (idx d a) fun m=>(if fits (a-1)then oB (idx d (a-1)) fun q=>(bif Op.bytesLess m q||decide (m=q)then some false else if fits (a+1)then p ((a+1),d,i)else none)else none)else if fits (a+1)then p ((a+1),d,i)else none)else iter (fun B (k,r,h)=>bif decide (k<(h.length:Int))then oB (idx h k) fun n=>(iter (fun t (l,c,j,o,b,f)=>bif decide (c<(b.length:Int))then oB (idx b c) fun D=>(oB (iO N D) fun I=>bif !I then some false else oB (idx b c) fun v=>oB (vi N v) fun H=>oB (idx b c) fun G=>bif !decide (H=G)then some false else oB (idx b c) fun y=>oB (vh N j y) fun K=>bif K then some false else if fits (c+1)then t (l,(c+1),j,o,b,f)else none)else oB (hL N (b.length:Int) 1 3) fun A=>bif !A then some false else oB (iO N f) fun z=>bif !z then some false else oB (vi N f) fun w=>bif !decide (w=f)then some false else if fits (l+1)then B ((l+1),j,o)else none) N (k,(0:Int),r,h,n.1,n.2))else bif decide ((r.length:Int)<=6)then some (decide ((h.length:Int)<=4))else some false) N ((0:Int),d,i)) N ((0:Int),C,x))
theorem Cw :ax 92 (aI [fb] [a7] (cr (sW N))):=
 aB (al (vm N) (al (QB N) (al (QO N) (al (nx N) aA)))) func92 rfl N (ae (.seq (ae (aR alA)) (.seq (ae (.block (.loop alE (ae (.seq (.block (ae (.seq (ae (aR alu)) .no))) .no))))) .no))) _
def agQ :aw:=⟨.dead:: .box 1 0:: .box 2 0:: .box 3 0::ab::ak 33 [],[(1,false,[bl,.af dx]),(2,false,[.aT,.aT]),(3,false,[.own 700300 .str 9 true,.own 700301 ij 158 true])]⟩
def y1 (c:List ah) (k:List b3):Option ((List ah)×(List b3)):=
 (if room ([]:List ah).length c.length 16 then iter (fun i (a,l,b,f,e)=>bif decide (a<(b.length:Int))then oB (idx b a) fun d=>(if room ([]:List ah).length d.1.length 16 then oB (idx b a) fun h=>(if room e.length ([((([]:List ah)++d.1),h.2)]:List b3).length 40 then if fits (a+1)then i ((a+1),l,b,f,(e++([((([]:List ah)++d.1),h.2)]:List b3)))else none else none)else none)else some (f,e)) N ((0:Int),c,k,(([]:List ah)++c),([]:List b3))else none)
theorem PN :ax 144 (aI [fb] [.agg [nU,.own 2 ij 158 true]] (cr (y1 N))):=
 aB aA func144 rfl N (ae (ae (.seq (ae (aR agQ)) .no))) _
def yZ (a:List ah) (b:List b3):Option ((List ah)×(List b3)):=
 (oB (sW N a b) fun d=>bif !d then some (([]:List ah),([]:List b3))else oB (y1 N a b) fun c=>some (c.1,c.2))
theorem aho :ax 146 (aI [fb] [.agg [nU,.own 2 ij 158 true,.aT]] (cr (yZ N))):=
 aB (al (Cw N) (al (PN N) aA)) func146 rfl N .no _
def aky :aw:=⟨aD:: .dead:: .dead::ab::ak 19 [],[]⟩
def Cm (f:ah):cx:=
 (iter (fun c (a,b)=>bif decide (b<(a.length:Int))then oB (idx a b) fun d=>(bif decide ((d.toNat:Int)<32)then some false else oB (idx a b) fun h=>bif decide ((126:Int)<(h.toNat:Int))then some false else if fits (b+1)then c (a,(b+1))else none)else some (decide ((a.length:Int)<=160))) N (f,(0:Int)))
theorem akK :ax 233 (aI [aD] [a7] (dY (Cm N))):=
 aB aA func233 rfl N (ae (.seq (ae (aR aky)) .no)) _
def akA :aw:=⟨.dead:: .box 1 0:: .dead::ab::ak 100 [],[(1,false,[ab,.af fg,.af gb])]⟩
def al6 :aw:=⟨.dead:: .box 1 0::ak 3 (ab::ak 98 []),[(1,false,[ab,.af fg,.af gb])]⟩
def Cd (r:Int) (y:cD) (u:dz):cx:=
 (iter (fun n (b,k,d,h)=>bif decide (b<(d.length:Int))then oB (idx d b) fun e=>(oB (iO N e.1) fun q=>bif !q then some false else oB (Cm N e.2) fun A=>bif !A then some false else bif decide ((0:Int)<b)then if fits (b-1)then oB (idx d (b-1)) fun l=>(bif Op.bytesLess e.1 l.1||decide (e.1=l.1)then some false else if fits (b+1)then n ((b+1),k,d,h)else none)else none else if fits (b+1)then n ((b+1),k,d,h)else none)else iter (fun o (a,f,i,c)=>bif decide (a<(c.length:Int))then oB (idx c a) fun x=>(oB (iO N x.1) fun z=>bif !z then some false else oB (idx c a) fun t=>oB (hL N t.2 0 999999999) fun B=>bif !B then some false else bif decide ((0:Int)<a)then oB (idx c a) fun p=>(if fits (a-1)then oB (idx c (a-1)) fun m=>(bif Op.bytesLess p.1 m.1||decide (p.1=m.1)then some false else if fits (a+1)then o ((a+1),f,i,c)else none)else none)else if fits (a+1)then o ((a+1),f,i,c)else none)else oB (hL N f 1 9999) fun w=>bif w then oB (hL N (i.length:Int) 0 3) fun v=>(bif v then some (decide ((c.length:Int)<=3))else some false)else some false) N ((0:Int),k,d,h)) N ((0:Int),r,y,u))
theorem akG :ax 160 (aI [jN] [a7] (eI (Cd N))):=
 aB (al (vm N) (al (akK N) (al (nx N) aA))) func160 rfl N (ae (.seq (ae (aR akA)) (.seq (ae (aR al6)) .no))) _
def aiK :aw:=⟨.af cI:: .dead:: .dead::ab::ak 33 [],[]⟩
def vk (i:List bq):cx:=
 (iter (fun d (b,a)=>bif decide (a<(b.length:Int))then oB (idx b a) fun c=>(oB (Cd N c.1 c.2.1 c.2.2) fun e=>bif !e then some false else bif decide ((0:Int)<a)then oB (idx b a) fun j=>(if fits (a-1)then oB (idx b (a-1)) fun f=>(bif decide (j.1<=f.1)then some false else if fits (a+1)then d (b,(a+1))else none)else none)else if fits (a+1)then d (b,(a+1))else none)else some (decide ((b.length:Int)<=16))) N (i,(0:Int)))
theorem IB :ax 93 (aI [.af cI] [a7] (dY (vk N))):=
 aB (al (akG N) aA) func93 rfl N (ae (.seq (ae (aR aiK)) .no)) _
def ai1 :aw:=⟨bl::aD::ak 3 (ab::ak 42 []),[]⟩
def zb (m:List ah) (n:ah):Option ((List ah)):=
 (iter (fun o (a,c,b)=>bif decide (b<(a.length:Int))then oB (idx a b) fun q=>(bif Op.bytesLess q c then if fits (b+1)then o (a,c,(b+1))else none else bif decide (b<(a.length:Int))then oB (idx a b) fun t=>(bif decide (t=c)then some a else oB (cut a 0 b) fun d=>if room ([]:List ah).length d.length 16 then if room (([]:List ah)++d).length ([c]:List ah).length 16 then oB (cut a b (a.length:Int)) fun j=>(if room ((([]:List ah)++d)++([c]:List ah)).length j.length 16 then some (((([]:List ah)++d)++([c]:List ah))++j)else none)else none else none)else oB (cut a 0 b) fun e=>if room ([]:List ah).length e.length 16 then if room (([]:List ah)++e).length ([c]:List ah).length 16 then oB (cut a b (a.length:Int)) fun k=>(if room ((([]:List ah)++e)++([c]:List ah)).length k.length 16 then some (((([]:List ah)++e)++([c]:List ah))++k)else none)else none else none)else bif decide (b<(a.length:Int))then oB (idx a b) fun p=>(bif decide (p=c)then some a else oB (cut a 0 b) fun f=>if room ([]:List ah).length f.length 16 then if room (([]:List ah)++f).length ([c]:List ah).length 16 then oB (cut a b (a.length:Int)) fun i=>(if room ((([]:List ah)++f)++([c]:List ah)).length i.length 16 then some (((([]:List ah)++f)++([c]:List ah))++i)else none)else none else none)else oB (cut a 0 b) fun h=>if room ([]:List ah).length h.length 16 then if room (([]:List ah)++h).length ([c]:List ah).length 16 then oB (cut a b (a.length:Int)) fun l=>(if room ((([]:List ah)++h)++([c]:List ah)).length l.length 16 then some (((([]:List ah)++h)++([c]:List ah))++l)else none)else none else none) N (m,n,(0:Int)))
theorem QG :ax 181 (aI [bl,aD] [bl] (cr (zb N))):=
 aB aA func181 rfl N (ae (ae (.seq (aR ai1) .no))) _
def akr :aw:=⟨.af cI:: .dead:: .dead::bl::ab::ak 30 [],[]⟩
def aiU :aw:=⟨.af cI:: .dead:: .dead::bl::ab::ab::ak 29 [],[]⟩
def Em (k:List bq):Option ((List ah)):=
 (iter (fun j (e,f,h)=>bif decide (h<(e.length:Int))then iter (fun n (c,i,a,b)=>oB (idx c a) fun o=>bif decide (b<(o.2.1.length:Int))then oB (idx c a) fun p=>(oB (idx p.2.1 b) fun m=>oB (zb N i m.1) fun l=>if fits (b+1)then n (c,l,a,(b+1))else none)else if fits (a+1)then j (c,i,(a+1))else none) N (e,f,h,(0:Int))else some f) N (k,([]:List ah),(0:Int)))
theorem ajq :ax 114 (aI [.af cI] [bl] (dY (Em N))):=
 aB (al (QG N) aA) func114 rfl N (ae (ae (.seq (ae (.block (.loop akr (ae (.seq (.block (ae (aR aiU))) .no))))) .no))) _
def Q4 :aw:=⟨.dead::aD:: .box 2 0:: .dead:: .dead::ab::ak 21 [],[(2,false,[ab,.af fg,.af gb])]⟩
def y9 (h:Int) (n:cD) (e:dz) (f:ah):Option (ah):=
 (iter (fun d (c,a,l,b,j)=>bif decide (a<(b.length:Int))then oB (idx b a) fun i=>(bif decide (i.1=c)then oB (idx b a) fun m=>(some m.2)else if fits (a+1)then d (c,(a+1),l,b,j)else none)else some ([]:ah)) N (f,(0:Int),h,n,e))
theorem QL :ax 183 (aI [jN,aD] [aD] (dq (y9 N))):=
 aB aA func183 rfl N (ae (.seq (ae (aR Q4)) .no)) _
def akh :aw:=⟨aD:: .dead:: .dead:: .own 600003 pq 189 true::ab::ak 50 [],[]⟩
def ajt :aw:=⟨aD:: .dead:: .dead:: .own 600003 pq 189 true::ab:: .own 600005 (.int .u8) 5 true::ab::ak 48 [],[]⟩
def al3 :aw:=⟨aD:: .dead:: .dead:: .own 600003 pq 189 true::ab::rr::ab::ak 48 [],[]⟩
def BV (B:ah):Option ((List kt)):=
 (iter (fun l (w,u,n)=>bif decide (n<(w.length:Int))then iter (fun E (c,k,a,b,h)=>bif decide (a<(c.length:Int))then oB (idx c a) fun G=>(oB (lX N (G.toNat:Int)) fun z=>bif !decide (z=0)then oB (idx c a) fun C=>(oB (lX N (C.toNat:Int)) fun y=>if room b.length ([y]:List Int).length 1 then if fits (a+1)then E (c,k,(a+1),(b++([y]:List Int)),h)else none else none)else meet (fun(d:ah×(List kt)×Int×(List Int)×Int)=>match d with|(t,j,e,o,q)=>bif decide ((0:Int)<o.length)then if room j.length ([((bytesOf o),(j.length:Int),q,e)]:List kt).length 40 then if fits (e+1)then l (t,(j++([((bytesOf o),(j.length:Int),q,e)]:List kt)),(e+1))else none else none else if fits (e+1)then l (t,j,(e+1))else none) fun x=>bif decide ((12:Int)<b.length)then oB (cut b 0 12) fun A=>(x (c,k,a,A,h))else x (c,k,a,b,h))else meet (fun(d:ah×(List kt)×Int×(List Int)×Int)=>match d with|(v,i,f,m,p)=>bif decide ((0:Int)<m.length)then if room i.length ([((bytesOf m),(i.length:Int),p,f)]:List kt).length 40 then if fits (f+1)then l (v,(i++([((bytesOf m),(i.length:Int),p,f)]:List kt)),(f+1))else none else none else if fits (f+1)then l (v,i,(f+1))else none) fun r=>bif decide ((12:Int)<b.length)then oB (cut b 0 12) fun D=>(r (c,k,a,D,h))else r (c,k,a,b,h)) N (w,u,n,([]:List Int),n)else some u) N (B,([]:List kt),(0:Int)))
theorem alU :ax 316 (aI [aD] [.own 1 pq 189 true] (dY (BV N))):=
 aB (al (Qy N) aA) func316 rfl N (ae (ae (.seq (ae (.block (.loop akh (ae (.seq (.block (ae (ae (.seq (aR ajt) (.meet al3 .no .no))))) .no))))) .no))) _
def ajF :aw:=⟨.dead:: .dead:: .box 2 0:: .dead:: .dead:: .own 600005 hr 114 true:: .own 600006 pq 189 true::ab::ak 43 [],[(2,false,[bl,.af dx])]⟩
def B5 (m:List ah) (l:List b3) (k:ah):Option (na):=
 (oB (BV N k) fun j=>iter (fun h (c,b,a,d,e)=>bif decide (a<(b.length:Int))then oB (idx b a) fun n=>(oB (vi N n.1) fun f=>oB (idx b a) fun p=>oB (vh N d p.1) fun q=>bif !q then oB (vh N d f) fun r=>(bif !r then oB (idx b a) fun i=>(if room c.length ([(f,i.2.1)]:dz).length 24 then if fits (a+1)then h ((c++([(f,i.2.1)]:dz)),b,(a+1),d,e)else none else none)else if fits (a+1)then h (c,b,(a+1),d,e)else none)else if fits (a+1)then h (c,b,(a+1),d,e)else none)else some c) N (([]:dz),j,(0:Int),m,l))
theorem alw :ax 263 (aI [fb,aD] [.own 1 hr 114 true] (eI (B5 N))):=
 aB (al (alU N) (al (QB N) (al (QO N) aA))) func263 rfl N (ae (ae (ae (.seq (ae (aR ajF)) .no)))) _
def alm :aw:=⟨.af gb::bl::ak 3 (ab::ak 36 []),[]⟩
def B7 (k:dz) (f:List ah):cx:=
 (iter (fun e (b,c,a)=>bif decide (a<(c.length:Int))then bif decide ((b.length:Int)<=a)then some false else(oB (idx b a) fun i=>oB (idx c a) fun l=>bif !decide (i.1=l)then some false else oB (idx b a) fun h=>oB (idx b 0) fun d=>if fits (d.2+a)then bif !decide (h.2=(d.2+a))then some false else(if fits (a+1)then e (b,c,(a+1))else none)else none)else some true) N (k,f,(0:Int)))
theorem amb :ax 317 (aI [.af gb,bl] [a7] (cr (B7 N))):=
 aB aA func317 rfl N (ae (.seq (ae (aR alm)) .no)) _
def ai9 :aw:=⟨.dead:: .af gb:: .box 2 0:: .dead:: .dead::ab::ab::ak 38 [],[(2,false,[bl,.af dx])]⟩
def B9 (j:List ah) (o:List b3) (m:dz):eH:=
 (iter (fun e (d,c,a,f,b)=>bif decide (a<(b.length:Int))then oB (idx b a) fun k=>(oB (B7 N d k.1) fun h=>bif h then bif decide (c<0)then if fits (a+1)then e (d,a,(a+1),f,b)else none else(oB (idx b a) fun n=>oB (idx b c) fun i=>bif decide ((i.1.length:Int)<(n.1.length:Int))then if fits (a+1)then e (d,a,(a+1),f,b)else none else if fits (a+1)then e (d,c,(a+1),f,b)else none)else if fits (a+1)then e (d,c,(a+1),f,b)else none)else some c) N (m,((-1):Int),(0:Int),j,o))
theorem alc :ax 264 (aI [fb,.af gb] [ab] (eI (B9 N))):=
 aB (al (amb N) aA) func264 rfl N (ae (ae (.seq (ae (aR ai9)) .no))) _
def ajU :aw:=⟨.dead:: .dead:: .box 2 0:: .dead:: .dead:: .own 600005 hr 114 true:: .af gb::ak 45 [],[(2,false,[bl,.af dx])]⟩
def q8 (j:List ah) (f:List b3) (o:ah):Option (na):=
 (oB (B5 N j f o) fun m=>iter (fun h (c,a,e,b)=>bif decide ((0:Int)<a.length)then oB (B9 N e b a) fun d=>(bif decide (d<0)then oB (idx a 0) fun k=>(if room c.length ([k]:dz).length 24 then oB (cut a 1 (a.length:Int)) fun n=>(h ((c++([k]:dz)),n,e,b))else none)else oB (idx b d) fun l=>oB (idx a 0) fun i=>if room c.length ([(l.2,i.2)]:dz).length 24 then oB (idx b d) fun p=>(oB (cut a (p.1.length:Int) (a.length:Int)) fun q=>h ((c++([(l.2,i.2)]:dz)),q,e,b))else none)else some c) N (([]:dz),m,j,f))
theorem yc :ax 182 (aI [fb,aD] [.own 1 hr 114 true] (eI (q8 N))):=
 aB (al (alw N) (al (alc N) aA)) func182 rfl N (ae (ae (ae (.seq (aR ajU) .no)))) _
def ajQ :aw:=⟨.dead:: .af cI::aD:: .box 3 0::ak 3 (bl::ab::ak 31 []),[(3,false,[bl,.af dx])]⟩
def alq :aw:=⟨.dead:: .af cI::aD:: .box 3 0::ak 3 (bl::ab:: .own 600009 hr 114 true::ab::ak 29 []),[(3,false,[bl,.af dx])]⟩
def Eo (y:List ah) (u:List b3) (r:List bq) (z:ah):Option ((List ah)):=
 (iter (fun w (b,k,j,h,q,i)=>bif decide (h<(b.length:Int))then oB (idx b h) fun e=>(oB (y9 N e.1 e.2.1 e.2.2 k) fun t=>oB (q8 N q i t) fun v=>iter (fun x (n,o,p,d,c,a,l,m)=>bif decide (a<(c.length:Int))then oB (idx c a) fun A=>(oB (zb N p A.1) fun B=>if fits (a+1)then x (n,o,B,d,c,(a+1),l,m)else none)else if fits (d+1)then w (n,o,p,(d+1),l,m)else none) N (b,k,j,h,v,(0:Int),q,i))else some j) N (r,z,([]:List ah),(0:Int),y,u))
theorem ak1 :ax 115 (aI [fb,.af cI,aD] [bl] (dq (Eo N))):=
 aB (al (QL N) (al (yc N) (al (QG N) aA))) func115 rfl N (ae (ae (.seq (ae (.block (.loop ajQ (ae (.seq (.block (ae (ae (aR alq)))) .no))))) .no))) _
def aj1 :aw:=⟨ak 3 (aD::ak 5 (.own 600009 aW 3 true:: .own 600010 hr 114 true::ab::ak 28 [])),[]⟩
def En (n:List ah) (k:List b3) (i:Int) (l:cD) (m:dz) (p:ah) (j:ah):Option ((List Int)):=
 (oB (y9 N i l m p) fun h=>oB (q8 N n k h) fun r=>iter (fun e (d,c,b,a)=>bif decide (a<(b.length:Int))then oB (idx b a) fun o=>(bif decide (o.1=d)then oB (idx b a) fun f=>(if room c.length ([f.2]:List Int).length 8 then if fits (a+1)then e (d,(c++([f.2]:List Int)),b,(a+1))else none else none)else if fits (a+1)then e (d,c,b,(a+1))else none)else some c) N (j,([]:List Int),r,(0:Int)))
theorem alH :ax 184 (aI [fb,jN,aD,aD] [.own 1 aW 3 true] (FB (En N))):=
 aB (al (QL N) (al (yc N) aA)) func184 rfl N (ae (ae (ae (.seq (ae (aR aj1)) .no)))) _
def aiX :aw:=⟨.dead:: .af cI::aD::aD:: .box 4 0::ak 3 (.box 8 0:: .box 9 0::ab::ak 34 []),[(4,false,[bl,.af dx]),(8,false,[aD,aD,.aT]),(9,false,[aD,aD,.own 700902 zK 197 true])]⟩
def Ek (v:List ah) (u:List b3) (t:List bq) (r:ah) (n:ah):Option bJ:=
 (iter (fun o (b,h,i,a,l,e,m,p,j,k,c)=>bif decide (a<(b.length:Int))then oB (idx b a) fun f=>(oB (En N l e f.1 f.2.1 f.2.2 h i) fun d=>bif decide ((0:Int)<d.length)then oB (idx b a) fun q=>(if room c.length ([(q.1,d)]:c6).length 32 then if fits (a+1)then o (b,h,i,(a+1),l,e,m,p,j,k,(c++([(q.1,d)]:c6)))else none else none)else if fits (a+1)then o (b,h,i,(a+1),l,e,m,p,j,k,c)else none)else some (j,k,c)) N (t,r,n,(0:Int),v,u,([]:ah),([]:ah),r,n,([]:c6)))
theorem ami :ax 116 (aI [fb,.af cI,aD,aD] [.agg [aD,aD,.own 1 zK 197 true]] (fm (Ek N))):=
 aB (al (alH N) aA) func116 rfl N (ae (ae (.seq (ae (aR aiX)) .no))) _
def rH (N:Nat) (c:Int) (a:cD) (b:dz):Option bq:=
 (if room ([]:cD).length a.length 32 then if room ([]:dz).length b.length 24 then some (c,(([]:cD)++a),(([]:dz)++b))else none else none)
theorem IH :ax 117 (aI [jN] [EU] (eI (rH N))):=
 aB aA func117 rfl N .no _
def ajP :aw:=⟨.dead:: .af cI:: .box 2 0:: .dead:: .box 4 0:: .box 5 0::bl::ab::ak 58 [],[(2,false,[bl,.af dx]),(4,false,[.aT,.aT]),(5,false,[.aT,.own 700501 cY 119 true])]⟩
def akQ :aw:=⟨.dead:: .af cI:: .box 2 0:: .dead:: .box 4 0:: .box 5 0::bl::ab::bl::ab::ak 56 [],[(2,false,[bl,.af dx]),(4,false,[.aT,.aT]),(5,false,[.aT,.own 700501 cY 119 true])]⟩
def ajM :aw:=⟨.dead:: .af cI:: .dead:: .dead:: .box 4 0:: .box 5 0::ak 4 (ab::ak 55 []),[(4,false,[.aT,.aT]),(5,false,[.own 700500 cF 109 true,.own 700501 cY 119 true])]⟩
def rI (G:List ah) (B:List b3) (r:List bq):Option ((List bq)×(List bJ)):=
 (oB (Em N r) fun A=>iter (fun C (e,h,q,w,t,u)=>bif decide (q<(h.length:Int))then oB (idx h q) fun H=>(oB (Eo N w t e H) fun K=>iter (fun E (p,j,c,f,b,n,o,m)=>bif decide (b<(f.length:Int))then oB (idx j c) fun I=>(oB (idx f b) fun D=>oB (Ek N n o p I D) fun x=>if room m.length ([x]:List bJ).length 56 then if fits (b+1)then E (p,j,c,f,(b+1),n,o,(m++([x]:List bJ)))else none else none)else if fits (c+1)then C (p,j,(c+1),n,o,m)else none) N (e,h,q,K,(0:Int),w,t,u))else iter (fun z (i,d,k,v)=>bif decide (d<(i.length:Int))then oB (idx i d) fun l=>(oB (rH N l.1 l.2.1 l.2.2) fun y=>if room k.length ([y]:List bq).length 56 then if fits (d+1)then z (i,(d+1),(k++([y]:List bq)),v)else none else none)else some (k,v)) N (e,(0:Int),([]:List bq),u)) N (r,A,(0:Int),G,B,([]:List bJ)))
theorem Cu :ax 53 (aI [fb,.af cI] [.agg [.own 1 cF 109 true,.own 2 cY 119 true]] (eI (rI N))):=
 aB (al (ajq N) (al (ak1 N) (al (ami N) (al (IH N) aA)))) func53 rfl N (ae (ae (ae (.seq (ae (.block (.loop ajP (ae (.seq (.block (ae (ae (aR akQ)))) .no))))) (.seq (ae (aR ajM)) .no))))) _
def ajS :aw:=⟨.af cR:: .af cR::ak 3 (ab::ak 20 []),[]⟩
def BT (d:List Int) (e:List Int):cx:=
 (bif !decide ((d.length:Int)=(e.length:Int))then some false else iter (fun f (b,c,a)=>bif decide (a<(b.length:Int))then oB (idx b a) fun h=>(oB (idx c a) fun j=>bif !decide (h=j)then some false else if fits (a+1)then f (b,c,(a+1))else none)else some true) N (d,e,(0:Int)))
theorem ai6 :ax 231 (aI [.af cR,.af cR] [a7] (cr (BT N))):=
 aB aA func231 rfl N (ae (ae (.seq (ae (aR ajS)) .no))) _
def akf :aw:=⟨.dead:: .dead:: .box 2 0:: .box 3 0:: .dead::ab::ak 57 [],[(2,false,[aD,aD,.af lI]),(3,false,[aD,aD,.af lI])]⟩
def B2 (i:ah) (e:ah) (d:c6) (f:ah) (h:ah) (j:c6):cx:=
 (bif !decide (i=f)then some false else bif !decide (e=h)then some false else bif !decide ((d.length:Int)=(j.length:Int))then some false else iter (fun o (a,m,p,b,q,k,c)=>bif decide (a<(b.length:Int))then oB (idx b a) fun t=>(oB (idx c a) fun v=>bif !decide (t.1=v.1)then some false else oB (idx b a) fun r=>oB (idx c a) fun n=>oB (BT N r.2 n.2) fun l=>bif !l then some false else if fits (a+1)then o ((a+1),m,p,b,q,k,c)else none)else some true) N ((0:Int),i,e,d,f,h,j))
theorem al2 :ax 157 (aI [tH,tH] [a7] (kv (B2 N))):=
 aB (al (ai6 N) aA) func157 rfl N (ae (ae (.seq (ae (aR akf)) .no))) _
def alr :aw:=⟨ak 3 (.box 3 0:: .dead:: .box 5 0::ab::ak 39 []),[(3,false,[.af cI,.af eU]),(5,false,[.own 700500 cF 109 true,.own 700501 cY 119 true])]⟩
def Cc (k:List ah) (h:List b3) (c:List bq) (j:List bJ):cx:=
 (oB (sW N k h) fun l=>bif !l then some false else oB (vk N c) fun q=>bif !q then some false else oB (rI N k h c) fun f=>bif !decide ((f.2.length:Int)=(j.length:Int))then some false else iter (fun o (a,n,i,m,b)=>bif decide (a<(b.length:Int))then oB (idx b a) fun d=>(oB (idx i a) fun e=>oB (B2 N d.1 d.2.1 d.2.2 e.1 e.2.1 e.2.2) fun r=>bif !r then some false else if fits (a+1)then o ((a+1),n,i,m,b)else none)else some true) N ((0:Int),c,j,f.1,f.2))
theorem akN :ax 89 (aI [fb,iX] [a7] (dq (Cc N))):=
 aB (al (Cw N) (al (IB N) (al (Cu N) (al (al2 N) aA)))) func89 rfl N (ae (ae (ae (ae (.seq (ae (aR alr)) .no))))) _
def ad1 :aw:=⟨.af cR:: .dead:: .dead::ab::ak 31 [],[]⟩
def yh (i:List Int):cx:=
 (iter (fun c (b,a)=>bif decide (a<(b.length:Int))then oB (idx b a) fun f=>(oB (hL N f 0 999999999) fun d=>bif !d then some false else bif decide ((0:Int)<a)then oB (idx b a) fun j=>(if fits (a-1)then oB (idx b (a-1)) fun e=>(bif decide (j<=e)then some false else if fits (a+1)then c (b,(a+1))else none)else none)else if fits (a+1)then c (b,(a+1))else none)else some (decide ((b.length:Int)<=60))) N (i,(0:Int)))
theorem Po :ax 90 (aI [.af cR] [a7] (dY (yh N))):=
 aB (al (nx N) aA) func90 rfl N (ae (.seq (ae (aR ad1)) .no)) _
def ac5 :aw:=⟨.dead::ab:: .box 2 0:: .dead:: .box 4 0::ab::ak 21 [],[(2,false,[.af cI,.af eU]),(4,false,[ab,.aT,.aT])]⟩
def vs (k:List bq) (f:List bJ) (l:Int):Option bq:=
 (iter (fun e (d,a,b,m,i)=>bif decide (a<(b.length:Int))then oB (idx b a) fun h=>(bif decide (h.1=d)then oB (idx b a) fun c=>(some (c.1,c.2.1,c.2.2))else if fits (a+1)then e (d,(a+1),b,m,i)else none)else some (0,([]:cD),([]:dz))) N (l,(0:Int),k,f,(0:Int)))
theorem HM :ax 91 (aI [iX,ab] [jN] (eI (vs N))):=
 aB aA func91 rfl N (ae (.seq (ae (aR ac5)) .no)) _
def agp :aw:=⟨.af cR::ab::ak 3 (ab::ak 12 []),[]⟩
def BI (i:List Int) (e:Int):cx:=
 (iter (fun d (b,c,a)=>bif decide (a<(b.length:Int))then oB (idx b a) fun f=>(bif decide (f=c)then some true else if fits (a+1)then d (b,c,(a+1))else none)else some false) N (i,e,(0:Int)))
theorem afZ :ax 185 (aI [.af cR,ab] [a7] (cr (BI N))):=
 aB aA func185 rfl N (ae (.seq (ae (aR agp)) .no)) _
def ts (d:List bq) (e:List bJ) (a:List Int) (c:Int):cx:=
 (oB (BI N a c) fun b=>some b)
theorem PG :ax 118 (aI [.agg [.af cI,.af eU,.af cR],ab] [a7] (dq (ts N))):=
 aB (al (afZ N) aA) func118 rfl N .no _
def af6 :aw:=⟨.af cI:: .dead:: .dead:: .box 3 0:: .dead::ab::ak 32 [],[(3,false,[ab,.af fg,.af gb])]⟩
def Ea (n:List bq) (m:Int) (t:cD) (p:dz):lJ:=
 (iter (fun o (a,b,e,i,h)=>bif decide (b<(a.length:Int))then oB (idx a b) fun q=>(bif decide (q.1<e)then if fits (b+1)then o (a,(b+1),e,i,h)else none else oB (cut a 0 b) fun c=>if room ([]:List bq).length c.length 56 then oB (rH N e i h) fun f=>(if room (([]:List bq)++c).length ([f]:List bq).length 56 then oB (cut a b (a.length:Int)) fun k=>(if room ((([]:List bq)++c)++([f]:List bq)).length k.length 56 then some (((([]:List bq)++c)++([f]:List bq))++k)else none)else none)else none)else oB (cut a 0 b) fun d=>if room ([]:List bq).length d.length 56 then oB (rH N e i h) fun j=>(if room (([]:List bq)++d).length ([j]:List bq).length 56 then oB (cut a b (a.length:Int)) fun l=>(if room ((([]:List bq)++d)++([j]:List bq)).length l.length 56 then some (((([]:List bq)++d)++([j]:List bq))++l)else none)else none)else none) N (n,(0:Int),m,t,p))
theorem agA :ax 119 (aI [.af cI,jN] [.own 1 cF 109 false] (dq (Ea N))):=
 aB (al (IH N) aA) func119 rfl N (ae (ae (.seq (aR af6) .no))) _
def afF :aw:=⟨.dead:: .box 1 0:: .dead:: .own 600003 cF 109 false::ab::ak 45 [],[(1,false,[bl,.af dx,.af jw])]⟩
def agz :aw:=⟨.dead:: .box 1 0:: .dead:: .own 600003 cF 109 false::ab::ab::ak 44 [],[(1,false,[bl,.af dx,.af jw])]⟩
def tt (q:List ah) (r:List b3) (u:List cU):lJ:=
 (iter (fun v (l,n,t,p,k)=>bif decide (n<(k.length:Int))then iter (fun m (j,a,b,i,e,c)=>oB (idx c a) fun w=>bif decide (b<(w.1.1.length:Int))then oB (idx c a) fun x=>(oB (idx x.1.1 b) fun d=>oB (idx c a) fun f=>oB (ts N f.1.1 f.1.2 f.2 d.1) fun o=>bif !o then oB (Ea N j d.1 d.2.1 d.2.2) fun y=>(if fits (b+1)then m (y,a,(b+1),i,e,c)else none)else if fits (b+1)then m (j,a,(b+1),i,e,c)else none)else if fits (a+1)then v (j,(a+1),i,e,c)else none) N (l,n,(0:Int),t,p,k)else some l) N (([]:List bq),(0:Int),q,r,u))
theorem HN :ax 54 (aI [lq] [.own 1 cF 109 false] (eI (tt N))):=
 aB (al (PG N) (al (agA N) aA)) func54 rfl N (ae (ae (.seq (ae (.block (.loop afF (ae (.seq (.block (ae (aR agz))) .no))))) .no))) _
def agh :aw:=⟨.dead:: .box 1 0:: .dead::ab::ak 67 [],[(1,false,[bl,.af dx,.af jw])]⟩
def ago :aw:=⟨.dead:: .box 1 0:: .dead::ab:: .box 4 0::ab::ak 22 (a7::ak 9 (a7::ak 32 [])),[(1,false,[bl,.af dx,.af jw]),(4,false,[.af cI,.af eU,.af cR])]⟩
def rG (r:List ah) (t:List b3) (u:List cU):cx:=
 (iter (fun x (j,d,c,b)=>bif decide (j<(b.length:Int))then oB (idx b j) fun a=>(oB (Cc N d c a.1.1 a.1.2) fun q=>bif !q then some false else oB (yh N a.2) fun o=>bif !o then some false else bif decide ((a.1.1.length:Int)<=(a.2.length:Int))then some false else iter (fun A (h,e,v,w,n,k,p,m,l,f)=>bif decide (e<(f.length:Int))then oB (idx f e) fun B=>(oB (vs N m l B) fun C=>bif decide (C.1=0)then some false else if fits (e+1)then A (h,(e+1),v,w,n,k,p,m,l,f)else none)else if fits (h+1)then x ((h+1),n,k,p)else none) N (j,(0:Int),(!o),(decide ((a.1.1.length:Int)<=(a.2.length:Int))),d,c,b,a.1.1,a.1.2,a.2))else oB (sW N d c) fun D=>bif D then bif decide ((b.length:Int)<=5)then oB (tt N d c b) fun z=>(oB (vk N z) fun y=>some y)else(some false)else some false) N ((0:Int),r,t,u))
theorem BL :ax 39 (aI [lq] [a7] (eI (rG N))):=
 aB (al (akN N) (al (Po N) (al (HM N) (al (Cw N) (al (HN N) (al (IB N) aA)))))) func39 rfl N (ae (.seq (ae (.block (.loop agh (ae (.seq (.block (ae (ae (ae (aR ago))))) .no))))) .no)) _
def agT :aw:=⟨.af lI:: .dead:: .dead:: .own 600003 zK 197 true::ab::ak 24 [],[]⟩
def Ej (i:c6):Option (zN):=
 (iter (fun f (b,c,a)=>bif decide (a<(b.length:Int))then oB (idx b a) fun e=>(oB (idx b a) fun d=>if room ([]:List Int).length d.2.length 8 then if room c.length ([(e.1,(([]:List Int)++d.2))]:c6).length 32 then if fits (a+1)then f (b,(c++([(e.1,(([]:List Int)++d.2))]:c6)),(a+1))else none else none else none)else some c) N (i,([]:c6),(0:Int)))
theorem agM :ax 213 (aI [.af lI] [.own 1 zK 197 true] (dY (Ej N))):=
 aB aA func213 rfl N (ae (ae (.seq (ae (aR agT)) .no))) _
def agO :aw:=⟨.dead:: .box 1 0:: .box 2 0:: .box 3 0::ab::ak 47 [],[(1,false,[.af cI,.af eU]),(2,false,[.aT,.aT]),(3,false,[.own 700300 cF 109 true,.aT])]⟩
def agD :aw:=⟨.dead:: .box 1 0:: .box 2 0:: .box 3 0:: .dead::ab::ak 46 [],[(1,false,[.af cI,.af eU]),(2,false,[.aT,.aT]),(3,false,[.own 700300 cF 109 true,.own 700301 cY 119 true])]⟩
def D9 (o:List bq) (r:List bJ):Option ((List bq)×(List bJ)):=
 (iter (fun p (d,b,l,f)=>bif decide (d<(b.length:Int))then oB (idx b d) fun i=>(oB (rH N i.1 i.2.1 i.2.2) fun k=>if room f.length ([k]:List bq).length 56 then if fits (d+1)then p ((d+1),b,l,(f++([k]:List bq)))else none else none)else iter (fun t (c,q,e,m,h)=>bif decide (c<(e.length:Int))then oB (idx e c) fun a=>(oB (Ej N a.2.2) fun n=>if room h.length ([(a.1,a.2.1,n)]:List bJ).length 56 then if fits (c+1)then t ((c+1),q,e,m,(h++([(a.1,a.2.1,n)]:List bJ)))else none else none)else some (m,h)) N ((0:Int),b,l,f,([]:List bJ))) N ((0:Int),o,r,([]:List bq)))
theorem agC :ax 145 (aI [iX] [.agg [.own 1 cF 109 true,.own 2 cY 119 true]] (cr (D9 N))):=
 aB (al (IH N) (al (agM N) aA)) func145 rfl N (ae (ae (.seq (ae (aR agO)) (.seq (ae (aR agD)) .no)))) _
def agR :aw:=⟨.dead:: .box 1 0:: .box 2 0:: .box 3 0::ab::ak 33 [],[(1,false,[bl,.af dx,.af jw]),(2,false,[.aT,.aT,.aT]),(3,false,[.own 700300 .str 9 true,.own 700301 ij 158 true,.own 700302 jZ 80 true])]⟩
def mR (h:List ah) (i:List b3) (p:List cU):Option ((List ah)×(List b3)×(List cU)):=
 (oB (y1 N h i) fun f=>iter (fun m (a,o,n,b,e,k,c)=>bif decide (a<(b.length:Int))then oB (idx b a) fun j=>(oB (D9 N j.1.1 j.1.2) fun l=>oB (idx b a) fun d=>if room ([]:List Int).length d.2.length 8 then if room c.length ([(l,(([]:List Int)++d.2))]:List cU).length 72 then if fits (a+1)then m ((a+1),o,n,b,e,k,(c++([(l,(([]:List Int)++d.2))]:List cU)))else none else none else none)else some (e,k,c)) N ((0:Int),h,i,p,f.1,f.2,([]:List cU)))
theorem BM :ax 78 (aI [lq] [.agg [nU,.own 2 ij 158 true,.own 3 jZ 80 true]] (eI (mR N))):=
 aB (al (PN N) (al (agC N) aA)) func78 rfl N (ae (ae (.seq (ae (aR agR)) .no))) _
def agL :aw:=⟨.af cR::ab::ak 3 (ab::ak 42 []),[]⟩
def Ep (n:List Int) (m:Int):Option ((List Int)):=
 (iter (fun o (a,b,c)=>bif decide (c<(a.length:Int))then oB (idx a c) fun q=>(bif decide (q<b)then if fits (c+1)then o (a,b,(c+1))else none else bif decide (c<(a.length:Int))then oB (idx a c) fun t=>(bif decide (t=b)then some a else oB (cut a 0 c) fun d=>if room ([]:List Int).length d.length 8 then if room (([]:List Int)++d).length ([b]:List Int).length 8 then oB (cut a c (a.length:Int)) fun j=>(if room ((([]:List Int)++d)++([b]:List Int)).length j.length 8 then some (((([]:List Int)++d)++([b]:List Int))++j)else none)else none else none)else oB (cut a 0 c) fun e=>if room ([]:List Int).length e.length 8 then if room (([]:List Int)++e).length ([b]:List Int).length 8 then oB (cut a c (a.length:Int)) fun k=>(if room ((([]:List Int)++e)++([b]:List Int)).length k.length 8 then some (((([]:List Int)++e)++([b]:List Int))++k)else none)else none else none)else bif decide (c<(a.length:Int))then oB (idx a c) fun p=>(bif decide (p=b)then some a else oB (cut a 0 c) fun f=>if room ([]:List Int).length f.length 8 then if room (([]:List Int)++f).length ([b]:List Int).length 8 then oB (cut a c (a.length:Int)) fun i=>(if room ((([]:List Int)++f)++([b]:List Int)).length i.length 8 then some (((([]:List Int)++f)++([b]:List Int))++i)else none)else none else none)else oB (cut a 0 c) fun h=>if room ([]:List Int).length h.length 8 then if room (([]:List Int)++h).length ([b]:List Int).length 8 then oB (cut a c (a.length:Int)) fun l=>(if room ((([]:List Int)++h)++([b]:List Int)).length l.length 8 then some (((([]:List Int)++h)++([b]:List Int))++l)else none)else none else none) N (n,m,(0:Int)))
theorem agK :ax 289 (aI [.af cR,ab] [.af cR] (cr (Ep N))):=
 aB aA func289 rfl N (ae (ae (.seq (aR agL) .no))) _
def agG :aw:=⟨.dead::ab:: .box 2 0:: .dead:: .box 4 0:: .dead:: .box 6 0::a7::ab::ak 43 [],[(2,false,[bl,.af dx,.af jw]),(4,false,[.aT,.aT,.aT]),(6,false,[bl,.af dx,.own 700602 jZ 80 false])]⟩
def agI :aw:=⟨.dead::ab:: .box 2 0:: .dead:: .box 4 0:: .dead:: .box 6 0::a7::ab:: .box 9 0::ak 42 [],[(2,false,[bl,.af dx,.af jw]),(4,false,[.aT,.aT,.aT]),(6,false,[bl,.af dx,.own 700602 jZ 80 false]),(9,false,[.af cI,.af eU,.af cR])]⟩
def y3 (n:List ah) (p:List b3) (x:List cU) (y:Int):wN:=
 (iter (fun z (b,m,d,j,i,c,e,h,f)=>bif decide (d<(c.length:Int))then oB (idx c d) fun a=>(meet (fun(l:Int×Bool×Int×(List ah)×(List b3)×(List cU)×(List ah)×(List b3)×(List cU)×(List bq)×(List bJ)×(List Int))=>match l with|(B,A,u,E,w,I,C,D,t,r,o,q)=>if room t.length ([((r,o),q)]:List cU).length 72 then if fits (u+1)then z (B,A,(u+1),E,w,I,C,D,(t++([((r,o),q)]:List cU)))else none else none) fun k=>oB (vs N a.1.1 a.1.2 b) fun v=>bif !decide (v.1=0)then oB (ts N a.1.1 a.1.2 a.2 b) fun H=>(bif !H then if room ([]:List Int).length a.2.length 8 then oB (Ep N (([]:List Int)++a.2) b) fun G=>(k (b,true,d,j,i,c,e,h,f,a.1.1,a.1.2,G))else none else k (b,m,d,j,i,c,e,h,f,a.1.1,a.1.2,a.2))else k (b,m,d,j,i,c,e,h,f,a.1.1,a.1.2,a.2))else some (e,h,f,m)) N (y,false,(0:Int),n,p,x,n,p,([]:List cU)))
theorem PL :ax 210 (aI [lq,ab] [.bR [zp,a7]] (dq (y3 N))):=
 aB (al (HM N) (al (PG N) (al (agK N) aA))) func210 rfl N (ae (ae (ae (.seq (ae (.block (.loop agG (ae (.seq (.block (ae (.meet agI .no .no))) .no))))) .no)))) _
def agE :aw:=⟨.dead:: .box 1 0:: .box 2 0:: .box 3 0::ab::ak 37 [],[(1,false,[bl,.af dx,.af jw]),(2,false,[.aT,.aT,.aT]),(3,false,[bl,.af dx,.own 700302 jZ 80 false])]⟩
def y2 (j:List ah) (k:List b3) (n:List cU):Option ((List ah)×(List b3)×(List cU)):=
 (iter (fun f (a,l,h,b,d,e,c)=>bif decide (a<(b.length:Int))then oB (idx b a) fun m=>(oB (idx b a) fun p=>bif decide ((m.2.length:Int)<(p.1.1.length:Int))then oB (idx b a) fun i=>(if room c.length ([i]:List cU).length 72 then if fits (a+1)then f ((a+1),l,h,b,d,e,(c++([i]:List cU)))else none else none)else if fits (a+1)then f ((a+1),l,h,b,d,e,c)else none)else some (d,e,c)) N ((0:Int),j,k,n,j,k,([]:List cU)))
theorem PM :ax 211 (aI [lq] [zp] (eI (y2 N))):=
 aB aA func211 rfl N (ae (ae (.seq (ae (aR agE)) .no))) _
def D2 (d:List ah) (e:List b3) (f:List cU) (i:Int):wN:=
 (oB (rG N d e f) fun h=>bif !h then some (([]:List ah),([]:List b3),([]:List cU),false)else oB (mR N d e f) fun b=>oB (y3 N b.1 b.2.1 b.2.2 i) fun a=>oB (y2 N a.1 a.2.1 a.2.2.1) fun c=>some (c.1,c.2.1,c.2.2,a.2.2.2))
theorem agJ :ax 148 (aI [lq,ab] [.bR [zp,a7]] (dq (D2 N))):=
 aB (al (BL N) (al (BM N) (al (PL N) (al (PM N) aA)))) func148 rfl N .no _
def D3 (e:List ah) (f:List b3) (b:List cU) (a:Int):wN:=
 (oB (rG N e f b) fun k=>bif !k then some (([]:List ah),([]:List b3),([]:List cU),false)else if fits ((b.length:Int)-2)then oB (hL N a 0 ((b.length:Int)-2)) fun m=>(bif !m then oB (mR N e f b) fun i=>(some (i.1,i.2.1,i.2.2,false))else if fits (a+2)then oB (cut b a (a+2)) fun l=>(oB (tt N ([]:List ah) ([]:List b3) l) fun n=>oB (mR N e f b) fun c=>oB (cut c.2.2 0 a) fun d=>if room ([]:List cU).length d.length 72 then oB (rI N e f n) fun h=>(if room (([]:List cU)++d).length ([(h,([]:List Int))]:List cU).length 72 then if fits (a+2)then oB (cut c.2.2 (a+2) (c.2.2.length:Int)) fun j=>(if room ((([]:List cU)++d)++([(h,([]:List Int))]:List cU)).length j.length 72 then some (c.1,c.2.1,(((([]:List cU)++d)++([(h,([]:List Int))]:List cU))++j),true)else none)else none else none)else none)else none)else none)
theorem ag1 :ax 149 (aI [lq,ab] [.bR [zo,a7]] (dq (D3 N))):=
 aB (al (BL N) (al (nx N) (al (BM N) (al (HN N) (al (Cu N) aA))))) func149 rfl N .no _
def mS (b:List ah) (d:List Int) (e:Int):Option (ah×(List Int)×Int):=
 (oB (fj N (b.length:Int) d e) fun a=>oB (idx b a.1) fun c=>some (c,a.2.1,a.2.2))
theorem IF :ax 77 (mo [bl] [aD] (eI (mS N))):=
 aB (al (oK N) aA) func77 rfl N .no _ (rs:=[900000])
def Eh (b:List Int) (c:Int):Option (ah×(List Int)×Int):=
 (oB (mS N ([([99,97,116]:ah),([67,97,116,115]:ah),([100,111,103]:ah),([100,111,103,115]:ah),([114,117,110]:ah),([82,85,78,78,73,78,71]:ah),([116,104,101]:ah),([114,101,100]:ah),([98,105,103]:ah),([110,101,119,32,121,111,114,107]:ah),([78,101,119,32,32,89,111,114,107]:ah),([110,121]:ah),([102,111,120]:ah),([112,97,115,115,101,100]:ah),([120,49]:ah),([97,118,101,114,121,118,101,114,121,108,111,110,103,119,111,114,100]:ah)]:List ah) b c) fun a=>some (a.1,a.2.1,a.2.2))
theorem amJ :ax 330 (mo [] [aD] (cr (Eh N))):=
 aB (al (IF N) aA) func330 rfl N .no _ (rs:=[900000])
def amt :aw:=⟨.box 900000 0:: .dead:: .dead::aD::ab::ak 15 [],[kV]⟩
def y7 (k:List Int) (j:Int):Option (ah×(List Int)×Int):=
 (oB (fj N 9 k j) fun d=>iter (fun i (b,e,h,f)=>bif decide ((0:Int)<e)then oB (Eh N h f) fun a=>(if b.length+a.1.length<=9223372036854775807 then oB (mS N ([([32]:ah),([32]:ah),([44,32]:ah),([45]:ah),([46,32]:ah)]:List ah) a.2.1 a.2.2) fun c=>(if(b++a.1).length+c.1.length<=9223372036854775807 then if fits (e-1)then i (((b++a.1)++c.1),(e-1),c.2.1,c.2.2)else none else none)else none)else some (b,h,f)) N (([]:ah),d.1,d.2.1,d.2.2))
theorem amv :ax 290 (mo [] [aD] (cr (y7 N))):=
 aB (al (oK N) (al (amJ N) (al (IF N) aA))) func290 rfl N (ae (ae (.seq (ae (aR amt)) .no))) _ (rs:=[900000])
def amz :aw:=⟨.box 900000 0::ak 3 (.box 4 0:: .box 5 0::ak 48 []),[(4,false,[ab,.aT,.aT]),(5,false,[ab,.own 28 cM 110 true,.own 39 hr 221 true]),kV]⟩
def amx :aw:=⟨.box 900000 0::ak 3 (.box 4 0:: .box 5 0::ak 48 []),[(4,false,[ab,.aT,.aT]),(5,false,[ab,.own 28 cM 110 true,.aT]),kV]⟩
def amH :aw:=⟨.box 900000 0::ak 3 (.box 4 0:: .box 5 0::ak 48 []),[(4,false,[ab,.aT,.aT]),(5,false,[ab,.own 17 cM 110 true,.aT]),kV]⟩
def Ee (t:Int) (C:List Int) (E:Int):Option (Int×gd×na×(List Int)×Int):=
 (meet (fun(e:Int×Int×gd×(List Int)×Int)=>match e with|(q,o,l,G,y)=>meet (fun(e:Int×Int×gd×(List Int)×Int)=>match e with|(m,u,x,B,D)=>meet (fun(e:Int×Int×gd×na×(List Int)×Int)=>match e with|(H,w,p,k,z,A)=>oB (fj N 3 z A) fun b=>bif decide (b.1=0)then oB (fj N 30 b.2.1 b.2.2) fun c=>(if fits (2000+c.1)then if room k.length ([(([121,101,97,114]:ah),(2000+c.1))]:dz).length 24 then some (w,p,(k++([(([121,101,97,114]:ah),(2000+c.1))]:dz)),c.2.1,c.2.2)else none else none)else some (w,p,k,b.2.1,b.2.2)) fun r=>oB (fj N 3 B D) fun d=>bif decide ((0:Int)<d.1)then oB (fj N 4 d.2.1 d.2.2) fun h=>(if room ([]:dz).length ([(([114,97,116,101]:ah),h.1)]:dz).length 24 then r (m,u,x,(([]:dz)++([(([114,97,116,101]:ah),h.1)]:dz)),h.2.1,h.2.2)else none)else r (m,u,x,([]:dz),d.2.1,d.2.2)) fun n=>oB (fj N 3 G y) fun f=>bif decide (f.1=0)then oB (y7 N f.2.1 f.2.2) fun j=>(if room l.length ([(([116,105,116,108,101]:ah),j.1)]:cD).length 32 then n (q,o,(l++([(([116,105,116,108,101]:ah),j.1)]:cD)),j.2.1,j.2.2)else none)else n (q,o,l,f.2.1,f.2.2)) fun v=>oB (fj N 6 C E) fun a=>bif decide ((0:Int)<a.1)then oB (y7 N a.2.1 a.2.2) fun i=>(if room ([]:cD).length ([(([98,111,100,121]:ah),i.1)]:cD).length 32 then v (0,t,(([]:cD)++([(([98,111,100,121]:ah),i.1)]:cD)),i.2.1,i.2.2)else none)else v (0,t,([]:cD),a.2.1,a.2.2))
theorem amI :ax 212 (mo [ab] [EU] (eI (Ee N))):=
 aB (al (oK N) (al (amv N) aA)) func212 rfl N (ae (ae (.meet amH .no (.meet amx .no (.meet amz .no .no))))) _ (rs:=[900000])
def amw :aw:=⟨.box 900000 0:: .dead:: .dead:: .own 600003 cF 109 true::ab::ab::ak 19 [],[kV]⟩
def Ef (l:List Int) (k:Int):Option ((List bq)×(List Int)×Int):=
 (oB (fj N 6 l k) fun e=>iter (fun j (d,c,f,i,h)=>bif decide ((0:Int)<f)then if fits (c+1)then oB (fj N 3 i h) fun b=>(if fits ((c+1)+b.1)then oB (Ee N ((c+1)+b.1) b.2.1 b.2.2) fun a=>(if room d.length ([(a.1,a.2.1,a.2.2.1)]:List bq).length 56 then if fits (f-1)then j ((d++([(a.1,a.2.1,a.2.2.1)]:List bq)),((c+1)+b.1),(f-1),a.2.2.2.1,a.2.2.2.2)else none else none)else none)else none else some (d,i,h)) N (([]:List bq),(0:Int),e.1,e.2.1,e.2.2))
theorem ams :ax 143 (mo [] [.own 1 cF 109 true] (cr (Ef N))):=
 aB (al (oK N) (al (amI N) aA)) func143 rfl N (ae (ae (ae (.seq (ae (aR amw)) .no)))) _ (rs:=[900000])
def ag3 :aw:=⟨.dead:: .af cI:: .box 2 0:: .dead:: .box 4 0:: .dead:: .box 6 0::ab::ak 53 [],[(2,false,[bl,.af dx,.af jw]),(4,false,[.aT,.aT,.aT]),(6,false,[bl,.af dx,.own 700602 jZ 80 false])]⟩
def D1 (b:List ah) (c:List b3) (d:List cU) (h:List bq):wN:=
 (oB (rG N b c d) fun v=>bif !v then some (([]:List ah),([]:List b3),([]:List cU),false)else oB (vk N h) fun A=>bif !A then oB (mR N b c d) fun o=>(some (o.1,o.2.1,o.2.2,false))else bif decide ((h.length:Int)=0)then oB (mR N b c d) fun p=>(some (p.1,p.2.1,p.2.2,false))else oB (mR N b c d) fun n=>iter (fun x (e,f,j,i,q,r,u,t)=>bif decide (f<(e.length:Int))then oB (idx e f) fun y=>(oB (y3 N r u t y.1) fun m=>if fits (f+1)then x (e,(f+1),j,i,q,m.1,m.2.1,m.2.2.1)else none)else oB (y2 N r u t) fun a=>oB (rI N j i e) fun l=>if room a.2.2.length ([(l,([]:List Int))]:List cU).length 72 then oB (rG N a.1 a.2.1 (a.2.2++([(l,([]:List Int))]:List cU))) fun w=>(bif !w then oB (mR N j i q) fun k=>(some (k.1,k.2.1,k.2.2,false))else some (a.1,a.2.1,(a.2.2++([(l,([]:List Int))]:List cU)),true))else none) N (h,(0:Int),b,c,d,n.1,n.2.1,n.2.2))
theorem agZ :ax 142 (aI [lq,.af cI] [.bR [zp,a7]] (dq (D1 N))):=
 aB (al (BL N) (al (IB N) (al (BM N) (al (PL N) (al (PM N) (al (Cu N) aA)))))) func142 rfl N (ae (ae (ae (ae (.seq (ae (aR ag3)) .no))))) _
def ahn :aw:=⟨.box 900000 0:: .dead:: .box 2 0:: .box 3 0::ab::ak 47 [],[(2,false,[.aT,.aT,.aT]),(3,false,[bl,.af dx,.own 700302 jZ 80 false]),kV]⟩
def Eg (t:List Int) (u:Int):Option ((List ah)×(List b3)×(List cU)×(List Int)×Int):=
 (oB (Ed N t u) fun c=>oB (yZ N c.1 c.2.1) fun r=>oB (fj N 7 c.2.2.1 c.2.2.2) fun o=>iter (fun l (b,d,e,f,p,q)=>bif decide ((0:Int)<b)then oB (fj N 5 p q) fun a=>(bif decide (a.1=0)then oB (fj N 8 a.2.1 a.2.2) fun h=>(if fits (1+h.1)then oB (D2 N d e f (1+h.1)) fun n=>(if fits (b-1)then l ((b-1),n.1,n.2.1,n.2.2.1,h.2.1,h.2.2)else none)else none)else bif decide (a.1=1)then oB (fj N 3 a.2.1 a.2.2) fun j=>(oB (D3 N d e f j.1) fun m=>if fits (b-1)then l ((b-1),m.1,m.2.1,m.2.2.1,j.2.1,j.2.2)else none)else oB (Ef N a.2.1 a.2.2) fun i=>oB (D1 N d e f i.1) fun k=>if fits (b-1)then l ((b-1),k.1,k.2.1,k.2.2.1,i.2.1,i.2.2)else none)else some (d,e,f,p,q)) N (o.1,r.1,r.2,([]:List cU),o.2.1,o.2.2))
theorem ag2 :ax 79 (mo [] [zp] (cr (Eg N))):=
 aB (al (amG N) (al (aho N) (al (oK N) (al (agJ N) (al (ag1 N) (al (ams N) (al (agZ N) aA))))))) func79 rfl N (ae (ae (.seq (ae (aR ahn)) .no))) _ (rs:=[900000])
def y6 (b:List Int) (d:List Int) (e:Int):Option (Int×(List Int)×Int):=
 (oB (fj N (b.length:Int) d e) fun a=>oB (idx b a.1) fun c=>some (c,a.2.1,a.2.2))
theorem Rd :ax 25 (mo [.af cR] [ab] (eI (y6 N))):=
 aB (al (oK N) aA) func25 rfl N .no _ (rs:=[900000])
def Eb (N:Nat):(D:Nat)->Int->Option (ah)
 |0,_=>none
 |D+1,n=>
 bif decide (n<(-9223372036854775807))then
 some ([45,57,50,50,51,51,55,50,48,51,54,56,53,52,55,55,53,56,48,56]:ah)
 else
 bif decide (n<0)then
 if fits (0-n)then oB (Eb N D (0-n)) fun r=>
 (if([45]:ah).length+r.length<=9223372036854775807 then
 some (([45]:ah)++r)
 else none)else none
 else
 bif decide (n<10)then
 if fits (48+n)then some (bytesOf ([(IntKind.u8.wrap (48+n))]:List Int))else none
 else
 if 10≠0 then
 if fits (n.tdiv 10)then oB (Eb N D (n.tdiv 10)) fun a=>
 (if 10≠0 then
 if fits (48+(n.tmod 10))then if a.length+(bytesOf ([(IntKind.u8.wrap (48+(n.tmod 10)))]:List Int)).length<=9223372036854775807 then
 some (a++(bytesOf ([(IntKind.u8.wrap (48+(n.tmod 10)))]:List Int)))
 else none else none
 else none)else none
 else none
def Ec (m:List Int) (k:Int):Option ((List ah)×(List b3)×(List cU)×(List Int)×Int):=
 (oB (Eg N m k) fun d=>oB (mR N d.1 d.2.1 d.2.2.1) fun a=>bif decide ((0:Int)<a.2.2.length)then oB (fj N (a.2.2.length:Int) d.2.2.2.1 d.2.2.2.2) fun b=>(oB (fj N 16 b.2.1 b.2.2) fun c=>bif decide (c.1=0)then oB (a.2.2[b.1.toNat]?) fun h=>(if 0<=b.1/\b.1<(a.2.2.length:Int)then oB (a.2.2[b.1.toNat]?) fun o=>(if b.1.toNat=b.1.toNat then oB (y6 N ([1,77]:List Int) c.2.1 c.2.2) fun e=>(if room h.2.length ([e.1]:List Int).length 8 then if 0<=b.1/\b.1<(a.2.2.length:Int)then if b.1.toNat=b.1.toNat then oB (a.2.2[b.1.toNat]?) fun l=>(some (a.1,a.2.1,(a.2.2.set b.1.toNat (l.1,(h.2++([e.1]:List Int)))),e.2.1,e.2.2))else none else none else none)else none)else none)else bif decide (c.1=1)then if 0<=b.1/\b.1<(a.2.2.length:Int)then oB (a.2.2[b.1.toNat]?) fun j=>(if room a.2.2.length ([j]:List cU).length 72 then some (a.1,a.2.1,(a.2.2++([j]:List cU)),c.2.1,c.2.2)else none)else none else bif decide (c.1=2)then oB (a.2.2[b.1.toNat]?) fun f=>(if 0<=b.1/\b.1<(a.2.2.length:Int)then oB (a.2.2[b.1.toNat]?) fun n=>(if b.1.toNat=b.1.toNat then if room f.1.2.length ([(([]:ah),([]:ah),([]:c6))]:List bJ).length 56 then if 0<=b.1/\b.1<(a.2.2.length:Int)then if b.1.toNat=b.1.toNat then oB (a.2.2[b.1.toNat]?) fun i=>(some (a.1,a.2.1,(a.2.2.set b.1.toNat ((i.1.1,(f.1.2++([(([]:ah),([]:ah),([]:c6))]:List bJ))),i.2)),c.2.1,c.2.2))else none else none else none else none)else none)else some (a.1,a.2.1,a.2.2,c.2.1,c.2.2))else some (a.1,a.2.1,a.2.2,d.2.2.2.1,d.2.2.2.2))
theorem ag6 :ax 26 (mo [] [zo] (cr (Ec N))):=
 aB (al (ag2 N) (al (BM N) (al (oK N) (al (Rd N) aA)))) func26 rfl N (ae (ae (.seq (ae (.cond (ae (ae (.block (ae (.cond (.zk [.outs 9 4 [(2,200,3)]]) (ae (.cond (.zk [.iz 3 2]) (ae (.cond (.zk [.outs 9 4 [(1,201,119)]]) .no))))))))) .no)) .no))) _ (wr:=[34,47,62,63]) (rs:=[900000]) (dw:=[7,62])
def vU (N:Nat):Option ((List ah)):=
 (some ([([99,97,116]:ah),([99,97,116,115]:ah),([100,111,103]:ah),([100,111,103,115]:ah),([114,117,110]:ah),([114,117,110,110,105,110,103]:ah),([116,104,101]:ah),([114,101,100]:ah),([98,105,103]:ah),([110,101,119]:ah),([121,111,114,107]:ah),([110,121]:ah),([102,111,120]:ah)]:List ah))
theorem afo :ax 150 ⟨⟨[],[]⟩,⟨[nU],[]⟩,fun a=>vU N⟩:=
 aB aA func150 rfl N .no _
def y4 (p:List Int) (m:Int):Option (Int×ah×(List ah)×Int×Int×(List Int)×Int):=
 (oB (mS N ([([98,111,100,121]:ah),([98,111,100,121]:ah),([116,105,116,108,101]:ah)]:List ah) p m) fun b=>oB (fj N 9 b.2.1 b.2.2) fun a=>bif decide (a.1=0)then some (1,([]:ah),([]:List ah),0,0,a.2.1,a.2.2)else bif decide (a.1=1)then oB (vU N) fun q=>(oB (mS N q a.2.1 a.2.2) fun l=>oB (vU N) fun n=>oB (mS N n l.2.1 l.2.2) fun i=>oB (fj N 3 i.2.1 i.2.2) fun k=>some (3,b.1,([l.1,i.1]:List ah),k.1,0,k.2.1,k.2.2))else bif decide (a.1=2)then oB (mS N ([([99,111,116]:ah),([100,117,103]:ah),([114,110]:ah),([102,111,103]:ah)]:List ah) a.2.1 a.2.2) fun h=>(oB (fj N 2 h.2.1 h.2.2) fun d=>if fits (1+d.1)then some (4,b.1,([h.1]:List ah),(1+d.1),0,d.2.1,d.2.2)else none)else bif decide (a.1=3)then oB (mS N ([([99,42]:ah),([63,111,63]:ah),([42,110]:ah),([42]:ah)]:List ah) a.2.1 a.2.2) fun f=>(some (5,b.1,([f.1]:List ah),0,0,f.2.1,f.2.2))else bif decide (a.1=4)then oB (fj N 4 a.2.1 a.2.2) fun c=>(oB (fj N 3 c.2.1 c.2.2) fun e=>if fits (c.1+e.1)then some (6,([114,97,116,101]:ah),([]:List ah),c.1,(c.1+e.1),e.2.1,e.2.2)else none)else oB (vU N) fun o=>oB (mS N o a.2.1 a.2.2) fun j=>some (2,b.1,([j.1]:List ah),0,0,j.2.1,j.2.2))
theorem afk :ax 80 (mo [] [.agg [ab,aD,nU,ab,ab,.aT]] (cr (y4 N))):=
 aB (al (IF N) (al (oK N) (al (afo N) aA))) func80 rfl N .no _ (rs:=[900000])
def afi :aw:=⟨.box 900000 0::ab:: .dead:: .dead:: .box 4 0::ak 36 (a7::ak 30 []),[(4,false,[ab,aD,.aT,ab,ab,.aT]),kV]⟩
def afg :aw:=⟨.box 900000 0::ab:: .dead:: .dead:: .box 4 0:: .box 5 0::ab::ak 65 [],[(4,false,[ab,aD,.aT,ab,ab,.aT]),(5,false,[ab,aD,.aT,ab,ab,.own 700505 .q 37 true]),kV]⟩
def nP (N:Nat):(D:Nat)->Int->(List Int)->Int->Option (Int×ah×(List ah)×Int×Int×(List aN)×(List Int)×Int)
 |0,_,_,_=>none
 |D+1,deep,b,a8=>
 bif decide (deep<=1)then
 oB (y4 N b a8) fun r=>
 (some (r.1,r.2.1,r.2.2.1,r.2.2.2.1,r.2.2.2.2.1,([]:List aN),r.2.2.2.2.2.1,r.2.2.2.2.2.2))
 else
 oB (fj N 3 b a8) fun s=>
 bif decide (s.1=0)then
 oB (y4 N s.2.1 s.2.2) fun p=>
 (some (p.1,p.2.1,p.2.2.1,p.2.2.2.1,p.2.2.2.2.1,([]:List aN),p.2.2.2.2.2.1,p.2.2.2.2.2.2))
 else
 oB (fj N 6 s.2.1 s.2.2) fun h=>
 bif decide (h.1=0)then
 if fits (deep-1)then oB (nP N D (deep-1) h.2.1 h.2.2) fun j=>
 (if fits (deep-1)then oB (nP N D (deep-1) j.2.2.2.2.2.2.1 j.2.2.2.2.2.2.2) fun k=>
 (some (9,([]:ah),([]:List ah),0,0,([(aN.mk j.1 j.2.1 j.2.2.1 j.2.2.2.1 j.2.2.2.2.1 j.2.2.2.2.2.1),(aN.mk k.1 k.2.1 k.2.2.1 k.2.2.2.1 k.2.2.2.2.1 k.2.2.2.2.2.1)]:List aN),k.2.2.2.2.2.2.1,k.2.2.2.2.2.2.2))else none)else none
 else
 bif decide (h.1=1)then
 oB (fj N 4 h.2.1 h.2.2) fun v=>
 (if fits (2+v.1)then if fits (deep-1)then oB (nP N D (deep-1) v.2.1 v.2.2) fun l=>
 (some (10,([]:ah),([]:List ah),(2+v.1),0,([(aN.mk l.1 l.2.1 l.2.2.1 l.2.2.2.1 l.2.2.2.2.1 l.2.2.2.2.2.1)]:List aN),l.2.2.2.2.2.2.1,l.2.2.2.2.2.2.2))else none else none)
 else
 meet (fun(g:Int×Bool×Int×ah×Int×Int×(List Int)×Int)=>
 match g with
 |(d,t41,fF,I,K,L,B,C)=>
 bif t41 then
 if fits (d-1)then oB (nP N D (d-1) B C) fun o=>
 (if fits (d-1)then oB (nP N D (d-1) o.2.2.2.2.2.2.1 o.2.2.2.2.2.2.2) fun e=>
 (some (7,([]:ah),([]:List ah),0,0,([(aN.mk o.1 o.2.1 o.2.2.1 o.2.2.2.1 o.2.2.2.2.1 o.2.2.2.2.2.1),(aN.mk e.1 e.2.1 e.2.2.1 e.2.2.2.1 e.2.2.2.2.1 e.2.2.2.2.2.1)]:List aN),e.2.2.2.2.2.2.1,e.2.2.2.2.2.2.2))else none)else none
 else
 oB (fj N 2 B C) fun i=>
 if fits (2+i.1)then iter (fun go (g:Int×Int×Int×ah×Int×Int×Int×ah×Int×Int×(List aN)×(List Int)×Int)=>
 match g with
 |(f,n,M,x,y,z,q,F,G,H,A,t,u)=>
 bif decide ((0:Int)<n)then
 if fits (f-1)then oB (nP N D (f-1) t u) fun a=>
 (if room A.length ([(aN.mk a.1 a.2.1 a.2.2.1 a.2.2.2.1 a.2.2.2.2.1 a.2.2.2.2.2.1)]:List aN).length 88 then
 if fits (n-1)then go (f,(n-1),M,x,y,z,q,F,G,H,(A++([(aN.mk a.1 a.2.1 a.2.2.1 a.2.2.2.1 a.2.2.2.2.1 a.2.2.2.2.2.1)]:List aN)),a.2.2.2.2.2.2.1,a.2.2.2.2.2.2.2)else none
 else none)else none
 else
 some (q,F,([]:List ah),G,H,A,t,u)) N (d,(2+i.1),fF,I,K,L,8,([]:ah),0,0,([]:List aN),i.2.1,i.2.2)else none) fun J=>
 bif decide (h.1=2)then
 J (deep,true,0,([]:ah),0,0,h.2.1,h.2.2)
 else
 J (deep,(decide (h.1=3)),0,([]:ah),0,0,h.2.1,h.2.2)
def BE (N D:Nat):Model:=(mo [ab] [.agg [ab,aD,nU,ab,ab,.own 2 .q 37 true]] (eI (nP N D)))
theorem afl (N D:Nat) (a:ax 27 (BE N D)):ax 27 (BE N (D+1)):=
 aB (al a (al (afk N) (al (oK N) aA))) func27 rfl N (ae (ae (.seq (ae (.block (ae (.cond .no (ae (.cond .no (.meet afi .no .no))))))) (ae (.seq (ae (aR afg)) .no))))) (BE N (D+1)) (rs:=[900000])
theorem Pr (N:Nat):∀D,ax 27 (BE N D)
 |0=>lg ⟨_,func27,by decide,by kernel_rfl⟩ _ (fun a=>rfl)
 |D+1=>afl N D (Pr N D)
def D0 (d:List Int):Option ((List ah)×(List b3)×(List cU)×Int×ah×(List ah)×Int×Int×(List aN)×Int):=
 (oB (y5 N d) fun c=>oB (Ec N c.1 c.2) fun b=>oB (nP N N 3 b.2.2.2.1 b.2.2.2.2) fun a=>oB (y6 N ([1,2,16,0]:List Int) a.2.2.2.2.2.2.1 a.2.2.2.2.2.2.2) fun e=>some (b.1,b.2.1,b.2.2.1,a.1,a.2.1,a.2.2.1,a.2.2.2.1,a.2.2.2.2.1,a.2.2.2.2.2.1,e.1))
theorem ag0 :ax 6 (aI [rr] [.bR [zo,.agg [ab,aD,.own 4 .str 9 true,ab,ab,.own 5 .q 37 true],ab]] (dY (D0 N))):=
 aB (al (amu N) (al (ag6 N) (al (Pr N N) (al (Rd N) aA)))) func6 rfl N .no _
def sS (N:Nat) (a:Int):cx:=
 (bif decide ((97:Int)<=a)then bif decide (a<=122)then some true else(bif decide ((48:Int)<=a)then some (decide (a<=57))else some false)else bif decide ((48:Int)<=a)then some (decide (a<=57))else some false)
theorem Ir :ax 151 (aI [.af (.int .u8)] [a7] (dY (sS N))):=
 aB aA func151 rfl N .no _
def dV (N:Nat) (a:Int) (b:Int) (c:Int):cx:=
 (bif decide (b<=a)then some (decide (a<=c))else some false)
theorem hg :ax 47 (aI [ab,ab,ab] [a7] (eI (dV N))):=
 aB aA func47 rfl N .no _
def ak4 :aw:=⟨aD::ak 4 (ab::ab::ak 11 []),[]⟩
def jh (d:ah):cx:=
 (iter (fun e (b,c,a)=>bif decide (a<c)then oB (idx b a) fun h=>(oB (sS N (h.toNat:Int)) fun f=>bif !f then some false else if fits (a+1)then e (b,c,(a+1))else none)else oB (dV N (b.length:Int) 1 12) fun j=>some j) N (d,(d.length:Int),(0:Int)))
theorem pN :ax 81 (aI [aD] [a7] (dY (jh N))):=
 aB (al (Ir N) (al (hg N) aA)) func81 rfl N (ae (.seq (ae (aR ak4)) .no)) _
def aij :aw:=⟨.dead:: .box 1 0::ak 4 (.af fg::ab::ab::ak 29 []),[(1,false,[.af fg])]⟩
def xI (e:cD):cx:=
 (iter (fun f (d,c,a,b)=>bif decide (a<c)then oB (idx d a) fun h=>(oB (jh N h.1) fun i=>bif !i then some false else bif decide ((0:Int)<a)then if fits (a-1)then oB (idx b (a-1)) fun k=>(bif !Op.bytesLess k.1 h.1 then some false else if fits (a+1)then f (d,c,(a+1),b)else none)else none else if fits (a+1)then f (d,c,(a+1),b)else none)else some (decide ((b.length:Int)<=24))) N (e,(e.length:Int),(0:Int),e))
theorem Oh :ax 28 (aI [.agg [.af fg]] [a7] (dY (xI N))):=
 aB (al (pN N) aA) func28 rfl N (ae (.seq (ae (aR aij)) .no)) _
def ajE :aw:=⟨bl::ak 4 (bl::ab::ab::ak 21 []),[]⟩
def BU (d:List ah):cx:=
 (iter (fun f (b,c,e,a)=>bif decide (a<e)then oB (idx c a) fun h=>(oB (jh N h) fun i=>bif !i then some false else bif decide ((0:Int)<a)then if fits (a-1)then oB (idx b (a-1)) fun k=>(bif !Op.bytesLess k h then some false else if fits (a+1)then f (b,c,e,(a+1))else none)else none else if fits (a+1)then f (b,c,e,(a+1))else none)else some true) N (d,d,(d.length:Int),(0:Int)))
theorem aml :ax 100 (aI [bl] [a7] (dY (BU N))):=
 aB (al (pN N) aA) func100 rfl N (ae (.seq (ae (aR ajE)) .no)) _
def Ie (N:Nat) (a:ah) (b:ah):cx:=
 (bif decide ((b.length:Int)<=(a.length:Int))then if fits ((a.length:Int)-(b.length:Int))then oB (cut a ((a.length:Int)-(b.length:Int)) (a.length:Int)) fun c=>(some (decide (c=b)))else none else some false)
theorem akI :ax 234 (aI [aD,aD] [a7] (cr (Ie N))):=
 aB aA func234 rfl N .no _
def Ca (c:ah) (a:ah):cx:=
 (oB (Ie N c a) fun b=>some b)
theorem alX :ax 162 (aI [aD,aD] [a7] (cr (Ca N))):=
 aB (al (akI N) aA) func162 rfl N .no _
def akt :aw:=⟨aD:: .dead:: .dead::a7::ak 32 [],[]⟩
def aj5 :aw:=⟨aD:: .dead:: .dead::a7::ak 6 (.own 600010 .str 9 true::ab::ab::ak 23 []),[]⟩
def vc (l:ah):Option (ah):=
 (oB (jh N l) fun m=>bif !m then some ([]:ah)else iter (fun i (j,n)=>bif n then iter (fun k (a,h,e,d,b)=>bif decide (b<d)then oB (idx e b) fun c=>(oB (Ca N a c) fun p=>bif p then if fits ((a.length:Int)-(c.length:Int))then bif decide ((3:Int)<=((a.length:Int)-(c.length:Int)))then if fits ((a.length:Int)-(c.length:Int))then oB (cut a 0 ((a.length:Int)-(c.length:Int))) fun o=>(i (o,true))else none else(if fits (b+1)then k (a,h,e,d,(b+1))else none)else none else if fits (b+1)then k (a,h,e,d,(b+1))else none)else i (a,h)) N (j,false,([([105,110,103]:ah),([101,100]:ah),([101,115]:ah),([108,121]:ah),([115]:ah)]:List ah),(([([105,110,103]:ah),([101,100]:ah),([101,115]:ah),([108,121]:ah),([115]:ah)]:List ah).length:Int),(0:Int))else some j) N (l,true))
theorem QZ :ax 101 (aI [aD] [aD] (dY (vc N))):=
 aB (al (pN N) (al (alX N) aA)) func101 rfl N (ae (ae (.seq (ae (.block (.loop akt (ae (.block (ae (ae (aR aj5)))))))) .no))) _
def aiI :aw:=⟨bl::aD::ak 5 (ab::ab::ak 10 []),[]⟩
def Ih (e:List ah) (h:ah):eH:=
 (iter (fun f (c,b,d,a)=>bif decide (a<d)then oB (idx c a) fun i=>(bif decide (b=i)then some a else if fits (a+1)then f (c,b,d,(a+1))else none)else some (-1)) N (e,h,(e.length:Int),(0:Int)))
theorem aiO :ax 163 (aI [bl,aD] [ab] (cr (Ih N))):=
 aB aA func163 rfl N (ae (.seq (ae (aR aiI)) .no)) _
def vg (b:List ah) (c:ah):cx:=
 (oB (Ih N b c) fun a=>some (decide ((0:Int)<=a)))
theorem QI :ax 102 (aI [bl,aD] [a7] (cr (vg N))):=
 aB (al (aiO N) aA) func102 rfl N .no _
def ajH :aw:=⟨.dead:: .box 1 0::ak 22 (.af dx::ab::ab::ak 46 []),[(1,false,[bl,.af dx])]⟩
def alh :aw:=⟨.dead:: .box 1 0::ak 22 (.af dx::ab::ab::ak 12 (a7::ak 7 (a7:: .dead:: .dead::bl::ab::ab::ak 20 []))),[(1,false,[bl,.af dx])]⟩
def oI (h:List ah) (b:List b3):cx:=
 (bif decide ((6:Int)<h.length)then some false else oB (BU N h) fun u=>bif !u then some false else bif decide ((4:Int)<b.length)then some false else iter (fun y (l,o,f,C,w)=>bif decide (f<o)then oB (idx l f) fun a=>(oB (dV N (a.1.length:Int) 1 3) fun E=>bif !E then some false else oB (jh N a.2) fun q=>bif !q then some false else oB (vc N a.2) fun r=>bif !decide (r=a.2)then some false else iter (fun B (k,t,e,v,D,m,n,c,i,p)=>bif decide (c<n)then oB (idx m c) fun d=>(oB (jh N d) fun A=>bif !A then some false else oB (vc N d) fun z=>bif !decide (z=d)then some false else oB (vg N i d) fun x=>bif x then some false else if fits (c+1)then B (k,t,e,v,D,m,n,(c+1),i,p)else none)else if fits (e+1)then y (k,t,(e+1),i,p)else none) N (l,o,f,(!q),(!decide (r=a.2)),a.1,(a.1.length:Int),(0:Int),C,w))else some true) N (b,(b.length:Int),(0:Int),h,b))
theorem sX :ax 44 (aI [fb] [a7] (cr (oI N))):=
 aB (al (aml N) (al (hg N) (al (pN N) (al (QZ N) (al (QI N) aA))))) func44 rfl N (ae (ae (.seq (ae (.block (.loop ajH (ae (ae (.seq (.block (ae (ae (ae (aR alh))))) .no)))))) .no))) _
def ama :aw:=⟨aD::ak 4 (ab::ab::ak 16 []),[]⟩
def ve (d:ah):cx:=
 (iter (fun e (b,c,a)=>bif decide (a<c)then oB (idx b a) fun f=>(bif decide ((f.toNat:Int)<32)then some false else oB (idx b a) fun i=>bif decide ((126:Int)<(i.toNat:Int))then some false else if fits (a+1)then e (b,c,(a+1))else none)else some (decide ((b.length:Int)<=160))) N (d,(d.length:Int),(0:Int)))
theorem Ij :ax 126 (aI [aD] [a7] (dY (ve N))):=
 aB aA func126 rfl N (ae (.seq (ae (aR ama)) .no)) _
def ai3 :aw:=⟨.dead:: .box 1 0::ak 22 (.af fg::ab::ab::ak 66 []),[(1,false,[ab,.af fg,.af gb])]⟩
def akR :aw:=⟨.dead:: .box 1 0::ak 57 (.af gb::ab::ab::ak 31 []),[(1,false,[ab,.af fg,.af gb])]⟩
def pJ (q:Int) (e:cD) (u:dz):cx:=
 (oB (dV N q 1 9999) fun w=>bif !w then some false else bif decide ((3:Int)<e.length)then some false else bif decide ((3:Int)<u.length)then some false else iter (fun t (i,m,a,o,d,c)=>bif decide (a<m)then oB (idx i a) fun l=>(oB (jh N l.1) fun B=>bif !B then some false else oB (ve N l.2) fun A=>bif !A then some false else bif decide ((0:Int)<a)then if fits (a-1)then oB (idx d (a-1)) fun x=>(bif !Op.bytesLess x.1 l.1 then some false else if fits (a+1)then t (i,m,(a+1),o,d,c)else none)else none else if fits (a+1)then t (i,m,(a+1),o,d,c)else none)else iter (fun v (h,j,b,p,r,f)=>bif decide (b<j)then oB (idx h b) fun k=>(oB (jh N k.1) fun C=>bif !C then some false else oB (dV N k.2 0 999999999) fun z=>bif !z then some false else bif decide ((0:Int)<b)then if fits (b-1)then oB (idx f (b-1)) fun y=>(bif !Op.bytesLess y.1 k.1 then some false else if fits (b+1)then v (h,j,(b+1),p,r,f)else none)else none else if fits (b+1)then v (h,j,(b+1),p,r,f)else none)else some true) N (c,(c.length:Int),(0:Int),o,d,c)) N (e,(e.length:Int),(0:Int),q,e,u))
theorem Cs :ax 123 (aI [jN] [a7] (eI (pJ N))):=
 aB (al (hg N) (al (pN N) (al (Ij N) aA))) func123 rfl N (ae (ae (.seq (ae (aR ai3)) (.seq (ae (aR akR)) .no)))) _
def akL :aw:=⟨.af cI::ak 4 (.af cI::ab::ab::ak 26 []),[]⟩
def vl (e:List bq):cx:=
 (iter (fun h (b,d,f,a)=>bif decide (a<f)then oB (idx d a) fun c=>(oB (pJ N c.1 c.2.1 c.2.2) fun i=>bif !i then some false else bif decide ((0:Int)<a)then if fits (a-1)then oB (idx b (a-1)) fun k=>(bif decide (c.1<=k.1)then some false else if fits (a+1)then h (b,d,f,(a+1))else none)else none else if fits (a+1)then h (b,d,f,(a+1))else none)else some (decide ((b.length:Int)<=16))) N (e,e,(e.length:Int),(0:Int)))
theorem Iw :ax 56 (aI [.af cI] [a7] (dY (vl N))):=
 aB (al (Cs N) aA) func56 rfl N (ae (.seq (ae (aR akL)) .no)) _
def B1 (N:Nat) (c:Int) (a:cD) (b:dz):Option bq:=
 (if room ([]:cD).length a.length 32 then if room ([]:dz).length b.length 24 then some (c,(([]:cD)++a),(([]:dz)++b))else none else none)
theorem alj :ax 125 (aI [jN] [EU] (eI (B1 N))):=
 aB aA func125 rfl N .no _
def aks :aw:=⟨ak 3 (.own 600003 cF 109 true::ak 3 (.af cI::ab::ab::ak 10 [])),[]⟩
def x8 (h:List bq):lJ:=
 (iter (fun i (b,e,f,a)=>bif decide (a<f)then oB (idx e a) fun c=>(oB (B1 N c.1 c.2.1 c.2.2) fun d=>if room b.length ([d]:List bq).length 56 then if fits (a+1)then i ((b++([d]:List bq)),e,f,(a+1))else none else none)else some b) N (([]:List bq),h,(h.length:Int),(0:Int)))
theorem Q6 :ax 58 (aI [.af cI] [.own 1 cF 109 true] (dY (x8 N))):=
 aB (al (alj N) aA) func58 rfl N (ae (ae (.seq (ae (aR aks)) .no))) _
def pL (N:Nat) (a:Int):eH:=
 (bif decide ((65:Int)<=a)then bif decide (a<=90)then some (IntKind.u8.wrap ((IntKind.u8.wrap (a+97))-65))else(some a)else some a)
theorem ajJ :ax 188 (aI [.af (.int .u8)] [.af (.int .u8)] (dY (pL N))):=
 aB aA func188 rfl N .no _
def akF :aw:=⟨aD:: .dead:: .dead:: .own 600003 pq 189 true::ab::ak 57 [],[]⟩
def aki :aw:=⟨aD:: .dead:: .dead:: .own 600003 pq 189 true::ab:: .box 5 0:: .own 600006 (.int .u8) 5 true::ak 55 [],[(5,false,[aD,ab,ab,ab])]⟩
def Cl (o:ah):Option ((List kt)):=
 (oB (ve N o) fun r=>bif !r then some ([]:List kt)else iter (fun k (j,i,f)=>bif decide (f<(j.length:Int))then oB (idx j f) fun x=>(oB (pL N (x.toNat:Int)) fun u=>oB (sS N u) fun v=>bif !v then if fits (f+1)then k (j,i,(f+1))else none else iter (fun q (c,e,a,b,m,h,d,n)=>bif decide (a<(c.length:Int))then oB (idx c a) fun t=>(oB (pL N (t.toNat:Int)) fun z=>oB (sS N z) fun w=>bif w then bif decide ((b.length:Int)<12)then oB (idx c a) fun y=>(oB (pL N (y.toNat:Int)) fun p=>if room b.length ([p]:List Int).length 1 then if fits (a+1)then q (c,e,(a+1),(b++([p]:List Int)),m,h,d,n)else none else none)else(if fits (a+1)then q (c,e,(a+1),b,m,h,d,n)else none)else if room e.length ([((bytesOf b),h,d,a)]:List kt).length 40 then k (c,(e++([((bytesOf b),h,d,a)]:List kt)),a)else none)else if room e.length ([((bytesOf b),h,d,a)]:List kt).length 40 then k (c,(e++([((bytesOf b),h,d,a)]:List kt)),a)else none) N (j,i,f,([]:List Int),([]:ah),(i.length:Int),f,(0:Int)))else some i) N (o,([]:List kt),(0:Int)))
theorem ak5 :ax 127 (aI [aD] [.own 1 pq 189 true] (dY (Cl N))):=
 aB (al (Ij N) (al (ajJ N) (al (Ir N) aA))) func127 rfl N (ae (ae (ae (.seq (ae (.block (.loop akF (ae (.block (ae (ae (ae (.seq (aR aki) .no))))))))) .no)))) _
def amn :aw:=⟨.dead:: .af gb::ab:: .box 3 0::ak 3 (.af (.opt ij)::ak 8 (ab::ab::ak 73 [])),[(3,false,[bl,.af dx])]⟩
def alV :aw:=⟨.dead:: .af gb::ab:: .box 3 0::ak 3 (.af (.opt ij):: .dead:: .ptr ij::a7::ak 5 (ab::ab::ak 31 (a7::ak 4 (bl::ab::ab::ak 34 [])))),[(3,false,[bl,.af dx])]⟩
def B0 (c:List ah) (c2:List b3) (dk:dz) (C:Int):Option ((Option b3)):=
 (iter (fun go (f,j,i,t16,t17,c3,c4)=>bif decide (t17<t16)then oB (idx c4 t17) fun e=>(if fits ((f.length:Int)-j)then bif decide (((f.length:Int)-j)<(e.1.length:Int))then if fits (t17+1)then go (f,j,i,t16,(t17+1),c3,c4)else none else(bif !(Option.isNone i)then oB i fun p=>(bif decide ((e.1.length:Int)<=(p.1.length:Int))then if fits (t17+1)then go (f,j,i,t16,(t17+1),c3,c4)else none else iter (fun go2 (a,g,k,r,u,t162,t172,t49,t54,t55,t56,c5,y)=>bif decide (t56<t55)then oB (idx t54 t56) fun J=>(if fits (g+t56)then oB (idx a (g+t56)) fun F=>(bif u then bif decide (F.1=J)then oB (idx a g) fun G=>(if fits (G.2+t56)then if fits (t56+1)then go2 (a,g,k,r,(decide (F.2=(G.2+t56))),t162,t172,t49,t54,t55,(t56+1),c5,y)else none else none)else(if fits (t56+1)then go2 (a,g,k,r,false,t162,t172,t49,t54,t55,(t56+1),c5,y)else none)else if fits (t56+1)then go2 (a,g,k,r,false,t162,t172,t49,t54,t55,(t56+1),c5,y)else none)else none)else bif u then if fits (t172+1)then go (a,g,(some r),t162,(t172+1),c5,y)else none else if fits (t172+1)then go (a,g,k,t162,(t172+1),c5,y)else none) N (f,j,i,e,true,t16,t17,(decide ((e.1.length:Int)<=(p.1.length:Int))),e.1,(e.1.length:Int),(0:Int),c3,c4))else iter (fun x (b,h,l,B,o,t163,t173,v,s,t,d,z,A)=>bif decide (d<t)then oB (idx s d) fun K=>(if fits (h+d)then oB (idx b (h+d)) fun H=>(bif o then bif decide (H.1=K)then oB (idx b h) fun I=>(if fits (I.2+d)then if fits (d+1)then x (b,h,l,B,(decide (H.2=(I.2+d))),t163,t173,v,s,t,(d+1),z,A)else none else none)else(if fits (d+1)then x (b,h,l,B,false,t163,t173,v,s,t,(d+1),z,A)else none)else if fits (d+1)then x (b,h,l,B,false,t163,t173,v,s,t,(d+1),z,A)else none)else none)else bif o then if fits (t173+1)then go (b,h,(some B),t163,(t173+1),z,A)else none else if fits (t173+1)then go (b,h,l,t163,(t173+1),z,A)else none) N (f,j,i,e,true,t16,t17,false,e.1,(e.1.length:Int),(0:Int),c3,c4))else none)else some i) N (dk,C,(none:Option b3),(c2.length:Int),(0:Int),c,c2))
theorem amk :ax 128 (aI [fb,.af gb,ab] [.af (.opt ij)] (dq (B0 N))):=
 aB aA func128 rfl N (ae (ae (.seq (ae (.block (.loop amn (ae (ae (.seq (.block (ae (ae (ae (ae (.seq (ae (aR alV)) .no)))))) .no)))))) .no))) _
def ajb :aw:=⟨.dead:: .dead:: .box 2 0:: .dead:: .dead:: .own 600005 hr 114 true:: .own 600006 hr 114 true::ak 17 (.own 600024 pq 189 true::ab::ab::ak 67 []),[(2,false,[bl,.af dx])]⟩
def akc :aw:=⟨.dead:: .dead:: .box 2 0:: .dead:: .dead:: .own 600005 hr 114 true:: .own 600006 hr 114 true::ak 3 (ab::ak 83 []),[(2,false,[bl,.af dx])]⟩
def sU (y:List ah) (v:List b3) (u:ah):Option (na):=
 (oB (oI N y v) fun C=>bif !C then some ([]:dz)else oB (ve N u) fun G=>bif !G then some ([]:dz)else oB (Cl N u) fun B=>iter (fun n (j,e,i,l,a,d,h)=>bif decide (a<l)then oB (idx i a) fun k=>(oB (vc N k.1) fun r=>oB (vg N d k.1) fun E=>bif !E then oB (vg N d r) fun D=>(bif !D then if room e.length ([(r,k.2.1)]:dz).length 24 then if fits (a+1)then n (j,(e++([(r,k.2.1)]:dz)),i,l,(a+1),d,h)else none else none else if fits (a+1)then n (j,e,i,l,(a+1),d,h)else none)else if fits (a+1)then n (j,e,i,l,(a+1),d,h)else none)else iter (fun x (f,c,b,o,p)=>bif decide (b<(c.length:Int))then oB (B0 N o p c b) fun m=>(bif Option.isNone m then oB (idx c b) fun A=>(if room f.length ([A]:dz).length 24 then if fits (b+1)then x ((f++([A]:dz)),c,(b+1),o,p)else none else none)else oB m fun t=>oB (idx c b) fun w=>if room f.length ([(t.2,w.2)]:dz).length 24 then oB m fun z=>(if fits (b+(z.1.length:Int))then x ((f++([(t.2,w.2)]:dz)),c,(b+(z.1.length:Int)),o,p)else none)else none)else some f) N (j,e,(0:Int),d,h)) N (([]:dz),([]:dz),B,(B.length:Int),(0:Int),y,v))
theorem Cr :ax 59 (aI [fb,aD] [.own 1 hr 114 true] (eI (sU N))):=
 aB (al (sX N) (al (Ij N) (al (ak5 N) (al (QZ N) (al (QI N) (al (amk N) aA)))))) func59 rfl N (ae (ae (ae (ae (.seq (ae (aR ajb)) (.seq (ae (aR akc)) .no)))))) _
def C2 (N:Nat) (a:ah) (d:ah) (e:c6) (b:ah) (c:ah×Int):cx:=
 (bif decide (a=b)then some (decide (d=c.1))else some false)
theorem ajK :ax 130 (aI [tH,.ptr .str,.ptr hr] [a7] (fm (C2 N))):=
 aB aA func130 rfl N .no _
def aj2 :aw:=⟨.af eU:: .aV 130 [.ptr .str,.ptr hr]::ak 5 (ab::ab::ak 10 []),[]⟩
def yq (f:List bJ) (k:ah×ah×Int):eH:=
 (iter (fun h (d,b,e,a)=>bif decide (a<e)then oB (idx d a) fun c=>(oB (C2 N c.1 c.2.1 c.2.2 b.1 b.2) fun i=>bif i then some a else if fits (a+1)then h (d,b,e,(a+1))else none)else some (-1)) N (f,k,(f.length:Int),(0:Int)))
theorem alx :ax 129 (aI [.af eU,.aV 130 [.ptr .str,.ptr hr]] [ab] (cr (yq N))):=
 aB (al (ajK N) aA) func129 rfl N (ae (.seq (ae (aR aj2)) .no)) _
def Bl (f:ah) (h:ah) (i:Int) (e:Int) (q:List bq) (a:List bJ):Option ((List bq)×(List bJ)):=
 (oB (yq N a (f,h,i)) fun d=>bif decide (d<0)then if room a.length ([(f,h,([]:c6))]:List bJ).length 56 then if 0<=(a.length:Int)/\(a.length:Int)<((a++([(f,h,([]:c6))]:List bJ)).length:Int)then oB ((a++([(f,h,([]:c6))]:List bJ))[(a.length:Int).toNat]?) fun c=>(if fits ((c.2.2.length:Int)-1)then bif decide (((c.2.2.length:Int)-1)<0)then oB ((a++([(f,h,([]:c6))]:List bJ))[(a.length:Int).toNat]?) fun ac=>(if(a.length:Int).toNat=(a.length:Int).toNat then if room c.2.2.length ([(e,([]:List Int))]:c6).length 32 then if(a.length:Int).toNat=(a.length:Int).toNat then oB ((a++([(f,h,([]:c6))]:List bJ))[(a.length:Int).toNat]?) fun l=>(if fits (((c.2.2.length:Int)-1)+1)then oB (((a++([(f,h,([]:c6))]:List bJ)).set (a.length:Int).toNat (l.1,l.2.1,(c.2.2++([(e,([]:List Int))]:c6))))[(a.length:Int).toNat]?) fun n=>(oB (n.2.2[(((c.2.2.length:Int)-1)+1).toNat]?) fun D=>oB (((a++([(f,h,([]:c6))]:List bJ)).set (a.length:Int).toNat (l.1,l.2.1,(c.2.2++([(e,([]:List Int))]:c6))))[(a.length:Int).toNat]?) fun g=>if(a.length:Int).toNat=(a.length:Int).toNat then oB (((a++([(f,h,([]:c6))]:List bJ)).set (a.length:Int).toNat (l.1,l.2.1,(c.2.2++([(e,([]:List Int))]:c6))))[(a.length:Int).toNat]?) fun s=>(if(a.length:Int).toNat=(a.length:Int).toNat then if 0<=(((c.2.2.length:Int)-1)+1)/\(((c.2.2.length:Int)-1)+1)<(n.2.2.length:Int)then oB (n.2.2[(((c.2.2.length:Int)-1)+1).toNat]?) fun Lo=>(if(((c.2.2.length:Int)-1)+1).toNat=(((c.2.2.length:Int)-1)+1).toNat then if room D.2.length ([i]:List Int).length 8 then if 0<=(((c.2.2.length:Int)-1)+1)/\(((c.2.2.length:Int)-1)+1)<(n.2.2.length:Int)then if(((c.2.2.length:Int)-1)+1).toNat=(((c.2.2.length:Int)-1)+1).toNat then oB (n.2.2[(((c.2.2.length:Int)-1)+1).toNat]?) fun I=>(some (q,(((a++([(f,h,([]:c6))]:List bJ)).set (a.length:Int).toNat (l.1,l.2.1,(c.2.2++([(e,([]:List Int))]:c6)))).modify ((a.length:Int).toNat) fun v=>(v.1,v.2.1,(n.2.2.set (((c.2.2.length:Int)-1)+1).toNat (I.1,(D.2++([i]:List Int))))))))else none else none else none else none)else none else none)else none)else none)else none else none else none)else(oB ((a++([(f,h,([]:c6))]:List bJ))[(a.length:Int).toNat]?) fun F=>if(a.length:Int).toNat=(a.length:Int).toNat then if 0<=((c.2.2.length:Int)-1)/\((c.2.2.length:Int)-1)<(c.2.2.length:Int)then oB (c.2.2[((c.2.2.length:Int)-1).toNat]?) fun L=>(bif !decide (L.1=e)then oB ((a++([(f,h,([]:c6))]:List bJ))[(a.length:Int).toNat]?) fun J=>(if(a.length:Int).toNat=(a.length:Int).toNat then if room c.2.2.length ([(e,([]:List Int))]:c6).length 32 then if(a.length:Int).toNat=(a.length:Int).toNat then oB ((a++([(f,h,([]:c6))]:List bJ))[(a.length:Int).toNat]?) fun k=>(if fits (((c.2.2.length:Int)-1)+1)then oB (((a++([(f,h,([]:c6))]:List bJ)).set (a.length:Int).toNat (k.1,k.2.1,(c.2.2++([(e,([]:List Int))]:c6))))[(a.length:Int).toNat]?) fun p=>(oB (p.2.2[(((c.2.2.length:Int)-1)+1).toNat]?) fun u=>oB (((a++([(f,h,([]:c6))]:List bJ)).set (a.length:Int).toNat (k.1,k.2.1,(c.2.2++([(e,([]:List Int))]:c6))))[(a.length:Int).toNat]?) fun S=>if(a.length:Int).toNat=(a.length:Int).toNat then oB (((a++([(f,h,([]:c6))]:List bJ)).set (a.length:Int).toNat (k.1,k.2.1,(c.2.2++([(e,([]:List Int))]:c6))))[(a.length:Int).toNat]?) fun am=>(if(a.length:Int).toNat=(a.length:Int).toNat then if 0<=(((c.2.2.length:Int)-1)+1)/\(((c.2.2.length:Int)-1)+1)<(p.2.2.length:Int)then oB (p.2.2[(((c.2.2.length:Int)-1)+1).toNat]?) fun M=>(if(((c.2.2.length:Int)-1)+1).toNat=(((c.2.2.length:Int)-1)+1).toNat then if room u.2.length ([i]:List Int).length 8 then if 0<=(((c.2.2.length:Int)-1)+1)/\(((c.2.2.length:Int)-1)+1)<(p.2.2.length:Int)then if(((c.2.2.length:Int)-1)+1).toNat=(((c.2.2.length:Int)-1)+1).toNat then oB (p.2.2[(((c.2.2.length:Int)-1)+1).toNat]?) fun K=>(some (q,(((a++([(f,h,([]:c6))]:List bJ)).set (a.length:Int).toNat (k.1,k.2.1,(c.2.2++([(e,([]:List Int))]:c6)))).modify ((a.length:Int).toNat) fun x=>(x.1,x.2.1,(p.2.2.set (((c.2.2.length:Int)-1)+1).toNat (K.1,(u.2++([i]:List Int))))))))else none else none else none else none)else none else none)else none)else none)else none else none else none)else if(a.length:Int).toNat=(a.length:Int).toNat then oB (c.2.2[((c.2.2.length:Int)-1).toNat]?) fun y=>(oB ((a++([(f,h,([]:c6))]:List bJ))[(a.length:Int).toNat]?) fun Y=>if(a.length:Int).toNat=(a.length:Int).toNat then oB ((a++([(f,h,([]:c6))]:List bJ))[(a.length:Int).toNat]?) fun Z=>(if(a.length:Int).toNat=(a.length:Int).toNat then if 0<=((c.2.2.length:Int)-1)/\((c.2.2.length:Int)-1)<(c.2.2.length:Int)then oB (c.2.2[((c.2.2.length:Int)-1).toNat]?) fun R=>(if((c.2.2.length:Int)-1).toNat=((c.2.2.length:Int)-1).toNat then if room y.2.length ([i]:List Int).length 8 then if 0<=((c.2.2.length:Int)-1)/\((c.2.2.length:Int)-1)<(c.2.2.length:Int)then if((c.2.2.length:Int)-1).toNat=((c.2.2.length:Int)-1).toNat then oB (c.2.2[((c.2.2.length:Int)-1).toNat]?) fun H=>(some (q,((a++([(f,h,([]:c6))]:List bJ)).modify ((a.length:Int).toNat) fun A=>(A.1,A.2.1,(c.2.2.set ((c.2.2.length:Int)-1).toNat (H.1,(y.2++([i]:List Int))))))))else none else none else none else none)else none else none)else none)else none)else none else none)else none)else none else none else if 0<=d/\d<(a.length:Int)then oB (a[d.toNat]?) fun b=>(if fits ((b.2.2.length:Int)-1)then bif decide (((b.2.2.length:Int)-1)<0)then oB (a[d.toNat]?) fun qz=>(if d.toNat=d.toNat then if room b.2.2.length ([(e,([]:List Int))]:c6).length 32 then if d.toNat=d.toNat then oB (a[d.toNat]?) fun j=>(if fits (((b.2.2.length:Int)-1)+1)then oB ((a.set d.toNat (j.1,j.2.1,(b.2.2++([(e,([]:List Int))]:c6))))[d.toNat]?) fun o=>(oB (o.2.2[(((b.2.2.length:Int)-1)+1).toNat]?) fun C=>oB ((a.set d.toNat (j.1,j.2.1,(b.2.2++([(e,([]:List Int))]:c6))))[d.toNat]?) fun U=>if d.toNat=d.toNat then oB ((a.set d.toNat (j.1,j.2.1,(b.2.2++([(e,([]:List Int))]:c6))))[d.toNat]?) fun Wp=>(if d.toNat=d.toNat then if 0<=(((b.2.2.length:Int)-1)+1)/\(((b.2.2.length:Int)-1)+1)<(o.2.2.length:Int)then oB (o.2.2[(((b.2.2.length:Int)-1)+1).toNat]?) fun ap=>(if(((b.2.2.length:Int)-1)+1).toNat=(((b.2.2.length:Int)-1)+1).toNat then if room C.2.length ([i]:List Int).length 8 then if 0<=(((b.2.2.length:Int)-1)+1)/\(((b.2.2.length:Int)-1)+1)<(o.2.2.length:Int)then if(((b.2.2.length:Int)-1)+1).toNat=(((b.2.2.length:Int)-1)+1).toNat then oB (o.2.2[(((b.2.2.length:Int)-1)+1).toNat]?) fun P=>(some (q,((a.set d.toNat (j.1,j.2.1,(b.2.2++([(e,([]:List Int))]:c6)))).modify d.toNat fun z=>(z.1,z.2.1,(o.2.2.set (((b.2.2.length:Int)-1)+1).toNat (P.1,(C.2++([i]:List Int))))))))else none else none else none else none)else none else none)else none)else none)else none else none else none)else(oB (a[d.toNat]?) fun T=>if d.toNat=d.toNat then if 0<=((b.2.2.length:Int)-1)/\((b.2.2.length:Int)-1)<(b.2.2.length:Int)then oB (b.2.2[((b.2.2.length:Int)-1).toNat]?) fun G=>(bif !decide (G.1=e)then oB (a[d.toNat]?) fun W=>(if d.toNat=d.toNat then if room b.2.2.length ([(e,([]:List Int))]:c6).length 32 then if d.toNat=d.toNat then oB (a[d.toNat]?) fun m=>(if fits (((b.2.2.length:Int)-1)+1)then oB ((a.set d.toNat (m.1,m.2.1,(b.2.2++([(e,([]:List Int))]:c6))))[d.toNat]?) fun r=>(oB (r.2.2[(((b.2.2.length:Int)-1)+1).toNat]?) fun B=>oB ((a.set d.toNat (m.1,m.2.1,(b.2.2++([(e,([]:List Int))]:c6))))[d.toNat]?) fun qA=>if d.toNat=d.toNat then oB ((a.set d.toNat (m.1,m.2.1,(b.2.2++([(e,([]:List Int))]:c6))))[d.toNat]?) fun asw=>(if d.toNat=d.toNat then if 0<=(((b.2.2.length:Int)-1)+1)/\(((b.2.2.length:Int)-1)+1)<(r.2.2.length:Int)then oB (r.2.2[(((b.2.2.length:Int)-1)+1).toNat]?) fun ht=>(if(((b.2.2.length:Int)-1)+1).toNat=(((b.2.2.length:Int)-1)+1).toNat then if room B.2.length ([i]:List Int).length 8 then if 0<=(((b.2.2.length:Int)-1)+1)/\(((b.2.2.length:Int)-1)+1)<(r.2.2.length:Int)then if(((b.2.2.length:Int)-1)+1).toNat=(((b.2.2.length:Int)-1)+1).toNat then oB (r.2.2[(((b.2.2.length:Int)-1)+1).toNat]?) fun Q=>(some (q,((a.set d.toNat (m.1,m.2.1,(b.2.2++([(e,([]:List Int))]:c6)))).modify d.toNat fun E=>(E.1,E.2.1,(r.2.2.set (((b.2.2.length:Int)-1)+1).toNat (Q.1,(B.2++([i]:List Int))))))))else none else none else none else none)else none else none)else none)else none)else none else none else none)else if d.toNat=d.toNat then oB (b.2.2[((b.2.2.length:Int)-1).toNat]?) fun w=>(oB (a[d.toNat]?) fun asx=>if d.toNat=d.toNat then oB (a[d.toNat]?) fun V=>(if d.toNat=d.toNat then if 0<=((b.2.2.length:Int)-1)/\((b.2.2.length:Int)-1)<(b.2.2.length:Int)then oB (b.2.2[((b.2.2.length:Int)-1).toNat]?) fun X=>(if((b.2.2.length:Int)-1).toNat=((b.2.2.length:Int)-1).toNat then if room w.2.length ([i]:List Int).length 8 then if 0<=((b.2.2.length:Int)-1)/\((b.2.2.length:Int)-1)<(b.2.2.length:Int)then if((b.2.2.length:Int)-1).toNat=((b.2.2.length:Int)-1).toNat then oB (b.2.2[((b.2.2.length:Int)-1).toNat]?) fun O=>(some (q,(a.modify d.toNat fun t=>(t.1,t.2.1,(b.2.2.set ((b.2.2.length:Int)-1).toNat (O.1,(w.2++([i]:List Int))))))))else none else none else none else none)else none else none)else none)else none)else none else none)else none)else none)
theorem aiY :ax 60 ⟨⟨[.box 900000 0,aD,.agg [aD,ab],ab],[(900000,false,[.af cI,.kJ 850001 cY 119])]⟩,⟨[fK],[(900000,false,[.af cI,.kJ 1 cY 119])]⟩,kv (Bl N)⟩:=
 aB (al (alx N) aA) func60 rfl N (ae (ae (ae (ae (ae (ae (.zk [.out 9 [(2,79,197,10),(1,88,3,0)]]))))))) _ (wr:=[33,34,70,71,91,92]) (rs:=[900000,850001]) (dw:=[16,33,70])
def Ix :aw:=⟨.af (.int .u64):: .dead::ab::ak 22 [],[]⟩
def C3 (N:Nat) (c:Int):eH:=
 (meet (fun(a:Int×Int)=>match a with|(e,d)=>meet (fun(a:Int×Int)=>match a with|(f,b)=>meet (fun(a:Int×Int)=>match a with|(m,h)=>oB (idx ([0,1,2,2,3,3,3,3,4,4,4,4,4,4,4,4,5,5,5,5,5,5,5,5,5,5,5,5,5,5,5,5,6,6,6,6,6,6,6,6,6,6,6,6,6,6,6,6,6,6,6,6,6,6,6,6,6,6,6,6,6,6,6,6,7,7,7,7,7,7,7,7,7,7,7,7,7,7,7,7,7,7,7,7,7,7,7,7,7,7,7,7,7,7,7,7,7,7,7,7,7,7,7,7,7,7,7,7,7,7,7,7,7,7,7,7,7,7,7,7,7,7,7,7,7,7,7,7,8,8,8,8,8,8,8,8,8,8,8,8,8,8,8,8,8,8,8,8,8,8,8,8,8,8,8,8,8,8,8,8,8,8,8,8,8,8,8,8,8,8,8,8,8,8,8,8,8,8,8,8,8,8,8,8,8,8,8,8,8,8,8,8,8,8,8,8,8,8,8,8,8,8,8,8,8,8,8,8,8,8,8,8,8,8,8,8,8,8,8,8,8,8,8,8,8,8,8,8,8,8,8,8,8,8,8,8,8,8,8,8,8,8,8,8,8,8,8,8,8,8,8,8,8,8,8,8]:ah) (IntKind.u8.wrap m)) fun k=>if fits (h+(IntKind.i64.wrap (k.toNat:Int)))then some (h+(IntKind.i64.wrap (k.toNat:Int)))else none) fun l=>bif decide ((256:Int)<=f)then if 0<=(8:Int)then if fits (b+8)then l ((f.fdiv (2^(min (8:Int).toNat (IntKind.bits .u64)))),(b+8))else none else none else l (f,b)) fun j=>bif decide ((65536:Int)<=e)then if 0<=(16:Int)then if fits (d+16)then j ((e.fdiv (2^(min (16:Int).toNat (IntKind.bits .u64)))),(d+16))else none else none else j (e,d)) fun i=>bif decide ((4294967296:Int)<=c)then if 0<=(32:Int)then i ((c.fdiv (2^(min (32:Int).toNat (IntKind.bits .u64)))),32)else none else i (c,0))
theorem alk :ax 198 (aI [.af (.int .u64)] [ab] (dY (C3 N))):=
 aB aA func198 rfl N (ae (.meet Ix .no (.meet Ix .no (.meet Ix .no .no)))) _
def pQ (a:Int):eH:=
 (oB (C3 N a) fun b=>some b)
theorem yb :ax 132 (aI [.af (.int .u64)] [ab] (dY (pQ N))):=
 aB (al (alk N) aA) func132 rfl N .no _
def sT (N:Nat) (a:ah):cx:=
 (some (!decide (a=a)))
theorem aiW :ax 133 (aI [aD] [a7] (dY (sT N))):=
 aB aA func133 rfl N .no _
def q9 (b:ah) (a:ah):eH:=
 (oB (sT N b) fun d=>oB (sT N a) fun c=>bif d then bif c then some 0 else(some (-1))else bif c then some 1 else bif Op.bytesLess b a then some (-1)else bif !(Op.bytesLess b a||decide (b=a))then some 1 else some 0)
theorem QT :ax 64 (aI [aD,aD] [ab] (cr (q9 N))):=
 aB (al (aiW N) aA) func64 rfl N .no _
def ajn :aw:=⟨ak 3 (ab:: .dead:: .dead:: .af cR::ab::ab::ak 9 []),[]⟩
def s0 (d:List Int):eH:=
 (iter (fun h (b,f,c,a)=>bif decide (a<c)then oB (idx f a) fun e=>(bif !decide (e=b)then some e else if fits (a+1)then h (b,f,c,(a+1))else none)else some b) N ((0:Int),d,(d.length:Int),(0:Int)))
theorem QM :ax 63 (aI [.af cR] [ab] (dY (s0 N))):=
 aB aA func63 rfl N (ae (ae (.seq (ae (aR ajn)) .no))) _
def Co (d:ah) (a:ah) (i:c6) (e:ah) (b:ah) (j:c6):eH:=
 (oB (q9 N d e) fun c=>oB (q9 N a b) fun h=>oB (s0 N ([c,h]:List Int)) fun f=>some f)
theorem sQ :ax 62 (aI [tH,tH] [ab] (kv (Co N))):=
 aB (al (QT N) (al (QM N) aA)) func62 rfl N .no _
def C9 (b:Int):eH:=
 (oB (pQ N (IntKind.u64.wrap b)) fun a=>if 0<=a then some (IntKind.u64.wrap ((1:Int)*2^(min a.toNat (IntKind.bits .u64))))else none)
theorem Ct :ax 268 (aI [ab] [.af (.int .u64)] (dY (C9 N))):=
 aB (al (yb N) aA) func268 rfl N .no _
def I7 (N:Nat) (a:Int):Option (Int×Int):=
 (if 0<=(13:Int)then if 0<=(7:Int)then if 0<=(17:Int)then some ((ey .xor .u64 (ey .xor .u64 (ey .xor .u64 a (IntKind.u64.wrap (a*2^(min (13:Int).toNat (IntKind.bits .u64))))) ((ey .xor .u64 a (IntKind.u64.wrap (a*2^(min (13:Int).toNat (IntKind.bits .u64))))).fdiv (2^(min (7:Int).toNat (IntKind.bits .u64))))) (IntKind.u64.wrap ((ey .xor .u64 (ey .xor .u64 a (IntKind.u64.wrap (a*2^(min (13:Int).toNat (IntKind.bits .u64))))) ((ey .xor .u64 a (IntKind.u64.wrap (a*2^(min (13:Int).toNat (IntKind.bits .u64))))).fdiv (2^(min (7:Int).toNat (IntKind.bits .u64)))))*2^(min (17:Int).toNat (IntKind.bits .u64))))),(ey .xor .u64 (ey .xor .u64 (ey .xor .u64 a (IntKind.u64.wrap (a*2^(min (13:Int).toNat (IntKind.bits .u64))))) ((ey .xor .u64 a (IntKind.u64.wrap (a*2^(min (13:Int).toNat (IntKind.bits .u64))))).fdiv (2^(min (7:Int).toNat (IntKind.bits .u64))))) (IntKind.u64.wrap ((ey .xor .u64 (ey .xor .u64 a (IntKind.u64.wrap (a*2^(min (13:Int).toNat (IntKind.bits .u64))))) ((ey .xor .u64 a (IntKind.u64.wrap (a*2^(min (13:Int).toNat (IntKind.bits .u64))))).fdiv (2^(min (7:Int).toNat (IntKind.bits .u64)))))*2^(min (17:Int).toNat (IntKind.bits .u64))))))else none else none else none)
theorem Cq :ax 269 ⟨⟨[.box 900000 0],[(900000,false,[.af (.int .u64)])]⟩,⟨[.af (.int .u64)],[(900000,false,[.af (.int .u64)])]⟩,dY (I7 N)⟩:=
 aB aA func269 rfl N .no _ (rs:=[900000])
section
variable {α bX ρ : Type} (c : bX -> α -> α -> Option Int)
def nS (d:List α) (i j:Int) (k:List α->Option ρ):Option ρ:=
 if 0<=j/\j<(d.length:Int)then oB (d[j.toNat]?) fun e=>if 0<=i/\i<(d.length:Int)then oB (d[i.toNat]?) fun a=>
  if 0<=i/\i<(d.length:Int)then oB (d[i.toNat]?) fun b=>if 0<=j/\j<((d.set i.toNat e).length:Int)then oB ((d.set i.toNat e)[j.toNat]?) fun f=>k ((d.set i.toNat e).set j.toNat a)
  else none else none else none else none
def r5 (ks:bX) (d:List α) (i j:Int) (k:Int->Option ρ):Option ρ:=
 if 0<=i/\i<(d.length:Int)then oB (d[i.toNat]?) fun e=>if 0<=j/\j<(d.length:Int)then oB (d[j.toNat]?) fun a=>oB (c ks e a) k else none else none
def uv (ks:bX) (d:List α) (j:Int) (k:Int->Option ρ):Option ρ:=
 if 0<=j/\j<(d.length:Int)then oB (d[j.toNat]?) fun e=>if fits (j-1)then if 0<=(j-1)/\(j-1)<(d.length:Int)then oB (d[(j-1).toNat]?) fun a=>oB (c ks e a) k else none else none else none
def v8 (d:List α) (j:Int) (k:List α->Option ρ):Option ρ:=if fits (j-1)then if fits (j-1)then nS d j (j-1) k else none else none
def sG (N:Nat) (d:List α) (a b:Int) (ks:bX):Option (List α):=
 if fits (a+1)then iter (fun go (g:List α×Int×Int×bX×Int)=>
  match g with
  |(d2,a2,a8,f,i)=>
  bif decide (i<a8)then
   iter (fun go2 (g:List α×Int×Int×bX×Int×Int)=>
    match g with
    |(d3,a3,fF,e,i2,j)=>
    bif decide (a3<j)then uv c e d3 j fun r=>bif decide (r<0)then v8 d3 j fun d=>if fits (j-1)then go2 (d,a3,fF,e,i2,j-1)else none
     else if fits (i2+1)then go (d3,a3,fF,e,i2+1)else none
    else if fits (i2+1)then go (d3,a3,fF,e,i2+1)else none) N (d2,a2,a8,f,i,i)
  else some d2) N (d,a,b,ks,a+1)else none
def rJ (N:Nat) (data:List α) (lo:Int) (hi:Int) (first:Int) (cmp:bX):Option ((List α)):=
 (iter (fun go (g:(List α)×Int×Int×bX×Int)=>
   match g with
   |(h,j,b,i,root)=>
   (if fits (2*root)then(if fits ((2*root)+1)then(bif(decide (j<=((2*root)+1)))then
      (some h)
      else
      (meet (fun(g:(List α)×Int×Int×bX×Int×Int)=>
        match g with
        |(f,l,a,k,d,child)=>
        (if fits (a+d)then(if 0<=(a+d)/\(a+d)<(f.length:Int)then
          (oB (f[(a+d).toNat]?) fun p=>
           (if fits (a+child)then(if 0<=(a+child)/\(a+child)<(f.length:Int)then
             (oB (f[(a+child).toNat]?) fun s=>
              (oB (c k p s) fun t=>
               (bif(!(decide (t<0)))then
                (some f)
                else
                (if fits (a+d)then(if fits (a+child)then(if fits (a+child)then(if 0<=(a+child)/\(a+child)<(f.length:Int)then
                    (oB (f[(a+child).toNat]?) fun o=>
                     (if fits (a+d)then(if 0<=(a+d)/\(a+d)<(f.length:Int)then
                       (oB (f[(a+d).toNat]?) fun u=>
                        (if 0<=(a+d)/\(a+d)<(f.length:Int)then
                         (oB (f[(a+d).toNat]?) fun x=>
                          (if 0<=(a+child)/\(a+child)<((f.set (a+d).toNat o).length:Int)then
                           (oB ((f.set (a+d).toNat o)[(a+child).toNat]?) fun y=>
                            (go (((f.set (a+d).toNat o).set (a+child).toNat u),l,a,k,child)))
                           else none))
                         else none))
                       else none)else none))
                    else none)else none)else none)else none))))
             else none)else none))
          else none)else none)) fun J=>
       (if fits (((2*root)+1)+1)then(bif(decide ((((2*root)+1)+1)<j))then
         (if fits (b+((2*root)+1))then(if 0<=(b+((2*root)+1))/\(b+((2*root)+1))<(h.length:Int)then
           (oB (h[(b+((2*root)+1)).toNat]?) fun e=>
            (if fits (b+((2*root)+1))then(if fits ((b+((2*root)+1))+1)then(if 0<=((b+((2*root)+1))+1)/\((b+((2*root)+1))+1)<(h.length:Int)then
               (oB (h[((b+((2*root)+1))+1).toNat]?) fun v=>
                (oB (c i e v) fun r=>
                 (bif(decide (r<0))then
                  (if fits (((2*root)+1)+1)then(J (h,j,b,i,root,(((2*root)+1)+1)))else none)
                  else
                  (J (h,j,b,i,root,((2*root)+1))))))
               else none)else none)else none))
           else none)else none)
         else
         (J (h,j,b,i,root,((2*root)+1))))else none)))else none)else none)) N (data,hi,first,cmp,lo))
def lS (N:Nat) (data:List α) (a:Int) (b:Int) (cmp:bX):Option ((List α)):=
 (if fits (b-a)then(if fits ((b-a)-1)then(if 2≠0 then
    (if fits (((b-a)-1).tdiv 2)then(iter (fun go (g:(List α)×bX×Int×Int×Int×Int)=>
       match g with
       |(f,h,first,lo,hi,i)=>
       (bif(decide ((0:Int)<=i))then
        (oB (rJ c N f i hi first h) fun r=>
         (if fits (i-1)then(go (r,h,first,lo,hi,(i-1)))else none))
        else
        (if fits (hi-1)then(iter (fun go2 (g:(List α)×bX×Int×Int×Int)=>
           match g with
           |(j,k,e,l,i2)=>
           (bif(decide ((0:Int)<=i2))then
            (if fits (e+i2)then(if fits (e+i2)then nS j e (e+i2) fun d=>(oB (rJ c N d l i2 e k) fun o=>
                       (if fits (i2-1)then(go2 (o,k,e,l,(i2-1)))else none))else none)else none)
            else
            (some j))) N (f,h,first,lo,(hi-1)))else none))) N (data,cmp,a,0,(b-a),(((b-a)-1).tdiv 2)))else none)
    else none)else none)else none)
def r3 (N:Nat) (data:List α) (a:Int) (b:Int) (cmp:bX):Option (List α):=
 (if fits (b-a)then(bif(decide ((8:Int)<=(b-a)))then
   (oB (C9 N (b-a)) fun r=>
    (if 4≠0 then
     (if fits ((b-a).tdiv 4)then(if fits (((b-a).tdiv 4)*2)then(if fits (a+(((b-a).tdiv 4)*2))then(if fits ((a+(((b-a).tdiv 4)*2))-1)then(iter (fun go (g:(List α)×Int×Int×Int×Int×Int)=>
           match g with
           |(f,a2,length,e,j,random)=>
           (if 4≠0 then
            (if fits (length.tdiv 4)then(if fits ((length.tdiv 4)*2)then(if fits (a2+((length.tdiv 4)*2))then(if fits ((a2+((length.tdiv 4)*2))+1)then(bif(decide (j<=((a2+((length.tdiv 4)*2))+1)))then
                 (oB (I7 N random) fun p=>
                  (meet (fun(g:(List α)×Int×Int×Int×Int×Int×Int)=>
                    match g with
                    |(o,a3,k,i,h,other,l)=>
                    (if fits (a3+other)then(if fits (a3+other)then nS o h (a3+other) fun d=>(if fits (h+1)then(go (d,a3,k,i,(h+1),l))else none)else none)else none)) fun J=>
                   (bif(decide (length<=(IntKind.i64.wrap (ey .and .u64 p.1 (IntKind.u64.wrap (e-1))))))then
                    (if fits ((IntKind.i64.wrap (ey .and .u64 p.1 (IntKind.u64.wrap (e-1))))-length)then(J (f,a2,length,e,j,((IntKind.i64.wrap (ey .and .u64 p.1 (IntKind.u64.wrap (e-1))))-length),p.2))else none)
                    else
                    (J (f,a2,length,e,j,(IntKind.i64.wrap (ey .and .u64 p.1 (IntKind.u64.wrap (e-1)))),p.2)))))
                 else
                 (some f))else none)else none)else none)else none)
            else none)) N (data,a,(b-a),r,((a+(((b-a).tdiv 4)*2))-1),(IntKind.u64.wrap (b-a))))else none)else none)else none)else none)
     else none))
   else
   (some data))else none)
def p0 (N:Nat) (data:List α) (a:Int) (b:Int) (cmp:bX) (a8:Int):Option (Int×Int×(List α)×Int):=
 r5 c cmp data b a fun r=>(bif(decide (r<0))then(if fits (a8+1)then(some (b,a,data,(a8+1)))else none)else(some (a,b,data,a8)))
def rl (N:Nat) (data:List α) (a:Int) (b:Int) (c0:Int) (cmp:bX) (a8:Int):Option (Int×(List α)×Int):=
 (oB (p0 c N data a b cmp a8) fun r=>
  (oB (p0 c N r.2.2.1 r.2.1 c0 cmp r.2.2.2) fun d=>
   (oB (p0 c N d.2.2.1 r.1 d.1 cmp d.2.2.2) fun e=>
    (some (e.2.1,e.2.2.1,e.2.2.2)))))
def pR (N:Nat) (data:List α) (a:Int) (cmp:bX) (b:Int):Option (Int×(List α)×Int):=
 (if fits (a-1)then(if fits (a+1)then(oB (rl c N data (a-1) a (a+1) cmp b) fun r=>
    (some (r.1,r.2.1,r.2.2)))else none)else none)
def r4 (N:Nat) (data:List α) (a:Int) (b:Int) (cmp:bX):Option (Int×Int×(List α)):=
 (if fits (b-a)then(if 4≠0 then
   (if fits ((b-a).tdiv 4)then(if fits (((b-a).tdiv 4)*1)then(if fits (a+(((b-a).tdiv 4)*1))then(if 4≠0 then
       (if fits ((b-a).tdiv 4)then(if fits (((b-a).tdiv 4)*2)then(if fits (a+(((b-a).tdiv 4)*2))then(if 4≠0 then
           (if fits ((b-a).tdiv 4)then(if fits (((b-a).tdiv 4)*3)then(if fits (a+(((b-a).tdiv 4)*3))then(meet (fun(g:(List α)×Int×Int)=>
                match g with
                |(d,o,e)=>
                (bif(decide (e=0))then
                 (some (o,1,d))
                 else
                 (bif(decide (e=12))then
                  (some (o,2,d))
                  else
                  (some (o,0,d))))) fun J=>
               (bif(decide ((8:Int)<=(b-a)))then
                (meet (fun(g:(List α)×bX×Int×Int×Int×Int)=>
                  match g with
                  |(f,l,i,j,k,h)=>
                  (oB (rl c N f i j k l h) fun p=>
                   (J (p.2.1,p.1,p.2.2)))) fun u=>
                 (bif(decide ((50:Int)<=(b-a)))then
                  (oB (pR c N data (a+(((b-a).tdiv 4)*1)) cmp 0) fun r=>
                   (oB (pR c N r.2.1 (a+(((b-a).tdiv 4)*2)) cmp r.2.2) fun s=>
                    (oB (pR c N s.2.1 (a+(((b-a).tdiv 4)*3)) cmp s.2.2) fun t=>
                     (u (t.2.1,cmp,r.1,s.1,t.1,t.2.2)))))
                  else
                  (u (data,cmp,(a+(((b-a).tdiv 4)*1)),(a+(((b-a).tdiv 4)*2)),(a+(((b-a).tdiv 4)*3)),0))))
                else
                (J (data,(a+(((b-a).tdiv 4)*2)),0))))else none)else none)else none)
           else none)else none)else none)else none)
       else none)else none)else none)else none)
   else none)else none)
def tq (N:Nat) (data:List α) (a:Int) (b:Int) (cmp:bX):Option ((List α)):=
 (if fits (b-1)then(iter (fun go (g:(List α)×Int×Int)=>
    match g with
    |(e,i,j)=>
    (bif(decide (i<j))then nS e i j fun d=>(if fits (i+1)then(if fits (j-1)then(go (d,(i+1),(j-1)))else none)else none)
     else
     (some e))) N (data,a,(b-1)))else none)
def KG (k:(List α×Int×Int×bX×Int×Int)->Option ρ) (N:Nat) (g:List α×Int×Int×bX×Int×Int×Int):Option ρ:=
 iter (fun f (g:(List α)×Int×Int×bX×Int×Int×Int)=>
  match g with
  |(d,a,b,ks,i,j,e)=>
  bif decide ((1:Int)<=e)then uv c ks d e fun r=>bif !decide (r<0)then k (d,a,b,ks,i,j)else v8 d e fun h=>if fits (e-1)then f (h,a,b,ks,i,j,e-1)else none
  else k (d,a,b,ks,i,j)) N g
def KI (k:(List α×Int×Int×bX×Int×Int)->Option ρ) (N:Nat) (g:List α×Int×Int×bX×Int×Int×Int):Option ρ:=
 iter (fun f (g:(List α)×Int×Int×bX×Int×Int×Int)=>
  match g with
  |(d,a,b,ks,i,j,e)=>
  bif decide (e<b)then uv c ks d e fun r=>bif !decide (r<0)then(if fits (j+1)then k (d,a,b,ks,i,j+1)else none)else v8 d e fun h=>if fits (e+1)then f (h,a,b,ks,i,j,e+1)else none
  else if fits (j+1)then k (d,a,b,ks,i,j+1)else none) N g
def DN (N:Nat) (go:(List α×Int×Int×bX×Int×Int)->Option (Bool×List α)) (d:List α) (a b:Int) (ks:bX) (i j:Int):Option (Bool×List α):=
 bif decide (i=b)then some (true,d)else if fits (b-a)then bif decide ((b-a)<50)then some (false,d)else
  v8 d i fun k=>meet (fun(g:List α×Int×Int×bX×Int×Int)=>
   match g with
   |(d5,a5,f,e,i4,h)=>
   if fits (f-i4)then bif decide ((2:Int)<=(f-i4))then if fits (i4+1)then KI c go N (d5,a5,f,e,i4,h,i4+1)else none
    else(if fits (h+1)then go (d5,a5,f,e,i4,h+1)else none)else none) fun J=>
   if fits (i-a)then bif decide ((2:Int)<=(i-a))then if fits (i-1)then KG c J N (k,a,b,ks,i,j,i-1)else none else J (k,a,b,ks,i,j)else none
 else none
def tj (N:Nat) (d:List α) (a b:Int) (ks:bX):Option (Bool×List α):=
 if fits (a+1)then iter (fun go (g:List α×Int×Int×bX×Int×Int)=>
  match g with
  |(d2,a2,a8,f,i,j)=>
  bif decide (j<5)then
   iter (fun go2 (g:List α×Int×Int×bX×Int×Int)=>
    match g with
    |(d3,a3,fF,e,i2,h)=>
    bif decide (i2<fF)then uv c e d3 i2 fun r=>bif !decide (r<0)then(if fits (i2+1)then go2 (d3,a3,fF,e,i2+1,h)else none)else DN c N go d3 a3 fF e i2 h
    else DN c N go d3 a3 fF e i2 h) N (d2,a2,a8,f,i,j)
  else some (false,d2)) N (d,a,b,ks,a+1,0)else none
def DK (b:(List α×Int×bX×Int×Int)->Option (Int×Bool×List α)) (e2:Bool) (g:List α×Int×bX×Int×Int):Option (Int×Bool×List α):=
 match g with
 |(d,a,ks,i,j)=>
 bif decide (j<i)then nS d j a fun e=>some (j,e2,e)else nS d i j fun e=>if fits (i+1)then if fits (j-1)then b (e,a,ks,i+1,j-1)else none else none
def DJ (k:(List α×Int×bX×Int×Int)->Option ρ) (N:Nat) (g:List α×Int×bX×Int×Int):Option ρ:=
 iter (fun go (g:List α×Int×bX×Int×Int)=>
  match g with
  |(d,a,ks,i,j)=>
  bif decide (i<=j)then r5 c ks d j a fun r=>bif !decide (r<0)then(if fits (j-1)then go (d,a,ks,i,j-1)else none)else k (d,a,ks,i,j)
  else k (d,a,ks,i,j)) N g
def DL (k:(List α×Int×bX×Int×Int)->Option ρ) (N:Nat) (g:List α×Int×bX×Int×Int):Option ρ:=
 iter (fun go (g:List α×Int×bX×Int×Int)=>
  match g with
  |(d,a,ks,i,j)=>
  bif decide (i<=j)then r5 c ks d i a fun r=>bif decide (r<0)then(if fits (i+1)then go (d,a,ks,i+1,j)else none)else k (d,a,ks,i,j)
  else k (d,a,ks,i,j)) N g
def p1 (N:Nat) (d:List α) (a b p:Int) (ks:bX):Option (Int×Bool×List α):=
 nS d a p fun d=>if fits (a+1)then if fits (b-1)then
  DL c (fun g=>DJ c (DK (fun g=>iter (fun e g=>DL c (fun g=>DJ c (DK e false) N g) N g) N g) true) N g) N (d,a,ks,a+1,b-1)
 else none else none
def SZ (go:(List α×Int×bX×Int×Int)->Option (Int×List α)) (g:List α×Int×bX×Int×Int):Option (Int×List α):=
 match g with
 |(d,a,ks,i,j)=>
 bif decide (j<i)then some (i,d)else nS d i j fun b=>if fits (i+1)then if fits (j-1)then go (b,a,ks,i+1,j-1)else none else none
def J6 (k:(List α×Int×bX×Int×Int)->Option ρ) (N:Nat) (g:List α×Int×bX×Int×Int):Option ρ:=
 iter (fun go (g:List α×Int×bX×Int×Int)=>
  match g with
  |(d,a,ks,i,j)=>
  bif decide (i<=j)then r5 c ks d a j fun r=>bif decide (r<0)then(if fits (j-1)then go (d,a,ks,i,j-1)else none)else k (d,a,ks,i,j)
  else k (d,a,ks,i,j)) N g
def J7 (k:(List α×Int×bX×Int×Int)->Option ρ) (N:Nat) (g:List α×Int×bX×Int×Int):Option ρ:=
 iter (fun go (g:List α×Int×bX×Int×Int)=>
  match g with
  |(d,a,ks,i,j)=>
  bif decide (i<=j)then r5 c ks d a i fun r=>bif !decide (r<0)then(if fits (i+1)then go (d,a,ks,i+1,j)else none)else k (d,a,ks,i,j)
  else k (d,a,ks,i,j)) N g
def mN (N:Nat) (d:List α) (a b p:Int) (ks:bX):Option (Int×List α):=
 nS d a p fun d=>if fits (a+1)then if fits (b-1)then iter (fun go g=>J7 c (fun g=>J6 c (SZ go) N g) N g) N (d,a,ks,a+1,b-1)else none else none
def l3 (S:List α->Int->Int->bX->Option (List α)) (T:List α->Int->Int->Int->bX->Option (Int×List α)) (N:Nat):(D:Nat)->(List α)->Int->Int->Int->bX->Option ((List α))
 |0,_,_,_,_,_=>none
 |D+1,data,a,b,P,cmp=>
 (iter (fun go (g:(List α)×Int×Int×Int×bX×Bool×Bool)=>
   match g with
   |(B,a2,a8,y,G,l,o)=>
   (if fits (a8-a2)then(bif(decide ((a8-a2)<=12))then
     (oB (sG c N B a2 a8 G) fun r=>
      (some r))
     else
     (bif(decide (y=0))then
      (oB (S B a2 a8 G) fun ll=>
       (some ll))
      else
      (meet (fun(g:(List α)×Int×Int×Int×bX×Bool×Bool×Int)=>
        match g with
        |(Q,a3,fF,K,L,t,i,length)=>
        (oB (r4 c N Q a3 fF L) fun O=>
         (meet (fun(g:(List α)×Int×Int×Int×bX×Bool×Bool×Int×Int×Int)=>
           match g with
           |(C,a4,U,z,H,f,d,v,F,hint)=>
           (meet (fun(g:(List α)×Int×Int×Int×bX×Bool×Bool×Int×Int)=>
             match g with
             |(u,a5,M,h,j,A,x,k,p)=>
             (bif(decide ((0:Int)<a5))then
              (if fits (a5-1)then(if 0<=(a5-1)/\(a5-1)<(u.length:Int)then
                (oB (u[(a5-1).toNat]?) fun e=>
                 (if 0<=p/\p<(u.length:Int)then
                  (oB (u[p.toNat]?) fun ck=>
                   (oB (c j e ck) fun o3=>
                    (bif(!(decide (o3<0)))then
                     (oB (T u a5 M p j) fun nM=>
                      (go (nM.2,nM.1,M,h,j,A,x)))
                     else
                     (oB (p1 c N u a5 M p j) fun I=>
                      (if fits (I.1-a5)then(if fits (M-I.1)then(if 8≠0 then
                         (if fits (k.tdiv 8)then(bif(decide ((I.1-a5)<(M-I.1)))then
                           (oB (l3 S T N D I.2.2 a5 I.1 h j) fun W=>
                            (if fits (I.1+1)then(go (W,(I.1+1),M,h,j,(decide ((k.tdiv 8)<=(I.1-a5))),I.2.1))else none))
                           else
                           (if fits (I.1+1)then(oB (l3 S T N D I.2.2 (I.1+1) M h j) fun X=>
                             (go (X,a5,I.1,h,j,(decide ((k.tdiv 8)<=(M-I.1))),I.2.1)))else none))else none)
                         else none)else none)else none)))))
                  else none))
                else none)else none)
              else
              (oB (p1 c N u a5 M p j) fun s=>
               (if fits (s.1-a5)then(if fits (M-s.1)then(if 8≠0 then
                  (if fits (k.tdiv 8)then(bif(decide ((s.1-a5)<(M-s.1)))then
                    (oB (l3 S T N D s.2.2 a5 s.1 h j) fun Y=>
                     (if fits (s.1+1)then(go (Y,(s.1+1),M,h,j,(decide ((k.tdiv 8)<=(s.1-a5))),s.2.1))else none))
                    else
                    (if fits (s.1+1)then(oB (l3 S T N D s.2.2 (s.1+1) M h j) fun Z=>
                      (go (Z,a5,s.1,h,j,(decide ((k.tdiv 8)<=(M-s.1))),s.2.1)))else none))else none)
                  else none)else none)else none)))) fun V=>
            (bif f then
             (bif d then
              (bif(decide (hint=1))then
               (oB (tj c N C a4 U H) fun mQ=>
                (bif mQ.1 then
                 (some mQ.2)
                 else
                 (V (mQ.2,a4,U,z,H,f,d,v,F))))
               else
               (V (C,a4,U,z,H,f,d,v,F)))
              else
              (V (C,a4,U,z,H,f,d,v,F)))
             else
             (V (C,a4,U,z,H,f,d,v,F))))) fun qx=>
          (bif(decide (O.2.1=2))then
           (oB (tq N O.2.2 a3 fF L) fun o2=>
            (if fits (fF-1)then(if fits (O.1-a3)then(if fits ((fF-1)-(O.1-a3))then(qx (o2,a3,fF,K,L,t,i,length,((fF-1)-(O.1-a3)),1))else none)else none)else none))
           else
           (qx (O.2.2,a3,fF,K,L,t,i,length,O.1,O.2.1)))))) fun J=>
       (bif(!l)then
        (oB (r3 N B a2 a8 G) fun nK=>
         (if fits (y-1)then(J (nK,a2,a8,(y-1),G,l,o,(a8-a2)))else none))
        else
        (J (B,a2,a8,y,G,l,o,(a8-a2)))))))else none)) N (data,a,b,P,cmp,true,true))
end
def j2 (N:Nat):(Unit)->bJ->bJ->Option Int:=(fun(cmp:Unit) (e a:ah×ah×zN)=>Co N e.1 e.2.1 e.2.2 a.1 a.2.1 a.2.2)
def akg :aw:=⟨.ay 800000 cY 119 false::ab::ab:: .aV 62 []::ak 4 (ab::ak 44 []),[]⟩
def ajk :aw:=⟨.ay 800000 cY 119 false::ab::ab:: .aV 62 []::ak 4 (ab::ab::ak 43 []),[]⟩
def ait (a:List bJ) (c:Int) (b:Int) (d:Unit):Option ((List bJ)):=sG (j2 N) N a c b d
 
theorem ale :ax 189 (aI [.ay 800000 cY 119 false,ab,ab,.aV 62 []] [fK,.ay 800000 cY 119 false] (dq (ait N))):=
 aB (al (sQ N) aA) func189 rfl N (ae (.block (.loop akg (ae (.seq (.block (ae (aR ajk))) .no))))) _ (rs:=[800000])
def ajY :aw:=⟨.ay 800000 cY 119 false:: .dead::ab::ab:: .aV 62 []::ak 5 (ab::ak 71 []),[]⟩
def ajI :aw:=⟨.ay 800000 cY 119 false:: .dead::ab::ab:: .aV 62 []::ak 5 (ab::ab::ak 70 []),[]⟩
def ais (b:List bJ) (d:Int) (c:Int) (a:Int) (e:Unit):Option ((List bJ)):=rJ (j2 N) N b d c a e
 
theorem akX :ax 267 (aI [.ay 800000 cY 119 false,ab,ab,ab,.aV 62 []] [fK,.ay 800000 cY 119 false] (fm (ais N))):=
 aB (al (sQ N) aA) func267 rfl N (ae (.block (.loop ajY (.block (ae (ae (.meet ajI .no .no))))))) _ (rs:=[800000])
def ajC :aw:=⟨.ay 800000 cY 119 false:: .dead:: .dead:: .aV 62 []::ak 4 (ab::ab::ab::ab::ak 48 []),[]⟩
def akU :aw:=⟨.ay 800000 cY 119 false:: .dead:: .dead:: .aV 62 []::ak 4 (ab::ab:: .dead:: .dead::ab::ak 47 []),[]⟩
def aim (a:List bJ) (c:Int) (b:Int) (d:Unit):Option ((List bJ)):=lS (j2 N) N a c b d
 
theorem alf :ax 190 (aI [.ay 800000 cY 119 false,ab,ab,.aV 62 []] [fK,.ay 800000 cY 119 false] (dq (aim N))):=
 aB (al (akX N) aA) func190 rfl N (ae (ae (ae (.seq (ae (aR ajC)) (ae (aR akU)))))) _ (rs:=[800000])
def aiH :aw:=⟨.ay 800000 cY 119 false::ab::ak 6 (ab:: .box 9 0:: .af (.int .u64)::ab::ak 55 []),[(9,false,[.af (.int .u64)])]⟩
def ajL :aw:=⟨.ay 800000 cY 119 false::ab::ak 6 (ab:: .box 9 0:: .af (.int .u64)::ab::ab::ak 54 []),[(9,false,[.af (.int .u64)])]⟩
def aiv (a:List bJ) (c:Int) (b:Int) (d:Unit):Option ((List bJ)):=r3 N a c b d
 
theorem aja :ax 191 (aI [.ay 800000 cY 119 false,ab,ab,.aV 62 []] [fK,.ay 800000 cY 119 false] (dq (aiv N))):=
 aB (al (Ct N) (al (Cq N) aA)) func191 rfl N (ae (ae (.cond (ae (ae (ae (.block (.loop aiH (ae (.seq (.block (ae (.meet ajL .no .no))) .no))))))) .no))) _ (rs:=[800000])
def aio (a:List bJ) (d:Int) (c:Int) (e:Unit) (b:Int):Option (Int×Int×(List bJ)×Int):=p0 (j2 N) N a d c e b
 
theorem aln :ax 319 ⟨⟨[.ay 800000 cY 119 false,ab,ab,.box 900003 0,.aV 62 []],[(900003,false,[ab])]⟩,⟨[.bR [ab,ab],.ay 800000 cY 119 false],[(900003,false,[ab])]⟩,fm (aio N)⟩:=
 aB (al (sQ N) aA) func319 rfl N .no _ (rs:=[900003,800000])
def air (a:List bJ) (e:Int) (d:Int) (b:Int) (f:Unit) (c:Int):Option (Int×(List bJ)×Int):=rl (j2 N) N a e d b f c
 
theorem QC :ax 271 ⟨⟨[.ay 800000 cY 119 false,ab,ab,ab,.box 900004 0,.aV 62 []],[(900004,false,[ab])]⟩,⟨[ab,.ay 800000 cY 119 false],[(900004,false,[ab])]⟩,kv (air N)⟩:=
 aB (al (aln N) aA) func271 rfl N .no _ (rs:=[900004,800000])
def aiq (a:List bJ) (c:Int) (d:Unit) (b:Int):Option (Int×(List bJ)×Int):=pR (j2 N) N a c d b
 
theorem aiV :ax 270 ⟨⟨[.ay 800000 cY 119 false,ab,.box 900002 0,.aV 62 []],[(900002,false,[ab])]⟩,⟨[ab,.ay 800000 cY 119 false],[(900002,false,[ab])]⟩,dq (aiq N)⟩:=
 aB (al (QC N) aA) func270 rfl N .no _ (rs:=[900002,800000])
def ajX :aw:=⟨.ay 800000 cY 119 false:: .dead:: .dead:: .aV 62 []::ak 7 (.box 11 0::ab::ab::ab::ak 48 []),[(11,false,[ab])]⟩
def alB :aw:=⟨.ay 800000 cY 119 false::ak 10 (.box 11 0:: .dead::ab::ak 49 []),[(11,false,[ab])]⟩
def aiE (a:List bJ) (c:Int) (b:Int) (d:Unit):Option (Int×Int×(List bJ)):=r4 (j2 N) N a c b d
 
theorem akq :ax 192 (aI [.ay 800000 cY 119 false,ab,ab,.aV 62 []] [.bR [ab,ab],.ay 800000 cY 119 false] (dq (aiE N))):=
 aB (al (aiV N) (al (QC N) aA)) func192 rfl N (ae (ae (ae (ae (ae (ae (.meet alB (ae (.cond (.meet ajX .no .no) .no)) .no))))))) _ (rs:=[800000])
def akM :aw:=⟨.ay 800000 cY 119 false::ak 7 (ab::ab::ak 24 []),[]⟩
def aiu (a:List bJ) (c:Int) (b:Int) (d:Unit):Option ((List bJ)):=tq N a c b d
 
theorem ajD :ax 193 (aI [.ay 800000 cY 119 false,ab,ab,.aV 62 []] [fK,.ay 800000 cY 119 false] (dq (aiu N))):=
 aB aA func193 rfl N (ae (ae (aR akM))) _ (rs:=[800000])
def Iz :aw:=⟨.ay 800000 cY 119 false::ab::ab:: .aV 62 []::ak 5 (ab::ab::ak 130 []),[]⟩
def alS :aw:=⟨.ay 800000 cY 119 false::ab::ab:: .aV 62 []::ak 5 (ab::ab::ab::ak 129 []),[]⟩
def ajW :aw:=⟨.ay 800000 cY 119 false::ab::ab:: .aV 62 []::ak 5 (ab::ab:: .dead::ab::ak 128 []),[]⟩
def aiy (a:List bJ) (c:Int) (b:Int) (d:Unit):Option (Bool×(List bJ)):=tj (j2 N) N a c b d
 
theorem ake :ax 194 (aI [.ay 800000 cY 119 false,ab,ab,.aV 62 []] [a7,.ay 800000 cY 119 false] (dq (aiy N))):=
 aB (al (sQ N) aA) func194 rfl N (ae (ae (.seq (ae (.block (.loop Iz (ae (.seq (.block (.seq (aR Iz) (ae (ae (ae (.meet Iz (ae (.cond (ae (aR alS)) .no)) (ae (.cond (ae (aR ajW)) .no)))))))) .no))))) .no))) _ (rs:=[800000])
def IA :aw:=⟨.ay 800000 cY 119 false::ab:: .dead:: .dead:: .aV 62 []::ak 6 (ab::ab::ak 77 []),[]⟩
def ain (a:List bJ) (d:Int) (b:Int) (c:Int) (e:Unit):Option (Int×(List bJ)):=mN (j2 N) N a d b c e
 
theorem akB :ax 195 (aI [.ay 800000 cY 119 false,ab,ab,ab,.aV 62 []] [ab,.ay 800000 cY 119 false] (fm (ain N))):=
 aB (al (sQ N) aA) func195 rfl N (ae (ae (ae (.seq (.block (.loop IA (.block (.seq (aR IA) (.seq (aR IA) .no))))) .no)))) _ (rs:=[800000])
def ye :aw:=⟨.ay 800000 cY 119 false::ab:: .dead:: .dead:: .aV 62 []::ak 7 (ab::ab::ak 164 []),[]⟩
def aip (a:List bJ) (d:Int) (b:Int) (c:Int) (e:Unit):Option (Int×Bool×(List bJ)):=p1 (j2 N) N a d b c e
 
theorem alo :ax 196 (aI [.ay 800000 cY 119 false,ab,ab,ab,.aV 62 []] [.bR [ab,a7],.ay 800000 cY 119 false] (fm (aip N))):=
 aB (al (sQ N) aA) func196 rfl N (ae (ae (ae (.seq (aR ye) (.seq (aR ye) (ae (ae (ae (ae (.seq (.block (.loop ye (.block (.seq (aR ye) (.seq (aR ye) .no))))) .no)))))))))) _ (rs:=[800000])
def ajy :aw:=⟨.ay 800000 cY 119 false::ab::ab::ab:: .aV 62 []::ak 5 (a7::a7::ak 136 []),[]⟩
def aj3 :aw:=⟨.ay 800000 cY 119 false::ab::ab::ab:: .aV 62 []::ak 5 (a7::a7::ab::ab::ak 134 []),[]⟩
def ajG :aw:=⟨.ay 800000 cY 119 false::ab::ab::ab:: .aV 62 []::ak 5 (a7::a7::ab::ab::ab::ak 133 []),[]⟩
def alI :aw:=⟨.ay 800000 cY 119 false::ab::ab::ab:: .aV 62 []::ak 5 (a7::a7::ab::ak 135 []),[]⟩
def PH (N D:Nat) (h:List bJ) (a b g:Int) (e:Unit):Option ((List bJ)):=l3 (j2 N) (fun d a b c=>lS (j2 N) N d a b c) (fun d a b f c=>mN (j2 N) N d a b f c) N D h a b g e
 
def Cg (N D:Nat):Model:=⟨⟨[.ay 800000 cY 119 false,ab,ab,ab,.aV 62 []],[]⟩,⟨[fK,.ay 800000 cY 119 false],[]⟩,fm (PH N D)⟩
theorem aly (N D:Nat) (a:ax 131 (Cg N D)):ax 131 (Cg N (D+1)):=
 aB (al a (al (ale N) (al (alf N) (al (aja N) (al (akq N) (al (ajD N) (al (ake N) (al (sQ N) (al (akB N) (al (alo N) aA)))))))))) func131 rfl N (ae (ae (.block (.loop ajy (.block (ae (ae (ae (.meet alI .no (ae (.meet ajG .no (.meet aj3 .no .no)))))))))))) (Cg N (D+1)) (rs:=[800000])
theorem Q0 (N:Nat):∀D,ax 131 (Cg N D)
 |0=>lg ⟨_,func131,by decide,by kernel_rfl⟩ _ (fun a=>rfl)
 |D+1=>aly N D (Q0 N D)
def C5 (a:List bJ) (d:Unit):Option ((List bJ)):=
 (oB (pQ N (IntKind.u64.wrap (a.length:Int))) fun b=>oB (PH N N a 0 (a.length:Int) b ()) fun c=>some c)
theorem amj :ax 61 (aI [.ay 800000 cY 119 false,.aV 62 []] [fK,.ay 800000 cY 119 false] (cr (C5 N))):=
 aB (al (yb N) (al (Q0 N N) aA)) func61 rfl N .no _ (rs:=[800000])
def ajx :aw:=⟨.dead:: .dead:: .box 2 0:: .dead:: .box 4 0:: .box 5 0::ak 19 (.af cI::ab::ab::ak 32 []),[(2,false,[bl,.af dx]),(4,false,[.aT,.aT]),(5,false,[.af cI,.kJ 700501 cY 119])]⟩
def akx :aw:=⟨.dead:: .dead:: .box 2 0:: .dead:: .box 4 0:: .box 5 0:: .dead:: .box 7 0::ak 17 (.af cI::ab::ab::ak 4 (.af fg::ab::ab::ak 25 [])),[(2,false,[bl,.af dx]),(4,false,[.aT,.aT]),(5,false,[.af cI,.kJ 700501 cY 119]),(7,false,[ab,.af fg,.af gb])]⟩
def aj7 :aw:=⟨.dead:: .dead:: .box 2 0:: .dead:: .box 4 0:: .box 5 0:: .dead:: .box 7 0:: .dead:: .box 9 0::ak 15 (.af cI::ab::ab::ak 4 (.af fg::ab::ab::ak 6 (.own 600041 hr 114 true::ab::ab::ak 16 []))),[(2,false,[bl,.af dx]),(4,false,[.aT,.aT]),(5,false,[.af cI,.kJ 700501 cY 119]),(7,false,[ab,.af fg,.af gb]),(9,false,[aD,aD])]⟩
def q0 (c:List ah) (c2:List b3) (ad:List bq):Option ((List bq)×(List bJ)):=
 (oB (oI N c c2) fun r=>bif !r then some (([]:List bq),([]:List bJ))else oB (vl N ad) fun v=>bif !v then some (([]:List bq),([]:List bJ))else oB (x8 N ad) fun x=>iter (fun go (t25,t26,t27,c3,c4,s,s2)=>bif decide (t27<t26)then oB (idx t25 t27) fun e=>(iter (fun go2 (t252,t262,t272,t32,t33,t34,c5,a,h,i,d,d2,d3)=>bif decide (t34<t33)then oB (idx t32 t34) fun b=>(oB (sU N c5 a b.2) fun j=>iter (fun g (t253,t263,t273,t322,t332,t342,t41,t42,t43,k,l,o,p,d4,d5,d6,f,f2)=>bif decide (t43<t42)then oB (idx t41 t43) fun t=>(oB (Bl N f t.1 t.2 d4 o p) fun u=>if fits (t43+1)then g (t253,t263,t273,t322,t332,t342,t41,t42,(t43+1),k,l,u.1,u.2,d4,d5,d6,f,f2)else none)else if fits (t342+1)then go2 (t253,t263,t273,t322,t332,(t342+1),k,l,o,p,d4,d5,d6)else none) N (t252,t262,t272,t32,t33,t34,j,(j.length:Int),(0:Int),c5,a,h,i,d,d2,d3,b.1,b.2))else if fits (t272+1)then go (t252,t262,(t272+1),c5,a,h,i)else none) N (t25,t26,t27,e.2.1,(e.2.1.length:Int),(0:Int),c3,c4,s,s2,e.1,e.2.1,e.2.2))else oB (C5 N s2 ()) fun y=>some (s,y)) N (ad,(ad.length:Int),(0:Int),c,c2,x,([]:List bJ)))
theorem Cv :ax 16 (aI [fb,.af cI] [.agg [.af cI,.own 1 cY 119 false]] (eI (q0 N))):=
 aB (al (sX N) (al (Iw N) (al (Q6 N) (al (Cr N) (al (aiY N) (al (amj N) aA)))))) func16 rfl N (ae (ae (ae (.seq (ae (.block (.loop ajx (ae (ae (.seq (.block (ae (ae (.block (.loop akx (ae (ae (.seq (.block (ae (ae (aR aj7)))) .no)))))))) .no)))))) .no)))) _ (wr:=[23]) (dw:=[23,57])
def alZ :aw:=⟨.af cR:: .af cR::ak 10 (ab::ab::ak 12 []),[]⟩
def B4 (b:List Int) (c:List Int):cx:=
 (bif !decide ((b.length:Int)=(c.length:Int))then some false else iter (fun h (f,e,d,a)=>bif decide (a<d)then oB (idx f a) fun i=>(oB (idx e a) fun k=>bif !decide (i=k)then some false else if fits (a+1)then h (f,e,d,(a+1))else none)else some true) N (b,c,(b.length:Int),(0:Int)))
theorem ak9 :ax 318 (aI [.af cR,.af cR] [a7] (cr (B4 N))):=
 aB aA func318 rfl N (ae (ae (.seq (ae (aR alZ)) .no))) _
def Cj (e:Int) (a:List Int) (c:Int) (b:List Int):cx:=
 (bif decide (e=c)then oB (B4 N a b) fun d=>(some d)else some false)
theorem amc :ax 266 (aI [.agg [ab,.af cR],.agg [ab,.af cR]] [a7] (dq (Cj N))):=
 aB (al (ak9 N) aA) func266 rfl N .no _
def ajc :aw:=⟨.dead:: .af lI:: .aV 266 []::ak 12 (.af lI::ab::ab::ak 14 []),[]⟩
def BW (b:c6) (c:c6) (m:Unit):cx:=
 (bif !decide ((b.length:Int)=(c.length:Int))then some false else iter (fun j (d,n,f,h,a)=>bif decide (a<h)then oB (idx f a) fun e=>(oB (idx d a) fun i=>oB (Cj N e.1 e.2 i.1 i.2) fun k=>bif !k then some false else if fits (a+1)then j (d,(),f,h,(a+1))else none)else some true) N (c,(),b,(b.length:Int),(0:Int)))
theorem ajR :ax 265 (aI [.af lI,.af lI,.aV 266 []] [a7] (eI (BW N))):=
 aB (al (amc N) aA) func265 rfl N (ae (ae (.seq (ae (aR ajc)) .no))) _
def Cn (e:ah) (a:ah) (b:c6) (f:ah) (c:ah) (h:c6):cx:=
 (bif decide (e=f)then bif decide (a=c)then oB (BW N b h ()) fun d=>(some d)else(some false)else some false)
theorem akD :ax 187 (aI [tH,tH] [a7] (kv (Cn N))):=
 aB (al (ajR N) aA) func187 rfl N .no _
def ai4 :aw:=⟨.dead:: .af eU:: .aV 187 []::ak 12 (.af eU::ab::ab::ak 14 []),[]⟩
def Ci (b:List bJ) (e:List bJ) (m:Unit):cx:=
 (bif !decide ((b.length:Int)=(e.length:Int))then some false else iter (fun j (f,n,h,i,a)=>bif decide (a<i)then oB (idx h a) fun c=>(oB (idx f a) fun d=>oB (Cn N c.1 c.2.1 c.2.2 d.1 d.2.1 d.2.2) fun k=>bif !k then some false else if fits (a+1)then j (f,(),h,i,(a+1))else none)else some true) N (e,(),b,(b.length:Int),(0:Int)))
theorem alQ :ax 186 (aI [.af eU,.af eU,.aV 187 []] [a7] (eI (Ci N))):=
 aB (al (akD N) aA) func186 rfl N (ae (ae (.seq (ae (aR ai4)) .no))) _
def u1 (b:List ah) (a:List b3) (c:List bq) (e:List bJ):cx:=
 (oB (oI N b a) fun d=>bif !d then some false else oB (vl N c) fun h=>bif !h then some false else oB (q0 N b a c) fun f=>oB (Ci N f.2 e ()) fun i=>some i)
theorem Q8 :ax 120 (aI [fb,iX] [a7] (dq (u1 N))):=
 aB (al (sX N) (al (Iw N) (al (Cv N) (al (alQ N) aA)))) func120 rfl N .no _
def aeL :aw:=⟨.af cR::ak 4 (.af cR::ab::ab::ak 24 []),[]⟩
def yg (d:List Int):cx:=
 (iter (fun f (b,c,e,a)=>bif decide (a<e)then oB (idx c a) fun h=>(oB (dV N h 0 999999999) fun i=>bif !i then some false else bif decide ((0:Int)<a)then if fits (a-1)then oB (idx b (a-1)) fun k=>(bif decide (h<=k)then some false else if fits (a+1)then f (b,c,e,(a+1))else none)else none else if fits (a+1)then f (b,c,e,(a+1))else none)else some (decide ((b.length:Int)<=60))) N (d,d,(d.length:Int),(0:Int)))
theorem Pe :ax 121 (aI [.af cR] [a7] (dY (yg N))):=
 aB (al (hg N) aA) func121 rfl N (ae (.seq (ae (aR aeL)) .no)) _
def ald :aw:=⟨.dead::ab:: .dead:: .dead:: .box 4 0::ak 6 (.af cI::ab::ab::ak 10 []),[(4,false,[ab,.aT,.aT])]⟩
def xM (f:(List bq)×(List bJ)) (k:Int):Option (Int×gd×na×Bool):=
 (iter (fun h (d,c,e,a,i)=>bif decide (a<e)then oB (idx c a) fun b=>(bif decide (b.1=d)then some (b.1,b.2.1,b.2.2,true)else if fits (a+1)then h (d,c,e,(a+1),i)else none)else some (0,([]:cD),([]:dz),false)) N (k,f.1,(f.1.length:Int),(0:Int),(0:Int)))
theorem Q5 :ax 122 (aI [.ptr zL,ab] [.bR [jN,a7]] (cr (xM N))):=
 aB aA func122 rfl N (ae (.seq (ae (aR ald)) .no)) _
def afU :aw:=⟨.af cR::ab::ak 5 (ab::ab::ak 10 []),[]⟩
def BK (e:List Int) (h:Int):eH:=
 (iter (fun f (c,b,d,a)=>bif decide (a<d)then oB (idx c a) fun i=>(bif decide (b=i)then some a else if fits (a+1)then f (c,b,d,(a+1))else none)else some (-1)) N (e,h,(e.length:Int),(0:Int)))
theorem agx :ax 241 (aI [.af cR,ab] [ab] (cr (BK N))):=
 aB aA func241 rfl N (ae (.seq (ae (aR afU)) .no)) _
def BH (b:List Int) (c:Int):cx:=
 (oB (BK N b c) fun a=>some (decide ((0:Int)<=a)))
theorem afW :ax 169 (aI [.af cR,ab] [a7] (cr (BH N))):=
 aB (al (agx N) aA) func169 rfl N .no _
def af3 :aw:=⟨.dead:: .box 1 0:: .dead:: .own 600003 cF 109 false::ak 5 (.af cI::ab::ab::ak 15 []),[(1,false,[.af cI,.af eU,.af cR])]⟩
def x1 (h:List bq) (m:List bJ) (n:List Int):lJ:=
 (iter (fun i (b,c,d,a,k,j,e)=>bif decide (a<d)then oB (idx c a) fun f=>(oB (BH N e f.1) fun l=>bif !l then if room b.length ([f]:List bq).length 56 then if fits (a+1)then i ((b++([f]:List bq)),c,d,(a+1),k,j,e)else none else none else if fits (a+1)then i (b,c,d,(a+1),k,j,e)else none)else some b) N (([]:List bq),h,(h.length:Int),(0:Int),h,m,n))
theorem Py :ax 107 (aI [.agg [.af cI,.af eU,.af cR]] [.own 1 cF 109 false] (eI (x1 N))):=
 aB (al (afW N) aA) func107 rfl N (ae (ae (.seq (ae (aR af3)) .no))) _
def afT :aw:=⟨ak 3 (.box 3 0::ak 17 (.af cR::ab::ab::ak 16 [])),[(3,true,[.af cI,.af eU,.af cR])]⟩
def BJ (n:List ah) (l:List b3) (f:List bq) (e:List bJ) (a:List Int):cx:=
 (oB (u1 N n l f e) fun k=>bif !k then some false else oB (yg N a) fun r=>bif !r then some false else iter (fun m (j,i,b,d,c,h)=>bif decide (b<i)then oB (idx j b) fun o=>(oB (xM N (d,c) o) fun q=>bif !q.2.2.2 then some false else if fits (b+1)then m (j,i,(b+1),d,c,h)else none)else oB (x1 N d c h) fun t=>some (decide ((0:Int)<t.length))) N (a,(a.length:Int),(0:Int),f,e,a))
theorem agk :ax 55 (aI [fb,.agg [.af cI,.af eU,.af cR]] [a7] (fm (BJ N))):=
 aB (al (Q8 N) (al (Pe N) (al (Q5 N) (al (Py N) aA)))) func55 rfl N (ae (ae (.seq (ae (aR afT)) .no))) _
def pP (N:Nat) (a:Int):cx:=
 (some (!decide (a=a)))
theorem Q7 :ax 171 (aI [ab] [a7] (dY (pP N))):=
 aB aA func171 rfl N .no _
def rb (b:Int) (a:Int):eH:=
 (oB (pP N b) fun d=>oB (pP N a) fun c=>bif d then bif c then some 0 else(some (-1))else bif c then some 1 else bif decide (b<a)then some (-1)else bif decide (a<b)then some 1 else some 0)
theorem Ra :ax 110 (aI [ab,ab] [ab] (cr (rb N))):=
 aB (al (Q7 N) aA) func110 rfl N .no _
def Bo (b:Int) (d:cD) (e:dz) (c:Int) (f:cD) (h:dz):eH:=
 (oB (rb N b c) fun a=>some a)
theorem sM :ax 109 (aI [jN,jN] [ab] (kv (Bo N))):=
 aB (al (Ra N) aA) func109 rfl N .no _
def j5 (N:Nat):(Unit)->bq->bq->Option Int:=(fun(cmp:Unit) (e a:Int×gd×na)=>Bo N e.1 e.2.1 e.2.2 a.1 a.2.1 a.2.2)
def age :aw:=⟨.ay 800000 cF 109 false::ab::ab:: .aV 109 []::ak 4 (ab::ak 44 []),[]⟩
def agt :aw:=⟨.ay 800000 cF 109 false::ab::ab:: .aV 109 []::ak 4 (ab::ab::ak 43 []),[]⟩
def agr (a:List bq) (c:Int) (b:Int) (d:Unit):lJ:=sG (j5 N) N a c b d
 
theorem afN :ax 242 (aI [.ay 800000 cF 109 false,ab,ab,.aV 109 []] [fK,.ay 800000 cF 109 false] (dq (agr N))):=
 aB (al (sM N) aA) func242 rfl N (ae (.block (.loop age (ae (.seq (.block (ae (aR agt))) .no))))) _ (rs:=[800000])
def afI :aw:=⟨.ay 800000 cF 109 false:: .dead::ab::ab:: .aV 109 []::ak 5 (ab::ak 71 []),[]⟩
def agl :aw:=⟨.ay 800000 cF 109 false:: .dead::ab::ab:: .aV 109 []::ak 5 (ab::ab::ak 70 []),[]⟩
def agv (b:List bq) (d:Int) (c:Int) (a:Int) (e:Unit):lJ:=rJ (j5 N) N b d c a e
 
theorem afL :ax 309 (aI [.ay 800000 cF 109 false,ab,ab,ab,.aV 109 []] [fK,.ay 800000 cF 109 false] (fm (agv N))):=
 aB (al (sM N) aA) func309 rfl N (ae (.block (.loop afI (.block (ae (ae (.meet agl .no .no))))))) _ (rs:=[800000])
def afv :aw:=⟨.ay 800000 cF 109 false:: .dead:: .dead:: .aV 109 []::ak 4 (ab::ab::ab::ab::ak 48 []),[]⟩
def afS :aw:=⟨.ay 800000 cF 109 false:: .dead:: .dead:: .aV 109 []::ak 4 (ab::ab:: .dead:: .dead::ab::ak 47 []),[]⟩
def af4 (a:List bq) (c:Int) (b:Int) (d:Unit):lJ:=lS (j5 N) N a c b d
 
theorem agm :ax 243 (aI [.ay 800000 cF 109 false,ab,ab,.aV 109 []] [fK,.ay 800000 cF 109 false] (dq (af4 N))):=
 aB (al (afL N) aA) func243 rfl N (ae (ae (ae (.seq (ae (aR afv)) (ae (aR afS)))))) _ (rs:=[800000])
def aft :aw:=⟨.ay 800000 cF 109 false::ab::ak 6 (ab:: .box 9 0:: .af (.int .u64)::ab::ak 55 []),[(9,false,[.af (.int .u64)])]⟩
def ags :aw:=⟨.ay 800000 cF 109 false::ab::ak 6 (ab:: .box 9 0:: .af (.int .u64)::ab::ab::ak 54 []),[(9,false,[.af (.int .u64)])]⟩
def afG (a:List bq) (c:Int) (b:Int) (d:Unit):lJ:=r3 N a c b d
 
theorem aga :ax 244 (aI [.ay 800000 cF 109 false,ab,ab,.aV 109 []] [fK,.ay 800000 cF 109 false] (dq (afG N))):=
 aB (al (Ct N) (al (Cq N) aA)) func244 rfl N (ae (ae (.cond (ae (ae (ae (.block (.loop aft (ae (.seq (.block (ae (.meet ags .no .no))) .no))))))) .no))) _ (rs:=[800000])
def agj (a:List bq) (d:Int) (c:Int) (e:Unit) (b:Int):Option (Int×Int×(List bq)×Int):=p0 (j5 N) N a d c e b
 
theorem af8 :ax 339 ⟨⟨[.ay 800000 cF 109 false,ab,ab,.box 900003 0,.aV 109 []],[(900003,false,[ab])]⟩,⟨[.bR [ab,ab],.ay 800000 cF 109 false],[(900003,false,[ab])]⟩,fm (agj N)⟩:=
 aB (al (sM N) aA) func339 rfl N .no _ (rs:=[900003,800000])
def afR (a:List bq) (e:Int) (d:Int) (b:Int) (f:Unit) (c:Int):Option (Int×(List bq)×Int):=rl (j5 N) N a e d b f c
 
theorem PB :ax 311 ⟨⟨[.ay 800000 cF 109 false,ab,ab,ab,.box 900004 0,.aV 109 []],[(900004,false,[ab])]⟩,⟨[ab,.ay 800000 cF 109 false],[(900004,false,[ab])]⟩,kv (afR N)⟩:=
 aB (al (af8 N) aA) func311 rfl N .no _ (rs:=[900004,800000])
def af7 (a:List bq) (c:Int) (d:Unit) (b:Int):Option (Int×(List bq)×Int):=pR (j5 N) N a c d b
 
theorem afK :ax 310 ⟨⟨[.ay 800000 cF 109 false,ab,.box 900002 0,.aV 109 []],[(900002,false,[ab])]⟩,⟨[ab,.ay 800000 cF 109 false],[(900002,false,[ab])]⟩,dq (af7 N)⟩:=
 aB (al (PB N) aA) func310 rfl N .no _ (rs:=[900002,800000])
def agy :aw:=⟨.ay 800000 cF 109 false:: .dead:: .dead:: .aV 109 []::ak 7 (.box 11 0::ab::ab::ab::ak 48 []),[(11,false,[ab])]⟩
def afH :aw:=⟨.ay 800000 cF 109 false::ak 10 (.box 11 0:: .dead::ab::ak 49 []),[(11,false,[ab])]⟩
def af9 (a:List bq) (c:Int) (b:Int) (d:Unit):Option (Int×Int×(List bq)):=r4 (j5 N) N a c b d
 
theorem agB :ax 245 (aI [.ay 800000 cF 109 false,ab,ab,.aV 109 []] [.bR [ab,ab],.ay 800000 cF 109 false] (dq (af9 N))):=
 aB (al (afK N) (al (PB N) aA)) func245 rfl N (ae (ae (ae (ae (ae (ae (.meet afH (ae (.cond (.meet agy .no .no) .no)) .no))))))) _ (rs:=[800000])
end Go.Proofs.YtnkagklajgimlaaGreatDoor
