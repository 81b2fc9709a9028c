
import Derived.Test.YtnkagklajgimlaaGreatDoorSA
import Derived.Test.YtnkagklajgimlaaGreatDoorSC
import Derived.Test.YtnkagklajgimlaaGreatDoorSJ
import Derived.Test.YtnkagklajgimlaaGreatDoorSN
import Derived.Test.YtnkagklajgimlaaGreatDoorSP
set_option linter.unusedVariables false
set_option linter.unusedSimpArgs false
namespace Go.Proofs.YtnkagklajgimlaaGreatDoor
open Go.RowKit Go.Proofs.Tryz
variable (N : Nat)
open Option renaming bind -> oB
set_option maxRecDepth 1000000
abbrev ae :Type:=List UInt8
abbrev br :Type:=Int×(List (ae×ae))×(List (ae×Int))
abbrev bJ :Type:=ae×ae×(List (Int×(List Int)))
abbrev cL :Type:=((List br)×(List bJ))×(List Int)
abbrev bZ :Type:=(List ae)×ae
abbrev bl :Type:=List (ae×ae)
abbrev cX :Type:=List (Int×(List Int))
abbrev eP :Type:=List (ae×ae)
abbrev fx :Type:=List (Int×Int)
abbrev mu :Type:=List (ae×Int)
abbrev dq :Type:=List (ae×Int)
abbrev cW :Type:=Option (Bool)
abbrev j5 :Type:=ae×Int×Int×Int
abbrev iH :Type:=List (Int×Int)
abbrev et :Type:=Option (Int)
abbrev yz :Type:=((List ae)×(List bZ))×(List br)×(List bJ)
abbrev yA :Type:=List (Int×(List Int))
abbrev vz :Type:=Option ((List ae)×(List bZ)×(List cL)×Bool)
abbrev DM :Type:=List (List Int)
abbrev lP :Type:=Option ((List br))
abbrev JJ :Type:=ae×ae×(List Int)×Int×Int×Int
abbrev JK :Type:=Int×Int×ae×(List ae)×Int×Int×(List bf)×Bool×Int×Int×Int×Int×Bool×Int×Int
abbrev aM (a r:List b8) (f:fZ (ay.fm ⟨a,[]⟩)->Option (fZ (ay.fm ⟨r,[]⟩))):Model:=⟨⟨a,[]⟩,⟨r,[]⟩,f⟩
abbrev aB :=hW Tryz.prog
theorem aG {l:List (Nat×Model)} (i:o0 Tryz.prog l) {f:FuncId} {fn:Func} {c:Code} (j:Tryz.prog.funcs[f]? =some fn) (b:fn.body=some c) (N:Nat) (h:Hint) (m:Model) (wr rs dw:List Nat:=[])
  (d:(fn.name== "runtime.NumGoroutine")=false:=by kernel_rfl) (e:m.arg.names.all (AQ l wr rs dw).res=true:=by kernel_rfl) (hlen:Nat.ble m.arg.vals.length fn.ntmps=true:=by kernel_rfl)
  (g:∀a,m.run a=IW N (AQ l wr rs dw) xz fn c h m.arg m.ret a:=by intro a;kernel_rfl):hW Tryz.prog f m:=akB (E:=AQ l wr rs dw) (aiy i wr rs dw) j d b N h m e hlen g
theorem an {k:Nat} {m:Model} {l:List (Nat×Model)} (h:hW Tryz.prog k m) (a:o0 Tryz.prog l):o0 Tryz.prog ((k,m)::l):=aie h a
abbrev ab :b8:=.ag (.int .i64)
abbrev aI :b8:=.ag .str
abbrev bj :b8:=.ag .bool
abbrev a8 :aH:=.int .i64
abbrev dM {α ρ:Type} (f:α->ρ) (a:α):ρ:=f a
abbrev cH {b d ρ:Type} (f:b->d->ρ) (a:b×d):ρ:=f a.1 a.2
abbrev eH {b d e ρ:Type} (f:b->d->e->ρ) (a:b×d×e):ρ:=f a.1 a.2.1 a.2.2
abbrev dE {b d e g ρ:Type} (f:b->d->e->g->ρ) (a:b×d×e×g):ρ:=f a.1 a.2.1 a.2.2.1 a.2.2.2
abbrev fN {b d e g h ρ:Type} (f:b->d->e->g->h->ρ) (a:b×d×e×g×h):ρ:=f a.1 a.2.1 a.2.2.1 a.2.2.2.1 a.2.2.2.2
abbrev nz {b d e g h i ρ:Type} (f:b->d->e->g->h->i->ρ) (a:b×d×e×g×h×i):ρ:=f a.1 a.2.1 a.2.2.1 a.2.2.2.1 a.2.2.2.2.1 a.2.2.2.2.2
abbrev Kd {b d e g h i j ρ:Type} (f:b->d->e->g->h->i->j->ρ) (a:b×d×e×g×h×i×j):ρ:=f a.1 a.2.1 a.2.2.1 a.2.2.2.1 a.2.2.2.2.1 a.2.2.2.2.2.1 a.2.2.2.2.2.2
abbrev yP {b d e g h i j k l o ρ:Type} (f:b->d->e->g->h->i->j->k->l->o->ρ) (a:b×d×e×g×h×i×j×k×l×o):ρ:=f a.1 a.2.1 a.2.2.1 a.2.2.2.1 a.2.2.2.2.1 a.2.2.2.2.2.1 a.2.2.2.2.2.2.1 a.2.2.2.2.2.2.2.1 a.2.2.2.2.2.2.2.2.1 a.2.2.2.2.2.2.2.2.2
abbrev Uo {d e g h i j k l o p b ρ:Type} (f:d->e->g->h->i->j->k->l->o->p->b->ρ) (a:d×e×g×h×i×j×k×l×o×p×b):ρ:=f a.1 a.2.1 a.2.2.1 a.2.2.2.1 a.2.2.2.2.1 a.2.2.2.2.2.1 a.2.2.2.2.2.2.1 a.2.2.2.2.2.2.2.1 a.2.2.2.2.2.2.2.2.1 a.2.2.2.2.2.2.2.2.2.1 a.2.2.2.2.2.2.2.2.2.2
def al :Nat->List b8->List b8
 |0,l=>l
 |n+1,l=>.dead::al n l
abbrev dh :aH:=.av a8
abbrev ch :aH:=.pair .str .str
abbrev eB :aH:=.av (.pair .str .str)
abbrev j3 :aH:=.pair (.av .str) .str
abbrev hY :aH:=.pair .str a8
abbrev df :aH:=.av (.pair (.av .str) .str)
abbrev fw :aH:=.av (.pair .str a8)
abbrev cm :aH:=.pair a8 a8
abbrev yx :aH:=.pair a8 (.av a8)
abbrev mr :aH:=.av (.pair a8 (.av a8))
abbrev oE :aH:=.pair .str (.pair a8 (.pair a8 a8))
abbrev cT :aH:=.pair .str (.pair .str (.av (.pair a8 (.av a8))))
abbrev hs :aH:=.av (.pair .str (.pair .str (.av (.pair a8 (.av a8)))))
abbrev cC :aH:=.pair a8 (.pair (.av (.pair .str .str)) (.av (.pair .str a8)))
abbrev dj :aH:=.av (.pair a8 (.pair (.av (.pair .str .str)) (.av (.pair .str a8))))
abbrev yy :aH:=.pair (.av (.pair a8 (.pair (.av (.pair .str .str)) (.av (.pair .str a8))))) (.av (.pair .str (.pair .str (.av (.pair a8 (.av a8))))))
abbrev j4 :aH:=.pair (.pair (.av (.pair a8 (.pair (.av (.pair .str .str)) (.av (.pair .str a8))))) (.av (.pair .str (.pair .str (.av (.pair a8 (.av a8))))))) (.av a8)
abbrev iG :aH:=.av (.pair (.pair (.av (.pair a8 (.pair (.av (.pair .str .str)) (.av (.pair .str a8))))) (.av (.pair .str (.pair .str (.av (.pair a8 (.av a8))))))) (.av a8))
abbrev nu :aH:=.pair (.pair (.av .str) (.av (.pair (.av .str) .str))) (.pair (.av (.pair a8 (.pair (.av (.pair .str .str)) (.av (.pair .str a8))))) (.av (.pair .str (.pair .str (.av (.pair a8 (.av a8)))))))
abbrev bP :b8:=.ag (.av .str)
abbrev qB :b8:=.ag (.av (.int .u8))
abbrev j7 :Nat×Bool×List b8:=(900000,false,[qB,ab])
abbrev j6 (a r:List b8) (f:fZ (ay.fm ⟨.box 900000 0::a,[j7]⟩)->Option (fZ (ay.fm ⟨r,[j7]⟩))):Model:=⟨⟨.box 900000 0::a,[j7]⟩,⟨r,[j7]⟩,f⟩
abbrev ah (h:Hint):Hint:=.seq .no h
abbrev aT (s:ay):Hint:=.block (.loop s .no)
abbrev gj :b8:=.agg [bP,.ag df]
abbrev js :b8:=.agg [ab,.ag eB,.ag fw]
abbrev ly :b8:=.agg [bP,.ag df,.ag iG]
abbrev ve :b8:=.agg [.ag dj,.ag hs]
abbrev yf :b8:=.agg [.own 1 .str 9 true,.own 2 j3 158 true,.own 3 j4 80 false]
abbrev Ds :b8:=.agg [ab,.own 1 ch 110 true,.own 2 hY 221 true]
abbrev ng :b8:=.own 1 .str 9 true
abbrev yg :b8:=.agg [bP,.ag df,.own 1 j4 80 false]
abbrev sK :b8:=.agg [.own 1 ch 83 true]
abbrev lz :b8:=.agg [.ag eB]
abbrev sH :b8:=.agg [aI,aI,.ag mr]
abbrev yd :b8:=.agg [.ag dj,.ag hs,.ag dh]
abbrev sI :b8:=.agg [ab,ab]
abbrev fB :b8:=.bM []
abbrev Dp :b8:=.own 1 cm 98 true
def uY (N:Nat) (a:List Int):Option ((List Int)×Int):=
 (bif decide ((2000:Int)<a.length)then oB (cut a 0 2000) fun b=>(some (b,0))else some (a,0))
theorem Pc :aB 23 ⟨⟨[qB],[]⟩,⟨[.box 10 0],[(10,false,[qB,ab])]⟩,dM (uY N)⟩:=
 aG aE func23 rfl N .no _
def eN (N:Nat) (e:Int) (b:List Int) (a:Int):Option (Int×(List Int)×Int):=
 (if fits (a+1)then bif decide (e<1)then some (0,b,(a+1))else(bif decide ((b.length:Int)=0)then some (0,b,(a+1))else if fits ((a+1)-1)then bif decide (((a+1)-1)<(b.length:Int))then oB (idx b ((a+1)-1)) fun f=>(if e≠0 then some (((IntKind.i64.wrap f).tmod e),b,(a+1))else none)else(if(b.length:Int)≠0 then oB (idx b (((a+1)-1).tmod (b.length:Int))) fun c=>(if fits ((IntKind.i64.wrap c)*131)then if fits (((a+1)-1)*7)then if fits ((((a+1)-1)*7)+3)then if(b.length:Int)≠0 then oB (idx b (((((a+1)-1)*7)+3).tmod (b.length:Int))) fun d=>(if fits ((IntKind.i64.wrap d)*1117)then if fits (((IntKind.i64.wrap c)*131)+((IntKind.i64.wrap d)*1117))then if fits (((a+1)-1)*29)then if fits ((((IntKind.i64.wrap c)*131)+((IntKind.i64.wrap d)*1117))+(((a+1)-1)*29))then if(b.length:Int)≠0 then if fits (((a+1)-1).tdiv (b.length:Int))then if fits ((((a+1)-1).tdiv (b.length:Int))*53)then if fits (((((IntKind.i64.wrap c)*131)+((IntKind.i64.wrap d)*1117))+(((a+1)-1)*29))+((((a+1)-1).tdiv (b.length:Int))*53))then if 64≠0 then if fits ((((((IntKind.i64.wrap c)*131)+((IntKind.i64.wrap d)*1117))+(((a+1)-1)*29))+((((a+1)-1).tdiv (b.length:Int))*53)).tdiv 64)then if e≠0 then some (((dS .xor .i64 (((((IntKind.i64.wrap c)*131)+((IntKind.i64.wrap d)*1117))+(((a+1)-1)*29))+((((a+1)-1).tdiv (b.length:Int))*53)) ((((((IntKind.i64.wrap c)*131)+((IntKind.i64.wrap d)*1117))+(((a+1)-1)*29))+((((a+1)-1).tdiv (b.length:Int))*53)).tdiv 64)).tmod e),b,(a+1))else none else none else none else none else none else none else none else none else none else none else none)else none else none else none else none)else none)else none)else none)
theorem ll :aB 75 (j6 [ab] [ab] (eH (eN N))):=
 aG aE func75 rfl N .no _ (rs:=[900000])
def aiR :ay:=⟨.box 900000 0:: .dead:: .box 2 0:: .box 3 0::al 30 [],[(2,false,[.aQ,.aQ]),(3,false,[.own 13 .str 9 true,.aQ]),j7]⟩
def aiW :ay:=⟨.box 900000 0:: .dead:: .box 2 0:: .box 3 0::al 30 [],[(2,false,[.aQ,.aQ]),(3,false,[.own 8 .str 9 true,.aQ]),j7]⟩
def CN (j:List Int) (n:Int):Option ((List ae)×(List bZ)×(List Int)×Int):=
 (meet (fun(e:(List ae)×(List Int)×Int)=>match e with|(i,o,k)=>meet (fun(e:(List ae)×(List Int)×Int)=>match e with|(d,m,l)=>oB (eN N 4 m l) fun a=>bif decide (a.1=0)then some (d,([(([([110,101,119]:ae),([121,111,114,107]:ae)]:List ae),([110,121]:ae))]:List bZ),a.2.1,a.2.2)else bif decide (a.1=1)then some (d,([(([([98,105,103]:ae)]:List ae),([108,97,114,103]:ae)),(([([98,105,103]:ae),([114,101,100]:ae),([102,111,120]:ae)]:List ae),([102,111,120]:ae)),(([([110,101,119]:ae),([121,111,114,107]:ae)]:List ae),([110,121]:ae))]:List bZ),a.2.1,a.2.2)else some (d,([]:List bZ),a.2.1,a.2.2)) fun f=>oB (eN N 4 o k) fun b=>bif decide (b.1=0)then f (([([100,111,103]:ae),([116,104,101]:ae)]:List ae),b.2.1,b.2.2)else f (i,b.2.1,b.2.2)) fun h=>oB (eN N 3 j n) fun c=>bif decide ((0:Int)<c.1)then h (([([116,104,101]:ae)]:List ae),c.2.1,c.2.2)else h (([]:List ae),c.2.1,c.2.2))
theorem ai5 :aB 147 (j6 [] [.agg [ng,.own 2 j3 158 true]] (cH (CN N))):=
 aG (an (ll N) aE) func147 rfl N (ah (ah (.meet aiW .no (.meet aiR .no .no)))) _ (rs:=[900000])
def lk (N:Nat) (a:Int):et:=
 (bif decide ((65:Int)<=a)then bif decide (a<=90)then some (IntKind.u8.wrap (a+32))else(bif decide ((97:Int)<=a)then bif decide (a<=122)then some a else(bif decide ((48:Int)<=a)then bif decide (a<=57)then some a else(some 0)else some 0)else bif decide ((48:Int)<=a)then bif decide (a<=57)then some a else(some 0)else some 0)else bif decide ((97:Int)<=a)then bif decide (a<=122)then some a else(bif decide ((48:Int)<=a)then bif decide (a<=57)then some a else(some 0)else some 0)else bif decide ((48:Int)<=a)then bif decide (a<=57)then some a else(some 0)else some 0)
theorem Ox :aB 156 (aM [.ag (.int .u8)] [.ag (.int .u8)] (dM (lk N))):=
 aG aE func156 rfl N .no _
def iN (N:Nat) (a:Int) (b:Int) (c:Int):cW:=
 (bif decide (b<=a)then some (decide (a<=c))else some false)
theorem uj :aB 51 (aM [ab,ab,ab] [bj] (eH (iN N))):=
 aG aE func51 rfl N .no _
def ahM :ay:=⟨aI:: .dead:: .dead::ab::al 23 [],[]⟩
def nT (e:ae):cW:=
 (iter (fun f (b,a)=>bif decide (a<(b.length:Int))then oB (idx b a) fun c=>(oB (lk N (c.toNat:Int)) fun j=>oB (idx b a) fun d=>bif !decide (j=(d.toNat:Int))then some false else oB (idx b a) fun k=>bif decide ((k.toNat:Int)=0)then some false else if fits (a+1)then f (b,(a+1))else none)else oB (iN N (b.length:Int) 1 12) fun h=>some h) N (e,(0:Int)))
theorem GP :aB 88 (aM [aI] [bj] (dM (nT N))):=
 aG (an (Ox N) (an (uj N) aE)) func88 rfl N (ah (.seq (ah (aT ahM)) .no)) _
def GC (N:Nat):Option ((List ae)):=
 (some ([([105,110,103]:ae),([101,100]:ae),([101,115]:ae),([108,121]:ae),([115]:ae)]:List ae))
theorem aft :aB 301 ⟨⟨[],[]⟩,⟨[ng],[]⟩,fun a=>GC N⟩:=
 aG aE func301 rfl N .no _
def afA :ay:=⟨aI:: .dead:: .dead::ab::al 30 [],[]⟩
def w5 (e:ae):Option (ae):=
 (iter (fun d (a,b)=>oB (GC N) fun k=>bif decide (b<(k.length:Int))then oB (GC N) fun f=>(oB (idx f b) fun c=>if fits ((a.length:Int)-(c.length:Int))then bif decide ((3:Int)<=((a.length:Int)-(c.length:Int)))then oB (cut a ((a.length:Int)-(c.length:Int)) (a.length:Int)) fun j=>(bif decide (j=c)then oB (cut a 0 ((a.length:Int)-(c.length:Int))) fun h=>(some h)else if fits (b+1)then d (a,(b+1))else none)else(if fits (b+1)then d (a,(b+1))else none)else none)else some a) N (e,(0:Int)))
theorem aiv :aB 232 (aM [aI] [aI] (dM (w5 N))):=
 aG (an (aft N) aE) func232 rfl N (ah (.seq (ah (aT afA)) .no)) _
def aiG :ay:=⟨aI::al 9 [],[]⟩
def uf (c:ae):Option (ae):=
 (iter (fun d (a:ae)=>let s2:=a;(oB (w5 N s2) fun b=>bif !decide (b=s2)then oB (w5 N s2) fun e=>(d e)else some s2)) N c)
theorem OA :aB 158 (aM [aI] [aI] (dM (uf N))):=
 aG (an (aiv N) aE) func158 rfl N (ah (.seq (aT aiG) .no)) _
def afO :ay:=⟨bP::aI::al 3 (ab::al 12 []),[]⟩
def ue (h:List ae) (d:ae):cW:=
 (iter (fun e (b,c,a)=>bif decide (a<(b.length:Int))then oB (idx b a) fun i=>(bif decide (i=c)then some true else if fits (a+1)then e (b,c,(a+1))else none)else some false) N (h,d,(0:Int)))
theorem ON :aB 159 (aM [bP,aI] [bj] (cH (ue N))):=
 aG aE func159 rfl N (ah (.seq (ah (aT afO)) .no)) _
def ah4 :ay:=⟨.dead:: .box 1 0:: .dead::ab::al 114 [],[(1,false,[bP,.ag df])]⟩
def ah8 :ay:=⟨.dead:: .box 1 0:: .dead:: .dead::ab::al 113 [],[(1,false,[bP,.ag df])]⟩
def ahY :ay:=⟨.dead:: .box 1 0:: .dead:: .dead::ab:: .box 5 0::ab::al 111 [],[(1,false,[bP,.ag df]),(5,false,[bP,aI])]⟩
def r0 (t:List ae) (B:List bZ):cW:=
 (iter (fun p (a,b,i)=>bif decide (a<(b.length:Int))then oB (idx b a) fun x=>(oB (nT N x) fun z=>bif !z then some false else bif decide ((0:Int)<a)then oB (idx b a) fun o=>(if fits (a-1)then oB (idx b (a-1)) fun r=>(bif Op.bytesLess o r||decide (o=r)then some false else if fits (a+1)then p ((a+1),b,i)else none)else none)else if fits (a+1)then p ((a+1),b,i)else none)else iter (fun w (k,m,f)=>bif decide (k<(f.length:Int))then oB (idx f k) fun q=>(iter (fun v (j,d,l,n,c,h)=>bif decide (d<(c.length:Int))then oB (idx c d) fun K=>(oB (nT N K) fun D=>bif !D then some false else oB (idx c d) fun C=>oB (uf N C) fun u=>oB (idx c d) fun H=>bif !decide (u=H)then some false else oB (idx c d) fun A=>oB (ue N l A) fun E=>bif E then some false else if fits (d+1)then v (j,(d+1),l,n,c,h)else none)else oB (iN N (c.length:Int) 1 3) fun y=>bif !y then some false else oB (nT N h) fun I=>bif !I then some false else oB (uf N h) fun G=>bif !decide (G=h)then some false else if fits (j+1)then w ((j+1),l,n)else none) N (k,(0:Int),m,f,q.1,q.2))else bif decide ((m.length:Int)<=6)then some (decide ((f.length:Int)<=4))else some false) N ((0:Int),b,i)) N ((0:Int),t,B))
theorem G2 :aB 92 (aM [gj] [bj] (cH (r0 N))):=
 aG (an (GP N) (an (OA N) (an (ON N) (an (uj N) aE)))) func92 rfl N (ah (.seq (ah (aT ah4)) (.seq (ah (.block (.loop ah8 (ah (.seq (.block (ah (.seq (ah (aT ahY)) .no))) .no))))) .no))) _
def adC :ay:=⟨.dead:: .box 1 0:: .box 2 0:: .box 3 0::ab::al 33 [],[(1,false,[bP,.ag df]),(2,false,[.aQ,.aQ]),(3,false,[.own 700300 .str 9 true,.own 700301 j3 158 true])]⟩
def xR (c:List ae) (i:List bZ):Option ((List ae)×(List bZ)):=
 (if room ([]:List ae).length c.length 16 then iter (fun j (a,l,b,f,d)=>bif decide (a<(b.length:Int))then oB (idx b a) fun e=>(if room ([]:List ae).length e.1.length 16 then oB (idx b a) fun h=>(if room d.length ([((([]:List ae)++e.1),h.2)]:List bZ).length 40 then if fits (a+1)then j ((a+1),l,b,f,(d++([((([]:List ae)++e.1),h.2)]:List bZ)))else none else none)else none)else some (f,d)) N ((0:Int),c,i,(([]:List ae)++c),([]:List bZ))else none)
theorem NP :aB 144 (aM [gj] [.agg [ng,.own 2 j3 158 true]] (cH (xR N))):=
 aG aE func144 rfl N (ah (ah (.seq (ah (aT adC)) .no))) _
def xO (a:List ae) (b:List bZ):Option ((List ae)×(List bZ)):=
 (oB (r0 N a b) fun d=>bif !d then some (([]:List ae),([]:List bZ))else oB (xR N a b) fun c=>some (c.1,c.2))
theorem adU :aB 146 (aM [gj] [.agg [ng,.own 2 j3 158 true,.aQ]] (cH (xO N))):=
 aG (an (G2 N) (an (NP N) aE)) func146 rfl N .no _
def ag6 :ay:=⟨aI:: .dead:: .dead::ab::al 19 [],[]⟩
def Bd (e:ae):cW:=
 (iter (fun f (b,a)=>bif decide (a<(b.length:Int))then oB (idx b a) fun c=>(bif decide ((c.toNat:Int)<32)then some false else oB (idx b a) fun d=>bif decide ((126:Int)<(d.toNat:Int))then some false else if fits (a+1)then f (b,(a+1))else none)else some (decide ((b.length:Int)<=160))) N (e,(0:Int)))
theorem ahi :aB 233 (aM [aI] [bj] (dM (Bd N))):=
 aG aE func233 rfl N (ah (.seq (ah (aT ag6)) .no)) _
def ag8 :ay:=⟨.dead:: .box 1 0:: .dead::ab::al 100 [],[(1,false,[ab,.ag eB,.ag fw])]⟩
def aix :ay:=⟨.dead:: .box 1 0::al 3 (ab::al 98 []),[(1,false,[ab,.ag eB,.ag fw])]⟩
def A5 (z:Int) (B:bl) (v:dq):cW:=
 (iter (fun o (b,j,d,h)=>bif decide (b<(d.length:Int))then oB (idx d b) fun e=>(oB (nT N e.1) fun u=>bif !u then some false else oB (Bd N e.2) fun w=>bif !w then some false else bif decide ((0:Int)<b)then if fits (b-1)then oB (idx d (b-1)) fun l=>(bif Op.bytesLess e.1 l.1||decide (e.1=l.1)then some false else if fits (b+1)then o ((b+1),j,d,h)else none)else none else if fits (b+1)then o ((b+1),j,d,h)else none)else iter (fun m (a,k,f,c)=>bif decide (a<(c.length:Int))then oB (idx c a) fun r=>(oB (nT N r.1) fun q=>bif !q then some false else oB (idx c a) fun y=>oB (iN N y.2 0 999999999) fun x=>bif !x then some false else bif decide ((0:Int)<a)then oB (idx c a) fun p=>(if fits (a-1)then oB (idx c (a-1)) fun n=>(bif Op.bytesLess p.1 n.1||decide (p.1=n.1)then some false else if fits (a+1)then m ((a+1),k,f,c)else none)else none)else if fits (a+1)then m ((a+1),k,f,c)else none)else oB (iN N k 1 9999) fun t=>bif t then oB (iN N (f.length:Int) 0 3) fun A=>(bif A then some (decide ((c.length:Int)<=3))else some false)else some false) N ((0:Int),j,d,h)) N ((0:Int),z,B,v))
theorem ahe :aB 160 (aM [js] [bj] (eH (A5 N))):=
 aG (an (GP N) (an (ahi N) (an (uj N) aE))) func160 rfl N (ah (.seq (ah (aT ag8)) (.seq (ah (aT aix)) .no))) _
def afm :ay:=⟨.ag dj:: .dead:: .dead::ab::al 33 [],[]⟩
def uh (h:List br):cW:=
 (iter (fun d (b,a)=>bif decide (a<(b.length:Int))then oB (idx b a) fun c=>(oB (A5 N c.1 c.2.1 c.2.2) fun i=>bif !i then some false else bif decide ((0:Int)<a)then oB (idx b a) fun e=>(if fits (a-1)then oB (idx b (a-1)) fun j=>(bif decide (e.1<=j.1)then some false else if fits (a+1)then d (b,(a+1))else none)else none)else if fits (a+1)then d (b,(a+1))else none)else some (decide ((b.length:Int)<=16))) N (h,(0:Int)))
theorem GX :aB 93 (aM [.ag dj] [bj] (dM (uh N))):=
 aG (an (ahe N) aE) func93 rfl N (ah (.seq (ah (aT afm)) .no)) _
def afC :ay:=⟨bP::aI::al 3 (ab::al 42 []),[]⟩
def x1 (r:List ae) (p:ae):Option ((List ae)):=
 (iter (fun q (a,c,b)=>bif decide (b<(a.length:Int))then oB (idx a b) fun o=>(bif Op.bytesLess o c then if fits (b+1)then q (a,c,(b+1))else none else bif decide (b<(a.length:Int))then oB (idx a b) fun m=>(bif decide (m=c)then some a else oB (cut a 0 b) fun e=>if room ([]:List ae).length e.length 16 then if room (([]:List ae)++e).length ([c]:List ae).length 16 then oB (cut a b (a.length:Int)) fun j=>(if room ((([]:List ae)++e)++([c]:List ae)).length j.length 16 then some (((([]:List ae)++e)++([c]:List ae))++j)else none)else none else none)else oB (cut a 0 b) fun h=>if room ([]:List ae).length h.length 16 then if room (([]:List ae)++h).length ([c]:List ae).length 16 then oB (cut a b (a.length:Int)) fun l=>(if room ((([]:List ae)++h)++([c]:List ae)).length l.length 16 then some (((([]:List ae)++h)++([c]:List ae))++l)else none)else none else none)else bif decide (b<(a.length:Int))then oB (idx a b) fun t=>(bif decide (t=c)then some a else oB (cut a 0 b) fun f=>if room ([]:List ae).length f.length 16 then if room (([]:List ae)++f).length ([c]:List ae).length 16 then oB (cut a b (a.length:Int)) fun i=>(if room ((([]:List ae)++f)++([c]:List ae)).length i.length 16 then some (((([]:List ae)++f)++([c]:List ae))++i)else none)else none else none)else oB (cut a 0 b) fun d=>if room ([]:List ae).length d.length 16 then if room (([]:List ae)++d).length ([c]:List ae).length 16 then oB (cut a b (a.length:Int)) fun k=>(if room ((([]:List ae)++d)++([c]:List ae)).length k.length 16 then some (((([]:List ae)++d)++([c]:List ae))++k)else none)else none else none) N (r,p,(0:Int)))
theorem OG :aB 181 (aM [bP,aI] [bP] (cH (x1 N))):=
 aG aE func181 rfl N (ah (ah (.seq (aT afC) .no))) _
def agZ :ay:=⟨.ag dj:: .dead:: .dead::bP::ab::al 30 [],[]⟩
def afv :ay:=⟨.ag dj:: .dead:: .dead::bP::ab::ab::al 29 [],[]⟩
def CV (j:List br):Option ((List ae)):=
 (iter (fun l (h,e,i)=>bif decide (i<(h.length:Int))then iter (fun m (b,f,a,c)=>oB (idx b a) fun n=>bif decide (c<(n.2.1.length:Int))then oB (idx b a) fun k=>(oB (idx k.2.1 c) fun p=>oB (x1 N f p.1) fun o=>if fits (c+1)then m (b,o,a,(c+1))else none)else if fits (a+1)then l (b,f,(a+1))else none) N (h,e,i,(0:Int))else some e) N (j,([]:List ae),(0:Int)))
theorem af0 :aB 114 (aM [.ag dj] [bP] (dM (CV N))):=
 aG (an (OG N) aE) func114 rfl N (ah (ah (.seq (ah (.block (.loop agZ (ah (.seq (.block (ah (aT afv))) .no))))) .no))) _
def afE :ay:=⟨.dead::aI:: .box 2 0:: .dead:: .dead::ab::al 21 [],[(2,false,[ab,.ag eB,.ag fw])]⟩
def x0 (m:Int) (n:bl) (e:dq) (d:ae):Option (ae):=
 (iter (fun i (c,a,f,b,j)=>bif decide (a<(b.length:Int))then oB (idx b a) fun l=>(bif decide (l.1=c)then oB (idx b a) fun h=>(some h.2)else if fits (a+1)then i (c,(a+1),f,b,j)else none)else some ([]:ae)) N (d,(0:Int),m,n,e))
theorem OK :aB 183 (aM [js,aI] [aI] (dE (x0 N))):=
 aG aE func183 rfl N (ah (.seq (ah (aT afE)) .no)) _
def agO :ay:=⟨aI:: .dead:: .dead:: .own 600003 oE 189 true::ab::al 50 [],[]⟩
def af3 :ay:=⟨aI:: .dead:: .dead:: .own 600003 oE 189 true::ab:: .own 600005 (.int .u8) 5 true::ab::al 48 [],[]⟩
def aiu :ay:=⟨aI:: .dead:: .dead:: .own 600003 oE 189 true::ab::qB::ab::al 48 [],[]⟩
def AN (G:ae):Option ((List j5)):=
 (iter (fun l (y,u,m)=>bif decide (m<(y.length:Int))then iter (fun B (b,j,a,c,h)=>bif decide (a<(b.length:Int))then oB (idx b a) fun z=>(oB (lk N (z.toNat:Int)) fun D=>bif !decide (D=0)then oB (idx b a) fun E=>(oB (lk N (E.toNat:Int)) fun w=>if room c.length ([w]:List Int).length 1 then if fits (a+1)then B (b,j,(a+1),(c++([w]:List Int)),h)else none else none)else meet (fun(d:ae×(List j5)×Int×(List Int)×Int)=>match d with|(p,k,f,n,t)=>bif decide ((0:Int)<n.length)then if room k.length ([((bytesOf n),(k.length:Int),t,f)]:List j5).length 40 then if fits (f+1)then l (p,(k++([((bytesOf n),(k.length:Int),t,f)]:List j5)),(f+1))else none else none else if fits (f+1)then l (p,k,(f+1))else none) fun q=>bif decide ((12:Int)<c.length)then oB (cut c 0 12) fun C=>(q (b,j,a,C,h))else q (b,j,a,c,h))else meet (fun(d:ae×(List j5)×Int×(List Int)×Int)=>match d with|(r,i,e,o,v)=>bif decide ((0:Int)<o.length)then if room i.length ([((bytesOf o),(i.length:Int),v,e)]:List j5).length 40 then if fits (e+1)then l (r,(i++([((bytesOf o),(i.length:Int),v,e)]:List j5)),(e+1))else none else none else if fits (e+1)then l (r,i,(e+1))else none) fun x=>bif decide ((12:Int)<c.length)then oB (cut c 0 12) fun A=>(x (b,j,a,A,h))else x (b,j,a,c,h)) N (y,u,m,([]:List Int),m)else some u) N (G,([]:List j5),(0:Int)))
theorem aio :aB 316 (aM [aI] [.own 1 oE 189 true] (dM (AN N))):=
 aG (an (Ox N) aE) func316 rfl N (ah (ah (.seq (ah (.block (.loop agO (ah (.seq (.block (ah (ah (.seq (aT af3) (.meet aiu .no .no))))) .no))))) .no))) _
def age :ay:=⟨.dead:: .dead:: .box 2 0:: .dead:: .dead:: .own 600005 hY 114 true:: .own 600006 oE 189 true::ab::al 43 [],[(2,false,[bP,.ag df])]⟩
def AZ (j:List ae) (p:List bZ) (q:ae):Option (mu):=
 (oB (AN N q) fun o=>iter (fun f (c,b,a,d,e)=>bif decide (a<(b.length:Int))then oB (idx b a) fun n=>(oB (uf N n.1) fun h=>oB (idx b a) fun l=>oB (ue N d l.1) fun k=>bif !k then oB (ue N d h) fun r=>(bif !r then oB (idx b a) fun i=>(if room c.length ([(h,i.2.1)]:dq).length 24 then if fits (a+1)then f ((c++([(h,i.2.1)]:dq)),b,(a+1),d,e)else none else none)else if fits (a+1)then f (c,b,(a+1),d,e)else none)else if fits (a+1)then f (c,b,(a+1),d,e)else none)else some c) N (([]:dq),o,(0:Int),j,p))
theorem ah0 :aB 263 (aM [gj,aI] [.own 1 hY 114 true] (eH (AZ N))):=
 aG (an (aio N) (an (OA N) (an (ON N) aE))) func263 rfl N (ah (ah (ah (.seq (ah (aT age)) .no)))) _
def ahS :ay:=⟨.ag fw::bP::al 3 (ab::al 36 []),[]⟩
def A0 (j:dq) (k:List ae):cW:=
 (iter (fun f (b,c,a)=>bif decide (a<(c.length:Int))then bif decide ((b.length:Int)<=a)then some false else(oB (idx b a) fun i=>oB (idx c a) fun e=>bif !decide (i.1=e)then some false else oB (idx b a) fun l=>oB (idx b 0) fun d=>if fits (d.2+a)then bif !decide (l.2=(d.2+a))then some false else(if fits (a+1)then f (b,c,(a+1))else none)else none)else some true) N (j,k,(0:Int)))
theorem aiC :aB 317 (aM [.ag fw,bP] [bj] (cH (A0 N))):=
 aG aE func317 rfl N (ah (.seq (ah (aT ahS)) .no)) _
def afK :ay:=⟨.dead:: .ag fw:: .box 2 0:: .dead:: .dead::ab::ab::al 38 [],[(2,false,[bP,.ag df])]⟩
def A2 (h:List ae) (i:List bZ) (l:dq):et:=
 (iter (fun e (c,d,a,f,b)=>bif decide (a<(b.length:Int))then oB (idx b a) fun m=>(oB (A0 N c m.1) fun n=>bif n then bif decide (d<0)then if fits (a+1)then e (c,a,(a+1),f,b)else none else(oB (idx b a) fun j=>oB (idx b d) fun o=>bif decide ((o.1.length:Int)<(j.1.length:Int))then if fits (a+1)then e (c,a,(a+1),f,b)else none else if fits (a+1)then e (c,d,(a+1),f,b)else none)else if fits (a+1)then e (c,d,(a+1),f,b)else none)else some d) N (l,((-1):Int),(0:Int),h,i))
theorem ahI :aB 264 (aM [gj,.ag fw] [ab] (eH (A2 N))):=
 aG (an (aiC N) aE) func264 rfl N (ah (ah (.seq (ah (aT afK)) .no))) _
def ags :ay:=⟨.dead:: .dead:: .box 2 0:: .dead:: .dead:: .own 600005 hY 114 true:: .ag fw::al 45 [],[(2,false,[bP,.ag df])]⟩
def qn (f:List ae) (k:List bZ) (q:ae):Option (mu):=
 (oB (AZ N f k q) fun p=>iter (fun l (c,a,e,b)=>bif decide ((0:Int)<a.length)then oB (A2 N e b a) fun d=>(bif decide (d<0)then oB (idx a 0) fun j=>(if room c.length ([j]:dq).length 24 then oB (cut a 1 (a.length:Int)) fun o=>(l ((c++([j]:dq)),o,e,b))else none)else oB (idx b d) fun h=>oB (idx a 0) fun i=>if room c.length ([(h.2,i.2)]:dq).length 24 then oB (idx b d) fun r=>(oB (cut a (r.1.length:Int) (a.length:Int)) fun m=>l ((c++([(h.2,i.2)]:dq)),m,e,b))else none)else some c) N (([]:dq),p,f,k))
theorem OW :aB 182 (aM [gj,aI] [.own 1 hY 114 true] (eH (qn N))):=
 aG (an (ah0 N) (an (ahI N) aE)) func182 rfl N (ah (ah (ah (.seq (aT ags) .no)))) _
def ago :ay:=⟨.dead:: .ag dj::aI:: .box 3 0::al 3 (bP::ab::al 31 []),[(3,false,[bP,.ag df])]⟩
def ahW :ay:=⟨.dead:: .ag dj::aI:: .box 3 0::al 3 (bP::ab:: .own 600009 hY 114 true::ab::al 29 []),[(3,false,[bP,.ag df])]⟩
def CY (r:List ae) (y:List bZ) (u:List br) (B:ae):Option ((List ae)):=
 (iter (fun z (e,l,o,b,q,m)=>bif decide (b<(e.length:Int))then oB (idx e b) fun d=>(oB (x0 N d.1 d.2.1 d.2.2 l) fun x=>oB (qn N q m x) fun A=>iter (fun w (k,n,p,f,h,a,i,j)=>bif decide (a<(h.length:Int))then oB (idx h a) fun v=>(oB (x1 N p v.1) fun t=>if fits (a+1)then w (k,n,t,f,h,(a+1),i,j)else none)else if fits (f+1)then z (k,n,p,(f+1),i,j)else none) N (e,l,o,b,A,(0:Int),q,m))else some o) N (u,B,([]:List ae),(0:Int),r,y))
theorem ahz :aB 115 (aM [gj,.ag dj,aI] [bP] (dE (CY N))):=
 aG (an (OK N) (an (OW N) (an (OG N) aE))) func115 rfl N (ah (ah (.seq (ah (.block (.loop ago (ah (.seq (.block (ah (ah (aT ahW)))) .no))))) .no))) _
def agz :ay:=⟨al 3 (aI::al 5 (.own 600009 a8 3 true:: .own 600010 hY 114 true::ab::al 28 [])),[]⟩
def CW (h:List ae) (l:List bZ) (q:Int) (r:bl) (m:dq) (o:ae) (p:ae):Option ((List Int)):=
 (oB (x0 N q r m o) fun k=>oB (qn N h l k) fun n=>iter (fun f (d,c,b,a)=>bif decide (a<(b.length:Int))then oB (idx b a) fun j=>(bif decide (j.1=d)then oB (idx b a) fun e=>(if room c.length ([e.2]:List Int).length 8 then if fits (a+1)then f (d,(c++([e.2]:List Int)),b,(a+1))else none else none)else if fits (a+1)then f (d,c,b,(a+1))else none)else some c) N (p,([]:List Int),n,(0:Int)))
theorem aib :aB 184 (aM [gj,js,aI,aI] [.own 1 a8 3 true] (Kd (CW N))):=
 aG (an (OK N) (an (OW N) aE)) func184 rfl N (ah (ah (ah (.seq (ah (aT agz)) .no)))) _
def afy :ay:=⟨.dead:: .ag dj::aI::aI:: .box 4 0::al 3 (.box 8 0:: .box 9 0::ab::al 34 []),[(4,false,[bP,.ag df]),(8,false,[aI,aI,.aQ]),(9,false,[aI,aI,.own 700902 yx 197 true])]⟩
def CU (t:List ae) (w:List bZ) (u:List br) (p:ae) (q:ae):Option bJ:=
 (iter (fun o (b,h,d,a,f,k,m,n,i,e,c)=>bif decide (a<(b.length:Int))then oB (idx b a) fun l=>(oB (CW N f k l.1 l.2.1 l.2.2 h d) fun j=>bif decide ((0:Int)<j.length)then oB (idx b a) fun r=>(if room c.length ([(r.1,j)]:cX).length 32 then if fits (a+1)then o (b,h,d,(a+1),f,k,m,n,i,e,(c++([(r.1,j)]:cX)))else none else none)else if fits (a+1)then o (b,h,d,(a+1),f,k,m,n,i,e,c)else none)else some (i,e,c)) N (u,p,q,(0:Int),t,w,([]:ae),([]:ae),p,q,([]:cX)))
theorem aiI :aB 116 (aM [gj,.ag dj,aI,aI] [.agg [aI,aI,.own 1 yx 197 true]] (fN (CU N))):=
 aG (an (aib N) aE) func116 rfl N (ah (ah (.seq (ah (aT afy)) .no))) _
def qO (N:Nat) (c:Int) (b:bl) (a:dq):Option br:=
 (if room ([]:bl).length b.length 32 then if room ([]:dq).length a.length 24 then some (c,(([]:bl)++b),(([]:dq)++a))else none else none)
theorem G1 :aB 117 (aM [js] [Ds] (eH (qO N))):=
 aG aE func117 rfl N .no _
def agn :ay:=⟨.dead:: .ag dj:: .box 2 0:: .dead:: .box 4 0:: .box 5 0::bP::ab::al 58 [],[(2,false,[bP,.ag df]),(4,false,[.aQ,.aQ]),(5,false,[.aQ,.own 700501 cT 119 true])]⟩
def aho :ay:=⟨.dead:: .ag dj:: .box 2 0:: .dead:: .box 4 0:: .box 5 0::bP::ab::bP::ab::al 56 [],[(2,false,[bP,.ag df]),(4,false,[.aQ,.aQ]),(5,false,[.aQ,.own 700501 cT 119 true])]⟩
def agm :ay:=⟨.dead:: .ag dj:: .dead:: .dead:: .box 4 0:: .box 5 0::al 4 (ab::al 55 []),[(4,false,[.aQ,.aQ]),(5,false,[.own 700500 cC 109 true,.own 700501 cT 119 true])]⟩
def uZ (z:List ae) (G:List bZ) (u:List br):Option ((List br)×(List bJ)):=
 (oB (CV N u) fun E=>iter (fun H (m,n,i,v,w,x)=>bif decide (i<(n.length:Int))then oB (idx n i) fun D=>(oB (CY N v w m D) fun I=>iter (fun C (h,j,d,o,b,e,f,q)=>bif decide (b<(o.length:Int))then oB (idx j d) fun B=>(oB (idx o b) fun K=>oB (CU N e f h B K) fun r=>if room q.length ([r]:List bJ).length 56 then if fits (b+1)then C (h,j,d,o,(b+1),e,f,(q++([r]:List bJ)))else none else none)else if fits (d+1)then H (h,j,(d+1),e,f,q)else none) N (m,n,i,I,(0:Int),v,w,x))else iter (fun A (l,c,k,t)=>bif decide (c<(l.length:Int))then oB (idx l c) fun p=>(oB (qO N p.1 p.2.1 p.2.2) fun y=>if room k.length ([y]:List br).length 56 then if fits (c+1)then A (l,(c+1),(k++([y]:List br)),t)else none else none)else some (k,t)) N (m,(0:Int),([]:List br),x)) N (u,E,(0:Int),z,G,([]:List bJ)))
theorem GU :aB 53 (aM [gj,.ag dj] [.agg [.own 1 cC 109 true,.own 2 cT 119 true]] (eH (uZ N))):=
 aG (an (af0 N) (an (ahz N) (an (aiI N) (an (G1 N) aE)))) func53 rfl N (ah (ah (ah (.seq (ah (.block (.loop agn (ah (.seq (.block (ah (ah (aT aho)))) .no))))) (.seq (ah (aT agm)) .no))))) _
def agq :ay:=⟨.ag dh:: .ag dh::al 3 (ab::al 20 []),[]⟩
def AL (d:List Int) (c:List Int):cW:=
 (bif !decide ((d.length:Int)=(c.length:Int))then some false else iter (fun h (b,e,a)=>bif decide (a<(b.length:Int))then oB (idx b a) fun j=>(oB (idx e a) fun f=>bif !decide (j=f)then some false else if fits (a+1)then h (b,e,(a+1))else none)else some true) N (d,c,(0:Int)))
theorem afI :aB 231 (aM [.ag dh,.ag dh] [bj] (cH (AL N))):=
 aG aE func231 rfl N (ah (ah (.seq (ah (aT agq)) .no))) _
def agM :ay:=⟨.dead:: .dead:: .box 2 0:: .box 3 0:: .dead::ab::al 57 [],[(2,false,[aI,aI,.ag mr]),(3,false,[aI,aI,.ag mr])]⟩
def AV (i:ae) (h:ae) (e:cX) (d:ae) (f:ae) (j:cX):cW:=
 (bif !decide (i=d)then some false else bif !decide (h=f)then some false else bif !decide ((e.length:Int)=(j.length:Int))then some false else iter (fun r (a,k,q,b,p,t,c)=>bif decide (a<(b.length:Int))then oB (idx b a) fun n=>(oB (idx c a) fun l=>bif !decide (n.1=l.1)then some false else oB (idx b a) fun v=>oB (idx c a) fun u=>oB (AL N v.2 u.2) fun o=>bif !o then some false else if fits (a+1)then r ((a+1),k,q,b,p,t,c)else none)else some true) N ((0:Int),i,h,e,d,f,j))
theorem ait :aB 157 (aM [sH,sH] [bj] (nz (AV N))):=
 aG (an (afI N) aE) func157 rfl N (ah (ah (.seq (ah (aT agM)) .no))) _
def ahX :ay:=⟨al 3 (.box 3 0:: .dead:: .box 5 0::ab::al 39 []),[(3,false,[.ag dj,.ag hs]),(5,false,[.own 700500 cC 109 true,.own 700501 cT 119 true])]⟩
def A4 (h:List ae) (j:List bZ) (f:List br) (k:List bJ):cW:=
 (oB (r0 N h j) fun n=>bif !n then some false else oB (uh N f) fun p=>bif !p then some false else oB (uZ N h j f) fun b=>bif !decide ((b.2.length:Int)=(k.length:Int))then some false else iter (fun o (a,m,i,r,e)=>bif decide (a<(e.length:Int))then oB (idx e a) fun d=>(oB (idx i a) fun c=>oB (AV N d.1 d.2.1 d.2.2 c.1 c.2.1 c.2.2) fun q=>bif !q then some false else if fits (a+1)then o ((a+1),m,i,r,e)else none)else some true) N ((0:Int),f,k,b.1,b.2))
theorem ahl :aB 89 (aM [gj,ve] [bj] (dE (A4 N))):=
 aG (an (G2 N) (an (GX N) (an (GU N) (an (ait N) aE)))) func89 rfl N (ah (ah (ah (ah (.seq (ah (aT ahX)) .no))))) _
def abe :ay:=⟨.ag dh:: .dead:: .dead::ab::al 31 [],[]⟩
def xf (f:List Int):cW:=
 (iter (fun c (b,a)=>bif decide (a<(b.length:Int))then oB (idx b a) fun h=>(oB (iN N h 0 999999999) fun i=>bif !i then some false else bif decide ((0:Int)<a)then oB (idx b a) fun d=>(if fits (a-1)then oB (idx b (a-1)) fun j=>(bif decide (d<=j)then some false else if fits (a+1)then c (b,(a+1))else none)else none)else if fits (a+1)then c (b,(a+1))else none)else some (decide ((b.length:Int)<=60))) N (f,(0:Int)))
theorem abd :aB 90 (aM [.ag dh] [bj] (dM (xf N))):=
 aG (an (uj N) aE) func90 rfl N (ah (.seq (ah (aT abe)) .no)) _
def aaE :ay:=⟨.dead::ab:: .box 2 0:: .dead:: .box 4 0::ab::al 21 [],[(2,false,[.ag dj,.ag hs]),(4,false,[ab,.aQ,.aQ])]⟩
def uq (h:List br) (m:List bJ) (j:Int):Option br:=
 (iter (fun i (d,a,b,f,e)=>bif decide (a<(b.length:Int))then oB (idx b a) fun l=>(bif decide (l.1=d)then oB (idx b a) fun c=>(some (c.1,c.2.1,c.2.2))else if fits (a+1)then i (d,(a+1),b,f,e)else none)else some (0,([]:bl),([]:dq))) N (j,(0:Int),h,m,(0:Int)))
theorem Ns :aB 91 (aM [ve,ab] [js] (eH (uq N))):=
 aG aE func91 rfl N (ah (.seq (ah (aT aaE)) .no)) _
def ada :ay:=⟨.ag dh::ab::al 3 (ab::al 12 []),[]⟩
def Aw (f:List Int) (i:Int):cW:=
 (iter (fun d (b,c,a)=>bif decide (a<(b.length:Int))then oB (idx b a) fun h=>(bif decide (h=c)then some true else if fits (a+1)then d (b,c,(a+1))else none)else some false) N (f,i,(0:Int)))
theorem acM :aB 185 (aM [.ag dh,ab] [bj] (cH (Aw N))):=
 aG aE func185 rfl N (ah (.seq (ah (aT ada)) .no)) _
def ss (d:List br) (e:List bJ) (b:List Int) (a:Int):cW:=
 (oB (Aw N b a) fun c=>some c)
theorem NI :aB 118 (aM [yd,ab] [bj] (dE (ss N))):=
 aG (an (acM N) aE) func118 rfl N .no _
def acS :ay:=⟨.ag dj:: .dead:: .dead:: .box 3 0:: .dead::ab::al 32 [],[(3,false,[ab,.ag eB,.ag fw])]⟩
def CF (q:List br) (r:Int) (t:bl) (o:dq):lP:=
 (iter (fun p (a,b,e,f,h)=>bif decide (b<(a.length:Int))then oB (idx a b) fun n=>(bif decide (n.1<e)then if fits (b+1)then p (a,(b+1),e,f,h)else none else oB (cut a 0 b) fun c=>if room ([]:List br).length c.length 56 then oB (qO N e f h) fun i=>(if room (([]:List br)++c).length ([i]:List br).length 56 then oB (cut a b (a.length:Int)) fun k=>(if room ((([]:List br)++c)++([i]:List br)).length k.length 56 then some (((([]:List br)++c)++([i]:List br))++k)else none)else none)else none)else oB (cut a 0 b) fun d=>if room ([]:List br).length d.length 56 then oB (qO N e f h) fun j=>(if room (([]:List br)++d).length ([j]:List br).length 56 then oB (cut a b (a.length:Int)) fun l=>(if room ((([]:List br)++d)++([j]:List br)).length l.length 56 then some (((([]:List br)++d)++([j]:List br))++l)else none)else none)else none) N (q,(0:Int),r,t,o))
theorem adn :aB 119 (aM [.ag dj,js] [.own 1 cC 109 false] (dE (CF N))):=
 aG (an (G1 N) aE) func119 rfl N (ah (ah (.seq (aT acS) .no))) _
def acr :ay:=⟨.dead:: .box 1 0:: .dead:: .own 600003 cC 109 false::ab::al 45 [],[(1,false,[bP,.ag df,.ag iG])]⟩
def adm :ay:=⟨.dead:: .box 1 0:: .dead:: .own 600003 cC 109 false::ab::ab::al 44 [],[(1,false,[bP,.ag df,.ag iG])]⟩
def xS (y:List ae) (u:List bZ) (t:List cL):lP:=
 (iter (fun v (n,l,p,x,k)=>bif decide (l<(k.length:Int))then iter (fun m (i,a,b,f,e,c)=>oB (idx c a) fun q=>bif decide (b<(q.1.1.length:Int))then oB (idx c a) fun o=>(oB (idx o.1.1 b) fun d=>oB (idx c a) fun j=>oB (ss N j.1.1 j.1.2 j.2 d.1) fun r=>bif !r then oB (CF N i d.1 d.2.1 d.2.2) fun w=>(if fits (b+1)then m (w,a,(b+1),f,e,c)else none)else if fits (b+1)then m (i,a,(b+1),f,e,c)else none)else if fits (a+1)then v (i,(a+1),f,e,c)else none) N (n,l,(0:Int),p,x,k)else some n) N (([]:List br),(0:Int),y,u,t))
theorem NA :aB 54 (aM [ly] [.own 1 cC 109 false] (eH (xS N))):=
 aG (an (NI N) (an (adn N) aE)) func54 rfl N (ah (ah (.seq (ah (.block (.loop acr (ah (.seq (.block (ah (aT adm))) .no))))) .no))) _
def ac2 :ay:=⟨.dead:: .box 1 0:: .dead::ab::al 67 [],[(1,false,[bP,.ag df,.ag iG])]⟩
def ac9 :ay:=⟨.dead:: .box 1 0:: .dead::ab:: .box 4 0::ab::al 22 (bj::al 9 (bj::al 32 [])),[(1,false,[bP,.ag df,.ag iG]),(4,false,[.ag dj,.ag hs,.ag dh])]⟩
def qN (x:List ae) (y:List bZ) (w:List cL):cW:=
 (iter (fun z (f,c,e,b)=>bif decide (f<(b.length:Int))then oB (idx b f) fun a=>(oB (A4 N c e a.1.1 a.1.2) fun v=>bif !v then some false else oB (xf N a.2) fun o=>bif !o then some false else bif decide ((a.1.1.length:Int)<=(a.2.length:Int))then some false else iter (fun t (i,d,C,B,l,k,p,m,n,j)=>bif decide (d<(j.length:Int))then oB (idx j d) fun r=>(oB (uq N m n r) fun q=>bif decide (q.1=0)then some false else if fits (d+1)then t (i,(d+1),C,B,l,k,p,m,n,j)else none)else if fits (i+1)then z ((i+1),l,k,p)else none) N (f,(0:Int),(!o),(decide ((a.1.1.length:Int)<=(a.2.length:Int))),c,e,b,a.1.1,a.1.2,a.2))else oB (r0 N c e) fun A=>bif A then bif decide ((b.length:Int)<=5)then oB (xS N c e b) fun u=>(oB (uh N u) fun D=>some D)else(some false)else some false) N ((0:Int),x,y,w))
theorem Az :aB 39 (aM [ly] [bj] (eH (qN N))):=
 aG (an (ahl N) (an (abd N) (an (Ns N) (an (G2 N) (an (NA N) (an (GX N) aE)))))) func39 rfl N (ah (.seq (ah (.block (.loop ac2 (ah (.seq (.block (ah (ah (ah (aT ac9))))) .no))))) .no)) _
def adE :ay:=⟨.ag mr:: .dead:: .dead:: .own 600003 yx 197 true::ab::al 24 [],[]⟩
def CT (i:cX):Option (yA):=
 (iter (fun f (b,c,a)=>bif decide (a<(b.length:Int))then oB (idx b a) fun e=>(oB (idx b a) fun d=>if room ([]:List Int).length d.2.length 8 then if room c.length ([(e.1,(([]:List Int)++d.2))]:cX).length 32 then if fits (a+1)then f (b,(c++([(e.1,(([]:List Int)++d.2))]:cX)),(a+1))else none else none else none)else some c) N (i,([]:cX),(0:Int)))
theorem ady :aB 213 (aM [.ag mr] [.own 1 yx 197 true] (dM (CT N))):=
 aG aE func213 rfl N (ah (ah (.seq (ah (aT adE)) .no))) _
def adA :ay:=⟨.dead:: .box 1 0:: .box 2 0:: .box 3 0::ab::al 47 [],[(1,false,[.ag dj,.ag hs]),(2,false,[.aQ,.aQ]),(3,false,[.own 700300 cC 109 true,.aQ])]⟩
def adq :ay:=⟨.dead:: .box 1 0:: .box 2 0:: .box 3 0:: .dead::ab::al 46 [],[(1,false,[.ag dj,.ag hs]),(2,false,[.aQ,.aQ]),(3,false,[.own 700300 cC 109 true,.own 700301 cT 119 true])]⟩
def CE (q:List br) (t:List bJ):Option ((List br)×(List bJ)):=
 (iter (fun r (b,c,k,h)=>bif decide (b<(c.length:Int))then oB (idx c b) fun f=>(oB (qO N f.1 f.2.1 f.2.2) fun l=>if room h.length ([l]:List br).length 56 then if fits (b+1)then r ((b+1),c,k,(h++([l]:List br)))else none else none)else iter (fun o (d,p,i,m,j)=>bif decide (d<(i.length:Int))then oB (idx i d) fun a=>(oB (CT N a.2.2) fun n=>if room j.length ([(a.1,a.2.1,n)]:List bJ).length 56 then if fits (d+1)then o ((d+1),p,i,m,(j++([(a.1,a.2.1,n)]:List bJ)))else none else none)else some (m,j)) N ((0:Int),c,k,h,([]:List bJ))) N ((0:Int),q,t,([]:List br)))
theorem adp :aB 145 (aM [ve] [.agg [.own 1 cC 109 true,.own 2 cT 119 true]] (cH (CE N))):=
 aG (an (G1 N) (an (ady N) aE)) func145 rfl N (ah (ah (.seq (ah (aT adA)) (.seq (ah (aT adq)) .no)))) _
def adD :ay:=⟨.dead:: .box 1 0:: .box 2 0:: .box 3 0::ab::al 33 [],[(1,false,[bP,.ag df,.ag iG]),(2,false,[.aQ,.aQ,.aQ]),(3,false,[.own 700300 .str 9 true,.own 700301 j3 158 true,.own 700302 j4 80 true])]⟩
def mc (e:List ae) (h:List bZ) (q:List cL):Option ((List ae)×(List bZ)×(List cL)):=
 (oB (xR N e h) fun l=>iter (fun m (a,n,o,b,f,i,d)=>bif decide (a<(b.length:Int))then oB (idx b a) fun k=>(oB (CE N k.1.1 k.1.2) fun j=>oB (idx b a) fun c=>if room ([]:List Int).length c.2.length 8 then if room d.length ([(j,(([]:List Int)++c.2))]:List cL).length 72 then if fits (a+1)then m ((a+1),n,o,b,f,i,(d++([(j,(([]:List Int)++c.2))]:List cL)))else none else none else none)else some (f,i,d)) N ((0:Int),e,h,q,l.1,l.2,([]:List cL)))
theorem AB :aB 78 (aM [ly] [.agg [ng,.own 2 j3 158 true,.own 3 j4 80 true]] (eH (mc N))):=
 aG (an (NP N) (an (adp N) aE)) func78 rfl N (ah (ah (.seq (ah (aT adD)) .no))) _
def adx :ay:=⟨.ag dh::ab::al 3 (ab::al 42 []),[]⟩
def CZ (q:List Int) (r:Int):Option ((List Int)):=
 (iter (fun p (a,b,c)=>bif decide (c<(a.length:Int))then oB (idx a c) fun o=>(bif decide (o<b)then if fits (c+1)then p (a,b,(c+1))else none else bif decide (c<(a.length:Int))then oB (idx a c) fun m=>(bif decide (m=b)then some a else oB (cut a 0 c) fun e=>if room ([]:List Int).length e.length 8 then if room (([]:List Int)++e).length ([b]:List Int).length 8 then oB (cut a c (a.length:Int)) fun j=>(if room ((([]:List Int)++e)++([b]:List Int)).length j.length 8 then some (((([]:List Int)++e)++([b]:List Int))++j)else none)else none else none)else oB (cut a 0 c) fun h=>if room ([]:List Int).length h.length 8 then if room (([]:List Int)++h).length ([b]:List Int).length 8 then oB (cut a c (a.length:Int)) fun l=>(if room ((([]:List Int)++h)++([b]:List Int)).length l.length 8 then some (((([]:List Int)++h)++([b]:List Int))++l)else none)else none else none)else bif decide (c<(a.length:Int))then oB (idx a c) fun t=>(bif decide (t=b)then some a else oB (cut a 0 c) fun f=>if room ([]:List Int).length f.length 8 then if room (([]:List Int)++f).length ([b]:List Int).length 8 then oB (cut a c (a.length:Int)) fun i=>(if room ((([]:List Int)++f)++([b]:List Int)).length i.length 8 then some (((([]:List Int)++f)++([b]:List Int))++i)else none)else none else none)else oB (cut a 0 c) fun d=>if room ([]:List Int).length d.length 8 then if room (([]:List Int)++d).length ([b]:List Int).length 8 then oB (cut a c (a.length:Int)) fun k=>(if room ((([]:List Int)++d)++([b]:List Int)).length k.length 8 then some (((([]:List Int)++d)++([b]:List Int))++k)else none)else none else none) N (q,r,(0:Int)))
theorem adw :aB 289 (aM [.ag dh,ab] [.ag dh] (cH (CZ N))):=
 aG aE func289 rfl N (ah (ah (.seq (aT adx) .no))) _
def ads :ay:=⟨.dead::ab:: .box 2 0:: .dead:: .box 4 0:: .dead:: .box 6 0::bj::ab::al 43 [],[(2,false,[bP,.ag df,.ag iG]),(4,false,[.aQ,.aQ,.aQ]),(6,false,[bP,.ag df,.own 700602 j4 80 false])]⟩
def adu :ay:=⟨.dead::ab:: .box 2 0:: .dead:: .box 4 0:: .dead:: .box 6 0::bj::ab:: .box 9 0::al 42 [],[(2,false,[bP,.ag df,.ag iG]),(4,false,[.aQ,.aQ,.aQ]),(6,false,[bP,.ag df,.own 700602 j4 80 false]),(9,false,[.ag dj,.ag hs,.ag dh])]⟩
def xU (u:List ae) (q:List bZ) (B:List cL) (H:Int):vz:=
 (iter (fun E (b,i,d,k,l,c,e,f,h)=>bif decide (d<(c.length:Int))then oB (idx c d) fun a=>(meet (fun(j:Int×Bool×Int×(List ae)×(List bZ)×(List cL)×(List ae)×(List bZ)×(List cL)×(List br)×(List bJ)×(List Int))=>match j with|(y,A,r,x,w,I,C,D,o,n,p,t)=>if room o.length ([((n,p),t)]:List cL).length 72 then if fits (r+1)then E (y,A,(r+1),x,w,I,C,D,(o++([((n,p),t)]:List cL)))else none else none) fun m=>oB (uq N a.1.1 a.1.2 b) fun z=>bif !decide (z.1=0)then oB (ss N a.1.1 a.1.2 a.2 b) fun G=>(bif !G then if room ([]:List Int).length a.2.length 8 then oB (CZ N (([]:List Int)++a.2) b) fun v=>(m (b,true,d,k,l,c,e,f,h,a.1.1,a.1.2,v))else none else m (b,i,d,k,l,c,e,f,h,a.1.1,a.1.2,a.2))else m (b,i,d,k,l,c,e,f,h,a.1.1,a.1.2,a.2))else some (e,f,h,i)) N (H,false,(0:Int),u,q,B,u,q,([]:List cL)))
theorem NN :aB 210 (aM [ly,ab] [.bM [yg,bj]] (dE (xU N))):=
 aG (an (Ns N) (an (NI N) (an (adw N) aE))) func210 rfl N (ah (ah (ah (.seq (ah (.block (.loop ads (ah (.seq (.block (ah (.meet adu .no .no))) .no))))) .no)))) _
def adr :ay:=⟨.dead:: .box 1 0:: .box 2 0:: .box 3 0::ab::al 37 [],[(1,false,[bP,.ag df,.ag iG]),(2,false,[.aQ,.aQ,.aQ]),(3,false,[bP,.ag df,.own 700302 j4 80 false])]⟩
def xT (k:List ae) (f:List bZ) (p:List cL):Option ((List ae)×(List bZ)×(List cL)):=
 (iter (fun h (a,i,j,b,d,e,c)=>bif decide (a<(b.length:Int))then oB (idx b a) fun o=>(oB (idx b a) fun m=>bif decide ((o.2.length:Int)<(m.1.1.length:Int))then oB (idx b a) fun l=>(if room c.length ([l]:List cL).length 72 then if fits (a+1)then h ((a+1),i,j,b,d,e,(c++([l]:List cL)))else none else none)else if fits (a+1)then h ((a+1),i,j,b,d,e,c)else none)else some (d,e,c)) N ((0:Int),k,f,p,k,f,([]:List cL)))
theorem NO :aB 211 (aM [ly] [yg] (eH (xT N))):=
 aG aE func211 rfl N (ah (ah (.seq (ah (aT adr)) .no))) _
def CC (d:List ae) (e:List bZ) (f:List cL) (h:Int):vz:=
 (oB (qN N d e f) fun i=>bif !i then some (([]:List ae),([]:List bZ),([]:List cL),false)else oB (mc N d e f) fun b=>oB (xU N b.1 b.2.1 b.2.2 h) fun a=>oB (xT N a.1 a.2.1 a.2.2.1) fun c=>some (c.1,c.2.1,c.2.2,a.2.2.2))
theorem adv :aB 148 (aM [ly,ab] [.bM [yg,bj]] (dE (CC N))):=
 aG (an (Az N) (an (AB N) (an (NN N) (an (NO N) aE)))) func148 rfl N .no _
def CD (d:List ae) (e:List bZ) (b:List cL) (a:Int):vz:=
 (oB (qN N d e b) fun n=>bif !n then some (([]:List ae),([]:List bZ),([]:List cL),false)else if fits ((b.length:Int)-2)then oB (iN N a 0 ((b.length:Int)-2)) fun k=>(bif !k then oB (mc N d e b) fun h=>(some (h.1,h.2.1,h.2.2,false))else if fits (a+2)then oB (cut b a (a+2)) fun m=>(oB (xS N ([]:List ae) ([]:List bZ) m) fun l=>oB (mc N d e b) fun c=>oB (cut c.2.2 0 a) fun f=>if room ([]:List cL).length f.length 72 then oB (uZ N d e l) fun i=>(if room (([]:List cL)++f).length ([(i,([]:List Int))]:List cL).length 72 then if fits (a+2)then oB (cut c.2.2 (a+2) (c.2.2.length:Int)) fun j=>(if room ((([]:List cL)++f)++([(i,([]:List Int))]:List cL)).length j.length 72 then some (c.1,c.2.1,(((([]:List cL)++f)++([(i,([]:List Int))]:List cL))++j),true)else none)else none else none)else none)else none)else none)
theorem adJ :aB 149 (aM [ly,ab] [.bM [yf,bj]] (dE (CD N))):=
 aG (an (Az N) (an (uj N) (an (AB N) (an (NA N) (an (GU N) aE))))) func149 rfl N .no _
def kl (b:List ae) (c:List Int) (e:Int):Option (ae×(List Int)×Int):=
 (oB (eN N (b.length:Int) c e) fun a=>oB (idx b a.1) fun d=>some (d,a.2.1,a.2.2))
theorem xc :aB 77 (j6 [bP] [aI] (eH (kl N))):=
 aG (an (ll N) aE) func77 rfl N .no _ (rs:=[900000])
def CQ (b:List Int) (c:Int):Option (ae×(List Int)×Int):=
 (oB (kl N ([([99,97,116]:ae),([67,97,116,115]:ae),([100,111,103]:ae),([100,111,103,115]:ae),([114,117,110]:ae),([82,85,78,78,73,78,71]:ae),([116,104,101]:ae),([114,101,100]:ae),([98,105,103]:ae),([110,101,119,32,121,111,114,107]:ae),([78,101,119,32,32,89,111,114,107]:ae),([110,121]:ae),([102,111,120]:ae),([112,97,115,115,101,100]:ae),([120,49]:ae),([97,118,101,114,121,118,101,114,121,108,111,110,103,119,111,114,100]:ae)]:List ae) b c) fun a=>some (a.1,a.2.1,a.2.2))
theorem ai8 :aB 330 (j6 [] [aI] (cH (CQ N))):=
 aG (an (xc N) aE) func330 rfl N .no _ (rs:=[900000])
def aiS :ay:=⟨.box 900000 0:: .dead:: .dead::aI::ab::al 15 [],[j7]⟩
def xZ (i:List Int) (l:Int):Option (ae×(List Int)×Int):=
 (oB (eN N 9 i l) fun e=>iter (fun j (c,d,h,f)=>bif decide ((0:Int)<d)then oB (CQ N h f) fun a=>(if c.length+a.1.length<=9223372036854775807 then oB (kl N ([([32]:ae),([32]:ae),([44,32]:ae),([45]:ae),([46,32]:ae)]:List ae) a.2.1 a.2.2) fun b=>(if(c++a.1).length+b.1.length<=9223372036854775807 then if fits (d-1)then j (((c++a.1)++b.1),(d-1),b.2.1,b.2.2)else none else none)else none)else some (c,h,f)) N (([]:ae),e.1,e.2.1,e.2.2))
theorem aiT :aB 290 (j6 [] [aI] (cH (xZ N))):=
 aG (an (ll N) (an (ai8 N) (an (xc N) aE))) func290 rfl N (ah (ah (.seq (ah (aT aiS)) .no))) _ (rs:=[900000])
def aiX :ay:=⟨.box 900000 0::al 3 (.box 4 0:: .box 5 0::al 48 []),[(4,false,[ab,.aQ,.aQ]),(5,false,[ab,.own 28 ch 110 true,.own 39 hY 221 true]),j7]⟩
def aiV :ay:=⟨.box 900000 0::al 3 (.box 4 0:: .box 5 0::al 48 []),[(4,false,[ab,.aQ,.aQ]),(5,false,[ab,.own 28 ch 110 true,.aQ]),j7]⟩
def ai6 :ay:=⟨.box 900000 0::al 3 (.box 4 0:: .box 5 0::al 48 []),[(4,false,[ab,.aQ,.aQ]),(5,false,[ab,.own 17 ch 110 true,.aQ]),j7]⟩
def CP (t:Int) (y:List Int) (B:Int):Option (Int×eP×mu×(List Int)×Int):=
 (meet (fun(b:Int×Int×eP×(List Int)×Int)=>match b with|(w,u,l,C,E)=>meet (fun(b:Int×Int×eP×(List Int)×Int)=>match b with|(m,q,p,A,z)=>meet (fun(b:Int×Int×eP×mu×(List Int)×Int)=>match b with|(H,n,o,k,D,G)=>oB (eN N 3 D G) fun f=>bif decide (f.1=0)then oB (eN N 30 f.2.1 f.2.2) fun e=>(if fits (2000+e.1)then if room k.length ([(([121,101,97,114]:ae),(2000+e.1))]:dq).length 24 then some (n,o,(k++([(([121,101,97,114]:ae),(2000+e.1))]:dq)),e.2.1,e.2.2)else none else none)else some (n,o,k,f.2.1,f.2.2)) fun v=>oB (eN N 3 A z) fun d=>bif decide ((0:Int)<d.1)then oB (eN N 4 d.2.1 d.2.2) fun j=>(if room ([]:dq).length ([(([114,97,116,101]:ae),j.1)]:dq).length 24 then v (m,q,p,(([]:dq)++([(([114,97,116,101]:ae),j.1)]:dq)),j.2.1,j.2.2)else none)else v (m,q,p,([]:dq),d.2.1,d.2.2)) fun r=>oB (eN N 3 C E) fun a=>bif decide (a.1=0)then oB (xZ N a.2.1 a.2.2) fun h=>(if room l.length ([(([116,105,116,108,101]:ae),h.1)]:bl).length 32 then r (w,u,(l++([(([116,105,116,108,101]:ae),h.1)]:bl)),h.2.1,h.2.2)else none)else r (w,u,l,a.2.1,a.2.2)) fun x=>oB (eN N 6 y B) fun c=>bif decide ((0:Int)<c.1)then oB (xZ N c.2.1 c.2.2) fun i=>(if room ([]:bl).length ([(([98,111,100,121]:ae),i.1)]:bl).length 32 then x (0,t,(([]:bl)++([(([98,111,100,121]:ae),i.1)]:bl)),i.2.1,i.2.2)else none)else x (0,t,([]:bl),c.2.1,c.2.2))
theorem ai7 :aB 212 (j6 [ab] [Ds] (eH (CP N))):=
 aG (an (ll N) (an (aiT N) aE)) func212 rfl N (ah (ah (.meet ai6 .no (.meet aiV .no (.meet aiX .no .no))))) _ (rs:=[900000])
def aiU :ay:=⟨.box 900000 0:: .dead:: .dead:: .own 600003 cC 109 true::ab::ab::al 19 [],[j7]⟩
def xW (j:List Int) (m:Int):Option ((List br)×(List Int)×Int):=
 (oB (eN N 6 j m) fun f=>iter (fun k (d,c,e,i,h)=>bif decide ((0:Int)<e)then if fits (c+1)then oB (eN N 3 i h) fun b=>(if fits ((c+1)+b.1)then oB (CP N ((c+1)+b.1) b.2.1 b.2.2) fun a=>(if room d.length ([(a.1,a.2.1,a.2.2.1)]:List br).length 56 then if fits (e-1)then k ((d++([(a.1,a.2.1,a.2.2.1)]:List br)),((c+1)+b.1),(e-1),a.2.2.2.1,a.2.2.2.2)else none else none)else none)else none else some (d,i,h)) N (([]:List br),(0:Int),f.1,f.2.1,f.2.2))
theorem Pb :aB 143 (j6 [] [.own 1 cC 109 true] (cH (xW N))):=
 aG (an (ll N) (an (ai7 N) aE)) func143 rfl N (ah (ah (ah (.seq (ah (aT aiU)) .no)))) _ (rs:=[900000])
def adK :ay:=⟨.dead:: .ag dj:: .box 2 0:: .dead:: .box 4 0:: .dead:: .box 6 0::ab::al 53 [],[(2,false,[bP,.ag df,.ag iG]),(4,false,[.aQ,.aQ,.aQ]),(6,false,[bP,.ag df,.own 700602 j4 80 false])]⟩
def xN (c:List ae) (d:List bZ) (b:List cL) (i:List br):vz:=
 (oB (qN N c d b) fun y=>bif !y then some (([]:List ae),([]:List bZ),([]:List cL),false)else oB (uh N i) fun A=>bif !A then oB (mc N c d b) fun h=>(some (h.1,h.2.1,h.2.2,false))else bif decide ((i.length:Int)=0)then oB (mc N c d b) fun m=>(some (m.1,m.2.1,m.2.2,false))else oB (mc N c d b) fun k=>iter (fun z (f,e,j,o,q,r,t,u)=>bif decide (e<(f.length:Int))then oB (idx f e) fun x=>(oB (xU N r t u x.1) fun p=>if fits (e+1)then z (f,(e+1),j,o,q,p.1,p.2.1,p.2.2.1)else none)else oB (xT N r t u) fun a=>oB (uZ N j o f) fun n=>if room a.2.2.length ([(n,([]:List Int))]:List cL).length 72 then oB (qN N a.1 a.2.1 (a.2.2++([(n,([]:List Int))]:List cL))) fun v=>(bif !v then oB (mc N j o q) fun l=>(some (l.1,l.2.1,l.2.2,false))else some (a.1,a.2.1,(a.2.2++([(n,([]:List Int))]:List cL)),true))else none) N (i,(0:Int),c,d,b,k.1,k.2.1,k.2.2))
theorem NR :aB 142 (aM [ly,.ag dj] [.bM [yg,bj]] (dE (xN N))):=
 aG (an (Az N) (an (GX N) (an (AB N) (an (NN N) (an (NO N) (an (GU N) aE)))))) func142 rfl N (ah (ah (ah (ah (.seq (ah (aT adK)) .no))))) _
def adT :ay:=⟨.box 900000 0:: .dead:: .box 2 0:: .box 3 0::ab::al 47 [],[(2,false,[.aQ,.aQ,.aQ]),(3,false,[bP,.ag df,.own 700302 j4 80 false]),j7]⟩
def xX (t:List Int) (v:Int):Option ((List ae)×(List bZ)×(List cL)×(List Int)×Int):=
 (oB (CN N t v) fun d=>oB (xO N d.1 d.2.1) fun q=>oB (eN N 7 d.2.2.1 d.2.2.2) fun i=>iter (fun l (b,f,h,e,r,p)=>bif decide ((0:Int)<b)then oB (eN N 5 r p) fun a=>(bif decide (a.1=0)then oB (eN N 8 a.2.1 a.2.2) fun c=>(if fits (1+c.1)then oB (CC N f h e (1+c.1)) fun o=>(if fits (b-1)then l ((b-1),o.1,o.2.1,o.2.2.1,c.2.1,c.2.2)else none)else none)else bif decide (a.1=1)then oB (eN N 3 a.2.1 a.2.2) fun n=>(oB (CD N f h e n.1) fun m=>if fits (b-1)then l ((b-1),m.1,m.2.1,m.2.2.1,n.2.1,n.2.2)else none)else oB (xW N a.2.1 a.2.2) fun j=>oB (xN N f h e j.1) fun k=>if fits (b-1)then l ((b-1),k.1,k.2.1,k.2.2.1,j.2.1,j.2.2)else none)else some (f,h,e,r,p)) N (i.1,q.1,q.2,([]:List cL),i.2.1,i.2.2))
theorem NS :aB 79 (j6 [] [yg] (cH (xX N))):=
 aG (an (ai5 N) (an (adU N) (an (ll N) (an (adv N) (an (adJ N) (an (Pb N) (an (NR N) aE))))))) func79 rfl N (ah (ah (.seq (ah (aT adT)) .no))) _ (rs:=[900000])
def su (b:List Int) (c:List Int) (e:Int):Option (Int×(List Int)×Int):=
 (oB (eN N (b.length:Int) c e) fun a=>oB (idx b a.1) fun d=>some (d,a.2.1,a.2.2))
theorem Bl :aB 25 (j6 [.ag dh] [ab] (eH (su N))):=
 aG (an (ll N) aE) func25 rfl N .no _ (rs:=[900000])
def aeS :ay:=⟨.dead:: .box 1 0:: .dead::ab::al 39 [],[(1,false,[.ag eB])]⟩
def CH (i:bl):cW:=
 (iter (fun d (a,b)=>bif decide (a<(b.length:Int))then oB (idx b a) fun f=>(oB (nT N f.1) fun j=>bif !j then some false else bif decide ((0:Int)<a)then oB (idx b a) fun c=>(if fits (a-1)then oB (idx b (a-1)) fun e=>(bif Op.bytesLess c.1 e.1||decide (c.1=e.1)then some false else if fits (a+1)then d ((a+1),b)else none)else none)else if fits (a+1)then d ((a+1),b)else none)else some (decide ((b.length:Int)<=24))) N ((0:Int),i))
theorem YI :aB 38 (aM [lz] [bj] (dM (CH N))):=
 aG (an (GP N) aE) func38 rfl N (ah (.seq (ah (aT aeS)) .no)) _
def kR (N:Nat):(D:Nat)->Int->Option (ae)
 |0,_=>none
 |D+1,n=>
 bif decide (n<(-9223372036854775807))then
 some ([45,57,50,50,51,51,55,50,48,51,54,56,53,52,55,55,53,56,48,56]:ae)
 else
 bif decide (n<0)then
 if fits (0-n)then oB (kR N D (0-n)) fun r=>
 (if([45]:ae).length+r.length<=9223372036854775807 then
 some (([45]:ae)++r)
 else none)else none
 else
 bif decide (n<10)then
 if fits (48+n)then some (bytesOf ([(IntKind.u8.wrap (48+n))]:List Int))else none
 else
 if 10≠0 then
 if fits (n.tdiv 10)then oB (kR N D (n.tdiv 10)) fun a=>
 (if 10≠0 then
 if fits (48+(n.tmod 10))then if a.length+(bytesOf ([(IntKind.u8.wrap (48+(n.tmod 10)))]:List Int)).length<=9223372036854775807 then
 some (a++(bytesOf ([(IntKind.u8.wrap (48+(n.tmod 10)))]:List Int)))
 else none else none
 else none)else none
 else none
def AD (N D:Nat):Model:=⟨⟨[ab],[]⟩,⟨[aI],[]⟩,dM (kR N D)⟩
theorem adX (N D:Nat) (a:aB 96 (AD N D)):aB 96 (AD N (D+1)):=
 aG (an a aE) func96 rfl N .no (AD N (D+1))
theorem w1 (N:Nat):∀D,aB 96 (AD N D)
 |0=>o6 ⟨_,func96,by decide,by kernel_rfl⟩ _ (fun a=>rfl)
 |D+1=>adX N D (w1 N D)
def xV (a:Int):Option (ae):=
 (if fits (1000+a)then oB (kR N N (1000+a)) fun b=>(if([103,101,110]:ae).length+b.length<=9223372036854775807 then some (([103,101,110]:ae)++b)else none)else none)
theorem Mt :aB 95 (aM [ab] [aI] (dM (xV N))):=
 aG (an (w1 N N) aE) func95 rfl N .no _
def YK :ay:=⟨.dead::aI:: .box 2 0::al 3 (ab::al 21 []),[(2,false,[.ag eB])]⟩
def CI (j:bl) (d:ae):Option (ae×Bool):=
 (iter (fun h (c,a,b)=>bif decide (a<(b.length:Int))then oB (idx b a) fun e=>(bif decide (e.1=c)then oB (idx b a) fun f=>(some (f.2,true))else if fits (a+1)then h (c,(a+1),b)else none)else some (([]:ae),false)) N (d,(0:Int),j))
theorem aeR :aB 94 (aM [lz,aI] [.bM [aI,bj]] (cH (CI N))):=
 aG aE func94 rfl N (ah (.seq (ah (aT YK)) .no)) _
def Zi :ay:=⟨.dead:: .box 1 0:: .dead::ab::al 15 [],[(1,false,[.ag eB])]⟩
def Ag (f:bl):et:=
 (iter (fun c (a,b)=>bif decide ((1:Int)<=a)then oB (xV N a) fun h=>(oB (CI N b h) fun d=>bif d.2 then some a else if fits (a-1)then c ((a-1),b)else none)else some 0) N ((99:Int),f))
theorem ZM :aB 40 (aM [lz] [ab] (dM (Ag N))):=
 aG (an (Mt N) (an (aeR N) aE)) func40 rfl N (ah (.seq (ah (aT Zi)) .no)) _
def aef :ay:=⟨.dead:: .box 1 0:: .dead::aI::ab::al 58 [],[(1,false,[ab,.ag eB,.ag fw])]⟩
def aeG :ay:=⟨.dead:: .box 1 0:: .dead::aI:: .dead::ab::al 57 [],[(1,false,[ab,.ag eB,.ag fw])]⟩
def CS (p:Int) (x:bl) (t:dq):Option (ae):=
 (oB (kR N N p) fun l=>if([100,111,99,32]:ae).length+l.length<=9223372036854775807 then if(([100,111,99,32]:ae)++l).length+([10]:ae).length<=9223372036854775807 then iter (fun u (a,e,o,d,n)=>bif decide (e<(d.length:Int))then if a.length+([102,105,101,108,100,32]:ae).length<=9223372036854775807 then oB (idx d e) fun f=>(if(a++([102,105,101,108,100,32]:ae)).length+f.1.length<=9223372036854775807 then if((a++([102,105,101,108,100,32]:ae))++f.1).length+([32]:ae).length<=9223372036854775807 then oB (idx d e) fun j=>(if(((a++([102,105,101,108,100,32]:ae))++f.1)++([32]:ae)).length+j.2.length<=9223372036854775807 then if((((a++([102,105,101,108,100,32]:ae))++f.1)++([32]:ae))++j.2).length+([10]:ae).length<=9223372036854775807 then if fits (e+1)then u ((((((a++([102,105,101,108,100,32]:ae))++f.1)++([32]:ae))++j.2)++([10]:ae)),(e+1),o,d,n)else none else none else none)else none else none)else none else iter (fun r (b,h,v,q,i)=>bif decide (h<(i.length:Int))then if b.length+([110,117,109,32]:ae).length<=9223372036854775807 then oB (idx i h) fun c=>(if(b++([110,117,109,32]:ae)).length+c.1.length<=9223372036854775807 then if((b++([110,117,109,32]:ae))++c.1).length+([32]:ae).length<=9223372036854775807 then oB (idx i h) fun w=>(oB (kR N N w.2) fun m=>if(((b++([110,117,109,32]:ae))++c.1)++([32]:ae)).length+m.length<=9223372036854775807 then if((((b++([110,117,109,32]:ae))++c.1)++([32]:ae))++m).length+([10]:ae).length<=9223372036854775807 then if fits (h+1)then r ((((((b++([110,117,109,32]:ae))++c.1)++([32]:ae))++m)++([10]:ae)),(h+1),v,q,i)else none else none else none)else none else none)else none else some b) N (a,(0:Int),o,d,n)) N (((([100,111,99,32]:ae)++l)++([10]:ae)),(0:Int),p,x,t)else none else none)
theorem aer :aB 161 (aM [js] [aI] (eH (CS N))):=
 aG (an (w1 N N) aE) func161 rfl N (ah (ah (.seq (ah (aT aef)) (.seq (ah (aT aeG)) .no)))) _
def aeb :ay:=⟨.dead:: .box 1 0:: .dead::aI::ab::al 36 [],[(1,false,[.ag dj,.ag hs,.ag dh])]⟩
def aeM :ay:=⟨.dead:: .box 1 0:: .dead::aI:: .dead::ab::al 35 [],[(1,false,[.ag dj,.ag hs,.ag dh])]⟩
def CJ (q:List br) (t:List bJ) (v:List Int):Option (ae):=
 (iter (fun u (h,c,b,l,k)=>bif decide (c<(b.length:Int))then oB (idx b c) fun f=>(oB (CS N f.1 f.2.1 f.2.2) fun m=>if h.length+m.length<=9223372036854775807 then if fits (c+1)then u ((h++m),(c+1),b,l,k)else none else none)else iter (fun p (a,d,n,r,j)=>bif decide (d<(j.length:Int))then if a.length+([100,101,97,100,32]:ae).length<=9223372036854775807 then oB (idx j d) fun o=>(oB (kR N N o) fun i=>if(a++([100,101,97,100,32]:ae)).length+i.length<=9223372036854775807 then if((a++([100,101,97,100,32]:ae))++i).length+([10]:ae).length<=9223372036854775807 then if fits (d+1)then p ((((a++([100,101,97,100,32]:ae))++i)++([10]:ae)),(d+1),n,r,j)else none else none else none)else none else some a) N (h,(0:Int),b,l,k)) N (([]:ae),(0:Int),q,t,v))
theorem ad6 :aB 97 (aM [yd] [aI] (eH (CJ N))):=
 aG (an (aer N) (an (w1 N N) aE)) func97 rfl N (ah (ah (.seq (ah (aT aeb)) (.seq (ah (aT aeM)) .no)))) _
def YM :ay:=⟨aI:: .dead:: .dead::ab::ab::al 27 [],[]⟩
def YH :ay:=⟨aI:: .dead:: .dead::ab::ab::ab::al 26 [],[]⟩
def CG (l:ae):et:=
 (iter (fun m (h,i,d)=>bif decide (d<(h.length:Int))then oB (idx h d) fun k=>(iter (fun j (f,a,c,b)=>bif decide (b<8)then if 2≠0 then bif decide ((a.tmod 2)=1)then if 2≠0 then if fits (a.tdiv 2)then if fits (b+1)then j (f,(dS .xor .i64 (a.tdiv 2) 3988292384),c,(b+1))else none else none else none else(if 2≠0 then if fits (a.tdiv 2)then if fits (b+1)then j (f,(a.tdiv 2),c,(b+1))else none else none else none)else none else if fits (c+1)then m (f,a,(c+1))else none) N (h,(dS .xor .i64 i (IntKind.i64.wrap (k.toNat:Int))),d,(0:Int)))else some (dS .xor .i64 i 4294967295)) N (l,(4294967295:Int),(0:Int)))
theorem aeW :aB 98 (aM [aI] [ab] (dM (CG N))):=
 aG aE func98 rfl N (ah (ah (.seq (ah (.block (.loop YM (ah (.seq (.block (ah (ah (aT YH)))) .no))))) .no))) _
def aak :ay:=⟨.dead::ab:: .box 2 0:: .dead:: .dead:: .own 600005 ch 83 true::aI::ab::al 47 [],[(2,false,[bP,.ag df,.ag iG])]⟩
def Ak (p:List ae) (q:List bZ) (o:List cL) (v:Int):Option (eP):=
 (iter (fun r (e,f,c,d,m,u,i)=>bif decide (d<(i.length:Int))then if fits (1000+e)then oB (kR N N (1000+e)) fun a=>(if([115,101,103]:ae).length+a.length<=9223372036854775807 then if(([115,101,103]:ae)++a).length+([120]:ae).length<=9223372036854775807 then oB (kR N N d) fun b=>(if((([115,101,103]:ae)++a)++([120]:ae)).length+b.length<=9223372036854775807 then oB (idx i d) fun j=>(oB (CJ N j.1.1 j.1.2 j.2) fun h=>if room f.length ([((((([115,101,103]:ae)++a)++([120]:ae))++b),h)]:bl).length 32 then if c.length+(((([115,101,103]:ae)++a)++([120]:ae))++b).length<=9223372036854775807 then if(c++(((([115,101,103]:ae)++a)++([120]:ae))++b)).length+([32]:ae).length<=9223372036854775807 then oB (CG N h) fun t=>(oB (kR N N t) fun k=>if((c++(((([115,101,103]:ae)++a)++([120]:ae))++b))++([32]:ae)).length+k.length<=9223372036854775807 then if(((c++(((([115,101,103]:ae)++a)++([120]:ae))++b))++([32]:ae))++k).length+([10]:ae).length<=9223372036854775807 then if fits (d+1)then r (e,(f++([((((([115,101,103]:ae)++a)++([120]:ae))++b),h)]:bl)),((((c++(((([115,101,103]:ae)++a)++([120]:ae))++b))++([32]:ae))++k)++([10]:ae)),(d+1),m,u,i)else none else none else none)else none else none else none)else none)else none else none)else none else oB (xV N e) fun l=>if c.length+([101,110,100]:ae).length<=9223372036854775807 then if room f.length ([(l,(c++([101,110,100]:ae)))]:bl).length 32 then some (f++([(l,(c++([101,110,100]:ae)))]:bl))else none else none) N (v,([]:bl),([]:ae),(0:Int),p,q,o))
theorem ZX :aB 41 (aM [ly,ab] [.own 1 ch 83 true] (dE (Ak N))):=
 aG (an (w1 N N) (an (ad6 N) (an (aeW N) (an (Mt N) aE)))) func41 rfl N (ah (ah (ah (.seq (ah (aT aak)) .no)))) _
def Z9 :ay:=⟨.dead:: .dead:: .box 2 0:: .box 3 0:: .box 4 0:: .box 5 0::bj::ab::al 55 [],[(2,false,[.ag eB]),(3,false,[aI,aI]),(4,false,[.aQ]),(5,false,[.own 700500 ch 83 true])]⟩
def Y2 :ay:=⟨.dead:: .dead:: .box 2 0:: .box 3 0:: .box 4 0:: .box 5 0::bj::ab::al 55 [],[(2,false,[.ag eB]),(3,false,[aI,aI]),(4,false,[.aQ]),(5,false,[.own 33 ch 83 true])]⟩
def tX (w:bl) (t:ae) (v:ae):Option (eP):=
 (iter (fun q (i,e,f,a,c,b)=>bif decide (e<(f.length:Int))then meet (fun(j:Bool×Int×eP×ae×ae×eP)=>match j with|(p,d,h,k,o,l)=>oB (idx h d) fun r=>bif !decide (r.1=k)then oB (idx h d) fun n=>(if room l.length ([n]:bl).length 32 then if fits (d+1)then q (p,(d+1),h,k,o,(l++([n]:bl)))else none else none)else if fits (d+1)then q (p,(d+1),h,k,o,l)else none) fun m=>(bif !i then oB (idx f e) fun u=>(bif !Op.bytesLess u.1 a then if room b.length ([(a,c)]:bl).length 32 then m (true,e,f,a,c,(b++([(a,c)]:bl)))else none else m (i,e,f,a,c,b))else m (i,e,f,a,c,b))else bif !i then if room b.length ([(a,c)]:bl).length 32 then some (b++([(a,c)]:bl))else none else some b) N (false,(0:Int),w,t,v,([]:bl)))
theorem ZH :aB 42 (aM [lz,.agg [aI,aI]] [sK] (eH (tX N))):=
 aG aE func42 rfl N (ah (ah (ah (.seq (ah (.block (.loop Z9 (ah (.seq (.block (.meet Y2 .no .no)) .no))))) .no)))) _
def aek :ay:=⟨aI:: .dead:: .dead::ab::ab::al 42 [],[]⟩
def uW (h:ae):et:=
 (iter (fun i (a,c,b)=>bif decide (b<(a.length:Int))then oB (idx a b) fun e=>(bif decide ((e.toNat:Int)<48)then some (-1)else oB (idx a b) fun f=>bif decide ((57:Int)<(f.toNat:Int))then some (-1)else bif decide ((9:Int)<=b)then some (-1)else if fits (c*10)then oB (idx a b) fun d=>(if fits ((c*10)+(IntKind.i64.wrap (IntKind.u8.wrap ((d.toNat:Int)-48))))then if fits (b+1)then i (a,((c*10)+(IntKind.i64.wrap (IntKind.u8.wrap ((d.toNat:Int)-48)))),(b+1))else none else none)else none)else bif decide ((a.length:Int)=0)then some (-1)else bif decide ((1:Int)<a.length)then oB (idx a 0) fun k=>(bif decide ((k.toNat:Int)=48)then some (-1)else some c)else some c) N (h,(0:Int),(0:Int)))
theorem aev :aB 99 (aM [aI] [ab] (dM (uW N))):=
 aG aE func99 rfl N (ah (ah (.seq (ah (aT aek)) .no))) _
def Zk :ay:=⟨.dead::ab:: .box 2 0:: .dead:: .box 4 0:: .box 5 0::ab::al 51 [],[(2,false,[.ag eB]),(4,false,[.aQ]),(5,false,[.own 700500 ch 83 true])]⟩
def oY (u:bl) (v:Int):Option (eP):=
 (iter (fun e (b,a,c,d)=>bif decide (a<(c.length:Int))then oB (idx c a) fun f=>(bif decide ((7:Int)<=f.1.length)then oB (cut f.1 0 3) fun o=>(bif decide (o=([103,101,110]:ae))then oB (cut f.1 3 7) fun m=>(oB (uW N m) fun p=>if fits (1000+b)then if fits ((1000+b)-1)then oB (iN N p 1001 ((1000+b)-1)) fun r=>(bif !r then oB (idx c a) fun h=>(if room d.length ([h]:bl).length 32 then if fits (a+1)then e (b,(a+1),c,(d++([h]:bl)))else none else none)else if fits (a+1)then e (b,(a+1),c,d)else none)else none else none)else oB (cut f.1 0 3) fun q=>bif decide (q=([115,101,103]:ae))then oB (cut f.1 3 7) fun w=>(oB (uW N w) fun l=>if fits (1000+b)then if fits ((1000+b)-1)then oB (iN N l 1001 ((1000+b)-1)) fun t=>(bif !t then oB (idx c a) fun k=>(if room d.length ([k]:bl).length 32 then if fits (a+1)then e (b,(a+1),c,(d++([k]:bl)))else none else none)else if fits (a+1)then e (b,(a+1),c,d)else none)else none else none)else oB (idx c a) fun i=>if room d.length ([i]:bl).length 32 then if fits (a+1)then e (b,(a+1),c,(d++([i]:bl)))else none else none)else oB (idx c a) fun j=>if room d.length ([j]:bl).length 32 then if fits (a+1)then e (b,(a+1),c,(d++([j]:bl)))else none else none)else some d) N (v,(0:Int),u,([]:bl)))
theorem Z7 :aB 43 (aM [lz,ab] [sK] (cH (oY N))):=
 aG (an (aev N) (an (uj N) aE)) func43 rfl N (ah (ah (.seq (ah (aT Zk)) .no))) _
def Zf :ay:=⟨.dead:: .dead::ab::al 3 (.box 6 0:: .dead::ab:: .box 9 0:: .own 600010 ch 83 true::ab::al 69 []),[(6,false,[.aQ]),(9,false,[.own 700900 ch 83 true])]⟩
def wW (b:bl) (l:List ae) (m:List bZ) (k:List cL) (y:Int):Option (eP×Int):=
 (oB (CH N b) fun r=>bif !r then some (([]:bl),(-1))else oB (qN N l m k) fun u=>bif !u then some (([]:bl),(-1))else oB (Ag N b) fun h=>if fits (h+1)then bif decide ((99:Int)<(h+1))then if room ([]:bl).length b.length 32 then some ((([]:bl)++b),0)else none else(if fits ((b.length:Int)+5)then if fits (((b.length:Int)+5)+1)then bif decide ((24:Int)<(((b.length:Int)+5)+1))then if room ([]:bl).length b.length 32 then some ((([]:bl)++b),0)else none else(if room ([]:bl).length b.length 32 then oB (Ak N l m k (h+1)) fun v=>(iter (fun n (c,a,f,d,e)=>bif decide (d<(f.length:Int))then bif decide (c<0)then oB (idx f d) fun j=>(oB (tX N e j.1 j.2) fun q=>if fits (d+1)then n (c,a,f,(d+1),q)else none)else(bif decide (d<c)then oB (idx f d) fun i=>(oB (tX N e i.1 i.2) fun z=>if fits (d+1)then n (c,a,f,(d+1),z)else none)else bif decide (c<0)then oB (oY N e a) fun x=>(some (x,a))else bif decide ((f.length:Int)<c)then oB (oY N e a) fun w=>(some (w,a))else some (e,a))else bif decide (c<0)then oB (oY N e a) fun o=>(some (o,a))else bif decide ((f.length:Int)<c)then oB (oY N e a) fun t=>(some (t,a))else some (e,a)) N (y,(h+1),v,(0:Int),(([]:bl)++b)))else none)else none else none)else none)
theorem MH :aB 8 (aM [lz,ly,ab] [.bM [sK,ab]] (fN (wW N))):=
 aG (an (YI N) (an (Az N) (an (ZM N) (an (ZX N) (an (ZH N) (an (Z7 N) aE)))))) func8 rfl N (ah (ah (ah (ah (ah (ah (.seq (ah (aT Zf)) .no))))))) _
def ZV :ay:=⟨.box 900000 0:: .dead:: .box 2 0:: .box 3 0:: .box 4 0:: .box 5 0::ab::al 33 [],[(2,false,[.aQ]),(3,false,[.aQ,.aQ,.aQ]),(4,false,[.own 700400 ch 83 true]),(5,false,[bP,.ag df,.own 700502 j4 80 false]),j7]⟩
def CO (n:List Int) (p:Int):Option (eP×(List ae)×(List bZ)×(List cL)×(List Int)×Int):=
 (oB (xX N n p) fun a=>oB (eN N 4 a.2.2.2.1 a.2.2.2.2) fun f=>iter (fun q (i,k,j,e,d,m,l)=>bif decide ((0:Int)<i)then oB (su N ([(-1),(-1),0,1,2,9]:List Int) m l) fun b=>(oB (wW N k j e d b.1) fun r=>oB (xW N b.2.1 b.2.2) fun c=>oB (xN N j e d c.1) fun h=>if fits (i-1)then q ((i-1),r.1,h.1,h.2.1,h.2.2.1,c.2.1,c.2.2)else none)else some (k,j,e,d,m,l)) N (f.1,([]:bl),a.1,a.2.1,a.2.2.1,f.2.1,f.2.2))
theorem Zr :aB 74 (j6 [] [.bM [sK,.agg [bP,.ag df,.own 2 j4 80 false]]] (cH (CO N))):=
 aG (an (NS N) (an (ll N) (an (Bl N) (an (MH N) (an (Pb N) (an (NR N) aE)))))) func74 rfl N (ah (ah (ah (.seq (ah (aT ZV)) .no)))) _ (rs:=[900000])
def CM (b:ae) (i:List Int) (k:Int):Option (ae×(List Int)×Int):=
 (if fits ((b.length:Int)+1)then oB (eN N ((b.length:Int)+1) i k) fun c=>(oB (eN N 5 c.2.1 c.2.2) fun a=>bif decide (a.1=0)then bif decide (c.1<(b.length:Int))then oB (cut b 0 c.1) fun f=>(oB (kl N ([([48]:ae),([49]:ae),([32]:ae),([40]:ae),([41]:ae),([10]:ae),([58]:ae),([128]:ae)]:List ae) a.2.1 a.2.2) fun d=>if f.length+d.1.length<=9223372036854775807 then if fits (c.1+1)then oB (cut b (c.1+1) (b.length:Int)) fun h=>(if(f++d.1).length+h.length<=9223372036854775807 then some (((f++d.1)++h),d.2.1,d.2.2)else none)else none else none)else(some (b,a.2.1,a.2.2))else bif decide (a.1=1)then oB (cut b 0 c.1) fun j=>(some (j,a.2.1,a.2.2))else bif decide (a.1=2)then oB (kl N ([([48]:ae),([32]:ae),([41]:ae),([10]:ae)]:List ae) a.2.1 a.2.2) fun e=>(if b.length+e.1.length<=9223372036854775807 then some ((b++e.1),e.2.1,e.2.2)else none)else some (b,a.2.1,a.2.2))else none)
theorem aew :aB 76 (j6 [aI] [aI] (eH (CM N))):=
 aG (an (ll N) (an (xc N) aE)) func76 rfl N .no _ (rs:=[900000])
def CK (f:List Int) (j:Int):Option (eP×(List ae)×(List bZ)×(List cL)×(List Int)×Int):=
 (oB (CO N f j) fun a=>if room ([]:bl).length a.1.length 32 then bif decide ((0:Int)<((([]:bl)++a.1).length:Int))then oB (eN N ((([]:bl)++a.1).length:Int) a.2.2.2.2.1 a.2.2.2.2.2) fun b=>(oB (eN N 12 b.2.1 b.2.2) fun c=>bif decide (c.1=0)then if 0<=b.1/\b.1<((([]:bl)++a.1).length:Int)then oB ((([]:bl)++a.1)[b.1.toNat]?) fun i=>(oB (CM N i.2 c.2.1 c.2.2) fun d=>if 0<=b.1/\b.1<((([]:bl)++a.1).length:Int)then oB ((([]:bl)++a.1)[b.1.toNat]?) fun h=>(some (((([]:bl)++a.1).set b.1.toNat (h.1,d.1)),a.2.1,a.2.2.1,a.2.2.2.1,d.2.1,d.2.2))else none)else none else bif decide (c.1=1)then oB (kl N ([([]:ae),([122,122]:ae),([65]:ae)]:List ae) c.2.1 c.2.2) fun e=>(if 0<=b.1/\b.1<((([]:bl)++a.1).length:Int)then oB ((([]:bl)++a.1)[b.1.toNat]?) fun k=>(some (((([]:bl)++a.1).set b.1.toNat (e.1,k.2)),a.2.1,a.2.2.1,a.2.2.2.1,e.2.1,e.2.2))else none)else bif decide (c.1=2)then oB (cut (([]:bl)++a.1) 0 b.1) fun _=>(if fits (b.1+1)then oB (cut (([]:bl)++a.1) (b.1+1) ((([]:bl)++a.1).length:Int)) fun _=>(if b.1.toNat<=(b.1+1).toNat then some (((([]:bl)++a.1).take b.1.toNat++((([]:bl)++a.1).take (((([]:bl)++a.1).length:Int).toNat)).drop ((b.1+1).toNat)),a.2.1,a.2.2.1,a.2.2.2.1,c.2.1,c.2.2)else none)else none)else some ((([]:bl)++a.1),a.2.1,a.2.2.1,a.2.2.2.1,c.2.1,c.2.2))else(some ((([]:bl)++a.1),a.2.1,a.2.2.1,a.2.2.2.1,a.2.2.2.2.1,a.2.2.2.2.2))else none)
theorem Zq :aB 24 (j6 [] [.bM [sK,.agg [bP,.ag df,.own 2 j4 80 false]]] (cH (CK N))):=
 aG (an (Zr N) (an (ll N) (an (aew N) (an (xc N) aE)))) func24 rfl N .no _ (wr:=[12,15,49,64]) (rs:=[900000]) (dw:=[58,63])
def CA (d:List Int):Option (eP×(List ae)×(List bZ)×(List cL)×Int):=
 (oB (uY N d) fun b=>oB (CK N b.1 b.2) fun a=>oB (su N ([(-1),0,1,2,3,9]:List Int) a.2.2.2.2.1 a.2.2.2.2.2) fun c=>some (a.1,a.2.1,a.2.2.1,a.2.2.2.1,c.1))
theorem Z2 :aB 5 (aM [qB] [.bM [sK,.agg [bP,.ag df,.own 2 j4 80 false],ab]] (dM (CA N))):=
 aG (an (Pc N) (an (Zq N) (an (Bl N) aE))) func5 rfl N .no _
def CL (k:List Int) (l:Int):Option ((List ae)×(List bZ)×(List cL)×(List Int)×Int):=
 (oB (xX N k l) fun d=>oB (mc N d.1 d.2.1 d.2.2.1) fun a=>bif decide ((0:Int)<a.2.2.length)then oB (eN N (a.2.2.length:Int) d.2.2.2.1 d.2.2.2.2) fun b=>(oB (eN N 16 b.2.1 b.2.2) fun c=>bif decide (c.1=0)then oB (a.2.2[b.1.toNat]?) fun h=>(if 0<=b.1/\b.1<(a.2.2.length:Int)then oB (a.2.2[b.1.toNat]?) fun o=>(if b.1.toNat=b.1.toNat then oB (su N ([1,77]:List Int) c.2.1 c.2.2) fun e=>(if room h.2.length ([e.1]:List Int).length 8 then if 0<=b.1/\b.1<(a.2.2.length:Int)then if b.1.toNat=b.1.toNat then oB (a.2.2[b.1.toNat]?) fun m=>(some (a.1,a.2.1,(a.2.2.set b.1.toNat (m.1,(h.2++([e.1]:List Int)))),e.2.1,e.2.2))else none else none else none)else none)else none)else bif decide (c.1=1)then if 0<=b.1/\b.1<(a.2.2.length:Int)then oB (a.2.2[b.1.toNat]?) fun f=>(if room a.2.2.length ([f]:List cL).length 72 then some (a.1,a.2.1,(a.2.2++([f]:List cL)),c.2.1,c.2.2)else none)else none else bif decide (c.1=2)then oB (a.2.2[b.1.toNat]?) fun j=>(if 0<=b.1/\b.1<(a.2.2.length:Int)then oB (a.2.2[b.1.toNat]?) fun n=>(if b.1.toNat=b.1.toNat then if room j.1.2.length ([(([]:ae),([]:ae),([]:cX))]:List bJ).length 56 then if 0<=b.1/\b.1<(a.2.2.length:Int)then if b.1.toNat=b.1.toNat then oB (a.2.2[b.1.toNat]?) fun i=>(some (a.1,a.2.1,(a.2.2.set b.1.toNat ((i.1.1,(j.1.2++([(([]:ae),([]:ae),([]:cX))]:List bJ))),i.2)),c.2.1,c.2.2))else none else none else none else none)else none)else some (a.1,a.2.1,a.2.2,c.2.1,c.2.2))else some (a.1,a.2.1,a.2.2,d.2.2.2.1,d.2.2.2.2))
theorem adN :aB 26 (j6 [] [yf] (cH (CL N))):=
 aG (an (NS N) (an (AB N) (an (ll N) (an (Bl N) aE)))) func26 rfl N (ah (ah (.seq (ah (.cond (ah (ah (.block (ah (.cond (.ya [.outs 9 4 [(2,200,3)]]) (ah (.cond (.ya [.ia 3 2]) (ah (.cond (.ya [.outs 9 4 [(1,201,119)]]) .no))))))))) .no)) .no))) _ (wr:=[34,47,62,63]) (rs:=[900000]) (dw:=[7,62])
def uX (N:Nat):Option ((List ae)):=
 (some ([([99,97,116]:ae),([99,97,116,115]:ae),([100,111,103]:ae),([100,111,103,115]:ae),([114,117,110]:ae),([114,117,110,110,105,110,103]:ae),([116,104,101]:ae),([114,101,100]:ae),([98,105,103]:ae),([110,101,119]:ae),([121,111,114,107]:ae),([110,121]:ae),([102,111,120]:ae)]:List ae))
theorem acd :aB 150 ⟨⟨[],[]⟩,⟨[ng],[]⟩,fun a=>uX N⟩:=
 aG aE func150 rfl N .no _
def xY (n:List Int) (q:Int):Option (Int×ae×(List ae)×Int×Int×(List Int)×Int):=
 (oB (kl N ([([98,111,100,121]:ae),([98,111,100,121]:ae),([116,105,116,108,101]:ae)]:List ae) n q) fun b=>oB (eN N 9 b.2.1 b.2.2) fun a=>bif decide (a.1=0)then some (1,([]:ae),([]:List ae),0,0,a.2.1,a.2.2)else bif decide (a.1=1)then oB (uX N) fun m=>(oB (kl N m a.2.1 a.2.2) fun i=>oB (uX N) fun o=>oB (kl N o i.2.1 i.2.2) fun l=>oB (eN N 3 l.2.1 l.2.2) fun k=>some (3,b.1,([i.1,l.1]:List ae),k.1,0,k.2.1,k.2.2))else bif decide (a.1=2)then oB (kl N ([([99,111,116]:ae),([100,117,103]:ae),([114,110]:ae),([102,111,103]:ae)]:List ae) a.2.1 a.2.2) fun j=>(oB (eN N 2 j.2.1 j.2.2) fun e=>if fits (1+e.1)then some (4,b.1,([j.1]:List ae),(1+e.1),0,e.2.1,e.2.2)else none)else bif decide (a.1=3)then oB (kl N ([([99,42]:ae),([63,111,63]:ae),([42,110]:ae),([42]:ae)]:List ae) a.2.1 a.2.2) fun h=>(some (5,b.1,([h.1]:List ae),0,0,h.2.1,h.2.2))else bif decide (a.1=4)then oB (eN N 4 a.2.1 a.2.2) fun c=>(oB (eN N 3 c.2.1 c.2.2) fun d=>if fits (c.1+d.1)then some (6,([114,97,116,101]:ae),([]:List ae),c.1,(c.1+d.1),d.2.1,d.2.2)else none)else oB (uX N) fun p=>oB (kl N p a.2.1 a.2.2) fun f=>some (2,b.1,([f.1]:List ae),0,0,f.2.1,f.2.2))
theorem ab9 :aB 80 (j6 [] [.agg [ab,aI,ng,ab,ab,.aQ]] (cH (xY N))):=
 aG (an (xc N) (an (ll N) (an (acd N) aE))) func80 rfl N .no _ (rs:=[900000])
def ab7 :ay:=⟨.box 900000 0::ab:: .dead:: .dead:: .box 4 0::al 36 (bj::al 30 []),[(4,false,[ab,aI,.aQ,ab,ab,.aQ]),j7]⟩
def ab5 :ay:=⟨.box 900000 0::ab:: .dead:: .dead:: .box 4 0:: .box 5 0::ab::al 65 [],[(4,false,[ab,aI,.aQ,ab,ab,.aQ]),(5,false,[ab,aI,.aQ,ab,ab,.own 700505 .q 37 true]),j7]⟩
def na (N:Nat):(D:Nat)->Int->(List Int)->Int->Option (Int×ae×(List ae)×Int×Int×(List bf)×(List Int)×Int)
 |0,_,_,_=>none
 |D+1,deep,b,ba=>
 bif decide (deep<=1)then
 oB (xY N b ba) fun r=>
 (some (r.1,r.2.1,r.2.2.1,r.2.2.2.1,r.2.2.2.2.1,([]:List bf),r.2.2.2.2.2.1,r.2.2.2.2.2.2))
 else
 oB (eN N 3 b ba) fun s=>
 bif decide (s.1=0)then
 oB (xY N s.2.1 s.2.2) fun p=>
 (some (p.1,p.2.1,p.2.2.1,p.2.2.2.1,p.2.2.2.2.1,([]:List bf),p.2.2.2.2.2.1,p.2.2.2.2.2.2))
 else
 oB (eN N 6 s.2.1 s.2.2) fun h=>
 bif decide (h.1=0)then
 if fits (deep-1)then oB (na N D (deep-1) h.2.1 h.2.2) fun j=>
 (if fits (deep-1)then oB (na N D (deep-1) j.2.2.2.2.2.2.1 j.2.2.2.2.2.2.2) fun k=>
 (some (9,([]:ae),([]:List ae),0,0,([(bf.mk j.1 j.2.1 j.2.2.1 j.2.2.2.1 j.2.2.2.2.1 j.2.2.2.2.2.1),(bf.mk k.1 k.2.1 k.2.2.1 k.2.2.2.1 k.2.2.2.2.1 k.2.2.2.2.2.1)]:List bf),k.2.2.2.2.2.2.1,k.2.2.2.2.2.2.2))else none)else none
 else
 bif decide (h.1=1)then
 oB (eN N 4 h.2.1 h.2.2) fun v=>
 (if fits (2+v.1)then if fits (deep-1)then oB (na N D (deep-1) v.2.1 v.2.2) fun l=>
 (some (10,([]:ae),([]:List ae),(2+v.1),0,([(bf.mk l.1 l.2.1 l.2.2.1 l.2.2.2.1 l.2.2.2.2.1 l.2.2.2.2.2.1)]:List bf),l.2.2.2.2.2.2.1,l.2.2.2.2.2.2.2))else none else none)
 else
 meet (fun(g:Int×Bool×Int×ae×Int×Int×(List Int)×Int)=>
 match g with
 |(d,t41,e0,I,K,L,B,C)=>
 bif t41 then
 if fits (d-1)then oB (na N D (d-1) B C) fun o=>
 (if fits (d-1)then oB (na N D (d-1) o.2.2.2.2.2.2.1 o.2.2.2.2.2.2.2) fun e=>
 (some (7,([]:ae),([]:List ae),0,0,([(bf.mk o.1 o.2.1 o.2.2.1 o.2.2.2.1 o.2.2.2.2.1 o.2.2.2.2.2.1),(bf.mk e.1 e.2.1 e.2.2.1 e.2.2.2.1 e.2.2.2.2.1 e.2.2.2.2.2.1)]:List bf),e.2.2.2.2.2.2.1,e.2.2.2.2.2.2.2))else none)else none
 else
 oB (eN N 2 B C) fun i=>
 if fits (2+i.1)then iter (fun go (g:Int×Int×Int×ae×Int×Int×Int×ae×Int×Int×(List bf)×(List Int)×Int)=>
 match g with
 |(f,n,M,x,y,z,q,F,G,H,A,t,u)=>
 bif decide ((0:Int)<n)then
 if fits (f-1)then oB (na N D (f-1) t u) fun a=>
 (if room A.length ([(bf.mk a.1 a.2.1 a.2.2.1 a.2.2.2.1 a.2.2.2.2.1 a.2.2.2.2.2.1)]:List bf).length 88 then
 if fits (n-1)then go (f,(n-1),M,x,y,z,q,F,G,H,(A++([(bf.mk a.1 a.2.1 a.2.2.1 a.2.2.2.1 a.2.2.2.2.1 a.2.2.2.2.2.1)]:List bf)),a.2.2.2.2.2.2.1,a.2.2.2.2.2.2.2)else none
 else none)else none
 else
 some (q,F,([]:List ae),G,H,A,t,u)) N (d,(2+i.1),e0,I,K,L,8,([]:ae),0,0,([]:List bf),i.2.1,i.2.2)else none) fun J=>
 bif decide (h.1=2)then
 J (deep,true,0,([]:ae),0,0,h.2.1,h.2.2)
 else
 J (deep,(decide (h.1=3)),0,([]:ae),0,0,h.2.1,h.2.2)
def As (N D:Nat):Model:=(j6 [ab] [.agg [ab,aI,ng,ab,ab,.own 2 .q 37 true]] (eH (na N D)))
theorem aca (N D:Nat) (a:aB 27 (As N D)):aB 27 (As N (D+1)):=
 aG (an a (an (ab9 N) (an (ll N) aE))) func27 rfl N (ah (ah (.seq (ah (.block (ah (.cond .no (ah (.cond .no (.meet ab7 .no .no))))))) (ah (.seq (ah (aT ab5)) .no))))) (As N (D+1)) (rs:=[900000])
theorem Nt (N:Nat):∀D,aB 27 (As N D)
 |0=>o6 ⟨_,func27,by decide,by kernel_rfl⟩ _ (fun a=>rfl)
 |D+1=>aca N D (Nt N D)
def CB (d:List Int):Option ((List ae)×(List bZ)×(List cL)×Int×ae×(List ae)×Int×Int×(List bf)×Int):=
 (oB (uY N d) fun c=>oB (CL N c.1 c.2) fun b=>oB (na N N 3 b.2.2.2.1 b.2.2.2.2) fun a=>oB (su N ([1,2,16,0]:List Int) a.2.2.2.2.2.2.1 a.2.2.2.2.2.2.2) fun e=>some (b.1,b.2.1,b.2.2.1,a.1,a.2.1,a.2.2.1,a.2.2.2.1,a.2.2.2.2.1,a.2.2.2.2.2.1,e.1))
theorem adI :aB 6 (aM [qB] [.bM [yf,.agg [ab,aI,.own 4 .str 9 true,ab,ab,.own 5 .q 37 true],ab]] (dM (CB N))):=
 aG (an (Pc N) (an (adN N) (an (Nt N N) (an (Bl N) aE)))) func6 rfl N .no _
def rW (N:Nat) (a:Int):cW:=
 (bif decide ((97:Int)<=a)then bif decide (a<=122)then some true else(bif decide ((48:Int)<=a)then some (decide (a<=57))else some false)else bif decide ((48:Int)<=a)then some (decide (a<=57))else some false)
theorem GL :aB 151 (aM [.ag (.int .u8)] [bj] (dM (rW N))):=
 aG aE func151 rfl N .no _
def fb (N:Nat) (a:Int) (b:Int) (c:Int):cW:=
 (bif decide (b<=a)then some (decide (a<=c))else some false)
theorem ki :aB 47 (aM [ab,ab,ab] [bj] (eH (fb N))):=
 aG aE func47 rfl N .no _
def ahA :ay:=⟨aI::al 4 (ab::ab::al 11 []),[]⟩
def iO (d:ae):cW:=
 (iter (fun f (b,c,a)=>bif decide (a<c)then oB (idx b a) fun e=>(oB (rW N (e.toNat:Int)) fun j=>bif !j then some false else if fits (a+1)then f (b,c,(a+1))else none)else oB (fb N (b.length:Int) 1 12) fun h=>some h) N (d,(d.length:Int),(0:Int)))
theorem o1 :aB 81 (aM [aI] [bj] (dM (iO N))):=
 aG (an (GL N) (an (ki N) aE)) func81 rfl N (ah (.seq (ah (aT ahA)) .no)) _
def aeV :ay:=⟨.dead:: .box 1 0::al 4 (.ag eB::ab::ab::al 29 []),[(1,false,[.ag eB])]⟩
def wH (d:bl):cW:=
 (iter (fun h (e,c,a,b)=>bif decide (a<c)then oB (idx e a) fun f=>(oB (iO N f.1) fun k=>bif !k then some false else bif decide ((0:Int)<a)then if fits (a-1)then oB (idx b (a-1)) fun i=>(bif !Op.bytesLess i.1 f.1 then some false else if fits (a+1)then h (e,c,(a+1),b)else none)else none else if fits (a+1)then h (e,c,(a+1),b)else none)else some (decide ((b.length:Int)<=24))) N (d,(d.length:Int),(0:Int),d))
theorem Mu :aB 28 (aM [lz] [bj] (dM (wH N))):=
 aG (an (o1 N) aE) func28 rfl N (ah (.seq (ah (aT aeV)) .no)) _
def agd :ay:=⟨bP::al 4 (bP::ab::ab::al 21 []),[]⟩
def AM (d:List ae):cW:=
 (iter (fun f (b,c,e,a)=>bif decide (a<e)then oB (idx c a) fun h=>(oB (iO N h) fun k=>bif !k then some false else bif decide ((0:Int)<a)then if fits (a-1)then oB (idx b (a-1)) fun i=>(bif !Op.bytesLess i h then some false else if fits (a+1)then f (b,c,e,(a+1))else none)else none else if fits (a+1)then f (b,c,e,(a+1))else none)else some true) N (d,d,(d.length:Int),(0:Int)))
theorem aiL :aB 100 (aM [bP] [bj] (dM (AM N))):=
 aG (an (o1 N) aE) func100 rfl N (ah (.seq (ah (aT agd)) .no)) _
def Gz (N:Nat) (a:ae) (b:ae):cW:=
 (bif decide ((b.length:Int)<=(a.length:Int))then if fits ((a.length:Int)-(b.length:Int))then oB (cut a ((a.length:Int)-(b.length:Int)) (a.length:Int)) fun c=>(some (decide (c=b)))else none else some false)
theorem ahg :aB 234 (aM [aI,aI] [bj] (cH (Gz N))):=
 aG aE func234 rfl N .no _
def A3 (b:ae) (c:ae):cW:=
 (oB (Gz N b c) fun a=>some a)
theorem aiq :aB 162 (aM [aI,aI] [bj] (cH (A3 N))):=
 aG (an (ahg N) aE) func162 rfl N .no _
def ag1 :ay:=⟨aI:: .dead:: .dead::bj::al 32 [],[]⟩
def agD :ay:=⟨aI:: .dead:: .dead::bj::al 6 (.own 600010 .str 9 true::ab::ab::al 23 []),[]⟩
def tZ (i:ae):Option (ae):=
 (oB (iO N i) fun o=>bif !o then some ([]:ae)else iter (fun j (l,p)=>bif p then iter (fun k (a,e,f,d,b)=>bif decide (b<d)then oB (idx f b) fun c=>(oB (A3 N a c) fun m=>bif m then if fits ((a.length:Int)-(c.length:Int))then bif decide ((3:Int)<=((a.length:Int)-(c.length:Int)))then if fits ((a.length:Int)-(c.length:Int))then oB (cut a 0 ((a.length:Int)-(c.length:Int))) fun n=>(j (n,true))else none else(if fits (b+1)then k (a,e,f,d,(b+1))else none)else none else if fits (b+1)then k (a,e,f,d,(b+1))else none)else j (a,e)) N (l,false,([([105,110,103]:ae),([101,100]:ae),([101,115]:ae),([108,121]:ae),([115]:ae)]:List ae),(([([105,110,103]:ae),([101,100]:ae),([101,115]:ae),([108,121]:ae),([115]:ae)]:List ae).length:Int),(0:Int))else some l) N (i,true))
theorem OZ :aB 101 (aM [aI] [aI] (dM (tZ N))):=
 aG (an (o1 N) (an (aiq N) aE)) func101 rfl N (ah (ah (.seq (ah (.block (.loop ag1 (ah (.block (ah (ah (aT agD)))))))) .no))) _
def afk :ay:=⟨bP::aI::al 5 (ab::ab::al 10 []),[]⟩
def GB (d:List ae) (f:ae):et:=
 (iter (fun h (e,b,c,a)=>bif decide (a<c)then oB (idx e a) fun j=>(bif decide (b=j)then some a else if fits (a+1)then h (e,b,c,(a+1))else none)else some (-1)) N (d,f,(d.length:Int),(0:Int)))
theorem afq :aB 163 (aM [bP,aI] [ab] (cH (GB N))):=
 aG aE func163 rfl N (ah (.seq (ah (aT afk)) .no)) _
def ud (c:List ae) (a:ae):cW:=
 (oB (GB N c a) fun b=>some (decide ((0:Int)<=b)))
theorem OI :aB 102 (aM [bP,aI] [bj] (cH (ud N))):=
 aG (an (afq N) aE) func102 rfl N .no _
def agh :ay:=⟨.dead:: .box 1 0::al 22 (.ag df::ab::ab::al 46 []),[(1,false,[bP,.ag df])]⟩
def ahN :ay:=⟨.dead:: .box 1 0::al 22 (.ag df::ab::ab::al 12 (bj::al 7 (bj:: .dead:: .dead::bP::ab::ab::al 20 []))),[(1,false,[bP,.ag df])]⟩
def nU (e:List ae) (d:List bZ):cW:=
 (bif decide ((6:Int)<e.length)then some false else oB (AM N e) fun w=>bif !w then some false else bif decide ((4:Int)<d.length)then some false else iter (fun z (p,o,i,E,x)=>bif decide (i<o)then oB (idx p i) fun a=>(oB (fb N (a.1.length:Int) 1 3) fun A=>bif !A then some false else oB (iO N a.2) fun k=>bif !k then some false else oB (tZ N a.2) fun q=>bif !decide (q=a.2)then some false else iter (fun u (l,t,j,y,C,n,r,c,f,m)=>bif decide (c<r)then oB (idx n c) fun b=>(oB (iO N b) fun v=>bif !v then some false else oB (tZ N b) fun D=>bif !decide (D=b)then some false else oB (ud N f b) fun B=>bif B then some false else if fits (c+1)then u (l,t,j,y,C,n,r,(c+1),f,m)else none)else if fits (j+1)then z (l,t,(j+1),f,m)else none) N (p,o,i,(!k),(!decide (q=a.2)),a.1,(a.1.length:Int),(0:Int),E,x))else some true) N (d,(d.length:Int),(0:Int),e,d))
theorem r1 :aB 44 (aM [gj] [bj] (cH (nU N))):=
 aG (an (aiL N) (an (ki N) (an (o1 N) (an (OZ N) (an (OI N) aE))))) func44 rfl N (ah (ah (.seq (ah (.block (.loop agh (ah (ah (.seq (.block (ah (ah (ah (aT ahN))))) .no)))))) .no))) _
def aiB :ay:=⟨aI::al 4 (ab::ab::al 16 []),[]⟩
def ub (d:ae):cW:=
 (iter (fun h (b,c,a)=>bif decide (a<c)then oB (idx b a) fun e=>(bif decide ((e.toNat:Int)<32)then some false else oB (idx b a) fun f=>bif decide ((126:Int)<(f.toNat:Int))then some false else if fits (a+1)then h (b,c,(a+1))else none)else some (decide ((b.length:Int)<=160))) N (d,(d.length:Int),(0:Int)))
theorem GD :aB 126 (aM [aI] [bj] (dM (ub N))):=
 aG aE func126 rfl N (ah (.seq (ah (aT aiB)) .no)) _
def afF :ay:=⟨.dead:: .box 1 0::al 22 (.ag eB::ab::ab::al 66 []),[(1,false,[ab,.ag eB,.ag fw])]⟩
def ahp :ay:=⟨.dead:: .box 1 0::al 57 (.ag fw::ab::ab::al 31 []),[(1,false,[ab,.ag eB,.ag fw])]⟩
def oW (v:Int) (e:bl) (r:dq):cW:=
 (oB (fb N v 1 9999) fun z=>bif !z then some false else bif decide ((3:Int)<e.length)then some false else bif decide ((3:Int)<r.length)then some false else iter (fun t (l,j,b,n,d,c)=>bif decide (b<j)then oB (idx l b) fun k=>(oB (iO N k.1) fun A=>bif !A then some false else oB (ub N k.2) fun w=>bif !w then some false else bif decide ((0:Int)<b)then if fits (b-1)then oB (idx d (b-1)) fun x=>(bif !Op.bytesLess x.1 k.1 then some false else if fits (b+1)then t (l,j,(b+1),n,d,c)else none)else none else if fits (b+1)then t (l,j,(b+1),n,d,c)else none)else iter (fun q (f,m,a,u,p,o)=>bif decide (a<m)then oB (idx f a) fun h=>(oB (iO N h.1) fun B=>bif !B then some false else oB (fb N h.2 0 999999999) fun y=>bif !y then some false else bif decide ((0:Int)<a)then if fits (a-1)then oB (idx o (a-1)) fun C=>(bif !Op.bytesLess C.1 h.1 then some false else if fits (a+1)then q (f,m,(a+1),u,p,o)else none)else none else if fits (a+1)then q (f,m,(a+1),u,p,o)else none)else some true) N (c,(c.length:Int),(0:Int),n,d,c)) N (e,(e.length:Int),(0:Int),v,e,r))
theorem Bj :aB 123 (aM [js] [bj] (eH (oW N))):=
 aG (an (ki N) (an (o1 N) (an (GD N) aE))) func123 rfl N (ah (ah (.seq (ah (aT afF)) (.seq (ah (aT ahp)) .no)))) _
def ahj :ay:=⟨.ag dj::al 4 (.ag dj::ab::ab::al 26 []),[]⟩
def ui (e:List br):cW:=
 (iter (fun h (b,d,f,a)=>bif decide (a<f)then oB (idx d a) fun c=>(oB (oW N c.1 c.2.1 c.2.2) fun k=>bif !k then some false else bif decide ((0:Int)<a)then if fits (a-1)then oB (idx b (a-1)) fun i=>(bif decide (c.1<=i.1)then some false else if fits (a+1)then h (b,d,f,(a+1))else none)else none else if fits (a+1)then h (b,d,f,(a+1))else none)else some (decide ((b.length:Int)<=16))) N (e,e,(e.length:Int),(0:Int)))
theorem GR :aB 56 (aM [.ag dj] [bj] (dM (ui N))):=
 aG (an (Bj N) aE) func56 rfl N (ah (.seq (ah (aT ahj)) .no)) _
def AU (N:Nat) (c:Int) (b:bl) (a:dq):Option br:=
 (if room ([]:bl).length b.length 32 then if room ([]:dq).length a.length 24 then some (c,(([]:bl)++b),(([]:dq)++a))else none else none)
theorem ahQ :aB 125 (aM [js] [Ds] (eH (AU N))):=
 aG aE func125 rfl N .no _
def ag0 :ay:=⟨al 3 (.own 600003 cC 109 true::al 3 (.ag dj::ab::ab::al 10 [])),[]⟩
def AX (e:List br):lP:=
 (iter (fun i (b,d,f,a)=>bif decide (a<f)then oB (idx d a) fun c=>(oB (AU N c.1 c.2.1 c.2.2) fun h=>if room b.length ([h]:List br).length 56 then if fits (a+1)then i ((b++([h]:List br)),d,f,(a+1))else none else none)else some b) N (([]:List br),e,(e.length:Int),(0:Int)))
theorem agS :aB 58 (aM [.ag dj] [.own 1 cC 109 true] (dM (AX N))):=
 aG (an (ahQ N) aE) func58 rfl N (ah (ah (.seq (ah (aT ag0)) .no))) _
def oZ (N:Nat) (a:Int):et:=
 (bif decide ((65:Int)<=a)then bif decide (a<=90)then some (IntKind.u8.wrap ((IntKind.u8.wrap (a+97))-65))else(some a)else some a)
theorem agj :aB 188 (aM [.ag (.int .u8)] [.ag (.int .u8)] (dM (oZ N))):=
 aG aE func188 rfl N .no _
def ahd :ay:=⟨aI:: .dead:: .dead:: .own 600003 oE 189 true::ab::al 57 [],[]⟩
def agP :ay:=⟨aI:: .dead:: .dead:: .own 600003 oE 189 true::ab:: .box 5 0:: .own 600006 (.int .u8) 5 true::al 55 [],[(5,false,[aI,ab,ab,ab])]⟩
def Bc (p:ae):Option ((List j5)):=
 (oB (ub N p) fun v=>bif !v then some ([]:List j5)else iter (fun l (j,i,f)=>bif decide (f<(j.length:Int))then oB (idx j f) fun r=>(oB (oZ N (r.toNat:Int)) fun x=>oB (rW N x) fun t=>bif !t then if fits (f+1)then l (j,i,(f+1))else none else iter (fun m (c,d,a,b,n,e,h,o)=>bif decide (a<(c.length:Int))then oB (idx c a) fun w=>(oB (oZ N (w.toNat:Int)) fun y=>oB (rW N y) fun u=>bif u then bif decide ((b.length:Int)<12)then oB (idx c a) fun z=>(oB (oZ N (z.toNat:Int)) fun q=>if room b.length ([q]:List Int).length 1 then if fits (a+1)then m (c,d,(a+1),(b++([q]:List Int)),n,e,h,o)else none else none)else(if fits (a+1)then m (c,d,(a+1),b,n,e,h,o)else none)else if room d.length ([((bytesOf b),e,h,a)]:List j5).length 40 then l (c,(d++([((bytesOf b),e,h,a)]:List j5)),a)else none)else if room d.length ([((bytesOf b),e,h,a)]:List j5).length 40 then l (c,(d++([((bytesOf b),e,h,a)]:List j5)),a)else none) N (j,i,f,([]:List Int),([]:ae),(i.length:Int),f,(0:Int)))else some i) N (p,([]:List j5),(0:Int)))
theorem ahB :aB 127 (aM [aI] [.own 1 oE 189 true] (dM (Bc N))):=
 aG (an (GD N) (an (agj N) (an (GL N) aE))) func127 rfl N (ah (ah (ah (.seq (ah (.block (.loop ahd (ah (.block (ah (ah (ah (.seq (aT agP) .no))))))))) .no)))) _
def aiN :ay:=⟨.dead:: .ag fw::ab:: .box 3 0::al 3 (.ag (.opt j3)::al 8 (ab::ab::al 73 [])),[(3,false,[bP,.ag df])]⟩
def aip :ay:=⟨.dead:: .ag fw::ab:: .box 3 0::al 3 (.ag (.opt j3):: .dead:: .ptr j3::bj::al 5 (ab::ab::al 31 (bj::al 4 (bP::ab::ab::al 34 [])))),[(3,false,[bP,.ag df])]⟩
def AR (c:List ae) (c2:List bZ) (dv:dq) (C:Int):Option ((Option bZ)):=
 (iter (fun go (f,j,i,t16,t17,c3,c4)=>bif decide (t17<t16)then oB (idx c4 t17) fun e=>(if fits ((f.length:Int)-j)then bif decide (((f.length:Int)-j)<(e.1.length:Int))then if fits (t17+1)then go (f,j,i,t16,(t17+1),c3,c4)else none else(bif !(Option.isNone i)then oB i fun p=>(bif decide ((e.1.length:Int)<=(p.1.length:Int))then if fits (t17+1)then go (f,j,i,t16,(t17+1),c3,c4)else none else iter (fun go2 (a,g,k,r,u,t162,t172,t49,t54,t55,t56,c5,y)=>bif decide (t56<t55)then oB (idx t54 t56) fun J=>(if fits (g+t56)then oB (idx a (g+t56)) fun F=>(bif u then bif decide (F.1=J)then oB (idx a g) fun G=>(if fits (G.2+t56)then if fits (t56+1)then go2 (a,g,k,r,(decide (F.2=(G.2+t56))),t162,t172,t49,t54,t55,(t56+1),c5,y)else none else none)else(if fits (t56+1)then go2 (a,g,k,r,false,t162,t172,t49,t54,t55,(t56+1),c5,y)else none)else if fits (t56+1)then go2 (a,g,k,r,false,t162,t172,t49,t54,t55,(t56+1),c5,y)else none)else none)else bif u then if fits (t172+1)then go (a,g,(some r),t162,(t172+1),c5,y)else none else if fits (t172+1)then go (a,g,k,t162,(t172+1),c5,y)else none) N (f,j,i,e,true,t16,t17,(decide ((e.1.length:Int)<=(p.1.length:Int))),e.1,(e.1.length:Int),(0:Int),c3,c4))else iter (fun x (b,h,l,B,o,t163,t173,v,s,t,d,z,A)=>bif decide (d<t)then oB (idx s d) fun K=>(if fits (h+d)then oB (idx b (h+d)) fun H=>(bif o then bif decide (H.1=K)then oB (idx b h) fun I=>(if fits (I.2+d)then if fits (d+1)then x (b,h,l,B,(decide (H.2=(I.2+d))),t163,t173,v,s,t,(d+1),z,A)else none else none)else(if fits (d+1)then x (b,h,l,B,false,t163,t173,v,s,t,(d+1),z,A)else none)else if fits (d+1)then x (b,h,l,B,false,t163,t173,v,s,t,(d+1),z,A)else none)else none)else bif o then if fits (t173+1)then go (b,h,(some B),t163,(t173+1),z,A)else none else if fits (t173+1)then go (b,h,l,t163,(t173+1),z,A)else none) N (f,j,i,e,true,t16,t17,false,e.1,(e.1.length:Int),(0:Int),c3,c4))else none)else some i) N (dv,C,(none:Option bZ),(c2.length:Int),(0:Int),c,c2))
theorem aiK :aB 128 (aM [gj,.ag fw,ab] [.ag (.opt j3)] (dE (AR N))):=
 aG aE func128 rfl N (ah (ah (.seq (ah (.block (.loop aiN (ah (ah (.seq (.block (ah (ah (ah (ah (.seq (ah (aT aip)) .no)))))) .no)))))) .no))) _
def afM :ay:=⟨.dead:: .dead:: .box 2 0:: .dead:: .dead:: .own 600005 hY 114 true:: .own 600006 hY 114 true::al 17 (.own 600024 oE 189 true::ab::ab::al 67 []),[(2,false,[bP,.ag df])]⟩
def agJ :ay:=⟨.dead:: .dead:: .box 2 0:: .dead:: .dead:: .own 600005 hY 114 true:: .own 600006 hY 114 true::al 3 (ab::al 83 []),[(2,false,[bP,.ag df])]⟩
def rY (t:List ae) (x:List bZ) (y:ae):Option (mu):=
 (oB (nU N t x) fun D=>bif !D then some ([]:dq)else oB (ub N y) fun E=>bif !E then some ([]:dq)else oB (Bc N y) fun u=>iter (fun p (l,f,k,h,a,c,j)=>bif decide (a<h)then oB (idx k a) fun i=>(oB (tZ N i.1) fun q=>oB (ud N c i.1) fun C=>bif !C then oB (ud N c q) fun G=>(bif !G then if room f.length ([(q,i.2.1)]:dq).length 24 then if fits (a+1)then p (l,(f++([(q,i.2.1)]:dq)),k,h,(a+1),c,j)else none else none else if fits (a+1)then p (l,f,k,h,(a+1),c,j)else none)else if fits (a+1)then p (l,f,k,h,(a+1),c,j)else none)else iter (fun w (e,d,b,m,n)=>bif decide (b<(d.length:Int))then oB (AR N m n d b) fun r=>(bif Option.isNone r then oB (idx d b) fun v=>(if room e.length ([v]:dq).length 24 then if fits (b+1)then w ((e++([v]:dq)),d,(b+1),m,n)else none else none)else oB r fun z=>oB (idx d b) fun B=>if room e.length ([(z.2,B.2)]:dq).length 24 then oB r fun A=>(if fits (b+(A.1.length:Int))then w ((e++([(z.2,B.2)]:dq)),d,(b+(A.1.length:Int)),m,n)else none)else none)else some e) N (l,f,(0:Int),c,j)) N (([]:dq),([]:dq),u,(u.length:Int),(0:Int),t,x))
theorem Bi :aB 59 (aM [gj,aI] [.own 1 hY 114 true] (eH (rY N))):=
 aG (an (r1 N) (an (GD N) (an (ahB N) (an (OZ N) (an (OI N) (an (aiK N) aE)))))) func59 rfl N (ah (ah (ah (ah (.seq (ah (aT afM)) (.seq (ah (aT agJ)) .no)))))) _
def BG (N:Nat) (c:ae) (d:ae) (e:cX) (a:ae) (b:ae×Int):cW:=
 (bif decide (c=a)then some (decide (d=b.1))else some false)
theorem agk :aB 130 (aM [sH,.ptr .str,.ptr hY] [bj] (fN (BG N))):=
 aG aE func130 rfl N .no _
def agA :ay:=⟨.ag hs:: .aU 130 [.ptr .str,.ptr hY]::al 5 (ab::ab::al 10 []),[]⟩
def xm (e:List bJ) (j:ae×ae×Int):et:=
 (iter (fun h (f,b,d,a)=>bif decide (a<d)then oB (idx f a) fun c=>(oB (BG N c.1 c.2.1 c.2.2 b.1 b.2) fun k=>bif k then some a else if fits (a+1)then h (f,b,d,(a+1))else none)else some (-1)) N (e,j,(e.length:Int),(0:Int)))
theorem ah1 :aB 129 (aM [.ag hs,.aU 130 [.ptr .str,.ptr hY]] [ab] (cH (xm N))):=
 aG (an (agk N) aE) func129 rfl N (ah (.seq (ah (aT agA)) .no)) _
def zX (h:ae) (f:ae) (i:Int) (e:Int) (n:List br) (a:List bJ):Option ((List br)×(List bJ)):=
 (oB (xm N a (h,f,i)) fun d=>bif decide (d<0)then if room a.length ([(h,f,([]:cX))]:List bJ).length 56 then if 0<=(a.length:Int)/\(a.length:Int)<((a++([(h,f,([]:cX))]:List bJ)).length:Int)then oB ((a++([(h,f,([]:cX))]:List bJ))[(a.length:Int).toNat]?) fun c=>(if fits ((c.2.2.length:Int)-1)then bif decide (((c.2.2.length:Int)-1)<0)then oB ((a++([(h,f,([]:cX))]:List bJ))[(a.length:Int).toNat]?) fun g=>(if(a.length:Int).toNat=(a.length:Int).toNat then if room c.2.2.length ([(e,([]:List Int))]:cX).length 32 then if(a.length:Int).toNat=(a.length:Int).toNat then oB ((a++([(h,f,([]:cX))]:List bJ))[(a.length:Int).toNat]?) fun m=>(if fits (((c.2.2.length:Int)-1)+1)then oB (((a++([(h,f,([]:cX))]:List bJ)).set (a.length:Int).toNat (m.1,m.2.1,(c.2.2++([(e,([]:List Int))]:cX))))[(a.length:Int).toNat]?) fun r=>(oB (r.2.2[(((c.2.2.length:Int)-1)+1).toNat]?) fun E=>oB (((a++([(h,f,([]:cX))]:List bJ)).set (a.length:Int).toNat (m.1,m.2.1,(c.2.2++([(e,([]:List Int))]:cX))))[(a.length:Int).toNat]?) fun gR=>if(a.length:Int).toNat=(a.length:Int).toNat then oB (((a++([(h,f,([]:cX))]:List bJ)).set (a.length:Int).toNat (m.1,m.2.1,(c.2.2++([(e,([]:List Int))]:cX))))[(a.length:Int).toNat]?) fun ap=>(if(a.length:Int).toNat=(a.length:Int).toNat then if 0<=(((c.2.2.length:Int)-1)+1)/\(((c.2.2.length:Int)-1)+1)<(r.2.2.length:Int)then oB (r.2.2[(((c.2.2.length:Int)-1)+1).toNat]?) fun s=>(if(((c.2.2.length:Int)-1)+1).toNat=(((c.2.2.length:Int)-1)+1).toNat then if room E.2.length ([i]:List Int).length 8 then if 0<=(((c.2.2.length:Int)-1)+1)/\(((c.2.2.length:Int)-1)+1)<(r.2.2.length:Int)then if(((c.2.2.length:Int)-1)+1).toNat=(((c.2.2.length:Int)-1)+1).toNat then oB (r.2.2[(((c.2.2.length:Int)-1)+1).toNat]?) fun O=>(some (n,(((a++([(h,f,([]:cX))]:List bJ)).set (a.length:Int).toNat (m.1,m.2.1,(c.2.2++([(e,([]:List Int))]:cX)))).modify ((a.length:Int).toNat) fun B=>(B.1,B.2.1,(r.2.2.set (((c.2.2.length:Int)-1)+1).toNat (O.1,(E.2++([i]:List Int))))))))else none else none else none else none)else none else none)else none)else none)else none else none else none)else(oB ((a++([(h,f,([]:cX))]:List bJ))[(a.length:Int).toNat]?) fun F=>if(a.length:Int).toNat=(a.length:Int).toNat then if 0<=((c.2.2.length:Int)-1)/\((c.2.2.length:Int)-1)<(c.2.2.length:Int)then oB (c.2.2[((c.2.2.length:Int)-1).toNat]?) fun K=>(bif !decide (K.1=e)then oB ((a++([(h,f,([]:cX))]:List bJ))[(a.length:Int).toNat]?) fun J=>(if(a.length:Int).toNat=(a.length:Int).toNat then if room c.2.2.length ([(e,([]:List Int))]:cX).length 32 then if(a.length:Int).toNat=(a.length:Int).toNat then oB ((a++([(h,f,([]:cX))]:List bJ))[(a.length:Int).toNat]?) fun k=>(if fits (((c.2.2.length:Int)-1)+1)then oB (((a++([(h,f,([]:cX))]:List bJ)).set (a.length:Int).toNat (k.1,k.2.1,(c.2.2++([(e,([]:List Int))]:cX))))[(a.length:Int).toNat]?) fun p=>(oB (p.2.2[(((c.2.2.length:Int)-1)+1).toNat]?) fun A=>oB (((a++([(h,f,([]:cX))]:List bJ)).set (a.length:Int).toNat (k.1,k.2.1,(c.2.2++([(e,([]:List Int))]:cX))))[(a.length:Int).toNat]?) fun M=>if(a.length:Int).toNat=(a.length:Int).toNat then oB (((a++([(h,f,([]:cX))]:List bJ)).set (a.length:Int).toNat (k.1,k.2.1,(c.2.2++([(e,([]:List Int))]:cX))))[(a.length:Int).toNat]?) fun Y=>(if(a.length:Int).toNat=(a.length:Int).toNat then if 0<=(((c.2.2.length:Int)-1)+1)/\(((c.2.2.length:Int)-1)+1)<(p.2.2.length:Int)then oB (p.2.2[(((c.2.2.length:Int)-1)+1).toNat]?) fun S=>(if(((c.2.2.length:Int)-1)+1).toNat=(((c.2.2.length:Int)-1)+1).toNat then if room A.2.length ([i]:List Int).length 8 then if 0<=(((c.2.2.length:Int)-1)+1)/\(((c.2.2.length:Int)-1)+1)<(p.2.2.length:Int)then if(((c.2.2.length:Int)-1)+1).toNat=(((c.2.2.length:Int)-1)+1).toNat then oB (p.2.2[(((c.2.2.length:Int)-1)+1).toNat]?) fun G=>(some (n,(((a++([(h,f,([]:cX))]:List bJ)).set (a.length:Int).toNat (k.1,k.2.1,(c.2.2++([(e,([]:List Int))]:cX)))).modify ((a.length:Int).toNat) fun x=>(x.1,x.2.1,(p.2.2.set (((c.2.2.length:Int)-1)+1).toNat (G.1,(A.2++([i]:List Int))))))))else none else none else none else none)else none else none)else none)else none)else none else none else none)else if(a.length:Int).toNat=(a.length:Int).toNat then oB (c.2.2[((c.2.2.length:Int)-1).toNat]?) fun y=>(oB ((a++([(h,f,([]:cX))]:List bJ))[(a.length:Int).toNat]?) fun Z=>if(a.length:Int).toNat=(a.length:Int).toNat then oB ((a++([(h,f,([]:cX))]:List bJ))[(a.length:Int).toNat]?) fun T=>(if(a.length:Int).toNat=(a.length:Int).toNat then if 0<=((c.2.2.length:Int)-1)/\((c.2.2.length:Int)-1)<(c.2.2.length:Int)then oB (c.2.2[((c.2.2.length:Int)-1).toNat]?) fun anU=>(if((c.2.2.length:Int)-1).toNat=((c.2.2.length:Int)-1).toNat then if room y.2.length ([i]:List Int).length 8 then if 0<=((c.2.2.length:Int)-1)/\((c.2.2.length:Int)-1)<(c.2.2.length:Int)then if((c.2.2.length:Int)-1).toNat=((c.2.2.length:Int)-1).toNat then oB (c.2.2[((c.2.2.length:Int)-1).toNat]?) fun L=>(some (n,((a++([(h,f,([]:cX))]:List bJ)).modify ((a.length:Int).toNat) fun D=>(D.1,D.2.1,(c.2.2.set ((c.2.2.length:Int)-1).toNat (L.1,(y.2++([i]:List Int))))))))else none else none else none else none)else none else none)else none)else none)else none else none)else none)else none else none else if 0<=d/\d<(a.length:Int)then oB (a[d.toNat]?) fun b=>(if fits ((b.2.2.length:Int)-1)then bif decide (((b.2.2.length:Int)-1)<0)then oB (a[d.toNat]?) fun pQ=>(if d.toNat=d.toNat then if room b.2.2.length ([(e,([]:List Int))]:cX).length 32 then if d.toNat=d.toNat then oB (a[d.toNat]?) fun j=>(if fits (((b.2.2.length:Int)-1)+1)then oB ((a.set d.toNat (j.1,j.2.1,(b.2.2++([(e,([]:List Int))]:cX))))[d.toNat]?) fun q=>(oB (q.2.2[(((b.2.2.length:Int)-1)+1).toNat]?) fun t=>oB ((a.set d.toNat (j.1,j.2.1,(b.2.2++([(e,([]:List Int))]:cX))))[d.toNat]?) fun anR=>if d.toNat=d.toNat then oB ((a.set d.toNat (j.1,j.2.1,(b.2.2++([(e,([]:List Int))]:cX))))[d.toNat]?) fun JT=>(if d.toNat=d.toNat then if 0<=(((b.2.2.length:Int)-1)+1)/\(((b.2.2.length:Int)-1)+1)<(q.2.2.length:Int)then oB (q.2.2[(((b.2.2.length:Int)-1)+1).toNat]?) fun am=>(if(((b.2.2.length:Int)-1)+1).toNat=(((b.2.2.length:Int)-1)+1).toNat then if room t.2.length ([i]:List Int).length 8 then if 0<=(((b.2.2.length:Int)-1)+1)/\(((b.2.2.length:Int)-1)+1)<(q.2.2.length:Int)then if(((b.2.2.length:Int)-1)+1).toNat=(((b.2.2.length:Int)-1)+1).toNat then oB (q.2.2[(((b.2.2.length:Int)-1)+1).toNat]?) fun H=>(some (n,((a.set d.toNat (j.1,j.2.1,(b.2.2++([(e,([]:List Int))]:cX)))).modify d.toNat fun v=>(v.1,v.2.1,(q.2.2.set (((b.2.2.length:Int)-1)+1).toNat (H.1,(t.2++([i]:List Int))))))))else none else none else none else none)else none else none)else none)else none)else none else none else none)else(oB (a[d.toNat]?) fun X=>if d.toNat=d.toNat then if 0<=((b.2.2.length:Int)-1)/\((b.2.2.length:Int)-1)<(b.2.2.length:Int)then oB (b.2.2[((b.2.2.length:Int)-1).toNat]?) fun Q=>(bif !decide (Q.1=e)then oB (a[d.toNat]?) fun ac=>(if d.toNat=d.toNat then if room b.2.2.length ([(e,([]:List Int))]:cX).length 32 then if d.toNat=d.toNat then oB (a[d.toNat]?) fun l=>(if fits (((b.2.2.length:Int)-1)+1)then oB ((a.set d.toNat (l.1,l.2.1,(b.2.2++([(e,([]:List Int))]:cX))))[d.toNat]?) fun o=>(oB (o.2.2[(((b.2.2.length:Int)-1)+1).toNat]?) fun C=>oB ((a.set d.toNat (l.1,l.2.1,(b.2.2++([(e,([]:List Int))]:cX))))[d.toNat]?) fun TT=>if d.toNat=d.toNat then oB ((a.set d.toNat (l.1,l.2.1,(b.2.2++([(e,([]:List Int))]:cX))))[d.toNat]?) fun anS=>(if d.toNat=d.toNat then if 0<=(((b.2.2.length:Int)-1)+1)/\(((b.2.2.length:Int)-1)+1)<(o.2.2.length:Int)then oB (o.2.2[(((b.2.2.length:Int)-1)+1).toNat]?) fun W=>(if(((b.2.2.length:Int)-1)+1).toNat=(((b.2.2.length:Int)-1)+1).toNat then if room C.2.length ([i]:List Int).length 8 then if 0<=(((b.2.2.length:Int)-1)+1)/\(((b.2.2.length:Int)-1)+1)<(o.2.2.length:Int)then if(((b.2.2.length:Int)-1)+1).toNat=(((b.2.2.length:Int)-1)+1).toNat then oB (o.2.2[(((b.2.2.length:Int)-1)+1).toNat]?) fun I=>(some (n,((a.set d.toNat (l.1,l.2.1,(b.2.2++([(e,([]:List Int))]:cX)))).modify d.toNat fun u=>(u.1,u.2.1,(o.2.2.set (((b.2.2.length:Int)-1)+1).toNat (I.1,(C.2++([i]:List Int))))))))else none else none else none else none)else none else none)else none)else none)else none else none else none)else if d.toNat=d.toNat then oB (b.2.2[((b.2.2.length:Int)-1).toNat]?) fun w=>(oB (a[d.toNat]?) fun R=>if d.toNat=d.toNat then oB (a[d.toNat]?) fun V=>(if d.toNat=d.toNat then if 0<=((b.2.2.length:Int)-1)/\((b.2.2.length:Int)-1)<(b.2.2.length:Int)then oB (b.2.2[((b.2.2.length:Int)-1).toNat]?) fun U=>(if((b.2.2.length:Int)-1).toNat=((b.2.2.length:Int)-1).toNat then if room w.2.length ([i]:List Int).length 8 then if 0<=((b.2.2.length:Int)-1)/\((b.2.2.length:Int)-1)<(b.2.2.length:Int)then if((b.2.2.length:Int)-1).toNat=((b.2.2.length:Int)-1).toNat then oB (b.2.2[((b.2.2.length:Int)-1).toNat]?) fun P=>(some (n,(a.modify d.toNat fun z=>(z.1,z.2.1,(b.2.2.set ((b.2.2.length:Int)-1).toNat (P.1,(w.2++([i]:List Int))))))))else none else none else none else none)else none else none)else none)else none)else none else none)else none)else none)
theorem afz :aB 60 ⟨⟨[.box 900000 0,aI,.agg [aI,ab],ab],[(900000,false,[.ag dj,.kn 850001 cT 119])]⟩,⟨[fB],[(900000,false,[.ag dj,.kn 1 cT 119])]⟩,nz (zX N)⟩:=
 aG (an (ah1 N) aE) func60 rfl N (ah (ah (ah (ah (ah (ah (.ya [.out 9 [(2,79,197,10),(1,88,3,0)]]))))))) _ (wr:=[33,34,70,71,91,92]) (rs:=[900000,850001]) (dw:=[16,33,70])
def GS :ay:=⟨.ag (.int .u64):: .dead::ab::al 22 [],[]⟩
def BH (N:Nat) (f:Int):et:=
 (meet (fun(a:Int×Int)=>match a with|(c,e)=>meet (fun(a:Int×Int)=>match a with|(b,d)=>meet (fun(a:Int×Int)=>match a with|(m,j)=>oB (idx ([0,1,2,2,3,3,3,3,4,4,4,4,4,4,4,4,5,5,5,5,5,5,5,5,5,5,5,5,5,5,5,5,6,6,6,6,6,6,6,6,6,6,6,6,6,6,6,6,6,6,6,6,6,6,6,6,6,6,6,6,6,6,6,6,7,7,7,7,7,7,7,7,7,7,7,7,7,7,7,7,7,7,7,7,7,7,7,7,7,7,7,7,7,7,7,7,7,7,7,7,7,7,7,7,7,7,7,7,7,7,7,7,7,7,7,7,7,7,7,7,7,7,7,7,7,7,7,7,8,8,8,8,8,8,8,8,8,8,8,8,8,8,8,8,8,8,8,8,8,8,8,8,8,8,8,8,8,8,8,8,8,8,8,8,8,8,8,8,8,8,8,8,8,8,8,8,8,8,8,8,8,8,8,8,8,8,8,8,8,8,8,8,8,8,8,8,8,8,8,8,8,8,8,8,8,8,8,8,8,8,8,8,8,8,8,8,8,8,8,8,8,8,8,8,8,8,8,8,8,8,8,8,8,8,8,8,8,8,8,8,8,8,8,8,8,8,8,8,8,8,8,8,8,8,8,8]:ae) (IntKind.u8.wrap m)) fun h=>if fits (j+(IntKind.i64.wrap (h.toNat:Int)))then some (j+(IntKind.i64.wrap (h.toNat:Int)))else none) fun k=>bif decide ((256:Int)<=b)then if 0<=(8:Int)then if fits (d+8)then k ((b.fdiv (2^(min (8:Int).toNat (IntKind.bits .u64)))),(d+8))else none else none else k (b,d)) fun i=>bif decide ((65536:Int)<=c)then if 0<=(16:Int)then if fits (e+16)then i ((c.fdiv (2^(min (16:Int).toNat (IntKind.bits .u64)))),(e+16))else none else none else i (c,e)) fun l=>bif decide ((4294967296:Int)<=f)then if 0<=(32:Int)then l ((f.fdiv (2^(min (32:Int).toNat (IntKind.bits .u64)))),32)else none else l (f,0))
theorem ahR :aB 198 (aM [.ag (.int .u64)] [ab] (dM (BH N))):=
 aG aE func198 rfl N (ah (.meet GS .no (.meet GS .no (.meet GS .no .no)))) _
def o4 (b:Int):et:=
 (oB (BH N b) fun a=>some a)
theorem xa :aB 132 (aM [.ag (.int .u64)] [ab] (dM (o4 N))):=
 aG (an (ahR N) aE) func132 rfl N .no _
def rX (N:Nat) (a:ae):cW:=
 (some (!decide (a=a)))
theorem afx :aB 133 (aM [aI] [bj] (dM (rX N))):=
 aG aE func133 rfl N .no _
def qo (a:ae) (b:ae):et:=
 (oB (rX N a) fun d=>oB (rX N b) fun c=>bif d then bif c then some 0 else(some (-1))else bif c then some 1 else bif Op.bytesLess a b then some (-1)else bif !(Op.bytesLess a b||decide (a=b))then some 1 else some 0)
theorem OS :aB 64 (aM [aI,aI] [ab] (cH (qo N))):=
 aG (an (afx N) aE) func64 rfl N .no _
def afX :ay:=⟨al 3 (ab:: .dead:: .dead:: .ag dh::ab::ab::al 9 []),[]⟩
def w7 (d:List Int):et:=
 (iter (fun h (b,f,c,a)=>bif decide (a<c)then oB (idx f a) fun e=>(bif !decide (e=b)then some e else if fits (a+1)then h (b,f,c,(a+1))else none)else some b) N ((0:Int),d,(d.length:Int),(0:Int)))
theorem OL :aB 63 (aM [.ag dh] [ab] (dM (w7 N))):=
 aG aE func63 rfl N (ah (ah (.seq (ah (aT afX)) .no))) _
def Bf (e:ae) (c:ae) (i:cX) (b:ae) (h:ae) (j:cX):et:=
 (oB (qo N e b) fun f=>oB (qo N c h) fun d=>oB (w7 N ([f,d]:List Int)) fun a=>some a)
theorem rU :aB 62 (aM [sH,sH] [ab] (nz (Bf N))):=
 aG (an (OS N) (an (OL N) aE)) func62 rfl N .no _
def BM (b:Int):et:=
 (oB (o4 N (IntKind.u64.wrap b)) fun a=>if 0<=a then some (IntKind.u64.wrap ((1:Int)*2^(min a.toNat (IntKind.bits .u64))))else none)
theorem Bk :aB 268 (aM [ab] [.ag (.int .u64)] (dM (BM N))):=
 aG (an (xa N) aE) func268 rfl N .no _
def Hs (N:Nat) (a:Int):Option (Int×Int):=
 (if 0<=(13:Int)then if 0<=(7:Int)then if 0<=(17:Int)then some ((dS .xor .u64 (dS .xor .u64 (dS .xor .u64 a (IntKind.u64.wrap (a*2^(min (13:Int).toNat (IntKind.bits .u64))))) ((dS .xor .u64 a (IntKind.u64.wrap (a*2^(min (13:Int).toNat (IntKind.bits .u64))))).fdiv (2^(min (7:Int).toNat (IntKind.bits .u64))))) (IntKind.u64.wrap ((dS .xor .u64 (dS .xor .u64 a (IntKind.u64.wrap (a*2^(min (13:Int).toNat (IntKind.bits .u64))))) ((dS .xor .u64 a (IntKind.u64.wrap (a*2^(min (13:Int).toNat (IntKind.bits .u64))))).fdiv (2^(min (7:Int).toNat (IntKind.bits .u64)))))*2^(min (17:Int).toNat (IntKind.bits .u64))))),(dS .xor .u64 (dS .xor .u64 (dS .xor .u64 a (IntKind.u64.wrap (a*2^(min (13:Int).toNat (IntKind.bits .u64))))) ((dS .xor .u64 a (IntKind.u64.wrap (a*2^(min (13:Int).toNat (IntKind.bits .u64))))).fdiv (2^(min (7:Int).toNat (IntKind.bits .u64))))) (IntKind.u64.wrap ((dS .xor .u64 (dS .xor .u64 a (IntKind.u64.wrap (a*2^(min (13:Int).toNat (IntKind.bits .u64))))) ((dS .xor .u64 a (IntKind.u64.wrap (a*2^(min (13:Int).toNat (IntKind.bits .u64))))).fdiv (2^(min (7:Int).toNat (IntKind.bits .u64)))))*2^(min (17:Int).toNat (IntKind.bits .u64))))))else none else none else none)
theorem Bh :aB 269 ⟨⟨[.box 900000 0],[(900000,false,[.ag (.int .u64)])]⟩,⟨[.ag (.int .u64)],[(900000,false,[.ag (.int .u64)])]⟩,dM (Hs N)⟩:=
 aG aE func269 rfl N .no _ (rs:=[900000])
section
variable {α bT ρ : Type} (c : bT -> α -> α -> Option Int)
def nd (d:List α) (i j:Int) (k:List α->Option ρ):Option ρ:=
 if 0<=j/\j<(d.length:Int)then oB (d[j.toNat]?) fun e=>if 0<=i/\i<(d.length:Int)then oB (d[i.toNat]?) fun a=>
  if 0<=i/\i<(d.length:Int)then oB (d[i.toNat]?) fun b=>if 0<=j/\j<((d.set i.toNat e).length:Int)then oB ((d.set i.toNat e)[j.toNat]?) fun f=>k ((d.set i.toNat e).set j.toNat a)
  else none else none else none else none
def ra (ks:bT) (d:List α) (i j:Int) (k:Int->Option ρ):Option ρ:=
 if 0<=i/\i<(d.length:Int)then oB (d[i.toNat]?) fun e=>if 0<=j/\j<(d.length:Int)then oB (d[j.toNat]?) fun a=>oB (c ks e a) k else none else none
def tk (ks:bT) (d:List α) (j:Int) (k:Int->Option ρ):Option ρ:=
 if 0<=j/\j<(d.length:Int)then oB (d[j.toNat]?) fun e=>if fits (j-1)then if 0<=(j-1)/\(j-1)<(d.length:Int)then oB (d[(j-1).toNat]?) fun a=>oB (c ks e a) k else none else none else none
def u5 (d:List α) (j:Int) (k:List α->Option ρ):Option ρ:=if fits (j-1)then if fits (j-1)then nd d j (j-1) k else none else none
def rL (N:Nat) (d:List α) (a b:Int) (ks:bT):Option (List α):=
 if fits (a+1)then iter (fun go (g:List α×Int×Int×bT×Int)=>
  match g with
  |(d2,a2,ba,f,i)=>
  bif decide (i<ba)then
   iter (fun go2 (g:List α×Int×Int×bT×Int×Int)=>
    match g with
    |(d3,a3,e0,e,i2,j)=>
    bif decide (a3<j)then tk c e d3 j fun r=>bif decide (r<0)then u5 d3 j fun d=>if fits (j-1)then go2 (d,a3,e0,e,i2,j-1)else none
     else if fits (i2+1)then go (d3,a3,e0,e,i2+1)else none
    else if fits (i2+1)then go (d3,a3,e0,e,i2+1)else none) N (d2,a2,ba,f,i,i)
  else some d2) N (d,a,b,ks,a+1)else none
def qP (N:Nat) (data:List α) (lo:Int) (hi:Int) (first:Int) (cmp:bT):Option ((List α)):=
 (iter (fun go (g:(List α)×Int×Int×bT×Int)=>
   match g with
   |(h,j,b,i,root)=>
   (if fits (2*root)then(if fits ((2*root)+1)then(bif(decide (j<=((2*root)+1)))then
      (some h)
      else
      (meet (fun(g:(List α)×Int×Int×bT×Int×Int)=>
        match g with
        |(f,l,a,k,d,child)=>
        (if fits (a+d)then(if 0<=(a+d)/\(a+d)<(f.length:Int)then
          (oB (f[(a+d).toNat]?) fun p=>
           (if fits (a+child)then(if 0<=(a+child)/\(a+child)<(f.length:Int)then
             (oB (f[(a+child).toNat]?) fun s=>
              (oB (c k p s) fun t=>
               (bif(!(decide (t<0)))then
                (some f)
                else
                (if fits (a+d)then(if fits (a+child)then(if fits (a+child)then(if 0<=(a+child)/\(a+child)<(f.length:Int)then
                    (oB (f[(a+child).toNat]?) fun o=>
                     (if fits (a+d)then(if 0<=(a+d)/\(a+d)<(f.length:Int)then
                       (oB (f[(a+d).toNat]?) fun u=>
                        (if 0<=(a+d)/\(a+d)<(f.length:Int)then
                         (oB (f[(a+d).toNat]?) fun x=>
                          (if 0<=(a+child)/\(a+child)<((f.set (a+d).toNat o).length:Int)then
                           (oB ((f.set (a+d).toNat o)[(a+child).toNat]?) fun y=>
                            (go (((f.set (a+d).toNat o).set (a+child).toNat u),l,a,k,child)))
                           else none))
                         else none))
                       else none)else none))
                    else none)else none)else none)else none))))
             else none)else none))
          else none)else none)) fun J=>
       (if fits (((2*root)+1)+1)then(bif(decide ((((2*root)+1)+1)<j))then
         (if fits (b+((2*root)+1))then(if 0<=(b+((2*root)+1))/\(b+((2*root)+1))<(h.length:Int)then
           (oB (h[(b+((2*root)+1)).toNat]?) fun e=>
            (if fits (b+((2*root)+1))then(if fits ((b+((2*root)+1))+1)then(if 0<=((b+((2*root)+1))+1)/\((b+((2*root)+1))+1)<(h.length:Int)then
               (oB (h[((b+((2*root)+1))+1).toNat]?) fun v=>
                (oB (c i e v) fun r=>
                 (bif(decide (r<0))then
                  (if fits (((2*root)+1)+1)then(J (h,j,b,i,root,(((2*root)+1)+1)))else none)
                  else
                  (J (h,j,b,i,root,((2*root)+1))))))
               else none)else none)else none))
           else none)else none)
         else
         (J (h,j,b,i,root,((2*root)+1))))else none)))else none)else none)) N (data,hi,first,cmp,lo))
def ld (N:Nat) (data:List α) (a:Int) (b:Int) (cmp:bT):Option ((List α)):=
 (if fits (b-a)then(if fits ((b-a)-1)then(if 2≠0 then
    (if fits (((b-a)-1).tdiv 2)then(iter (fun go (g:(List α)×bT×Int×Int×Int×Int)=>
       match g with
       |(f,h,first,lo,hi,i)=>
       (bif(decide ((0:Int)<=i))then
        (oB (qP c N f i hi first h) fun r=>
         (if fits (i-1)then(go (r,h,first,lo,hi,(i-1)))else none))
        else
        (if fits (hi-1)then(iter (fun go2 (g:(List α)×bT×Int×Int×Int)=>
           match g with
           |(j,k,e,l,i2)=>
           (bif(decide ((0:Int)<=i2))then
            (if fits (e+i2)then(if fits (e+i2)then nd j e (e+i2) fun d=>(oB (qP c N d l i2 e k) fun o=>
                       (if fits (i2-1)then(go2 (o,k,e,l,(i2-1)))else none))else none)else none)
            else
            (some j))) N (f,h,first,lo,(hi-1)))else none))) N (data,cmp,a,0,(b-a),(((b-a)-1).tdiv 2)))else none)
    else none)else none)else none)
def q8 (N:Nat) (data:List α) (a:Int) (b:Int) (cmp:bT):Option (List α):=
 (if fits (b-a)then(bif(decide ((8:Int)<=(b-a)))then
   (oB (BM N (b-a)) fun r=>
    (if 4≠0 then
     (if fits ((b-a).tdiv 4)then(if fits (((b-a).tdiv 4)*2)then(if fits (a+(((b-a).tdiv 4)*2))then(if fits ((a+(((b-a).tdiv 4)*2))-1)then(iter (fun go (g:(List α)×Int×Int×Int×Int×Int)=>
           match g with
           |(f,a2,length,e,j,random)=>
           (if 4≠0 then
            (if fits (length.tdiv 4)then(if fits ((length.tdiv 4)*2)then(if fits (a2+((length.tdiv 4)*2))then(if fits ((a2+((length.tdiv 4)*2))+1)then(bif(decide (j<=((a2+((length.tdiv 4)*2))+1)))then
                 (oB (Hs N random) fun p=>
                  (meet (fun(g:(List α)×Int×Int×Int×Int×Int×Int)=>
                    match g with
                    |(o,a3,k,i,h,other,l)=>
                    (if fits (a3+other)then(if fits (a3+other)then nd o h (a3+other) fun d=>(if fits (h+1)then(go (d,a3,k,i,(h+1),l))else none)else none)else none)) fun J=>
                   (bif(decide (length<=(IntKind.i64.wrap (dS .and .u64 p.1 (IntKind.u64.wrap (e-1))))))then
                    (if fits ((IntKind.i64.wrap (dS .and .u64 p.1 (IntKind.u64.wrap (e-1))))-length)then(J (f,a2,length,e,j,((IntKind.i64.wrap (dS .and .u64 p.1 (IntKind.u64.wrap (e-1))))-length),p.2))else none)
                    else
                    (J (f,a2,length,e,j,(IntKind.i64.wrap (dS .and .u64 p.1 (IntKind.u64.wrap (e-1)))),p.2)))))
                 else
                 (some f))else none)else none)else none)else none)
            else none)) N (data,a,(b-a),r,((a+(((b-a).tdiv 4)*2))-1),(IntKind.u64.wrap (b-a))))else none)else none)else none)else none)
     else none))
   else
   (some data))else none)
def pg (N:Nat) (data:List α) (a:Int) (b:Int) (cmp:bT) (ba:Int):Option (Int×Int×(List α)×Int):=
 ra c cmp data b a fun r=>(bif(decide (r<0))then(if fits (ba+1)then(some (b,a,data,(ba+1)))else none)else(some (a,b,data,ba)))
def qw (N:Nat) (data:List α) (a:Int) (b:Int) (c0:Int) (cmp:bT) (ba:Int):Option (Int×(List α)×Int):=
 (oB (pg c N data a b cmp ba) fun r=>
  (oB (pg c N r.2.2.1 r.2.1 c0 cmp r.2.2.2) fun d=>
   (oB (pg c N d.2.2.1 r.1 d.1 cmp d.2.2.2) fun e=>
    (some (e.2.1,e.2.2.1,e.2.2.2)))))
def o5 (N:Nat) (data:List α) (a:Int) (cmp:bT) (b:Int):Option (Int×(List α)×Int):=
 (if fits (a-1)then(if fits (a+1)then(oB (qw c N data (a-1) a (a+1) cmp b) fun r=>
    (some (r.1,r.2.1,r.2.2)))else none)else none)
def q9 (N:Nat) (data:List α) (a:Int) (b:Int) (cmp:bT):Option (Int×Int×(List α)):=
 (if fits (b-a)then(if 4≠0 then
   (if fits ((b-a).tdiv 4)then(if fits (((b-a).tdiv 4)*1)then(if fits (a+(((b-a).tdiv 4)*1))then(if 4≠0 then
       (if fits ((b-a).tdiv 4)then(if fits (((b-a).tdiv 4)*2)then(if fits (a+(((b-a).tdiv 4)*2))then(if 4≠0 then
           (if fits ((b-a).tdiv 4)then(if fits (((b-a).tdiv 4)*3)then(if fits (a+(((b-a).tdiv 4)*3))then(meet (fun(g:(List α)×Int×Int)=>
                match g with
                |(d,o,e)=>
                (bif(decide (e=0))then
                 (some (o,1,d))
                 else
                 (bif(decide (e=12))then
                  (some (o,2,d))
                  else
                  (some (o,0,d))))) fun J=>
               (bif(decide ((8:Int)<=(b-a)))then
                (meet (fun(g:(List α)×bT×Int×Int×Int×Int)=>
                  match g with
                  |(f,l,i,j,k,h)=>
                  (oB (qw c N f i j k l h) fun p=>
                   (J (p.2.1,p.1,p.2.2)))) fun u=>
                 (bif(decide ((50:Int)<=(b-a)))then
                  (oB (o5 c N data (a+(((b-a).tdiv 4)*1)) cmp 0) fun r=>
                   (oB (o5 c N r.2.1 (a+(((b-a).tdiv 4)*2)) cmp r.2.2) fun s=>
                    (oB (o5 c N s.2.1 (a+(((b-a).tdiv 4)*3)) cmp s.2.2) fun t=>
                     (u (t.2.1,cmp,r.1,s.1,t.1,t.2.2)))))
                  else
                  (u (data,cmp,(a+(((b-a).tdiv 4)*1)),(a+(((b-a).tdiv 4)*2)),(a+(((b-a).tdiv 4)*3)),0))))
                else
                (J (data,(a+(((b-a).tdiv 4)*2)),0))))else none)else none)else none)
           else none)else none)else none)else none)
       else none)else none)else none)else none)
   else none)else none)
def sr (N:Nat) (data:List α) (a:Int) (b:Int) (cmp:bT):Option ((List α)):=
 (if fits (b-1)then(iter (fun go (g:(List α)×Int×Int)=>
    match g with
    |(e,i,j)=>
    (bif(decide (i<j))then nd e i j fun d=>(if fits (i+1)then(if fits (j-1)then(go (d,(i+1),(j-1)))else none)else none)
     else
     (some e))) N (data,a,(b-1)))else none)
def I8 (k:(List α×Int×Int×bT×Int×Int)->Option ρ) (N:Nat) (g:List α×Int×Int×bT×Int×Int×Int):Option ρ:=
 iter (fun f (g:(List α)×Int×Int×bT×Int×Int×Int)=>
  match g with
  |(d,a,b,ks,i,j,e)=>
  bif decide ((1:Int)<=e)then tk c ks d e fun r=>bif !decide (r<0)then k (d,a,b,ks,i,j)else u5 d e fun h=>if fits (e-1)then f (h,a,b,ks,i,j,e-1)else none
  else k (d,a,b,ks,i,j)) N g
def Ja (k:(List α×Int×Int×bT×Int×Int)->Option ρ) (N:Nat) (g:List α×Int×Int×bT×Int×Int×Int):Option ρ:=
 iter (fun f (g:(List α)×Int×Int×bT×Int×Int×Int)=>
  match g with
  |(d,a,b,ks,i,j,e)=>
  bif decide (e<b)then tk c ks d e fun r=>bif !decide (r<0)then(if fits (j+1)then k (d,a,b,ks,i,j+1)else none)else u5 d e fun h=>if fits (e+1)then f (h,a,b,ks,i,j,e+1)else none
  else if fits (j+1)then k (d,a,b,ks,i,j+1)else none) N g
def Cm (N:Nat) (go:(List α×Int×Int×bT×Int×Int)->Option (Bool×List α)) (d:List α) (a b:Int) (ks:bT) (i j:Int):Option (Bool×List α):=
 bif decide (i=b)then some (true,d)else if fits (b-a)then bif decide ((b-a)<50)then some (false,d)else
  u5 d i fun k=>meet (fun(g:List α×Int×Int×bT×Int×Int)=>
   match g with
   |(d5,a5,f,e,i4,h)=>
   if fits (f-i4)then bif decide ((2:Int)<=(f-i4))then if fits (i4+1)then Ja c go N (d5,a5,f,e,i4,h,i4+1)else none
    else(if fits (h+1)then go (d5,a5,f,e,i4,h+1)else none)else none) fun J=>
   if fits (i-a)then bif decide ((2:Int)<=(i-a))then if fits (i-1)then I8 c J N (k,a,b,ks,i,j,i-1)else none else J (k,a,b,ks,i,j)else none
 else none
def sj (N:Nat) (d:List α) (a b:Int) (ks:bT):Option (Bool×List α):=
 if fits (a+1)then iter (fun go (g:List α×Int×Int×bT×Int×Int)=>
  match g with
  |(d2,a2,ba,f,i,j)=>
  bif decide (j<5)then
   iter (fun go2 (g:List α×Int×Int×bT×Int×Int)=>
    match g with
    |(d3,a3,e0,e,i2,h)=>
    bif decide (i2<e0)then tk c e d3 i2 fun r=>bif !decide (r<0)then(if fits (i2+1)then go2 (d3,a3,e0,e,i2+1,h)else none)else Cm c N go d3 a3 e0 e i2 h
    else Cm c N go d3 a3 e0 e i2 h) N (d2,a2,ba,f,i,j)
  else some (false,d2)) N (d,a,b,ks,a+1,0)else none
def Cj (b:(List α×Int×bT×Int×Int)->Option (Int×Bool×List α)) (eU:Bool) (g:List α×Int×bT×Int×Int):Option (Int×Bool×List α):=
 match g with
 |(d,a,ks,i,j)=>
 bif decide (j<i)then nd d j a fun e=>some (j,eU,e)else nd d i j fun e=>if fits (i+1)then if fits (j-1)then b (e,a,ks,i+1,j-1)else none else none
def Ci (k:(List α×Int×bT×Int×Int)->Option ρ) (N:Nat) (g:List α×Int×bT×Int×Int):Option ρ:=
 iter (fun go (g:List α×Int×bT×Int×Int)=>
  match g with
  |(d,a,ks,i,j)=>
  bif decide (i<=j)then ra c ks d j a fun r=>bif !decide (r<0)then(if fits (j-1)then go (d,a,ks,i,j-1)else none)else k (d,a,ks,i,j)
  else k (d,a,ks,i,j)) N g
def Ck (k:(List α×Int×bT×Int×Int)->Option ρ) (N:Nat) (g:List α×Int×bT×Int×Int):Option ρ:=
 iter (fun go (g:List α×Int×bT×Int×Int)=>
  match g with
  |(d,a,ks,i,j)=>
  bif decide (i<=j)then ra c ks d i a fun r=>bif decide (r<0)then(if fits (i+1)then go (d,a,ks,i+1,j)else none)else k (d,a,ks,i,j)
  else k (d,a,ks,i,j)) N g
def pj (N:Nat) (d:List α) (a b p:Int) (ks:bT):Option (Int×Bool×List α):=
 nd d a p fun d=>if fits (a+1)then if fits (b-1)then
  Ck c (fun g=>Ci c (Cj (fun g=>iter (fun e g=>Ck c (fun g=>Ci c (Cj e false) N g) N g) N g) true) N g) N (d,a,ks,a+1,b-1)
 else none else none
def QR (go:(List α×Int×bT×Int×Int)->Option (Int×List α)) (g:List α×Int×bT×Int×Int):Option (Int×List α):=
 match g with
 |(d,a,ks,i,j)=>
 bif decide (j<i)then some (i,d)else nd d i j fun b=>if fits (i+1)then if fits (j-1)then go (b,a,ks,i+1,j-1)else none else none
def Ip (k:(List α×Int×bT×Int×Int)->Option ρ) (N:Nat) (g:List α×Int×bT×Int×Int):Option ρ:=
 iter (fun go (g:List α×Int×bT×Int×Int)=>
  match g with
  |(d,a,ks,i,j)=>
  bif decide (i<=j)then ra c ks d a j fun r=>bif decide (r<0)then(if fits (j-1)then go (d,a,ks,i,j-1)else none)else k (d,a,ks,i,j)
  else k (d,a,ks,i,j)) N g
def Iq (k:(List α×Int×bT×Int×Int)->Option ρ) (N:Nat) (g:List α×Int×bT×Int×Int):Option ρ:=
 iter (fun go (g:List α×Int×bT×Int×Int)=>
  match g with
  |(d,a,ks,i,j)=>
  bif decide (i<=j)then ra c ks d a i fun r=>bif !decide (r<0)then(if fits (i+1)then go (d,a,ks,i+1,j)else none)else k (d,a,ks,i,j)
  else k (d,a,ks,i,j)) N g
def ma (N:Nat) (d:List α) (a b p:Int) (ks:bT):Option (Int×List α):=
 nd d a p fun d=>if fits (a+1)then if fits (b-1)then iter (fun go g=>Iq c (fun g=>Ip c (QR go) N g) N g) N (d,a,ks,a+1,b-1)else none else none
def lu (S:List α->Int->Int->bT->Option (List α)) (T:List α->Int->Int->Int->bT->Option (Int×List α)) (N:Nat):(D:Nat)->(List α)->Int->Int->Int->bT->Option ((List α))
 |0,_,_,_,_,_=>none
 |D+1,data,a,b,P,cmp=>
 (iter (fun go (g:(List α)×Int×Int×Int×bT×Bool×Bool)=>
   match g with
   |(B,a2,ba,y,G,l,o)=>
   (if fits (ba-a2)then(bif(decide ((ba-a2)<=12))then
     (oB (rL c N B a2 ba G) fun r=>
      (some r))
     else
     (bif(decide (y=0))then
      (oB (S B a2 ba G) fun kP=>
       (some kP))
      else
      (meet (fun(g:(List α)×Int×Int×Int×bT×Bool×Bool×Int)=>
        match g with
        |(Q,a3,e0,K,L,t,i,length)=>
        (oB (q9 c N Q a3 e0 L) fun O=>
         (meet (fun(g:(List α)×Int×Int×Int×bT×Bool×Bool×Int×Int×Int)=>
           match g with
           |(C,a4,U,z,H,f,d,v,F,hint)=>
           (meet (fun(g:(List α)×Int×Int×Int×bT×Bool×Bool×Int×Int)=>
             match g with
             |(u,a5,M,h,j,A,x,k,p)=>
             (bif(decide ((0:Int)<a5))then
              (if fits (a5-1)then(if 0<=(a5-1)/\(a5-1)<(u.length:Int)then
                (oB (u[(a5-1).toNat]?) fun e=>
                 (if 0<=p/\p<(u.length:Int)then
                  (oB (u[p.toNat]?) fun cb=>
                   (oB (c j e cb) fun sn=>
                    (bif(!(decide (sn<0)))then
                     (oB (T u a5 M p j) fun pn=>
                      (go (pn.2,pn.1,M,h,j,A,x)))
                     else
                     (oB (pj c N u a5 M p j) fun I=>
                      (if fits (I.1-a5)then(if fits (M-I.1)then(if 8≠0 then
                         (if fits (k.tdiv 8)then(bif(decide ((I.1-a5)<(M-I.1)))then
                           (oB (lu S T N D I.2.2 a5 I.1 h j) fun W=>
                            (if fits (I.1+1)then(go (W,(I.1+1),M,h,j,(decide ((k.tdiv 8)<=(I.1-a5))),I.2.1))else none))
                           else
                           (if fits (I.1+1)then(oB (lu S T N D I.2.2 (I.1+1) M h j) fun X=>
                             (go (X,a5,I.1,h,j,(decide ((k.tdiv 8)<=(M-I.1))),I.2.1)))else none))else none)
                         else none)else none)else none)))))
                  else none))
                else none)else none)
              else
              (oB (pj c N u a5 M p j) fun s=>
               (if fits (s.1-a5)then(if fits (M-s.1)then(if 8≠0 then
                  (if fits (k.tdiv 8)then(bif(decide ((s.1-a5)<(M-s.1)))then
                    (oB (lu S T N D s.2.2 a5 s.1 h j) fun Y=>
                     (if fits (s.1+1)then(go (Y,(s.1+1),M,h,j,(decide ((k.tdiv 8)<=(s.1-a5))),s.2.1))else none))
                    else
                    (if fits (s.1+1)then(oB (lu S T N D s.2.2 (s.1+1) M h j) fun Z=>
                      (go (Z,a5,s.1,h,j,(decide ((k.tdiv 8)<=(M-s.1))),s.2.1)))else none))else none)
                  else none)else none)else none)))) fun V=>
            (bif f then
             (bif d then
              (bif(decide (hint=1))then
               (oB (sj c N C a4 U H) fun qI=>
                (bif qI.1 then
                 (some qI.2)
                 else
                 (V (qI.2,a4,U,z,H,f,d,v,F))))
               else
               (V (C,a4,U,z,H,f,d,v,F)))
              else
              (V (C,a4,U,z,H,f,d,v,F)))
             else
             (V (C,a4,U,z,H,f,d,v,F))))) fun vv=>
          (bif(decide (O.2.1=2))then
           (oB (sr N O.2.2 a3 e0 L) fun uV=>
            (if fits (e0-1)then(if fits (O.1-a3)then(if fits ((e0-1)-(O.1-a3))then(vv (uV,a3,e0,K,L,t,i,length,((e0-1)-(O.1-a3)),1))else none)else none)else none))
           else
           (vv (O.2.2,a3,e0,K,L,t,i,length,O.1,O.2.1)))))) fun J=>
       (bif(!l)then
        (oB (q8 N B a2 ba G) fun qG=>
         (if fits (y-1)then(J (qG,a2,ba,(y-1),G,l,o,(ba-a2)))else none))
        else
        (J (B,a2,ba,y,G,l,o,(ba-a2)))))))else none)) N (data,a,b,P,cmp,true,true))
end
def jC (N:Nat):(Unit)->bJ->bJ->Option Int:=(fun(cmp:Unit) (e a:ae×ae×yA)=>Bf N e.1 e.2.1 e.2.2 a.1 a.2.1 a.2.2)
def agN :ay:=⟨.aw 800000 cT 119 false::ab::ab:: .aU 62 []::al 4 (ab::al 44 []),[]⟩
def afU :ay:=⟨.aw 800000 cT 119 false::ab::ab:: .aU 62 []::al 4 (ab::ab::al 43 []),[]⟩
def ae6 (a:List bJ) (d:Int) (b:Int) (c:Unit):Option ((List bJ)):=rL (jC N) N a d b c
 
theorem ahK :aB 189 (aM [.aw 800000 cT 119 false,ab,ab,.aU 62 []] [fB,.aw 800000 cT 119 false] (dE (ae6 N))):=
 aG (an (rU N) aE) func189 rfl N (ah (.block (.loop agN (ah (.seq (.block (ah (aT afU))) .no))))) _ (rs:=[800000])
def agw :ay:=⟨.aw 800000 cT 119 false:: .dead::ab::ab:: .aU 62 []::al 5 (ab::al 71 []),[]⟩
def agi :ay:=⟨.aw 800000 cT 119 false:: .dead::ab::ab:: .aU 62 []::al 5 (ab::ab::al 70 []),[]⟩
def ae5 (e:List bJ) (c:Int) (d:Int) (a:Int) (b:Unit):Option ((List bJ)):=qP (jC N) N e c d a b
 
theorem ahv :aB 267 (aM [.aw 800000 cT 119 false,ab,ab,ab,.aU 62 []] [fB,.aw 800000 cT 119 false] (fN (ae5 N))):=
 aG (an (rU N) aE) func267 rfl N (ah (.block (.loop agw (.block (ah (ah (.meet agi .no .no))))))) _ (rs:=[800000])
def agb :ay:=⟨.aw 800000 cT 119 false:: .dead:: .dead:: .aU 62 []::al 4 (ab::ab::ab::ab::al 48 []),[]⟩
def ahs :ay:=⟨.aw 800000 cT 119 false:: .dead:: .dead:: .aU 62 []::al 4 (ab::ab:: .dead:: .dead::ab::al 47 []),[]⟩
def aeZ (a:List bJ) (d:Int) (b:Int) (c:Unit):Option ((List bJ)):=ld (jC N) N a d b c
 
theorem ahL :aB 190 (aM [.aw 800000 cT 119 false,ab,ab,.aU 62 []] [fB,.aw 800000 cT 119 false] (dE (aeZ N))):=
 aG (an (ahv N) aE) func190 rfl N (ah (ah (ah (.seq (ah (aT agb)) (ah (aT ahs)))))) _ (rs:=[800000])
def afj :ay:=⟨.aw 800000 cT 119 false::ab::al 6 (ab:: .box 9 0:: .ag (.int .u64)::ab::al 55 []),[(9,false,[.ag (.int .u64)])]⟩
def agl :ay:=⟨.aw 800000 cT 119 false::ab::al 6 (ab:: .box 9 0:: .ag (.int .u64)::ab::ab::al 54 []),[(9,false,[.ag (.int .u64)])]⟩
def ae8 (a:List bJ) (d:Int) (b:Int) (c:Unit):Option ((List bJ)):=q8 N a d b c
 
theorem afL :aB 191 (aM [.aw 800000 cT 119 false,ab,ab,.aU 62 []] [fB,.aw 800000 cT 119 false] (dE (ae8 N))):=
 aG (an (Bk N) (an (Bh N) aE)) func191 rfl N (ah (ah (.cond (ah (ah (ah (.block (.loop afj (ah (.seq (.block (ah (.meet agl .no .no))) .no))))))) .no))) _ (rs:=[800000])
def ae1 (a:List bJ) (e:Int) (b:Int) (c:Unit) (d:Int):Option (Int×Int×(List bJ)×Int):=pg (jC N) N a e b c d
 
theorem ahT :aB 319 ⟨⟨[.aw 800000 cT 119 false,ab,ab,.box 900003 0,.aU 62 []],[(900003,false,[ab])]⟩,⟨[.bM [ab,ab],.aw 800000 cT 119 false],[(900003,false,[ab])]⟩,fN (ae1 N)⟩:=
 aG (an (rU N) aE) func319 rfl N .no _ (rs:=[900003,800000])
def ae4 (d:List bJ) (f:Int) (b:Int) (a:Int) (c:Unit) (e:Int):Option (Int×(List bJ)×Int):=qw (jC N) N d f b a c e
 
theorem OB :aB 271 ⟨⟨[.aw 800000 cT 119 false,ab,ab,ab,.box 900004 0,.aU 62 []],[(900004,false,[ab])]⟩,⟨[ab,.aw 800000 cT 119 false],[(900004,false,[ab])]⟩,nz (ae4 N)⟩:=
 aG (an (ahT N) aE) func271 rfl N .no _ (rs:=[900004,800000])
def ae3 (a:List bJ) (d:Int) (c:Unit) (b:Int):Option (Int×(List bJ)×Int):=o5 (jC N) N a d c b
 
theorem afw :aB 270 ⟨⟨[.aw 800000 cT 119 false,ab,.box 900002 0,.aU 62 []],[(900002,false,[ab])]⟩,⟨[ab,.aw 800000 cT 119 false],[(900002,false,[ab])]⟩,dE (ae3 N)⟩:=
 aG (an (OB N) aE) func270 rfl N .no _ (rs:=[900002,800000])
def agv :ay:=⟨.aw 800000 cT 119 false:: .dead:: .dead:: .aU 62 []::al 7 (.box 11 0::ab::ab::ab::al 48 []),[(11,false,[ab])]⟩
def ah5 :ay:=⟨.aw 800000 cT 119 false::al 10 (.box 11 0:: .dead::ab::al 49 []),[(11,false,[ab])]⟩
def afh (a:List bJ) (d:Int) (b:Int) (c:Unit):Option (Int×Int×(List bJ)):=q9 (jC N) N a d b c
 
theorem agY :aB 192 (aM [.aw 800000 cT 119 false,ab,ab,.aU 62 []] [.bM [ab,ab],.aw 800000 cT 119 false] (dE (afh N))):=
 aG (an (afw N) (an (OB N) aE)) func192 rfl N (ah (ah (ah (ah (ah (ah (.meet ah5 (ah (.cond (.meet agv .no .no) .no)) .no))))))) _ (rs:=[800000])
def ahk :ay:=⟨.aw 800000 cT 119 false::al 7 (ab::ab::al 24 []),[]⟩
def ae7 (a:List bJ) (d:Int) (b:Int) (c:Unit):Option ((List bJ)):=sr N a d b c
 
theorem agc :aB 193 (aM [.aw 800000 cT 119 false,ab,ab,.aU 62 []] [fB,.aw 800000 cT 119 false] (dE (ae7 N))):=
 aG aE func193 rfl N (ah (ah (aT ahk))) _ (rs:=[800000])
end Go.Proofs.YtnkagklajgimlaaGreatDoor
