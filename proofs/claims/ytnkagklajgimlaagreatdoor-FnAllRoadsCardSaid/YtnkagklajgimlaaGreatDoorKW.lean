
import Derived.Test.YtnkagklajgimlaaGreatDoorKS
import Derived.Laws.MakeOwn
import Derived.MapKept
import Derived.Maps.RangeRun
set_option linter.unusedSimpArgs false
set_option linter.unusedVariables false
namespace Go.Proofs.YtnkagklajgimlaaGreatDoor
open Go.RowKit
theorem aiD {p:b6} (h:p.isLit=true):(fw p).oneCell'=true:=by
 cases p<;>first|rfl|cases h
theorem Deep.one {w:World} {F:Nat->Prop} {v:Value} {c:au} (h:Deep w F v c):v.oneCell'=true:=by
 cases h with
 |lit _ _ t x p he bK a=>rw[a];exact aiD bK
 |nil _ r=>rfl
 |ar _ cap r xs u b q d T f g i j k hu y bd z=>rfl
theorem Deep.tree {w:World} {F:Nat->Prop} {v:Value} {r:aJ} {xs:List r.D} (h:Deep w F v (.af (.ar r) xs)):Tree w F v r xs []:=by
 cases h with
 |lit _ _ _ _ p he bK k=>cases he;cases bK
 |nil _ _=>exact .inl rfl
 |ar _ cap _ _ u b q d T y f z A B hu g bd a=>
  refine .inr ⟨b,cap,q,rfl,g,bd,fun i j x c aG aX=>⟨u i j,?_,(a i j x c aG aX).one,fun _=>a i j x c aG aX⟩⟩
  rw[cell_of_row w b _ d T (0,0) f]
  exact hu i j x c aG aX
theorem cn.toTree {Fr Fr':Nat->Prop} {w:World} {S S':b0} {aa:Tok} {v:Value} {F:Nat->Prop} (h:cn Fr w S' aa v F) (bd:aa.deep=true) (k:aa.tr=none) (y:∀b,F b->Fr' b) (r:∀b,F b->∀o,¬S b o):cn Fr' w S (mU aa) v F:=by
 have a:=h.oi k bd
 obtain⟨aG,aX,_⟩:=h
 refine⟨fun b d=>⟨y b d,(aG b d).2⟩,?_,?_⟩
 .rcases aX with aX|⟨b,cap,z,T,e,d,A,B,C,hm,H,I,J⟩
  .exact .inl aX
  .refine .inr ⟨b,cap,z,T,e,d,A,B,C,hm,(fun h=>by cases h),fun _ o=>r b d o,fun i j x p K f=>?_⟩
   obtain⟨u,L,M,_⟩:=J i j x p K f
   refine⟨u,L,fun az=>?_,fun h=>by cases h⟩
   simp only[mU]at az
   cases g:aa.t.ct with
   |false=>rw[g]at az;cases az
   |true=>exact Jn (M k) (j7 aa.t x g p (fY f))
 .unfold hE
  simp only[mU]
  cases g:aa.t.ct with
  |true=>exact fun _=>a
  |false=>exact⟨trivial,trivial,r,a.tree⟩
theorem ar2 (aa:Tok):(mU aa).whole=true:=by
 unfold mU Tok.whole
 cases aa.t.ct<;>rfl
structure ua where
 n:Nat
 aa:Tok
 v:Value
 G:Nat->Prop
def pt (tok:Nat->Option bc) (l:List ua):Nat->Option bc:=l.foldl (fun f x=>updT f x.n (some (.live x.aa))) tok
theorem Mem.St {R:ec} {w:World} {S:b0} {box:Nat->Option cm} {β:Nat->Nat}:∀(l:List ua) {tok:Nat->Option bc} {τ:Nat->Value} {F:Nat->Nat->Prop} (g:Mem R box tok β τ F S w) (p:(l.map (·.n)).Nodup)
  (bK:∀x,x∈l->tok x.n=none/\R.gw x.n=none/\cn R.dt w S x.aa x.v x.G/\x.aa.whole=true/\(∀t aa b,tok t=some (.live aa)->x.G b->¬F t b)/\∀k b,box k=some b->¬x.G (β k))
  (bd:∀(i j:Nat) (x y:ua) (b:Nat),l[i]? =some x->l[j]? =some y->x.G b->y.G b->i=j),
  ∃a u,Mem R box (pt tok l) β a u S w/\(∀t,tok t≠none->pt tok l t=tok t/\a t=τ t)/\∀x,x∈l->pt tok l x.n=some (.live x.aa)/\a x.n=x.v
 | [],tok,τ,F,g,_,_,_=>⟨τ,F,g,fun _ _=>⟨rfl,rfl⟩,fun x h=>by cases h⟩
 |x::l,tok,τ,F,g,p,bK,bd=>by
  obtain⟨g1,g2,g3,g4,g5,g6⟩:=bK x cb
  simp only[cw,n2]at p
  have A:∀y,y∈l->y.n≠x.n:=fun y hy e=>p.1 (cg.2 ⟨y,hy,e⟩)
  have B:=g.nC x.n g1 g2 x.aa x.v x.G g3 g4 (fun t aa b az r=>g5 t aa b az r) g6
  obtain⟨a,u,aG,aX,bD⟩:=Mem.St l B p.2 (fun y hy=>by
   obtain⟨d,f,C,H,I,J⟩:=bK y (ch _ hy)
   refine⟨by simp only[updT,A y hy,if_false];exact d,f,C,H,fun t aa b az r=>?_,J⟩
   by_cases e:t=x.n
   .simp only [e,if_true]
    intro K
    obtain⟨i,hi⟩:=tP.1 hy
    have:=bd 0 (i+1) x y b rfl (by simpa using hi) K r
    omega
   .simp only [updT,e,if_false]at az⊢
    exact I t aa b az r) (fun i j y z b hi L hy M=>by
   have:=bd (i+1) (j+1) y z b (by simpa using hi) (by simpa using L) hy M
   omega)
  refine⟨a,u,aG,fun t az=>?_,fun y hy=>?_⟩
  .have e:t≠x.n:=fun e=>az (e▸g1)
   obtain⟨d,f⟩:=aX t (by simp only[updT,e,if_false];exact az)
   simp only[updT,e,if_false]at d f
   exact⟨d,f⟩
  .rcases bn.1 hy with rfl|hy
   .obtain ⟨d,f⟩:=aX y.n (by simp[updT])
    simp only[updT,if_true]at d f
    exact⟨d,f⟩
   .exact bD y hy
section
variable {c c' : Ctx} {ρ : Nat -> Nat} (az : ∀ n, c.tok n ≠ none -> (∃ aa, c.tok n = some (.live aa)) /\ c'.tok (ρ n) ≠ none /\ c'.τ (ρ n) = c.τ n)
include az
theorem arR {x:au} {v:Value} (a:x.clean=true) (d:x.base=true) (b:gK c x v):gK c' (x.toM ρ) v:=by
 cases x with
 |dead=>exact True.intro
 |af t y=>
  obtain⟨p,aG,aX⟩:=b
  have bK:=j7 t y a p (by rw[aG];simp)
  exact⟨p,aG,by rw[o5 aX bK];exact bs.pX bK⟩
 |aT=>exact b
 |own n t xs=>
  obtain⟨aG,aX,bD⟩:=b
  obtain⟨⟨aa,g1⟩,g2,g3⟩:=az n aX
  exact⟨aG.one,g2,fun _ _=>by rw[g3];exact(bD aa g1).2.1⟩
 |agg _=>cases d
 |bR _=>cases d
 |eQ=>cases a
 |box k o=>cases a
 |ptr t y o=>cases a
 |ay n=>cases a
 |fx n i o=>cases a
 |jd g=>cases a
 |sub n l k=>cases a
 |aV _ _=>cases a
theorem UG {x:au} {v:Value} (a:x.clean=true) (b:x.base=true) (d:ff c x v):ff c' (x.toM ρ) v:=by
 have f:gK c x v:=by cases x<;>first|exact d|cases b|cases a
 have:=arR (ρ:=ρ) az a b f
 exact jW this
theorem UI :∀ {xs:List au} {b:List Value},au.py xs=true->bx (ed c) xs b->bx (ed c') (au.zi ρ xs) b
 | [],[],_,_=>True.intro
 |x::xs,_::b,a,h=>by
  simp only[au.py,a6]at a
  refine⟨⟨?_,h.1.2⟩,UI a.2 h.2⟩
  cases d:x.base with
  |true=>exact UG az a.1 d h.1.1
  |false=>
   cases x with
   |agg _=>exact h.1.1.elim
   |bR _=>exact h.1.1.elim
   |aV _ _=>cases a.1
   |_=>cases d
 | [],_::_,_,h=>h.elim
 |_::_,[],_,h=>h.elim
theorem UH {x:au} {v:Value} (a:x.clean=true) (b:gq c x v):gq c' (x.toM ρ) v:=by
 cases d:x.base with
 |true=>
  have aG:ff c x v:=by cases x<;>first|exact b|cases d
  exact kU (UG az a d aG)
 |false=>
  cases x with
  |agg cs=>obtain⟨us,e,f⟩:=b;exact⟨us,e,UI az a f⟩
  |bR _=>exact b.elim
  |aV _ _=>cases a
  |_=>cases d
theorem UJ :∀ {xs:List au} {a:List Value},au.py xs=true->bx (gq c) xs a->bx (gq c') (au.zi ρ xs) a
 | [],[],_,_=>True.intro
 |x::xs,_::a,b,h=>by
  simp only[au.py,a6]at b
  exact⟨UH az b.1 h.1,UJ b.2 h.2⟩
 | [],_::_,_,h=>h.elim
 |_::_,[],_,h=>h.elim
theorem arS {x:au} {v:Value} (a:x.clean=true) (b:bp c x v):bp c' (x.toM ρ) v:=by
 by_cases d:∃cs,x= .bR cs
 .obtain ⟨cs,rfl⟩:=d
  obtain⟨us,e,f⟩:=b
  exact⟨us,e,UJ az a f⟩
 .have aX:gq c x v:=by cases x<;>first|exact b|exact absurd ⟨_,rfl⟩ d
  exact jX (UH az a aX)
end
section
variable {E : Env} {o : Oper} {s : aY} {e : bP} {aM : dc}
def qa (x:Nat×Option bc):Tok:=match x.2 with
 |some (.live aa)=>aa
 |_=>⟨.unit,[],0,false,false,none⟩
theorem ara (cd:eG E) (c:Call) (cC:o.op= .call c) (g:Operand) (bF:c.callee= .value g) (f:FuncId) (cs:List au) (bU:s.aQ g= .aV f cs) (h:(Jj E f o.dst (c.args.toList.map s.aQ++cs)).R s [] [] e aM):cX E o s e:=by
 unfold Jj at h
 obtain⟨B,ap3,il,h⟩:=Ko _ _ _ _ _ h (fun k b h=>by cases h)
 obtain⟨T,aqt,dJ,h⟩:=Kq _ _ _ _ _ h (fun k b h=>by cases h)
 obtain⟨m,a0,acc,hm,GU,h⟩:=J8 _ h
 split at h
 case isFalse=>exact h.elim
 rename_i GR
 obtain⟨He,aak,AR⟩:=GR
 obtain⟨r,cG,h⟩:=h
 unfold R5 at h
 simp only at h
 split at h
 case isFalse=>exact h.elim
 rename_i pF
 obtain⟨wU,LN,uo,z7⟩:=pF
 obtain⟨qT,aqu,h⟩:=Gq _ _ _ _ h
 split at h
 case h_1=>exact h.elim
 rename_i v0 ar9 jA
 obtain⟨he,_⟩:=h
 obtain⟨s1,sv⟩:∃s1,s1=m.ret.mk' r:=⟨_,rfl⟩
 rw[<-sv]at qT jA he wU LN uo z7
 have hMod:=cd.fn f m hm
 obtain⟨⟨fn,GZ,G9,J⟩,Hf⟩:=hMod
 have ss:=Hf a0 r cG
 rw[<-sv]at ss
 obtain⟨W,oz⟩:∃W,W=m.arg.mk' a0:=⟨_,rfl⟩
 rw[<-oz]at ss
 rintro R a w e3 ⟨β,τ,F,S,X,bj,gA,gh⟩ K Q dP
 have fQ:=hZ gh
 obtain⟨us,G2,uX⟩:=KW (bU▸fQ g)
 have Hn:bx (bp (s.ctx w S β τ)) (c.args.toList.map s.aQ++cs) (c.args.toList.map a.eval++us):=(Fm fQ _).append (Ls uX)
 obtain⟨hinv,S',ox,je,so,pE,xh,uO,uL,xz⟩:=FJ X il dJ GU Hn
 rw[<-oz]at so pE xh uO uL xz
 have JG:∀k b,aZ W.B k≠some b:=fun k b I=>by
  obtain⟨aL,bz,g1,_⟩:=so k b I
  have:acc.aE=[]:=List.isEmpty_iff.1 aak
  rw[this]at g1;cases g1
 have Y:∀n aa,aH W.T n≠some (.live aa):=fun n aa I=>by
  obtain⟨b7,g1,_⟩:=pE n aa I
  have:acc.rt=[]:=List.isEmpty_iff.1 He
  rw[this]at g1;cases g1
 have GF:Mem (jE W (dR acc β) (hk acc τ) (fz acc F) S' w) (aZ W.B) (aH W.T) (dR acc β) (hk acc τ) (fz acc F) S' w:=by
  obtain⟨g1,g2,g3,g4,g5⟩:=uL (jE W (dR acc β) (hk acc τ) (fz acc F) S' w).dt (fun k b I=>.inr (.inl ⟨k,b,I,rfl⟩)) (fun t aa b az u=>.inr (.inr ⟨t,aa,az,u⟩))
  exact⟨hF.refl _ _,fun _ _ h=>h,fun _ _ h=>.inl h,fun _ _ _=>rfl,je.lt,g1,g2,g3,g4,g5,(fun k b u I=>by
   obtain⟨bz,j9⟩:=gy.1 I
   exact absurd j9 (JG k bz)),fun t v aa cV az=>absurd az (Y t aa),fun n aa aU i o d bj lT fu hd=>absurd bj (Y n aa)⟩
 have qU:lE w (kF W (dR acc β) (fz acc F)) S':=e3.2.2.later X ox fun b u=>by
  rcases u with⟨k,x,I,_⟩|⟨t,aa,az,_⟩
  .exact absurd I (JG k x)
  .exact absurd az (Y t aa)
 have GO:=ss w S' (dR acc β) (hk acc τ) (fz acc F) _ qU GF xz
 have jf:(execOp a.eval o).run E.P w= .ok (.enter f (c.args.toList.map a.eval++us).toArray) w:=by
  have j9:¬fn.body=none:=fun e=>by rw[e]at J;cases J
  have kZ:(c.args.toList.map a.eval++us).toArray= #[]++c.args.map a.eval++us.toArray:=by apply Array.ext';simp
  rw[kZ]
  simp[execOp,cC,resolve,bF,G2,Deferred.ofValue,invoke,callFunc,GZ,G9,j9]
 unfold Oper.wp
 rw[jf,Oper.upon_enter]
 refine GO.mono fun dn ev Zn=>?_
 obtain⟨v,Lb,M,kQ,ga,rfl,ni,x,A,Hq⟩:=Zn
 rw[jA]at A
 simp only[List.head?_cons,iB]at A
 subst A
 simp only
 have O:∀b,¬kF W (dR acc β) (fz acc F) b:=fun b u=>by
  rcases u with⟨k,x,I,_⟩|⟨t,aa,az,_⟩
  .exact JG k x I
  .exact Y t aa az
 have Hm:hF (fun _=>False) w ev:=⟨ni.eD.os,ni.eD.tape,ni.eD.output,ni.eD.size,fun i hi _=>ni.eD.block i hi (O i)⟩
 have U:Step (fun _=>False) S S w ev:=⟨Hm,fun b o u=>World.cell?_of_block (w:=w) (Hm.block b (X.lt b o u) (fun h=>h)),fun _ _ h=>h,fun _ _ h=>.inl h,fun b o u=>mc (X.lt b o u) Hm.size⟩
 have im:=X.step U (fun _ h=>h.elim) (fun _ _ _ h=>h) (fun _ _ _ _ _ h=>h)
 obtain⟨ρ,N4⟩:∃ρ,ρ=qb (o.dst.getD 0):=⟨_,rfl⟩
 rw[<-N4]at qT he
 have p:∀x,x∈s1.T->∃aa,x.2=some (.live aa)/\aa.deep=true/\aa.wr=false/\aa.tr=none/\aH s1.T x.1=some (.live aa):=fun x A=>by
  have aG:=cz.1 LN x A
  unfold SR at aG
  split at aG
  .rename_i aa V
   simp only[a6,nZ,Option.isNone_iff_eq_none]at aG
   refine⟨aa,V,aG.1.1,aG.1.2,aG.2,?_⟩
   obtain⟨n,z⟩:=x
   simp only at V
   subst V
   exact yA uo n _ A
  .cases aG
 obtain⟨l,bK⟩:∃l:List ua,l=s1.T.map fun x=>⟨ρ x.1,mU (qa x),M x.1,kQ x.1⟩:=⟨_,rfl⟩
 have Z1:∀n,aH s1.T n≠none->∃x,x∈s1.T/\x.1=n:=fun n h=>by
  obtain⟨z,bL⟩:=gy.1 h
  exact⟨(n,some z),ri bL,rfl⟩
 have aaT:∀ {i j},ρ i=ρ j->i=j:=fun h=>by rw[N4]at h;exact KV h
 obtain⟨wD,pk,uK,hold,xt⟩:=im.St l (by
   rw[bK,mb]
   have:(s1.T.map ((fun x:ua=>x.n)∘fun x=>(⟨ρ x.1,mU (qa x),M x.1,kQ x.1⟩:ua)))=(s1.T.map (·.1)).map ρ:=by rw[mb];rfl
   rw[this]
   exact Dv (fun x y _ _ h=>aaT h) uo) (fun y hy=>by
   rw[bK]at hy
   obtain⟨x,A,rfl⟩:=cg.1 hy
   obtain⟨aa,cB,ck,dr,gP,gf⟩:=p x A
   have X5:qa x=aa:=by unfold qa;rw[cB]
   obtain⟨f1,f2⟩:=qT (ρ x.1) (cg.2 ⟨x,A,rfl⟩)
   have I:=ni.bI x.1 aa gf
   have Z:∀b,kQ x.1 b->w.heap.size<=b:=fun b u=>by
    rcases(I.1 b u).1 with h|h
    .exact h
    .exact absurd h (O b)
   refine⟨f1,e3.gw f2,?_,ar2 _,fun t b2 b az u cT=>?_,fun k b kD u=>?_⟩
   .show cn R.dt ev S (mU (qa x)) (M x.1) (kQ x.1)
    rw[X5]
    exact I.toTree ck gP (fun b u=>.inl (dS X.size (Z b u))) (fun b u o df=>by have:=X.lt b o df;have:=Z b u;omega)
   .have:=((X.bI t b2 az).1 b cT).2
    have:=Z b u
    omega
   .have:=X.blt kD
    have:=Z _ u
    omega) (fun i j x y b hi bV A hy=>by
   rw[bK,iC]at hi bV
   obtain⟨gm,k8,rfl⟩:=hT.1 hi
   obtain⟨hD,oD,rfl⟩:=hT.1 bV
   obtain⟨aa,_,_,_,_,gf⟩:=p gm (fY k8)
   obtain⟨EM,_,_,_,_,lP⟩:=p hD (fY oD)
   have NQ:=ni.eM gm.1 hD.1 aa EM b gf lP A hy
   rw[List.nodup_iff_pairwise_ne,gx]at uo
   obtain⟨Nw,uQ⟩:=dB.1 k8
   obtain⟨NJ,NK⟩:=dB.1 oD
   rcases pd i j with h|h|h
   .have:=uo i j (by simpa using Nw) (by simpa using NJ) h
    simp only[List.getElem_map,uQ,NK]at this
    exact absurd NQ this
   .exact h
   .have:=uo j i (by simpa using NJ) (by simpa using Nw) h
    simp only[List.getElem_map,uQ,NK]at this
    exact absurd NQ.symm this)
 have C:e.updT (aH s.T)=pt (aH s.T) l:=by
  rw[he,bK]
  unfold bP.updT pt
  simp only
  rw[List.foldl_map,List.foldl_map]
  have key:∀(jr:List (Nat×Option bc)) (f:Nat->Option bc),(∀x,x∈jr->∃aa,x.2=some (.live aa))->jr.foldl (fun f x=>updT f (zl ρ x).1 (zl ρ x).2) f=jr.foldl (fun f x=>updT f (ρ x.1) (some (.live (mU (qa x))))) f:=fun jr=>by
   induction jr with
   |nil=>intro f _;rfl
   |cons x jr lU=>
    intro f A
    obtain⟨aa,cB⟩:=A x cb
    simp only[eZ]
    rw[show zl ρ x=(ρ x.1,some (.live (mU (qa x))))from by unfold zl qa;rw[cB]]
    exact lU _ fun y hy=>A y (ch _ hy)
  exact key s1.T _ fun x A=>by obtain⟨aa,cB,_⟩:=p x A;exact⟨aa,cB⟩
 have H:e.updB (aZ s.B)=aZ s.B:=by rw[he];rfl
 have xx:∀i,bp ⟨ev,S,fun k=>e.updB (aZ s.B) k≠none,β,e.updT (aH s.T),wD⟩ (dU s.L i) (a.tmps.getD i undef):=fun i=>by
  rw[C,H]
  exact bp.mono (c:=s.ctx w S β τ) (c':=⟨ev,S,fun k=>aZ s.B k≠none,β,pt (aH s.T) l,wD⟩) ⟨fun _ _ h=>h,U.cell⟩ (gn.refl rfl rfl) (fun t az=>by
   obtain⟨cW,cO⟩:=hold t az
   exact⟨by show pt _ _ t≠none;rw[cW];exact az,fun b2 V=>⟨b2,cW.symm.trans V,cO,rfl,fun h=>⟨h,rfl⟩⟩⟩) (gh i)
 refine dP _ _ (ki (s:=s) (e:=e) (by rw[H,C];exact uK) bj gA xx o.dst ?_)
 cases bd:o.dst with
 |none=>exact .inl rfl
 |some d=>
  right
  have cV:e.val=v0.toM ρ:=by rw[he];simp[bd]
  rw[cV,C,H]
  have sq:v0.clean=true:=by
   rw[jA]at z7
   simp only[au.py,a6]at z7
   exact z7.1
  refine arS (c:=s1.ctx ev ga Lb M) (c':=⟨ev,S,fun k=>aZ s.B k≠none,β,pt (aH s.T) l,wD⟩) (fun n bj=>?_) sq Hq
  obtain⟨x,A,rfl⟩:=Z1 n bj
  obtain⟨aa,_,_,_,_,gf⟩:=p x A
  obtain⟨cW,cO⟩:=xt ⟨ρ x.1,mU (qa x),M x.1,kQ x.1⟩ (by rw[bK];exact cg.2 ⟨x,A,rfl⟩)
  exact⟨⟨aa,gf⟩,by show pt _ _ (ρ x.1)≠none;rw[cW];simp,cO⟩
theorem aqY (d:eG E) (c:Call) (a:o.op= .call c) (g:Operand) (b:c.callee= .value g) (h:(cK E o.op o.dst s.aQ).R s [] [] e aM):cX E o s e:=by
 rw[a]at h
 simp only[cK,b]at h
 split at h
 case h_2=>exact h.elim
 rename_i f cs i
 cases bd:yw E o.dst with
 |true=>rw[bd]at h;exact ara d c a g b f cs i h
 |false=>rw[bd]at h;exact aqZ d c a g b f cs i h
end
theorem cn.Dw {Fr:Nat->Prop} {w:World} {S:b0} {r:aJ} {xs:List r.D} {v:Value} {G:Nat->Prop} (h:Deep w G v (.af (.ar r) xs)) (C:∀b,G b->Fr b/\b<w.heap.size) (k:∀b,G b->∀o,¬S b o) (e:TypeId):cn Fr w S ⟨r,xs,e,true,true,bif r.ct then none else some []⟩ v G:=by
 have y:=h
 refine⟨C,?_,?_⟩
 .cases h with
  |lit _ _ _ _ p he bK U=>cases he;cases bK
  |nil _ _=>exact .inl ⟨rfl,rfl⟩
  |ar _ cap _ _ u b q F T z H I J K hu V bd L=>
   refine .inr ⟨b,cap,F,T,rfl,z,H,I,J,K,(fun h=>by cases h),fun _ o=>k b z o,fun i j x p d f=>?_⟩
   have M:j<r.w:=by have:=(dB.1 f).1;rwa[et]at this
   obtain⟨c,a⟩:=uq x M
   refine⟨u i j,hu i j x c d a,fun az=>?_,fun h=>by cases h⟩
   cases g:r.ct with
   |false=>rw[g]at az;cases az
   |true=>
    obtain⟨t0,W,X,O,P,Q⟩:=(L i j x c d a).rep (S:=fun _ _=>True) (fun _ _ _=>True.intro)
    obtain⟨t1,Y,A,B⟩:=(lM r x).get' j c p a f
    rw[O]at A;cases A
    rw[P]at B;cases B
    exact Jn Q (j7 r x g p (fY f))
 .unfold hE
  simp only
  cases g:r.ct with
  |true=>exact fun _=>y
  |false=>exact⟨trivial,trivial,k,y.tree⟩
def UL (v:Value) (k:Nat):Prop:=∃l cap,v= .slice (some ⟨k,0,none⟩) l cap
theorem Deep.Yh {w:World} {F:Nat->Prop} {v:Value} {r:aJ} {xs:List r.D} (h:Deep w F v (.af (.ar r) xs)) (k:r.ct=true):Deep w (UL v) v (.af (.ar r) xs):=by
 cases h with
 |lit _ _ _ _ p he bK K=>cases he;cases bK
 |nil _ _=>exact .nil _ _
 |ar _ cap _ _ u b q y T L z A B C hu M bd H=>
  refine .ar _ cap r xs u b (fun _ _ _=>False) y T ⟨_,_,rfl⟩ z A B C hu (fun _ _ _ h=>h.elim) (fun _ _ _ _ _ h=>h.elim) (fun i j x c aG aX=>?_)
  obtain⟨t0,O,P,a,d,I⟩:=(H i j x c aG aX).rep (S:=fun _ _=>True) (fun _ _ _=>True.intro)
  obtain⟨p,J,t1,Q,f,g⟩:=(lM r x).get j c aX
  rw[a]at f;cases f
  rw[d]at g;cases g
  have bK:=j7 r x k _ (fY J)
  rw[a]
  exact .lit _ _ _ _ _ d bK (o5 I bK)
theorem cn.given {Fr:Nat->Prop} {w:World} {S:b0} {aa:Tok} {v:Value} {F:Nat->Prop} (h:cn Fr w S aa v F) (f:aa.whole=true) (g:aa.wr=true) (bd:aa.deep=true) (i:aa.tr=none->aa.t.ct=true):
  ∃G:Nat->Prop,(∀b,G b->F b)/\(∀b,G b->∀o,¬S b o)/\Deep w G v (.af (.ar aa.t) aa.xs):=by
 cases a:aa.tr with
 |none=>
  refine⟨UL v,fun b ⟨l,cap,e⟩=>h.block e,fun b ⟨l,cap,e⟩=>?_,(h.oi a bd).Yh (i a)⟩
  rcases h.2.1 with⟨j,_⟩|⟨p,k,r,T,j,_,_,_,_,_,_,d,_⟩
  .rw [j]at e;cases e
  .rw [j]at e;cases e;exact d g
 |some u=>
  have:=Tok.asc f a
  subst this
  refine⟨F,fun _ h=>h,?_,h.FP a⟩
  have:=h.2.2
  unfold hE at this
  rw[a]at this
  exact this.2.2.1
theorem cn.pU {Fr:Nat->Prop} {w:World} {S:b0} {aa:Tok} {v:Value} {F:Nat->Prop} (h:cn Fr w S aa v F) {d:List (Nat×Nat×Nat)} (a:aa.tr=some d):∀b,F b->∀o,¬S b o:=by
 have:=h.2.2
 unfold hE at this
 rw[a]at this
 exact this.2.2.1
theorem cn.J0 {Fr:Nat->Prop} {w:World} {S:b0} {aa:Tok} {v:Value} {F:Nat->Prop} (h:cn Fr w S aa v F) {p:List (Nat×Nat×Nat)} (d:aa.tr=some p) {i:Nat} (hi:i<aa.xs.length):
  ∃(b cap:Nat) (a:Array Value) (T:TypeId) (q:Nat->Nat->Nat->Prop),v= .slice (some ⟨b,0,none⟩) aa.xs.length cap/\F b/\w.heap[b]? =some (.cells a T (0,0))/\a.size=cap*aa.t.w/\aa.xs.length<=cap/\cap<=maxLen/\(∀i j k,q i j k->F k/\k≠b)/\(∀i j r y k,q i j k->q r y k->i=r/\j=y)/\
   ∀(i j:Nat) (x:aa.t.D) (c:au),aa.xs[i]? =some x->(cellsOf aa.t x)[j]? =some c->∃u,a[i*aa.t.w+j]? =some u/\u.oneCell'=true/\(jU p i j->Deep w (q i j) u c):=by
 obtain⟨_,aX,bD⟩:=h
 unfold hE at bD
 rw[d]at bD
 obtain⟨_,_,_,f⟩:=bD
 rcases aX with⟨_,e⟩|⟨b,cap,a,T,e,H,z,I,J,hm,_⟩
 .rw [e]at hi;simp at hi
 rcases f with f|⟨Q,A,q,B,K,bd,g⟩
 .rw [f]at e;cases e
 rw[B]at e
 cases e
 refine⟨b,cap,a,T,q,B,H,z,I,J,hm,K,bd,fun i j x c L M=>?_⟩
 obtain⟨u,C,O,P⟩:=g i j x c L M
 rw[cell_of_row w b _ a T (0,0) z]at C
 exact⟨u,C,O,P⟩
theorem Mem.split {R:ec} {w:World} {S:b0} {box:Nat->Option cm} {tok:Nat->Option bc} {β:Nat->Nat} {τ:Nat->Value} {F:Nat->Nat->Prop} (H:Mem R box tok β τ F S w) (n:Nat) (aa:Tok) (Y:List (Nat×Nat×Nat)) (C:tok n=some (.live aa)) (P:aa.tr=some Y)
  (i o:Nat) (y:aa.t.D) (hy:aa.xs[i]? =some y) (r:aJ) (x:List r.D) (bF:(cellsOf aa.t y)[o]? =some (.af (.ar r) x)) (xu:jU Y i o) (d:Nat) (bd:tok d=none) (aaA:R.gw d=none) (e:TypeId):
  ∃b l cap u,τ n= .slice (some ⟨b,0,none⟩) l cap/\w.cell? ⟨b,i*aa.t.w+o,none⟩=some u/\u.oneCell'=true/\∃Q,Mem R box (updT (updT tok n (some (.live {aa with tr:=some ((i,o,d)::Y)}))) d (some (.live ⟨r,x,e,true,true,bif r.ct then none else some []⟩))) β (fun t=>if t=d then u else τ t) Q S w/\
   hq ⟨w,S,fun k=>box k≠none,β,tok,τ⟩ ⟨w,S,fun k=>box k≠none,β,updT (updT tok n (some (.live {aa with tr:=some ((i,o,d)::Y)}))) d (some (.live ⟨r,x,e,true,true,bif r.ct then none else some []⟩)),fun t=>if t=d then u else τ t⟩:=by
 have B:=H.bI n aa C
 have xj:d≠n:=fun e=>by rw[e,C]at bd;cases bd
 have hi:i<aa.xs.length:=(dB.1 hy).1
 obtain⟨b,cap,bT,T,q,aQ,av,bU,bL,bj,hm,dy,xi,oy⟩:=B.J0 P hi
 obtain⟨u,hu,oC,pH⟩:=oy i o y _ hy bF
 have j8:=pH xu
 have M:w.cell? ⟨b,i*aa.t.w+o,none⟩=some u:=by rw[cell_of_row w b _ bT T (0,0) bU];exact hu
 obtain⟨tok',z⟩:∃tok',tok'=updT (updT tok n (some (.live {aa with tr:=some ((i,o,d)::Y)}))) d (some (.live ⟨r,x,e,true,true,bif r.ct then none else some []⟩)):=⟨_,rfl⟩
 have gU:tok' d=some (.live ⟨r,x,e,true,true,bif r.ct then none else some []⟩):=by rw[z];simp[updT]
 have gw:tok' n=some (.live {aa with tr:=some ((i,o,d)::Y)}):=by rw[z];simp[updT,Ne.symm xj]
 have Z:∀ {t},t≠d->t≠n->tok' t=tok t:=fun {t} aG aX=>by rw[z];simp[updT,aG,aX]
 obtain⟨Q,nj⟩:∃Q:Nat->Nat->Prop,Q=fun t k=>if t=d then q i o k else if t=n then F n k/\¬q i o k else F t k:=⟨_,rfl⟩
 have fd:Q d=q i o:=by rw[nj];funext k;simp
 have fn:Q n=fun k=>F n k/\¬q i o k:=by rw[nj];funext k;simp[Ne.symm xj]
 have de:∀ {t},t≠d->t≠n->Q t=F t:=fun {t} aG aX=>by rw[nj];funext k;simp[aG,aX]
 have own:∀ {t A},tok' t=some (.live A)->∃m EM,tok m=some (.live EM)/\(∀k,Q t k->F m k)/\((t=d/\m=n)\/(t≠d/\m=t)):=fun {t A} h=>by
  by_cases a:t=d
  .subst a;exact⟨n,aa,C,fun k B=>by rw[fd]at B;exact(dy i o k B).1,.inl ⟨rfl,rfl⟩⟩
  .by_cases f:t=n
   .subst f;exact⟨t,aa,C,fun k B=>by rw[fn]at B;exact B.1,.inr ⟨a,rfl⟩⟩
   .rw [Z a f]at h
    exact⟨t,A,h,fun k B=>by rw[de a f]at B;exact B,.inr ⟨a,rfl⟩⟩
 have used:∀ {t},tok t≠none->t≠d/\tok' t≠none:=fun {t} h=>by
  have a:t≠d:=fun e=>h (e▸bd)
  refine⟨a,?_⟩
  by_cases f:t=n
  .rw [f,gw];simp
  .rw [Z a f];exact h
 have hle:hq ⟨w,S,fun k=>box k≠none,β,tok,τ⟩ ⟨w,S,fun k=>box k≠none,β,tok',fun t=>if t=d then u else τ t⟩:=fun t az=>by
  obtain⟨a,aG⟩:=used az
  refine⟨aG,fun b2 k2=>?_⟩
  have k2:tok' t=some (.live b2):=k2
  have Mt:(if t=d then u else τ t)=τ t:=aC a
  by_cases f:t=n
  .subst f
   rw[gw]at k2;cases k2
   exact⟨aa,C,Mt,rfl,fun h=>⟨h,rfl⟩⟩
  .rw [Z a f]at k2
   exact⟨b2,k2,Mt,rfl,fun h=>⟨h,rfl⟩⟩
 refine⟨b,_,cap,u,aQ,M,oC,Q,?_,by rw[<-z];exact hle⟩
 rw[<-z]
 have pU:=B.pU P
 refine⟨H.eD,H.cv,H.new,H.la,H.lt,fun k FA AR=>?_,H.j0,fun t A az=>?_,fun t dj A EM k aG aX f1 f2=>?_,fun t A k FA az AR cT=>?_,H.lK,fun t v A cV az=>?_,fun m I K i1 pV d1 L g fu Z7=>?_⟩
 .obtain ⟨aG,aX,qQ,YK⟩:=H.boxes k FA AR
  exact⟨aG,aX,qQ,YK.imp rfl fun x v bb=>⟨ff.mono (c:=⟨w,S,fun k=>box k≠none,β,tok,τ⟩) (c':=⟨w,S,fun k=>box k≠none,β,tok',fun t=>if t=d then u else τ t⟩) ⟨fun _ _ h=>h,fun _ _ _=>rfl⟩ (gn.refl rfl rfl) hle bb.1,bb.2⟩⟩
 .by_cases a:t=d
  .subst a
   rw[gU]at az;cases az
   rw[fd,ai rfl]
   exact .Dw j8 (fun U J=>B.1 U (dy i o U J).1) (fun U J=>pU U (dy i o U J).1) e
  .rw [aC a]
   by_cases f:t=n
   .subst f
    rw[gw]at az;cases az
    rw[fn]
    obtain⟨aG,aX,bD⟩:=B
    refine⟨fun U J=>aG U J.1,?_,?_⟩
    .rcases aX with aX|⟨a8,px,asa,Wc,W,cN,dO,iL,hc,pD,Gz,YE,YF⟩
     .exact .inl aX
     .have V:=W
      rw[aQ]at V
      have gf:b=a8:=by cases V;rfl
      refine .inr ⟨a8,px,asa,Wc,W,⟨cN,fun aai=>(dy i o a8 aai).2 gf.symm⟩,dO,iL,hc,pD,Gz,YE,fun i2 j ia p Hr cp=>?_⟩
      obtain⟨pa,cW,_,h5⟩:=YF i2 j ia p Hr cp
      exact⟨pa,cW,(fun h=>by cases h),h5⟩
    .unfold hE at bD⊢
     rw[P]at bD
     obtain⟨g1,g2,g3,_⟩:=bD
     refine⟨g1,g2,fun U J=>g3 U J.1,.inr ⟨b,cap,fun i2 O k=>q i2 O k/\¬(i2=i/\O=o),aQ,fun i2 O k B=>⟨⟨(dy i2 O k B.1).1,fun Hd=>B.2 (xi i2 O i o k B.1 Hd)⟩,(dy i2 O k B.1).2⟩,fun i2 O i3 sK k cN dO=>xi i2 O i3 sK k cN.1 dO.1,fun i2 O ia c2 Hr Zk=>?_⟩⟩
     obtain⟨pa,cW,cO,h5⟩:=oy i2 O ia c2 Hr Zk
     refine⟨pa,by rw[cell_of_row w b _ bT T (0,0) bU];exact cW,cO,fun X=>?_⟩
     have xr:¬(i2=i/\O=o):=fun⟨W,V⟩=>X.1 d (by rw[W,V];exact cb)
     exact(h5 (X.of fun _ h=>ch _ h)).mono fun k Hd=>⟨Hd,xr⟩
   .rw [Z a f]at az
    rw[de a f]
    exact H.bI t A az
 .obtain ⟨m1,KT,g1,g2,g3⟩:=own aG
  obtain⟨m2,arP,g4,g5,g6⟩:=own aX
  have em:=H.eM m1 m2 KT arP k g1 g4 (g2 k f1) (g5 k f2)
  rcases g3 with⟨a,f⟩|⟨a,f⟩<;>rcases g6 with⟨W,V⟩|⟨W,V⟩
  .rw [a,W]
  .exfalso
   have:dj=n:=by rw[<-V,<-em,f]
   rw[a,fd]at f1
   rw[this,fn]at f2
   exact f2.2 f1
  .exfalso
   have:t=n:=by rw[<-f,em,V]
   rw[W,fd]at f2
   rw[this,fn]at f1
   exact f1.2 f2
  .rw [<-f,<-V];exact em
 .obtain ⟨m1,KT,g1,g2,_⟩:=own az
  exact H.fq m1 KT k FA g1 AR (g2 _ cT)
 .by_cases a:t=d
  .subst a;rw[aaA]at cV;cases cV
  .rw [aC a]
   by_cases f:t=n
   .subst f;exact H.lp t v aa cV C
   .rw [Z a f]at az;exact H.lp t v A cV az
 .have cv:∀m I K,m≠d->tok m=some (.live I)->I.tr=some K->(i1,pV,d1)∈K->tok' d1≠none/\∀KO,tok' d1=some (.live KO)->∃b l cap,(if m=d then u else τ m)= .slice (some ⟨b,0,none⟩) l cap/\w.cell? ⟨b,i1*I.t.w+pV,none⟩=some (if d1=d then u else τ d1):=fun m I K Z0 aG aX bD=>by
   obtain⟨g1,g2⟩:=H.fR m I K i1 pV d1 aG aX bD Z7
   obtain⟨a,g3⟩:=used g1
   refine⟨g3,fun KO cN=>?_⟩
   rw[aC Z0,aC a]
   by_cases f:d1=n
   .exact g2 aa (f▸C)
   .rw [Z a f]at cN;exact g2 KO cN
  by_cases a:m=d
  .subst a
   rw[gU]at L;cases L
   exfalso
   simp only at g
   cases kB:r.ct with
   |true=>rw[kB]at g;cases g
   |false=>rw[kB]at g;cases g;cases fu
  .by_cases f:m=n
   .subst f
    rw[gw]at L;cases L
    simp only[iB]at g
    subst g
    rcases bn.1 fu with aG|aG
    .cases aG
     refine⟨by rw[gU];simp,fun _ _=>⟨b,_,cap,by rw[aC a];exact aQ,by rw[ai rfl];exact M⟩⟩
    .exact cv m aa Y a C P aG
   .rw [Z a f]at L
    exact cv m I K a L g fu
section
variable {E : Env} {o : Oper} {s : aY} {e : bP} {aM : dc}
theorem Dk (T:TypeId) (x:Operand) (j:o.op= .load T x) (ty:bt) (k:bQ E.P T ty) (b:ty.agg=false) (a:Act) (w:World) (i:Addr) (p:a.eval x= .pointer (some i)) (u:Value) (hu:w.cell? i=some u):(execOp a.eval o).run E.P w= .ok (.value u) w:=by
 obtain⟨d,f,g⟩:=k.desc
 simp only[execOp,j,Instr.loadAt,p,Instr.sureAddr,Sem.run_bind,Sem.run_pure,Result.andThen_ok]
 rw[Jp f (g.trans b) w _ u hu]
 rfl
theorem Gk {o:Nat}:∀ {a:List (Nat×Nat×Nat)} {i d:Nat},oq o a=some (i,d)->(i,o,d)∈a
 | [],_,_,h=>by cases h
 |(i1,b,d1)::a,i,d,h=>by
  simp only[oq]at h
  cases he:Nat.beq b o with
  |true=>
   rw[he]at h
   simp only[cond,iB,Prod.mk.injEq]at h
   obtain⟨rfl,rfl⟩:=h
   rw[zu he]
   exact cb
  |false=>
   rw[he]at h
   exact ch _ (Gk h)
theorem Ar {o:Nat}:∀ {b:List (Nat×Nat×Nat)},oq o b=none->∀i d,(i,o,d)∉b
 | [],_,i,d,a=>by cases a
 |(i1,f,d1)::b,h,i,d,a=>by
  simp only[oq]at h
  cases he:Nat.beq f o with
  |true=>rw[he]at h;cases h
  |false=>
   rw[he]at h
   rcases bn.1 a with aG|aG
   .cases aG;rw[Nat.beq_refl]at he;cases he
   .exact Ar h i d aG
theorem Ln {r:List (Nat×Nat×Nat)}:∀(m i q:Nat) (f:List au->bk) (aE rt:List Nat),(zO r i q m f).R s aE rt e aM->∃ds:List Nat,ds.length=m/\(∀(j d:Nat),ds[j]? =some d->(i,q+j,d)∈r/\d≠gone/\∃b,aH s.T d=some (.live b))/\∃a,(f (ds.map au.ay)).R s aE a e aM
 |0,i,q,f,aE,rt,h=>⟨[],rfl,(fun j d h=>by simp at h),rt,h⟩
 |m+1,i,q,f,aE,rt,h=>by
  unfold zO at h
  split at h
  case h_2=>exact h.elim
  rename_i z u g
  obtain⟨rfl,h⟩:=h
  split at h
  .exact h.elim
  rename_i y
  simp only[bk.R]at h
  split at h
  case h_2=>exact h.elim
  rename_i b k
  obtain⟨ds,aG,aX,a,bD⟩:=Ln m _ (q+1) _ _ _ h
  refine⟨u::ds,by simp[aG],fun j d p=>?_,a,bD⟩
  cases j with
  |zero=>simp at p;subst p;exact⟨Gk g,y,b,k⟩
  |succ j=>have:=aX j d (by simpa using p);rwa[show q+(j+1)=q+1+j from by omega]
theorem JU {i:Nat}:∀(a:List (Nat×Nat×Nat)) (f:bk) (aE rt:List Nat),(yH a i f).R s aE rt e aM->(∀k m,(k,m,gone)∈a->k<=i)/\f.R s aE rt e aM
 | [],f,aE,rt,h=>⟨(fun k m h=>by cases h),h⟩
 |y::a,f,aE,rt,h=>by
  unfold yH at h
  cases b:Nat.beq y.2.2 gone with
  |true=>
   rw[b]at h
   obtain⟨aG,h⟩:=h
   obtain⟨aX,bD⟩:=JU a f aE rt h
   refine⟨fun k m hm=>?_,bD⟩
   rcases bn.1 hm with e|hm
   .subst e;exact aG
   .exact aX k m hm
  |false=>
   rw[b]at h
   obtain⟨aX,bD⟩:=JU a f aE rt h
   refine⟨fun k m hm=>?_,bD⟩
   rcases bn.1 hm with e|hm
   .subst e;rw[Nat.beq_refl]at b;cases b
   .exact aX k m hm
theorem Lr {c:Ctx} {τ:Nat->Value}:∀ds:List Nat,(∀d,d∈ds->ed c (.ay d) (τ d))->bx (ed c) (ds.map au.ay) (ds.map τ)
 | [],_=>True.intro
 |d::ds,h=>⟨h d cb,Lr ds fun x a=>h x (ch _ a)⟩
theorem arc (cd:eG E) (T:TypeId) (x:Operand) (cC:o.op= .load T x) (ty:bt) (n i q:Nat) (aa:Tok) (O:List (Nat×Nat×Nat)) (hI:E.ty T=some ty) (bb:s.aQ x= .fx n i q) (g:aH s.T n=some (.live aa)) (J:aa.tr=some O)
  (h:(Dj E o.dst ty n i q aa O).R s [] [n] e aM):cX E o s e:=by
 have dJ:=cd.ty T ty hI
 unfold Dj at h
 split at h
 .rename_i f
  obtain⟨ds,bK,bd,Kw,h⟩:=Ln _ _ _ _ _ _ h
  cases da h
  refine o6 fun R β τ F S a w L p=>?_
  have aG:=p x;rw[bb]at aG
  obtain⟨g1,g2,g3⟩:=qd aG
  obtain⟨b,l,cap,C,ck,P⟩:=g3 aa g
  refine yy (c:=s.ctx w S β τ) T x cC ty dJ a w b (i*aa.t.w+q) P (ds.map au.ay) (ds.map τ) (Lr ds fun d hm=>?_) (fun j v bV=>?_) _ (.inl ⟨f,by simp[bK],rfl⟩)
  .obtain ⟨j,bV⟩:=tP.1 hm
   obtain⟨_,_,V,z⟩:=bd j d bV
   have bF:=(L.bI d V z).cell
   exact⟨jW ⟨bF,by show aH s.T d≠none;rw[z];simp,fun _ _=>rfl⟩,bF⟩
  .rw [iC]at bV
   obtain⟨d,mC,rfl⟩:=hT.1 bV
   obtain⟨hm,hd,V,z⟩:=bd j d mC
   obtain⟨_,cO⟩:=L.fR n aa O i (q+j) d g J hm hd
   obtain⟨bz,mJ,H,U,M⟩:=cO V z
   rw[show(s.ctx w S β τ).τ n=τ n from rfl,U]at C
   cases C
   rw[mY]
   exact M
 rename_i f
 have f:ty.agg=false:=by simpa using f
 have hv:=JU _ _ _ _ h
 clear h
 obtain⟨W,h⟩:=hv
 obtain⟨y,hy,h⟩:=h
 have hi:i<aa.xs.length:=(dB.1 hy).1
 simp only at h
 split at h
 .rename_i r X A
  split at h
  .rename_i eO a1 I
   obtain⟨rfl,h⟩:=h
   split at h
   .exact h.elim
   rename_i AX
   simp only[bk.R]at h
   split at h
   case h_2=>exact h.elim
   rename_i V z
   cases da h
   refine o6 fun R β τ F S a w L p=>?_
   have aG:=p x;rw[bb]at aG
   obtain⟨g1,g2,g3⟩:=qd aG
   obtain⟨b,l,cap,C,ck,P⟩:=g3 aa g
   obtain⟨cW,cO⟩:=L.fR n aa O eO q a1 g J (Gk I) AX
   obtain⟨bz,mJ,H,U,M⟩:=cO V z
   rw[show(s.ctx w S β τ).τ n=τ n from rfl,U]at C
   cases C
   refine⟨τ a1,Dk T x cC ty dJ f a w _ P _ M,?_⟩
   refine⟨?_,cW,fun _ _=>rfl⟩
   exact(L.bI a1 V z).cell
  .rename_i I
   split at h
   case h_2=>exact h.elim
   rename_i d dn Kn asB my sr
   simp only[bk.R]at h
   split at h
   case h_2=>exact h.elim
   rename_i bd
   split at h
   .exact h.elim
   rename_i Y
   obtain⟨rfl,_⟩:=h
   rintro R a w e3 ⟨β,τ,F,S,L,bj,gA,Z⟩ K Q dP
   have p:=hZ Z
   have aG:=p x;rw[bb]at aG
   obtain⟨g1,g2,g3⟩:=qd aG
   obtain⟨b,l,cap,C,ck,P⟩:=g3 aa g
   obtain⟨bz,mJ,H,u,U,M,lP,zz,je,hle⟩:=L.split n aa O g J i q y hy r X A ⟨Ar I i,fun k hm=>W k gone hm⟩ d bd (e3.gw (by simpa using Y)) dn
   rw[show(s.ctx w S β τ).τ n=τ n from rfl,U]at C
   cases C
   have jf:=Dk (E:=E) T x cC ty dJ f a w _ P u M
   refine jO jf (dP _ _ (ki (e:=⟨.ay d,[],[(n,some (.live {aa with tr:=some ((i,q,d)::O)})),(d,some (.live ⟨r,X,dn,true,true,bif r.ct then none else some []⟩))]⟩) je bj gA ?_ o.dst (.inr ?_)))
   .exact mK (c:=s.ctx w S β τ) (c':=⟨w,S,fun k=>aZ s.B k≠none,β,updT (updT (aH s.T) n (some (.live {aa with tr:=some ((i,q,d)::O)}))) d (some (.live ⟨r,X,dn,true,true,bif r.ct then none else some []⟩)),fun t=>if t=d then u else τ t⟩) ⟨fun _ _ h=>h,fun _ _ _=>rfl⟩ (gn.refl rfl rfl) hle Z
   .refine ⟨lP,?_,fun b2 _=>?_⟩
    .show updT _ d _ d≠none
     simp[updT]
    .show u=if d=d then u else τ d
     rw[ai rfl]
 .rename_i t X atl A
  split at h
  case isFalse=>exact h.elim
  rename_i mz
  split at h
  case h_2=>exact h.elim
  rename_i I
  cases da h
  refine o6 fun R β τ F S a w L p=>?_
  have aG:=p x;rw[bb]at aG
  obtain⟨g1,g2,g3⟩:=qd aG
  obtain⟨b,l,cap,C,ck,P⟩:=g3 aa g
  obtain⟨bz,H,bT,dd,tl,aQ,av,bU,bL,nq,hm,dy,xi,oy⟩:=(L.bI n aa g).J0 J hi
  rw[show(s.ctx w S β τ).τ n=τ n from rfl,aQ]at C
  cases C
  obtain⟨u,cW,cO,h5⟩:=oy i q y _ hy A
  have j8:=h5 ⟨Ar I i,fun k hm=>W k gone hm⟩
  refine⟨u,Dk T x cC ty dJ f a w _ P u (by rw[cell_of_row w b _ bT dd (0,0) bU];exact cW),?_⟩
  obtain⟨t0,kL,oV,U,M,lP⟩:=j8.rep (S:=fun _ _=>True) (fun _ _ _=>True.intro)
  cases U
  have bK:=j7 t X mz oV (by rw[M];simp)
  exact⟨oV,M,Jn lP bK⟩
 .exact h.elim
end
theorem Jv {a b:Nat} (h:Nat.blt a b=true):a<b:=Eq.mp Nat.blt_eq h
theorem LF {a b:Nat} (h:a<b):Nat.blt a b=true:=Eq.mpr Nat.blt_eq h
theorem Er :∀(t:aJ) (x:t.D) (o:Nat) (r:aJ) (ys:List r.D),ik t o=some (.ar r)->cellsOf t (setCell t x o r ys)=(cellsOf t x).set o (.af (.ar r) ys)
 | .pair a b,x,o,r,ys,h=>by
  simp only[ik]at h
  simp only[setCell,cellsOf]
  cases d:Nat.blt o a.w with
  |true=>
   rw[d]at h
   have f:o<a.w:=Jv d
   simp only[cond]at h⊢
   rw[Er a x.1 o r ys h,List.set_append_left _ _ (by rw[lN];exact f)]
  |false=>
   rw[d]at h
   have g:a.w<=o:=by
    rcases Nat.lt_or_ge o a.w with aG|aG
    .rw [LF aG]at d;cases d
    .exact aG
   simp only[cond]at h⊢
   rw[Er b x.2 (o-a.w) r ys h,List.set_append_right _ _ (by rw[lN];exact g),lN]
 | .ar i,x,o,r,ys,h=>by
  match o,h with
  |0,h=>
   simp only[ik,iB,aJ.ar.injEq]at h
   subst h
   simp only[setCell,cellsOf,List.set_cons_zero]
   rfl
  |o+1,h=>simp[ik]at h
 | .q,x,o,r,ys,h=>by
  match o,h with
  |0,h=>simp[ik]at h
  |1,h=>simp[ik]at h
  |2,h=>
   simp only[ik,iB,aJ.ar.injEq]at h
   subst h
   rfl
  |3,h=>simp[ik]at h
  |4,h=>simp[ik]at h
  |5,h=>
   simp only[ik,iB,aJ.ar.injEq]at h
   subst h
   rfl
  |o+6,h=>simp[ik]at h
 | .unit,_,_,_,_,h=>by simp[ik]at h
 | .bool,_,o,_,_,h=>by cases o<;>simp[ik]at h
 | .int _,_,o,_,_,h=>by cases o<;>simp[ik]at h
 | .str,_,o,_,_,h=>by cases o<;>simp[ik]at h
 | .opt _,_,o,_,_,h=>by cases o<;>simp[ik]at h
theorem arz (tok:Nat->Option bc) (d:Nat):eS tok [d]=updT tok d (some .ej):=by
 funext t
 simp only[eS,updT,du]
theorem Mem.oX {R:ec} {w:World} {S:b0} {box:Nat->Option cm} {tok:Nat->Option bc} {β:Nat->Nat} {τ:Nat->Value} {F:Nat->Nat->Prop} (P:Mem R box tok β τ F S w) (n:Nat) (aa:Tok) (i o d:Nat) (aU:List (Nat×Nat×Nat)) (I:tok n=some (.live aa)) (J:aa.tr=some ((i,o,d)::aU))
  (a:Tok) (z:tok d=some (.live a)) (sw:a.whole=true) (k7:a.wr=true) (Nl:a.deep=true) (mz:a.tr=none->a.t.ct=true) (Z:d≠n) (pE:ik aa.t o=some (.ar a.t)) (AX:d≠gone):
  ∃zz,Mem R box (updT (updT tok d (some .ej)) n (some (.live {aa with xs:=aa.xs.modify i fun y=>setCell aa.t y o a.t a.xs,tr:=some aU}))) β τ zz S w/\
   hq ⟨w,S,fun k=>box k≠none,β,tok,τ⟩ ⟨w,S,fun k=>box k≠none,β,updT (updT tok d (some .ej)) n (some (.live {aa with xs:=aa.xs.modify i fun y=>setCell aa.t y o a.t a.xs,tr:=some aU})),τ⟩:=by
 have bB:=P.bI n aa I
 obtain⟨H,Q,YQ,YR⟩:=(P.bI d a z).given sw k7 Nl mz
 have hwrn:=(bB.tree J).1
 obtain⟨K,g⟩:∃K:Tok,K={aa with xs:=aa.xs.modify i fun y=>setCell aa.t y o a.t a.xs,tr:=some aU}:=⟨_,rfl⟩
 have U:Step (fun _=>False) S S w w:=⟨hF.refl _ _,fun _ _ _=>rfl,fun _ _ h=>h,fun _ _ h=>.inl h,P.lt⟩
 have hlen:(aa.xs.modify i fun y=>setCell aa.t y o a.t a.xs).length=aa.xs.length:=by simp
 have YT:∀b,H b->R.dt b/\b<w.heap.size:=fun b V=>(P.bI d a z).1 b (Q b V)
 have iM:cn R.dt w S K (τ n) (fun b=>F n b\/H b):=by
  rw[g]
  refine⟨fun b V=>V.elim (bB.1 b) (YT b),?_,?_⟩
  .rcases bB.2.1 with⟨cB,ck⟩|⟨b,cap,bT,T,cB,aG,bU,bL,bj,hm,oA,aaJ,L⟩
   .exact .inl ⟨cB,by show aa.xs.modify i _=[];rw[ck];simp⟩
   .refine .inr ⟨b,cap,bT,T,by rw[hlen];exact cB,.inl aG,bU,bL,by rw[hlen];exact bj,hm,(fun h=>by rw[show aa.wr=true from hwrn]at h;cases h),aaJ,fun i2 j x p A cp=>?_⟩
    have M:i2<aa.xs.length:=by have:=(dB.1 A).1;simpa using this
    have bV:j<aa.t.w:=by have:=(dB.1 cp).1;rwa[et]at this
    obtain⟨u,cW,_⟩:=L i2 j aa.xs[i2] ((enc aa.t aa.xs[i2])[j]'(by rw[et];exact bV)) (bG M) (bG _)
    exact⟨u,cW,(fun h=>by cases h),fun h=>by rw[hwrn]at h;cases h⟩
  .have bD:=bB.2.2
   unfold hE at bD⊢
   rw[J]at bD
   obtain⟨g1,g2,g3,dJ⟩:=bD
   refine⟨g1,g2,fun b V=>V.elim (g3 b) (YQ b),?_⟩
   rcases dJ with dJ|⟨b,cap,q,dn,dy,bd,oy⟩
   .exact .inl dJ
   .have Zc:F n b:=bB.block dn
    have W:∀k,H k->¬F n k:=fun k aG aX=>Z (P.eM d n a aa k z I (Q k aG) aX)
    refine .inr ⟨b,cap,fun i2 f k=>if i2=i/\f=o then H k else q i2 f k,by rw[hlen];exact dn,fun i2 f k r=>?_,fun i2 f i3 sK k aG aX=>?_,fun i2 f x c A L=>?_⟩
    .simp only at r
     split at r
     .exact ⟨.inr r,fun e=>W k r (e▸Zc)⟩
     .exact ⟨.inl (dy i2 f k r).1,(dy i2 f k r).2⟩
    .simp only at aG aX
     split at aG<;>split at aX
     .rename_i bD cN;exact⟨bD.1.trans cN.1.symm,bD.2.trans cN.2.symm⟩
     .exact absurd (dy i3 sK k aX).1 (W k aG)
     .exact absurd (dy i2 f k aG).1 (W k aX)
     .exact bd i2 f i3 sK k aG aX
    .have M:i2<aa.xs.length:=by have:=(dB.1 A).1;simpa using this
     have bV:f<aa.t.w:=mq L
     obtain⟨c0,X⟩:=uq aa.xs[i2] bV
     obtain⟨u,cW,cO,h5⟩:=oy i2 f aa.xs[i2] c0 (bG M) X
     refine⟨u,cW,cO,fun O=>?_⟩
     rw[List.getElem?_modify,bG M]at A
     simp only[Option.map_eq_map,pe,iB]at A
     by_cases B:i2=i/\f=o
     .have sc:(fun k=>if i2=i/\f=o then H k else q i2 f k)=H:=by funext k;rw[ai B]
      show Deep w (fun k=>if i2=i/\f=o then H k else q i2 f k) u c
      rw[sc]
      obtain⟨cB,ck⟩:=B
      subst cB;subst ck
      rw[ai rfl]at A
      rw[<-A,Er aa.t _ f a.t a.xs pE,List.getElem?_set_self (by rw[lN];exact bV)]at L
      cases L
      obtain⟨a8,anM,px,dr,gP⟩:=(P.fR n aa _ i2 f d I J cb AX).2 a z
      rw[dn]at dr;cases dr
      rw[cW]at gP
      cases gP
      exact YR
     .have sc:(fun k=>if i2=i/\f=o then H k else q i2 f k)=q i2 f:=by funext k;rw[aC B]
      show Deep w (fun k=>if i2=i/\f=o then H k else q i2 f k) u c
      rw[sc]
      have Y:c=c0:=by
       by_cases Nx:i2=i
       .subst Nx
        rw[ai rfl]at A
        rw[<-A,Er aa.t _ o a.t a.xs pE,List.getElem?_set_ne (fun e=>B ⟨rfl,e.symm⟩),X]at L
        cases L;rfl
       .rw [aC (Ne.symm Nx)]at A
        rw[<-A,X]at L
        cases L;rfl
      rw[Y]
      refine h5 ⟨fun a1 C=>?_,fun k C=>?_⟩
      .rcases bn.1 C with aG|aG
       .cases aG;exact B ⟨rfl,rfl⟩
       .exact O.1 a1 aG
      .rcases bn.1 C with aG|aG
       .cases aG;exact absurd rfl AX
       .exact O.2 k aG
 obtain⟨aG,aX⟩:=P.turn n aa K I [d] (by simp[Ne.symm Z]) (fun _=>False) U (fun _ h=>h.elim) (fun b=>F n b\/H b) (fun b V=>V.imp id fun h=>⟨d,a,by simp,z,Q b h⟩) iM (by rw[g]) (fun h=>by rw[hwrn]at h;cases h)
  (fun mE eO ta a1 he C _=>by
   rw[g]at he
   simp only[iB]at he
   subst he
   exact⟨_,J,ch _ C,fun _ _ _ _=>rfl⟩)
 rw[arz,g]at aG aX
 exact⟨_,aG,aX⟩
theorem apl {R:ec} {s:aY} {a:Act} {w:World} (n:Nat) (h:Rel R s a w):Rel R {s with T:=vQ s.T n} a w:=by
 unfold vQ
 split
 case h_2=>exact h
 rename_i aa b
 split
 case h_2=>exact h
 rename_i i o d z f
 split
 case h_2=>exact h
 rename_i g j
 split
 case isFalse=>exact h
 rename_i A
 obtain⟨C,c2,c3,c4,c5,H,I⟩:=A
 obtain⟨β,τ,F,S,J,K,p,r⟩:=h
 obtain⟨L,u,hle⟩:=J.oX n aa i o d z b f g j C c2 c3 c4 c5 H I
 refine⟨β,τ,L,S,by simp only[nA];exact u,K,p,fun k=>?_⟩
 have:=bp.mono (c:=s.ctx w S β τ) (c':=⟨w,S,fun k=>aZ s.B k≠none,β,updT (updT (aH s.T) d (some .ej)) n (some (.live {aa with xs:=aa.xs.modify i fun y=>setCell aa.t y o g.t g.xs,tr:=some z})),τ⟩) ⟨fun _ _ h=>h,fun _ _ _=>rfl⟩ (gn.refl rfl rfl) hle (r k)
 unfold aY.ctx
 simp only[nA]
 exact this
theorem S3 {R:ec} {a:Act} {w:World}:∀(k:Nat) (eK:List Nat) (s:aY),Rel R s a w->Rel R {s with T:=Kc k eK s.T} a w
 |0,_,s,h=>h
 |k+1,eK,s,h=>by
  have key:∀(l:List Nat) (s:aY),Rel R s a w->Rel R {s with T:=l.foldl vQ s.T} a w:=fun l=>by
   induction l with
   |nil=>exact fun s h=>h
   |cons n l b=>exact fun s h=>b {s with T:=vQ s.T n} (apl n h)
  exact S3 k eK {s with T:=eK.foldl vQ s.T} (key eK s h)
theorem S2 {R:ec} {s:aY} {a:Act} {w:World} (h:Rel R s a w):Rel R {s with T:=DO s.T} a w:=by
 unfold DO
 cases s.T.any Oe with
 |true=>exact S3 8 _ s h
 |false=>exact h
section
variable {E : Env} {o : Oper} {s : aY} {e : bP} {aM : dc}
inductive zC (s:aY):au->au->List Nat->Prop
 |tok (t:Nat) (aa:Tok) (h:aH s.T t=some (.live aa)) (aG:aa.whole=true) (aX:aa.wr=true) (bD:aa.deep=true) (cN:aa.tr=none->aa.t.ct=true):zC s (.ay t) (.af (.ar aa.t) aa.xs) [t]
 |flat (t:aJ) (x:t.D) (h:t.ct=true):zC s (.af t x) (.af t x) []
 |nil:zC s .aT .aT []
inductive qv (s:aY):List au->List au->List Nat->Prop
 |nil:qv s [] [] []
 |cons {c c':au} {n:List Nat} {l mJ:List au} {eK:List Nat} (h:zC s c c' n) (bK:qv s l mJ eK) (bd:∀t,t∈n->t∉eK):qv s (c::l) (c'::mJ) (n++eK)
theorem Az :∀(l:List au) (f:List au->List (Nat×Option bc)->bk) (aE rt:List Nat),(uI l f).R s aE rt e aM->∃cs eK a,qv s l cs eK/\(f cs (eK.map fun t=>(t,some bc.ej))).R s aE a e aM
 | [],f,aE,rt,h=>⟨[],[],rt,.nil,h⟩
 |c::l,f,aE,rt,h=>by
  unfold uI at h
  split at h
  .rename_i t
   simp only[bk.R]at h
   split at h
   case h_2=>exact h.elim
   rename_i aa g
   split at h
   case isFalse=>exact h.elim
   rename_i j
   obtain⟨k,c2,c3,c4⟩:=j
   obtain⟨cs,eK,a,aG,aX⟩:=Az l _ _ _ h
   split at aX
   .exact aX.elim
   rename_i d
   refine⟨_,[t]++eK,a,.cons (.tok t aa g k c2 c3 c4) aG (fun i b=>?_),aX⟩
   simp only[du]at b
   subst b
   exact zQ (Bool.eq_false_iff.2 d)
  .rename_i t x
   split at h
   case isFalse=>exact h.elim
   rename_i p
   obtain⟨cs,eK,a,aG,aX⟩:=Az l _ _ _ h
   exact⟨_,[]++eK,a,.cons (.flat t x p) aG (fun i b=>by cases b),aX⟩
  .obtain ⟨cs,eK,a,aG,aX⟩:=Az l _ _ _ h
   exact⟨_,[]++eK,a,.cons .nil aG (fun i b=>by cases b),aX⟩
  .exact h.elim
theorem qv.len {l cs:List au} {eK:List Nat} (h:qv s l cs eK):cs.length=l.length:=by
 induction h with
 |nil=>rfl
 |cons h bK bd a=>simp[a]
theorem qv.mem {R:ec} {w:World} {S:b0} {β:Nat->Nat} {τ:Nat->Value} {F:Nat->Nat->Prop} (K:Mem R (aZ s.B) (aH s.T) β τ F S w) {l cs:List au} {eK:List Nat} (h:qv s l cs eK):∀(vals:List Value),bx (ed (s.ctx w S β τ)) l vals->
  ∃g:Nat->Nat->Prop,(∀k b,g k b->(∃t aa,t∈eK/\aH s.T t=some (.live aa)/\F t b)/\∀o,¬S b o)/\(∀k r b,g k b->g r b->k=r)/\∀(k:Nat) (c c':au) (v:Value),cs[k]? =some c->pj c c'->vals[k]? =some v->Deep w (g k) v c':=by
 induction h with
 |nil=>exact fun vals _=>⟨fun _ _=>False,fun _ _ h=>h.elim,fun _ _ _ h=>h.elim,fun k c c' v h=>by simp at h⟩
 | @cons c0 O n l mJ eK h bK bd P=>
  intro vals y
  match vals,y with
  |v0::vals,y=>
  obtain⟨g,L,Q,U⟩:=P vals y.2
  obtain⟨G,aG,aX⟩:∃G:Nat->Prop,(∀b,G b->(∃t aa,t∈n/\aH s.T t=some (.live aa)/\F t b)/\∀o,¬S b o)/\∀c',pj O c'->Deep w G v0 c':=by
   cases h with
   |tok t aa h aG aX bD cN=>
    obtain⟨G,g1,g2,g3⟩:=(K.bI t aa h).given aG aX bD cN
    refine⟨G,fun b d=>⟨⟨t,aa,by simp,h,g1 b d⟩,g2 b d⟩,fun c' u=>?_⟩
    obtain⟨t0,M,f,rfl⟩:=u
    simp only[au.as]at f
    split at f
    .rename_i H
     subst H
     cases f
     have:v0=τ t:=(kn (hb y.1.1)).2.2 aa h
     rw[this];exact g3
    .cases f
   |flat t x h=>
    refine⟨fun _=>False,fun _ h=>h.elim,fun c' u=>?_⟩
    obtain⟨t0,M,f,rfl⟩:=u
    simp only[au.as]at f
    split at f
    .rename_i H
     subst H
     cases f
     obtain⟨p,he,V⟩:=zn (hb y.1.1)
     have bK:=j7 _ _ h p (by rw[he];simp)
     exact .lit _ _ _ _ p he bK (o5 V bK)
    .cases f
   |nil=>
    refine⟨fun _=>False,fun _ h=>h.elim,fun c' u=>?_⟩
    obtain⟨t0,M,f,rfl⟩:=u
    cases t0 with
    |ar X=>
     cases f
     have e:v0= .slice none 0 0:=y.1.1
     rw[e]
     exact .nil _ _
    |_=>cases f
  refine⟨fun k=>match k with|0=>G|k+1=>g k,fun k b d=>?_,fun k r b d a=>?_,fun k c c' v z u i=>?_⟩
  .match k,d with
   |0,d=>
    obtain⟨⟨t,aa,f,A,C⟩,I⟩:=aG b d
    exact⟨⟨t,aa,fc _ f,A,C⟩,I⟩
   |k+1,d=>
    obtain⟨⟨t,aa,f,A,C⟩,I⟩:=L k b d
    exact⟨⟨t,aa,lv _ f,A,C⟩,I⟩
  .have j:∀k b,G b->g k b->False:=fun k b d a=>by
    obtain⟨⟨t,aa,f,A,C⟩,_⟩:=aG b d
    obtain⟨⟨W,J,f1,f2,f3⟩,_⟩:=L k b a
    have:=K.eM t W aa J b A f2 C f3
    subst this
    exact bd t f f1
   match k,r,d,a with
   |0,0,_,_=>rfl
   |0,r+1,d,a=>exact(j r b d a).elim
   |k+1,0,d,a=>exact(j k b a d).elim
   |k+1,r+1,d,a=>rw[Q k r b d a]
  .match k,z,i with
   |0,z,i=>
    simp at z i
    subst z;subst i
    exact aX c' u
   |k+1,z,i=>exact U k c c' v (by simpa using z) u (by simpa using i)
theorem F1 {i q size:Nat}:∀(g:List (Nat×Nat×Nat)) (f:List (Nat×Nat×Nat)->bk) (aE rt:List Nat),(w2 i q size g f).R s aE rt e aM->∃b,(f b).R s aE rt e aM/\(∀x,x∈b->x∈g/\¬(q<=x.2.1/\x.2.1<q+size))/\∀x,x∈g->x∈b\/(x.1=i/\q<=x.2.1/\x.2.1<q+size)
 | [],f,aE,rt,h=>⟨[],h,(fun x a=>by cases a),(fun x a=>by cases a)⟩
 |y::g,f,aE,rt,h=>by
  simp only[w2]at h
  cases d:(Nat.ble q y.2.1&&Nat.blt y.2.1 (q+size))with
  |true=>
   rw[d]at h
   simp only[a6]at d
   have ew:=Nat.le_of_ble_eq_true d.1
   have a8:=Jv d.2
   obtain⟨hi,h⟩:=h
   obtain⟨b,aG,aX,bD⟩:=F1 g f aE rt h
   refine⟨b,aG,fun x a=>⟨ch _ (aX x a).1,(aX x a).2⟩,fun x a=>?_⟩
   rcases bn.1 a with rfl|a
   .exact .inr ⟨hi,ew,a8⟩
   .exact bD x a
  |false=>
   rw[d]at h
   obtain⟨b,aG,aX,bD⟩:=F1 g _ aE rt h
   refine⟨y::b,aG,fun x a=>?_,fun x a=>?_⟩
   .rcases bn.1 a with rfl|a
    .refine ⟨cb,fun⟨j,c2⟩=>?_⟩
     rw[Bool.and_eq_false_iff]at d
     rcases d with d|d
     .rw [Nat.ble_eq_true_of_le j]at d;cases d
     .rw [LF c2]at d;cases d
    .exact ⟨ch _ (aX x a).1,(aX x a).2⟩
   .rcases bn.1 a with rfl|a
    .exact .inl cb
    .exact (bD x a).imp (ch _) id
end
section
variable {E : Env} {o : Oper} {s : aY} {e : bP} {aM : dc}
theorem Ww {t:aJ} {x:t.D} {c:au} (h:pj (.af t x) c):c= .af t x:=by
 obtain⟨a,b,aG,rfl⟩:=h
 simp only[au.as]at aG
 split at aG
 .rename_i e;subst e;cases aG;rfl
 .cases aG
theorem W5 {t:aJ} (x:t.D) {j:Nat} {c:au} (h:(cellsOf t x)[j]? =some c):∃a b,c= .af a b:=by
 obtain⟨p,_,a,b,aG,_⟩:=(lM t x).get j c h
 exact⟨a,b,aG⟩
theorem ark (cd:eG E) (T:TypeId) (x y:Operand) (cC:o.op= .store T x y) (ty:bt) (n i q:Nat) (aa:Tok) (aU:List (Nat×Nat×Nat)) (ys:List au) (hI:E.ty T=some ty) (bb:s.aQ x= .fx n i q) (nr:aH s.T n=some (.live aa)) (L:aa.tr=some aU) (hy:(s.aQ y).cells? =some ys) (bj:ys.length=ty.size) (my:o.dst=none)
  (h:(Ez n i q ty.size ys aa aU).R s [] [n] e aM):cX E o s e:=by
 unfold Ez at h
 split at h
 case isFalse=>exact h.elim
 rename_i xw
 obtain⟨xw,ato,ZG⟩:=xw
 obtain⟨cs,eK,Kw,qU,h⟩:=Az ys _ _ _ h
 split at h
 .exact h.elim
 rename_i Y8
 have NR:n∉eK:=zQ (Bool.eq_false_iff.2 Y8)
 obtain⟨mE,h,ZF,xk⟩:=F1 aU _ _ _ h
 obtain⟨cv,hold,h⟩:=h
 simp only at h
 split at h
 case h_2=>exact h.elim
 rename_i hD qY
 obtain⟨rfl,_⟩:=h
 rintro R a w e3 ⟨β,τ,F,S,dI,hf,gA,gh⟩ K Q dP
 have fQ:=hZ gh
 have h:=fQ x
 rw[bb]at h
 obtain⟨rZ,ats,asF,aQ,uR,cp⟩:=(qd h).2.2 aa nr
 rw[show(s.ctx w S β τ).τ n=τ n from rfl]at aQ
 have bF:=ur hy (fQ y)
 have I:=dI.bI n aa nr
 have hwrn:=(I.tree L).1
 have Zm:=(I.tree L).2
 have Z:i<aa.xs.length:=(dB.1 hold).1
 obtain⟨b,cap,bT,dd,tl,qM,hx,bU,bL,nq,hm,dy,xi,oy⟩:=I.J0 L Z
 have XX:b=rZ:=by rw[qM]at aQ;cases aQ;rfl
 subst XX
 obtain⟨wc,z,hi,G6,_⟩:=(cd.ty T ty hI).info
 have bK:=bF.len
 have sq:(a.eval y).cells.toList.length=ty.size:=by rw[<-bK,bj]
 have Ze:i*aa.t.w+aa.t.w<=aa.xs.length*aa.t.w:=by
  have:(i+1)*aa.t.w<=aa.xs.length*aa.t.w:=ek _ Z
  rwa[eE,Nat.one_mul]at this
 have aaN:aa.xs.length*aa.t.w<=bT.size:=by rw[bL];exact ek _ nq
 have su:∀v∈(a.eval y).cells.toList,v.oneCell'=true:=fun v cV=>by
  obtain⟨j,bV,rfl⟩:=eb.1 cV
  exact(bF.get' j (ys[j]'(by omega)) _ (by simp) (by simp)).2
 have xy:=run_storeCells_at E.P b (i*aa.t.w+q) dd (a.eval y).cells.toList 0 bT w bU (by omega) su
 obtain⟨r,ns⟩:∃r:Array Value,r=(bT.toList.take (i*aa.t.w+q)++(a.eval y).cells.toList++bT.toList.drop (i*aa.t.w+q+(a.eval y).cells.toList.length)).toArray:=⟨_,rfl⟩
 have cG:(execOp a.eval o).run E.P w= .ok .skip (w.setRow b r):=by
  have nu:(a.eval y).cells.size=wc.size:=by rw[G6,<-bj,bK];simp
  simp only[lC]at xy
  simp only[execOp,cC,Instr.storeAt,cp,Instr.sureAddr,storeVar,sizeOf,typeInfo,hi,Sem.run_bind,Sem.run_pure,Result.andThen_ok,run_program]
  simp[hi,nu,xy,ns]
 have nt:r.toList=bT.toList.take (i*aa.t.w+q)++(a.eval y).cells.toList++bT.toList.drop (i*aa.t.w+q+(a.eval y).cells.toList.length):=by rw[ns]
 have mA:∀k,r[k]? =if i*aa.t.w+q<=k/\k<i*aa.t.w+q+ty.size then(a.eval y).cells.toList[k-(i*aa.t.w+q)]? else bT[k]? :=fun k=>by
  rw[<-jQ,nt,tx _ _ _ (by rw[sq,lz];omega),sq]
  simp
 have qZ:r.size=bT.size:=by
  rw[<-lz,nt]
  simp only[bh,bN,eF,sq,lz]
  omega
 have A:∀k,k≠b->(w.setRow b r).heap[k]? =w.heap[k]? :=fun k I=>setRow_other w b k _ I
 have kC:(w.setRow b r).heap.size=w.heap.size:=by simp[World.setRow]
 have GP:∀a8 oR,S a8 oR->(w.setRow b r).cell? ⟨a8,oR,none⟩=w.cell? ⟨a8,oR,none⟩:=fun a8 oR C=>World.cell?_of_block (w:=w) (A a8 (fun e=>I.pU L b hx oR (e▸C)))
 have pG:Step (fun k=>k=b) S S w (w.setRow b r):=⟨⟨rfl,rfl,rfl,by rw[kC];exact bE _,fun k _ I=>A k I⟩,GP,fun _ _ h=>h,fun _ _ h=>.inl h,fun a8 oR h=>by rw[kC];exact dI.lt a8 oR h⟩
 have H:(w.setRow b r).heap[b]? =some (.cells r dd (0,0)):=setRow_heap w b bT _ dd (0,0) bU
 obtain⟨g,A1,Zw,Zx⟩:=qU.mem dI _ bF
 have G0:∀k a8,g k a8->¬F n a8:=fun k a8 C cT=>by
  obtain⟨⟨t,wg,cB,U,dr⟩,_⟩:=A1 k a8 C
  have:=dI.eM t n wg aa a8 U nr dr cT
  exact NR (this▸cB)
 have Nt:∀k a8,g k a8->a8≠b:=fun k a8 C e=>G0 k a8 C (e▸hx)
 have M:cs.length=ty.size:=by rw[qU.len,bj]
 have NY:=JA aa.t _ hD qY
 have div:∀i2 f,f<aa.t.w->((i*aa.t.w+q<=i2*aa.t.w+f/\i2*aa.t.w+f<i*aa.t.w+q+ty.size)↔(i2=i/\q<=f/\f<q+ty.size)):=fun i2 f bV=>by
  constructor
  .rintro ⟨aG,aX⟩
   rcases pd i2 i with gr|he|gr
   .have:(i2+1)*aa.t.w<=i*aa.t.w:=ek _ gr
    rw[eE]at this;omega
   .subst he;omega
   .have:(i+1)*aa.t.w<=i2*aa.t.w:=ek _ gr
    rw[eE]at this;omega
  .rintro ⟨rfl,aG,aX⟩;omega
 have hlen:(aa.xs.set i hD).length=aa.xs.length:=by simp
 obtain⟨V,O⟩:∃V:Tok,V={aa with xs:=aa.xs.set i hD,tr:=some mE}:=⟨_,rfl⟩
 have W2:∀(i2 f:Nat) (ia:aa.t.D) (c:au),(aa.xs.set i hD)[i2]? =some ia->(cellsOf aa.t ia)[f]? =some c->(i2=i/\q<=f/\f<q+ty.size/\∃c0,cs[f-q]? =some c0/\pj c0 c)\/(¬(i2=i/\q<=f/\f<q+ty.size)/\∃kL,aa.xs[i2]? =some kL/\(cellsOf aa.t kL)[f]? =some c):=fun i2 f ia c J W=>by
  have bV:f<aa.t.w:=mq W
  by_cases he:i2=i
  .subst he
   rw[List.getElem?_set_self Z]at J
   cases J
   have G7:((cellsOf aa.t cv).take q++cs++(cellsOf aa.t cv).drop (q+ty.size)).length=(cellsOf aa.t hD).length:=NY.len
   have np:f<((cellsOf aa.t cv).take q++cs++(cellsOf aa.t cv).drop (q+ty.size)).length:=by rw[G7,lN];exact bV
   obtain⟨La,Ba⟩:∃La,((cellsOf aa.t cv).take q++cs++(cellsOf aa.t cv).drop (q+ty.size))[f]? =some La:=⟨_,bG np⟩
   have has:=NY.get' f _ c Ba W
   have X:=tx (cellsOf aa.t cv) cs q (by rw[lN,M];exact xw) f
   rw[M,Ba]at X
   by_cases qV:q<=f/\f<q+ty.size
   .rw [ai qV]at X
    exact .inl ⟨rfl,qV.1,qV.2,La,X.symm,has⟩
   .rw [aC qV]at X
    obtain⟨t0,kL,uA⟩:=W5 cv X.symm
    subst uA
    rw[Ww has]
    exact .inr ⟨fun h=>qV ⟨h.2.1,h.2.2⟩,cv,hold,X.symm⟩
  .rw [List.getElem?_set_ne (Ne.symm he)]at J
   exact .inr ⟨fun h=>he h.1,ia,J,W⟩
 have YS:∀a8,(F n a8\/ ∃k,g k a8)->R.dt a8/\a8<w.heap.size:=fun a8 C=>by
  rcases C with C|⟨k,C⟩
  .exact I.1 a8 C
  .obtain ⟨⟨t,wg,cB,U,dr⟩,_⟩:=A1 k a8 C
   exact(dI.bI t wg U).1 a8 dr
 have iM:cn R.dt (w.setRow b r) S V (τ n) (fun a8=>F n a8\/ ∃k,g k a8):=by
  rw[O]
  refine⟨fun a8 C=>by rw[kC];exact YS a8 C,.inr ⟨b,cap,r,dd,by rw[hlen];exact qM,.inl hx,H,by rw[qZ];exact bL,by rw[hlen];exact nq,hm,(fun h=>by rw[show aa.wr=true from hwrn]at h;cases h),fun _=>I.pU L b hx,fun i2 j ia p J cp=>?_⟩,?_⟩
  .have uQ:i2<aa.xs.length:=by have:=(dB.1 J).1;simpa using this
   have bV:j<aa.t.w:=by have:=(dB.1 cp).1;rwa[et]at this
   have gr:i2*aa.t.w+j<r.size:=by
    rw[qZ]
    have:(i2+1)*aa.t.w<=aa.xs.length*aa.t.w:=ek _ uQ
    rw[eE]at this;omega
   exact⟨_,E3 gr,(fun h=>by cases h),fun h=>by rw[show aa.wr=true from hwrn]at h;cases h⟩
  .unfold hE
   simp only
   refine⟨hwrn,Zm,fun a8 C=>?_,?_⟩
   .rcases C with C|⟨k,C⟩
    .exact I.pU L a8 C
    .exact (A1 k a8 C).2
   .refine .inr ⟨b,cap,fun i2 f a8=>if i2=i/\q<=f/\f<q+ty.size then g (f-q) a8 else tl i2 f a8,by rw[hlen];exact qM,fun i2 f a8 Y=>?_,fun i2 f i3 sK a8 aG aX=>?_,fun i2 f ia c J W=>?_⟩
    .simp only at Y
     split at Y
     .exact ⟨.inr ⟨_,Y⟩,Nt _ _ Y⟩
     .exact ⟨.inl (dy i2 f a8 Y).1,(dy i2 f a8 Y).2⟩
    .simp only at aG aX
     split at aG<;>split at aX
     .rename_i bD cN
      have:=Zw _ _ _ aG aX
      exact⟨bD.1.trans cN.1.symm,by omega⟩
     .exact absurd (dy i3 sK a8 aX).1 (G0 _ _ aG)
     .exact absurd (dy i2 f a8 aG).1 (G0 _ _ aX)
     .exact xi i2 f i3 sK a8 aG aX
    .have bV:f<aa.t.w:=mq W
     have Np:=div i2 f bV
     rcases W2 i2 f ia c J W with⟨cB,U,dr,c0,gP,gf⟩|⟨xu,kL,cB,U⟩
     .have xl:f-q<(a.eval y).cells.toList.length:=by rw[sq];omega
      have cV:=bG xl
      have j8:=Zx (f-q) c0 c _ gP gf cV
      have Ho:r[i2*aa.t.w+f]? =some (a.eval y).cells.toList[f-q]:=by
       rw[mA,ai (Np.2 ⟨cB,U,dr⟩),<-cV]
       subst cB
       congr 1;omega
      refine⟨_,by rw[cell_of_row _ b _ r dd (0,0) H];exact Ho,j8.one,fun _=>?_⟩
      have sc:(fun a8=>if i2=i/\q<=f/\f<q+ty.size then g (f-q) a8 else tl i2 f a8)=g (f-q):=by funext k;rw[ai ⟨cB,U,dr⟩]
      show Deep _ (fun a8=>if i2=i/\q<=f/\f<q+ty.size then g (f-q) a8 else tl i2 f a8) _ c
      rw[sc]
      exact j8.same fun k I=>A k (Nt _ _ I)
     .obtain ⟨u,cW,cO,h5⟩:=oy i2 f kL c cB U
      have Ho:r[i2*aa.t.w+f]? =some u:=by
       rw[mA,aC (fun h=>xu (Np.1 h))];exact cW
      refine⟨u,by rw[cell_of_row _ b _ r dd (0,0) H];exact Ho,cO,fun NS=>?_⟩
      have sc:(fun a8=>if i2=i/\q<=f/\f<q+ty.size then g (f-q) a8 else tl i2 f a8)=tl i2 f:=by funext k;rw[aC xu]
      show Deep _ (fun a8=>if i2=i/\q<=f/\f<q+ty.size then g (f-q) a8 else tl i2 f a8) _ c
      rw[sc]
      refine(h5 ⟨fun d fu=>?_,fun k fu=>?_⟩).same fun k I=>A k (dy i2 f k I).2
      .rcases xk (i2,f,d) fu with aG|aG
       .exact NS.1 d aG
       .exact xu aG
      .rcases xk (k,gone,gone) fu with aG|aG
       .exact NS.2 k aG
       .have aX:gone<q+ty.size:=aG.2.2
        omega
 obtain⟨aG,aX⟩:=dI.turn n aa V nr eK NR (fun k=>k=b) pG (fun k I=>I▸hx) (fun a8=>F n a8\/ ∃k,g k a8) (fun a8 C=>C.imp id fun⟨k,C⟩=>by
   obtain⟨⟨t,wg,cB,U,dr⟩,_⟩:=A1 k a8 C
   exact⟨t,wg,cB,U,dr⟩) iM (by rw[O]) (fun h=>by rw[hwrn]at h;cases h)
  (fun sv eO ta a1 he fu _=>by
   rw[O]at he
   simp only[iB]at he
   subst he
   obtain⟨cW,cO⟩:=ZF _ fu
   refine⟨aU,L,cW,fun a8 anM px U=>?_⟩
   rw[qM]at U;cases U
   rw[cell_of_row _ b _ r dd (0,0) H,cell_of_row w b _ bT dd (0,0) bU,mA,aC ?_]
   rintro⟨g1,g2⟩
   have bV:ta<aa.t.w:=Jv (cz.1 ZG _ cW)
   exact cO ((div eO ta bV).1 ⟨g1,g2⟩).2)
 have hu:(⟨.bR [],[],(eK.map fun t=>(t,some bc.ej))++ [(n,some (.live {aa with xs:=aa.xs.set i hD,tr:=some mE}))]⟩:bP).updT (aH s.T)=updT (eS (aH s.T) eK) n (some (.live V)):=by
  rw[O]
  simp only[bP.updT,hW,Ex,eZ,List.foldl_nil]
 refine K5 cG (dP _ _ (ki (s:=s) (e:=⟨.bR [],[],(eK.map fun t=>(t,some bc.ej))++ [(n,some (.live {aa with xs:=aa.xs.set i hD,tr:=some mE}))]⟩) (by rw[hu];exact aG) hf gA ?_ o.dst (.inl my)))
 rw[hu]
 exact mK (c:=s.ctx w S β τ) (c':=⟨w.setRow b r,S,fun k=>aZ s.B k≠none,β,updT (eS (aH s.T) eK) n (some (.live V)),τ⟩) ⟨fun _ _ h=>h,GP⟩ (gn.refl rfl rfl) aX gh
theorem K9 {c:Ctx} {w:World} {F:Nat->Prop}:∀(l mJ:List au) (b:List Value),zeroDeep l=true->bx pj l mJ->bx (ed c) l b->bx (fun x v=>Deep w F v x) mJ b
 | [],[],[],_,_,_=>True.intro
 |x::l,g::mJ,v::b,h,f,d=>by
  have key:zeroDeep l=true/\Deep w F v g:=by
   obtain⟨t0,r,a,i⟩:=f.1
   subst i
   cases x with
   |af t y=>
    simp only[zeroDeep,a6]at h
    refine⟨h.2,?_⟩
    simp only[au.as]at a
    split at a
    .rename_i j
     subst j
     cases a
     obtain⟨p,he,k⟩:=zn (hb d.1.1)
     have bK:=j7 _ _ h.1 p (by rw[he];simp)
     exact .lit _ _ _ _ p he bK (o5 k bK)
    .cases a
   |aT=>
    refine⟨h,?_⟩
    cases t0 with
    |ar u=>
     cases a
     have e:v= .slice none 0 0:=d.1.1
     rw[e]
     exact .nil _ _
    |_=>cases a
   |_=>cases h
  exact⟨key.2,K9 l mJ b key.1 f.2 d.2⟩
 | [],_::_,_,_,h,_=>h.elim
 |_::_,[],_,_,h,_=>h.elim
 | [],[],_::_,_,_,h=>h.elim
 |_::_,_::_,[],_,_,h=>h.elim
theorem arf (cd:eG E) (T:TypeId) (l c:Operand) (cC:o.op= .makeSlice T l c) (h:(cK E o.op o.dst s.aQ).R s [] [] e aM):cX E o s e:=by
 rw[cC]at h
 simp only[cK]at h
 split at h
 case h_2=>exact h.elim
 rename_i d ty my hI
 have dJ:=cd.ty T ty hI
 split at h
 case h_2=>exact h.elim
 rename_i M r ku he
 split at h
 case h_2=>exact h.elim
 rename_i EG Hk
 have Y3:=cd.ty M EG Hk
 split at h
 case h_2=>exact h.elim
 rename_i z bL
 split at h
 case isFalse=>exact h.elim
 rename_i W
 obtain⟨aaR,Hv⟩:=W
 obtain⟨Jb,n,ZZ,h⟩:=zq h
 obtain⟨Db,m,GQ,h⟩:=zq h
 obtain⟨⟨Z9,Z3,xr,atm⟩,h⟩:=h
 subst Z9
 simp only[bk.R]at h
 split at h
 .exact h.elim
 rename_i bd
 split at h
 .exact h.elim
 rename_i mD
 obtain⟨hu,qX,fG,O,ka,hf,nm,N2,jB⟩:=dJ.elem _ _ _ he
 obtain⟨aaZ,z2,U,aay,xC,aaS,nk⟩:=Y3.info
 rw[ka]at U;cases U
 rw[N2]at xC;cases xC
 obtain⟨N,ow⟩:∃N:Nat,n=(N:Int):=⟨n.toNat,(qj Z3).symm⟩
 subst ow
 simp only[eg]at h
 have fin:∀(wr:Bool) (aa:Tok),aa.t=r->(pI:HEq aa.xs (List.replicate N z))->aa.wr=wr->aa.whole=true->
   (∀(R:ec) (w w':World) (S S':b0),S'=vZ wr S w.heap.size (N*r.w)->(∀b o,S b o->b<w.heap.size)->R.dt w.heap.size->w'.heap.size=w.heap.size+1->(∃J dd,w'.heap[w.heap.size]? =some (.cells J dd (0,0))/\J.size=N*r.w/\∀i j,i<N->j<r.w->∀c',(cellsOf r z)[j]? =some c'->∃u,J[i*r.w+j]? =some u/\Deep w' (fun _=>False) u c')->cn R.dt w' S' aa (.slice (some ⟨w.heap.size,0,none⟩) N N) (fun b=>b=w.heap.size))->
   e=⟨nG d aa,[],[(d,some (.live aa))]⟩->cX E o s e:=fun wr aa az pI hw sw bB he=>by
  subst he
  rintro R a w e3 ⟨β,τ,F,S,X,bj,gA,gh⟩ K Q dP
  have fQ:=hZ gh
  have bK:a.eval l= .int Jb (N:Int):=lr (ZZ▸fQ l)
  have B:a.eval c= .int Db (N:Int):=lr (GQ▸fQ c)
  have g:=run_make (P:=E.P) w T M fG O hu ka N2 Jb Db (N:Int) (N:Int) (by omega) (ic _) (by rw[nm,Int.mul_comm];omega) (by omega)
  simp only[eg,hf]at g
  obtain⟨w',L⟩:∃w',w'=w.alloc (.cells (madeCells O.cells (N*r.w)) M):=⟨_,rfl⟩
  rw[<-L]at g
  have jf:(execOp a.eval o).run E.P w= .ok (.value (.slice (some ⟨w.heap.size,0,none⟩) N N)) w':=by
   simp only[execOp,cC,bK,B,Sem.run_bind,g,Result.andThen_ok,Sem.run_pure]
  have V:Below w.heap.size w w':=by rw[L];exact(Below.refl _ _).alloc (bE _) _
  have xt:w'.heap[w.heap.size]? =some (.cells (madeCells O.cells (N*r.w)) M (0,0)):=by rw[L];exact heap_alloc_new w _
  have C:w'.heap.size=w.heap.size+1:=by rw[L];simp
  obtain⟨S',f⟩:∃S':b0,S'=vZ wr S w.heap.size (N*r.w):=⟨_,rfl⟩
  have uM:∀b q,S b q->S' b q:=fun b q h=>by rw[f];exact .inl h
  have GK:∀b q,S' b q->S b q\/w.heap.size<=b:=fun b q h=>by
   rw[f]at h
   rcases h with h|⟨_,rfl,_⟩
   .exact .inl h
   .exact .inr (bE _)
  have GJ:∀b q,S' b q->b<w'.heap.size:=fun b q h=>by
   rw[f]at h
   rcases h with h|⟨_,rfl,_⟩
   .have:=X.lt b q h;omega
   .omega
  have im:=(X.drop (tok':=eS (aH s.T) []) (fun t az=>o7 az) (fun t aa h=>(jo h).2)).grow V uM GK GJ
  have Ba:=K9 (w:=w') (F:=fun _=>False) EG.zero (cellsOf r z) O.cells.toList Hv (JA r _ z bL) (nk (s.ctx w S β τ))
  have iM:=bB R w w' S S' f X.lt (.inl X.size) C ⟨_,M,xt,size_madeCells _ _,fun i j hi bV c' Zj=>by
   obtain⟨u,oC,pH⟩:=Ba.get j c' Zj
   refine⟨u,?_,pH⟩
   have H:i*r.w+j<N*r.w:=by
    have:(i+1)*r.w<=N*r.w:=ek _ hi
    rw[eE]at this;omega
   have xq:(i*r.w+j)%O.cells.size=j:=by
    rw[jB,lB,Nat.mul_add_mod]
    exact Nat.mod_eq_of_lt bV
   have NM:j<O.cells.size:=by rw[jB];exact bV
   have aaD:O.cells[j]=u:=by
    rw[jQ,E3 NM]at oC
    exact Option.some.inj oC
   simp only[madeCells,Array.getElem?_map,Array.getElem?_range,H,if_true,pe,xq,getElem!_pos O.cells j NM,aaD]⟩
  exact jO jf (dP _ _ (rC (s:=s) [] im bj gA gh (fun _ _ _ _ _=>⟨uM,fun b q y=>(r0 V).1 b q (X.lt b q y)⟩) d bd (e3.gw (by simpa using mD)) aa _ _ iM sw
   (fun t b2 b k6 az j9 cT=>by have:=((X.bI t b2 az).1 _ cT).2;omega) (fun k b bB j9=>by have:=X.blt bB;omega) o.dst (by simp) _ rfl))
 have Y:N<=maxLen:=by simp only[maxLen];omega
 split at h
 ·
  rename_i k7
  obtain⟨rfl,_⟩:=h
  refine fin true ⟨r,List.replicate N z,M,true,true,bif r.ct then none else some []⟩ rfl HEq.rfl rfl (by unfold Tok.whole;cases r.ct<;>rfl) (fun R w w' S S' f H Z C cV=>?_) (by simp[nG])
  obtain⟨J,dd,aG,aX,bD⟩:=cV
  have df:∀q,¬S' w.heap.size q:=fun q y=>by
   rw[f]at y
   rcases y with y|⟨y,_⟩
   .have:=H _ _ y;omega
   .cases y
  refine .Dw ?_ (fun b V=>by subst V;exact⟨Z,by omega⟩) (fun b V=>by subst V;exact df) M
  have:=Deep.ar (w:=w') (fun b=>b=w.heap.size) N r (List.replicate N z) (fun i j=>(J[i*r.w+j]?).getD undef) w.heap.size (fun _ _ _=>False) J dd rfl aG aX (by simp) Y (fun i j x c A B=>?_) (fun _ _ _ h=>h.elim) (fun _ _ _ _ _ h=>h.elim) (fun i j x c A B=>?_)
  .rwa [zv]at this
  all_goals
   obtain⟨hi,I⟩:i<N/\x=z:=by
    rw[List.getElem?_replicate]at A
    split at A
    .exact ⟨‹_›,(Option.some.inj A).symm⟩
    .cases A
   rw[I]at B
   obtain⟨u,cW,cO⟩:=bD i j hi (mq B) c B
   simp only[cW,mW]
  exact cO
 .rename_i k7
  obtain⟨rfl,_⟩:=h
  refine fin false ⟨r,List.replicate N z,M,false,true,none⟩ rfl HEq.rfl rfl rfl (fun R w w' S S' f H Z C cV=>?_) (by simp[nG])
  obtain⟨J,dd,aG,aX,bD⟩:=cV
  have get:∀ {i:Nat} {x:r.D},(List.replicate N z)[i]? =some x->i<N/\x=z:=fun {i x} A=>by
   rw[List.getElem?_replicate]at A
   split at A
   .exact ⟨‹_›,(Option.some.inj A).symm⟩
   .cases A
  refine⟨fun b V=>by subst V;exact⟨Z,by omega⟩,.inr ⟨w.heap.size,N,J,dd,by simp,rfl,aG,aX,by simp,Y,fun _ q y=>?_,(fun h=>by cases h),fun i j x p A cp=>?_⟩,?_⟩
  .rw [f]at y
   simp only[zv]
   rcases y with y|⟨_,_,y⟩
   .have:=H _ _ y;omega
   .exact y
  .obtain ⟨hi,I⟩:=get A
   rw[I]at cp
   have bV:j<r.w:=by have:=(dB.1 cp).1;rwa[et]at this
   obtain⟨c,B⟩:=uq z bV
   obtain⟨u,cW,cO⟩:=bD i j hi bV c B
   obtain⟨t0,kL,oV,cB,ck,dr⟩:=cO.rep (S:=S') (fun _ _ h=>h.elim)
   obtain⟨t1,qf,gP,gf⟩:=(lM r z).get' j c p B cp
   rw[cB]at gP;cases gP
   rw[ck]at gf;cases gf
   refine⟨u,cW,fun _=>dr,fun _=>?_⟩
   rw[f]
   refine .inr ⟨rfl,rfl,?_⟩
   have:(i+1)*r.w<=N*r.w:=ek _ hi
   rw[eE]at this
   show i*r.w+j<N*r.w
   omega
  .show (true=true->Deep w' _ _ (.af (.ar r) (List.replicate N z)))
   intro _
   have:=Deep.ar (w:=w') (fun b=>b=w.heap.size) N r (List.replicate N z) (fun i j=>(J[i*r.w+j]?).getD undef) w.heap.size (fun _ _ _=>False) J dd rfl aG aX (by simp) Y (fun i j x c A B=>?_) (fun _ _ _ h=>h.elim) (fun _ _ _ _ _ h=>h.elim) (fun i j x c A B=>?_)
   .rwa [zv]at this
   all_goals
    obtain⟨hi,I⟩:=get A
    rw[I]at B
    obtain⟨u,cW,cO⟩:=bD i j hi (mq B) c B
    simp only[cW,mW]
   exact cO
end
theorem WA (x y:ByteArray):(x==y)=(x.data==y.data):=by cases x;cases y;rfl
theorem aqE {P:Program} {K:TypeId} {a:aJ} (b:Dc P K a):∃d,P.underlying K=some d/\(∀x:a.D,MapKept.IsKey d (iu a x))/\∀x y:a.D,Instr.sameNow d (iu a x) (iu a y)=some (a.h2 x y):=by
 cases a with
 |int k=>exact⟨_,b,fun x=>rfl,fun x y=>by show(if k=k then some (x==y)else none)=some (decide (x=y));rw[ai rfl];exact congrArg some (w1 x y)⟩
 |str=>exact⟨_,b,fun x=>True.intro,fun x y=>by
   show some (bytes x==bytes y)=some (decide (x=y))
   refine congrArg some ?_
   rw[WA]
   by_cases e:x=y
   .subst e;rw[aq rfl];simp
   .rw [an e]
    cases f:((bytes x).data==(bytes y).data)with
    |false=>rfl
    |true=>
     have h:=eq_of_beq f
     have:bytes x=bytes y:=by cases g:bytes x;cases hy:bytes y;rw[g,hy]at h;simpa using h
     exact absurd (bytes_inj.1 this) e⟩
 |_=>exact b.elim
def vB (a b:aJ) (x:a.D):List (a.D×b.D)->Nat->Option (Nat×b.D)
 | [],_=>none
 |e::l,i=>bif a.h2 x e.1 then some (i,e.2)else vB a b x l (i+1)
theorem So (a b:aJ) (x:a.D):∀(es:List (a.D×b.D)) (i:Nat),ea a b es x=(vB a b x es i).map (·.2)
 | [],i=>rfl
 |e::l,i=>by
  have d:=So a b x l (i+1)
  unfold ea at d⊢
  unfold vB
  rw[n0]
  cases a.h2 x e.1 with
  |true=>rfl
  |false=>exact d
section
variable {E : Env} {o : Oper} {s : aY} {e : bP} {aM : dc}
theorem an4 {c:Ctx} {x:au} {v:Value} {t:aJ} {y:t.D} (b:x.as t=some y) (h:bp c x v) {z:t.D} (az:E7 t=some z):v=iu t y/\enc t y=[match enc t y with| [p]=>p|_=>.bool false]/\∀p,enc t y=[p]->p.isLit=true:=by
 obtain⟨p,aG,aX⟩:=nc b h
 have bK:p.isLit=true:=by
  cases t with
  |bool=>cases aG;rfl
  |int _=>cases aG;rfl
  |str=>cases aG;rfl
  |_=>cases az
 refine⟨?_,by rw[aG],fun q a=>by rw[aG]at a;cases a;exact bK⟩
 unfold iu
 rw[aG]
 exact o5 aX bK
theorem an5 {P:Program} {K:TypeId} {a:aJ} (b:Dc P K a):∃z,E7 a=some z:=by
 cases a with
 |int _=>exact⟨_,rfl⟩
 |str=>exact⟨_,rfl⟩
 |_=>exact b.elim
end
section
variable {E : Env} {o : Oper} {s : aY} {e : bP} {aM : dc}
theorem Su {d:Nat} {r:aJ} {xs:List r.D} {a:TypeId} {es:List (Nat×Option bc)} {aE rt:List Nat} (h:(vE E d r xs a es).R s aE rt e aM):
  aH s.T d=none/\(∀y,y∈es->y.1≠d)/\E.res d=false/\E.wr d=true/\r.ct=false/\e=⟨nG d ⟨r,xs,a,true,true,some []⟩,[],es++ [(d,some (.live ⟨r,xs,a,true,true,some []⟩))]⟩:=by
 unfold vE at h
 simp only[bk.R]at h
 split at h
 .exact h.elim
 .rename_i bd
  split at h
  .exact h.elim
  .rename_i b
   simp only[lu,not_or,Bool.not_eq_true]at b
   split at h
   case isFalse=>exact h.elim
   rename_i hw
   refine⟨bd,fun y hy e=>?_,b.2,hw.1,hw.2,h.1⟩
   have:=qg.1 b.1 y hy
   simp[e]at this
theorem aon {w:World} {S:b0} (X:Nat->Prop) (a:∀b o,S b o->b<w.heap.size) (β:Nat->Nat) (τ:Nat->Value) (F:Nat->Nat->Prop):
  Mem ⟨w,X,S,fun _=>none,fun _=>none⟩ (fun _=>none) (fun _=>none) β τ F S w where
 eD:=hF.refl _ _
 cv:=fun _ _ h=>h
 new:=fun _ _ h=>.inl h
 la:=fun _ _ _=>rfl
 lt:=a
 boxes:=fun _ _ h=>by cases h
 j0:=fun _ _ _ _ h=>by cases h
 bI:=fun _ _ h=>by cases h
 eM:=fun _ _ _ _ _ h=>by cases h
 fq:=fun _ _ _ _ h=>by cases h
 lK:=fun _ _ h=>by cases h
 lp:=fun _ _ _ h=>by cases h
 fR:=fun _ _ _ _ _ _ h=>by cases h
theorem aqT (cd:eG E) (c:Call) (cC:o.op= .call c) (bF:c.callee= .builtin .append) (d:Nat) (x y:Operand) (T:TypeId) (ty:bt) (J:TypeId) (r:aJ) (U t:Nat) (aa:Tok)
  (my:o.dst=some d) (bb:c.args.toList=[x,y]) (dJ:c.argTypes.toList=[T,T]) (hI:E.ty T=some ty) (he:ty.elem=some (J,r,U)) (xA:s.aQ x= .ay t) (i:aH s.T t=some (.live aa)) (qL:aa.t=r/\aa.tr=some []) (XY:aa.e=J)
  (h:(zT E d J r U t (qL.1▸aa.xs) (s.aQ y)).R s [] [t] e aM):cX E o s e:=by
 obtain⟨qL,V⟩:=qL
 subst qL
 unfold zT at h
 split at h
 case h_2=>exact h.elim
 rename_i n hy
 simp only[bk.R]at h
 split at h
 case h_2=>exact h.elim
 rename_i u g
 split at h
 case isFalse=>exact h.elim
 rename_i ck
 obtain⟨ck,C⟩:=ck
 split at h
 .exact h.elim
 rename_i H
 have H:n≠t:=by simpa using H
 obtain⟨⟨L,uJ⟩,h⟩:=h
 obtain⟨bd,uP,mD,k7,mz,rfl⟩:=Su h
 rintro R a w e3 ⟨β,τ,F,S,j,bj,gA,gh⟩ K Q dP
 have fQ:=hZ gh
 obtain⟨hu,qX,fG,z,ka,hf,nm,bL,jB⟩:=(cd.ty T ty hI).elem _ _ _ he
 have kZ:c.args= #[x,y]:=by apply Array.ext';simpa using bb
 have qJ:c.argTypes= #[T,T]:=by apply Array.ext';simpa using dJ
 have aG:=fQ x;rw[xA]at aG
 have aX:=fQ y;rw[hy]at aX
 have tI:a.eval x=τ t:=(kn aG).2.2 aa i
 have EV:a.eval y=τ n:=(kn aX).2.2 u g
 have M:=j.bI t aa i
 have A:=j.bI n u g
 have ev:aa.whole=true:=by unfold Tok.whole;rw[V]
 have VE:u.whole=true:=by unfold Tok.whole;rw[C]
 have d1:=(M.tree V).2
 have d2:=(A.tree C).2
 have VY:=A.FP C
 obtain⟨ga,im,GH,cW⟩:=j.Av t aa i ev
 obtain⟨zH,uK,GI,cO⟩:=im.Av n u (by simp only[updT,aC H];exact g) VE
 have anv:=uK.bI t aa.jz (by simp only[updT,aC (Ne.symm H),if_true])
 obtain⟨X,mx⟩:∃X:Nat->Prop,X=fun b=>F t b\/F n b:=⟨_,rfl⟩
 have AY:∀b,F n b->¬F t b:=fun b g1 g2=>H (j.eM n t u aa b g i g1 g2)
 obtain⟨t2,W,as2,atT,asY,atK⟩:=u
 simp only at ck C d2
 subst ck
 subst C
 subst d2
 have f:cn (ec.dt ⟨w,X,zH,fun _=>none,fun _=>none⟩) w zH ⟨aa.t,aa.xs,J,false,true,none⟩ (τ t) (F t):=by
  have:=anv.dt (Fr':=ec.dt ⟨w,X,zH,fun _=>none,fun _=>none⟩) (fun b f=>.inr (by rw[mx];exact .inl f))
  have dr:aa.jz=⟨aa.t,aa.xs,J,false,true,none⟩:=by unfold Tok.jz;rw[<-XY,<-d1]
  rw[dr]at this
  exact this
 obtain⟨fr,w',S',jf,Y,hle,iM⟩:=Lx (P:=E.P) (aon (S:=zH) X uK.lt β τ F) T o.type J fG z aa.t U hu ka bL hf nm jB qX (τ t) (τ n) aa.xs W false true true (F t) (F n) f (iD.yF cO rfl) (fun _=>.inr ⟨VY,AY⟩)
  (fun b f=>⟨.inr (by rw[mx];exact .inr f),(A.1 b f).2⟩) (fun _ _ _ h=>by cases h) (fun _ _ h=>by cases h) L uJ
 have cG:(execOp a.eval o).run E.P w= .ok (.value fr) w':=by
  simp only[execOp,cC,resolve,bF,invoke,builtin,Sem.run_bind,Sem.run_pure,Result.andThen_ok,kZ,qJ,List.map_toArray,cw,qn,tI,EV,jf]
 have VZ:=iM.oi rfl rfl
 have I:Step X S S w w':=by
  have O:∀b o,S b o->w'.cell? ⟨b,o,none⟩=w.cell? ⟨b,o,none⟩:=fun b o f=>Y.la b o (GI b o (GH b o f))
  exact⟨Y.eD,O,fun _ _ h=>h,fun _ _ h=>.inl h,fun b o f=>mc (j.lt b o f) Y.size⟩
 have GG:=(j.drop (tok':=eS (aH s.T) [t,n]) (fun t az=>o7 az) (fun t aa h=>(jo h).2)).step I
  (fun k p=>by rw[mx]at p;rcases p with p|p;exact(M.1 k p).1;exact(A.1 k p).1)
  (fun k b p f=>by rw[mx]at f;rcases f with f|f;exact j.fq t aa k b i p f;exact j.fq n _ k b g p f)
  (fun Z B h4 k p f=>by
   obtain⟨g1,g2⟩:=jo h4
   rw[mx]at f
   rcases f with f|f
   .exact g1 (by rw[j.eM Z t B aa k g2 i p f];simp)
   .exact g1 (by rw[j.eM Z n B _ k g2 g p f];simp))
 have xt:∀b,w.heap.size<=b->R.dt b:=fun b f=>.inl (dS j.size f)
 have Y1:cn R.dt w' S ⟨aa.t,aa.xs++W,J,true,true,some []⟩ fr (fun b=>(F t b\/F n b\/w.heap.size<=b)/\b<w'.heap.size):=by
  have:=cn.Dw (Fr:=R.dt) (S:=S) VZ (fun b f=>⟨by rcases f.1 with h|h|h;exact(M.1 b h).1;exact(A.1 b h).1;exact xt b h,f.2⟩) (fun b f o df=>by
   rcases f.1 with h|h|h
   .exact M.pU V b h o df
   .exact A.pU rfl b h o df
   .have:=j.lt b o df;omega) J
  rw[mz]at this
  exact this
 refine jO cG (dP _ _ (rC (s:=s) [t,n] GG bj gA gh (fun live tok' Jo wB wC=>⟨fun _ _ h=>h,I.cell⟩) d bd (e3.gw mD) ⟨aa.t,aa.xs++W,J,true,true,some []⟩ fr _ Y1 rfl (fun Z B b k6 az f cT=>?_) (fun k b p f=>?_) o.dst (fun fu=>?_) _ rfl))
 .rcases f.1 with h|h|h
  .exact k6 (by rw[j.eM Z t B aa b az i cT h];simp)
  .exact k6 (by rw[j.eM Z n B _ b az g cT h];simp)
  .have:=((j.bI Z B az).1 b cT).2;omega
 .rcases f.1 with h|h|h
  .exact j.fq t aa k b i p h
  .exact j.fq n _ k b g p h
  .have:=j.blt p;omega
 .simp only [bn,List.not_mem_nil,or_false]at fu
  rcases fu with rfl|rfl
  .rw [i]at bd;cases bd
  .rw [g]at bd;cases bd
theorem VU {y:au}:∀ {l:List au},zeroDeep l=true->y∈l->zeroDeep [y]=true
 | [],_,h=>by cases h
 |x::l,a,h=>by
  have key:zeroDeep [x]=true/\zeroDeep l=true:=by
   cases x with
   |af t y=>simp only[zeroDeep,a6,and_true]at a⊢;exact a
   |aT=>simp only[zeroDeep]at a⊢;exact⟨trivial,a⟩
   |_=>cases a
  rcases bn.1 h with rfl|h
  .exact key.1
  .exact VU key.2 h
theorem aqX (cd:eG E) (T:TypeId) (len:Nat) (parts:Array (Nat×Operand)) (cC:o.op= .buildSlice T len parts) (d:Nat) (ty:bt) (A:TypeId) (r:aJ) (ku:Nat) (cs:List au) (xs:List r.D)
  (my:o.dst=some d) (hI:E.ty T=some ty) (he:ty.elem=some (A,r,ku)) (AV:rv r.w 0 (parts.toList.map fun q=>(q.1,s.aQ q.2))=some cs) (pI:rm r len cs=some xs) (hlen:len=parts.toList.length) (B:len*r.w<=16777216) (Hv:zeroDeep cs=true)
  (h:(vE E d r xs A []).R s [] [] e aM):cX E o s e:=by
 have dJ:=cd.ty T ty hI
 obtain⟨bd,_,O,k7,mz,rfl⟩:=Su h
 rintro R a w e3 ⟨β,τ,F,S,J,bj,gA,U⟩ K Q dP
 have fQ:=hZ U
 obtain⟨hu,H,fG,z,ka,hf,nm,bL,jB⟩:=dJ.elem _ _ _ he
 obtain⟨lk,mM,tg,th⟩:=J4 fQ r.w parts.toList 0 cs AV
 obtain⟨V,Hs⟩:=JB r len cs xs pI
 obtain⟨vals,f⟩:∃vals,vals=parts.toList.map fun q=>a.eval q.2:=⟨_,rfl⟩
 have Hp:vals.length=len:=by rw[f,hlen];simp
 have g:=TS (P:=E.P) w T A (parts.toList.map fun q=>(q.1,a.eval q.2)) len r.w fG z hu ka bL hf jB H B vals (by rw[lk,<-f]) Hp (by rw[f];exact mM)
 obtain⟨us,W⟩:∃us,us=(vals.map fun v=>v.cells.toList).flatten:=⟨_,rfl⟩
 have X:bx (ed (s.ctx w S β τ)) cs us:=by
  rw[W,f,mb];exact tg
 have A7:us.length=len*r.w:=by rw[<-X.len,th,<-hlen]
 rw[<-W]at g
 have I:(execOp a.eval o).run E.P w= .ok (.value (.slice (some ⟨w.heap.size,0,none⟩) len len)) (w.alloc (.cells us.toArray A)):=by
  have F8:(parts.map fun(i,x)=>(i,a.eval x))=(parts.toList.map fun q=>(q.1,a.eval q.2)).toArray:=by apply Array.ext';simp
  simp only[execOp,cC,Sem.run_bind,F8,g,Result.andThen_ok,Sem.run_pure]
 obtain⟨w',C⟩:∃w',w'=w.alloc (.cells us.toArray A):=⟨_,rfl⟩
 rw[<-C]at I
 have L:Below w.heap.size w w':=by rw[C];exact(Below.refl _ _).alloc (bE _) _
 have Y:w'.heap[w.heap.size]? =some (.cells us.toArray A (0,0)):=by rw[C];exact heap_alloc_new w _
 have aax:w'.heap.size=w.heap.size+1:=by rw[C];simp
 have im:=(J.drop (tok':=eS (aH s.T) []) (fun t az=>o7 az) (fun t aa h=>(jo h).2)).grow L (fun _ _ h=>h) (fun _ _ h=>.inl h) (fun b q dy=>by have:=J.lt b q dy;omega)
 have A5:len<=maxLen:=by
  have:len<=len*r.w:=Nat.le_mul_of_pos_right _ H
  simp only[maxLen];omega
 have p:∀(i j:Nat) (x:r.D) (c:au),xs[i]? =some x->(cellsOf r x)[j]? =some c->∃u,us[i*r.w+j]? =some u/\Deep w' (fun _=>False) u c:=fun i j x c Z M=>by
  have bV:j<r.w:=mq M
  have cJ:=Hs i x Z
  have Nd:=cJ.len
  rw[lN]at Nd
  obtain⟨y,hy⟩:∃y,((cs.drop (i*r.w)).take r.w)[j]? =some y:=⟨_,bG (by rw[Nd];exact bV)⟩
  have xB:=cJ.get' j y c hy M
  rw[hU,ai bV,hV]at hy
  obtain⟨u,oC,pH⟩:=X.get _ _ hy
  exact⟨u,oC,(K9 [y] [c] [u] (VU Hv (fY hy)) ⟨xB,True.intro⟩ ⟨pH,True.intro⟩).1⟩
 have j8:Deep w' (fun b=>b=w.heap.size) (.slice (some ⟨w.heap.size,0,none⟩) len len) (.af (.ar r) xs):=by
  have:=Deep.ar (w:=w') (fun b=>b=w.heap.size) len r xs (fun i j=>(us[i*r.w+j]?).getD undef) w.heap.size (fun _ _ _=>False) us.toArray A rfl Y (by simpa using A7) (by rw[V];exact bE _) A5
   (fun i j x c Z M=>?_) (fun _ _ _ h=>h.elim) (fun _ _ _ _ _ h=>h.elim) (fun i j x c Z M=>?_)
  .rwa [V]at this
  .obtain ⟨u,aG,_⟩:=p i j x c Z M
   simp only[List.getElem?_toArray,aG,mW]
  .obtain ⟨u,aG,aX⟩:=p i j x c Z M
   simp only[aG,mW]
   exact aX
 have iM:cn R.dt w' S ⟨r,xs,A,true,true,some []⟩ (.slice (some ⟨w.heap.size,0,none⟩) len len) (fun b=>b=w.heap.size):=by
  have:=cn.Dw (Fr:=R.dt) (S:=S) j8 (fun b L=>by subst L;exact⟨.inl J.size,by omega⟩) (fun b L o df=>by subst L;have:=J.lt _ o df;omega) A
  rw[mz]at this
  exact this
 exact jO I (dP _ _ (rC (s:=s) [] im bj gA U (fun _ _ _ _ _=>⟨fun _ _ h=>h,fun b q dy=>(r0 L).1 b q (J.lt b q dy)⟩) d bd (e3.gw O) ⟨r,xs,A,true,true,some []⟩ _ _ iM rfl
  (fun t b2 b k6 az j9 cT=>by have:=((J.bI t b2 az).1 _ cT).2;omega) (fun k b bB j9=>by have:=J.blt bB;omega) o.dst (by simp) _ rfl))
theorem Mem.iz {R:ec} {w:World} {S:b0} {box:Nat->Option cm} {tok:Nat->Option bc} {β:Nat->Nat} {τ:Nat->Value} {F:Nat->Nat->Prop} (L:Mem R box tok β τ F S w) (n:Nat) (aa:Tok) (B:tok n=some (.live aa)) (f:aa.tr=some []):
  ∃S',Mem R box (updT tok n (some (.live aa.iz))) β τ F S' w/\(∀b o,S b o->S' b o):=by
 have z:=L.bI n aa B
 have M:=z.pU f
 obtain⟨hw,_⟩:=z.tree f
 obtain⟨X,O,g⟩:=z
 obtain⟨S',a⟩:∃S':b0,S'=fun b o=>S b o\/(F n b/\∀l cap,τ n≠ .slice (some ⟨b,0,none⟩) l cap):=⟨_,rfl⟩
 have C:∀b o,S b o->S' b o:=fun b o h=>by rw[a];exact .inl h
 have y:Step (fun b=>F n b) S S' w w:=⟨hF.refl _ _,fun _ _ _=>rfl,C,fun b o h=>by
  rw[a]at h
  rcases h with h|h
  .exact .inl h
  .exact .inr (.inr h.1),fun b o h=>by
  rw[a]at h
  rcases h with h|h
  .exact L.lt b o h
  .exact (X b h.1).2⟩
 have P:cn R.dt w S' aa.iz (τ n) (F n):=by
  refine⟨X,?_,(fun h=>by cases h)⟩
  rcases O with⟨d,J⟩|⟨b,cap,Q,T,d,aG,Y,bL,bj,hm,oA,k7,bF⟩
  .exact .inl ⟨d,J⟩
  .refine .inr ⟨b,cap,Q,T,d,aG,Y,bL,bj,hm,(fun h=>by have h:aa.wr=false:=h;rw[hw]at h;cases h),fun _ o A=>?_,fun i j x p Z U=>?_⟩
   .rw [a]at A
    rcases A with A|A
    .exact M b aG o A
    .exact A.2 _ _ d
   .obtain ⟨u,K,_⟩:=bF i j x p Z U
    have bV:j<aa.t.w:=by have:=(dB.1 U).1;rwa[et]at this
    refine⟨u,K,fun _=>?_,fun h=>by have h:aa.wr=false:=h;rw[hw]at h;cases h⟩
    unfold hE at g
    rw[f]at g
    obtain⟨_,_,YP,V⟩:=g
    rcases V with V|⟨bz,H,q,dn,dy,bd,W⟩
    .rw [V]at d;cases d
    .rw [dn]at d;cases d
     obtain⟨c,I⟩:=uq (r:=aa.t) x bV
     obtain⟨zm,g1,g2,g3⟩:=W i j x c Z I
     rw[cell_of_row w b _ Q T (0,0) Y]at g1
     have K:Q[i*aa.t.w+j]? =some u:=K
     rw[K]at g1
     cases g1
     obtain⟨t0,kL,oV,cN,dO,iL⟩:=(g3 (jU.nil _ _)).rep (S:=S') (fun k o z=>by
      rw[a]
      refine .inr ⟨(dy i j k z).1,fun l H J=>?_⟩
      rw[dn]at J;cases J
      exact absurd rfl (dy i j b z).2)
     obtain⟨t1,qf,hc,pD⟩:=(lM aa.t x).get' j c p I U
     rw[hc]at cN;cases cN
     rw[pD]at dO;cases dO
     exact iL
 exact⟨S',L.Es n aa aa.iz B _ y (fun _ h=>h) P rfl (fun h=>by rw[hw]at h;cases h) rfl,C⟩
theorem arl (y:au) (k:Nat) (J:cX E o s ⟨y,[],[]⟩) (h:(EL y).R s [k] [] e aM):cX E o s e:=by
 unfold EL at h
 split at h
 case h_2=>exact h.elim
 rename_i n
 simp only[bk.R]at h
 split at h
 case h_2=>exact h.elim
 rename_i aa j
 split at h
 case isFalse=>exact h.elim
 rename_i d
 obtain⟨rfl,_⟩:=h
 intro R a w p f K Q M
 refine J R a w p f K Q fun O w' aG=>M O w' ?_
 obtain⟨β,τ,F,S,A,P,r,U⟩:=aG
 have C:aH (s.app o.dst ⟨.ay n,[],[(n,some (.live aa.iz))]⟩).T=updT (aH (s.app o.dst ⟨.ay n,[],[]⟩).T) n (some (.live aa.iz)):=by
  rw[ob,ob];rfl
 have H:(s.app o.dst ⟨.ay n,[],[(n,some (.live aa.iz))]⟩).L=(s.app o.dst ⟨.ay n,[],[]⟩).L:=by cases o.dst<;>rfl
 have I:(s.app o.dst ⟨.ay n,[],[(n,some (.live aa.iz))]⟩).B=(s.app o.dst ⟨.ay n,[],[]⟩).B:=by cases o.dst<;>rfl
 have b:aH (s.app o.dst ⟨.ay n,[],[]⟩).T n=some (.live aa):=by rw[ob];exact j
 obtain⟨hw,_⟩:=(A.bI n aa b).tree d
 obtain⟨S',u,z⟩:=A.iz n aa b d
 refine⟨β,τ,F,S',by rw[I,C];exact u,by rw[H];exact P,r,fun i=>?_⟩
 rw[H]
 unfold aY.ctx
 rw[I,C]
 exact bp.mono (c:=(s.app o.dst ⟨.ay n,[],[]⟩).ctx w' S β τ) (c':=⟨w',S',fun k=>aZ (s.app o.dst ⟨.ay n,[],[]⟩).B k≠none,β,updT (aH (s.app o.dst ⟨.ay n,[],[]⟩).T) n (some (.live aa.iz)),τ⟩) ⟨z,fun _ _ _=>rfl⟩ (gn.refl rfl rfl) (fun t az=>by
  by_cases e:t=n
  .subst e
   refine⟨by simp[updT],fun g h=>?_⟩
   simp only[updT,if_true,iB,bc.live.injEq]at h
   subst h
   exact⟨aa,b,rfl,rfl,fun h=>by rw[hw]at h;cases h⟩
  .refine ⟨by simp only[updT,aC e];exact az,fun g h=>?_⟩
   simp only[updT,aC e]at h
   exact⟨g,h,rfl,rfl,fun h=>⟨h,rfl⟩⟩) (U i)
theorem aq3 (p:eG E) (T:TypeId) (x:Operand) (f:Nat) (r:o.op= .field T x f) (h:(cK E o.op o.dst s.aQ).R s [] [] e aM):cX E o s e:=by
 rw[r]at h
 simp only[cK]at h
 split at h
 case h_2=>exact h.elim
 rename_i ty u
 split at h
 case h_2=>exact h.elim
 rename_i de off A
 split at h
 case h_2=>exact h.elim
 rename_i b g
 split at h
 case h_2=>exact h.elim
 rename_i cs L
 obtain⟨fields,hu,B⟩:=(p.ty T ty u).xb (by intro e;rw[e]at A;cases A)
 obtain⟨fd,i,M,O⟩:∃fd,fields[f]? =some fd/\fd.type=de/\fd.offset=off:=by
  have:(fields.toList.map fun f=>(f.type,f.offset))[f]? =some (de,off):=by rw[B];exact A
  rw[iC]at this
  obtain⟨fd,aG,aX⟩:=hT.1 this
  cases aX
  exact⟨fd,by simpa using aG,rfl,rfl⟩
 subst M
 subst O
 obtain⟨wZ,j,d⟩:=(p.ty _ b g).desc
 obtain⟨inf,z,hi,C,_⟩:=(p.ty _ b g).info
 have key:∀y,((b.agg=true/\fd.offset+b.size<=cs.length/\y= .agg ((cs.drop fd.offset).take b.size))\/(b.agg=false/\cs[fd.offset]? =some y))->cX E o s ⟨y,[],[]⟩:=fun y hy=>gT fun c a w hw F=>by
  have aG:=F x
  rw[L]at aG
  obtain⟨k,aQ,J⟩:=aG
  rcases hy with⟨g1,g2,rfl⟩|⟨g1,g2⟩
  .refine ⟨.agg ((k.drop fd.offset).take b.size).toArray,?_,⟨_,rfl,(J.drop _).take _⟩⟩
   have ex:(k.toArray.extract fd.offset (fd.offset+b.size))=((k.drop fd.offset).take b.size).toArray:=by
    apply Array.ext'
    simp[List.extract_eq_take_drop]
   simp[execOp,r,Instr.field,run_underlying hu,i,aQ,asAgg,Go.part,xT j,d,g1,sizeOf,typeInfo,hi,C,ex]
  .obtain ⟨v,K,H⟩:=J.get _ y g2
   refine⟨v,?_,hb H.1⟩
   have P:k.toArray[fd.offset]? =some v:=by simpa using K
   simp[execOp,r,Instr.field,run_underlying hu,i,aQ,asAgg,Go.part,xT j,d,g1,K]
 split at h
 .rename_i I
  split at h
  .cases da h;exact key _ (.inl ⟨I, ‹_›,rfl⟩)
  .exact h.elim
 .rename_i I
  split at h
  .rename_i y hy
   cases da h;exact key _ (.inr ⟨by simpa using I,hy⟩)
  .exact h.elim
end
section
variable {E : Env} {o : Oper} {s : aY} {e : bP} {aM : dc}
theorem Eu {x:au} (h:∀R β τ F S (a:Act) w,jv E R->Mem R (aZ s.B) (aH s.T) β τ F S w->(∀y,bp (s.ctx w S β τ) (s.aQ y) (a.eval y))->∃v,(execOp a.eval o).run E.P w= .ok (.value v) w/\bp (s.ctx w S β τ) x v):cX E o s ⟨x,[],[]⟩:=by
 rintro R a w b ⟨β,τ,F,S,d,g,bd,f⟩ K Q i
 obtain⟨v,j,k⟩:=h R β τ F S a w b d (hZ f)
 exact jO j (i _ _ (ki (e:=⟨x,[],[]⟩) d g bd f o.dst (.inr k)))
theorem aq5 (C:eG E) (T:TypeId) (x:Operand) (A:o.op= .load T x) (ty:bt) (g:Nat) (i:E.ty T=some ty) (H:x= .global g) (h:(AA ty g).R s [] [] e aM):cX E o s e:=by
 have B:=C.ty T ty i
 subst H
 unfold AA at h
 split at h
 .rename_i t y k
  obtain⟨z,rfl⟩:∃z,e=⟨z,[],[]⟩:=by
   split at h
   .split at h
    .exact ⟨_,da h⟩
    .exact h.elim
   .split at h
    .exact ⟨_,da h⟩
    .exact h.elim
  refine Eu fun R β τ F S a w d r u=>?_
  have I:kr w S g 0 (enc t y):=d.2.2.later (X':=fun _=>False) r (fun _ _ h=>h) (fun _ h=>h.elim) g _ k
  obtain⟨O,J,v,aX,bD⟩:=Jq (c:=s.ctx w S β τ) T (.global g) A ty B a w rfl g 0 t y 0 rfl (fun j p K=>(I j p K).2) h
  cases J
  exact⟨v,aX,bD⟩
 .rename_i P Q agg es k
  split at h
  .exact h.elim
  rename_i f
  cases da h
  refine Eu fun R β τ F S a w d r u=>?_
  obtain⟨aG,b,fo,L,M,aX,bD,cN,U⟩:=d.2.2.later (X':=fun _=>False) r (fun _ _ h=>h) (fun _ h=>h.elim) g _ k
  exact⟨_,Dk T (.global g) A ty B (by simpa using f) a w _ rfl _ aX,aG,aX,rfl⟩
 .exact h.elim
theorem TM (c:Ctx) {agg:Bool} {t:aJ} (az:t.ct=true) (hw:agg=false->t.w=1) (y:t.D):gq c (Ku agg t y) (kH agg t y):=by
 have lits:∀(t:aJ) (y:t.D),t.ct=true->∀p,p∈enc t y->p.isLit=true:=by
  intro t
  induction t with
  |bool=>intro y _ p d;simp[enc]at d;subst d;rfl
  |int k=>intro y _ p d;simp[enc]at d;subst d;rfl
  |str=>intro y _ p d;simp[enc]at d;subst d;rfl
  |unit=>intro y _ p d;simp[enc]at d
  |pair a b f g=>
   intro y h p d
   simp only[aJ.ct,a6]at h
   rcases cE.1 d with d|d
   .exact f _ h.1 p d
   .exact g _ h.2 p d
  |ar r=>intro y h;cases h
  |opt r=>intro y h;cases h
  |q=>intro y h;cases h
 cases agg with
 |true=>
  refine⟨(enc t y).map fw,rfl,?_⟩
  have aG:=lM t y
  have aX:=lits t y az
  refine bx.vI (by rw[aG.len,dE]) (fun i a b u j=>?_)
  rw[iC]at j
  obtain⟨p,d,rfl⟩:=hT.1 j
  obtain⟨z,A,rfl,he⟩:=aG.get' i a p u d
  have bK:=aX p (fY d)
  exact⟨⟨p,he,bs.pX bK⟩,(bs.pX (w:=c.w) (S:=c.S) bK).one⟩
 |false=>
  have bK:(enc t y).length=1:=by rw[et];exact hw rfl
  obtain⟨p,d⟩:∃p,enc t y=[p]:=by
   match enc t y,bK with
   | [p],_=>exact⟨p,rfl⟩
  have e:kH false t y=fw p:=by show iu t y=_;unfold iu;rw[d]
  rw[e]
  exact⟨p,d,bs.pX (lits t y az p (by rw[d];simp))⟩
theorem MC {a:aJ} {d:TypeDesc} (bd:∀x y:a.D,Instr.sameNow d (iu a x) (iu a y)=some (a.h2 x y)) {b:aJ} (agg:Bool) (x:a.D):∀(fo:List MapEntry) (es:List (a.D×b.D)) (i:Nat),fo.map (fun e=>(e.key,e.val))=es.map (fun x=>(iu a x.1,kH agg b x.2))->
  Instr.findNow d (iu a x) fo i=some ((vB a b x es i).map fun p=>(p.1,kH agg b p.2))
 | [],[],i,_=>rfl
 | [],_::_,i,h=>by cases h
 |_::_,[],i,h=>by cases h
 |e::fo,y::es,i,h=>by
  simp only[cw,List.cons.injEq,Prod.mk.injEq]at h
  obtain⟨⟨aG,aX⟩,bD⟩:=h
  unfold vB
  simp only[Instr.findNow,aG,bd]
  cases f:a.h2 x y.1 with
  |true=>simp[aX]
  |false=>
   simp only[aj]
   exact MC bd agg x fo es (i+1) bD
theorem YC {x:au} {g:Nat} (h:M4 x=some g):x= .jd g:=by cases x<;>first|(cases h;rfl)|cases h
theorem aq6 (cd:eG E) (T:TypeId) (x i:Operand) (ok:Bool) (cC:o.op= .lookup T x i ok) (g:Nat) (bb:s.aQ x= .jd g) (h:(Gv E T g (s.aQ i) ok).R s [] [] e aM):cX E o s e:=by
 unfold Gv at h
 split at h
 case h_2=>exact h.elim
 rename_i ty X
 split at h
 case h_2=>exact h.elim
 rename_i K V dZ dG agg Y
 split at h
 case h_2=>exact h.elim
 rename_i j f k es bU
 split at h
 case isFalse=>exact h.elim
 rename_i A
 obtain⟨rfl,rfl,rfl⟩:=A
 obtain⟨key,I,z,bL,h⟩:=h
 simp only at h
 obtain⟨hu,dP,J,L,atq,VT,hi,M,hzero⟩:=(cd.ty T ty X).AB K V _ _ _ Y
 rw[bL]at M;cases M
 obtain⟨d,bd,O,C⟩:=aqE dP
 obtain⟨at4,Z⟩:=an5 dP
 have run:∀R β τ F S (a:Act) w,jv E R->Mem R (aZ s.B) (aH s.T) β τ F S w->(∀y,bp (s.ctx w S β τ) (s.aQ y) (a.eval y))->(Instr.lookup T (a.eval x) (a.eval i) ok).run E.P w= .ok (if ok then .tuple #[kH k f ((ea j f es key).getD z),.bool (ea j f es key).isSome]else kH k f ((ea j f es key).getD z)) w:=fun R β τ F S a w u Q r=>by
  have aG:=r x
  rw[bb]at aG
  obtain⟨g1,b,fo,LW,H,g2,g3,⟨g4,_,g6⟩,g5⟩:=u.2.2.later (X':=fun _=>False) Q (fun _ _ h=>h) (fun _ h=>h.elim) g _ bU
  have cp:a.eval x= .map (some b):=by
   have:=aG.2.1
   rw[show(s.ctx w S β τ).w=w from rfl,g2]at this
   exact(Option.some.inj this).symm
  have U:a.eval i=iu j key:=(an4 I (r i) Z).1
  have W:=MapKept.run_findKey (w:=w) bd (MC C k key fo.toList H 0 g4)
  have bF:=MapKept.run_checkKey (w:=w) bd (O key) fo.isEmpty 9999
  rw[<-g6 key,So j f key H 0]
  cases hm:vB j f key H 0 with
  |none=>
   rw[hm]at W
   cases ok<;>simp[Instr.lookup,run_underlying hu,cp,U,MapKept.run_getObj_map g3,bF,W,zeroValue,typeInfo,hi,hzero]
  |some p=>
   rw[hm]at W
   cases ok<;>simp[Instr.lookup,run_underlying hu,cp,U,MapKept.run_getObj_map g3,bF,W]
 cases ok with
 |true=>
  cases da h
  refine Eu fun R β τ F S a w u Q r=>⟨.tuple #[kH k f ((ea j f es key).getD z),.bool (ea j f es key).isSome],?_,?_⟩
  .have:=run R β τ F S a w u Q r
   simp[execOp,cC,this]
  .exact ⟨[kH k f ((ea j f es key).getD z),.bool (ea j f es key).isSome],rfl,TM _ J L _,rn _ _,True.intro⟩
 |false=>
  cases da h
  refine Eu fun R β τ F S a w u Q r=>⟨kH k f ((ea j f es key).getD z),?_,jX (TM _ J L _)⟩
  have:=run R β τ F S a w u Q r
  simp[execOp,cC,this]
end
theorem At {α ρ:Type _}:∀(l:List α) (K:List α->ρ),uH l K=K l
 | [],K=>rfl
 |x::l,K=>by rw[uH,At l]
theorem arN {ρ:Type _} (s:aY) (K:aY->ρ):s.tidy K=K s:=by
 unfold aY.tidy
 rw[At,At,At]
def jT (E:Env) (s b:aY):Prop:=∀R a w,jv E R->Rel R s a w->Rel R b a w
theorem jT.refl {E:Env} (s:aY):jT E s s:=fun _ _ _ _ h=>h
theorem jT.trans {E:Env} {s d b:aY} (h:jT E s d) (k:jT E d b):jT E s b:=fun R a w f g=>k R a w f (h R a w f g)
theorem Yz {E:Env} {s:aY} {n i o d e:Nat} {aa:Tok} {b:List (Nat×Nat×Nat)} (g:aH s.T n=some (.live aa)) (j:aa.tr=some b) (p:oq o b=none) (z:∀k,(k,gone,gone)∈b->k<=i) {y:aa.t.D} (hy:aa.xs[i]? =some y) {r:aJ} {x:List r.D} (K:(cellsOf aa.t y)[o]? =some (.af (.ar r) x)) (bd:aH s.T d=none) (f:E.res d=false):
  jT E s {s with T:=jL (jL s.T n (some (.live {aa with tr:=some ((i,o,d)::b)}))) d (some (.live ⟨r,x,e,true,true,bif r.ct then none else some []⟩))}:=by
 rintro R a w A ⟨β,τ,F,S,L,M,C,H⟩
 obtain⟨P,mJ,J,u,Q,U,V,O,I,hle⟩:=L.split n aa b g j i o y hy r x K ⟨Ar p i,z⟩ d bd (A.gw f) e
 refine⟨β,fun t=>if t=d then u else τ t,O,S,by simp only[nA];exact I,M,C,?_⟩
 have:=mK (c:=s.ctx w S β τ) (c':=⟨w,S,fun k=>aZ s.B k≠none,β,updT (updT (aH s.T) n (some (.live {aa with tr:=some ((i,o,d)::b)}))) d (some (.live ⟨r,x,e,true,true,bif r.ct then none else some []⟩)),fun t=>if t=d then u else τ t⟩) ⟨fun _ _ h=>h,fun _ _ _=>rfl⟩ (gn.refl rfl rfl) hle H
 unfold aY.ctx
 simp only[nA]
 exact this
theorem cn.vX {Fr:Nat->Prop} {w:World} {S:b0} {aa:Tok} {v:Value} {F:Nat->Prop} (h:cn Fr w S aa v F) {C a:List (Nat×Nat×Nat)} (d:aa.tr=some C) (f:∀i j,jU a i j->jU C i j):cn Fr w S {aa with tr:=some a} v F:=by
 obtain⟨aG,aX,bD⟩:=h
 refine⟨aG,?_,?_⟩
 .rcases aX with aX|⟨b,cap,H,T,e,I,J,K,L,hm,g,k,r⟩
  .exact .inl aX
  .exact .inr ⟨b,cap,H,T,e,I,J,K,L,hm,g,k,fun i j x p y M=>by
    obtain⟨u,z,_,A⟩:=r i j x p y M
    exact⟨u,z,(fun h=>by cases h),A⟩⟩
 .unfold hE at bD⊢
  rw[d]at bD
  obtain⟨g1,g2,g3,g4⟩:=bD
  refine⟨g1,g2,g3,?_⟩
  rcases g4 with g4|⟨b,cap,q,e,O,bd,r⟩
  .exact .inl g4
  .exact .inr ⟨b,cap,q,e,O,bd,fun i j x c y B=>by
    obtain⟨u,z,P,A⟩:=r i j x c y B
    exact⟨u,z,P,fun Q=>A (f i j Q)⟩⟩
theorem M1 {E:Env} {s:aY} {n:Nat} {aa:Tok} {C f:List (Nat×Nat×Nat)} (g:aH s.T n=some (.live aa)) (p:aa.tr=some C) (u:∀i j,jU f i j->jU C i j) (H:∀i o d,(i,o,d)∈f->d=gone):jT E s (vX s n aa f):=by
 rintro R a w I ⟨β,τ,F,S,r,J,y,z⟩
 obtain⟨hw,_⟩:=(r.bI n aa g).tree p
 obtain⟨aG,aX⟩:=r.turn n aa {aa with tr:=some f} g [] (by simp) (fun _=>False) ⟨hF.refl _ _,fun _ _ _=>rfl,fun _ _ h=>h,fun _ _ h=>.inl h,r.lt⟩ (fun _ h=>h.elim) (F n) (fun b K=>.inl K) ((r.bI n aa g).vX p u) rfl (fun h=>by rw[hw]at h;cases h) (fun L i o d he hm A=>by
  simp only[iB]at he
  subst he
  exact absurd (H i o d hm) A)
 have M:eS (aH s.T) []=aH s.T:=by funext t;simp[eS]
 rw[M]at aG aX
 unfold vX
 refine⟨β,τ,_,S,by simp only[nA];exact aG,J,y,?_⟩
 have:=mK (c:=s.ctx w S β τ) (c':=⟨w,S,fun k=>aZ s.B k≠none,β,updT (aH s.T) n (some (.live {aa with tr:=some f})),τ⟩) ⟨fun _ _ h=>h,fun _ _ _=>rfl⟩ (gn.refl rfl rfl) aX z
 unfold aY.ctx
 simp only[nA]
 exact this
theorem Lv {ρ:Type} {K:Option ρ} {z:ρ} {i:Nat}:∀a:List (Nat×Nat×Nat),zP a i K=some z->(∀x,x∈a->x.1=i)/\K=some z
 | [],h=>⟨(fun x b=>by cases b),h⟩
 |y::a,h=>by
  unfold zP at h
  split at h
  .rename_i e
   obtain⟨aG,aX⟩:=Lv a h
   exact⟨fun x b=>(bn.1 b).elim (fun h=>h▸e) (aG x),aX⟩
  .cases h
theorem JV {ρ:Type} {K:Option ρ} {z:ρ} {i:Nat}:∀b:List (Nat×Nat×Nat),yI b i K=some z->(∀k,(k,gone,gone)∈b->k<=i)/\K=some z
 | [],h=>⟨(fun x f=>by cases f),h⟩
 |y::b,h=>by
  unfold yI at h
  cases d:Nat.beq y.2.2 gone with
  |true=>
   rw[d]at h
   simp only[ao]at h
   split at h
   .rename_i e
    obtain⟨aG,aX⟩:=JV b h
    refine⟨fun k a=>?_,aX⟩
    rcases bn.1 a with a|a
    .subst a;exact e
    .exact aG k a
   .cases h
  |false=>
   rw[d]at h
   obtain⟨aG,aX⟩:=JV b h
   refine⟨fun k a=>?_,aX⟩
   rcases bn.1 a with a|a
   .subst a;rw[Nat.beq_refl]at d;cases d
   .exact aG k a
theorem YA {E:Env} {s:aY} {n:Nat} {aa:Tok} (b:aH s.T n=some (.live aa)) (d:aa.tr=some []):jT E s {s with T:=jL s.T n (some (.live aa.iz))}:=by
 rintro R a w z ⟨β,τ,F,S,u,A,i,j⟩
 obtain⟨hw,_⟩:=(u.bI n aa b).tree d
 obtain⟨S',p,r⟩:=u.iz n aa b d
 refine⟨β,τ,F,S',by simp only[nA];exact p,A,i,?_⟩
 have:=mK (c:=s.ctx w S β τ) (c':=⟨w,S',fun k=>aZ s.B k≠none,β,updT (aH s.T) n (some (.live aa.iz)),τ⟩) ⟨r,fun _ _ _=>rfl⟩ (gn.refl rfl rfl) (fun t az=>by
  by_cases e:t=n
  .subst e
   refine⟨by simp[updT],fun f g=>?_⟩
   simp[updT]at g
   subst g
   exact⟨aa,b,rfl,rfl,fun h=>by rw[hw]at h;cases h⟩
  .have y:updT (aH s.T) n (some (.live aa.iz)) t=aH s.T t:=by simp[updT,e]
   exact⟨by show updT _ _ _ t≠none;rw[y];exact az,fun f g=>⟨f,by show aH s.T t=_;rw[<-y];exact g,rfl,rfl,fun h=>⟨h,rfl⟩⟩⟩) j
 unfold aY.ctx
 simp only[nA]
 exact this
theorem DF {ρ:Type} {E:Env} {z:ρ}:∀(p:List (Nat×Nat×Nat×Nat)) (n i:Nat) (s:aY) (K:aY->Option ρ),vM E p n i s K=some z->∃f,K f=some z/\jT E s f
 | [],n,i,s,K,h=>⟨s,h,jT.refl s⟩
 |(o,d,e,B)::p,n,i,s,K,h=>by
  unfold vM at h
  split at h
  case h_2=>cases h
  rename_i aa g
  split at h
  case h_2=>cases h
  rename_i C j
  split at h
  .rename_i F H a
   split at h
   case isFalse=>cases h
   split at h
   .exact ⟨s,h,jT.refl s⟩
   .split at h
    .exact DF _ _ _ s K h
    .cases h
  .rename_i a
   obtain⟨k,h⟩:=JV _ h
   obtain⟨y,hy,h⟩:=jR.1 h
   split at h
   case h_2=>cases h
   rename_i r x A
   split at h
   case h_2=>cases h
   rename_i bd
   split at h
   .cases h
   rename_i b
   have u:=Yz (E:=E) (e:=e) g j a k hy A bd b
   split at h
   .exact ⟨_,h,u⟩
   .split at h
    .obtain ⟨f,aG,aX⟩:=DF _ _ _ _ K h
     exact⟨f,aG,u.trans aX⟩
    .cases h
theorem SQ {ρ:Type} {E:Env} {z:ρ}:∀(l:List (Nat×Nat×Nat)) (n i:Nat) (s:aY) (K:aY->Option ρ),DG E l n i s K=some z->∃a,K a=some z/\jT E s a
 | [],n,i,s,K,h=>⟨s,h,jT.refl s⟩
 |(o,d,e)::l,n,i,s,K,h=>by
  unfold DG at h
  obtain⟨s1,aG,aX⟩:=DF _ _ _ s _ h
  obtain⟨s2,bD,cN⟩:=SQ l n i s1 K aG
  exact⟨s2,bD,aX.trans cN⟩
theorem sk {ρ:Type} {E:Env} {z:ρ}:∀(gs:List zB) (s:aY) {K:aY->Option ρ},lR E gs s K=some z->∃g,K g=some z/\jT E s g
 | [],s,K,h=>⟨s,h,jT.refl s⟩
 | .out ar p::gs,s,K,h=>by
  unfold lR at h
  split at h
  case h_2=>cases h
  obtain⟨s1,aG,aX⟩:=DF _ _ _ s _ h
  obtain⟨s2,bD,cN⟩:=sk gs s1 aG
  exact⟨s2,bD,aX.trans cN⟩
 | .iz k c::gs,s,K,h=>by
  unfold lR at h
  split at h
  case h_2=>cases h
  split at h
  case h_2=>cases h
  split at h
  case h_2=>cases h
  rename_i aa b
  split at h
  .rename_i f
   obtain⟨s2,bD,cN⟩:=sk gs _ h
   exact⟨s2,bD,(YA b f).trans cN⟩
  .cases h
  .exact sk gs s h
 | .SM k c::gs,s,K,h=>by
  unfold lR at h
  split at h
  case h_2=>cases h
  split at h
  case h_2=>cases h
  split at h
  case h_2=>cases h
  rename_i aa b
  split at h
  case h_2=>cases h
  rename_i f
  obtain⟨s2,bD,cN⟩:=sk gs _ h
  exact⟨s2,bD,(M1 b f (fun i j _=>jU.nil i j) (fun i o d hm=>by simp at hm;exact hm.2.2)).trans cN⟩
 | .outs ar r l::gs,s,K,h=>by
  unfold lR at h
  split at h
  case h_2=>cases h
  split at h
  case h_2=>cases h
  obtain⟨s1,aG,aX⟩:=SQ _ _ _ s _ h
  obtain⟨s2,bD,cN⟩:=sk gs s1 aG
  exact⟨s2,bD,aX.trans cN⟩
 | .Lm ar r::gs,s,K,h=>by
  unfold lR at h
  split at h
  case h_2=>cases h
  split at h
  case h_2=>cases h
  rename_i i _
  split at h
  case h_2=>cases h
  rename_i aa b
  split at h
  case h_2=>cases h
  rename_i y f
  obtain⟨aG,h⟩:=Lv _ h
  obtain⟨s2,bD,cN⟩:=sk gs _ h
  refine⟨s2,bD,(M1 b f (fun a j u=>?_) (fun i o d hm=>by simp at hm;exact hm.2.2)).trans cN⟩
  have A:i+1<=a:=u.2 _ cb
  refine⟨fun d hm=>?_,fun k hm=>?_⟩
  .have:a=i:=aG _ hm
   omega
  .have:k=i:=aG _ hm
   omega
theorem KX {c:Ctx} {v:Value} {n l k:Nat} (h:bp c (.sub n l k) v):v.oneCell'=true/\c.tok n≠none/\∀aa,c.tok n=some (.live aa)->∃a len cap,c.τ n= .slice a len cap/\l<=k/\k<=len/\len<=cap/\v= .slice (h1 a cap l aa.t.w) (k-l) (cap-l):=h
theorem cn.flat {Fr:Nat->Prop} {w:World} {S:b0} {t:aJ} {ys:List t.D} {e:TypeId} {deep:Bool} {F:Nat->Prop} {b cap:Nat} {k:Array Value} {T:TypeId} (e2:t.ct=true) (C:∀b,F b->Fr b/\b<w.heap.size) (r:F b) (z:w.heap[b]? =some (.cells k T (0,0))) (A:k.size=cap*t.w) (bK:ys.length<=cap) (hm:cap<=maxLen) (H:∀o,¬S b o)
  (B:∀(i j:Nat) (x:t.D) (p:b6),ys[i]? =some x->(enc t x)[j]? =some p->k[i*t.w+j]? =some (fw p)):cn Fr w S ⟨t,ys,e,true,deep,none⟩ (.slice (some ⟨b,0,none⟩) ys.length cap) F:=by
 have g:∀(i j:Nat) (x:t.D) (p:b6),ys[i]? =some x->(enc t x)[j]? =some p->bs w S (fw p) p:=fun i j x p _ d=>bs.pX (j7 t x e2 p (fY d))
 refine⟨C,.inr ⟨b,cap,k,T,rfl,r,z,A,bK,hm,(fun h=>by cases h),fun _=>H,fun i j x p f d=>⟨_,B i j x p f d,fun _=>g i j x p f d,fun h=>by cases h⟩⟩,?_⟩
 show(deep=true->Deep w F _ (.af (.ar t) ys))
 intro _
 have hu:∀(i j:Nat) (x:t.D) (c:au),ys[i]? =some x->(cellsOf t x)[j]? =some c->∃p,(enc t x)[j]? =some p/\k[i*t.w+j]? =some (fw p):=fun i j x c f a=>by
  obtain⟨p,d⟩:∃p,(enc t x)[j]? =some p:=⟨_,bG (by rw[et];exact mq a)⟩
  exact⟨p,d,B i j x p f d⟩
 refine .ar _ cap t ys (fun i j=>(k[i*t.w+j]?).getD undef) b (fun _ _ _=>False) k T r z A bK hm (fun i j x c f a=>?_) (fun _ _ _ h=>h.elim) (fun _ _ _ _ _ h=>h.elim) (fun i j x c f a=>?_)
 .obtain ⟨p,_,y⟩:=hu i j x c f a
  rw[y];rfl
 .obtain ⟨p,d,y⟩:=hu i j x c f a
  simp only[y,mW]
  exact .leaf (S:=S) e2 a (fun I u=>by rw[d]at u;cases u;exact g i j x p f d)
theorem cn.lits {Fr:Nat->Prop} {w:World} {S:b0} {aa:Tok} {v:Value} {F:Nat->Prop} (h:cn Fr w S aa v F) (e2:aa.t.ct=true) (hw:aa.wr=true) (az:aa.tr=none) (f:aa.xs≠ []):∃b cap a T,v= .slice (some ⟨b,0,none⟩) aa.xs.length cap/\F b/\w.heap[b]? =some (.cells a T (0,0))/\a.size=cap*aa.t.w/\aa.xs.length<=cap/\cap<=maxLen/\(∀o,¬S b o)/\
  ∀(i j:Nat) (x:aa.t.D) (p:b6),aa.xs[i]? =some x->(enc aa.t x)[j]? =some p->a[i*aa.t.w+j]? =some (fw p):=by
 rcases h.2.1 with⟨_,aX⟩|⟨b,cap,a,T,z,g,A,B,k,hm,C,r,d⟩
 .exact absurd aX f
 .refine ⟨b,cap,a,T,z,g,A,B,k,hm,r hw,fun i j x p H y=>?_⟩
  obtain⟨u,I,J,_⟩:=d i j x p H y
  rw[I,o5 (J az) (j7 aa.t x e2 p (fY y))]
theorem F5 {t:aJ} {x:t.D} {j:Nat} {p:b6} (h:(enc t x)[j]? =some p):j<t.w:=by have:=(dB.1 h).1;rwa[et]at this
section
variable {E : Env} {o : Oper} {s : aY} {e : bP} {aM : dc}
theorem aqS (cd:eG E) (c:Call) (cC:o.op= .call c) (bF:c.callee= .builtin .append) (d:Nat) (x y:Operand) (T:TypeId) (ty:bt) (dn:TypeId) (r:aJ) (ku t k:Nat) (aa:Tok)
  (my:o.dst=some d) (bb:c.args.toList=[x,y]) (dJ:c.argTypes.toList=[T,T]) (hI:E.ty T=some ty) (he:ty.elem=some (dn,r,ku)) (xA:s.aQ x= .sub t 0 k) (g:aH s.T t=some (.live aa)) (qL:aa.t=r) (nf:aa.tr=none) (Ms:aa.wr=true) (e2:aa.t.ct=true) (aaI:E.wr d=true)
  (h:(zS E d t k aa (s.aQ y)).R s [] [t] e aM):cX E o s e:=by
 subst qL
 unfold zS at h
 split at h
 case h_2=>exact h.elim
 rename_i n lo hi hy
 split at h
 case isFalse=>exact h.elim
 rename_i uV
 have uV:n=t:=by simpa using uV
 subst uV
 obtain⟨ZQ,h⟩:=h
 obtain⟨bd,uP,mD,rfl⟩:=Du h
 rw[aaI]
 rintro R a w e3 ⟨β,τ,F,S,Y,bj,gA,gh⟩ K Q dP
 have fQ:=hZ gh
 obtain⟨hu,qX,fG,z,ka,hf,nm,bL,jB⟩:=(cd.ty T ty hI).elem _ _ _ he
 have kZ:c.args= #[x,y]:=by apply Array.ext';simpa using bb
 have qJ:c.argTypes= #[T,T]:=by apply Array.ext';simpa using dJ
 have aG:=fQ x;rw[xA]at aG
 have aX:=fQ y;rw[hy]at aX
 obtain⟨qz,len,cap,aQ,_,xn,ZU,tI⟩:=(KX aG).2.2 aa g
 obtain⟨asv,att,iG,H,ZV,xk,_,EV⟩:=(KX aX).2.2 aa g
 rw[aQ]at H;cases H
 have W:=Y.bI n aa g
 rw[show(s.ctx w S β τ).τ n=τ n from rfl]at aQ
 have hlen:len=aa.xs.length:=by
  rcases W.2.1 with⟨cB,ck⟩|⟨b,px,B,dd,cB,_⟩
  .rw [cB]at aQ;cases aQ;rw[ck];rfl
  .rw [cB]at aQ;cases aQ;rfl
 subst hlen
 have im:=Y.drop (tok':=eS (aH s.T) [n]) (fun t az=>o7 az) (fun t aa h=>(jo h).2)
 have xj:d∉ [n]:=fun fu=>by simp only[du]at fu;rw[fu,g]at bd;cases bd
 by_cases hv:hi-lo=0
 ·
  have cG:(execOp a.eval o).run E.P w= .ok (.value (.slice (h1 qz cap 0 aa.t.w) (k-0) (cap-0))) w:=by
   have:=TP (P:=E.P) w T o.type dn fG hu ka (h1 qz cap 0 aa.t.w) (h1 qz cap lo aa.t.w) (k-0) (cap-0) (cap-lo) (by omega)
   simp only[execOp,cC,resolve,bF,invoke,builtin,Sem.run_bind,Sem.run_pure,Result.andThen_ok,kZ,qJ,List.map_toArray,cw,qn,tI,EV,hv,this]
  have Z:=W.head Ms nf k (by omega) (m:=aa.t.w) aQ
  have ck:aa.xs.take k++(aa.xs.take hi).drop lo=aa.xs.take k:=by
   rw[mf (by simp;omega),fe]
  rw[ck]at dP
  exact jO cG (dP _ _ (rC (s:=s) [n] im bj gA gh (fun _ _ _ _ _=>⟨fun _ _ h=>h,fun _ _ _=>rfl⟩) d bd (e3.gw mD) ⟨aa.t,aa.xs.take k,aa.e,true,aa.deep,none⟩ _ (F n) Z rfl
   (fun t L b k6 az A cT=>k6 (by simp[Y.eM t n L aa b az g cT A])) (fun k b W A=>Y.fq n aa k b g W A) o.dst xj _ rfl))
 .have hd:aa.xs≠ []:=fun e=>by rw[e]at xk;simp at xk;omega
  obtain⟨b,FE,B,dd,cB,hx,bU,nu,nq,hm,df,M⟩:=W.lits e2 Ms nf hd
  have H:=aQ
  rw[cB]at H
  obtain⟨rfl,rfl⟩:qz=some ⟨b,0,none⟩/\cap=FE:=by cases H;exact⟨rfl,rfl⟩
  clear H
  have F2:h1 (some ⟨b,0,none⟩) cap 0 aa.t.w=some ⟨b,0,none⟩:=by
   unfold h1
   split
   .rfl
   .simp [n9]
  have XW:h1 (some ⟨b,0,none⟩) cap lo aa.t.w=some ⟨b,lo*aa.t.w,none⟩:=by
   unfold h1
   rw[aC (by omega)]
   simp[n9]
  have hmul:∀ {p q:Nat},p<=q->p*aa.t.w<=q*aa.t.w:=fun h=>ek _ h
  obtain⟨news,O⟩:∃news:List Value,news=(B.toList.drop (lo*aa.t.w)).take ((hi-lo)*aa.t.w):=⟨_,rfl⟩
  have Zv:(lo+(hi-lo))*aa.t.w<=B.size:=by rw[nu];exact hmul (by omega)
  rw[eE]at Zv
  have U:news.length=(hi-lo)*aa.t.w:=by rw[O];simp;omega
  have uU:∀j,j<(hi-lo)*aa.t.w->news[j]? =B[lo*aa.t.w+j]? :=fun j X=>by
   rw[O,hU,ai X,hV,jQ]
  have ZX:∀j u,news[j]? =some u->∃p:b6,u=fw p/\p.isLit=true:=fun j u X=>by
   have np:j<(hi-lo)*aa.t.w:=by rw[<-U];exact(dB.1 X).1
   have GW:=tR j aa.t.w
   have xq:=mg j qX
   have hdiv:j/aa.t.w<hi-lo:=(wx qX).2 np
   have aaL:lo+j/aa.t.w<aa.xs.length:=by omega
   have xv:j%aa.t.w<(enc aa.t aa.xs[lo+j/aa.t.w]).length:=by rw[et];exact xq
   have dO:=M (lo+j/aa.t.w) (j%aa.t.w) _ _ (bG aaL) (bG xv)
   rw[eE,mY,lB (j/aa.t.w),GW,<-uU j np,X]at dO
   exact⟨_,Option.some.inj dO,j7 aa.t _ e2 _ (br xv)⟩
  have su:∀u∈news,u.oneCell'=true:=fun u hu=>by
   obtain⟨j,X,rfl⟩:=eb.1 hu
   obtain⟨p,cp,bK⟩:=ZX j _ (bG X)
   rw[cp]
   exact(bs.pX (w:=w) (S:=S) bK).one
  have NW:=TO (P:=E.P) (w:=w) T o.type dn dd fG hu ka b k cap B bU ⟨b,lo*aa.t.w,none⟩ (hi-lo) (cap-lo) news (by rw[U,hf]) (fun j u X=>by
   have np:j<(hi-lo)*aa.t.w:=by rw[<-U];exact(dB.1 X).1
   rw[uf,cell_of_row w b _ B dd (0,0) bU,<-uU j np];exact X) su (by omega) (by rw[U,hf,<-eE,nu];exact hmul (by omega))
  obtain⟨f,ns⟩:∃f:Array Value,f=(B.toList.take (k*aa.t.w)++news++B.toList.drop (k*aa.t.w+news.length)).toArray:=⟨_,rfl⟩
  rw[hf,<-ns]at NW
  have ZN:k*aa.t.w+news.length<=B.size:=by rw[U,nu,<-eE];exact hmul (by omega)
  have nt:f.toList=B.toList.take (k*aa.t.w)++news++B.toList.drop (k*aa.t.w+news.length):=by rw[ns]
  have mA:∀m,f[m]? =if k*aa.t.w<=m/\m<k*aa.t.w+news.length then news[m-k*aa.t.w]? else B[m]? :=fun m=>by
   rw[<-jQ,nt,tx _ _ _ (by rw[lz];exact ZN)]
   simp
  have qZ:f.size=B.size:=by
   rw[<-lz,nt]
   simp only[bh,bN,eF,lz]
   omega
  have cG:(execOp a.eval o).run E.P w= .ok (.value (.slice (some ⟨b,0,none⟩) (k+(hi-lo)) cap)) (w.setRow b f):=by
   simp only[execOp,cC,resolve,bF,invoke,builtin,Sem.run_bind,Sem.run_pure,Result.andThen_ok,kZ,qJ,List.map_toArray,cw,qn,tI,EV,F2,XW,Nat.sub_zero,NW]
  have C:∀m,m≠b->(w.setRow b f).heap[m]? =w.heap[m]? :=fun m hm=>setRow_other w b m _ hm
  have kC:(w.setRow b f).heap.size=w.heap.size:=by simp[World.setRow]
  have V:∀a8 o,S a8 o->(w.setRow b f).cell? ⟨a8,o,none⟩=w.cell? ⟨a8,o,none⟩:=fun a8 o A=>World.cell?_of_block (w:=w) (C a8 (fun e=>df o (e▸A)))
  have pG:Step (fun m=>m=b) S S w (w.setRow b f):=⟨⟨rfl,rfl,rfl,by rw[kC];exact bE _,fun m _ hm=>C m hm⟩,V,fun _ _ h=>h,fun _ _ h=>.inl h,fun b o h=>by rw[kC];exact Y.lt b o h⟩
  have G3:(w.setRow b f).heap[b]? =some (.cells f dd (0,0)):=setRow_heap w b B _ dd (0,0) bU
  have GG:=im.step pG (fun m hm=>hm▸(W.1 b hx).1) (fun aL bz kD A=>Y.fq n aa aL bz g kD (A▸hx)) (fun dj L h4 m hm A=>by
   obtain⟨g1,g2⟩:=jo h4
   subst A
   exact g1 (by simp[Y.eM dj n L aa m g2 g hm hx]))
  obtain⟨ys,Hu⟩:∃ys,ys=aa.xs.take k++(aa.xs.take hi).drop lo:=⟨_,rfl⟩
  have A9:ys.length=k+(hi-lo):=by rw[Hu];simp;omega
  have Ht:∀i y,ys[i]? =some y->(i<k/\aa.xs[i]? =some y)\/(k<=i/\i<k+(hi-lo)/\aa.xs[lo+(i-k)]? =some y):=fun i y I=>by
   have uR:i<k+(hi-lo):=by rw[<-A9];exact(dB.1 I).1
   rw[Hu]at I
   by_cases J:i<k
   .rw [kN (by simp;omega),hU,ai J]at I
    exact .inl ⟨J,I⟩
   .rw [lx (by simp;omega),bN,pg (by omega),hV,hU,ai (by omega)]at I
    exact .inr ⟨by omega,uR,I⟩
  have Z:cn R.dt (w.setRow b f) S ⟨aa.t,ys,aa.e,true,aa.deep,none⟩ (.slice (some ⟨b,0,none⟩) ys.length cap) (F n):=by
   refine .flat e2 (fun b A=>⟨(W.1 b A).1,by rw[kC];exact(W.1 b A).2⟩) hx G3 (by rw[qZ];exact nu) (by omega) hm df (fun i j y p oD cp=>?_)
   have X:=F5 cp
   rcases Ht i y oD with⟨J,k8⟩|⟨xo,J,k8⟩
   .have dO:=M i j y p k8 cp
    have:(i+1)*aa.t.w<=k*aa.t.w:=hmul J
    rw[eE]at this
    rw[mA,aC (by omega)]
    exact dO
   .have dO:=M (lo+(i-k)) j y p k8 cp
    have dr:(lo+(i-k))*aa.t.w=lo*aa.t.w+(i*aa.t.w-k*aa.t.w):=by rw[eE,Nat.sub_mul]
    have iL:k*aa.t.w<=i*aa.t.w:=hmul xo
    have hc:(i+1)*aa.t.w<=(k+(hi-lo))*aa.t.w:=hmul J
    rw[eE,eE]at hc
    rw[mA,ai ⟨by omega,by omega⟩,uU _ (by omega),<-dO,dr]
    congr 1;omega
  rw[<-Hu]at dP
  rw[A9]at Z
  exact jO cG (dP _ _ (rC (s:=s) [n] GG bj gA gh (fun _ _ _ _ _=>⟨fun _ _ h=>h,V⟩) d bd (e3.gw mD) ⟨aa.t,ys,aa.e,true,aa.deep,none⟩ _ (F n) Z rfl
   (fun t L b k6 az A cT=>k6 (by simp[Y.eM t n L aa b az g cT A])) (fun k b W A=>Y.fq n aa k b g W A) o.dst xj _ rfl))
theorem asl (z:Array Value) (n m:Nat) (h:m<n*z.size) (j:Nat) (d:m%z.size=j):(Builtin.zeroCells z n)[m]? =z[j]? :=by
 have f:0<z.size:=by
  rcases Nat.eq_zero_or_pos z.size with a|a
  .rw [a]at h;simp at h
  .exact a
 have b:j<z.size:=by rw[<-d];exact mg _ f
 unfold Builtin.zeroCells
 rw[Array.getElem?_map,Array.getElem?_range,ai h]
 simp[d,b]
theorem aqA {P:Program} (w:World) (t ty e:TypeId) (i:TypeInfo) (z:Value) (az:P.underlying t=some (.slice e)) (hi:P.info? e=some i) (b:i.zero=some z) (a:Addr) (n c:Nat) (d:0<n):
  (Builtin.clear_ #[t] ty #[.slice (some a) n c]).run P w=((storeCells a (Builtin.zeroCells z.cells n).toList).run P w).andThen fun _ w'=>.ok (.tuple #[]) w':=by
 obtain⟨n,rfl⟩:∃k,n=k+1:=⟨n-1,by omega⟩
 simp[Builtin.clear_,run_underlying az,zeroValue,typeInfo,hi,b]
theorem aqB {P:Program} (w:World) (t ty e:TypeId) (az:P.underlying t=some (.slice e)) (a:Option Addr) (c:Nat):
  (Builtin.clear_ #[t] ty #[.slice a 0 c]).run P w= .ok (.tuple #[]) w:=by
 cases a<;>simp[Builtin.clear_,run_underlying az]
theorem aq0 (cd:eG E) (c:Call) (cC:o.op= .call c) (bF:c.callee= .builtin .clear) (h:(cK E o.op o.dst s.aQ).R s [] [] e aM):cX E o s e:=by
 rw[cC]at h
 simp only[cK,bF]at h
 split at h
 case h_2=>exact h.elim
 rename_i x T bb dJ
 unfold LV at h
 split at h
 case h_2=>exact h.elim
 rename_i n lo hi xA
 simp only[bk.R]at h
 split at h
 case h_2=>exact h.elim
 rename_i aa I
 split at h
 case h_2=>exact h.elim
 rename_i ty hI
 split at h
 case h_2=>exact h.elim
 rename_i dn r ku he
 split at h
 case h_2=>exact h.elim
 rename_i EG Hk
 split at h
 case isFalse=>exact h.elim
 rename_i GR
 obtain⟨qL,W,J,e2,aaR⟩:=GR
 split at h
 case h_2=>exact h.elim
 rename_i z0 aaP
 obtain⟨rfl,_⟩:=h
 subst qL
 rintro R a w e3 ⟨β,τ,F,S,dI,bj,gA,gh⟩ K Q dP
 have fQ:=hZ gh
 obtain⟨hu,Y,fG,z,ka,hf,nm,bL,jB⟩:=(cd.ty T ty hI).elem _ _ _ he
 obtain⟨aaZ,z2,Z,aay,xC,aaS,nk⟩:=(cd.ty dn EG Hk).info
 rw[ka]at Z;cases Z
 rw[bL]at xC;cases xC
 have kZ:c.args= #[x]:=by apply Array.ext';simpa using bb
 have aG:=fQ x;rw[xA]at aG
 obtain⟨qz,len,cap,aQ,ZV,Nv,ZU,tI⟩:=(KX aG).2.2 aa I
 have bB:=dI.bI n aa I
 rw[show(s.ctx w S β τ).τ n=τ n from rfl]at aQ
 have hlen:len=aa.xs.length:=by
  rcases bB.2.1 with⟨cB,ck⟩|⟨b,px,H,dd,cB,_⟩
  .rw [cB]at aQ;cases aQ;rw[ck];rfl
  .rw [cB]at aQ;cases aQ;rfl
 subst hlen
 obtain⟨jr,N0⟩:∃jr,c.argTypes=jr:=⟨_,rfl⟩
 rw[N0]at dJ
 have A:∀v w',(Builtin.clear_ #[T] o.type #[a.eval x]).run E.P w= .ok v w'->(execOp a.eval o).run E.P w= .ok (.value v) w':=fun v w' cV=>by
  have ck:(Builtin.clear_ jr o.type #[a.eval x]).run E.P w=(Builtin.clear_ #[T] o.type #[a.eval x]).run E.P w:=by
   unfold Builtin.clear_
   simp[dJ]
  simp only[execOp,cC,resolve,bF,invoke,builtin,Sem.run_bind,Sem.run_pure,Result.andThen_ok,kZ,N0,List.map_toArray,cw,qn,ck,cV]
 obtain⟨ys,X⟩:∃ys,ys=aa.xs.take lo++List.replicate (hi-lo) z0++aa.xs.drop hi:=⟨_,rfl⟩
 rw[<-X]at dP
 by_cases hv:hi-lo=0
 .have G8:lo=hi:=by omega
  subst G8
  have dr:ys=aa.xs:=by rw[X];simp
  have cG:=A _ _ (by rw[tI,hv];exact aqB (P:=E.P) w T o.type dn hu _ _)
  rw[dr]at dP
  have gP:updT (aH s.T) n (some (.live aa))=aH s.T:=by
   funext t
   unfold updT
   split
   .rename_i e;rw[e,I]
   .rfl
  refine jO cG (dP _ _ (ki (e:=⟨.bR [],[],[(n,some (.live aa))]⟩) (by show Mem R _ (updT _ _ _) _ _ _ _ _;rw[gP];exact dI) bj gA (by show ∀i,bp ⟨_,_,_,_,updT _ _ _,_⟩ _ _;rw[gP];exact gh) o.dst (.inr ⟨[],rfl,True.intro⟩)))
 .have hd:aa.xs≠ []:=fun e=>by rw[e]at Nv;simp at Nv;omega
  obtain⟨b,FE,H,dd,cB,hx,bU,nu,nq,hm,df,AU⟩:=bB.lits e2 J W hd
  have qM:=aQ
  rw[cB]at qM
  obtain⟨rfl,rfl⟩:qz=some ⟨b,0,none⟩/\cap=FE:=by cases qM;exact⟨rfl,rfl⟩
  clear qM
  have F2:h1 (some ⟨b,0,none⟩) cap lo aa.t.w=some ⟨b,lo*aa.t.w,none⟩:=by
   unfold h1
   rw[aC (by omega)]
   simp[n9]
  have hmul:∀ {p q:Nat},p<=q->p*aa.t.w<=q*aa.t.w:=fun h=>ek _ h
  have L:(lo+(hi-lo))*aa.t.w<=H.size:=by rw[nu];exact hmul (by omega)
  rw[eE]at L
  obtain⟨news,g⟩:∃news,news=(Builtin.zeroCells z.cells (hi-lo)).toList:=⟨_,rfl⟩
  have A6:news.length=(hi-lo)*aa.t.w:=by rw[g,lz,size_zeroCells,jB]
  have qY:=Dq (c:=s.ctx w S β τ) aa.t _ z0 _ aaP (nk (s.ctx w S β τ))
  have aaQ:∀j p,(enc aa.t z0)[j]? =some p->z.cells[j]? =some (fw p):=fun j p V=>by
   have bV:j<z.cells.toList.length:=by rw[qY.len];exact(dB.1 V).1
   have:=qY.get' j _ p (bG bV) V
   rw[<-jQ,bG bV,o5 this (j7 aa.t z0 e2 p (fY V))]
  have uU:∀i j p,i<hi-lo->(enc aa.t z0)[j]? =some p->news[i*aa.t.w+j]? =some (fw p):=fun i j p f V=>by
   have bV:=F5 V
   have hc:(i+1)*aa.t.w<=(hi-lo)*aa.t.w:=hmul f
   rw[eE]at hc
   rw[g,jQ,asl z.cells (hi-lo) _ (by rw[jB];omega) j (by rw[jB,Nat.add_comm,Nat.add_mul_mod_self_right,Nat.mod_eq_of_lt bV])]
   exact aaQ j p V
  have su:∀u∈news,u.oneCell'=true:=fun u hu=>by
   obtain⟨j,bV,rfl⟩:=eb.1 hu
   have np:j<(hi-lo)*aa.t.w:=by rw[<-A6];exact bV
   have GW:=tR j aa.t.w
   have xq:=mg j Y
   have hdiv:j/aa.t.w<hi-lo:=(wx Y).2 np
   have xv:j%aa.t.w<(enc aa.t z0).length:=by rw[et];exact xq
   have dO:=uU (j/aa.t.w) (j%aa.t.w) _ hdiv (bG xv)
   rw[lB (j/aa.t.w),GW,bG bV]at dO
   rw[Option.some.inj dO]
   exact(bs.pX (w:=w) (S:=S) (j7 aa.t _ e2 _ (br xv))).one
  have M:=run_storeCells_at E.P b (lo*aa.t.w) dd news 0 H w bU (by omega) su
  obtain⟨d,ns⟩:∃d:Array Value,d=(H.toList.take (lo*aa.t.w)++news++H.toList.drop (lo*aa.t.w+news.length)).toArray:=⟨_,rfl⟩
  simp only[lC]at M
  rw[<-ns]at M
  have cG:=A (.tuple #[]) (w.setRow b d) (by
   rw[tI,F2,aqA (P:=E.P) w T o.type dn fG z hu ka bL _ _ _ (by omega),<-g,M]
   rfl)
  have nt:d.toList=H.toList.take (lo*aa.t.w)++news++H.toList.drop (lo*aa.t.w+news.length):=by rw[ns]
  have Zt:lo*aa.t.w+news.length<=H.toList.length:=by rw[A6,lz];exact L
  have mA:∀m,d[m]? =if lo*aa.t.w<=m/\m<lo*aa.t.w+news.length then news[m-lo*aa.t.w]? else H[m]? :=fun m=>by
   rw[<-jQ,nt,tx H.toList news (lo*aa.t.w) Zt]
   simp
  have qZ:d.size=H.size:=by
   rw[<-lz,nt]
   simp only[bh,bN,eF,lz]
   omega
  have C:∀m,m≠b->(w.setRow b d).heap[m]? =w.heap[m]? :=fun m hm=>setRow_other w b m _ hm
  have kC:(w.setRow b d).heap.size=w.heap.size:=by simp[World.setRow]
  have O:∀a8 o,S a8 o->(w.setRow b d).cell? ⟨a8,o,none⟩=w.cell? ⟨a8,o,none⟩:=fun a8 o av=>World.cell?_of_block (w:=w) (C a8 (fun e=>df o (e▸av)))
  have pG:Step (fun m=>m=b) S S w (w.setRow b d):=⟨⟨rfl,rfl,rfl,by rw[kC];exact bE _,fun m _ hm=>C m hm⟩,O,fun _ _ h=>h,fun _ _ h=>.inl h,fun b o h=>by rw[kC];exact dI.lt b o h⟩
  have G3:(w.setRow b d).heap[b]? =some (.cells d dd (0,0)):=setRow_heap w b H _ dd (0,0) bU
  have A9:ys.length=aa.xs.length:=by rw[X];simp;omega
  have Ht:∀i y,ys[i]? =some y->((i<lo\/hi<=i)/\aa.xs[i]? =some y)\/(lo<=i/\i<hi/\y=z0):=fun i y f=>by
   rw[X]at f
   by_cases bD:i<lo
   .rw [e5,kN (by simp;omega),hU,ai bD]at f
    exact .inl ⟨.inl bD,f⟩
   .by_cases cN:i<hi
    .rw [kN (by simp;omega),lx (by simp;omega),bN,pg (by omega),List.getElem?_replicate,ai (by omega)]at f
     exact .inr ⟨by omega,cN,(Option.some.inj f).symm⟩
    .rw [lx (by simp;omega),bh,bN,pg (by omega),zv,hV]at f
     refine .inl ⟨.inr (by omega),?_⟩
     rw[<-f]
     congr 1;omega
  have iM:cn R.dt (w.setRow b d) S {aa with xs:=ys} (τ n) (F n):=by
   have:=cn.flat (Fr:=R.dt) (w:=w.setRow b d) (S:=S) (t:=aa.t) (ys:=ys) (e:=aa.e) (deep:=aa.deep) (F:=F n) e2 (fun b av=>⟨(bB.1 b av).1,by rw[kC];exact(bB.1 b av).2⟩) hx G3 (by rw[qZ];exact nu) (by omega) hm df (fun i j y p oD V=>by
    have bV:=F5 V
    rcases Ht i y oD with⟨U,k8⟩|⟨xo,U,rfl⟩
    .have dO:=AU i j y p k8 V
     rw[mA,aC ?_]
     .exact dO
     .rintro ⟨g1,g2⟩
      rw[A6,<-eE]at g2
      rcases U with U|U
      .have:(i+1)*aa.t.w<=lo*aa.t.w:=hmul U
       rw[eE]at this;omega
      .have:(lo+(hi-lo))*aa.t.w<=i*aa.t.w:=hmul (by omega)
       omega
    .have iL:lo*aa.t.w<=i*aa.t.w:=hmul xo
     have dO:=uU (i-lo) j p (by omega) V
     have hc:(i-lo+1)*aa.t.w<=(hi-lo)*aa.t.w:=hmul (by omega)
     rw[eE]at hc
     rw[Nat.sub_mul]at dO hc
     rw[mA,ai ⟨by omega,by omega⟩,<-dO]
     congr 1;omega)
   rw[A9,<-cB]at this
   obtain⟨t0,at1,uA,atS,asX,atJ⟩:=aa
   simp only at J W
   subst J
   subst W
   exact this
  have je:=dI.Es n aa {aa with xs:=ys} I (fun m=>m=b) pG (fun m hm=>hm▸hx) iM rfl (fun h=>by rw[J]at h;cases h) W
  refine jO cG (dP _ _ (ki (e:=⟨.bR [],[],[(n,some (.live {aa with xs:=ys}))]⟩) je bj gA ?_ o.dst (.inr ⟨[],rfl,True.intro⟩)))
  exact mK (c:=s.ctx w S β τ) (c':=⟨w.setRow b d,S,fun k=>aZ s.B k≠none,β,updT (aH s.T) n (some (.live {aa with xs:=ys})),τ⟩) ⟨fun _ _ h=>h,O⟩ (gn.refl rfl rfl) (T9 I rfl (fun h=>by rw[J]at h;cases h)) gh
end
end Go.Proofs.YtnkagklajgimlaaGreatDoor
