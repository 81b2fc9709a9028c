
import Derived.Test.YtnkagklajgimlaaGreatDoorKS
import Derived.Laws.MakeOwn
import Derived.MapKept
import Derived.Maps.RangeRun
set_option linter.unusedSimpArgs false
set_option linter.unusedVariables false
namespace Go.Proofs.YtnkagklajgimlaaGreatDoor
open Go.RowKit
theorem afg {p:b3} (h:p.isLit=true):(fq p).oneCell'=true:=by
 cases p<;>first|rfl|cases h
theorem Deep.one {w:World} {F:Nat->Prop} {v:Value} {c:ar} (h:Deep w F v c):v.oneCell'=true:=by
 cases h with
 |lit _ _ t x p he bK a=>rw[a];exact afg bK
 |nil _ r=>rfl
 |av _ cap r xs u b q d T f g i j k hu y bc z=>rfl
theorem Deep.tree {w:World} {F:Nat->Prop} {v:Value} {r:aH} {xs:List r.D} (h:Deep w F v (.ag (.av r) xs)):Tree w F v r xs []:=by
 cases h with
 |lit _ _ _ _ p he bK k=>cases he;cases bK
 |nil _ _=>exact .inl rfl
 |av _ cap _ _ u b q d T y f z A B hu g bc a=>
  refine .inr ⟨b,cap,q,rfl,g,bc,fun i j x c aD aV=>⟨u i j,?_,(a i j x c aD aV).one,fun _=>a i j x c aD aV⟩⟩
  rw[cell_of_row w b _ d T (0,0) f]
  exact hu i j x c aD aV
theorem cg.toTree {Fr Fr':Nat->Prop} {w:World} {S S':bW} {aa:Tok} {v:Value} {F:Nat->Prop} (h:cg Fr w S' aa v F) (bc:aa.deep=true) (k:aa.tr=none) (y:∀b,F b->Fr' b) (r:∀b,F b->∀o,¬S b o):cg Fr' w S (me aa) v F:=by
 have a:=h.nC k bc
 obtain⟨aD,aV,_⟩:=h
 refine⟨fun b d=>⟨y b d,(aD b d).2⟩,?_,?_⟩
 .rcases aV with aV|⟨b,cap,z,T,e,d,A,B,C,hm,H,I,J⟩
  .exact .inl aV
  .refine .inr ⟨b,cap,z,T,e,d,A,B,C,hm,(fun h=>by cases h),fun _ o=>r b d o,fun i j x p K f=>?_⟩
   obtain⟨u,L,M,_⟩:=J i j x p K f
   refine⟨u,L,fun ax=>?_,fun h=>by cases h⟩
   simp only[me]at ax
   cases g:aa.t.cj with
   |false=>rw[g]at ax;cases ax
   |true=>exact HI (M k) (jI aa.t x g p (fc f))
 .unfold hq
  simp only[me]
  cases g:aa.t.cj with
  |true=>exact fun _=>a
  |false=>exact⟨trivial,trivial,r,a.tree⟩
theorem anr (aa:Tok):(me aa).whole=true:=by
 unfold me Tok.whole
 cases aa.t.cj<;>rfl
structure s7 where
 n:Nat
 aa:Tok
 v:Value
 G:Nat->Prop
def oH (tok:Nat->Option bb) (l:List s7):Nat->Option bb:=l.foldl (fun f x=>updT f x.n (some (.live x.aa))) tok
theorem Mem.Qn {R:ed} {w:World} {S:bW} {box:Nat->Option cf} {β:Nat->Nat}:∀(l:List s7) {tok:Nat->Option bb} {τ:Nat->Value} {F:Nat->Nat->Prop} (g:Mem R box tok β τ F S w) (p:(l.map (·.n)).Nodup)
  (bK:∀x,x∈l->tok x.n=none/\R.gi x.n=none/\cg R.dm w S x.aa x.v x.G/\x.aa.whole=true/\(∀t aa b,tok t=some (.live aa)->x.G b->¬F t b)/\∀k b,box k=some b->¬x.G (β k))
  (bc:∀(i j:Nat) (x y:s7) (b:Nat),l[i]? =some x->l[j]? =some y->x.G b->y.G b->i=j),
  ∃a u,Mem R box (oH tok l) β a u S w/\(∀t,tok t≠none->oH tok l t=tok t/\a t=τ t)/\∀x,x∈l->oH tok l x.n=some (.live x.aa)/\a x.n=x.v
 | [],tok,τ,F,g,_,_,_=>⟨τ,F,g,fun _ _=>⟨rfl,rfl⟩,fun x h=>by cases h⟩
 |x::l,tok,τ,F,g,p,bK,bc=>by
  obtain⟨g1,g2,g3,g4,g5,g6⟩:=bK x b6
  simp only[cv,ot]at p
  have A:∀y,y∈l->y.n≠x.n:=fun y hy e=>p.1 (cd.2 ⟨y,hy,e⟩)
  have B:=g.mR x.n g1 g2 x.aa x.v x.G g3 g4 (fun t aa b ax r=>g5 t aa b ax r) g6
  obtain⟨a,u,aD,aV,bD⟩:=Mem.Qn l B p.2 (fun y hy=>by
   obtain⟨d,f,C,H,I,J⟩:=bK y (b7 _ hy)
   refine⟨by simp only[updT,A y hy,if_false];exact d,f,C,H,fun t aa b ax r=>?_,J⟩
   by_cases e:t=x.n
   .simp only [e,if_true]
    intro K
    obtain⟨i,hi⟩:=sU.1 hy
    have:=bc 0 (i+1) x y b rfl (by simpa using hi) K r
    omega
   .simp only [updT,e,if_false]at ax⊢
    exact I t aa b ax r) (fun i j y z b hi L hy M=>by
   have:=bc (i+1) (j+1) y z b (by simpa using hi) (by simpa using L) hy M
   omega)
  refine⟨a,u,aD,fun t ax=>?_,fun y hy=>?_⟩
  .have e:t≠x.n:=fun e=>ax (e▸g1)
   obtain⟨d,f⟩:=aV t (by simp only[updT,e,if_false];exact ax)
   simp only[updT,e,if_false]at d f
   exact⟨d,f⟩
  .rcases bm.1 hy with rfl|hy
   .obtain ⟨d,f⟩:=aV y.n (by simp[updT])
    simp only[updT,if_true]at d f
    exact⟨d,f⟩
   .exact bD y hy
section
variable {c c' : Ctx} {ρ : Nat -> Nat} (ax : ∀ n, c.tok n ≠ none -> (∃ aa, c.tok n = some (.live aa)) /\ c'.tok (ρ n) ≠ none /\ c'.τ (ρ n) = c.τ n)
include ax
theorem anj {x:ar} {v:Value} (a:x.clean=true) (d:x.base=true) (b:gw c x v):gw c' (x.toM ρ) v:=by
 cases x with
 |dead=>exact True.intro
 |ag t y=>
  obtain⟨p,aD,aV⟩:=b
  have bK:=jI t y a p (by rw[aD];simp)
  exact⟨p,aD,by rw[og aV bK];exact bq.pc bK⟩
 |aQ=>exact b
 |own n t xs=>
  obtain⟨aD,aV,bD⟩:=b
  obtain⟨⟨aa,g1⟩,g2,g3⟩:=ax n aV
  exact⟨aD.one,g2,fun _ _=>by rw[g3];exact(bD aa g1).2.1⟩
 |agg _=>cases d
 |bM _=>cases d
 |eK=>cases a
 |box k o=>cases a
 |ptr t y o=>cases a
 |aw n=>cases a
 |fr n i o=>cases a
 |iJ g=>cases a
 |sub n l k=>cases a
 |aU _ _=>cases a
theorem Sm {x:ar} {v:Value} (a:x.clean=true) (b:x.base=true) (d:e9 c x v):e9 c' (x.toM ρ) v:=by
 have f:gw c x v:=by cases x<;>first|exact d|cases b|cases a
 have:=anj (ρ:=ρ) ax a b f
 exact jy this
theorem So :∀ {xs:List ar} {b:List Value},ar.oK xs=true->bs (ee c) xs b->bs (ee c') (ar.x7 ρ xs) b
 | [],[],_,_=>True.intro
 |x::xs,_::b,a,h=>by
  simp only[ar.oK,bk]at a
  refine⟨⟨?_,h.1.2⟩,So a.2 h.2⟩
  cases d:x.base with
  |true=>exact Sm ax a.1 d h.1.1
  |false=>
   cases x with
   |agg _=>exact h.1.1.elim
   |bM _=>exact h.1.1.elim
   |aU _ _=>cases a.1
   |_=>cases d
 | [],_::_,_,h=>h.elim
 |_::_,[],_,h=>h.elim
theorem Sn {x:ar} {v:Value} (a:x.clean=true) (b:ga c x v):ga c' (x.toM ρ) v:=by
 cases d:x.base with
 |true=>
  have aD:e9 c x v:=by cases x<;>first|exact b|cases d
  exact kz (Sm ax a d aD)
 |false=>
  cases x with
  |agg cs=>obtain⟨us,e,f⟩:=b;exact⟨us,e,So ax a f⟩
  |bM _=>exact b.elim
  |aU _ _=>cases a
  |_=>cases d
theorem Sp :∀ {xs:List ar} {a:List Value},ar.oK xs=true->bs (ga c) xs a->bs (ga c') (ar.x7 ρ xs) a
 | [],[],_,_=>True.intro
 |x::xs,_::a,b,h=>by
  simp only[ar.oK,bk]at b
  exact⟨Sn ax b.1 h.1,Sp b.2 h.2⟩
 | [],_::_,_,h=>h.elim
 |_::_,[],_,h=>h.elim
theorem ank {x:ar} {v:Value} (a:x.clean=true) (b:bo c x v):bo c' (x.toM ρ) v:=by
 by_cases d:∃cs,x= .bM cs
 .obtain ⟨cs,rfl⟩:=d
  obtain⟨us,e,f⟩:=b
  exact⟨us,e,Sp ax a f⟩
 .have aV:ga c x v:=by cases x<;>first|exact b|exact absurd ⟨_,rfl⟩ d
  exact jz (Sn ax a aV)
end
section
variable {E : Env} {o : Oper} {s : aX} {e : bO} {aK : c6}
def px (x:Nat×Option bb):Tok:=match x.2 with
 |some (.live aa)=>aa
 |_=>⟨.unit,[],0,false,false,none⟩
theorem amH (b9:eA E) (c:Call) (cx:o.op= .call c) (g:Operand) (bB:c.callee= .value g) (f:FuncId) (cs:List ar) (cr:s.aP g= .aU f cs) (h:(HE E f o.dst (c.args.toList.map s.aP++cs)).R s [] [] e aK):cR E o s e:=by
 unfold HE at h
 obtain⟨B,alA,h2,h⟩:=IJ _ _ _ _ _ h (fun k b h=>by cases h)
 obtain⟨T,al0,dH,h⟩:=IL _ _ _ _ _ h (fun k b h=>by cases h)
 obtain⟨m,a0,acc,hm,Fj,h⟩:=Ir _ h
 split at h
 case isFalse=>exact h.elim
 rename_i Fh
 obtain⟨FE,XO,zz⟩:=Fh
 obtain⟨r,cE,h⟩:=h
 unfold P0 at h
 simp only at h
 split at h
 case isFalse=>exact h.elim
 rename_i oS
 obtain⟨vG,Ke,tg,yQ⟩:=oS
 obtain⟨qc,al1,h⟩:=EP _ _ _ _ h
 split at h
 case h_1=>exact h.elim
 rename_i v0 anz jK
 obtain⟨he,_⟩:=h
 obtain⟨s1,rC⟩:∃s1,s1=m.ret.mk' r:=⟨_,rfl⟩
 rw[<-rC]at qc jK he vG Ke tg yQ
 have hMod:=b9.fn f m hm
 obtain⟨⟨fn,Fm,Fz,J⟩,FF⟩:=hMod
 have rA:=FF a0 r cE
 rw[<-rC]at rA
 obtain⟨W,nN⟩:∃W,W=m.arg.mk' a0:=⟨_,rfl⟩
 rw[<-nN]at rA
 rintro R a w e3 ⟨β,τ,F,S,X,cD,gp,fR⟩ K Q dP
 have fG:=hL fR
 obtain⟨us,Fq,tL⟩:=Jp (cr▸fG g)
 have FN:bs (bo (s.ctx w S β τ)) (c.args.toList.map s.aP++cs) (c.args.toList.map a.eval++us):=(DP fG _).append (JX tL)
 obtain⟨hinv,S',nL,iK,ry,oQ,wb,tD,tA,wC⟩:=D9 X h2 dH Fj FN
 rw[<-nN]at ry oQ wb tD tA wC
 have H3:∀k b,aY W.B k≠some b:=fun k b I=>by
  obtain⟨aJ,bt,g1,_⟩:=ry k b I
  have:acc.az=[]:=List.isEmpty_iff.1 XO
  rw[this]at g1;cases g1
 have Y:∀n aa,aF W.T n≠some (.live aa):=fun n aa I=>by
  obtain⟨b4,g1,_⟩:=oQ n aa I
  have:acc.rt=[]:=List.isEmpty_iff.1 FE
  rw[this]at g1;cases g1
 have E4:Mem (jh W (dR acc β) (gW acc τ) (fs acc F) S' w) (aY W.B) (aF W.T) (dR acc β) (gW acc τ) (fs acc F) S' w:=by
  obtain⟨g1,g2,g3,g4,g5⟩:=tA (jh W (dR acc β) (gW acc τ) (fs acc F) S' w).dm (fun k b I=>.inr (.inl ⟨k,b,I,rfl⟩)) (fun t aa b ax u=>.inr (.inr ⟨t,aa,ax,u⟩))
  exact⟨hr.refl _ _,fun _ _ h=>h,fun _ _ h=>.inl h,fun _ _ _=>rfl,iK.lt,g1,g2,g3,g4,g5,(fun k b u I=>by
   obtain⟨bt,jL⟩:=gk.1 I
   exact absurd jL (H3 k bt)),fun t v aa cO ax=>absurd ax (Y t aa),fun n aa aS i o d cD lg fo gS=>absurd cD (Y n aa)⟩
 have qd:k2 w (kj W (dR acc β) (fs acc F)) S':=e3.2.2.later X nL fun b u=>by
  rcases u with⟨k,x,I,_⟩|⟨t,aa,ax,_⟩
  .exact absurd I (H3 k x)
  .exact absurd ax (Y t aa)
 have Fe:=rA w S' (dR acc β) (gW acc τ) (fs acc F) _ qd E4 wC
 have iL:(execOp a.eval o).run E.P w= .ok (.enter f (c.args.toList.map a.eval++us).toArray) w:=by
  have jL:¬fn.body=none:=fun e=>by rw[e]at J;cases J
  have kD:(c.args.toList.map a.eval++us).toArray= #[]++c.args.map a.eval++us.toArray:=by apply Array.ext';simp
  rw[kD]
  simp[execOp,cx,resolve,bB,Fq,Deferred.ofValue,invoke,callFunc,Fm,Fz,jL]
 unfold Oper.wp
 rw[iL,Oper.upon_enter]
 refine Fe.mono fun de fu WT=>?_
 obtain⟨v,JF,M,kv,fM,rfl,mC,x,A,FQ⟩:=WT
 rw[jK]at A
 simp only[List.head?_cons,ic]at A
 subst A
 simp only
 have O:∀b,¬kj W (dR acc β) (fs acc F) b:=fun b u=>by
  rcases u with⟨k,x,I,_⟩|⟨t,aa,ax,_⟩
  .exact H3 k x I
  .exact Y t aa ax
 have FM:hr (fun _=>False) w fu:=⟨mC.ew.os,mC.ew.tape,mC.ew.output,mC.ew.size,fun i hi _=>mC.ew.block i hi (O i)⟩
 have U:Step (fun _=>False) S S w fu:=⟨FM,fun b o u=>World.cell?_of_block (w:=w) (FM.block b (X.lt b o u) (fun h=>h)),fun _ _ h=>h,fun _ _ h=>.inl h,fun b o u=>kZ (X.lt b o u) FM.size⟩
 have h3:=X.step U (fun _ h=>h.elim) (fun _ _ _ h=>h) (fun _ _ _ _ _ h=>h)
 obtain⟨ρ,Mi⟩:∃ρ,ρ=py (o.dst.getD 0):=⟨_,rfl⟩
 rw[<-Mi]at qc he
 have p:∀x,x∈s1.T->∃aa,x.2=some (.live aa)/\aa.deep=true/\aa.wr=false/\aa.tr=none/\aF s1.T x.1=some (.live aa):=fun x A=>by
  have aD:=cA.1 Ke x A
  unfold QK at aD
  split at aD
  .rename_i aa V
   simp only[bk,sO,Option.isNone_iff_eq_none]at aD
   refine⟨aa,V,aD.1.1,aD.1.2,aD.2,?_⟩
   obtain⟨n,z⟩:=x
   simp only at V
   subst V
   exact xu tg n _ A
  .cases aD
 obtain⟨l,bK⟩:∃l:List s7,l=s1.T.map fun x=>⟨ρ x.1,me (px x),M x.1,kv x.1⟩:=⟨_,rfl⟩
 have Xv:∀n,aF s1.T n≠none->∃x,x∈s1.T/\x.1=n:=fun n h=>by
  obtain⟨z,bI⟩:=gk.1 h
  exact⟨(n,some z),qu bI,rfl⟩
 have Yn:∀ {i j},ρ i=ρ j->i=j:=fun h=>by rw[Mi]at h;exact Jo h
 obtain⟨vq,oA,tz,hold,wv⟩:=h3.Qn l (by
   rw[bK,ml]
   have:(s1.T.map ((fun x:s7=>x.n)∘fun x=>(⟨ρ x.1,me (px x),M x.1,kv x.1⟩:s7)))=(s1.T.map (·.1)).map ρ:=by rw[ml];rfl
   rw[this]
   exact B6 (fun x y _ _ h=>Yn h) tg) (fun y hy=>by
   rw[bK]at hy
   obtain⟨x,A,rfl⟩:=cd.1 hy
   obtain⟨aa,cy,cb,di,gA,fO⟩:=p x A
   have Vv:px x=aa:=by unfold px;rw[cy]
   obtain⟨f1,f2⟩:=qc (ρ x.1) (cd.2 ⟨x,A,rfl⟩)
   have I:=mC.bG x.1 aa fO
   have Z:∀b,kv x.1 b->w.heap.size<=b:=fun b u=>by
    rcases(I.1 b u).1 with h|h
    .exact h
    .exact absurd h (O b)
   refine⟨f1,e3.gi f2,?_,anr _,fun t bY b ax u cM=>?_,fun k b kf u=>?_⟩
   .show cg R.dm fu S (me (px x)) (M x.1) (kv x.1)
    rw[Vv]
    exact I.toTree cb gA (fun b u=>.inl (dK X.size (Z b u))) (fun b u o da=>by have:=X.lt b o da;have:=Z b u;omega)
   .have:=((X.bG t bY ax).1 b cM).2
    have:=Z b u
    omega
   .have:=X.blt kf
    have:=Z _ u
    omega) (fun i j x y b hi bR A hy=>by
   rw[bK,ie]at hi bR
   obtain⟨fW,kK,rfl⟩:=hJ.1 hi
   obtain⟨hn,nQ,rfl⟩:=hJ.1 bR
   obtain⟨aa,_,_,_,_,fO⟩:=p fW (fc kK)
   obtain⟨Dk,_,_,_,_,k9⟩:=p hn (fc nQ)
   have L4:=mC.eF fW.1 hn.1 aa Dk b fO k9 A hy
   rw[List.nodup_iff_pairwise_ne,mh]at tg
   obtain⟨LO,tF⟩:=dx.1 kK
   obtain⟨LX,LY⟩:=dx.1 nQ
   rcases sT i j with h|h|h
   .have:=tg i j (by simpa using LO) (by simpa using LX) h
    simp only[List.getElem_map,tF,LY]at this
    exact absurd L4 this
   .exact h
   .have:=tg j i (by simpa using LX) (by simpa using LO) h
    simp only[List.getElem_map,tF,LY]at this
    exact absurd L4.symm this)
 have C:e.updT (aF s.T)=oH (aF s.T) l:=by
  rw[he,bK]
  unfold bO.updT oH
  simp only
  rw[List.foldl_map,List.foldl_map]
  have key:∀(iW:List (Nat×Option bb)) (f:Nat->Option bb),(∀x,x∈iW->∃aa,x.2=some (.live aa))->iW.foldl (fun f x=>updT f (yb ρ x).1 (yb ρ x).2) f=iW.foldl (fun f x=>updT f (ρ x.1) (some (.live (me (px x))))) f:=fun iW=>by
   induction iW with
   |nil=>intro f _;rfl
   |cons x iW lh=>
    intro f A
    obtain⟨aa,cy⟩:=A x b6
    simp only[eR]
    rw[show yb ρ x=(ρ x.1,some (.live (me (px x))))from by unfold yb px;rw[cy]]
    exact lh _ fun y hy=>A y (b7 _ hy)
  exact key s1.T _ fun x A=>by obtain⟨aa,cy,_⟩:=p x A;exact⟨aa,cy⟩
 have H:e.updB (aY s.B)=aY s.B:=by rw[he];rfl
 have wA:∀i,bo ⟨fu,S,fun k=>e.updB (aY s.B) k≠none,β,e.updT (aF s.T),vq⟩ (dT s.L i) (a.tmps.getD i undef):=fun i=>by
  rw[C,H]
  exact bo.mono (c:=s.ctx w S β τ) (c':=⟨fu,S,fun k=>aY s.B k≠none,β,oH (aF s.T) l,vq⟩) ⟨fun _ _ h=>h,U.cell⟩ (fY.refl rfl rfl) (fun t ax=>by
   obtain⟨cP,cI⟩:=hold t ax
   exact⟨by show oH _ _ t≠none;rw[cP];exact ax,fun bY V=>⟨bY,cP.symm.trans V,cI,rfl,fun h=>⟨h,rfl⟩⟩⟩) (fR i)
 refine dP _ _ (jT (s:=s) (e:=e) (by rw[H,C];exact tz) cD gp wA o.dst ?_)
 cases bc:o.dst with
 |none=>exact .inl rfl
 |some d=>
  right
  have cO:e.val=v0.toM ρ:=by rw[he];simp[bc]
  rw[cO,C,H]
  have rz:v0.clean=true:=by
   rw[jK]at yQ
   simp only[ar.oK,bk]at yQ
   exact yQ.1
  refine ank (c:=s1.ctx fu fM JF M) (c':=⟨fu,S,fun k=>aY s.B k≠none,β,oH (aF s.T) l,vq⟩) (fun n cD=>?_) rz FQ
  obtain⟨x,A,rfl⟩:=Xv n cD
  obtain⟨aa,_,_,_,_,fO⟩:=p x A
  obtain⟨cP,cI⟩:=wv ⟨ρ x.1,me (px x),M x.1,kv x.1⟩ (by rw[bK];exact cd.2 ⟨x,A,rfl⟩)
  exact⟨⟨aa,fO⟩,by show oH _ _ (ρ x.1)≠none;rw[cP];simp,cI⟩
theorem amv (d:eA E) (c:Call) (a:o.op= .call c) (g:Operand) (b:c.callee= .value g) (h:(cF E o.op o.dst s.aP).R s [] [] e aK):cR E o s e:=by
 rw[a]at h
 simp only[cF,b]at h
 split at h
 case h_2=>exact h.elim
 rename_i f cs i
 cases bc:xq E o.dst with
 |true=>rw[bc]at h;exact amH d c a g b f cs i h
 |false=>rw[bc]at h;exact amw d c a g b f cs i h
end
theorem cg.B7 {Fr:Nat->Prop} {w:World} {S:bW} {r:aH} {xs:List r.D} {v:Value} {G:Nat->Prop} (h:Deep w G v (.ag (.av r) xs)) (C:∀b,G b->Fr b/\b<w.heap.size) (k:∀b,G b->∀o,¬S b o) (e:TypeId):cg Fr w S ⟨r,xs,e,true,true,bif r.cj then none else some []⟩ v G:=by
 have y:=h
 refine⟨C,?_,?_⟩
 .cases h with
  |lit _ _ _ _ p he bK U=>cases he;cases bK
  |nil _ _=>exact .inl ⟨rfl,rfl⟩
  |av _ cap _ _ u b q F T z H I J K hu V bc L=>
   refine .inr ⟨b,cap,F,T,rfl,z,H,I,J,K,(fun h=>by cases h),fun _ o=>k b z o,fun i j x p d f=>?_⟩
   have M:j<r.w:=by have:=(dx.1 f).1;rwa[en]at this
   obtain⟨c,a⟩:=th x M
   refine⟨u i j,hu i j x c d a,fun ax=>?_,fun h=>by cases h⟩
   cases g:r.cj with
   |false=>rw[g]at ax;cases ax
   |true=>
    obtain⟨t0,W,X,O,P,Q⟩:=(L i j x c d a).rep (S:=fun _ _=>True) (fun _ _ _=>True.intro)
    obtain⟨t1,Y,A,B⟩:=(k7 r x).get' j c p a f
    rw[O]at A;cases A
    rw[P]at B;cases B
    exact HI Q (jI r x g p (fc f))
 .unfold hq
  simp only
  cases g:r.cj with
  |true=>exact fun _=>y
  |false=>exact⟨trivial,trivial,k,y.tree⟩
def Sr (v:Value) (k:Nat):Prop:=∃l cap,v= .slice (some ⟨k,0,none⟩) l cap
theorem Deep.VL {w:World} {F:Nat->Prop} {v:Value} {r:aH} {xs:List r.D} (h:Deep w F v (.ag (.av r) xs)) (k:r.cj=true):Deep w (Sr v) v (.ag (.av r) xs):=by
 cases h with
 |lit _ _ _ _ p he bK K=>cases he;cases bK
 |nil _ _=>exact .nil _ _
 |av _ cap _ _ u b q y T L z A B C hu M bc H=>
  refine .av _ cap r xs u b (fun _ _ _=>False) y T ⟨_,_,rfl⟩ z A B C hu (fun _ _ _ h=>h.elim) (fun _ _ _ _ _ h=>h.elim) (fun i j x c aD aV=>?_)
  obtain⟨t0,O,P,a,d,I⟩:=(H i j x c aD aV).rep (S:=fun _ _=>True) (fun _ _ _=>True.intro)
  obtain⟨p,J,t1,Q,f,g⟩:=(k7 r x).get j c aV
  rw[a]at f;cases f
  rw[d]at g;cases g
  have bK:=jI r x k _ (fc J)
  rw[a]
  exact .lit _ _ _ _ _ d bK (og I bK)
theorem cg.given {Fr:Nat->Prop} {w:World} {S:bW} {aa:Tok} {v:Value} {F:Nat->Prop} (h:cg Fr w S aa v F) (f:aa.whole=true) (g:aa.wr=true) (bc:aa.deep=true) (i:aa.tr=none->aa.t.cj=true):
  ∃G:Nat->Prop,(∀b,G b->F b)/\(∀b,G b->∀o,¬S b o)/\Deep w G v (.ag (.av aa.t) aa.xs):=by
 cases a:aa.tr with
 |none=>
  refine⟨Sr v,fun b ⟨l,cap,e⟩=>h.block e,fun b ⟨l,cap,e⟩=>?_,(h.nC a bc).VL (i a)⟩
  rcases h.2.1 with⟨j,_⟩|⟨p,k,r,T,j,_,_,_,_,_,_,d,_⟩
  .rw [j]at e;cases e
  .rw [j]at e;cases e;exact d g
 |some u=>
  have:=Tok.anC f a
  subst this
  refine⟨F,fun _ h=>h,?_,h.Ef a⟩
  have:=h.2.2
  unfold hq at this
  rw[a]at this
  exact this.2.2.1
theorem cg.o9 {Fr:Nat->Prop} {w:World} {S:bW} {aa:Tok} {v:Value} {F:Nat->Prop} (h:cg Fr w S aa v F) {d:List (Nat×Nat×Nat)} (a:aa.tr=some d):∀b,F b->∀o,¬S b o:=by
 have:=h.2.2
 unfold hq at this
 rw[a]at this
 exact this.2.2.1
theorem cg.Ik {Fr:Nat->Prop} {w:World} {S:bW} {aa:Tok} {v:Value} {F:Nat->Prop} (h:cg Fr w S aa v F) {p:List (Nat×Nat×Nat)} (d:aa.tr=some p) {i:Nat} (hi:i<aa.xs.length):
  ∃(b cap:Nat) (a:Array Value) (T:TypeId) (q:Nat->Nat->Nat->Prop),v= .slice (some ⟨b,0,none⟩) aa.xs.length cap/\F b/\w.heap[b]? =some (.cells a T (0,0))/\a.size=cap*aa.t.w/\aa.xs.length<=cap/\cap<=maxLen/\(∀i j k,q i j k->F k/\k≠b)/\(∀i j r y k,q i j k->q r y k->i=r/\j=y)/\
   ∀(i j:Nat) (x:aa.t.D) (c:ar),aa.xs[i]? =some x->(cellsOf aa.t x)[j]? =some c->∃u,a[i*aa.t.w+j]? =some u/\u.oneCell'=true/\(jx p i j->Deep w (q i j) u c):=by
 obtain⟨_,aV,bD⟩:=h
 unfold hq at bD
 rw[d]at bD
 obtain⟨_,_,_,f⟩:=bD
 rcases aV with⟨_,e⟩|⟨b,cap,a,T,e,H,z,I,J,hm,_⟩
 .rw [e]at hi;simp at hi
 rcases f with f|⟨Q,A,q,B,K,bc,g⟩
 .rw [f]at e;cases e
 rw[B]at e
 cases e
 refine⟨b,cap,a,T,q,B,H,z,I,J,hm,K,bc,fun i j x c L M=>?_⟩
 obtain⟨u,C,O,P⟩:=g i j x c L M
 rw[cell_of_row w b _ a T (0,0) z]at C
 exact⟨u,C,O,P⟩
theorem Mem.split {R:ed} {w:World} {S:bW} {box:Nat->Option cf} {tok:Nat->Option bb} {β:Nat->Nat} {τ:Nat->Value} {F:Nat->Nat->Prop} (H:Mem R box tok β τ F S w) (n:Nat) (aa:Tok) (Y:List (Nat×Nat×Nat)) (C:tok n=some (.live aa)) (P:aa.tr=some Y)
  (i o:Nat) (y:aa.t.D) (hy:aa.xs[i]? =some y) (r:aH) (x:List r.D) (bB:(cellsOf aa.t y)[o]? =some (.ag (.av r) x)) (wx:jx Y i o) (d:Nat) (bc:tok d=none) (X4:R.gi d=none) (e:TypeId):
  ∃b l cap u,τ n= .slice (some ⟨b,0,none⟩) l cap/\w.cell? ⟨b,i*aa.t.w+o,none⟩=some u/\u.oneCell'=true/\∃Q,Mem R box (updT (updT tok n (some (.live {aa with tr:=some ((i,o,d)::Y)}))) d (some (.live ⟨r,x,e,true,true,bif r.cj then none else some []⟩))) β (fun t=>if t=d then u else τ t) Q S w/\
   ha ⟨w,S,fun k=>box k≠none,β,tok,τ⟩ ⟨w,S,fun k=>box k≠none,β,updT (updT tok n (some (.live {aa with tr:=some ((i,o,d)::Y)}))) d (some (.live ⟨r,x,e,true,true,bif r.cj then none else some []⟩)),fun t=>if t=d then u else τ t⟩:=by
 have B:=H.bG n aa C
 have we:d≠n:=fun e=>by rw[e,C]at bc;cases bc
 have hi:i<aa.xs.length:=(dx.1 hy).1
 obtain⟨b,cap,bQ,T,q,aP,au,cr,bI,cD,hm,dr,wc,nM⟩:=B.Ik P hi
 obtain⟨u,hu,nP,oU⟩:=nM i o y _ hy bB
 have jJ:=oU wx
 have M:w.cell? ⟨b,i*aa.t.w+o,none⟩=some u:=by rw[cell_of_row w b _ bQ T (0,0) cr];exact hu
 obtain⟨tok',z⟩:∃tok',tok'=updT (updT tok n (some (.live {aa with tr:=some ((i,o,d)::Y)}))) d (some (.live ⟨r,x,e,true,true,bif r.cj then none else some []⟩)):=⟨_,rfl⟩
 have gJ:tok' d=some (.live ⟨r,x,e,true,true,bif r.cj then none else some []⟩):=by rw[z];simp[updT]
 have gi:tok' n=some (.live {aa with tr:=some ((i,o,d)::Y)}):=by rw[z];simp[updT,Ne.symm we]
 have Z:∀ {t},t≠d->t≠n->tok' t=tok t:=fun {t} aD aV=>by rw[z];simp[updT,aD,aV]
 obtain⟨Q,mD⟩:∃Q:Nat->Nat->Prop,Q=fun t k=>if t=d then q i o k else if t=n then F n k/\¬q i o k else F t k:=⟨_,rfl⟩
 have fd:Q d=q i o:=by rw[mD];funext k;simp
 have fn:Q n=fun k=>F n k/\¬q i o k:=by rw[mD];funext k;simp[Ne.symm we]
 have c8:∀ {t},t≠d->t≠n->Q t=F t:=fun {t} aD aV=>by rw[mD];funext k;simp[aD,aV]
 have own:∀ {t A},tok' t=some (.live A)->∃m Dk,tok m=some (.live Dk)/\(∀k,Q t k->F m k)/\((t=d/\m=n)\/(t≠d/\m=t)):=fun {t A} h=>by
  by_cases a:t=d
  .subst a;exact⟨n,aa,C,fun k B=>by rw[fd]at B;exact(dr i o k B).1,.inl ⟨rfl,rfl⟩⟩
  .by_cases f:t=n
   .subst f;exact⟨t,aa,C,fun k B=>by rw[fn]at B;exact B.1,.inr ⟨a,rfl⟩⟩
   .rw [Z a f]at h
    exact⟨t,A,h,fun k B=>by rw[c8 a f]at B;exact B,.inr ⟨a,rfl⟩⟩
 have used:∀ {t},tok t≠none->t≠d/\tok' t≠none:=fun {t} h=>by
  have a:t≠d:=fun e=>h (e▸bc)
  refine⟨a,?_⟩
  by_cases f:t=n
  .rw [f,gi];simp
  .rw [Z a f];exact h
 have hle:ha ⟨w,S,fun k=>box k≠none,β,tok,τ⟩ ⟨w,S,fun k=>box k≠none,β,tok',fun t=>if t=d then u else τ t⟩:=fun t ax=>by
  obtain⟨a,aD⟩:=used ax
  refine⟨aD,fun bY kF=>?_⟩
  have kF:tok' t=some (.live bY):=kF
  have KU:(if t=d then u else τ t)=τ t:=aA a
  by_cases f:t=n
  .subst f
   rw[gi]at kF;cases kF
   exact⟨aa,C,KU,rfl,fun h=>⟨h,rfl⟩⟩
  .rw [Z a f]at kF
   exact⟨bY,kF,KU,rfl,fun h=>⟨h,rfl⟩⟩
 refine⟨b,_,cap,u,aP,M,nP,Q,?_,by rw[<-z];exact hle⟩
 rw[<-z]
 have o9:=B.o9 P
 refine⟨H.ew,H.cq,H.new,H.iP,H.lt,fun k D1 zz=>?_,H.jB,fun t A ax=>?_,fun t dc A Dk k aD aV f1 f2=>?_,fun t A k D1 ax zz cM=>?_,H.k6,fun t v A cO ax=>?_,fun m I K i1 pa d1 L g fo XB=>?_⟩
 .obtain ⟨aD,aV,p8,Wf⟩:=H.boxes k D1 zz
  exact⟨aD,aV,p8,Wf.imp rfl fun x v bd=>⟨e9.mono (c:=⟨w,S,fun k=>box k≠none,β,tok,τ⟩) (c':=⟨w,S,fun k=>box k≠none,β,tok',fun t=>if t=d then u else τ t⟩) ⟨fun _ _ h=>h,fun _ _ _=>rfl⟩ (fY.refl rfl rfl) hle bd.1,bd.2⟩⟩
 .by_cases a:t=d
  .subst a
   rw[gJ]at ax;cases ax
   rw[fd,ai rfl]
   exact .B7 jJ (fun U J=>B.1 U (dr i o U J).1) (fun U J=>o9 U (dr i o U J).1) e
  .rw [aA a]
   by_cases f:t=n
   .subst f
    rw[gi]at ax;cases ax
    rw[fn]
    obtain⟨aD,aV,bD⟩:=B
    refine⟨fun U J=>aD U J.1,?_,?_⟩
    .rcases aV with aV|⟨ba,oJ,anA,TH,W,cN,dO,iu,hv,oP,EZ,V9,Wa⟩
     .exact .inl aV
     .have V:=W
      rw[aP]at V
      have fO:b=ba:=by cases V;rfl
      refine .inr ⟨ba,oJ,anA,TH,W,⟨cN,fun XM=>(dr i o ba XM).2 fO.symm⟩,dO,iu,hv,oP,EZ,V9,fun i2 j kU p FR cU=>?_⟩
      obtain⟨oo,cP,_,hQ⟩:=Wa i2 j kU p FR cU
      exact⟨oo,cP,(fun h=>by cases h),hQ⟩
    .unfold hq at bD⊢
     rw[P]at bD
     obtain⟨g1,g2,g3,_⟩:=bD
     refine⟨g1,g2,fun U J=>g3 U J.1,.inr ⟨b,cap,fun i2 O k=>q i2 O k/\¬(i2=i/\O=o),aP,fun i2 O k B=>⟨⟨(dr i2 O k B.1).1,fun FD=>B.2 (wc i2 O i o k B.1 FD)⟩,(dr i2 O k B.1).2⟩,fun i2 O i3 rQ k cN dO=>wc i2 O i3 rQ k cN.1 dO.1,fun i2 O kU c2 FR WQ=>?_⟩⟩
     obtain⟨oo,cP,cI,hQ⟩:=nM i2 O kU c2 FR WQ
     refine⟨oo,by rw[cell_of_row w b _ bQ T (0,0) cr];exact cP,cI,fun X=>?_⟩
     have wu:¬(i2=i/\O=o):=fun⟨W,V⟩=>X.1 d (by rw[W,V];exact b6)
     exact(hQ (X.of fun _ h=>b7 _ h)).mono fun k FD=>⟨FD,wu⟩
   .rw [Z a f]at ax
    rw[c8 a f]
    exact H.bG t A ax
 .obtain ⟨m1,Jm,g1,g2,g3⟩:=own aD
  obtain⟨m2,anh,g4,g5,g6⟩:=own aV
  have em:=H.eF m1 m2 Jm anh k g1 g4 (g2 k f1) (g5 k f2)
  rcases g3 with⟨a,f⟩|⟨a,f⟩<;>rcases g6 with⟨W,V⟩|⟨W,V⟩
  .rw [a,W]
  .exfalso
   have:dc=n:=by rw[<-V,<-em,f]
   rw[a,fd]at f1
   rw[this,fn]at f2
   exact f2.2 f1
  .exfalso
   have:t=n:=by rw[<-f,em,V]
   rw[W,fd]at f2
   rw[this,fn]at f1
   exact f1.2 f2
  .rw [<-f,<-V];exact em
 .obtain ⟨m1,Jm,g1,g2,_⟩:=own ax
  exact H.fh m1 Jm k D1 g1 zz (g2 _ cM)
 .by_cases a:t=d
  .subst a;rw[X4]at cO;cases cO
  .rw [aA a]
   by_cases f:t=n
   .subst f;exact H.kS t v aa cO C
   .rw [Z a f]at ax;exact H.kS t v A cO ax
 .have cq:∀m I K,m≠d->tok m=some (.live I)->I.tr=some K->(i1,pa,d1)∈K->tok' d1≠none/\∀Jg,tok' d1=some (.live Jg)->∃b l cap,(if m=d then u else τ m)= .slice (some ⟨b,0,none⟩) l cap/\w.cell? ⟨b,i1*I.t.w+pa,none⟩=some (if d1=d then u else τ d1):=fun m I K Xu aD aV bD=>by
   obtain⟨g1,g2⟩:=H.fQ m I K i1 pa d1 aD aV bD XB
   obtain⟨a,g3⟩:=used g1
   refine⟨g3,fun Jg cN=>?_⟩
   rw[aA Xu,aA a]
   by_cases f:d1=n
   .exact g2 aa (f▸C)
   .rw [Z a f]at cN;exact g2 Jg cN
  by_cases a:m=d
  .subst a
   rw[gJ]at L;cases L
   exfalso
   simp only at g
   cases lf:r.cj with
   |true=>rw[lf]at g;cases g
   |false=>rw[lf]at g;cases g;cases fo
  .by_cases f:m=n
   .subst f
    rw[gi]at L;cases L
    simp only[ic]at g
    subst g
    rcases bm.1 fo with aD|aD
    .cases aD
     refine⟨by rw[gJ];simp,fun _ _=>⟨b,_,cap,by rw[aA a];exact aP,by rw[ai rfl];exact M⟩⟩
    .exact cq m aa Y a C P aD
   .rw [Z a f]at L
    exact cq m I K a L g fo
section
variable {E : Env} {o : Oper} {s : aX} {e : bO} {aK : c6}
theorem BZ (T:TypeId) (x:Operand) (j:o.op= .load T x) (ty:bw) (k:bU E.P T ty) (b:ty.agg=false) (a:Act) (w:World) (i:Addr) (p:a.eval x= .pointer (some i)) (u:Value) (hu:w.cell? i=some u):(execOp a.eval o).run E.P w= .ok (.value u) w:=by
 obtain⟨d,f,g⟩:=k.desc
 simp only[execOp,j,Instr.loadAt,p,Instr.sureAddr,Sem.run_bind,Sem.run_pure,Result.andThen_ok]
 rw[HK f (g.trans b) w _ u hu]
 rfl
theorem EK {o:Nat}:∀ {a:List (Nat×Nat×Nat)} {i d:Nat},nH o a=some (i,d)->(i,o,d)∈a
 | [],_,_,h=>by cases h
 |(i1,b,d1)::a,i,d,h=>by
  simp only[nH]at h
  cases he:Nat.beq b o with
  |true=>
   rw[he]at h
   simp only[cond,ic,Prod.mk.injEq]at h
   obtain⟨rfl,rfl⟩:=h
   rw[yl he]
   exact b6
  |false=>
   rw[he]at h
   exact b7 _ (EK h)
theorem za {o:Nat}:∀ {b:List (Nat×Nat×Nat)},nH o b=none->∀i d,(i,o,d)∉b
 | [],_,i,d,a=>by cases a
 |(i1,f,d1)::b,h,i,d,a=>by
  simp only[nH]at h
  cases he:Nat.beq f o with
  |true=>rw[he]at h;cases h
  |false=>
   rw[he]at h
   rcases bm.1 a with aD|aD
   .cases aD;rw[Nat.beq_refl]at he;cases he
   .exact za h i d aD
theorem JS {r:List (Nat×Nat×Nat)}:∀(m i q:Nat) (f:List ar->bh) (az rt:List Nat),(yB r i q m f).R s az rt e aK->∃ds:List Nat,ds.length=m/\(∀(j d:Nat),ds[j]? =some d->(i,q+j,d)∈r/\d≠gone/\∃b,aF s.T d=some (.live b))/\∃a,(f (ds.map ar.aw)).R s az a e aK
 |0,i,q,f,az,rt,h=>⟨[],rfl,(fun j d h=>by simp at h),rt,h⟩
 |m+1,i,q,f,az,rt,h=>by
  unfold yB at h
  split at h
  case h_2=>exact h.elim
  rename_i z u g
  obtain⟨rfl,h⟩:=h
  split at h
  .exact h.elim
  rename_i y
  simp only[bh.R]at h
  split at h
  case h_2=>exact h.elim
  rename_i b k
  obtain⟨ds,aD,aV,a,bD⟩:=JS m _ (q+1) _ _ _ h
  refine⟨u::ds,by simp[aD],fun j d p=>?_,a,bD⟩
  cases j with
  |zero=>simp at p;subst p;exact⟨EK g,y,b,k⟩
  |succ j=>have:=aV j d (by simpa using p);rwa[show q+(j+1)=q+1+j from by omega]
theorem Ie {i:Nat}:∀(a:List (Nat×Nat×Nat)) (f:bh) (az rt:List Nat),(xA a i f).R s az rt e aK->(∀k m,(k,m,gone)∈a->k<=i)/\f.R s az rt e aK
 | [],f,az,rt,h=>⟨(fun k m h=>by cases h),h⟩
 |y::a,f,az,rt,h=>by
  unfold xA at h
  cases b:Nat.beq y.2.2 gone with
  |true=>
   rw[b]at h
   obtain⟨aD,h⟩:=h
   obtain⟨aV,bD⟩:=Ie a f az rt h
   refine⟨fun k m hm=>?_,bD⟩
   rcases bm.1 hm with e|hm
   .subst e;exact aD
   .exact aV k m hm
  |false=>
   rw[b]at h
   obtain⟨aV,bD⟩:=Ie a f az rt h
   refine⟨fun k m hm=>?_,bD⟩
   rcases bm.1 hm with e|hm
   .subst e;rw[Nat.beq_refl]at b;cases b
   .exact aV k m hm
theorem JW {c:Ctx} {τ:Nat->Value}:∀ds:List Nat,(∀d,d∈ds->ee c (.aw d) (τ d))->bs (ee c) (ds.map ar.aw) (ds.map τ)
 | [],_=>True.intro
 |d::ds,h=>⟨h d b6,JW ds fun x a=>h x (b7 _ a)⟩
theorem amJ (b9:eA E) (T:TypeId) (x:Operand) (cx:o.op= .load T x) (ty:bw) (n i q:Nat) (aa:Tok) (O:List (Nat×Nat×Nat)) (hx:E.ty T=some ty) (bd:s.aP x= .fr n i q) (g:aF s.T n=some (.live aa)) (J:aa.tr=some O)
  (h:(BX E o.dst ty n i q aa O).R s [] [n] e aK):cR E o s e:=by
 have dH:=b9.ty T ty hx
 unfold BX at h
 split at h
 .rename_i f
  obtain⟨ds,bK,bc,IV,h⟩:=JS _ _ _ _ _ _ h
  cases cY h
  refine oh fun R β τ F S a w L p=>?_
  have aD:=p x;rw[bd]at aD
  obtain⟨g1,g2,g3⟩:=pA aD
  obtain⟨b,l,cap,C,cb,P⟩:=g3 aa g
  refine xr (c:=s.ctx w S β τ) T x cx ty dH a w b (i*aa.t.w+q) P (ds.map ar.aw) (ds.map τ) (JW ds fun d hm=>?_) (fun j v bR=>?_) _ (.inl ⟨f,by simp[bK],rfl⟩)
  .obtain ⟨j,bR⟩:=sU.1 hm
   obtain⟨_,_,V,z⟩:=bc j d bR
   have bB:=(L.bG d V z).cell
   exact⟨jy ⟨bB,by show aF s.T d≠none;rw[z];simp,fun _ _=>rfl⟩,bB⟩
  .rw [ie]at bR
   obtain⟨d,l1,rfl⟩:=hJ.1 bR
   obtain⟨hm,gS,V,z⟩:=bc j d l1
   obtain⟨_,cI⟩:=L.fQ n aa O i (q+j) d g J hm gS
   obtain⟨bt,l6,H,U,M⟩:=cI V z
   rw[show(s.ctx w S β τ).τ n=τ n from rfl,U]at C
   cases C
   rw[mm]
   exact M
 rename_i f
 have f:ty.agg=false:=by simpa using f
 have hc:=Ie _ _ _ _ h
 clear h
 obtain⟨W,h⟩:=hc
 obtain⟨y,hy,h⟩:=h
 have hi:i<aa.xs.length:=(dx.1 hy).1
 simp only at h
 split at h
 .rename_i r X A
  split at h
  .rename_i eI a6 I
   obtain⟨rfl,h⟩:=h
   split at h
   .exact h.elim
   rename_i zD
   simp only[bh.R]at h
   split at h
   case h_2=>exact h.elim
   rename_i V z
   cases cY h
   refine oh fun R β τ F S a w L p=>?_
   have aD:=p x;rw[bd]at aD
   obtain⟨g1,g2,g3⟩:=pA aD
   obtain⟨b,l,cap,C,cb,P⟩:=g3 aa g
   obtain⟨cP,cI⟩:=L.fQ n aa O eI q a6 g J (EK I) zD
   obtain⟨bt,l6,H,U,M⟩:=cI V z
   rw[show(s.ctx w S β τ).τ n=τ n from rfl,U]at C
   cases C
   refine⟨τ a6,BZ T x cx ty dH f a w _ P _ M,?_⟩
   refine⟨?_,cP,fun _ _=>rfl⟩
   exact(L.bG a6 V z).cell
  .rename_i I
   split at h
   case h_2=>exact h.elim
   rename_i d de IF anY lV wg
   simp only[bh.R]at h
   split at h
   case h_2=>exact h.elim
   rename_i bc
   split at h
   .exact h.elim
   rename_i Y
   obtain⟨rfl,_⟩:=h
   rintro R a w e3 ⟨β,τ,F,S,L,cD,gp,Z⟩ K Q dP
   have p:=hL Z
   have aD:=p x;rw[bd]at aD
   obtain⟨g1,g2,g3⟩:=pA aD
   obtain⟨b,l,cap,C,cb,P⟩:=g3 aa g
   obtain⟨bt,l6,H,u,U,M,k9,yp,iK,hle⟩:=L.split n aa O g J i q y hy r X A ⟨za I i,fun k hm=>W k gone hm⟩ d bc (e3.gi (by simpa using Y)) de
   rw[show(s.ctx w S β τ).τ n=τ n from rfl,U]at C
   cases C
   have iL:=BZ (E:=E) T x cx ty dH f a w _ P u M
   refine jt iL (dP _ _ (jT (e:=⟨.aw d,[],[(n,some (.live {aa with tr:=some ((i,q,d)::O)})),(d,some (.live ⟨r,X,de,true,true,bif r.cj then none else some []⟩))]⟩) iK cD gp ?_ o.dst (.inr ?_)))
   .exact l7 (c:=s.ctx w S β τ) (c':=⟨w,S,fun k=>aY s.B k≠none,β,updT (updT (aF s.T) n (some (.live {aa with tr:=some ((i,q,d)::O)}))) d (some (.live ⟨r,X,de,true,true,bif r.cj then none else some []⟩)),fun t=>if t=d then u else τ t⟩) ⟨fun _ _ h=>h,fun _ _ _=>rfl⟩ (fY.refl rfl rfl) hle Z
   .refine ⟨k9,?_,fun bY _=>?_⟩
    .show updT _ d _ d≠none
     simp[updT]
    .show u=if d=d then u else τ d
     rw[ai rfl]
 .rename_i t X aoB A
  split at h
  case isFalse=>exact h.elim
  rename_i lW
  split at h
  case h_2=>exact h.elim
  rename_i I
  cases cY h
  refine oh fun R β τ F S a w L p=>?_
  have aD:=p x;rw[bd]at aD
  obtain⟨g1,g2,g3⟩:=pA aD
  obtain⟨b,l,cap,C,cb,P⟩:=g3 aa g
  obtain⟨bt,H,bQ,c7,sk,aP,au,cr,bI,mH,hm,dr,wc,nM⟩:=(L.bG n aa g).Ik J hi
  rw[show(s.ctx w S β τ).τ n=τ n from rfl,aP]at C
  cases C
  obtain⟨u,cP,cI,hQ⟩:=nM i q y _ hy A
  have jJ:=hQ ⟨za I i,fun k hm=>W k gone hm⟩
  refine⟨u,BZ T x cx ty dH f a w _ P u (by rw[cell_of_row w b _ bQ c7 (0,0) cr];exact cP),?_⟩
  obtain⟨t0,kq,n8,U,M,k9⟩:=jJ.rep (S:=fun _ _=>True) (fun _ _ _=>True.intro)
  cases U
  have bK:=jI t X lW n8 (by rw[M];simp)
  exact⟨n8,M,HI k9 bK⟩
 .exact h.elim
end
theorem HR {a b:Nat} (h:Nat.blt a b=true):a<b:=Eq.mp Nat.blt_eq h
theorem J8 {a b:Nat} (h:a<b):Nat.blt a b=true:=Eq.mpr Nat.blt_eq h
theorem C0 :∀(t:aH) (x:t.D) (o:Nat) (r:aH) (ys:List r.D),hZ t o=some (.av r)->cellsOf t (setCell t x o r ys)=(cellsOf t x).set o (.ag (.av r) ys)
 | .pair a b,x,o,r,ys,h=>by
  simp only[hZ]at h
  simp only[setCell,cellsOf]
  cases d:Nat.blt o a.w with
  |true=>
   rw[d]at h
   have f:o<a.w:=HR d
   simp only[cond]at h⊢
   rw[C0 a x.1 o r ys h,List.set_append_left _ _ (by rw[k8];exact f)]
  |false=>
   rw[d]at h
   have g:a.w<=o:=by
    rcases Nat.lt_or_ge o a.w with aD|aD
    .rw [J8 aD]at d;cases d
    .exact aD
   simp only[cond]at h⊢
   rw[C0 b x.2 (o-a.w) r ys h,List.set_append_right _ _ (by rw[k8];exact g),k8]
 | .av i,x,o,r,ys,h=>by
  match o,h with
  |0,h=>
   simp only[hZ,ic,aH.av.injEq]at h
   subst h
   simp only[setCell,cellsOf,List.set_cons_zero]
   rfl
  |o+1,h=>simp[hZ]at h
 | .q,x,o,r,ys,h=>by
  match o,h with
  |0,h=>simp[hZ]at h
  |1,h=>simp[hZ]at h
  |2,h=>
   simp only[hZ,ic,aH.av.injEq]at h
   subst h
   rfl
  |3,h=>simp[hZ]at h
  |4,h=>simp[hZ]at h
  |5,h=>
   simp only[hZ,ic,aH.av.injEq]at h
   subst h
   rfl
  |o+6,h=>simp[hZ]at h
 | .unit,_,_,_,_,h=>by simp[hZ]at h
 | .bool,_,o,_,_,h=>by cases o<;>simp[hZ]at h
 | .int _,_,o,_,_,h=>by cases o<;>simp[hZ]at h
 | .str,_,o,_,_,h=>by cases o<;>simp[hZ]at h
 | .opt _,_,o,_,_,h=>by cases o<;>simp[hZ]at h
theorem am0 (tok:Nat->Option bb) (d:Nat):eO tok [d]=updT tok d (some .eg):=by
 funext t
 simp only[eO,updT,c1]
theorem Mem.n9 {R:ed} {w:World} {S:bW} {box:Nat->Option cf} {tok:Nat->Option bb} {β:Nat->Nat} {τ:Nat->Value} {F:Nat->Nat->Prop} (P:Mem R box tok β τ F S w) (n:Nat) (aa:Tok) (i o d:Nat) (aS:List (Nat×Nat×Nat)) (I:tok n=some (.live aa)) (J:aa.tr=some ((i,o,d)::aS))
  (a:Tok) (z:tok d=some (.live a)) (rD:a.whole=true) (kJ:a.wr=true) (LF:a.deep=true) (lW:a.tr=none->a.t.cj=true) (Z:d≠n) (oQ:hZ aa.t o=some (.av a.t)) (zD:d≠gone):
  ∃yp,Mem R box (updT (updT tok d (some .eg)) n (some (.live {aa with xs:=aa.xs.modify i fun y=>setCell aa.t y o a.t a.xs,tr:=some aS}))) β τ yp S w/\
   ha ⟨w,S,fun k=>box k≠none,β,tok,τ⟩ ⟨w,S,fun k=>box k≠none,β,updT (updT tok d (some .eg)) n (some (.live {aa with xs:=aa.xs.modify i fun y=>setCell aa.t y o a.t a.xs,tr:=some aS})),τ⟩:=by
 have bx:=P.bG n aa I
 obtain⟨H,Q,Wl,Wm⟩:=(P.bG d a z).given rD kJ LF lW
 have hwrn:=(bx.tree J).1
 obtain⟨K,g⟩:∃K:Tok,K={aa with xs:=aa.xs.modify i fun y=>setCell aa.t y o a.t a.xs,tr:=some aS}:=⟨_,rfl⟩
 have U:Step (fun _=>False) S S w w:=⟨hr.refl _ _,fun _ _ _=>rfl,fun _ _ h=>h,fun _ _ h=>.inl h,P.lt⟩
 have hlen:(aa.xs.modify i fun y=>setCell aa.t y o a.t a.xs).length=aa.xs.length:=by simp
 have Wo:∀b,H b->R.dm b/\b<w.heap.size:=fun b V=>(P.bG d a z).1 b (Q b V)
 have iv:cg R.dm w S K (τ n) (fun b=>F n b\/H b):=by
  rw[g]
  refine⟨fun b V=>V.elim (bx.1 b) (Wo b),?_,?_⟩
  .rcases bx.2.1 with⟨cy,cb⟩|⟨b,cap,bQ,T,cy,aD,cr,bI,cD,hm,nO,Yd,L⟩
   .exact .inl ⟨cy,by show aa.xs.modify i _=[];rw[cb];simp⟩
   .refine .inr ⟨b,cap,bQ,T,by rw[hlen];exact cy,.inl aD,cr,bI,by rw[hlen];exact cD,hm,(fun h=>by rw[show aa.wr=true from hwrn]at h;cases h),Yd,fun i2 j x p A cU=>?_⟩
    have M:i2<aa.xs.length:=by have:=(dx.1 A).1;simpa using this
    have bR:j<aa.t.w:=by have:=(dx.1 cU).1;rwa[en]at this
    obtain⟨u,cP,_⟩:=L i2 j aa.xs[i2] ((enc aa.t aa.xs[i2])[j]'(by rw[en];exact bR)) (bH M) (bH _)
    exact⟨u,cP,(fun h=>by cases h),fun h=>by rw[hwrn]at h;cases h⟩
  .have bD:=bx.2.2
   unfold hq at bD⊢
   rw[J]at bD
   obtain⟨g1,g2,g3,dH⟩:=bD
   refine⟨g1,g2,fun b V=>V.elim (g3 b) (Wl b),?_⟩
   rcases dH with dH|⟨b,cap,q,de,dr,bc,nM⟩
   .exact .inl dH
   .have WH:F n b:=bx.block de
    have W:∀k,H k->¬F n k:=fun k aD aV=>Z (P.eF d n a aa k z I (Q k aD) aV)
    refine .inr ⟨b,cap,fun i2 f k=>if i2=i/\f=o then H k else q i2 f k,by rw[hlen];exact de,fun i2 f k r=>?_,fun i2 f i3 rQ k aD aV=>?_,fun i2 f x c A L=>?_⟩
    .simp only at r
     split at r
     .exact ⟨.inr r,fun e=>W k r (e▸WH)⟩
     .exact ⟨.inl (dr i2 f k r).1,(dr i2 f k r).2⟩
    .simp only at aD aV
     split at aD<;>split at aV
     .rename_i bD cN;exact⟨bD.1.trans cN.1.symm,bD.2.trans cN.2.symm⟩
     .exact absurd (dr i3 rQ k aV).1 (W k aD)
     .exact absurd (dr i2 f k aD).1 (W k aV)
     .exact bc i2 f i3 rQ k aD aV
    .have M:i2<aa.xs.length:=by have:=(dx.1 A).1;simpa using this
     have bR:f<aa.t.w:=lR L
     obtain⟨c0,X⟩:=th aa.xs[i2] bR
     obtain⟨u,cP,cI,hQ⟩:=nM i2 f aa.xs[i2] c0 (bH M) X
     refine⟨u,cP,cI,fun O=>?_⟩
     rw[List.getElem?_modify,bH M]at A
     simp only[Option.map_eq_map,ou,ic]at A
     by_cases B:i2=i/\f=o
     .have rk:(fun k=>if i2=i/\f=o then H k else q i2 f k)=H:=by funext k;rw[ai B]
      show Deep w (fun k=>if i2=i/\f=o then H k else q i2 f k) u c
      rw[rk]
      obtain⟨cy,cb⟩:=B
      subst cy;subst cb
      rw[ai rfl]at A
      rw[<-A,C0 aa.t _ f a.t a.xs oQ,List.getElem?_set_self (by rw[k8];exact bR)]at L
      cases L
      obtain⟨ba,ajX,oJ,di,gA⟩:=(P.fQ n aa _ i2 f d I J b6 zD).2 a z
      rw[de]at di;cases di
      rw[cP]at gA
      cases gA
      exact Wm
     .have rk:(fun k=>if i2=i/\f=o then H k else q i2 f k)=q i2 f:=by funext k;rw[aA B]
      show Deep w (fun k=>if i2=i/\f=o then H k else q i2 f k) u c
      rw[rk]
      have Y:c=c0:=by
       by_cases LP:i2=i
       .subst LP
        rw[ai rfl]at A
        rw[<-A,C0 aa.t _ o a.t a.xs oQ,List.getElem?_set_ne (fun e=>B ⟨rfl,e.symm⟩),X]at L
        cases L;rfl
       .rw [aA (Ne.symm LP)]at A
        rw[<-A,X]at L
        cases L;rfl
      rw[Y]
      refine hQ ⟨fun a6 C=>?_,fun k C=>?_⟩
      .rcases bm.1 C with aD|aD
       .cases aD;exact B ⟨rfl,rfl⟩
       .exact O.1 a6 aD
      .rcases bm.1 C with aD|aD
       .cases aD;exact absurd rfl zD
       .exact O.2 k aD
 obtain⟨aD,aV⟩:=P.turn n aa K I [d] (by simp[Ne.symm Z]) (fun _=>False) U (fun _ h=>h.elim) (fun b=>F n b\/H b) (fun b V=>V.imp id fun h=>⟨d,a,by simp,z,Q b h⟩) iv (by rw[g]) (fun h=>by rw[hwrn]at h;cases h)
  (fun l3 eI sa a6 he C _=>by
   rw[g]at he
   simp only[ic]at he
   subst he
   exact⟨_,J,b7 _ C,fun _ _ _ _=>rfl⟩)
 rw[am0,g]at aD aV
 exact⟨_,aD,aV⟩
theorem alf {R:ed} {s:aX} {a:Act} {w:World} (n:Nat) (h:Rel R s a w):Rel R {s with T:=uT s.T n} a w:=by
 unfold uT
 split
 case h_2=>exact h
 rename_i aa b
 split
 case h_2=>exact h
 rename_i i o d z f
 split
 case h_2=>exact h
 rename_i g j
 split
 case isFalse=>exact h
 rename_i A
 obtain⟨C,c2,c3,c4,c5,H,I⟩:=A
 obtain⟨β,τ,F,S,J,K,p,r⟩:=h
 obtain⟨L,u,hle⟩:=J.n9 n aa i o d z b f g j C c2 c3 c4 c5 H I
 refine⟨β,τ,L,S,by simp only[mP];exact u,K,p,fun k=>?_⟩
 have:=bo.mono (c:=s.ctx w S β τ) (c':=⟨w,S,fun k=>aY s.B k≠none,β,updT (updT (aF s.T) d (some .eg)) n (some (.live {aa with xs:=aa.xs.modify i fun y=>setCell aa.t y o g.t g.xs,tr:=some z})),τ⟩) ⟨fun _ _ h=>h,fun _ _ _=>rfl⟩ (fY.refl rfl rfl) hle (r k)
 unfold aX.ctx
 simp only[mP]
 exact this
theorem QV {R:ed} {a:Act} {w:World}:∀(k:Nat) (eE:List Nat) (s:aX),Rel R s a w->Rel R {s with T:=Iv k eE s.T} a w
 |0,_,s,h=>h
 |k+1,eE,s,h=>by
  have key:∀(l:List Nat) (s:aX),Rel R s a w->Rel R {s with T:=l.foldl uT s.T} a w:=fun l=>by
   induction l with
   |nil=>exact fun s h=>h
   |cons n l b=>exact fun s h=>b {s with T:=uT s.T n} (alf n h)
  exact QV k eE {s with T:=eE.foldl uT s.T} (key eE s h)
theorem QU {R:ed} {s:aX} {a:Act} {w:World} (h:Rel R s a w):Rel R {s with T:=Cn s.T} a w:=by
 unfold Cn
 cases s.T.any Mq with
 |true=>exact QV 8 _ s h
 |false=>exact h
section
variable {E : Env} {o : Oper} {s : aX} {e : bO} {aK : c6}
inductive yr (s:aX):ar->ar->List Nat->Prop
 |tok (t:Nat) (aa:Tok) (h:aF s.T t=some (.live aa)) (aD:aa.whole=true) (aV:aa.wr=true) (bD:aa.deep=true) (cN:aa.tr=none->aa.t.cj=true):yr s (.aw t) (.ag (.av aa.t) aa.xs) [t]
 |flat (t:aH) (x:t.D) (h:t.cj=true):yr s (.ag t x) (.ag t x) []
 |nil:yr s .aQ .aQ []
inductive pM (s:aX):List ar->List ar->List Nat->Prop
 |nil:pM s [] [] []
 |cons {c c':ar} {n:List Nat} {l l6:List ar} {eE:List Nat} (h:yr s c c' n) (bK:pM s l l6 eE) (bc:∀t,t∈n->t∉eE):pM s (c::l) (c'::l6) (n++eE)
theorem zi :∀(l:List ar) (f:List ar->List (Nat×Option bb)->bh) (az rt:List Nat),(tw l f).R s az rt e aK->∃cs eE a,pM s l cs eE/\(f cs (eE.map fun t=>(t,some bb.eg))).R s az a e aK
 | [],f,az,rt,h=>⟨[],[],rt,.nil,h⟩
 |c::l,f,az,rt,h=>by
  unfold tw at h
  split at h
  .rename_i t
   simp only[bh.R]at h
   split at h
   case h_2=>exact h.elim
   rename_i aa g
   split at h
   case isFalse=>exact h.elim
   rename_i j
   obtain⟨k,c2,c3,c4⟩:=j
   obtain⟨cs,eE,a,aD,aV⟩:=zi l _ _ _ h
   split at aV
   .exact aV.elim
   rename_i d
   refine⟨_,[t]++eE,a,.cons (.tok t aa g k c2 c3 c4) aD (fun i b=>?_),aV⟩
   simp only[c1]at b
   subst b
   exact yD (Bool.eq_false_iff.2 d)
  .rename_i t x
   split at h
   case isFalse=>exact h.elim
   rename_i p
   obtain⟨cs,eE,a,aD,aV⟩:=zi l _ _ _ h
   exact⟨_,[]++eE,a,.cons (.flat t x p) aD (fun i b=>by cases b),aV⟩
  .obtain ⟨cs,eE,a,aD,aV⟩:=zi l _ _ _ h
   exact⟨_,[]++eE,a,.cons .nil aD (fun i b=>by cases b),aV⟩
  .exact h.elim
theorem pM.len {l cs:List ar} {eE:List Nat} (h:pM s l cs eE):cs.length=l.length:=by
 induction h with
 |nil=>rfl
 |cons h bK bc a=>simp[a]
theorem pM.mem {R:ed} {w:World} {S:bW} {β:Nat->Nat} {τ:Nat->Value} {F:Nat->Nat->Prop} (K:Mem R (aY s.B) (aF s.T) β τ F S w) {l cs:List ar} {eE:List Nat} (h:pM s l cs eE):∀(vals:List Value),bs (ee (s.ctx w S β τ)) l vals->
  ∃g:Nat->Nat->Prop,(∀k b,g k b->(∃t aa,t∈eE/\aF s.T t=some (.live aa)/\F t b)/\∀o,¬S b o)/\(∀k r b,g k b->g r b->k=r)/\∀(k:Nat) (c c':ar) (v:Value),cs[k]? =some c->oy c c'->vals[k]? =some v->Deep w (g k) v c':=by
 induction h with
 |nil=>exact fun vals _=>⟨fun _ _=>False,fun _ _ h=>h.elim,fun _ _ _ h=>h.elim,fun k c c' v h=>by simp at h⟩
 | @cons c0 O n l l6 eE h bK bc P=>
  intro vals y
  match vals,y with
  |v0::vals,y=>
  obtain⟨g,L,Q,U⟩:=P vals y.2
  obtain⟨G,aD,aV⟩:∃G:Nat->Prop,(∀b,G b->(∃t aa,t∈n/\aF s.T t=some (.live aa)/\F t b)/\∀o,¬S b o)/\∀c',oy O c'->Deep w G v0 c':=by
   cases h with
   |tok t aa h aD aV bD cN=>
    obtain⟨G,g1,g2,g3⟩:=(K.bG t aa h).given aD aV bD cN
    refine⟨G,fun b d=>⟨⟨t,aa,by simp,h,g1 b d⟩,g2 b d⟩,fun c' u=>?_⟩
    obtain⟨t0,M,f,rfl⟩:=u
    simp only[ar.as]at f
    split at f
    .rename_i H
     subst H
     cases f
     have:v0=τ t:=(jX (gQ y.1.1)).2.2 aa h
     rw[this];exact g3
    .cases f
   |flat t x h=>
    refine⟨fun _=>False,fun _ h=>h.elim,fun c' u=>?_⟩
    obtain⟨t0,M,f,rfl⟩:=u
    simp only[ar.as]at f
    split at f
    .rename_i H
     subst H
     cases f
     obtain⟨p,he,V⟩:=ye (gQ y.1.1)
     have bK:=jI _ _ h p (by rw[he];simp)
     exact .lit _ _ _ _ p he bK (og V bK)
    .cases f
   |nil=>
    refine⟨fun _=>False,fun _ h=>h.elim,fun c' u=>?_⟩
    obtain⟨t0,M,f,rfl⟩:=u
    cases t0 with
    |av X=>
     cases f
     have e:v0= .slice none 0 0:=y.1.1
     rw[e]
     exact .nil _ _
    |_=>cases f
  refine⟨fun k=>match k with|0=>G|k+1=>g k,fun k b d=>?_,fun k r b d a=>?_,fun k c c' v z u i=>?_⟩
  .match k,d with
   |0,d=>
    obtain⟨⟨t,aa,f,A,C⟩,I⟩:=aD b d
    exact⟨⟨t,aa,e8 _ f,A,C⟩,I⟩
   |k+1,d=>
    obtain⟨⟨t,aa,f,A,C⟩,I⟩:=L k b d
    exact⟨⟨t,aa,kW _ f,A,C⟩,I⟩
  .have j:∀k b,G b->g k b->False:=fun k b d a=>by
    obtain⟨⟨t,aa,f,A,C⟩,_⟩:=aD b d
    obtain⟨⟨W,J,f1,f2,f3⟩,_⟩:=L k b a
    have:=K.eF t W aa J b A f2 C f3
    subst this
    exact bc t f f1
   match k,r,d,a with
   |0,0,_,_=>rfl
   |0,r+1,d,a=>exact(j r b d a).elim
   |k+1,0,d,a=>exact(j k b a d).elim
   |k+1,r+1,d,a=>rw[Q k r b d a]
  .match k,z,i with
   |0,z,i=>
    simp at z i
    subst z;subst i
    exact aV c' u
   |k+1,z,i=>exact U k c c' v (by simpa using z) u (by simpa using i)
theorem Ep {i q size:Nat}:∀(g:List (Nat×Nat×Nat)) (f:List (Nat×Nat×Nat)->bh) (az rt:List Nat),(vO i q size g f).R s az rt e aK->∃b,(f b).R s az rt e aK/\(∀x,x∈b->x∈g/\¬(q<=x.2.1/\x.2.1<q+size))/\∀x,x∈g->x∈b\/(x.1=i/\q<=x.2.1/\x.2.1<q+size)
 | [],f,az,rt,h=>⟨[],h,(fun x a=>by cases a),(fun x a=>by cases a)⟩
 |y::g,f,az,rt,h=>by
  simp only[vO]at h
  cases d:(Nat.ble q y.2.1&&Nat.blt y.2.1 (q+size))with
  |true=>
   rw[d]at h
   simp only[bk]at d
   have ej:=Nat.le_of_ble_eq_true d.1
   have ba:=HR d.2
   obtain⟨hi,h⟩:=h
   obtain⟨b,aD,aV,bD⟩:=Ep g f az rt h
   refine⟨b,aD,fun x a=>⟨b7 _ (aV x a).1,(aV x a).2⟩,fun x a=>?_⟩
   rcases bm.1 a with rfl|a
   .exact .inr ⟨hi,ej,ba⟩
   .exact bD x a
  |false=>
   rw[d]at h
   obtain⟨b,aD,aV,bD⟩:=Ep g _ az rt h
   refine⟨y::b,aD,fun x a=>?_,fun x a=>?_⟩
   .rcases bm.1 a with rfl|a
    .refine ⟨b6,fun⟨j,c2⟩=>?_⟩
     rw[Bool.and_eq_false_iff]at d
     rcases d with d|d
     .rw [Nat.ble_eq_true_of_le j]at d;cases d
     .rw [J8 c2]at d;cases d
    .exact ⟨b7 _ (aV x a).1,(aV x a).2⟩
   .rcases bm.1 a with rfl|a
    .exact .inl b6
    .exact (bD x a).imp (b7 _) id
end
section
variable {E : Env} {o : Oper} {s : aX} {e : bO} {aK : c6}
theorem T1 {t:aH} {x:t.D} {c:ar} (h:oy (.ag t x) c):c= .ag t x:=by
 obtain⟨a,b,aD,rfl⟩:=h
 simp only[ar.as]at aD
 split at aD
 .rename_i e;subst e;cases aD;rfl
 .cases aD
theorem Uw {t:aH} (x:t.D) {j:Nat} {c:ar} (h:(cellsOf t x)[j]? =some c):∃a b,c= .ag a b:=by
 obtain⟨p,_,a,b,aD,_⟩:=(k7 t x).get j c h
 exact⟨a,b,aD⟩
theorem amP (b9:eA E) (T:TypeId) (x y:Operand) (cx:o.op= .store T x y) (ty:bw) (n i q:Nat) (aa:Tok) (aS:List (Nat×Nat×Nat)) (ys:List ar) (hx:E.ty T=some ty) (bd:s.aP x= .fr n i q) (mI:aF s.T n=some (.live aa)) (L:aa.tr=some aS) (hy:(s.aP y).cells? =some ys) (cD:ys.length=ty.size) (lV:o.dst=none)
  (h:(C7 n i q ty.size ys aa aS).R s [] [n] e aK):cR E o s e:=by
 unfold C7 at h
 split at h
 case isFalse=>exact h.elim
 rename_i wz
 obtain⟨wz,aoE,Xc⟩:=wz
 obtain⟨cs,eE,IV,qd,h⟩:=zi ys _ _ _ h
 split at h
 .exact h.elim
 rename_i WD
 have L5:n∉eE:=yD (Bool.eq_false_iff.2 WD)
 obtain⟨l3,h,Xb,wh⟩:=Ep aS _ _ _ h
 obtain⟨cq,hold,h⟩:=h
 simp only at h
 split at h
 case h_2=>exact h.elim
 rename_i hn qg
 obtain⟨rfl,_⟩:=h
 rintro R a w e3 ⟨β,τ,F,S,dG,gT,gp,fR⟩ K Q dP
 have fG:=hL fR
 have h:=fG x
 rw[bd]at h
 obtain⟨q3,aoJ,an0,aP,tG,cU⟩:=(pA h).2.2 aa mI
 rw[show(s.ctx w S β τ).τ n=τ n from rfl]at aP
 have bB:=ti hy (fG y)
 have I:=dG.bG n aa mI
 have hwrn:=(I.tree L).1
 have WS:=(I.tree L).2
 have Z:i<aa.xs.length:=(dx.1 hold).1
 obtain⟨b,cap,bQ,c7,sk,p3,hd,cr,bI,mH,hm,dr,wc,nM⟩:=I.Ik L Z
 have Vn:b=q3:=by rw[p3]at aP;cases aP;rfl
 subst Vn
 obtain⟨Jl,z,hi,Fv,_⟩:=(b9.ty T ty hx).info
 have bK:=bB.len
 have rz:(a.eval y).cells.toList.length=ty.size:=by rw[<-bK,cD]
 have WJ:i*aa.t.w+aa.t.w<=aa.xs.length*aa.t.w:=by
  have:(i+1)*aa.t.w<=aa.xs.length*aa.t.w:=eh _ Z
  rwa[ey,Nat.one_mul]at this
 have Yh:aa.xs.length*aa.t.w<=bQ.size:=by rw[bI];exact eh _ mH
 have rB:∀v∈(a.eval y).cells.toList,v.oneCell'=true:=fun v cO=>by
  obtain⟨j,bR,rfl⟩:=fe.1 cO
  exact(bB.get' j (ys[j]'(by omega)) _ (by simp) (by simp)).2
 have wB:=run_storeCells_at E.P b (i*aa.t.w+q) c7 (a.eval y).cells.toList 0 bQ w cr (by omega) rB
 obtain⟨r,mJ⟩:∃r:Array Value,r=(bQ.toList.take (i*aa.t.w+q)++(a.eval y).cells.toList++bQ.toList.drop (i*aa.t.w+q+(a.eval y).cells.toList.length)).toArray:=⟨_,rfl⟩
 have cE:(execOp a.eval o).run E.P w= .ok .skip (w.setRow b r):=by
  have mL:(a.eval y).cells.size=Jl.size:=by rw[Fv,<-cD,bK];simp
  simp only[lH]at wB
  simp only[execOp,cx,Instr.storeAt,cU,Instr.sureAddr,storeVar,sizeOf,typeInfo,hi,Sem.run_bind,Sem.run_pure,Result.andThen_ok,run_program]
  simp[hi,mL,wB,mJ]
 have mK:r.toList=bQ.toList.take (i*aa.t.w+q)++(a.eval y).cells.toList++bQ.toList.drop (i*aa.t.w+q+(a.eval y).cells.toList.length):=by rw[mJ]
 have lX:∀k,r[k]? =if i*aa.t.w+q<=k/\k<i*aa.t.w+q+ty.size then(a.eval y).cells.toList[k-(i*aa.t.w+q)]? else bQ[k]? :=fun k=>by
  rw[<-jY,mK,sz _ _ _ (by rw[rz,kY];omega),rz]
  simp
 have qh:r.size=bQ.size:=by
  rw[<-kY,mK]
  simp only[a1,bX,eY,rz,kY]
  omega
 have A:∀k,k≠b->(w.setRow b r).heap[k]? =w.heap[k]? :=fun k I=>setRow_other w b k _ I
 have ke:(w.setRow b r).heap.size=w.heap.size:=by simp[World.setRow]
 have Ff:∀ba n2,S ba n2->(w.setRow b r).cell? ⟨ba,n2,none⟩=w.cell? ⟨ba,n2,none⟩:=fun ba n2 C=>World.cell?_of_block (w:=w) (A ba (fun e=>I.o9 L b hd n2 (e▸C)))
 have oT:Step (fun k=>k=b) S S w (w.setRow b r):=⟨⟨rfl,rfl,rfl,by rw[ke];exact bC _,fun k _ I=>A k I⟩,Ff,fun _ _ h=>h,fun _ _ h=>.inl h,fun ba n2 h=>by rw[ke];exact dG.lt ba n2 h⟩
 have H:(w.setRow b r).heap[b]? =some (.cells r c7 (0,0)):=setRow_heap w b bQ _ c7 (0,0) cr
 obtain⟨g,zH,W2,W3⟩:=qd.mem dG _ bB
 have Fo:∀k ba,g k ba->¬F n ba:=fun k ba C cM=>by
  obtain⟨⟨t,va,cy,U,di⟩,_⟩:=zH k ba C
  have:=dG.eF t n va aa ba U mI di cM
  exact L5 (this▸cy)
 have LL:∀k ba,g k ba->ba≠b:=fun k ba C e=>Fo k ba C (e▸hd)
 have M:cs.length=ty.size:=by rw[qd.len,cD]
 have Mc:=HW aa.t _ hn qg
 have div:∀i2 f,f<aa.t.w->((i*aa.t.w+q<=i2*aa.t.w+f/\i2*aa.t.w+f<i*aa.t.w+q+ty.size)↔(i2=i/\q<=f/\f<q+ty.size)):=fun i2 f bR=>by
  constructor
  .rintro ⟨aD,aV⟩
   rcases sT i2 i with gf|he|gf
   .have:(i2+1)*aa.t.w<=i*aa.t.w:=eh _ gf
    rw[ey]at this;omega
   .subst he;omega
   .have:(i+1)*aa.t.w<=i2*aa.t.w:=eh _ gf
    rw[ey]at this;omega
  .rintro ⟨rfl,aD,aV⟩;omega
 have hlen:(aa.xs.set i hn).length=aa.xs.length:=by simp
 obtain⟨V,O⟩:∃V:Tok,V={aa with xs:=aa.xs.set i hn,tr:=some l3}:=⟨_,rfl⟩
 have Ut:∀(i2 f:Nat) (kU:aa.t.D) (c:ar),(aa.xs.set i hn)[i2]? =some kU->(cellsOf aa.t kU)[f]? =some c->(i2=i/\q<=f/\f<q+ty.size/\∃c0,cs[f-q]? =some c0/\oy c0 c)\/(¬(i2=i/\q<=f/\f<q+ty.size)/\∃kq,aa.xs[i2]? =some kq/\(cellsOf aa.t kq)[f]? =some c):=fun i2 f kU c J W=>by
  have bR:f<aa.t.w:=lR W
  by_cases he:i2=i
  .subst he
   rw[List.getElem?_set_self Z]at J
   cases J
   have Fx:((cellsOf aa.t cq).take q++cs++(cellsOf aa.t cq).drop (q+ty.size)).length=(cellsOf aa.t hn).length:=Mc.len
   have mG:f<((cellsOf aa.t cq).take q++cs++(cellsOf aa.t cq).drop (q+ty.size)).length:=by rw[Fx,k8];exact bR
   obtain⟨JE,zO⟩:∃JE,((cellsOf aa.t cq).take q++cs++(cellsOf aa.t cq).drop (q+ty.size))[f]? =some JE:=⟨_,bH mG⟩
   have has:=Mc.get' f _ c zO W
   have X:=sz (cellsOf aa.t cq) cs q (by rw[k8,M];exact wz) f
   rw[M,zO]at X
   by_cases qe:q<=f/\f<q+ty.size
   .rw [ai qe]at X
    exact .inl ⟨rfl,qe.1,qe.2,JE,X.symm,has⟩
   .rw [aA qe]at X
    obtain⟨t0,kq,tp⟩:=Uw cq X.symm
    subst tp
    rw[T1 has]
    exact .inr ⟨fun h=>qe ⟨h.2.1,h.2.2⟩,cq,hold,X.symm⟩
  .rw [List.getElem?_set_ne (Ne.symm he)]at J
   exact .inr ⟨fun h=>he h.1,kU,J,W⟩
 have Wn:∀ba,(F n ba\/ ∃k,g k ba)->R.dm ba/\ba<w.heap.size:=fun ba C=>by
  rcases C with C|⟨k,C⟩
  .exact I.1 ba C
  .obtain ⟨⟨t,va,cy,U,di⟩,_⟩:=zH k ba C
   exact(dG.bG t va U).1 ba di
 have iv:cg R.dm (w.setRow b r) S V (τ n) (fun ba=>F n ba\/ ∃k,g k ba):=by
  rw[O]
  refine⟨fun ba C=>by rw[ke];exact Wn ba C,.inr ⟨b,cap,r,c7,by rw[hlen];exact p3,.inl hd,H,by rw[qh];exact bI,by rw[hlen];exact mH,hm,(fun h=>by rw[show aa.wr=true from hwrn]at h;cases h),fun _=>I.o9 L b hd,fun i2 j kU p J cU=>?_⟩,?_⟩
  .have tF:i2<aa.xs.length:=by have:=(dx.1 J).1;simpa using this
   have bR:j<aa.t.w:=by have:=(dx.1 cU).1;rwa[en]at this
   have gf:i2*aa.t.w+j<r.size:=by
    rw[qh]
    have:(i2+1)*aa.t.w<=aa.xs.length*aa.t.w:=eh _ tF
    rw[ey]at this;omega
   exact⟨_,Dy gf,(fun h=>by cases h),fun h=>by rw[show aa.wr=true from hwrn]at h;cases h⟩
  .unfold hq
   simp only
   refine⟨hwrn,WS,fun ba C=>?_,?_⟩
   .rcases C with C|⟨k,C⟩
    .exact I.o9 L ba C
    .exact (zH k ba C).2
   .refine .inr ⟨b,cap,fun i2 f ba=>if i2=i/\q<=f/\f<q+ty.size then g (f-q) ba else sk i2 f ba,by rw[hlen];exact p3,fun i2 f ba Y=>?_,fun i2 f i3 rQ ba aD aV=>?_,fun i2 f kU c J W=>?_⟩
    .simp only at Y
     split at Y
     .exact ⟨.inr ⟨_,Y⟩,LL _ _ Y⟩
     .exact ⟨.inl (dr i2 f ba Y).1,(dr i2 f ba Y).2⟩
    .simp only at aD aV
     split at aD<;>split at aV
     .rename_i bD cN
      have:=W2 _ _ _ aD aV
      exact⟨bD.1.trans cN.1.symm,by omega⟩
     .exact absurd (dr i3 rQ ba aV).1 (Fo _ _ aD)
     .exact absurd (dr i2 f ba aD).1 (Fo _ _ aV)
     .exact wc i2 f i3 rQ ba aD aV
    .have bR:f<aa.t.w:=lR W
     have LH:=div i2 f bR
     rcases Ut i2 f kU c J W with⟨cy,U,di,c0,gA,fO⟩|⟨wx,kq,cy,U⟩
     .have wj:f-q<(a.eval y).cells.toList.length:=by rw[rz];omega
      have cO:=bH wj
      have jJ:=W3 (f-q) c0 c _ gA fO cO
      have FO:r[i2*aa.t.w+f]? =some (a.eval y).cells.toList[f-q]:=by
       rw[lX,ai (LH.2 ⟨cy,U,di⟩),<-cO]
       subst cy
       congr 1;omega
      refine⟨_,by rw[cell_of_row _ b _ r c7 (0,0) H];exact FO,jJ.one,fun _=>?_⟩
      have rk:(fun ba=>if i2=i/\q<=f/\f<q+ty.size then g (f-q) ba else sk i2 f ba)=g (f-q):=by funext k;rw[ai ⟨cy,U,di⟩]
      show Deep _ (fun ba=>if i2=i/\q<=f/\f<q+ty.size then g (f-q) ba else sk i2 f ba) _ c
      rw[rk]
      exact jJ.same fun k I=>A k (LL _ _ I)
     .obtain ⟨u,cP,cI,hQ⟩:=nM i2 f kq c cy U
      have FO:r[i2*aa.t.w+f]? =some u:=by
       rw[lX,aA (fun h=>wx (LH.1 h))];exact cP
      refine⟨u,by rw[cell_of_row _ b _ r c7 (0,0) H];exact FO,cI,fun L6=>?_⟩
      have rk:(fun ba=>if i2=i/\q<=f/\f<q+ty.size then g (f-q) ba else sk i2 f ba)=sk i2 f:=by funext k;rw[aA wx]
      show Deep _ (fun ba=>if i2=i/\q<=f/\f<q+ty.size then g (f-q) ba else sk i2 f ba) _ c
      rw[rk]
      refine(hQ ⟨fun d fo=>?_,fun k fo=>?_⟩).same fun k I=>A k (dr i2 f k I).2
      .rcases wh (i2,f,d) fo with aD|aD
       .exact L6.1 d aD
       .exact wx aD
      .rcases wh (k,gone,gone) fo with aD|aD
       .exact L6.2 k aD
       .have aV:gone<q+ty.size:=aD.2.2
        omega
 obtain⟨aD,aV⟩:=dG.turn n aa V mI eE L5 (fun k=>k=b) oT (fun k I=>I▸hd) (fun ba=>F n ba\/ ∃k,g k ba) (fun ba C=>C.imp id fun⟨k,C⟩=>by
   obtain⟨⟨t,va,cy,U,di⟩,_⟩:=zH k ba C
   exact⟨t,va,cy,U,di⟩) iv (by rw[O]) (fun h=>by rw[hwrn]at h;cases h)
  (fun rC eI sa a6 he fo _=>by
   rw[O]at he
   simp only[ic]at he
   subst he
   obtain⟨cP,cI⟩:=Xb _ fo
   refine⟨aS,L,cP,fun ba ajX oJ U=>?_⟩
   rw[p3]at U;cases U
   rw[cell_of_row _ b _ r c7 (0,0) H,cell_of_row w b _ bQ c7 (0,0) cr,lX,aA ?_]
   rintro⟨g1,g2⟩
   have bR:sa<aa.t.w:=HR (cA.1 Xc _ cP)
   exact cI ((div eI sa bR).1 ⟨g1,g2⟩).2)
 have hu:(⟨.bM [],[],(eE.map fun t=>(t,some bb.eg))++ [(n,some (.live {aa with xs:=aa.xs.set i hn,tr:=some l3}))]⟩:bO).updT (aF s.T)=updT (eO (aF s.T) eE) n (some (.live V)):=by
  rw[O]
  simp only[bO.updT,hU,C5,eR,List.foldl_nil]
 refine Jx cE (dP _ _ (jT (s:=s) (e:=⟨.bM [],[],(eE.map fun t=>(t,some bb.eg))++ [(n,some (.live {aa with xs:=aa.xs.set i hn,tr:=some l3}))]⟩) (by rw[hu];exact aD) gT gp ?_ o.dst (.inl lV)))
 rw[hu]
 exact l7 (c:=s.ctx w S β τ) (c':=⟨w.setRow b r,S,fun k=>aY s.B k≠none,β,updT (eO (aF s.T) eE) n (some (.live V)),τ⟩) ⟨fun _ _ h=>h,Ff⟩ (fY.refl rfl rfl) aV fR
theorem JD {c:Ctx} {w:World} {F:Nat->Prop}:∀(l l6:List ar) (b:List Value),zeroDeep l=true->bs oy l l6->bs (ee c) l b->bs (fun x v=>Deep w F v x) l6 b
 | [],[],[],_,_,_=>True.intro
 |x::l,g::l6,v::b,h,f,d=>by
  have key:zeroDeep l=true/\Deep w F v g:=by
   obtain⟨t0,r,a,i⟩:=f.1
   subst i
   cases x with
   |ag t y=>
    simp only[zeroDeep,bk]at h
    refine⟨h.2,?_⟩
    simp only[ar.as]at a
    split at a
    .rename_i j
     subst j
     cases a
     obtain⟨p,he,k⟩:=ye (gQ d.1.1)
     have bK:=jI _ _ h.1 p (by rw[he];simp)
     exact .lit _ _ _ _ p he bK (og k bK)
    .cases a
   |aQ=>
    refine⟨h,?_⟩
    cases t0 with
    |av u=>
     cases a
     have e:v= .slice none 0 0:=d.1.1
     rw[e]
     exact .nil _ _
    |_=>cases a
   |_=>cases h
  exact⟨key.2,JD l l6 b key.1 f.2 d.2⟩
 | [],_::_,_,_,h,_=>h.elim
 |_::_,[],_,_,h,_=>h.elim
 | [],[],_::_,_,_,h=>h.elim
 |_::_,_::_,[],_,_,h=>h.elim
theorem amL (b9:eA E) (T:TypeId) (l c:Operand) (cx:o.op= .makeSlice T l c) (h:(cF E o.op o.dst s.aP).R s [] [] e aK):cR E o s e:=by
 rw[cx]at h
 simp only[cF]at h
 split at h
 case h_2=>exact h.elim
 rename_i d ty lV hx
 have dH:=b9.ty T ty hx
 split at h
 case h_2=>exact h.elim
 rename_i M r j8 he
 split at h
 case h_2=>exact h.elim
 rename_i De FK
 have Wy:=b9.ty M De FK
 split at h
 case h_2=>exact h.elim
 rename_i z bI
 split at h
 case isFalse=>exact h.elim
 rename_i W
 obtain⟨Yl,FW⟩:=W
 obtain⟨Hv,n,Xt,h⟩:=yh h
 obtain⟨BO,m,Fg,h⟩:=yh h
 obtain⟨⟨XD,Xx,wu,aoC⟩,h⟩:=h
 subst XD
 simp only[bh.R]at h
 split at h
 .exact h.elim
 rename_i bc
 split at h
 .exact h.elim
 rename_i l2
 obtain⟨hu,qf,fy,O,jM,gT,mF,Mg,jg⟩:=dH.elem _ _ _ he
 obtain⟨Yt,z2,U,X2,wF,Ym,mE⟩:=Wy.info
 rw[jM]at U;cases U
 rw[Mg]at wF;cases wF
 obtain⟨N,qa⟩:∃N:Nat,n=(N:Int):=⟨n.toNat,(pC Xx).symm⟩
 subst qa
 simp only[er]at h
 have fin:∀(wr:Bool) (aa:Tok),aa.t=r->(oV:HEq aa.xs (List.replicate N z))->aa.wr=wr->aa.whole=true->
   (∀(R:ed) (w w':World) (S S':bW),S'=u3 wr S w.heap.size (N*r.w)->(∀b o,S b o->b<w.heap.size)->R.dm w.heap.size->w'.heap.size=w.heap.size+1->(∃J c7,w'.heap[w.heap.size]? =some (.cells J c7 (0,0))/\J.size=N*r.w/\∀i j,i<N->j<r.w->∀c',(cellsOf r z)[j]? =some c'->∃u,J[i*r.w+j]? =some u/\Deep w' (fun _=>False) u c')->cg R.dm w' S' aa (.slice (some ⟨w.heap.size,0,none⟩) N N) (fun b=>b=w.heap.size))->
   e=⟨mT d aa,[],[(d,some (.live aa))]⟩->cR E o s e:=fun wr aa ax oV hw rD bx he=>by
  subst he
  rintro R a w e3 ⟨β,τ,F,S,X,cD,gp,fR⟩ K Q dP
  have fG:=hL fR
  have bK:a.eval l= .int Hv (N:Int):=kT (Xt▸fG l)
  have B:a.eval c= .int BO (N:Int):=kT (Fg▸fG c)
  have g:=run_make (P:=E.P) w T M fy O hu jM Mg Hv BO (N:Int) (N:Int) (by omega) (iF _) (by rw[mF,Int.mul_comm];omega) (by omega)
  simp only[er,gT]at g
  obtain⟨w',L⟩:∃w',w'=w.alloc (.cells (madeCells O.cells (N*r.w)) M):=⟨_,rfl⟩
  rw[<-L]at g
  have iL:(execOp a.eval o).run E.P w= .ok (.value (.slice (some ⟨w.heap.size,0,none⟩) N N)) w':=by
   simp only[execOp,cx,bK,B,Sem.run_bind,g,Result.andThen_ok,Sem.run_pure]
  have V:Below w.heap.size w w':=by rw[L];exact(Below.refl _ _).alloc (bC _) _
  have wv:w'.heap[w.heap.size]? =some (.cells (madeCells O.cells (N*r.w)) M (0,0)):=by rw[L];exact heap_alloc_new w _
  have C:w'.heap.size=w.heap.size+1:=by rw[L];simp
  obtain⟨S',f⟩:∃S':bW,S'=u3 wr S w.heap.size (N*r.w):=⟨_,rfl⟩
  have tB:∀b q,S b q->S' b q:=fun b q h=>by rw[f];exact .inl h
  have E9:∀b q,S' b q->S b q\/w.heap.size<=b:=fun b q h=>by
   rw[f]at h
   rcases h with h|⟨_,rfl,_⟩
   .exact .inl h
   .exact .inr (bC _)
  have E8:∀b q,S' b q->b<w'.heap.size:=fun b q h=>by
   rw[f]at h
   rcases h with h|⟨_,rfl,_⟩
   .have:=X.lt b q h;omega
   .omega
  have h3:=(X.drop (tok':=eO (aF s.T) []) (fun t ax=>oi ax) (fun t aa h=>(iV h).2)).grow V tB E9 E8
  have zO:=JD (w:=w') (F:=fun _=>False) De.zero (cellsOf r z) O.cells.toList FW (HW r _ z bI) (mE (s.ctx w S β τ))
  have iv:=bx R w w' S S' f X.lt (.inl X.size) C ⟨_,M,wv,size_madeCells _ _,fun i j hi bR c' WO=>by
   obtain⟨u,nP,oU⟩:=zO.get j c' WO
   refine⟨u,?_,oU⟩
   have H:i*r.w+j<N*r.w:=by
    have:(i+1)*r.w<=N*r.w:=eh _ hi
    rw[ey]at this;omega
   have wq:(i*r.w+j)%O.cells.size=j:=by
    rw[jg,k0,Nat.mul_add_mod]
    exact Nat.mod_eq_of_lt bR
   have L0:j<O.cells.size:=by rw[jg];exact bR
   have X7:O.cells[j]=u:=by
    rw[jY,Dy L0]at nP
    exact Option.some.inj nP
   simp only[madeCells,Array.getElem?_map,Array.getElem?_range,H,if_true,ou,wq,getElem!_pos O.cells j L0,X7]⟩
  exact jt iL (dP _ _ (qK (s:=s) [] h3 cD gp fR (fun _ _ _ _ _=>⟨tB,fun b q y=>(q4 V).1 b q (X.lt b q y)⟩) d bc (e3.gi (by simpa using l2)) aa _ _ iv rD
   (fun t bY b kI ax jL cM=>by have:=((X.bG t bY ax).1 _ cM).2;omega) (fun k b bx jL=>by have:=X.blt bx;omega) o.dst (by simp) _ rfl))
 have Y:N<=maxLen:=by simp only[maxLen];omega
 split at h
 ·
  rename_i kJ
  obtain⟨rfl,_⟩:=h
  refine fin true ⟨r,List.replicate N z,M,true,true,bif r.cj then none else some []⟩ rfl HEq.rfl rfl (by unfold Tok.whole;cases r.cj<;>rfl) (fun R w w' S S' f H Z C cO=>?_) (by simp[mT])
  obtain⟨J,c7,aD,aV,bD⟩:=cO
  have da:∀q,¬S' w.heap.size q:=fun q y=>by
   rw[f]at y
   rcases y with y|⟨y,_⟩
   .have:=H _ _ y;omega
   .cases y
  refine .B7 ?_ (fun b V=>by subst V;exact⟨Z,by omega⟩) (fun b V=>by subst V;exact da) M
  have:=Deep.av (w:=w') (fun b=>b=w.heap.size) N r (List.replicate N z) (fun i j=>(J[i*r.w+j]?).getD undef) w.heap.size (fun _ _ _=>False) J c7 rfl aD aV (by simp) Y (fun i j x c A B=>?_) (fun _ _ _ h=>h.elim) (fun _ _ _ _ _ h=>h.elim) (fun i j x c A B=>?_)
  .rwa [ym]at this
  all_goals
   obtain⟨hi,I⟩:i<N/\x=z:=by
    rw[List.getElem?_replicate]at A
    split at A
    .exact ⟨‹_›,(Option.some.inj A).symm⟩
    .cases A
   rw[I]at B
   obtain⟨u,cP,cI⟩:=bD i j hi (lR B) c B
   simp only[cP,mi]
  exact cI
 .rename_i kJ
  obtain⟨rfl,_⟩:=h
  refine fin false ⟨r,List.replicate N z,M,false,true,none⟩ rfl HEq.rfl rfl rfl (fun R w w' S S' f H Z C cO=>?_) (by simp[mT])
  obtain⟨J,c7,aD,aV,bD⟩:=cO
  have get:∀ {i:Nat} {x:r.D},(List.replicate N z)[i]? =some x->i<N/\x=z:=fun {i x} A=>by
   rw[List.getElem?_replicate]at A
   split at A
   .exact ⟨‹_›,(Option.some.inj A).symm⟩
   .cases A
  refine⟨fun b V=>by subst V;exact⟨Z,by omega⟩,.inr ⟨w.heap.size,N,J,c7,by simp,rfl,aD,aV,by simp,Y,fun _ q y=>?_,(fun h=>by cases h),fun i j x p A cU=>?_⟩,?_⟩
  .rw [f]at y
   simp only[ym]
   rcases y with y|⟨_,_,y⟩
   .have:=H _ _ y;omega
   .exact y
  .obtain ⟨hi,I⟩:=get A
   rw[I]at cU
   have bR:j<r.w:=by have:=(dx.1 cU).1;rwa[en]at this
   obtain⟨c,B⟩:=th z bR
   obtain⟨u,cP,cI⟩:=bD i j hi bR c B
   obtain⟨t0,kq,n8,cy,cb,di⟩:=cI.rep (S:=S') (fun _ _ h=>h.elim)
   obtain⟨t1,sM,gA,fO⟩:=(k7 r z).get' j c p B cU
   rw[cy]at gA;cases gA
   rw[cb]at fO;cases fO
   refine⟨u,cP,fun _=>di,fun _=>?_⟩
   rw[f]
   refine .inr ⟨rfl,rfl,?_⟩
   have:(i+1)*r.w<=N*r.w:=eh _ hi
   rw[ey]at this
   show i*r.w+j<N*r.w
   omega
  .show (true=true->Deep w' _ _ (.ag (.av r) (List.replicate N z)))
   intro _
   have:=Deep.av (w:=w') (fun b=>b=w.heap.size) N r (List.replicate N z) (fun i j=>(J[i*r.w+j]?).getD undef) w.heap.size (fun _ _ _=>False) J c7 rfl aD aV (by simp) Y (fun i j x c A B=>?_) (fun _ _ _ h=>h.elim) (fun _ _ _ _ _ h=>h.elim) (fun i j x c A B=>?_)
   .rwa [ym]at this
   all_goals
    obtain⟨hi,I⟩:=get A
    rw[I]at B
    obtain⟨u,cP,cI⟩:=bD i j hi (lR B) c B
    simp only[cP,mi]
   exact cI
end
theorem T4 (x y:ByteArray):(x==y)=(x.data==y.data):=by cases x;cases y;rfl
theorem amb {P:Program} {K:TypeId} {a:aH} (b:BP P K a):∃d,P.underlying K=some d/\(∀x:a.D,MapKept.IsKey d (ix a x))/\∀x y:a.D,Instr.sameNow d (ix a x) (ix a y)=some (a.hO x y):=by
 cases a with
 |int k=>exact⟨_,b,fun x=>rfl,fun x y=>by show(if k=k then some (x==y)else none)=some (decide (x=y));rw[ai rfl];exact congrArg some (vN x y)⟩
 |str=>exact⟨_,b,fun x=>True.intro,fun x y=>by
   show some (bytes x==bytes y)=some (decide (x=y))
   refine congrArg some ?_
   rw[T4]
   by_cases e:x=y
   .subst e;rw[aq rfl];simp
   .rw [ak e]
    cases f:((bytes x).data==(bytes y).data)with
    |false=>rfl
    |true=>
     have h:=eq_of_beq f
     have:bytes x=bytes y:=by cases g:bytes x;cases hy:bytes y;rw[g,hy]at h;simpa using h
     exact absurd (bytes_inj.1 this) e⟩
 |_=>exact b.elim
def uB (a b:aH) (x:a.D):List (a.D×b.D)->Nat->Option (Nat×b.D)
 | [],_=>none
 |e::l,i=>bif a.hO x e.1 then some (i,e.2)else uB a b x l (i+1)
theorem Qi (a b:aH) (x:a.D):∀(es:List (a.D×b.D)) (i:Nat),eJ a b es x=(uB a b x es i).map (·.2)
 | [],i=>rfl
 |e::l,i=>by
  have d:=Qi a b x l (i+1)
  unfold eJ at d⊢
  unfold uB
  rw[nm]
  cases a.hO x e.1 with
  |true=>rfl
  |false=>exact d
section
variable {E : Env} {o : Oper} {s : aX} {e : bO} {aK : c6}
theorem akf {c:Ctx} {x:ar} {v:Value} {t:aH} {y:t.D} (b:x.as t=some y) (h:bo c x v) {z:t.D} (ax:DC t=some z):v=ix t y/\enc t y=[match enc t y with| [p]=>p|_=>.bool false]/\∀p,enc t y=[p]->p.isLit=true:=by
 obtain⟨p,aD,aV⟩:=mx b h
 have bK:p.isLit=true:=by
  cases t with
  |bool=>cases aD;rfl
  |int _=>cases aD;rfl
  |str=>cases aD;rfl
  |_=>cases ax
 refine⟨?_,by rw[aD],fun q a=>by rw[aD]at a;cases a;exact bK⟩
 unfold ix
 rw[aD]
 exact og aV bK
theorem akg {P:Program} {K:TypeId} {a:aH} (b:BP P K a):∃z,DC a=some z:=by
 cases a with
 |int _=>exact⟨_,rfl⟩
 |str=>exact⟨_,rfl⟩
 |_=>exact b.elim
end
section
variable {E : Env} {o : Oper} {s : aX} {e : bO} {aK : c6}
theorem Qo {d:Nat} {r:aH} {xs:List r.D} {a:TypeId} {es:List (Nat×Option bb)} {az rt:List Nat} (h:(uF E d r xs a es).R s az rt e aK):
  aF s.T d=none/\(∀y,y∈es->y.1≠d)/\E.res d=false/\E.wr d=true/\r.cj=false/\e=⟨mT d ⟨r,xs,a,true,true,some []⟩,[],es++ [(d,some (.live ⟨r,xs,a,true,true,some []⟩))]⟩:=by
 unfold uF at h
 simp only[bh.R]at h
 split at h
 .exact h.elim
 .rename_i bc
  split at h
  .exact h.elim
  .rename_i b
   simp only[lB,not_or,Bool.not_eq_true]at b
   split at h
   case isFalse=>exact h.elim
   rename_i hw
   refine⟨bc,fun y hy e=>?_,b.2,hw.1,hw.2,h.1⟩
   have:=List.any_eq_false.1 b.1 y hy
   simp[e]at this
theorem akv {w:World} {S:bW} (X:Nat->Prop) (a:∀b o,S b o->b<w.heap.size) (β:Nat->Nat) (τ:Nat->Value) (F:Nat->Nat->Prop):
  Mem ⟨w,X,S,fun _=>none,fun _=>none⟩ (fun _=>none) (fun _=>none) β τ F S w where
 ew:=hr.refl _ _
 cq:=fun _ _ h=>h
 new:=fun _ _ h=>.inl h
 iP:=fun _ _ _=>rfl
 lt:=a
 boxes:=fun _ _ h=>by cases h
 jB:=fun _ _ _ _ h=>by cases h
 bG:=fun _ _ h=>by cases h
 eF:=fun _ _ _ _ _ h=>by cases h
 fh:=fun _ _ _ _ h=>by cases h
 k6:=fun _ _ h=>by cases h
 kS:=fun _ _ _ h=>by cases h
 fQ:=fun _ _ _ _ _ _ h=>by cases h
theorem amq (b9:eA E) (c:Call) (cx:o.op= .call c) (bB:c.callee= .builtin .append) (d:Nat) (x y:Operand) (T:TypeId) (ty:bw) (J:TypeId) (r:aH) (U t:Nat) (aa:Tok)
  (lV:o.dst=some d) (bd:c.args.toList=[x,y]) (dH:c.argTypes.toList=[T,T]) (hx:E.ty T=some ty) (he:ty.elem=some (J,r,U)) (wD:s.aP x= .aw t) (i:aF s.T t=some (.live aa)) (p2:aa.t=r/\aa.tr=some []) (Vo:aa.e=J)
  (h:(yG E d J r U t (p2.1▸aa.xs) (s.aP y)).R s [] [t] e aK):cR E o s e:=by
 obtain⟨p2,V⟩:=p2
 subst p2
 unfold yG at h
 split at h
 case h_2=>exact h.elim
 rename_i n hy
 simp only[bh.R]at h
 split at h
 case h_2=>exact h.elim
 rename_i u g
 split at h
 case isFalse=>exact h.elim
 rename_i cb
 obtain⟨cb,C⟩:=cb
 split at h
 .exact h.elim
 rename_i H
 have H:n≠t:=by simpa using H
 obtain⟨⟨L,tx⟩,h⟩:=h
 obtain⟨bc,tE,l2,kJ,lW,rfl⟩:=Qo h
 rintro R a w e3 ⟨β,τ,F,S,j,cD,gp,fR⟩ K Q dP
 have fG:=hL fR
 obtain⟨hu,qf,fy,z,jM,gT,mF,bI,jg⟩:=(b9.ty T ty hx).elem _ _ _ he
 have kD:c.args= #[x,y]:=by apply Array.ext';simpa using bd
 have p0:c.argTypes= #[T,T]:=by apply Array.ext';simpa using dH
 have aD:=fG x;rw[wD]at aD
 have aV:=fG y;rw[hy]at aV
 have sL:a.eval x=τ t:=(jX aD).2.2 aa i
 have Dt:a.eval y=τ n:=(jX aV).2.2 u g
 have M:=j.bG t aa i
 have A:=j.bG n u g
 have fu:aa.whole=true:=by unfold Tok.whole;rw[V]
 have Tg:u.whole=true:=by unfold Tok.whole;rw[C]
 have d1:=(M.tree V).2
 have d2:=(A.tree C).2
 have Tv:=A.Ef C
 obtain⟨fM,h3,E6,cP⟩:=j.ze t aa i fu
 obtain⟨yv,tz,E7,cI⟩:=h3.ze n u (by simp only[updT,aA H];exact g) Tg
 have ajL:=tz.bG t aa.jf (by simp only[updT,aA (Ne.symm H),if_true])
 obtain⟨X,lU⟩:∃X:Nat->Prop,X=fun b=>F t b\/F n b:=⟨_,rfl⟩
 have zE:∀b,F n b->¬F t b:=fun b g1 g2=>H (j.eF n t u aa b g i g1 g2)
 obtain⟨t2,W,aok,ao8,aog,ao0⟩:=u
 simp only at cb C d2
 subst cb
 subst C
 subst d2
 have f:cg (ed.dm ⟨w,X,yv,fun _=>none,fun _=>none⟩) w yv ⟨aa.t,aa.xs,J,false,true,none⟩ (τ t) (F t):=by
  have:=ajL.dm (Fr':=ed.dm ⟨w,X,yv,fun _=>none,fun _=>none⟩) (fun b f=>.inr (by rw[lU];exact .inl f))
  have di:aa.jf=⟨aa.t,aa.xs,J,false,true,none⟩:=by unfold Tok.jf;rw[<-Vo,<-d1]
  rw[di]at this
  exact this
 obtain⟨fi,w',S',iL,Y,hle,iv⟩:=J1 (P:=E.P) (akv (S:=yv) X tz.lt β τ F) T o.type J fy z aa.t U hu jM bI gT mF jg qf (τ t) (τ n) aa.xs W false true true (F t) (F n) f (ih.xy cI rfl) (fun _=>.inr ⟨Tv,zE⟩)
  (fun b f=>⟨.inr (by rw[lU];exact .inr f),(A.1 b f).2⟩) (fun _ _ _ h=>by cases h) (fun _ _ h=>by cases h) L tx
 have cE:(execOp a.eval o).run E.P w= .ok (.value fi) w':=by
  simp only[execOp,cx,resolve,bB,invoke,builtin,Sem.run_bind,Sem.run_pure,Result.andThen_ok,kD,p0,List.map_toArray,cv,pF,sL,Dt,iL]
 have Tw:=iv.nC rfl rfl
 have I:Step X S S w w':=by
  have O:∀b o,S b o->w'.cell? ⟨b,o,none⟩=w.cell? ⟨b,o,none⟩:=fun b o f=>Y.iP b o (E7 b o (E6 b o f))
  exact⟨Y.ew,O,fun _ _ h=>h,fun _ _ h=>.inl h,fun b o f=>kZ (j.lt b o f) Y.size⟩
 have E5:=(j.drop (tok':=eO (aF s.T) [t,n]) (fun t ax=>oi ax) (fun t aa h=>(iV h).2)).step I
  (fun k p=>by rw[lU]at p;rcases p with p|p;exact(M.1 k p).1;exact(A.1 k p).1)
  (fun k b p f=>by rw[lU]at f;rcases f with f|f;exact j.fh t aa k b i p f;exact j.fh n _ k b g p f)
  (fun Z B hP k p f=>by
   obtain⟨g1,g2⟩:=iV hP
   rw[lU]at f
   rcases f with f|f
   .exact g1 (by rw[j.eF Z t B aa k g2 i p f];simp)
   .exact g1 (by rw[j.eF Z n B _ k g2 g p f];simp))
 have wv:∀b,w.heap.size<=b->R.dm b:=fun b f=>.inl (dK j.size f)
 have Ww:cg R.dm w' S ⟨aa.t,aa.xs++W,J,true,true,some []⟩ fi (fun b=>(F t b\/F n b\/w.heap.size<=b)/\b<w'.heap.size):=by
  have:=cg.B7 (Fr:=R.dm) (S:=S) Tw (fun b f=>⟨by rcases f.1 with h|h|h;exact(M.1 b h).1;exact(A.1 b h).1;exact wv b h,f.2⟩) (fun b f o da=>by
   rcases f.1 with h|h|h
   .exact M.o9 V b h o da
   .exact A.o9 rfl b h o da
   .have:=j.lt b o da;omega) J
  rw[lW]at this
  exact this
 refine jt cE (dP _ _ (qK (s:=s) [t,n] E5 cD gp fR (fun live tok' HJ vo vp=>⟨fun _ _ h=>h,I.cell⟩) d bc (e3.gi l2) ⟨aa.t,aa.xs++W,J,true,true,some []⟩ fi _ Ww rfl (fun Z B b kI ax f cM=>?_) (fun k b p f=>?_) o.dst (fun fo=>?_) _ rfl))
 .rcases f.1 with h|h|h
  .exact kI (by rw[j.eF Z t B aa b ax i cM h];simp)
  .exact kI (by rw[j.eF Z n B _ b ax g cM h];simp)
  .have:=((j.bG Z B ax).1 b cM).2;omega
 .rcases f.1 with h|h|h
  .exact j.fh t aa k b i p h
  .exact j.fh n _ k b g p h
  .have:=j.blt p;omega
 .simp only [bm,qW,or_false]at fo
  rcases fo with rfl|rfl
  .rw [i]at bc;cases bc
  .rw [g]at bc;cases bc
theorem Tr {y:ar}:∀ {l:List ar},zeroDeep l=true->y∈l->zeroDeep [y]=true
 | [],_,h=>by cases h
 |x::l,a,h=>by
  have key:zeroDeep [x]=true/\zeroDeep l=true:=by
   cases x with
   |ag t y=>simp only[zeroDeep,bk,and_true]at a⊢;exact a
   |aQ=>simp only[zeroDeep]at a⊢;exact⟨trivial,a⟩
   |_=>cases a
  rcases bm.1 h with rfl|h
  .exact key.1
  .exact Tr key.2 h
theorem amu (b9:eA E) (T:TypeId) (len:Nat) (parts:Array (Nat×Operand)) (cx:o.op= .buildSlice T len parts) (d:Nat) (ty:bw) (A:TypeId) (r:aH) (j8:Nat) (cs:List ar) (xs:List r.D)
  (lV:o.dst=some d) (hx:E.ty T=some ty) (he:ty.elem=some (A,r,j8)) (zB:qC r.w 0 (parts.toList.map fun q=>(q.1,s.aP q.2))=some cs) (oV:qx r len cs=some xs) (hlen:len=parts.toList.length) (B:len*r.w<=16777216) (FW:zeroDeep cs=true)
  (h:(uF E d r xs A []).R s [] [] e aK):cR E o s e:=by
 have dH:=b9.ty T ty hx
 obtain⟨bc,_,O,kJ,lW,rfl⟩:=Qo h
 rintro R a w e3 ⟨β,τ,F,S,J,cD,gp,U⟩ K Q dP
 have fG:=hL U
 obtain⟨hu,H,fy,z,jM,gT,mF,bI,jg⟩:=dH.elem _ _ _ he
 obtain⟨kO,mU,uP,sf⟩:=Io fG r.w parts.toList 0 cs zB
 obtain⟨V,FT⟩:=HX r len cs xs oV
 obtain⟨vals,f⟩:∃vals,vals=parts.toList.map fun q=>a.eval q.2:=⟨_,rfl⟩
 have FP:vals.length=len:=by rw[f,hlen];simp
 have g:=Rw (P:=E.P) w T A (parts.toList.map fun q=>(q.1,a.eval q.2)) len r.w fy z hu jM bI gT jg H B vals (by rw[kO,<-f]) FP (by rw[f];exact mU)
 obtain⟨us,W⟩:∃us,us=(vals.map fun v=>v.cells.toList).flatten:=⟨_,rfl⟩
 have X:bs (ee (s.ctx w S β τ)) cs us:=by
  rw[W,f,ml];exact uP
 have zL:us.length=len*r.w:=by rw[<-X.len,sf,<-hlen]
 rw[<-W]at g
 have I:(execOp a.eval o).run E.P w= .ok (.value (.slice (some ⟨w.heap.size,0,none⟩) len len)) (w.alloc (.cells us.toArray A)):=by
  have Ey:(parts.map fun(i,x)=>(i,a.eval x))=(parts.toList.map fun q=>(q.1,a.eval q.2)).toArray:=by apply Array.ext';simp
  simp only[execOp,cx,Sem.run_bind,Ey,g,Result.andThen_ok,Sem.run_pure]
 obtain⟨w',C⟩:∃w',w'=w.alloc (.cells us.toArray A):=⟨_,rfl⟩
 rw[<-C]at I
 have L:Below w.heap.size w w':=by rw[C];exact(Below.refl _ _).alloc (bC _) _
 have Y:w'.heap[w.heap.size]? =some (.cells us.toArray A (0,0)):=by rw[C];exact heap_alloc_new w _
 have X1:w'.heap.size=w.heap.size+1:=by rw[C];simp
 have h3:=(J.drop (tok':=eO (aF s.T) []) (fun t ax=>oi ax) (fun t aa h=>(iV h).2)).grow L (fun _ _ h=>h) (fun _ _ h=>.inl h) (fun b q dr=>by have:=J.lt b q dr;omega)
 have zJ:len<=maxLen:=by
  have:len<=len*r.w:=Nat.le_mul_of_pos_right _ H
  simp only[maxLen];omega
 have p:∀(i j:Nat) (x:r.D) (c:ar),xs[i]? =some x->(cellsOf r x)[j]? =some c->∃u,us[i*r.w+j]? =some u/\Deep w' (fun _=>False) u c:=fun i j x c Z M=>by
  have bR:j<r.w:=lR M
  have dU:=FT i x Z
  have Lx:=dU.len
  rw[k8]at Lx
  obtain⟨y,hy⟩:∃y,((cs.drop (i*r.w)).take r.w)[j]? =some y:=⟨_,bH (by rw[Lx];exact bR)⟩
  have wE:=dU.get' j y c hy M
  rw[ho,ai bR,hT]at hy
  obtain⟨u,nP,oU⟩:=X.get _ _ hy
  exact⟨u,nP,(JD [y] [c] [u] (Tr FW (fc hy)) ⟨wE,True.intro⟩ ⟨oU,True.intro⟩).1⟩
 have jJ:Deep w' (fun b=>b=w.heap.size) (.slice (some ⟨w.heap.size,0,none⟩) len len) (.ag (.av r) xs):=by
  have:=Deep.av (w:=w') (fun b=>b=w.heap.size) len r xs (fun i j=>(us[i*r.w+j]?).getD undef) w.heap.size (fun _ _ _=>False) us.toArray A rfl Y (by simpa using zL) (by rw[V];exact bC _) zJ
   (fun i j x c Z M=>?_) (fun _ _ _ h=>h.elim) (fun _ _ _ _ _ h=>h.elim) (fun i j x c Z M=>?_)
  .rwa [V]at this
  .obtain ⟨u,aD,_⟩:=p i j x c Z M
   simp only[List.getElem?_toArray,aD,mi]
  .obtain ⟨u,aD,aV⟩:=p i j x c Z M
   simp only[aD,mi]
   exact aV
 have iv:cg R.dm w' S ⟨r,xs,A,true,true,some []⟩ (.slice (some ⟨w.heap.size,0,none⟩) len len) (fun b=>b=w.heap.size):=by
  have:=cg.B7 (Fr:=R.dm) (S:=S) jJ (fun b L=>by subst L;exact⟨.inl J.size,by omega⟩) (fun b L o da=>by subst L;have:=J.lt _ o da;omega) A
  rw[lW]at this
  exact this
 exact jt I (dP _ _ (qK (s:=s) [] h3 cD gp U (fun _ _ _ _ _=>⟨fun _ _ h=>h,fun b q dr=>(q4 L).1 b q (J.lt b q dr)⟩) d bc (e3.gi O) ⟨r,xs,A,true,true,some []⟩ _ _ iv rfl
  (fun t bY b kI ax jL cM=>by have:=((J.bG t bY ax).1 _ cM).2;omega) (fun k b bx jL=>by have:=J.blt bx;omega) o.dst (by simp) _ rfl))
theorem Mem.ia {R:ed} {w:World} {S:bW} {box:Nat->Option cf} {tok:Nat->Option bb} {β:Nat->Nat} {τ:Nat->Value} {F:Nat->Nat->Prop} (L:Mem R box tok β τ F S w) (n:Nat) (aa:Tok) (B:tok n=some (.live aa)) (f:aa.tr=some []):
  ∃S',Mem R box (updT tok n (some (.live aa.ia))) β τ F S' w/\(∀b o,S b o->S' b o):=by
 have z:=L.bG n aa B
 have M:=z.o9 f
 obtain⟨hw,_⟩:=z.tree f
 obtain⟨X,O,g⟩:=z
 obtain⟨S',a⟩:∃S':bW,S'=fun b o=>S b o\/(F n b/\∀l cap,τ n≠ .slice (some ⟨b,0,none⟩) l cap):=⟨_,rfl⟩
 have C:∀b o,S b o->S' b o:=fun b o h=>by rw[a];exact .inl h
 have y:Step (fun b=>F n b) S S' w w:=⟨hr.refl _ _,fun _ _ _=>rfl,C,fun b o h=>by
  rw[a]at h
  rcases h with h|h
  .exact .inl h
  .exact .inr (.inr h.1),fun b o h=>by
  rw[a]at h
  rcases h with h|h
  .exact L.lt b o h
  .exact (X b h.1).2⟩
 have P:cg R.dm w S' aa.ia (τ n) (F n):=by
  refine⟨X,?_,(fun h=>by cases h)⟩
  rcases O with⟨d,J⟩|⟨b,cap,Q,T,d,aD,Y,bI,cD,hm,nO,kJ,bB⟩
  .exact .inl ⟨d,J⟩
  .refine .inr ⟨b,cap,Q,T,d,aD,Y,bI,cD,hm,(fun h=>by have h:aa.wr=false:=h;rw[hw]at h;cases h),fun _ o A=>?_,fun i j x p Z U=>?_⟩
   .rw [a]at A
    rcases A with A|A
    .exact M b aD o A
    .exact A.2 _ _ d
   .obtain ⟨u,K,_⟩:=bB i j x p Z U
    have bR:j<aa.t.w:=by have:=(dx.1 U).1;rwa[en]at this
    refine⟨u,K,fun _=>?_,fun h=>by have h:aa.wr=false:=h;rw[hw]at h;cases h⟩
    unfold hq at g
    rw[f]at g
    obtain⟨_,_,Wk,V⟩:=g
    rcases V with V|⟨bt,H,q,de,dr,bc,W⟩
    .rw [V]at d;cases d
    .rw [de]at d;cases d
     obtain⟨c,I⟩:=th (r:=aa.t) x bR
     obtain⟨yc,g1,g2,g3⟩:=W i j x c Z I
     rw[cell_of_row w b _ Q T (0,0) Y]at g1
     have K:Q[i*aa.t.w+j]? =some u:=K
     rw[K]at g1
     cases g1
     obtain⟨t0,kq,n8,cN,dO,iu⟩:=(g3 (jx.nil _ _)).rep (S:=S') (fun k o z=>by
      rw[a]
      refine .inr ⟨(dr i j k z).1,fun l H J=>?_⟩
      rw[de]at J;cases J
      exact absurd rfl (dr i j b z).2)
     obtain⟨t1,sM,hv,oP⟩:=(k7 aa.t x).get' j c p I U
     rw[hv]at cN;cases cN
     rw[oP]at dO;cases dO
     exact iu
 exact⟨S',L.C1 n aa aa.ia B _ y (fun _ h=>h) P rfl (fun h=>by rw[hw]at h;cases h) rfl,C⟩
theorem amQ (y:ar) (k:Nat) (J:cR E o s ⟨y,[],[]⟩) (h:(Dj y).R s [k] [] e aK):cR E o s e:=by
 unfold Dj at h
 split at h
 case h_2=>exact h.elim
 rename_i n
 simp only[bh.R]at h
 split at h
 case h_2=>exact h.elim
 rename_i aa j
 split at h
 case isFalse=>exact h.elim
 rename_i d
 obtain⟨rfl,_⟩:=h
 intro R a w p f K Q M
 refine J R a w p f K Q fun O w' aD=>M O w' ?_
 obtain⟨β,τ,F,S,A,P,r,U⟩:=aD
 have C:aF (s.app o.dst ⟨.aw n,[],[(n,some (.live aa.ia))]⟩).T=updT (aF (s.app o.dst ⟨.aw n,[],[]⟩).T) n (some (.live aa.ia)):=by
  rw[nx,nx];rfl
 have H:(s.app o.dst ⟨.aw n,[],[(n,some (.live aa.ia))]⟩).L=(s.app o.dst ⟨.aw n,[],[]⟩).L:=by cases o.dst<;>rfl
 have I:(s.app o.dst ⟨.aw n,[],[(n,some (.live aa.ia))]⟩).B=(s.app o.dst ⟨.aw n,[],[]⟩).B:=by cases o.dst<;>rfl
 have b:aF (s.app o.dst ⟨.aw n,[],[]⟩).T n=some (.live aa):=by rw[nx];exact j
 obtain⟨hw,_⟩:=(A.bG n aa b).tree d
 obtain⟨S',u,z⟩:=A.ia n aa b d
 refine⟨β,τ,F,S',by rw[I,C];exact u,by rw[H];exact P,r,fun i=>?_⟩
 rw[H]
 unfold aX.ctx
 rw[I,C]
 exact bo.mono (c:=(s.app o.dst ⟨.aw n,[],[]⟩).ctx w' S β τ) (c':=⟨w',S',fun k=>aY (s.app o.dst ⟨.aw n,[],[]⟩).B k≠none,β,updT (aF (s.app o.dst ⟨.aw n,[],[]⟩).T) n (some (.live aa.ia)),τ⟩) ⟨z,fun _ _ _=>rfl⟩ (fY.refl rfl rfl) (fun t ax=>by
  by_cases e:t=n
  .subst e
   refine⟨by simp[updT],fun g h=>?_⟩
   simp only[updT,if_true,ic,bb.live.injEq]at h
   subst h
   exact⟨aa,b,rfl,rfl,fun h=>by rw[hw]at h;cases h⟩
  .refine ⟨by simp only[updT,aA e];exact ax,fun g h=>?_⟩
   simp only[updT,aA e]at h
   exact⟨g,h,rfl,rfl,fun h=>⟨h,rfl⟩⟩) (U i)
theorem amA (p:eA E) (T:TypeId) (x:Operand) (f:Nat) (r:o.op= .field T x f) (h:(cF E o.op o.dst s.aP).R s [] [] e aK):cR E o s e:=by
 rw[r]at h
 simp only[cF]at h
 split at h
 case h_2=>exact h.elim
 rename_i ty u
 split at h
 case h_2=>exact h.elim
 rename_i c8 off A
 split at h
 case h_2=>exact h.elim
 rename_i b g
 split at h
 case h_2=>exact h.elim
 rename_i cs L
 obtain⟨fields,hu,B⟩:=(p.ty T ty u).vW (by intro e;rw[e]at A;cases A)
 obtain⟨fd,i,M,O⟩:∃fd,fields[f]? =some fd/\fd.type=c8/\fd.offset=off:=by
  have:(fields.toList.map fun f=>(f.type,f.offset))[f]? =some (c8,off):=by rw[B];exact A
  rw[ie]at this
  obtain⟨fd,aD,aV⟩:=hJ.1 this
  cases aV
  exact⟨fd,by simpa using aD,rfl,rfl⟩
 subst M
 subst O
 obtain⟨vM,j,d⟩:=(p.ty _ b g).desc
 obtain⟨inf,z,hi,C,_⟩:=(p.ty _ b g).info
 have key:∀y,((b.agg=true/\fd.offset+b.size<=cs.length/\y= .agg ((cs.drop fd.offset).take b.size))\/(b.agg=false/\cs[fd.offset]? =some y))->cR E o s ⟨y,[],[]⟩:=fun y hy=>gI fun c a w hw F=>by
  have aD:=F x
  rw[L]at aD
  obtain⟨k,aP,J⟩:=aD
  rcases hy with⟨g1,g2,rfl⟩|⟨g1,g2⟩
  .refine ⟨.agg ((k.drop fd.offset).take b.size).toArray,?_,⟨_,rfl,(J.drop _).take _⟩⟩
   have ex:(k.toArray.extract fd.offset (fd.offset+b.size))=((k.drop fd.offset).take b.size).toArray:=by
    apply Array.ext'
    simp[List.extract_eq_take_drop]
   simp[execOp,r,Instr.field,run_underlying hu,i,aP,asAgg,Go.part,wP j,d,g1,sizeOf,typeInfo,hi,C,ex]
  .obtain ⟨v,K,H⟩:=J.get _ y g2
   refine⟨v,?_,gQ H.1⟩
   have P:k.toArray[fd.offset]? =some v:=by simpa using K
   simp[execOp,r,Instr.field,run_underlying hu,i,aP,asAgg,Go.part,wP j,d,g1,K]
 split at h
 .rename_i I
  split at h
  .cases cY h;exact key _ (.inl ⟨I, ‹_›,rfl⟩)
  .exact h.elim
 .rename_i I
  split at h
  .rename_i y hy
   cases cY h;exact key _ (.inr ⟨by simpa using I,hy⟩)
  .exact h.elim
end
section
variable {E : Env} {o : Oper} {s : aX} {e : bO} {aK : c6}
theorem C2 {x:ar} (h:∀R β τ F S (a:Act) w,ja E R->Mem R (aY s.B) (aF s.T) β τ F S w->(∀y,bo (s.ctx w S β τ) (s.aP y) (a.eval y))->∃v,(execOp a.eval o).run E.P w= .ok (.value v) w/\bo (s.ctx w S β τ) x v):cR E o s ⟨x,[],[]⟩:=by
 rintro R a w b ⟨β,τ,F,S,d,g,bc,f⟩ K Q i
 obtain⟨v,j,k⟩:=h R β τ F S a w b d (hL f)
 exact jt j (i _ _ (jT (e:=⟨x,[],[]⟩) d g bc f o.dst (.inr k)))
theorem amC (C:eA E) (T:TypeId) (x:Operand) (A:o.op= .load T x) (ty:bw) (g:Nat) (i:E.ty T=some ty) (H:x= .global g) (h:(zj ty g).R s [] [] e aK):cR E o s e:=by
 have B:=C.ty T ty i
 subst H
 unfold zj at h
 split at h
 .rename_i t y k
  obtain⟨z,rfl⟩:∃z,e=⟨z,[],[]⟩:=by
   split at h
   .split at h
    .exact ⟨_,cY h⟩
    .exact h.elim
   .split at h
    .exact ⟨_,cY h⟩
    .exact h.elim
  refine C2 fun R β τ F S a w d r u=>?_
  have I:j1 w S g 0 (enc t y):=d.2.2.later (X':=fun _=>False) r (fun _ _ h=>h) (fun _ h=>h.elim) g _ k
  obtain⟨O,J,v,aV,bD⟩:=HL (c:=s.ctx w S β τ) T (.global g) A ty B a w rfl g 0 t y 0 rfl (fun j p K=>(I j p K).2) h
  cases J
  exact⟨v,aV,bD⟩
 .rename_i P Q agg es k
  split at h
  .exact h.elim
  rename_i f
  cases cY h
  refine C2 fun R β τ F S a w d r u=>?_
  obtain⟨aD,b,fg,L,M,aV,bD,cN,U⟩:=d.2.2.later (X':=fun _=>False) r (fun _ _ h=>h) (fun _ h=>h.elim) g _ k
  exact⟨_,BZ T (.global g) A ty B (by simpa using f) a w _ rfl _ aV,aD,aV,rfl⟩
 .exact h.elim
theorem Rq (c:Ctx) {agg:Bool} {t:aH} (ax:t.cj=true) (hw:agg=false->t.w=1) (y:t.D):ga c (IQ agg t y) (lx agg t y):=by
 have lits:∀(t:aH) (y:t.D),t.cj=true->∀p,p∈enc t y->p.isLit=true:=by
  intro t
  induction t with
  |bool=>intro y _ p d;simp[enc]at d;subst d;rfl
  |int k=>intro y _ p d;simp[enc]at d;subst d;rfl
  |str=>intro y _ p d;simp[enc]at d;subst d;rfl
  |unit=>intro y _ p d;simp[enc]at d
  |pair a b f g=>
   intro y h p d
   simp only[aH.cj,bk]at h
   rcases cp.1 d with d|d
   .exact f _ h.1 p d
   .exact g _ h.2 p d
  |av r=>intro y h;cases h
  |opt r=>intro y h;cases h
  |q=>intro y h;cases h
 cases agg with
 |true=>
  refine⟨(enc t y).map fq,rfl,?_⟩
  have aD:=k7 t y
  have aV:=lits t y ax
  refine bs.uJ (by rw[aD.len,dX]) (fun i a b u j=>?_)
  rw[ie]at j
  obtain⟨p,d,rfl⟩:=hJ.1 j
  obtain⟨z,A,rfl,he⟩:=aD.get' i a p u d
  have bK:=aV p (fc d)
  exact⟨⟨p,he,bq.pc bK⟩,(bq.pc (w:=c.w) (S:=c.S) bK).one⟩
 |false=>
  have bK:(enc t y).length=1:=by rw[en];exact hw rfl
  obtain⟨p,d⟩:∃p,enc t y=[p]:=by
   match enc t y,bK with
   | [p],_=>exact⟨p,rfl⟩
  have e:lx false t y=fq p:=by show ix t y=_;unfold ix;rw[d]
  rw[e]
  exact⟨p,d,bq.pc (lits t y ax p (by rw[d];simp))⟩
theorem K1 {a:aH} {d:TypeDesc} (bc:∀x y:a.D,Instr.sameNow d (ix a x) (ix a y)=some (a.hO x y)) {b:aH} (agg:Bool) (x:a.D):∀(fg:List MapEntry) (es:List (a.D×b.D)) (i:Nat),fg.map (fun e=>(e.key,e.val))=es.map (fun x=>(ix a x.1,lx agg b x.2))->
  Instr.findNow d (ix a x) fg i=some ((uB a b x es i).map fun p=>(p.1,lx agg b p.2))
 | [],[],i,_=>rfl
 | [],_::_,i,h=>by cases h
 |_::_,[],i,h=>by cases h
 |e::fg,y::es,i,h=>by
  simp only[cv,List.cons.injEq,Prod.mk.injEq]at h
  obtain⟨⟨aD,aV⟩,bD⟩:=h
  unfold uB
  simp only[Instr.findNow,aD,bc]
  cases f:a.hO x y.1 with
  |true=>simp[aV]
  |false=>
   simp only[aj]
   exact K1 bc agg x fg es (i+1) bD
theorem V8 {x:ar} {g:Nat} (h:Lp x=some g):x= .iJ g:=by cases x<;>first|(cases h;rfl)|cases h
theorem amD (b9:eA E) (T:TypeId) (x i:Operand) (ok:Bool) (cx:o.op= .lookup T x i ok) (g:Nat) (bd:s.aP x= .iJ g) (h:(EV E T g (s.aP i) ok).R s [] [] e aK):cR E o s e:=by
 unfold EV at h
 split at h
 case h_2=>exact h.elim
 rename_i ty X
 split at h
 case h_2=>exact h.elim
 rename_i K V eb dD agg Y
 split at h
 case h_2=>exact h.elim
 rename_i j f k es cr
 split at h
 case isFalse=>exact h.elim
 rename_i A
 obtain⟨rfl,rfl,rfl⟩:=A
 obtain⟨key,I,z,bI,h⟩:=h
 simp only at h
 obtain⟨hu,dP,J,L,aoG,Tq,hi,M,hzero⟩:=(b9.ty T ty X).zk K V _ _ _ Y
 rw[bI]at M;cases M
 obtain⟨d,bc,O,C⟩:=amb dP
 obtain⟨apj,Z⟩:=akg dP
 have run:∀R β τ F S (a:Act) w,ja E R->Mem R (aY s.B) (aF s.T) β τ F S w->(∀y,bo (s.ctx w S β τ) (s.aP y) (a.eval y))->(Instr.lookup T (a.eval x) (a.eval i) ok).run E.P w= .ok (if ok then .tuple #[lx k f ((eJ j f es key).getD z),.bool (eJ j f es key).isSome]else lx k f ((eJ j f es key).getD z)) w:=fun R β τ F S a w u Q r=>by
  have aD:=r x
  rw[bd]at aD
  obtain⟨g1,b,fg,Kl,H,g2,g3,⟨g4,_,g6⟩,g5⟩:=u.2.2.later (X':=fun _=>False) Q (fun _ _ h=>h) (fun _ h=>h.elim) g _ cr
  have cU:a.eval x= .map (some b):=by
   have:=aD.2.1
   rw[show(s.ctx w S β τ).w=w from rfl,g2]at this
   exact(Option.some.inj this).symm
  have U:a.eval i=ix j key:=(akf I (r i) Z).1
  have W:=MapKept.run_findKey (w:=w) bc (K1 C k key fg.toList H 0 g4)
  have bB:=MapKept.run_checkKey (w:=w) bc (O key) fg.isEmpty 9999
  rw[<-g6 key,Qi j f key H 0]
  cases hm:uB j f key H 0 with
  |none=>
   rw[hm]at W
   cases ok<;>simp[Instr.lookup,run_underlying hu,cU,U,MapKept.run_getObj_map g3,bB,W,zeroValue,typeInfo,hi,hzero]
  |some p=>
   rw[hm]at W
   cases ok<;>simp[Instr.lookup,run_underlying hu,cU,U,MapKept.run_getObj_map g3,bB,W]
 cases ok with
 |true=>
  cases cY h
  refine C2 fun R β τ F S a w u Q r=>⟨.tuple #[lx k f ((eJ j f es key).getD z),.bool (eJ j f es key).isSome],?_,?_⟩
  .have:=run R β τ F S a w u Q r
   simp[execOp,cx,this]
  .exact ⟨[lx k f ((eJ j f es key).getD z),.bool (eJ j f es key).isSome],rfl,Rq _ J L _,qy _ _,True.intro⟩
 |false=>
  cases cY h
  refine C2 fun R β τ F S a w u Q r=>⟨lx k f ((eJ j f es key).getD z),?_,jz (Rq _ J L _)⟩
  have:=run R β τ F S a w u Q r
  simp[execOp,cx,this]
end
theorem zc {α ρ:Type _}:∀(l:List α) (K:List α->ρ),tv l K=K l
 | [],K=>rfl
 |x::l,K=>by rw[tv,zc l]
theorem anf {ρ:Type _} (s:aX) (K:aX->ρ):s.tidy K=K s:=by
 unfold aX.tidy
 rw[zc,zc,zc]
def jw (E:Env) (s b:aX):Prop:=∀R a w,ja E R->Rel R s a w->Rel R b a w
theorem jw.refl {E:Env} (s:aX):jw E s s:=fun _ _ _ _ h=>h
theorem jw.trans {E:Env} {s d b:aX} (h:jw E s d) (k:jw E d b):jw E s b:=fun R a w f g=>k R a w f (h R a w f g)
theorem V5 {E:Env} {s:aX} {n i o d e:Nat} {aa:Tok} {b:List (Nat×Nat×Nat)} (g:aF s.T n=some (.live aa)) (j:aa.tr=some b) (p:nH o b=none) (z:∀k,(k,gone,gone)∈b->k<=i) {y:aa.t.D} (hy:aa.xs[i]? =some y) {r:aH} {x:List r.D} (K:(cellsOf aa.t y)[o]? =some (.ag (.av r) x)) (bc:aF s.T d=none) (f:E.res d=false):
  jw E s {s with T:=jo (jo s.T n (some (.live {aa with tr:=some ((i,o,d)::b)}))) d (some (.live ⟨r,x,e,true,true,bif r.cj then none else some []⟩))}:=by
 rintro R a w A ⟨β,τ,F,S,L,M,C,H⟩
 obtain⟨P,l6,J,u,Q,U,V,O,I,hle⟩:=L.split n aa b g j i o y hy r x K ⟨za p i,z⟩ d bc (A.gi f) e
 refine⟨β,fun t=>if t=d then u else τ t,O,S,by simp only[mP];exact I,M,C,?_⟩
 have:=l7 (c:=s.ctx w S β τ) (c':=⟨w,S,fun k=>aY s.B k≠none,β,updT (updT (aF s.T) n (some (.live {aa with tr:=some ((i,o,d)::b)}))) d (some (.live ⟨r,x,e,true,true,bif r.cj then none else some []⟩)),fun t=>if t=d then u else τ t⟩) ⟨fun _ _ h=>h,fun _ _ _=>rfl⟩ (fY.refl rfl rfl) hle H
 unfold aX.ctx
 simp only[mP]
 exact this
theorem cg.u1 {Fr:Nat->Prop} {w:World} {S:bW} {aa:Tok} {v:Value} {F:Nat->Prop} (h:cg Fr w S aa v F) {C a:List (Nat×Nat×Nat)} (d:aa.tr=some C) (f:∀i j,jx a i j->jx C i j):cg Fr w S {aa with tr:=some a} v F:=by
 obtain⟨aD,aV,bD⟩:=h
 refine⟨aD,?_,?_⟩
 .rcases aV with aV|⟨b,cap,H,T,e,I,J,K,L,hm,g,k,r⟩
  .exact .inl aV
  .exact .inr ⟨b,cap,H,T,e,I,J,K,L,hm,g,k,fun i j x p y M=>by
    obtain⟨u,z,_,A⟩:=r i j x p y M
    exact⟨u,z,(fun h=>by cases h),A⟩⟩
 .unfold hq at bD⊢
  rw[d]at bD
  obtain⟨g1,g2,g3,g4⟩:=bD
  refine⟨g1,g2,g3,?_⟩
  rcases g4 with g4|⟨b,cap,q,e,O,bc,r⟩
  .exact .inl g4
  .exact .inr ⟨b,cap,q,e,O,bc,fun i j x c y B=>by
    obtain⟨u,z,P,A⟩:=r i j x c y B
    exact⟨u,z,P,fun Q=>A (f i j Q)⟩⟩
theorem Ln {E:Env} {s:aX} {n:Nat} {aa:Tok} {C f:List (Nat×Nat×Nat)} (g:aF s.T n=some (.live aa)) (p:aa.tr=some C) (u:∀i j,jx f i j->jx C i j) (H:∀i o d,(i,o,d)∈f->d=gone):jw E s (u1 s n aa f):=by
 rintro R a w I ⟨β,τ,F,S,r,J,y,z⟩
 obtain⟨hw,_⟩:=(r.bG n aa g).tree p
 obtain⟨aD,aV⟩:=r.turn n aa {aa with tr:=some f} g [] (by simp) (fun _=>False) ⟨hr.refl _ _,fun _ _ _=>rfl,fun _ _ h=>h,fun _ _ h=>.inl h,r.lt⟩ (fun _ h=>h.elim) (F n) (fun b K=>.inl K) ((r.bG n aa g).u1 p u) rfl (fun h=>by rw[hw]at h;cases h) (fun L i o d he hm A=>by
  simp only[ic]at he
  subst he
  exact absurd (H i o d hm) A)
 have M:eO (aF s.T) []=aF s.T:=by funext t;simp[eO]
 rw[M]at aD aV
 unfold u1
 refine⟨β,τ,_,S,by simp only[mP];exact aD,J,y,?_⟩
 have:=l7 (c:=s.ctx w S β τ) (c':=⟨w,S,fun k=>aY s.B k≠none,β,updT (aF s.T) n (some (.live {aa with tr:=some f})),τ⟩) ⟨fun _ _ h=>h,fun _ _ _=>rfl⟩ (fY.refl rfl rfl) aV z
 unfold aX.ctx
 simp only[mP]
 exact this
theorem JZ {ρ:Type} {K:Option ρ} {z:ρ} {i:Nat}:∀a:List (Nat×Nat×Nat),yC a i K=some z->(∀x,x∈a->x.1=i)/\K=some z
 | [],h=>⟨(fun x b=>by cases b),h⟩
 |y::a,h=>by
  unfold yC at h
  split at h
  .rename_i e
   obtain⟨aD,aV⟩:=JZ a h
   exact⟨fun x b=>(bm.1 b).elim (fun h=>h▸e) (aD x),aV⟩
  .cases h
theorem Ig {ρ:Type} {K:Option ρ} {z:ρ} {i:Nat}:∀b:List (Nat×Nat×Nat),xB b i K=some z->(∀k,(k,gone,gone)∈b->k<=i)/\K=some z
 | [],h=>⟨(fun x f=>by cases f),h⟩
 |y::b,h=>by
  unfold xB at h
  cases d:Nat.beq y.2.2 gone with
  |true=>
   rw[d]at h
   simp only[ao]at h
   split at h
   .rename_i e
    obtain⟨aD,aV⟩:=Ig b h
    refine⟨fun k a=>?_,aV⟩
    rcases bm.1 a with a|a
    .subst a;exact e
    .exact aD k a
   .cases h
  |false=>
   rw[d]at h
   obtain⟨aD,aV⟩:=Ig b h
   refine⟨fun k a=>?_,aV⟩
   rcases bm.1 a with a|a
   .subst a;rw[Nat.beq_refl]at d;cases d
   .exact aD k a
theorem V6 {E:Env} {s:aX} {n:Nat} {aa:Tok} (b:aF s.T n=some (.live aa)) (d:aa.tr=some []):jw E s {s with T:=jo s.T n (some (.live aa.ia))}:=by
 rintro R a w z ⟨β,τ,F,S,u,A,i,j⟩
 obtain⟨hw,_⟩:=(u.bG n aa b).tree d
 obtain⟨S',p,r⟩:=u.ia n aa b d
 refine⟨β,τ,F,S',by simp only[mP];exact p,A,i,?_⟩
 have:=l7 (c:=s.ctx w S β τ) (c':=⟨w,S',fun k=>aY s.B k≠none,β,updT (aF s.T) n (some (.live aa.ia)),τ⟩) ⟨r,fun _ _ _=>rfl⟩ (fY.refl rfl rfl) (fun t ax=>by
  by_cases e:t=n
  .subst e
   refine⟨by simp[updT],fun f g=>?_⟩
   simp[updT]at g
   subst g
   exact⟨aa,b,rfl,rfl,fun h=>by rw[hw]at h;cases h⟩
  .have y:updT (aF s.T) n (some (.live aa.ia)) t=aF s.T t:=by simp[updT,e]
   exact⟨by show updT _ _ _ t≠none;rw[y];exact ax,fun f g=>⟨f,by show aF s.T t=_;rw[<-y];exact g,rfl,rfl,fun h=>⟨h,rfl⟩⟩⟩) j
 unfold aX.ctx
 simp only[mP]
 exact this
theorem Ce {ρ:Type} {E:Env} {z:ρ}:∀(p:List (Nat×Nat×Nat×Nat)) (n i:Nat) (s:aX) (K:aX->Option ρ),uO E p n i s K=some z->∃f,K f=some z/\jw E s f
 | [],n,i,s,K,h=>⟨s,h,jw.refl s⟩
 |(o,d,e,B)::p,n,i,s,K,h=>by
  unfold uO at h
  split at h
  case h_2=>cases h
  rename_i aa g
  split at h
  case h_2=>cases h
  rename_i C j
  split at h
  .rename_i F H a
   split at h
   case isFalse=>cases h
   split at h
   .exact ⟨s,h,jw.refl s⟩
   .split at h
    .exact Ce _ _ _ s K h
    .cases h
  .rename_i a
   obtain⟨k,h⟩:=Ig _ h
   obtain⟨y,hy,h⟩:=ju.1 h
   split at h
   case h_2=>cases h
   rename_i r x A
   split at h
   case h_2=>cases h
   rename_i bc
   split at h
   .cases h
   rename_i b
   have u:=V5 (E:=E) (e:=e) g j a k hy A bc b
   split at h
   .exact ⟨_,h,u⟩
   .split at h
    .obtain ⟨f,aD,aV⟩:=Ce _ _ _ _ K h
     exact⟨f,aD,u.trans aV⟩
    .cases h
theorem QJ {ρ:Type} {E:Env} {z:ρ}:∀(l:List (Nat×Nat×Nat)) (n i:Nat) (s:aX) (K:aX->Option ρ),Cf E l n i s K=some z->∃a,K a=some z/\jw E s a
 | [],n,i,s,K,h=>⟨s,h,jw.refl s⟩
 |(o,d,e)::l,n,i,s,K,h=>by
  unfold Cf at h
  obtain⟨s1,aD,aV⟩:=Ce _ _ _ s _ h
  obtain⟨s2,bD,cN⟩:=QJ l n i s1 K aD
  exact⟨s2,bD,aV.trans cN⟩
theorem rr {ρ:Type} {E:Env} {z:ρ}:∀(gs:List yq) (s:aX) {K:aX->Option ρ},lb E gs s K=some z->∃g,K g=some z/\jw E s g
 | [],s,K,h=>⟨s,h,jw.refl s⟩
 | .out av p::gs,s,K,h=>by
  unfold lb at h
  split at h
  case h_2=>cases h
  obtain⟨s1,aD,aV⟩:=Ce _ _ _ s _ h
  obtain⟨s2,bD,cN⟩:=rr gs s1 aD
  exact⟨s2,bD,aV.trans cN⟩
 | .ia k c::gs,s,K,h=>by
  unfold lb at h
  split at h
  case h_2=>cases h
  split at h
  case h_2=>cases h
  split at h
  case h_2=>cases h
  rename_i aa b
  split at h
  .rename_i f
   obtain⟨s2,bD,cN⟩:=rr gs _ h
   exact⟨s2,bD,(V6 b f).trans cN⟩
  .cases h
  .exact rr gs s h
 | .QF k c::gs,s,K,h=>by
  unfold lb at h
  split at h
  case h_2=>cases h
  split at h
  case h_2=>cases h
  split at h
  case h_2=>cases h
  rename_i aa b
  split at h
  case h_2=>cases h
  rename_i f
  obtain⟨s2,bD,cN⟩:=rr gs _ h
  exact⟨s2,bD,(Ln b f (fun i j _=>jx.nil i j) (fun i o d hm=>by simp at hm;exact hm.2.2)).trans cN⟩
 | .outs av r l::gs,s,K,h=>by
  unfold lb at h
  split at h
  case h_2=>cases h
  split at h
  case h_2=>cases h
  obtain⟨s1,aD,aV⟩:=QJ _ _ _ s _ h
  obtain⟨s2,bD,cN⟩:=rr gs s1 aD
  exact⟨s2,bD,aV.trans cN⟩
 | .JR av r::gs,s,K,h=>by
  unfold lb at h
  split at h
  case h_2=>cases h
  split at h
  case h_2=>cases h
  rename_i i _
  split at h
  case h_2=>cases h
  rename_i aa b
  split at h
  case h_2=>cases h
  rename_i y f
  obtain⟨aD,h⟩:=JZ _ h
  obtain⟨s2,bD,cN⟩:=rr gs _ h
  refine⟨s2,bD,(Ln b f (fun a j u=>?_) (fun i o d hm=>by simp at hm;exact hm.2.2)).trans cN⟩
  have A:i+1<=a:=u.2 _ b6
  refine⟨fun d hm=>?_,fun k hm=>?_⟩
  .have:a=i:=aD _ hm
   omega
  .have:k=i:=aD _ hm
   omega
theorem Jq {c:Ctx} {v:Value} {n l k:Nat} (h:bo c (.sub n l k) v):v.oneCell'=true/\c.tok n≠none/\∀aa,c.tok n=some (.live aa)->∃a len cap,c.τ n= .slice a len cap/\l<=k/\k<=len/\len<=cap/\v= .slice (hN a cap l aa.t.w) (k-l) (cap-l):=h
theorem cg.flat {Fr:Nat->Prop} {w:World} {S:bW} {t:aH} {ys:List t.D} {e:TypeId} {deep:Bool} {F:Nat->Prop} {b cap:Nat} {k:Array Value} {T:TypeId} (eU:t.cj=true) (C:∀b,F b->Fr b/\b<w.heap.size) (r:F b) (z:w.heap[b]? =some (.cells k T (0,0))) (A:k.size=cap*t.w) (bK:ys.length<=cap) (hm:cap<=maxLen) (H:∀o,¬S b o)
  (B:∀(i j:Nat) (x:t.D) (p:b3),ys[i]? =some x->(enc t x)[j]? =some p->k[i*t.w+j]? =some (fq p)):cg Fr w S ⟨t,ys,e,true,deep,none⟩ (.slice (some ⟨b,0,none⟩) ys.length cap) F:=by
 have g:∀(i j:Nat) (x:t.D) (p:b3),ys[i]? =some x->(enc t x)[j]? =some p->bq w S (fq p) p:=fun i j x p _ d=>bq.pc (jI t x eU p (fc d))
 refine⟨C,.inr ⟨b,cap,k,T,rfl,r,z,A,bK,hm,(fun h=>by cases h),fun _=>H,fun i j x p f d=>⟨_,B i j x p f d,fun _=>g i j x p f d,fun h=>by cases h⟩⟩,?_⟩
 show(deep=true->Deep w F _ (.ag (.av t) ys))
 intro _
 have hu:∀(i j:Nat) (x:t.D) (c:ar),ys[i]? =some x->(cellsOf t x)[j]? =some c->∃p,(enc t x)[j]? =some p/\k[i*t.w+j]? =some (fq p):=fun i j x c f a=>by
  obtain⟨p,d⟩:∃p,(enc t x)[j]? =some p:=⟨_,bH (by rw[en];exact lR a)⟩
  exact⟨p,d,B i j x p f d⟩
 refine .av _ cap t ys (fun i j=>(k[i*t.w+j]?).getD undef) b (fun _ _ _=>False) k T r z A bK hm (fun i j x c f a=>?_) (fun _ _ _ h=>h.elim) (fun _ _ _ _ _ h=>h.elim) (fun i j x c f a=>?_)
 .obtain ⟨p,_,y⟩:=hu i j x c f a
  rw[y];rfl
 .obtain ⟨p,d,y⟩:=hu i j x c f a
  simp only[y,mi]
  exact .leaf (S:=S) eU a (fun I u=>by rw[d]at u;cases u;exact g i j x p f d)
theorem cg.lits {Fr:Nat->Prop} {w:World} {S:bW} {aa:Tok} {v:Value} {F:Nat->Prop} (h:cg Fr w S aa v F) (eU:aa.t.cj=true) (hw:aa.wr=true) (ax:aa.tr=none) (f:aa.xs≠ []):∃b cap a T,v= .slice (some ⟨b,0,none⟩) aa.xs.length cap/\F b/\w.heap[b]? =some (.cells a T (0,0))/\a.size=cap*aa.t.w/\aa.xs.length<=cap/\cap<=maxLen/\(∀o,¬S b o)/\
  ∀(i j:Nat) (x:aa.t.D) (p:b3),aa.xs[i]? =some x->(enc aa.t x)[j]? =some p->a[i*aa.t.w+j]? =some (fq p):=by
 rcases h.2.1 with⟨_,aV⟩|⟨b,cap,a,T,z,g,A,B,k,hm,C,r,d⟩
 .exact absurd aV f
 .refine ⟨b,cap,a,T,z,g,A,B,k,hm,r hw,fun i j x p H y=>?_⟩
  obtain⟨u,I,J,_⟩:=d i j x p H y
  rw[I,og (J ax) (jI aa.t x eU p (fc y))]
theorem Ev {t:aH} {x:t.D} {j:Nat} {p:b3} (h:(enc t x)[j]? =some p):j<t.w:=by have:=(dx.1 h).1;rwa[en]at this
section
variable {E : Env} {o : Oper} {s : aX} {e : bO} {aK : c6}
theorem amp (b9:eA E) (c:Call) (cx:o.op= .call c) (bB:c.callee= .builtin .append) (d:Nat) (x y:Operand) (T:TypeId) (ty:bw) (de:TypeId) (r:aH) (j8 t k:Nat) (aa:Tok)
  (lV:o.dst=some d) (bd:c.args.toList=[x,y]) (dH:c.argTypes.toList=[T,T]) (hx:E.ty T=some ty) (he:ty.elem=some (de,r,j8)) (wD:s.aP x= .sub t 0 k) (g:aF s.T t=some (.live aa)) (p2:aa.t=r) (mA:aa.tr=none) (KT:aa.wr=true) (eU:aa.t.cj=true) (Yc:E.wr d=true)
  (h:(yF E d t k aa (s.aP y)).R s [] [t] e aK):cR E o s e:=by
 subst p2
 unfold yF at h
 split at h
 case h_2=>exact h.elim
 rename_i n lo hi hy
 split at h
 case isFalse=>exact h.elim
 rename_i tJ
 have tJ:n=t:=by simpa using tJ
 subst tJ
 obtain⟨Xk,h⟩:=h
 obtain⟨bc,tE,l2,rfl⟩:=B5 h
 rw[Yc]
 rintro R a w e3 ⟨β,τ,F,S,Y,cD,gp,fR⟩ K Q dP
 have fG:=hL fR
 obtain⟨hu,qf,fy,z,jM,gT,mF,bI,jg⟩:=(b9.ty T ty hx).elem _ _ _ he
 have kD:c.args= #[x,y]:=by apply Array.ext';simpa using bd
 have p0:c.argTypes= #[T,T]:=by apply Array.ext';simpa using dH
 have aD:=fG x;rw[wD]at aD
 have aV:=fG y;rw[hy]at aV
 obtain⟨q1,len,cap,aP,_,wm,Xo,sL⟩:=(Jq aD).2.2 aa g
 obtain⟨anT,aoK,il,H,Xp,wh,_,Dt⟩:=(Jq aV).2.2 aa g
 rw[aP]at H;cases H
 have W:=Y.bG n aa g
 rw[show(s.ctx w S β τ).τ n=τ n from rfl]at aP
 have hlen:len=aa.xs.length:=by
  rcases W.2.1 with⟨cy,cb⟩|⟨b,oJ,B,c7,cy,_⟩
  .rw [cy]at aP;cases aP;rw[cb];rfl
  .rw [cy]at aP;cases aP;rfl
 subst hlen
 have h3:=Y.drop (tok':=eO (aF s.T) [n]) (fun t ax=>oi ax) (fun t aa h=>(iV h).2)
 have we:d∉ [n]:=fun fo=>by simp only[c1]at fo;rw[fo,g]at bc;cases bc
 by_cases hc:hi-lo=0
 ·
  have cE:(execOp a.eval o).run E.P w= .ok (.value (.slice (hN q1 cap 0 aa.t.w) (k-0) (cap-0))) w:=by
   have:=Rt (P:=E.P) w T o.type de fy hu jM (hN q1 cap 0 aa.t.w) (hN q1 cap lo aa.t.w) (k-0) (cap-0) (cap-lo) (by omega)
   simp only[execOp,cx,resolve,bB,invoke,builtin,Sem.run_bind,Sem.run_pure,Result.andThen_ok,kD,p0,List.map_toArray,cv,pF,sL,Dt,hc,this]
  have Z:=W.head KT mA k (by omega) (m:=aa.t.w) aP
  have cb:aa.xs.take k++(aa.xs.take hi).drop lo=aa.xs.take k:=by
   rw[jv (by simp;omega),e5]
  rw[cb]at dP
  exact jt cE (dP _ _ (qK (s:=s) [n] h3 cD gp fR (fun _ _ _ _ _=>⟨fun _ _ h=>h,fun _ _ _=>rfl⟩) d bc (e3.gi l2) ⟨aa.t,aa.xs.take k,aa.e,true,aa.deep,none⟩ _ (F n) Z rfl
   (fun t L b kI ax A cM=>kI (by simp[Y.eF t n L aa b ax g cM A])) (fun k b W A=>Y.fh n aa k b g W A) o.dst we _ rfl))
 .have gS:aa.xs≠ []:=fun e=>by rw[e]at wh;simp at wh;omega
  obtain⟨b,D4,B,c7,cy,hd,cr,mL,mH,hm,da,M⟩:=W.lits eU KT mA gS
  have H:=aP
  rw[cy]at H
  obtain⟨rfl,rfl⟩:q1=some ⟨b,0,none⟩/\cap=D4:=by cases H;exact⟨rfl,rfl⟩
  clear H
  have Es:hN (some ⟨b,0,none⟩) cap 0 aa.t.w=some ⟨b,0,none⟩:=by
   unfold hN
   split
   .rfl
   .simp [nv]
  have Vm:hN (some ⟨b,0,none⟩) cap lo aa.t.w=some ⟨b,lo*aa.t.w,none⟩:=by
   unfold hN
   rw[aA (by omega)]
   simp[nv]
  have hmul:∀ {p q:Nat},p<=q->p*aa.t.w<=q*aa.t.w:=fun h=>eh _ h
  obtain⟨news,O⟩:∃news:List Value,news=(B.toList.drop (lo*aa.t.w)).take ((hi-lo)*aa.t.w):=⟨_,rfl⟩
  have W1:(lo+(hi-lo))*aa.t.w<=B.size:=by rw[mL];exact hmul (by omega)
  rw[ey]at W1
  have U:news.length=(hi-lo)*aa.t.w:=by rw[O];simp;omega
  have tI:∀j,j<(hi-lo)*aa.t.w->news[j]? =B[lo*aa.t.w+j]? :=fun j X=>by
   rw[O,ho,ai X,hT,jY]
  have Xr:∀j u,news[j]? =some u->∃p:b3,u=fq p/\p.isLit=true:=fun j u X=>by
   have mG:j<(hi-lo)*aa.t.w:=by rw[<-U];exact(dx.1 X).1
   have Fl:=Nat.div_add_mod j aa.t.w
   have wq:=mn j qf
   have hdiv:j/aa.t.w<hi-lo:=(vm qf).2 mG
   have Yf:lo+j/aa.t.w<aa.xs.length:=by omega
   have wy:j%aa.t.w<(enc aa.t aa.xs[lo+j/aa.t.w]).length:=by rw[en];exact wq
   have dO:=M (lo+j/aa.t.w) (j%aa.t.w) _ _ (bH Yf) (bH wy)
   rw[ey,mm,k0 (j/aa.t.w),Fl,<-tI j mG,X]at dO
   exact⟨_,Option.some.inj dO,jI aa.t _ eU _ (bA wy)⟩
  have rB:∀u∈news,u.oneCell'=true:=fun u hu=>by
   obtain⟨j,X,rfl⟩:=fe.1 hu
   obtain⟨p,cU,bK⟩:=Xr j _ (bH X)
   rw[cU]
   exact(bq.pc (w:=w) (S:=S) bK).one
  have Ma:=Rs (P:=E.P) (w:=w) T o.type de c7 fy hu jM b k cap B cr ⟨b,lo*aa.t.w,none⟩ (hi-lo) (cap-lo) news (by rw[U,gT]) (fun j u X=>by
   have mG:j<(hi-lo)*aa.t.w:=by rw[<-U];exact(dx.1 X).1
   rw[tb,cell_of_row w b _ B c7 (0,0) cr,<-tI j mG];exact X) rB (by omega) (by rw[U,gT,<-ey,mL];exact hmul (by omega))
  obtain⟨f,mJ⟩:∃f:Array Value,f=(B.toList.take (k*aa.t.w)++news++B.toList.drop (k*aa.t.w+news.length)).toArray:=⟨_,rfl⟩
  rw[gT,<-mJ]at Ma
  have Xj:k*aa.t.w+news.length<=B.size:=by rw[U,mL,<-ey];exact hmul (by omega)
  have mK:f.toList=B.toList.take (k*aa.t.w)++news++B.toList.drop (k*aa.t.w+news.length):=by rw[mJ]
  have lX:∀m,f[m]? =if k*aa.t.w<=m/\m<k*aa.t.w+news.length then news[m-k*aa.t.w]? else B[m]? :=fun m=>by
   rw[<-jY,mK,sz _ _ _ (by rw[kY];exact Xj)]
   simp
  have qh:f.size=B.size:=by
   rw[<-kY,mK]
   simp only[a1,bX,eY,kY]
   omega
  have cE:(execOp a.eval o).run E.P w= .ok (.value (.slice (some ⟨b,0,none⟩) (k+(hi-lo)) cap)) (w.setRow b f):=by
   simp only[execOp,cx,resolve,bB,invoke,builtin,Sem.run_bind,Sem.run_pure,Result.andThen_ok,kD,p0,List.map_toArray,cv,pF,sL,Dt,Es,Vm,Nat.sub_zero,Ma]
  have C:∀m,m≠b->(w.setRow b f).heap[m]? =w.heap[m]? :=fun m hm=>setRow_other w b m _ hm
  have ke:(w.setRow b f).heap.size=w.heap.size:=by simp[World.setRow]
  have V:∀ba o,S ba o->(w.setRow b f).cell? ⟨ba,o,none⟩=w.cell? ⟨ba,o,none⟩:=fun ba o A=>World.cell?_of_block (w:=w) (C ba (fun e=>da o (e▸A)))
  have oT:Step (fun m=>m=b) S S w (w.setRow b f):=⟨⟨rfl,rfl,rfl,by rw[ke];exact bC _,fun m _ hm=>C m hm⟩,V,fun _ _ h=>h,fun _ _ h=>.inl h,fun b o h=>by rw[ke];exact Y.lt b o h⟩
  have Fs:(w.setRow b f).heap[b]? =some (.cells f c7 (0,0)):=setRow_heap w b B _ c7 (0,0) cr
  have E5:=h3.step oT (fun m hm=>hm▸(W.1 b hd).1) (fun aJ bt kf A=>Y.fh n aa aJ bt g kf (A▸hd)) (fun dc L hP m hm A=>by
   obtain⟨g1,g2⟩:=iV hP
   subst A
   exact g1 (by simp[Y.eF dc n L aa m g2 g hm hd]))
  obtain⟨ys,FV⟩:∃ys,ys=aa.xs.take k++(aa.xs.take hi).drop lo:=⟨_,rfl⟩
  have zN:ys.length=k+(hi-lo):=by rw[FV];simp;omega
  have FU:∀i y,ys[i]? =some y->(i<k/\aa.xs[i]? =some y)\/(k<=i/\i<k+(hi-lo)/\aa.xs[lo+(i-k)]? =some y):=fun i y I=>by
   have tG:i<k+(hi-lo):=by rw[<-zN];exact(dx.1 I).1
   rw[FV]at I
   by_cases J:i<k
   .rw [hV (by simp;omega),ho,ai J]at I
    exact .inl ⟨J,I⟩
   .rw [iE (by simp;omega),bX,ow (by omega),hT,ho,ai (by omega)]at I
    exact .inr ⟨by omega,tG,I⟩
  have Z:cg R.dm (w.setRow b f) S ⟨aa.t,ys,aa.e,true,aa.deep,none⟩ (.slice (some ⟨b,0,none⟩) ys.length cap) (F n):=by
   refine .flat eU (fun b A=>⟨(W.1 b A).1,by rw[ke];exact(W.1 b A).2⟩) hd Fs (by rw[qh];exact mL) (by omega) hm da (fun i j y p nQ cU=>?_)
   have X:=Ev cU
   rcases FU i y nQ with⟨J,kK⟩|⟨Fw,J,kK⟩
   .have dO:=M i j y p kK cU
    have:(i+1)*aa.t.w<=k*aa.t.w:=hmul J
    rw[ey]at this
    rw[lX,aA (by omega)]
    exact dO
   .have dO:=M (lo+(i-k)) j y p kK cU
    have di:(lo+(i-k))*aa.t.w=lo*aa.t.w+(i*aa.t.w-k*aa.t.w):=by rw[ey,Nat.sub_mul]
    have iu:k*aa.t.w<=i*aa.t.w:=hmul Fw
    have hv:(i+1)*aa.t.w<=(k+(hi-lo))*aa.t.w:=hmul J
    rw[ey,ey]at hv
    rw[lX,ai ⟨by omega,by omega⟩,tI _ (by omega),<-dO,di]
    congr 1;omega
  rw[<-FV]at dP
  rw[zN]at Z
  exact jt cE (dP _ _ (qK (s:=s) [n] E5 cD gp fR (fun _ _ _ _ _=>⟨fun _ _ h=>h,V⟩) d bc (e3.gi l2) ⟨aa.t,ys,aa.e,true,aa.deep,none⟩ _ (F n) Z rfl
   (fun t L b kI ax A cM=>kI (by simp[Y.eF t n L aa b ax g cM A])) (fun k b W A=>Y.fh n aa k b g W A) o.dst we _ rfl))
theorem anH (z:Array Value) (n m:Nat) (h:m<n*z.size) (j:Nat) (d:m%z.size=j):(Builtin.zeroCells z n)[m]? =z[j]? :=by
 have f:0<z.size:=by
  rcases Nat.eq_zero_or_pos z.size with a|a
  .rw [a]at h;simp at h
  .exact a
 have b:j<z.size:=by rw[<-d];exact mn _ f
 unfold Builtin.zeroCells
 rw[Array.getElem?_map,Array.getElem?_range,ai h]
 simp[d,b]
theorem al7 {P:Program} (w:World) (t ty e:TypeId) (i:TypeInfo) (z:Value) (ax:P.underlying t=some (.slice e)) (hi:P.info? e=some i) (b:i.zero=some z) (a:Addr) (n c:Nat) (d:0<n):
  (Builtin.clear_ #[t] ty #[.slice (some a) n c]).run P w=((storeCells a (Builtin.zeroCells z.cells n).toList).run P w).andThen fun _ w'=>.ok (.tuple #[]) w':=by
 obtain⟨n,rfl⟩:∃k,n=k+1:=⟨n-1,by omega⟩
 simp[Builtin.clear_,run_underlying ax,zeroValue,typeInfo,hi,b]
theorem al8 {P:Program} (w:World) (t ty e:TypeId) (ax:P.underlying t=some (.slice e)) (a:Option Addr) (c:Nat):
  (Builtin.clear_ #[t] ty #[.slice a 0 c]).run P w= .ok (.tuple #[]) w:=by
 cases a<;>simp[Builtin.clear_,run_underlying ax]
theorem amx (b9:eA E) (c:Call) (cx:o.op= .call c) (bB:c.callee= .builtin .clear) (h:(cF E o.op o.dst s.aP).R s [] [] e aK):cR E o s e:=by
 rw[cx]at h
 simp only[cF,bB]at h
 split at h
 case h_2=>exact h.elim
 rename_i x T bd dH
 unfold Kk at h
 split at h
 case h_2=>exact h.elim
 rename_i n lo hi wD
 simp only[bh.R]at h
 split at h
 case h_2=>exact h.elim
 rename_i aa I
 split at h
 case h_2=>exact h.elim
 rename_i ty hx
 split at h
 case h_2=>exact h.elim
 rename_i de r j8 he
 split at h
 case h_2=>exact h.elim
 rename_i De FK
 split at h
 case isFalse=>exact h.elim
 rename_i Fh
 obtain⟨p2,W,J,eU,Yl⟩:=Fh
 split at h
 case h_2=>exact h.elim
 rename_i z0 Yj
 obtain⟨rfl,_⟩:=h
 subst p2
 rintro R a w e3 ⟨β,τ,F,S,dG,cD,gp,fR⟩ K Q dP
 have fG:=hL fR
 obtain⟨hu,Y,fy,z,jM,gT,mF,bI,jg⟩:=(b9.ty T ty hx).elem _ _ _ he
 obtain⟨Yt,z2,Z,X2,wF,Ym,mE⟩:=(b9.ty de De FK).info
 rw[jM]at Z;cases Z
 rw[bI]at wF;cases wF
 have kD:c.args= #[x]:=by apply Array.ext';simpa using bd
 have aD:=fG x;rw[wD]at aD
 obtain⟨q1,len,cap,aP,Xp,LN,Xo,sL⟩:=(Jq aD).2.2 aa I
 have bx:=dG.bG n aa I
 rw[show(s.ctx w S β τ).τ n=τ n from rfl]at aP
 have hlen:len=aa.xs.length:=by
  rcases bx.2.1 with⟨cy,cb⟩|⟨b,oJ,H,c7,cy,_⟩
  .rw [cy]at aP;cases aP;rw[cb];rfl
  .rw [cy]at aP;cases aP;rfl
 subst hlen
 obtain⟨iW,Me⟩:∃iW,c.argTypes=iW:=⟨_,rfl⟩
 rw[Me]at dH
 have A:∀v w',(Builtin.clear_ #[T] o.type #[a.eval x]).run E.P w= .ok v w'->(execOp a.eval o).run E.P w= .ok (.value v) w':=fun v w' cO=>by
  have cb:(Builtin.clear_ iW o.type #[a.eval x]).run E.P w=(Builtin.clear_ #[T] o.type #[a.eval x]).run E.P w:=by
   unfold Builtin.clear_
   simp[dH]
  simp only[execOp,cx,resolve,bB,invoke,builtin,Sem.run_bind,Sem.run_pure,Result.andThen_ok,kD,Me,List.map_toArray,cv,pF,cb,cO]
 obtain⟨ys,X⟩:∃ys,ys=aa.xs.take lo++List.replicate (hi-lo) z0++aa.xs.drop hi:=⟨_,rfl⟩
 rw[<-X]at dP
 by_cases hc:hi-lo=0
 .have Fy:lo=hi:=by omega
  subst Fy
  have di:ys=aa.xs:=by rw[X];simp
  have cE:=A _ _ (by rw[sL,hc];exact al8 (P:=E.P) w T o.type de hu _ _)
  rw[di]at dP
  have gA:updT (aF s.T) n (some (.live aa))=aF s.T:=by
   funext t
   unfold updT
   split
   .rename_i e;rw[e,I]
   .rfl
  refine jt cE (dP _ _ (jT (e:=⟨.bM [],[],[(n,some (.live aa))]⟩) (by show Mem R _ (updT _ _ _) _ _ _ _ _;rw[gA];exact dG) cD gp (by show ∀i,bo ⟨_,_,_,_,updT _ _ _,_⟩ _ _;rw[gA];exact fR) o.dst (.inr ⟨[],rfl,True.intro⟩)))
 .have gS:aa.xs≠ []:=fun e=>by rw[e]at LN;simp at LN;omega
  obtain⟨b,D4,H,c7,cy,hd,cr,mL,mH,hm,da,zA⟩:=bx.lits eU J W gS
  have p3:=aP
  rw[cy]at p3
  obtain⟨rfl,rfl⟩:q1=some ⟨b,0,none⟩/\cap=D4:=by cases p3;exact⟨rfl,rfl⟩
  clear p3
  have Es:hN (some ⟨b,0,none⟩) cap lo aa.t.w=some ⟨b,lo*aa.t.w,none⟩:=by
   unfold hN
   rw[aA (by omega)]
   simp[nv]
  have hmul:∀ {p q:Nat},p<=q->p*aa.t.w<=q*aa.t.w:=fun h=>eh _ h
  have L:(lo+(hi-lo))*aa.t.w<=H.size:=by rw[mL];exact hmul (by omega)
  rw[ey]at L
  obtain⟨news,g⟩:∃news,news=(Builtin.zeroCells z.cells (hi-lo)).toList:=⟨_,rfl⟩
  have zK:news.length=(hi-lo)*aa.t.w:=by rw[g,kY,size_zeroCells,jg]
  have qg:=B3 (c:=s.ctx w S β τ) aa.t _ z0 _ Yj (mE (s.ctx w S β τ))
  have Yk:∀j p,(enc aa.t z0)[j]? =some p->z.cells[j]? =some (fq p):=fun j p V=>by
   have bR:j<z.cells.toList.length:=by rw[qg.len];exact(dx.1 V).1
   have:=qg.get' j _ p (bH bR) V
   rw[<-jY,bH bR,og this (jI aa.t z0 eU p (fc V))]
  have tI:∀i j p,i<hi-lo->(enc aa.t z0)[j]? =some p->news[i*aa.t.w+j]? =some (fq p):=fun i j p f V=>by
   have bR:=Ev V
   have hv:(i+1)*aa.t.w<=(hi-lo)*aa.t.w:=hmul f
   rw[ey]at hv
   rw[g,jY,anH z.cells (hi-lo) _ (by rw[jg];omega) j (by rw[jg,Nat.add_comm,Nat.add_mul_mod_self_right,Nat.mod_eq_of_lt bR])]
   exact Yk j p V
  have rB:∀u∈news,u.oneCell'=true:=fun u hu=>by
   obtain⟨j,bR,rfl⟩:=fe.1 hu
   have mG:j<(hi-lo)*aa.t.w:=by rw[<-zK];exact bR
   have Fl:=Nat.div_add_mod j aa.t.w
   have wq:=mn j Y
   have hdiv:j/aa.t.w<hi-lo:=(vm Y).2 mG
   have wy:j%aa.t.w<(enc aa.t z0).length:=by rw[en];exact wq
   have dO:=tI (j/aa.t.w) (j%aa.t.w) _ hdiv (bH wy)
   rw[k0 (j/aa.t.w),Fl,bH bR]at dO
   rw[Option.some.inj dO]
   exact(bq.pc (w:=w) (S:=S) (jI aa.t _ eU _ (bA wy))).one
  have M:=run_storeCells_at E.P b (lo*aa.t.w) c7 news 0 H w cr (by omega) rB
  obtain⟨d,mJ⟩:∃d:Array Value,d=(H.toList.take (lo*aa.t.w)++news++H.toList.drop (lo*aa.t.w+news.length)).toArray:=⟨_,rfl⟩
  simp only[lH]at M
  rw[<-mJ]at M
  have cE:=A (.tuple #[]) (w.setRow b d) (by
   rw[sL,Es,al7 (P:=E.P) w T o.type de fy z hu jM bI _ _ _ (by omega),<-g,M]
   rfl)
  have mK:d.toList=H.toList.take (lo*aa.t.w)++news++H.toList.drop (lo*aa.t.w+news.length):=by rw[mJ]
  have WZ:lo*aa.t.w+news.length<=H.toList.length:=by rw[zK,kY];exact L
  have lX:∀m,d[m]? =if lo*aa.t.w<=m/\m<lo*aa.t.w+news.length then news[m-lo*aa.t.w]? else H[m]? :=fun m=>by
   rw[<-jY,mK,sz H.toList news (lo*aa.t.w) WZ]
   simp
  have qh:d.size=H.size:=by
   rw[<-kY,mK]
   simp only[a1,bX,eY,kY]
   omega
  have C:∀m,m≠b->(w.setRow b d).heap[m]? =w.heap[m]? :=fun m hm=>setRow_other w b m _ hm
  have ke:(w.setRow b d).heap.size=w.heap.size:=by simp[World.setRow]
  have O:∀ba o,S ba o->(w.setRow b d).cell? ⟨ba,o,none⟩=w.cell? ⟨ba,o,none⟩:=fun ba o au=>World.cell?_of_block (w:=w) (C ba (fun e=>da o (e▸au)))
  have oT:Step (fun m=>m=b) S S w (w.setRow b d):=⟨⟨rfl,rfl,rfl,by rw[ke];exact bC _,fun m _ hm=>C m hm⟩,O,fun _ _ h=>h,fun _ _ h=>.inl h,fun b o h=>by rw[ke];exact dG.lt b o h⟩
  have Fs:(w.setRow b d).heap[b]? =some (.cells d c7 (0,0)):=setRow_heap w b H _ c7 (0,0) cr
  have zN:ys.length=aa.xs.length:=by rw[X];simp;omega
  have FU:∀i y,ys[i]? =some y->((i<lo\/hi<=i)/\aa.xs[i]? =some y)\/(lo<=i/\i<hi/\y=z0):=fun i y f=>by
   rw[X]at f
   by_cases bD:i<lo
   .rw [dJ,hV (by simp;omega),ho,ai bD]at f
    exact .inl ⟨.inl bD,f⟩
   .by_cases cN:i<hi
    .rw [hV (by simp;omega),iE (by simp;omega),bX,ow (by omega),List.getElem?_replicate,ai (by omega)]at f
     exact .inr ⟨by omega,cN,(Option.some.inj f).symm⟩
    .rw [iE (by simp;omega),a1,bX,ow (by omega),ym,hT]at f
     refine .inl ⟨.inr (by omega),?_⟩
     rw[<-f]
     congr 1;omega
  have iv:cg R.dm (w.setRow b d) S {aa with xs:=ys} (τ n) (F n):=by
   have:=cg.flat (Fr:=R.dm) (w:=w.setRow b d) (S:=S) (t:=aa.t) (ys:=ys) (e:=aa.e) (deep:=aa.deep) (F:=F n) eU (fun b au=>⟨(bx.1 b au).1,by rw[ke];exact(bx.1 b au).2⟩) hd Fs (by rw[qh];exact mL) (by omega) hm da (fun i j y p nQ V=>by
    have bR:=Ev V
    rcases FU i y nQ with⟨U,kK⟩|⟨Fw,U,rfl⟩
    .have dO:=zA i j y p kK V
     rw[lX,aA ?_]
     .exact dO
     .rintro ⟨g1,g2⟩
      rw[zK,<-ey]at g2
      rcases U with U|U
      .have:(i+1)*aa.t.w<=lo*aa.t.w:=hmul U
       rw[ey]at this;omega
      .have:(lo+(hi-lo))*aa.t.w<=i*aa.t.w:=hmul (by omega)
       omega
    .have iu:lo*aa.t.w<=i*aa.t.w:=hmul Fw
     have dO:=tI (i-lo) j p (by omega) V
     have hv:(i-lo+1)*aa.t.w<=(hi-lo)*aa.t.w:=hmul (by omega)
     rw[ey]at hv
     rw[Nat.sub_mul]at dO hv
     rw[lX,ai ⟨by omega,by omega⟩,<-dO]
     congr 1;omega)
   rw[zN,<-cy]at this
   obtain⟨t0,apg,tp,ao7,aoe,aoZ⟩:=aa
   simp only at J W
   subst J
   subst W
   exact this
  have iK:=dG.C1 n aa {aa with xs:=ys} I (fun m=>m=b) oT (fun m hm=>hm▸hd) iv rfl (fun h=>by rw[J]at h;cases h) W
  refine jt cE (dP _ _ (jT (e:=⟨.bM [],[],[(n,some (.live {aa with xs:=ys}))]⟩) iK cD gp ?_ o.dst (.inr ⟨[],rfl,True.intro⟩)))
  exact l7 (c:=s.ctx w S β τ) (c':=⟨w.setRow b d,S,fun k=>aY s.B k≠none,β,updT (aF s.T) n (some (.live {aa with xs:=ys})),τ⟩) ⟨fun _ _ h=>h,O⟩ (fY.refl rfl rfl) (RO I rfl (fun h=>by rw[J]at h;cases h)) fR
end
end Go.Proofs.YtnkagklajgimlaaGreatDoor
