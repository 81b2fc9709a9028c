
import Derived.Test.YtnkagklajgimlaaGreatDoorKR
set_option linter.unusedSimpArgs false
set_option linter.unusedVariables false
namespace Go.Proofs.YtnkagklajgimlaaGreatDoor
open Go.RowKit
theorem QL :∀(l:List aH) (ps:List gN) (y:fZ l),pack l ps=some y->unpack l y=ps
 | [],ps,y,h=>by
  simp only[pack]at h
  split at h
  .rfl
  .cases h
 | [t],ps,y,h=>by
  simp only[pack]at h
  split at h
  .rename_i p
   split at h
   .rename_i e;subst e;cases h;rfl
   .cases h
  .cases h
 |t::u::l,ps,y,h=>by
  simp only[pack]at h
  split at h
  .rename_i p a
   split at h
   .rename_i e
    subst e
    split at h
    .rename_i z d
     cases h
     simp only[unpack,QL (u::l) a z d]
    .cases h
   .cases h
  .cases h
structure TC (Fr:Nat->Prop) (box:Nat->Option cf) (tok:Nat->Option bb) (β:Nat->Nat) (τ:Nat->Value) (F:Nat->Nat->Prop) (S:bW) (w:World):Prop where
 boxes:∀k b,box k=some b->Fr (β k)/\(b.cn=false->∀o,¬S (β k) o)/\(b.cn=true->∀o,o<b.cs.length->S (β k) o)/\j0 ⟨w,S,fun k=>box k≠none,β,tok,τ⟩ k (β k) b.cs
 jB:∀k aJ b bt,box k=some b->box aJ=some bt->β k=β aJ->k=aJ
 bG:∀t aa,tok t=some (.live aa)->cg Fr w S aa (τ t) (F t)
 eF:∀t dc aa bY b,tok t=some (.live aa)->tok dc=some (.live bY)->F t b->F dc b->t=dc
 fh:∀t aa k b,tok t=some (.live aa)->box k=some b->¬F t (β k)
theorem cg.dm {Fr Fr':Nat->Prop} {w:World} {S:bW} {aa:Tok} {v:Value} {F:Nat->Prop} (h:cg Fr w S aa v F) (a:∀b,F b->Fr' b):cg Fr' w S aa v F:=⟨fun b au=>⟨a b au,(h.1 b au).2⟩,h.2⟩
def dN (tok:Nat->Option bb) (a:List Nat):Nat->Option bb:=fun n=>match tok n with
 |some (.live aa)=>some (.live (if n∈a then aa.cn else aa))
 |z=>z
def fF (box:Nat->Option cf) (ks:List Nat):Nat->Option cf:=fun k=>match box k with
 |some b=>some {b with cn:=b.cn||decide (k∈ks)}
 |none=>none
section
variable {R : ed} {w : World} {S : bW} {box : Nat -> Option cf} {tok : Nat -> Option bb} {β : Nat -> Nat} {τ : Nat -> Value} {F : Nat -> Nat -> Prop}
theorem Lf {tok:Nat->Option bb} {d:List Nat} {t:Nat} {aa:Tok} (h:dN tok d t=some (.live aa)):∃dd,tok t=some (.live dd)/\aa=if t∈d then dd.cn else dd:=by
 unfold dN at h
 split at h
 .rename_i dd f;cases h;exact⟨dd,f,rfl⟩
 .rename_i a;exact absurd h (a aa)
theorem Mem.Lb (y:Mem R box tok β τ F S w):∀a:List Nat,∃S',Mem R box (dN tok a) β τ F S' w/\∀b o,S b o->S' b o
 | []=>⟨S,by
  have:dN tok []=tok:=by
   funext n;unfold dN
   split
   .rename_i aa h;rw[h];simp
   .rfl
  rw[this];exact y,fun _ _ h=>h⟩
 |n::a=>by
  obtain⟨u,g,r⟩:=y.Lb a
  cases l:dN tok a n with
  |none=>
   refine⟨u,?_,r⟩
   have:dN tok (n::a)=dN tok a:=by
    funext m;unfold dN
    by_cases e:m=n
    .subst e
     unfold dN at l
     split at l
     .cases l
     .rfl
    .split<;>simp[e]
   rw[this];exact g
  |some z=>cases z with
   |eg=>
    refine⟨u,?_,r⟩
    have:dN tok (n::a)=dN tok a:=by
     funext m;unfold dN
     by_cases e:m=n
     .subst e
      unfold dN at l
      split at l
      .cases l
      .rfl
     .split<;>simp[e]
    rw[this];exact g
   |live aa=>
    obtain⟨dd,g1,g2⟩:=Lf l
    cases d:aa.whole with
    |false=>
     refine⟨u,?_,r⟩
     have:dN tok (n::a)=dN tok a:=by
      funext m
      by_cases e:m=n
      .subst e
       rw[l]
       unfold dN
       rw[g1]
       simp only[bm,true_or,if_true]
       congr 2
       by_cases f:m∈a
       .rw [ai f]at g2;exact g2.symm
       .rw [aA f]at g2
        rw[<-g2]
        unfold Tok.cn
        rw[d];rfl
      .unfold dN
       split<;>simp[e]
     rw[this];exact g
    |true=>
     obtain⟨A,v,C,_⟩:=g.ze n aa l d
     refine⟨A,?_,fun b o h=>C b o (r b o h)⟩
     have:dN tok (n::a)=updT (dN tok a) n (some (.live aa.jf)):=by
      funext m
      by_cases e:m=n
      .subst e
       simp only[updT,if_true]
       unfold dN
       rw[g1]
       simp only[bm,true_or,if_true]
       congr 2
       by_cases f:m∈a
       .rw [ai f]at g2
        rw[g2]
        cases p:dd.whole with
        |true=>rw[Tok.zg p];rfl
        |false=>
         have G:dd.cn=dd:=by unfold Tok.cn;rw[p];rfl
         rw[g2,G,p]at d;cases d
       .rw [aA f]at g2
        rw[g2,Tok.zg (by rw[<-g2];exact d)]
      .simp only [updT,e,if_false]
       unfold dN
       split<;>simp[e]
     rw[this];exact v
theorem Mem.VT (a:Mem R box tok β τ F S w) (k:Nat) (b:cf) (l:box k=some b):∃S',Mem R (updB box k {b with cn:=true}) tok β τ F S' w/\∀b o,S b o->S' b o:=by
 obtain⟨C,P,Q,G⟩:=a.boxes k b l
 have p:(fun j=>updB box k {b with cn:=true} j≠none)=fun j=>box j≠none:=by
  funext j
  simp only[updB]
  split
  .rename_i e;subst e;rw[l];simp
  .rfl
 have f:Step (fun j=>j=β k) S (fun c o=>S c o\/(c=β k/\o<b.cs.length)) w w:=⟨hr.refl _ _,fun _ _ _=>rfl,fun _ _ h=>.inl h,fun c o h=>h.imp id (fun h=>.inr h.1),fun c o h=>by
  rcases h with h|⟨rfl,_⟩
  .exact a.lt c o h
  .exact a.blt l⟩
 refine⟨fun c o=>S c o\/(c=β k/\o<b.cs.length),⟨a.ew,fun c o h=>.inl (a.cq c o h),fun c o h=>?_,a.iP,f.lt,fun j bt d=>?_,fun j cZ ej ba d u e=>?_,fun t aa ax=>(a.bG t aa ax).step f (fun c y e=>a.fh t aa k b ax l (e▸y)),a.eF,fun t aa j bt ax d=>?_,fun j c y d=>?_,a.kS,a.fQ⟩,fun _ _ h=>.inl h⟩
 .rcases h with h|⟨rfl,_⟩
  .exact a.new c o h
  .exact .inr C
 .rw [p]
  by_cases e:j=k
  .subst e
   simp only[updB,if_true,ic]at d
   subst d
   exact⟨C,(fun h=>by cases h),fun _ o g=>.inr ⟨rfl,g⟩,G.imp rfl fun x v r=>⟨e9.mono (c:=⟨w,S,fun k=>box k≠none,β,tok,τ⟩) (c':=⟨w,fun c o=>S c o\/(c=β j/\o<b.cs.length),fun j=>box j≠none,β,tok,τ⟩) ⟨fun _ _ h=>.inl h,fun _ _ _=>rfl⟩ (fY.refl rfl rfl) (ha.refl rfl rfl) r.1,r.2⟩⟩
  .simp only [updB,e,if_false]at d
   obtain⟨H,I,J,K⟩:=a.boxes j bt d
   refine⟨H,fun A o g=>?_,fun A o g=>.inl (J A o g),K.imp rfl fun x v r=>⟨e9.mono (c:=⟨w,S,fun k=>box k≠none,β,tok,τ⟩) (c':=⟨w,fun c o=>S c o\/(c=β k/\o<b.cs.length),fun j=>box j≠none,β,tok,τ⟩) ⟨fun _ _ h=>.inl h,fun _ _ _=>rfl⟩ (fY.refl rfl rfl) (ha.refl rfl rfl) r.1,r.2⟩⟩
   rcases g with g|⟨g,_⟩
   .exact I A o g
   .exact e (a.jB j k bt b d l g)
 .have conv:∀ {j ej},updB box k {b with cn:=true} j=some ej->∃ba,box j=some ba:=fun {j ej} h=>by
   by_cases e:j=k
   .exact ⟨b,e▸l⟩
   .simp only [updB,e,if_false]at h;exact⟨ej,h⟩
  obtain⟨L,M⟩:=conv d
  obtain⟨c2,O⟩:=conv u
  exact a.jB j cZ L c2 M O e
 .by_cases e:j=k
  .subst e;exact a.fh t aa j b ax l
  .simp only [updB,e,if_false]at d;exact a.fh t aa j bt ax d
 .refine a.k6 j c y (fun h=>d ?_)
  by_cases e:j=k
  .subst e;rw[l]at h;cases h
  .simp only [updB,e,if_false];exact h
theorem Mem.La (g:Mem R box tok β τ F S w):∀ks:List Nat,∃S',Mem R (fF box ks) tok β τ F S' w/\∀b o,S b o->S' b o
 | []=>⟨S,by
  have:fF box []=box:=by
   funext n;unfold fF
   split
   .rename_i b h;rw[h];simp
   .rename_i h;rw[h]
  rw[this];exact g,fun _ _ h=>h⟩
 |k::ks=>by
  obtain⟨p,d,l⟩:=g.La ks
  cases a:fF box ks k with
  |none=>
   refine⟨p,?_,l⟩
   have:fF box (k::ks)=fF box ks:=by
    funext m;unfold fF
    by_cases e:m=k
    .subst e
     unfold fF at a
     split at a
     .cases a
     .rfl
    .split<;>simp[e]
   rw[this];exact d
  |some b=>
   obtain⟨r,f,u⟩:=d.VT k b a
   refine⟨r,?_,fun b o h=>u b o (l b o h)⟩
   have:fF box (k::ks)=updB (fF box ks) k {b with cn:=true}:=by
    funext m
    by_cases e:m=k
    .subst e
     simp only[updB,if_true]
     unfold fF at a⊢
     split at a
     .cases a
      simp
     .cases a
    .simp only [updB,e,if_false]
     unfold fF
     split<;>simp[e]
   rw[this];exact f
end
section
variable (B : List (Nat × cf)) (T : List (Nat × Option bb))
theorem D8 :∀(l:List (Nat×Bool×List b8)) (a d:Acc),pX B T l a=some d->Ext a d/\(kt a->kt d)
 | [],a,d,h=>by simp only[pX]at h;cases h;exact⟨Ext.refl _,id⟩
 |(k,cn,p)::l,a,d,h=>by
  simp only[pX]at h
  split at h
  .split at h
   .obtain ⟨f,r,u⟩:=ju.1 h
    obtain⟨a2,v,y⟩:=ju.1 u
    obtain⟨A,g2,g3,g4,g5,g6,g7,g8,g9,_⟩:=yM r
    obtain⟨C,i2⟩:=pY B T p _ _ _ v
    obtain⟨G,i3⟩:=D8 l a2 d y
    refine⟨A.trans (Ext.trans (b:={f with dA:=if cn then f.dA++ [(bV a.az k).getD k]else f.dA,gX:=if cn then f.gX else f.gX++ [(bV a.az k).getD k]}) ⟨True.intro,⟨[],by simp⟩,fun _ _ h=>h,fun k g=>?_,fun _ h=>h,fun _ h=>h,fun k g=>?_⟩ (C.trans G)),fun hi=>i3 (i2 ⟨by rw[g4];exact hi.rt,g9 hi.az⟩)⟩
    .simp only;split
     .exact e8 _ g
     .exact g
    .simp only;split
     .exact g
     .exact e8 _ g
   .cases h
  .cases h
variable {B T} {fin : Acc} {Fr : Nat -> Prop} {c c' : Ctx} {F : Nat -> Nat -> Prop}
theorem UK {r:aH} {xs:List r.D} {f:List b8} {a g:Acc} (h:gy B T f [.ag (.av r) xs] a=some g):∃cQ p,g.ps=a.ps++cQ/\g.rt=a.rt/\(∀rest,hA f (cQ++rest)=(p,rest,[]))/\(p=[.ag (.av r) xs]\/p=[.dead]):=by
 match f,h with
 | [],h=>simp[gy]at h
 |v::y::l,h=>
  simp only[gy]at h
  obtain⟨_,_,h⟩:=ju.1 h
  cases h
 | [v],h=>
  simp only[gy]at h
  obtain⟨A,d,u⟩:=ju.1 h
  cases u
  cases v with
  |dead=>
   simp only[conv]at d
   cases d
   exact⟨[],[.dead],by simp,rfl,fun rest=>rfl,.inr rfl⟩
  |ag t=>
   simp only[conv,ar.as]at d
   by_cases e:aH.av r=t
   .subst e
    simp only[dif_pos]at d
    cases d
    exact⟨[⟨.av r,xs⟩],[.ag (.av r) xs],rfl,rfl,fun rest=>rfl,.inl rfl⟩
   .simp only [dif_neg e]at d
    cases d
  |_=>simp[conv]at d
theorem UI {d:List b8} {a f:Acc} (h:gy B T d [.dead] a=some f):f.ps=a.ps/\f.rt=a.rt/\(∀rest,hA d rest=([.dead],rest,[])):=by
 match d,h with
 | [],h=>simp[gy]at h
 |v::r::l,h=>
  simp only[gy]at h
  obtain⟨_,_,h⟩:=ju.1 h
  cases h
 | [v],h=>
  simp only[gy]at h
  obtain⟨u,g,p⟩:=ju.1 h
  cases p
  cases v with
  |dead=>
   simp only[conv]at g
   cases g
   exact⟨rfl,rfl,fun rest=>rfl⟩
  |_=>simp[conv,ar.as]at g
theorem aku {l:List b8} {cs:List ar} {a g:Acc} {w:World} {b:Nat} (hm:DI w b cs) (h:gy B T l cs a=some g):∃cQ d,g.ps=a.ps++cQ/\g.rt=a.rt/\(∀rest,hA l (cQ++rest)=(d,rest,[]))/\DI w b d/\d.length=cs.length:=by
 obtain⟨p,r,es,fg,f,y,u,v⟩:=hm
 rcases y with rfl|rfl
 .obtain ⟨cQ,d,g1,g2,g3,g4⟩:=UK h
  refine⟨cQ,d,g1,g2,g3,⟨p,r,es,fg,f,g4,u,v⟩,?_⟩
  rcases g4 with rfl|rfl<;>rfl
 .obtain ⟨g1,g2,g3⟩:=UI h
  exact⟨[],[.dead],by simp[g1],g2,fun rest=>g3 rest,⟨p,r,es,fg,f,.inr rfl,u,v⟩,rfl⟩
theorem Kr (Y:vw B T fin Fr c c' F) (p:c'.w=c.w) (P:∀k b,aY B k=some b->j0 c k (c.β k) b.cs):∀(l:List (Nat×Bool×List b8)) (a r:Acc),pX B T l a=some r->Ext r fin->
  ∃cQ u Q us,r.ps=a.ps++cQ/\r.rt=a.rt++u/\(∀rest,l4 l (cQ++rest)=(Q,us))/\bs (ta c) u us/\Q.map (·.1)=l.map (·.1)/\((∀n z,(n,z)∈us->c'.tok n=z)->∀k bt,(k,bt)∈Q->∃aJ b,bV fin.az k=some aJ/\aY B aJ=some b/\j0 c' k (c.β aJ) bt.cs/\(bt.cn=true->aJ∈fin.dA)/\(bt.cn=false->b.cn=false/\aJ∈fin.gX)/\bt.cs.length=b.cs.length)
 | [],a,r,h,y=>by
  simp only[pX]at h;cases h
  exact⟨[],[],[],[],by simp,by simp,fun rest=>rfl,True.intro,rfl,fun _ k bt h=>by cases h⟩
 |(k,cn,Z)::l,a,r,h,y=>by
  simp only[pX]at h
  split at h
  case h_2=>cases h
  rename_i b au
  split at h
  case isFalse=>cases h
  rename_i LK
  obtain⟨oF,aD,aV⟩:=ju.1 h
  obtain⟨a2,bD,cN⟩:=ju.1 aV
  obtain⟨cy,g2,g3,g4,g5,g6,g7,g8,g9,_⟩:=yM aD
  obtain⟨cb,_⟩:=pY B T Z _ _ _ bD
  obtain⟨O,_⟩:=D8 B T l a2 r cN
  have C:∃s1 A d t1,a2.ps=oF.ps++s1/\a2.rt=oF.rt++A/\(∀rest,hA Z (s1++rest)=(d,rest,t1))/\bs (ta c) A t1/\((∀n z,(n,z)∈t1->c'.tok n=z)->j0 c' k (c.β ((bV a.az k).getD k)) d/\d.length=b.cs.length):=by
   have G:=Y.aW _ _ (y.az _ _ (O.az _ _ (cb.az _ _ g2)))
   rcases P _ b au with⟨U,us,bw,H,f⟩|⟨U,V⟩|⟨U,us,⟨Ua,n,m,seen,i1,i2,i3⟩,f⟩
   .obtain ⟨s1,A,d,t1,I,J,K,L,M⟩:=rf Y (fun c=>ee c) (fun x fW v h=>gQ h.1) (fun x fW v hi h=>⟨hi.2.1 h.1,h.2⟩) Z b.cs _ a2 us bD (O.trans y) f
    refine⟨s1,A,d,t1,I,J,K,L,fun ax=>?_⟩
    have ax:=M ax
    exact⟨.inl ⟨(PQ G).trans U,us,bw,by rw[p];exact H,ax⟩,by rw[ax.len,f.len]⟩
   .obtain ⟨cQ,d,I,J,K,L,M⟩:=aku V bD
    exact⟨cQ,[],d,[],I,by simp[J],K,True.intro,fun _=>⟨.inr (.inl ⟨G.trans U,by rw[p];exact L⟩),M⟩⟩
   .obtain ⟨s1,A,d,t1,I,J,K,L,M⟩:=rf Y (fun c=>ee c) (fun x fW v h=>gQ h.1) (fun x fW v hi h=>⟨hi.2.1 h.1,h.2⟩) Z b.cs _ a2 us bD (O.trans y) f
    refine⟨s1,A,d,t1,I,J,K,L,fun ax=>?_⟩
    have ax:=M ax
    exact⟨.inr (.inr ⟨G.trans U,us,⟨Ua,n,m,seen,i1,by rw[p];exact i2,i3⟩,ax⟩),by rw[ax.len,f.len]⟩
  obtain⟨s1,A,d,t1,I,J,K,L,M⟩:=C
  obtain⟨s2,kP,Q,t2,mX,pk,Cs,oc,Rb,uU⟩:=Kr Y p P l a2 r cN y
  refine⟨s1++s2,A++kP,(k,⟨cn,d⟩)::Q,t1++t2,by rw[mX,I,dJ,<-g3],by rw[pk,J,dJ,<-g4],fun rest=>?_,L.append oc,by simp[Rb],fun W j bt X=>?_⟩
  .simp only [l4,dJ,K,Cs]
  .rcases bm.1 X with X|X
   .cases X
    have ax:=M fun n z g=>W n z (e8 _ g)
    refine⟨_,b,y.az _ _ (O.az _ _ (cb.az _ _ g2)),au,ax.1,fun g=>y.dA _ (O.dA _ (cb.dA _ ?_)),fun g=>⟨?_,y.gX _ (O.gX _ (cb.gX _ ?_))⟩,ax.2⟩
    .simp only at g;simp[g]
    .simp only at g
     cases WK:b.cn with
     |false=>rfl
     |true=>have:=LK WK;rw[g]at this;cases this
    .simp only at g;simp[g]
   .exact uU (fun n z g=>W n z (kW _ g)) j bt X
end
theorem Su {c:Ctx}:∀ {l:List (Nat×Option Nat)} {a:List (Nat×Option bb)},bs (ta c) l a->a.map (·.1)=l.map (·.1)
 | [],[],_=>rfl
 |x::l,y::a,h=>by simp[h.1.1,Su h.2]
 | [],_::_,h=>h.elim
 |_::_,[],h=>h.elim
theorem xu :∀ {a:List (Nat×Option bb)},(a.map (·.1)).Nodup->∀n z,(n,z)∈a->aF a n=z
 | [],_,n,z,h=>by cases h
 |(m,y)::a,d,n,z,h=>by
  simp only[cv,ot]at d
  simp only[aF]
  rcases bm.1 h with h|h
  .cases h;simp
  .have:n≠m:=fun e=>d.1 (by rw[<-e];exact cd.2 ⟨(n,z),h,rfl⟩)
   rw[aA this]
   exact xu d.2 n z h
theorem qu :∀ {a:List (Nat×Option bb)} {n:Nat} {z:bb},aF a n=some z->(n,some z)∈a
 | [],n,z,h=>by cases h
 |(m,y)::a,n,z,h=>by
  simp only[aF]at h
  split at h
  .rename_i e;subst e;subst h;exact b6
  .exact b7 _ (qu h)
theorem n0 :∀ {a:List (Nat×cf)} {k:Nat} {b:cf},aY a k=some b->(k,b)∈a
 | [],k,b,h=>by cases h
 |(m,y)::a,k,b,h=>by
  simp only[aY]at h
  split at h
  .rename_i e;subst e;cases h;exact b6
  .exact b7 _ (n0 h)
theorem HM :∀ {a:List (Nat×cf)} {k:Nat},k∈a.map (·.1)->aY a k≠none
 |(m,y)::a,k,h=>by
  simp only[aY]
  split
  .simp
  .rename_i e
   simp only[cv,bm]at h
   exact HM (h.resolve_left e)
def dR (a:Acc) (β:Nat->Nat) (k:Nat):Nat:=β ((bV a.az k).getD k)
def gW (a:Acc) (τ:Nat->Value) (n:Nat):Value:=match bV a.rt n with
 |some (some m)=>τ m
 |_=>.slice none 0 0
def fs (a:Acc) (F:Nat->Nat->Prop) (n:Nat):Nat->Prop:=match bV a.rt n with
 |some (some m)=>F m
 |_=>fun _=>False
theorem qt {α:Type}:∀ {l:List (Nat×α)},(l.map (·.1)).Nodup->∀n z,(n,z)∈l->bV l n=some z
 | [],_,n,z,h=>by cases h
 |(m,y)::l,a,n,z,h=>by
  simp only[cv,ot]at a
  simp only[bV]
  rcases bm.1 h with h|h
  .cases h;simp
  .have:n≠m:=fun e=>a.1 (by rw[<-e];exact cd.2 ⟨(n,z),h,rfl⟩)
   rw[aA this]
   exact qt a.2 n z h
theorem VY {aa:Tok} (h:aa.wr=false):aa.cn.wr=false:=by unfold Tok.cn;cases aa.whole<;>first|exact h|rfl
theorem Le {w:World} {S S':bW} {live:Nat->Prop} {β:Nat->Nat} {τ:Nat->Value} (tok:Nat->Option bb) (d:List Nat):ha ⟨w,S,live,β,tok,τ⟩ ⟨w,S',live,β,dN tok d,τ⟩:=fun t ax=>by
 have ax:tok t≠none:=ax
 refine⟨?_,fun bY h=>?_⟩
 .show dN tok d t≠none
  unfold dN;split
  .simp
  .exact ax
 .obtain ⟨dd,f,rfl⟩:=Lf (show dN tok d t=some (.live bY)from h)
  exact⟨dd,f,rfl,by split<;>simp[Tok.VX],fun hw=>by
   by_cases a:t∈d
   .rw [ai a];exact⟨VY hw,Tok.VW dd⟩
   .rw [aA a];exact⟨hw,rfl⟩⟩
theorem D9 {R:ed} {w:World} {S:bW} {box:Nat->Option cf} {tok:Nat->Option bb} {β:Nat->Nat} {τ:Nat->Value} {F:Nat->Nat->Prop} (dG:Mem R box tok β τ F S w) {B:List (Nat×cf)} {T:List (Nat×Option bb)} (h2:∀k b,aY B k=some b->box k=some b) (dH:∀n z,aF T n=some z->tok n=some z)
  {sh:ay} {xs:List ar} {y:fZ sh.fm} {acc:Acc} (bB:sh.conv B T xs=some (y,acc)) {vals:List Value} (cO:bs (bo ⟨w,S,fun k=>box k≠none,β,tok,τ⟩) xs vals):
  kt acc/\∃S',(∀b o,S b o->S' b o)/\Mem R (fF box acc.dA) (dN tok acc.c8) β τ F S' w/\(∀k b,aY (sh.mk' y).B k=some b->∃aJ bt,bV acc.az k=some aJ/\fF box acc.dA aJ=some bt/\bt.cn=b.cn)/\
   (∀n aa,aF (sh.mk' y).T n=some (.live aa)->∃b4,(n,b4)∈acc.rt/\match b4 with|some m=>∃dd,dN tok acc.c8 m=some (.live dd)/\dd.wr=aa.wr|none=>True)/\
   (∀n x,(n,x)∈acc.rt->∃aa,aF (sh.mk' y).T n=some (.live aa))/\(∀k aJ,bV acc.az k=some aJ->aY (sh.mk' y).B k≠none)/\
   (∀Fr',(∀k b,aY (sh.mk' y).B k=some b->Fr' (dR acc β k))->(∀t aa b,aF (sh.mk' y).T t=some (.live aa)->fs acc F t b->Fr' b)->TC Fr' (aY (sh.mk' y).B) (aF (sh.mk' y).T) (dR acc β) (gW acc τ) (fs acc F) S' w)/\
   bs (bo ((sh.mk' y).ctx w S' (dR acc β) (gW acc τ))) (sh.mk' y).L vals:=by
 unfold ay.conv at bB
 obtain⟨oF,aD,bB⟩:=ju.1 bB
 obtain⟨a2,aV,bB⟩:=ju.1 bB
 split at bB
 case isFalse=>cases bB
 rename_i oS
 obtain⟨hn,hy,he⟩:=hJ.1 bB
 cases he
 simp only[JL,bk,cA]at oS
 obtain⟨⟨⟨⟨Xw,X9⟩,XP⟩,XQ⟩,LI⟩:=oS
 obtain⟨sM,i1⟩:=pY B T sh.vals xs _ oF aD
 obtain⟨kU,i2⟩:=D8 B T sh.boxes oF acc aV
 have hinv:kt acc:=i2 (i1 ⟨⟨by simp,fun i j x y m hi=>by simp at hi⟩,fun j cZ i h=>by cases h⟩)
 obtain⟨fM,h3,E6⟩:=dG.Lb acc.c8
 obtain⟨S',A,E7⟩:=h3.La acc.dA
 have nL:∀b o,S b o->S' b o:=fun b o h=>E7 b o (E6 b o h)
 have U:(fun k=>fF box acc.dA k≠none)=fun k=>box k≠none:=by
  funext k;unfold fF
  split
  .rename_i b h;simp[h]
  .rename_i h;simp[h]
 refine⟨hinv,S',nL,A,?_⟩
 obtain⟨c,d⟩:∃c:Ctx,c=⟨w,S',fun k=>box k≠none,β,dN tok acc.c8,τ⟩:=⟨_,rfl⟩
 obtain⟨Q,l3⟩:∃Q,Q=sh.mk' y:=⟨_,rfl⟩
 rw[<-l3]
 obtain⟨c',f⟩:∃c':Ctx,c'=Q.ctx w S' (dR acc β) (gW acc τ):=⟨_,rfl⟩
 have Yb:bs (bo c) xs vals:=cO.imp fun x v bd=>by
  rw[d]
  exact bo.mono (c:=⟨w,S,fun k=>box k≠none,β,tok,τ⟩) (c':=⟨w,S',fun k=>box k≠none,β,dN tok acc.c8,τ⟩) ⟨nL,fun _ _ _=>rfl⟩ (fY.refl rfl rfl) (Le tok acc.c8) bd
 have J:∀k aJ,bV acc.az k=some aJ->hR k=hR aJ:=fun k aJ h=>by simpa using XQ (k,aJ) (l8 h)
 have WM:∀k b,aY B k=some b->j0 c k (c.β k) b.cs:=fun k b r=>by
  have au:fF box acc.dA k=some {b with cn:=b.cn||decide (k∈acc.dA)}:=by unfold fF;rw[h2 k b r]
  have g5:=(A.boxes k _ au).2.2.2
  rw[U]at g5
  rw[d];exact g5
 have XA:∀ps,(l4 sh.boxes ps).1.map (·.1)=sh.boxes.map (·.1):=by
  intro ps
  generalize sh.boxes=l
  induction l generalizing ps with
  |nil=>rfl
  |cons x l lh=>
   obtain⟨k,cn,bQ⟩:=x
   simp only[l4,cv,lh]
 have tK:Q.B.map (·.1)=sh.boxes.map (·.1):=by
  rw[l3];unfold ay.mk';exact XA _
 have dP:vw B T acc R.dm c c' F:=by
  refine⟨by rw[f,d];rfl,by rw[f,d];rfl,fun n aa C=>?_,fun n aa C=>?_,fun k b o t z au r H _=>?_,fun n C lf=>?_,fun k aJ r=>?_,fun n b4 C=>?_,J,fun k r=>by simpa using LI k r⟩
  .rw [d];show dN tok acc.c8 n=_;unfold dN;rw[dH n _ C]
  .rw [d]at C⊢;exact A.bG n aa C
  .have Fc:fF box acc.dA k=some {b with cn:=b.cn||decide (k∈acc.dA)}:=by unfold fF;rw[h2 k b au]
   obtain⟨_,_,g3,vY⟩:=A.boxes k _ Fc
   obtain⟨bQ,bw,g4,g5⟩:=vY.cells (by have:=LI k r;simpa using this)
   have g3:=g3 (by simp[r])
   rw[U]at g5
   have Z:=B3 (c:=c) t _ z _ H (by rw[d];exact(g5.drop o).take t.w)
   intro j p cU
   have bR:j<t.w:=by have:=(dx.1 cU).1;rwa[en]at this
   have M:=Z.len
   rw[en]at M
   obtain⟨u,hu⟩:∃u,((bQ.drop o).take t.w)[j]? =some u:=⟨_,bH (by rw[M];exact bR)⟩
   have cE:=Z.get' j u p hu cU
   rw[ho,ai bR,hT]at hu
   have gf:o+j<b.cs.length:=by rw[g5.len];exact(dx.1 hu).1
   rw[d]at cE⊢
   exact⟨g3 _ gf,u,by show w.cell? _=_;rw[vH g4];exact hu,cE⟩
  .have:=Xw n C
   simp at this;exact this lf
  .rw [f,d]
   refine⟨?_,by show dR acc β k=_;unfold dR;rw[r];rfl⟩
   refine HM ?_
   rw[tK]
   have:=XP (k,aJ) (l8 r)
   obtain⟨b,kH,tC⟩:=List.any_eq_true.1 this
   exact cd.2 ⟨b,kH,by simpa using tC⟩
  .rw [f,d]
   show gW acc τ n=_
   unfold gW
   rw[qt hinv.rt.1 n b4 C]
   cases b4<;>rfl
 obtain⟨s1,od,ys,t1,kO,mU,uP,sf,Im⟩:=rf dP bo (fun x fW v h=>h) (fun x fW v hi h=>hi.2.2.2 h) sh.vals xs _ oF vals aD kU Yb
 obtain⟨s2,kP,Um,t2,mX,pk,Cs,oc,Rb,uU⟩:=Kr dP (by rw[f,d];rfl) WM sh.boxes oF acc aV (Ext.refl _)
 simp only[fj]at kO mU
 have XG:unpack sh.fm y=s1++s2:=by rw[QL _ _ _ hy,mX,kO]
 have J:Q=⟨ys,Um,t1++t2⟩:=by
  rw[l3]
  unfold ay.mk'
  rw[XG,uP]
  have:=Cs []
  rw[e5]at this
  simp only[this]
 have FE:acc.rt=od++kP:=by rw[pk,mU]
 have zv:bs (ta c) acc.rt Q.T:=by rw[FE,J];exact sf.append oc
 have FA:(Q.T.map (·.1)).Nodup:=by rw[Su zv];exact hinv.rt.1
 have mI:∀n z,(n,z)∈Q.T->c'.tok n=z:=fun n z H=>by rw[f];exact xu FA n z H
 have Wv:=uU fun n z H=>mI n z (by rw[J];exact kW _ H)
 have W:∀k bt,aY Q.B k=some bt->∃aJ b,bV acc.az k=some aJ/\aY B aJ=some b/\j0 c' k (c.β aJ) bt.cs/\(bt.cn=true->aJ∈acc.dA)/\(bt.cn=false->b.cn=false/\aJ∈acc.gX)/\bt.cs.length=b.cs.length:=fun k bt r=>by
  rw[J]at r;exact Wv k bt (n0 r)
 have G:∀(k:Nat) (bt:cf) (aJ:Nat) (b:cf),(bt.cn=true->aJ∈acc.dA)->(bt.cn=false->b.cn=false/\aJ∈acc.gX)->aY B aJ=some b->fF box acc.dA aJ=some {b with cn:=bt.cn}:=fun k bt aJ b I K au=>by
  unfold fF;rw[h2 aJ b au]
  cases H:bt.cn with
  |true=>simp[I H]
  |false=>
   obtain⟨g1,g2⟩:=K H
   have:=X9 aJ g2
   simp at this
   simp[g1,this]
 have O:∀(n:Nat) (aa:Tok),aF Q.T n=some (.live aa)->∃(i:Nat) (x:Nat×Option Nat),acc.rt[i]? =some x/\x.1=n/\match x.2 with
   |some m=>∃dd:Tok,dN tok acc.c8 m=some (.live dd)/\(⟨aa.t,aa.xs⟩:(t:aH)×List t.D)=⟨dd.t,dd.xs⟩/\aa.e=dd.e/\aa.wr=dd.wr/\(aa.deep=true->dd.deep=true)/\aa.tr=dd.tr/\(aa.tr≠none->aa.deep=true)
   |none=>aa.xs=[]/\(aa.tr=none\/(aa.tr=some []/\aa.wr=true/\aa.deep=true)):=fun n aa C=>by
  obtain⟨i,hi,tF⟩:=fe.1 (qu C)
  have P:i<acc.rt.length:=by rw[zv.len];exact hi
  obtain⟨I,bY,K,di⟩:=zv.get' i acc.rt[i] Q.T[i] (bH P) (bH hi)
  rw[tF]at I K
  cases K
  refine⟨i,acc.rt[i],bH P,I.symm,?_⟩
  rw[d]at di
  cases X:acc.rt[i].2 with
  |none=>rw[X]at di;exact di
  |some m=>rw[X]at di;exact di
 refine⟨fun k b r=>?_,fun n aa C=>?_,fun n x bd=>?_,fun k aJ r=>by have:=(dP.live k aJ r).1;rw[f]at this;exact this,fun Fr' Wj zp=>?_,by rw[<-f];rw[J];exact Im fun n z H=>mI n z (by rw[J];exact e8 _ H)⟩
 .obtain ⟨aJ,q3,I,K,di,fO,k9,Er⟩:=W k b r
  exact⟨aJ,_,I,G k b aJ q3 fO k9 K,rfl⟩
 .obtain ⟨i,x,bd,rfl,hm⟩:=O n aa C
  refine⟨x.2,fc bd,?_⟩
  revert hm
  cases x.2 with
  |none=>exact fun _=>True.intro
  |some m=>exact fun⟨dd,g1,_,_,g2,_⟩=>⟨dd,g1,g2.symm⟩
 .obtain ⟨i,hi⟩:=sU.1 bd
  obtain⟨⟨Ql,z⟩,H,I,aa,K,_⟩:=zv.get i (n,x) hi
  simp only at I K
  subst I;subst K
  exact⟨aa,xu FA _ _ (fc H)⟩
 have zq:∀(n:Nat) (aa:Tok),aF Q.T n=some (.live aa)->(∃(m:Nat) (dd:Tok),bV acc.rt n=some (some m)/\gW acc τ n=τ m/\fs acc F n=F m/\dN tok acc.c8 m=some (.live dd)/\(⟨aa.t,aa.xs⟩:(t:aH)×List t.D)=⟨dd.t,dd.xs⟩/\aa.e=dd.e/\aa.wr=dd.wr/\(aa.deep=true->dd.deep=true)/\aa.tr=dd.tr/\(aa.tr≠none->aa.deep=true))\/(gW acc τ n= .slice none 0 0/\(fs acc F n=fun _=>False)/\aa.xs=[]/\(aa.tr=none\/(aa.tr=some []/\aa.wr=true/\aa.deep=true))):=fun n aa C=>by
  obtain⟨i,x,bd,rfl,hm⟩:=O n aa C
  have M:=qt hinv.rt.1 x.1 x.2 (fc bd)
  cases X:x.2 with
  |none=>
   rw[X]at hm M
   exact .inr ⟨by unfold gW;rw[M],by unfold fs;rw[M],hm⟩
  |some m=>
   rw[X]at hm M
   obtain⟨dd,g⟩:=hm
   exact .inl ⟨m,dd,M,by unfold gW;rw[M],by unfold fs;rw[M],g⟩
 refine⟨fun k b r=>?_,fun k aJ b bt r kf e=>?_,fun n aa C=>?_,fun t dc aa bY b ax hP au jL=>?_,fun t aa k b ax r cM=>?_⟩
 .obtain ⟨aJ,q3,I,K,di,fO,k9,Er⟩:=W k b r
  obtain⟨g1,g2,g3,_⟩:=A.boxes aJ _ (G k b aJ q3 fO k9 K)
  have Y:dR acc β k=β aJ:=by unfold dR;rw[I];rfl
  refine⟨Wj k b r,fun H=>by rw[Y];exact g2 H,fun H o cx=>by rw[Y];exact g3 H o (by rw[Er]at cx;exact cx),?_⟩
  rw[Y]
  rw[f,d]at di
  exact di
 .obtain ⟨cP,ej,I,K,_,fO,k9,_⟩:=W k b r
  obtain⟨cI,ba,f1,f2,_,f5,f6,_⟩:=W aJ bt kf
  have Z:dR acc β k=β cP:=by unfold dR;rw[I];rfl
  have cN:dR acc β aJ=β cI:=by unfold dR;rw[f1];rfl
  rw[Z,cN]at e
  have:=A.jB cP cI _ _ (G k b cP ej fO k9 K) (G aJ bt cI ba f5 f6 f2) e
  subst this
  exact hinv.az k aJ cP I f1
 .rcases zq n aa C with⟨m,dd,M,g1,g2,g3,g4,g5,g6,g7,g8,g9⟩|⟨g1,g2,g3,g4⟩
  .have L1:=A.bG m dd g3
   have wk:=Sq L1 g4.symm
   rw[<-g5,<-g6,<-g8]at wk
   rw[g1]
   refine⟨fun b au=>⟨zp n aa b C au,?_⟩,?_,?_⟩
   .rw [g2]at au;exact(L1.1 b au).2
   .rw [g2];exact wk.2.1
   .rw [g2]
    have Z:=wk.2.2
    unfold hq at Z⊢
    cases O:aa.tr with
    |none=>rw[O]at Z;exact fun bc=>Z (g7 bc)
    |some aS=>
     rw[O]at Z
     obtain⟨cP,cI,hQ,Hq⟩:=Z
     exact⟨cP,g9 (by rw[O];simp),hQ,Hq⟩
  .refine ⟨fun b au=>by rw[g2]at au;exact au.elim,.inl ⟨g1,g3⟩,?_⟩
   unfold hq
   rcases g4 with g4|⟨g4,g5,g6⟩
   .rw [g4];exact fun _=>by rw[g1,g3];exact .nil _ _
   .rw [g4];exact⟨g5,g6,fun b au=>by rw[g2]at au;exact au.elim,.inl g1⟩
 .rcases zq t aa ax with⟨m,dd,M,g1,g2,g3,_⟩|⟨g1,g2,g3⟩
  .rcases zq dc bY hP with⟨aks,ang,Xm,VZ,ER,Lg,_⟩|⟨VZ,ER,Lg⟩
   .rw [g2]at au;rw[ER]at jL
    have:=A.eF m aks dd ang b g3 Lg au jL
    subst this
    obtain⟨i,hi⟩:=sU.1 (l8 M)
    obtain⟨eI,P⟩:=sU.1 (l8 Xm)
    have:=hinv.rt.2 i eI _ _ m hi P rfl rfl
    subst this
    rw[hi]at P
    cases P;rfl
   .rw [ER]at jL;exact jL.elim
  .rw [g2]at au;exact au.elim
 .obtain ⟨aJ,q3,I,K,di,fO,k9,Er⟩:=W k b r
  have Y:dR acc β k=β aJ:=by unfold dR;rw[I];rfl
  rw[Y]at cM
  rcases zq t aa ax with⟨m,dd,M,g1,g2,g3,_⟩|⟨g1,g2,g3⟩
  .rw [g2]at cM;exact A.fh m dd aJ _ g3 (G k b aJ q3 fO k9 K) cM
  .rw [g2]at cM;exact cM
section
variable {E : Env} {o : Oper} {s : aX} {e : bO} {aK : c6}
theorem IJ :∀(l:List Nat) (B:List (Nat×cf)) (f:List (Nat×cf)->bh) (az rt:List Nat),(xH l B f).R s az rt e aK->(∀k b,aY B k=some b->aY s.B k=some b)->∃p d,(∀k b,aY p k=some b->aY s.B k=some b)/\(f p).R s d rt e aK
 | [],B,f,az,rt,h,g=>⟨B,az,g,h⟩
 |k::l,B,f,az,rt,h,g=>by
  simp only[xH,bh.R]at h
  split at h
  .rename_i b au
   refine IJ l _ f _ rt h (fun j bt a=>?_)
   rw[HN]at a
   simp only[updB]at a
   split at a
   .rename_i r;subst r;cases a;exact au
   .exact g j bt a
  .exact h.elim
theorem IL :∀(l:List Nat) (T:List (Nat×Option bb)) (f:List (Nat×Option bb)->bh) (az rt:List Nat),(xI l T f).R s az rt e aK->(∀k b,aF T k=some b->aF s.T k=some b)->∃p d,(∀k b,aF p k=some b->aF s.T k=some b)/\(f p).R s az d e aK
 | [],T,f,az,rt,h,g=>⟨T,rt,g,h⟩
 |k::l,T,f,az,rt,h,g=>by
  simp only[xI,bh.R]at h
  refine IL l _ f az _ h (fun j bt a=>?_)
  rw[mP]at a
  simp only[updT]at a
  split at a
  .rename_i r;subst r;exact a
  .exact g j bt a
theorem Ir {B:List (Nat×cf)} {T:List (Nat×Option bb)} {xs:List ar} {f:(m:Model)->fZ m.arg.fm->Acc->bh} {az rt:List Nat}:∀(l:List Model),(xE B T xs f l).R s az rt e aK->∃m a acc,m∈l/\m.arg.conv B T xs=some (a,acc)/\(f m a acc).R s az rt e aK
 | [],h=>h.elim
 |m::l,h=>by
  simp only[xE]at h
  split at h
  .rename_i a acc d
   exact⟨m,a,acc,b6,d,h⟩
  .obtain ⟨g,a,acc,p,r,u⟩:=Ir l h
   exact⟨g,a,acc,b7 _ p,r,u⟩
theorem Lc :∀(l:List Nat) (r:bh) (az rt:List Nat),(zf E l r).R s az rt e aK->(∀k,k∈l->aY s.B k=none/\E.res k=false)/\∃a,r.R s a rt e aK
 | [],r,az,rt,h=>⟨(fun k d=>by cases d),az,h⟩
 |k::l,r,az,rt,h=>by
  simp only[zf,bh.R]at h
  split at h
  .rename_i d
   split at h
   .exact h.elim
   .rename_i g
    obtain⟨p,u⟩:=Lc l r _ rt h
    refine⟨fun j f=>?_,u⟩
    rcases bm.1 f with rfl|f
    .exact ⟨d,by simpa using g⟩
    .exact p j f
  .exact h.elim
theorem EP :∀(l:List Nat) (r:bh) (az rt:List Nat),(vV E l r).R s az rt e aK->(∀k,k∈l->aF s.T k=none/\E.res k=false)/\∃a,r.R s az a e aK
 | [],r,az,rt,h=>⟨(fun k d=>by cases d),rt,h⟩
 |k::l,r,az,rt,h=>by
  simp only[vV,bh.R]at h
  split at h
  .rename_i d
   split at h
   .exact h.elim
   .rename_i g
    obtain⟨p,u⟩:=EP l r az _ h
    refine⟨fun j f=>?_,u⟩
    rcases bm.1 f with rfl|f
    .exact ⟨d,by simpa using g⟩
    .exact p j f
  .exact h.elim
end
section
variable {c c' : Ctx} {cJ cw : Nat -> Nat} (hw : c'.w = c.w) (da : c'.S = c.S) (au : ∀ k, c.live k -> c'.live (cJ k) /\ c'.β (cJ k) = c.β k) (ax : ∀ n, c.tok n ≠ none -> c'.tok (cw n) = c.tok n /\ c'.τ (cw n) = c.τ n) (hm : ∀ k, c.live k -> hR (cJ k) = hR k)
include hw da au ax hm
theorem po {x:ar} {v:Value} (f:gw c x v):gw c' (x.sq cJ cw) v:=by
 cases x with
 |dead=>exact True.intro
 |ag t y=>obtain⟨p,h,d⟩:=f;exact⟨p,h,by rw[hw,da];exact d⟩
 |aQ=>exact f
 |eK=>exact f
 |box k o=>obtain⟨h,d⟩:=f;exact⟨(au k h).1,by rw[(au k h).2];unfold qJ at d⊢;rw[hm k h];exact d⟩
 |ptr t y o=>obtain⟨b,q,h,d⟩:=f;exact⟨b,q,h,by rw[hw,da];exact d⟩
 |own n t xs=>
  obtain⟨h,d,r⟩:=f
  obtain⟨g1,g2⟩:=ax n d
  exact⟨by rw[hw,da];exact h,by rw[g1];exact d,fun aa a=>by rw[g1]at a;rw[g2];exact r aa a⟩
 |aw n=>
  obtain⟨h,d,r⟩:=f
  obtain⟨g1,g2⟩:=ax n d
  exact⟨h,by rw[g1];exact d,fun aa a=>by rw[g1]at a;rw[g2];exact r aa a⟩
 |fr n i o=>
  obtain⟨h,d,r⟩:=f
  obtain⟨g1,g2⟩:=ax n d
  exact⟨h,by rw[g1];exact d,fun aa a=>by rw[g1]at a;rw[g2];exact r aa a⟩
 |sub n l k=>
  obtain⟨h,d,r⟩:=f
  obtain⟨g1,g2⟩:=ax n d
  exact⟨h,by rw[g1];exact d,fun aa a=>by rw[g1]at a;rw[g2];exact r aa a⟩
 |iJ g=>exact⟨by rw[da];exact f.1,by rw[hw];exact f.2.1,f.2.2⟩
 |agg _=>exact f.elim
 |bM _=>exact f.elim
 |aU _ _=>exact f.elim
theorem Rm :∀ {xs:List ar} {a:List Value},bs (gw c) xs a->bs (gw c') (ar.jU cJ cw xs) a
 | [],[],_=>True.intro
 |_::xs,_::a,h=>⟨po hw da au ax hm h.1,Rm h.2⟩
 | [],_::_,h=>h.elim
 |_::_,[],h=>h.elim
theorem oe {x:ar} {v:Value} (a:e9 c x v):e9 c' (x.sq cJ cw) v:=by
 cases x with
 |aU f cs=>obtain⟨us,e,d⟩:=a;exact⟨us,e,Rm hw da au ax hm d⟩
 |agg _=>exact a.elim
 |bM _=>exact a.elim
 |dead=>exact True.intro
 |ag t y=>exact jy (po hw da au ax hm (x:=.ag t y) a)
 |aQ=>exact a
 |eK=>exact a
 |box k o=>exact jy (po hw da au ax hm (x:=.box k o) a)
 |ptr t y o=>exact jy (po hw da au ax hm (x:=.ptr t y o) a)
 |own n t xs=>exact jy (po hw da au ax hm (x:=.own n t xs) a)
 |aw n=>exact jy (po hw da au ax hm (x:=.aw n) a)
 |fr n i o=>exact jy (po hw da au ax hm (x:=.fr n i o) a)
 |iJ g=>exact jy (po hw da au ax hm (x:=.iJ g) a)
 |sub n l k=>exact jy (po hw da au ax hm (x:=.sub n l k) a)
theorem Cw :∀ {xs:List ar} {a:List Value},bs (ee c) xs a->bs (ee c') (ar.jU cJ cw xs) a
 | [],[],_=>True.intro
 |_::xs,_::a,h=>⟨⟨oe hw da au ax hm h.1.1,h.1.2⟩,Cw h.2⟩
 | [],_::_,h=>h.elim
 |_::_,[],h=>h.elim
theorem mZ {x:ar} {v:Value} (a:ga c x v):ga c' (x.sq cJ cw) v:=by
 cases x with
 |agg cs=>obtain⟨us,e,d⟩:=a;exact⟨us,e,Cw hw da au ax hm d⟩
 |bM _=>exact a.elim
 |aU f cs=>exact kz (oe hw da au ax hm (x:=.aU f cs) a)
 |dead=>exact True.intro
 |ag t y=>exact kz (oe hw da au ax hm (x:=.ag t y) a)
 |aQ=>exact a
 |eK=>exact a
 |box k o=>exact kz (oe hw da au ax hm (x:=.box k o) a)
 |ptr t y o=>exact kz (oe hw da au ax hm (x:=.ptr t y o) a)
 |own n t xs=>exact kz (oe hw da au ax hm (x:=.own n t xs) a)
 |aw n=>exact kz (oe hw da au ax hm (x:=.aw n) a)
 |fr n i o=>exact kz (oe hw da au ax hm (x:=.fr n i o) a)
 |iJ g=>exact kz (oe hw da au ax hm (x:=.iJ g) a)
 |sub n l k=>exact kz (oe hw da au ax hm (x:=.sub n l k) a)
theorem Rn :∀ {xs:List ar} {a:List Value},bs (ga c) xs a->bs (ga c') (ar.jU cJ cw xs) a
 | [],[],_=>True.intro
 |_::xs,_::a,h=>⟨mZ hw da au ax hm h.1,Rn h.2⟩
 | [],_::_,h=>h.elim
 |_::_,[],h=>h.elim
theorem alO {x:ar} {v:Value} (a:bo c x v):bo c' (x.sq cJ cw) v:=by
 cases x with
 |bM cs=>obtain⟨us,e,d⟩:=a;exact⟨us,e,Rn hw da au ax hm d⟩
 |agg cs=>exact jz (mZ hw da au ax hm (x:=.agg cs) a)
 |aU f cs=>exact jz (mZ hw da au ax hm (x:=.aU f cs) a)
 |dead=>exact True.intro
 |ag t y=>exact jz (mZ hw da au ax hm (x:=.ag t y) a)
 |aQ=>exact a
 |eK=>exact a
 |box k o=>exact jz (mZ hw da au ax hm (x:=.box k o) a)
 |ptr t y o=>exact jz (mZ hw da au ax hm (x:=.ptr t y o) a)
 |own n t xs=>exact jz (mZ hw da au ax hm (x:=.own n t xs) a)
 |aw n=>exact jz (mZ hw da au ax hm (x:=.aw n) a)
 |fr n i o=>exact jz (mZ hw da au ax hm (x:=.fr n i o) a)
 |iJ g=>exact jz (mZ hw da au ax hm (x:=.iJ g) a)
 |sub n l k=>exact jz (mZ hw da au ax hm (x:=.sub n l k) a)
end
theorem K6 :∀(l:List (Nat×cf)) (f:Nat->Option cf),(l.map (·.1)).Nodup->∀k,l.foldl (fun f x=>updB f x.1 x.2) f k=match aY l k with|some b=>some b|none=>f k
 | [],f,_,k=>rfl
 |(j,b)::l,f,a,k=>by
  simp only[cv,ot]at a
  rw[eR,K6 l _ a.2]
  simp only[aY]
  by_cases e:k=j
  .subst e
   have:aY l k=none:=by
    cases h:aY l k with
    |none=>rfl
    |some c=>exact absurd (cd.2 ⟨(k,c),n0 h,rfl⟩) a.1
   simp[this,updB]
  .simp [e,updB]
theorem P9 :∀ {l:List (Nat×Option bb)} {k:Nat},k∉l.map (·.1)->aF l k=none
 | [],k,_=>rfl
 |(j,x)::l,k,h=>by
  simp only[cv,bm,not_or]at h
  simp only[aF]
  rw[aA h.1]
  exact P9 h.2
theorem K9 :∀(l:List (Nat×Option bb)) (f:Nat->Option bb),(l.map (·.1)).Nodup->∀k,l.foldl (fun f x=>updT f x.1 x.2) f k=if k∈l.map (·.1)then aF l k else f k
 | [],f,_,k=>by simp
 |(j,b)::l,f,d,k=>by
  simp only[cv,ot]at d
  rw[eR,K9 l _ d.2]
  simp only[aF,cv,bm]
  by_cases e:k=j
  .subst e
   simp[d.1,updT]
  .by_cases a:k∈l.map (·.1)
   .rw [ai a,ai (.inr a),aA e]
   .rw [aA a,aA (fun h=>h.elim e a)]
    simp[updT,e]
theorem K7 (B:List (Nat×cf)) (box:Nat->Option cf) (a:∀k b,aY B k=some b->box k=some b):∀(ks:List Nat) (f:Nat->Option cf),(∀k,k∈ks->aY B k≠none)->∀k,(ks.filterMap fun k=>(aY B k).map fun b=>(k,(⟨true,b.cs⟩:cf))).foldl (fun f x=>updB f x.1 x.2) f k=if k∈ks then(box k).map fun b=>⟨true,b.cs⟩else f k
 | [],f,_,k=>by simp
 |j::ks,f,h,k=>by
  obtain⟨b,au⟩:=gk.1 (h j b6)
  simp only[vk,au,ou,eR]
  rw[K7 B box a ks _ (fun k d=>h k (b7 _ d))]
  by_cases e:k=j
  .subst e
   simp only[updB,if_true,bm,true_or,a k b au,ou]
   split<;>rfl
  .simp [e,updB]
theorem K8 (T:List (Nat×Option bb)) (tok:Nat->Option bb) (y:∀k b,aF T k=some b->tok k=some b):∀(a:List Nat) (f:Nat->Option bb),(∀n,n∈a->r7 (aF T n)=true)->∀k,(a.filterMap (vX T)).foldl (fun f x=>updT f x.1 x.2) f k=if k∈a then dN tok a k else f k
 | [],f,_,k=>by simp
 |j::a,f,h,k=>by
  have r:=h j b6
  have g:∀n (a:List Nat),n∈a->r7 (aF T n)=true->dN tok a n=match aF T n with|some (.live aa)=>some (.live aa.cn)|z=>z:=fun n a C l=>by
   cases p:aF T n with
   |none=>rw[p]at l;cases l
   |some z=>cases z with
    |eg=>rw[p]at l;cases l
    |live bY=>unfold dN;rw[y n _ p];simp[C]
  cases u:aF T j with
  |none=>rw[u]at r;cases r
  |some z=>cases z with
   |eg=>rw[u]at r;cases r
   |live aa=>
    simp only[vk,vX,u,eR]
    rw[show(a.filterMap fun n=>vX T n)=a.filterMap (vX T)from rfl]at*
    rw[K8 T tok y a _ (fun k G=>h k (b7 _ G))]
    by_cases e:k=j
    .subst e
     have A:=g k (k::a) b6 r
     rw[u]at A
     simp only[bm,true_or,if_true,A]
     split
     .rename_i d;rw[g k a d r,u]
     .simp [updT]
    .by_cases d:k∈a
     .simp only [d,if_true,bm,or_true]
      have v:=h k (b7 _ d)
      rw[g k a d v,g k (j::a) (b7 _ d) v]
     .simp [d,e,updT]
end Go.Proofs.YtnkagklajgimlaaGreatDoor
namespace Go.Proofs.YtnkagklajgimlaaGreatDoor
open Go.RowKit
structure sZ (acc:Acc) (fT s1:aX) (cJ cw:Nat->Nat) (ik:Nat->Option cf) (hk:Nat->Option bb):Prop where
 az:∀k aJ,bV acc.az k=some aJ->cJ k=aJ/\aY s1.B k≠none/\ik aJ≠none
 alC:∀j cZ i,bV acc.az j=some i->bV acc.az cZ=some i->j=cZ
 IY:∀k b,aY fT.B k=some b->∃aJ,bV acc.az k=some aJ
 o7:∀k,aY s1.B k≠none->bV acc.az k=none->ik (cJ k)=none
 akG:∀k aJ,bV acc.az k=none->bV acc.az aJ=none->cJ k=cJ aJ->k=aJ
 rt:∀n m,bV acc.rt n=some (some m)->cw n=m
 al3:∀n b4 m,bV acc.rt n=some (some m)->bV acc.rt b4=some (some m)->n=b4
 IZ:∀n aa,aF fT.T n=some (.live aa)->∃x,bV acc.rt n=some x/\∀m,x=some m->∃dd,hk m=some (.live dd)
 H4:∀n,aF s1.T n≠none->(∀m,bV acc.rt n≠some (some m))->hk (cw n)=none
 akN:∀n b4,(∀m,bV acc.rt n≠some (some m))->(∀m,bV acc.rt b4≠some (some m))->cw n=cw b4->n=b4
 back:∀n m z,bV acc.rt n=some (some m)->aF s1.T n=some z->∃aa bY,hk m=some (.live aa)/\z= .live bY/\aa.wr=true/\bY.t=aa.t
theorem sZ.Ml {acc:Acc} {fT s1:aX} {cJ cw:Nat->Nat} {ik:Nat->Option cf} {hk:Nat->Option bb} (h:sZ acc fT s1 cJ cw ik hk) {k aJ:Nat} (l:aY s1.B k≠none) (p:aY s1.B aJ≠none) (e:cJ k=cJ aJ):k=aJ:=by
 cases g1:bV acc.az k with
 |some i=>
  obtain⟨g,_,d⟩:=h.az k i g1
  cases g2:bV acc.az aJ with
  |some f=>
   obtain⟨a,_,_⟩:=h.az aJ f g2
   rw[g,a]at e;subst e
   exact h.alC k aJ i g1 g2
  |none=>have:=h.o7 aJ p g2;rw[<-e,g]at this;exact absurd this d
 |none=>
  cases g2:bV acc.az aJ with
  |some f=>
   obtain⟨a,_,d⟩:=h.az aJ f g2
   have:=h.o7 k l g1;rw[e,a]at this;exact absurd this d
  |none=>exact h.akG k aJ g1 g2 e
theorem sZ.F0 {acc:Acc} {fT s1:aX} {cJ cw:Nat->Nat} {ik:Nat->Option cf} {hk:Nat->Option bb} (h:sZ acc fT s1 cJ cw ik hk) {k aJ:Nat} (a:aF s1.T k≠none) (l:aF s1.T aJ≠none) (e:cw k=cw aJ):k=aJ:=by
 have live:∀k m,aF s1.T k≠none->bV acc.rt k=some (some m)->hk m≠none:=fun k m a g=>by
  obtain⟨z,r⟩:=gk.1 a
  obtain⟨aa,_,ax,_⟩:=h.back k m z g r
  rw[ax];simp
 by_cases g1:∃m,bV acc.rt k=some (some m)
 .obtain ⟨m,g1⟩:=g1
  have p:=h.rt k m g1
  by_cases g2:∃m,bV acc.rt aJ=some (some m)
  .obtain ⟨d,g2⟩:=g2
   have f:=h.rt aJ d g2
   rw[p,f]at e;subst e
   exact h.al3 k aJ m g1 g2
  .have:=h.H4 aJ l (fun m hm=>g2 ⟨m,hm⟩)
   rw[<-e,p]at this
   exact absurd this (live k m a g1)
 .by_cases g2:∃m,bV acc.rt aJ=some (some m)
  .obtain ⟨d,g2⟩:=g2
   have f:=h.rt aJ d g2
   have:=h.H4 k a (fun m hm=>g1 ⟨m,hm⟩)
   rw[e,f]at this
   exact absurd this (live aJ d l g2)
  .exact h.akN k aJ (fun m hm=>g1 ⟨m,hm⟩) (fun m hm=>g2 ⟨m,hm⟩) e
open Classical in
noncomputable def sg {α:Type} (dom:Nat->Prop) (ρ:Nat->Nat) (f g:Nat->α) (k:Nat):α:=if h:∃j,dom j/\ρ j=k then f (Classical.choose h)else g k
theorem Is {α:Type} {dom:Nat->Prop} {ρ:Nat->Nat} {f g:Nat->α} (hi:∀j cZ,dom j->dom cZ->ρ j=ρ cZ->j=cZ) {j:Nat} (a:dom j):sg dom ρ f g (ρ j)=f j:=by
 unfold sg
 have h:∃cZ,dom cZ/\ρ cZ=ρ j:=⟨j,a,rfl⟩
 rw[dif_pos h]
 obtain⟨d,l⟩:=Classical.choose_spec h
 rw[hi _ _ d a l]
theorem It {α:Type} {dom:Nat->Prop} {ρ:Nat->Nat} {f g:Nat->α} {k:Nat} (h:∀j,dom j->ρ j≠k):sg dom ρ f g k=g k:=by
 unfold sg
 rw[dif_neg]
 rintro⟨j,a,d⟩
 exact h j a d
theorem Uq {R:ed} {w fu:World} {S fM:bW} {ik:Nat->Option cf} {hk:Nat->Option bb} {β Z:Nat->Nat} {τ pG:Nat->Value} {F kv:Nat->Nat->Prop} (K:Mem R ik hk β τ F S w) {acc:Acc} {fT s1:aX} {cJ cw:Nat->Nat} (A:sZ acc fT s1 cJ cw ik hk)
  (X:Mem (jh fT (dR acc β) (gW acc τ) (fs acc F) S w) (aY s1.B) (aF s1.T) Z pG kv fM fu)
  (y:Nat->Option cf) (p:Nat->Option bb)
  (tC:∀k,aY s1.B k≠none->y (cJ k)=(aY s1.B k).map fun b=>⟨b.cn,ar.jU cJ cw b.cs⟩) (L:∀k,(∀j,aY s1.B j≠none->cJ j≠k)->y k=ik k)
  (M:∀n,aF s1.T n≠none->p (cw n)=aF s1.T n) (FI:∀t,(∀n,aF s1.T n≠none->cw n≠t)->(∃n,bV acc.rt n=some (some t))->p t=some .eg) (FJ:∀t,(∀n,aF s1.T n≠none->cw n≠t)->(¬∃n,bV acc.rt n=some (some t))->p t=hk t)
  (XS:∀k,aY s1.B k≠none->bV acc.az k=none->R.ny (cJ k)=none) (XT:∀n,aF s1.T n≠none->(∀m,bV acc.rt n≠some (some m))->R.gi (cw n)=none)
  (nN:∀n m,bV acc.rt n=some (some m)->aF s1.T n≠none->∃aa,aF fT.T n=some (.live aa)) (XW:∀k aJ,bV acc.az k=some aJ->aY fT.B k≠none) (rD:∀n aa,aF s1.T n=some (.live aa)->aa.only) (wo:∀k,aY s1.B k≠none->hR (cJ k)=hR k):
  ∃H G oA,Mem R y p H G oA fM fu/\Ctx.nt ⟨w,S,fun k=>ik k≠none,β,hk,τ⟩ ⟨fu,fM,fun k=>y k≠none,H,p,G⟩/\fY ⟨w,S,fun k=>ik k≠none,β,hk,τ⟩ ⟨fu,fM,fun k=>y k≠none,H,p,G⟩/\ha ⟨w,S,fun k=>ik k≠none,β,hk,τ⟩ ⟨fu,fM,fun k=>y k≠none,H,p,G⟩/\
   (∀k,aY s1.B k≠none->y (cJ k)≠none/\H (cJ k)=Z k)/\(∀n,aF s1.T n≠none->p (cw n)=aF s1.T n/\G (cw n)=pG n):=by
 obtain⟨H,Mh⟩:∃H,H=sg (fun j=>aY s1.B j≠none) cJ Z β:=⟨_,rfl⟩
 obtain⟨G,Mj⟩:∃G,G=sg (fun j=>aF s1.T j≠none) cw pG τ:=⟨_,rfl⟩
 obtain⟨oA,zp⟩:∃oA,oA=sg (fun j=>aF s1.T j≠none) cw kv F:=⟨_,rfl⟩
 have bin:∀ {k},aY s1.B k≠none->H (cJ k)=Z k:=fun {k} g=>by rw[Mh];exact Is (dom:=fun j=>aY s1.B j≠none) (fun j cZ J V e=>A.Ml J V e) g
 have O:∀ {k},(∀j,aY s1.B j≠none->cJ j≠k)->H k=β k:=fun {k} g=>by rw[Mh];exact It g
 have u9:∀ {k},aF s1.T k≠none->G (cw k)=pG k:=fun {k} g=>by rw[Mj];exact Is (dom:=fun j=>aF s1.T j≠none) (fun j cZ J V e=>A.F0 J V e) g
 have Dm:∀ {k},(∀j,aF s1.T j≠none->cw j≠k)->G k=τ k:=fun {k} g=>by rw[Mj];exact It g
 have fin:∀ {k},aF s1.T k≠none->oA (cw k)=kv k:=fun {k} g=>by rw[zp];exact Is (dom:=fun j=>aF s1.T j≠none) (fun j cZ J V e=>A.F0 J V e) g
 have Y:∀ {k},(∀j,aF s1.T j≠none->cw j≠k)->oA k=F k:=fun {k} g=>by rw[zp];exact It g
 have C:∀(dom:Nat->Prop) (ρ:Nat->Nat) (k:Nat),(∃j,dom j/\ρ j=k)\/ ∀j,dom j->ρ j≠k:=fun dom ρ k=>by
  by_cases h:∃j,dom j/\ρ j=k
  .exact .inl h
  .exact .inr fun j J V=>h ⟨j,J,V⟩
 have Ka:∀ {k aJ},bV acc.az k=some aJ->Z k=β aJ:=fun {k aJ} h=>by
  obtain⟨b,au⟩:=gk.1 (XW k aJ h)
  have:=X.k6 k (dR acc β k) (by simp[jh,au]) (A.az k aJ h).2.1
  rw[this];unfold dR;rw[h];rfl
 have Sw:∀ {n m bY},bV acc.rt n=some (some m)->aF s1.T n=some (.live bY)->pG n=τ m:=fun {n m bY} h bI=>by
  obtain⟨aa,I⟩:=nN n m h (by rw[bI];simp)
  have:=X.kS n (gW acc τ n) bY (by simp[jh,I]) bI
  rw[this];unfold gW;rw[h]
 have P1:∀b,kj fT (dR acc β) (fs acc F) b->R.dm b/\b<w.heap.size:=fun b au=>by
  rcases au with⟨k,x,g,rfl⟩|⟨t,aa,ax,U⟩
  .obtain ⟨aJ,Q⟩:=A.IY k x g
   obtain⟨b,au⟩:=gk.1 (A.az k aJ Q).2.2
   have:dR acc β k=β aJ:=by unfold dR;rw[Q];rfl
   rw[this]
   exact⟨(K.boxes aJ b au).1,K.blt au⟩
  .unfold fs at U
   obtain⟨x,bd,bK⟩:=A.IZ t aa ax
   rw[bd]at U
   cases x with
   |none=>exact U.elim
   |some m=>
    obtain⟨dd,hc⟩:=bK m rfl
    exact(K.bG m dd hc).1 b U
 have EN:∀b,(jh fT (dR acc β) (gW acc τ) (fs acc F) S w).dm b->R.dm b:=fun b au=>by
  rcases au with au|au
  .exact .inl (dK K.size au)
  .exact (P1 b au).1
 have EO:∀ {k b},ik k=some b->(∀j,aY s1.B j≠none->cJ j≠k)->¬kj fT (dR acc β) (fs acc F) (β k):=fun {k b} g f bK=>by
  rcases bK with⟨j,x,P,e⟩|⟨t,aa,ax,U⟩
  .obtain ⟨aJ,Q⟩:=A.IY j x P
   obtain⟨cy,cb,di⟩:=A.az j aJ Q
   obtain⟨bt,W⟩:=gk.1 di
   have:dR acc β j=β aJ:=by unfold dR;rw[Q];rfl
   rw[this]at e
   have:=K.jB aJ k bt b W g e
   exact f j cb (cy.trans this)
  .unfold fs at U
   obtain⟨x,bd,bK⟩:=A.IZ t aa ax
   rw[bd]at U
   cases x with
   |none=>exact U.elim
   |some m=>
    obtain⟨dd,hc⟩:=bK m rfl
    exact K.fh m dd k b hc g U
 have zd:∀ {t aa b},hk t=some (.live aa)->(¬∃n,bV acc.rt n=some (some t))->F t b->¬kj fT (dR acc β) (fs acc F) b:=fun {t aa b} ax f U bK=>by
  rcases bK with⟨j,x,P,rfl⟩|⟨n,bY,u,mD⟩
  .obtain ⟨aJ,Q⟩:=A.IY j x P
   obtain⟨bt,W⟩:=gk.1 (A.az j aJ Q).2.2
   have:dR acc β j=β aJ:=by unfold dR;rw[Q];rfl
   rw[this]at U
   exact K.fh t aa aJ bt ax W U
  .unfold fs at mD
   obtain⟨x,bd,bK⟩:=A.IZ n bY u
   rw[bd]at mD
   cases x with
   |none=>exact mD.elim
   |some m=>
    obtain⟨dd,hc⟩:=bK m rfl
    have:=K.eF m t dd aa b hc ax mD U
    subst this
    exact f ⟨n,bd⟩
 have B9:∀b o,S b o->fM b o:=X.cq
 have akK:∀b o,fM b o->b<w.heap.size->¬kj fT (dR acc β) (fs acc F) b->S b o:=fun b o h gf u=>by
  rcases X.new b o h with h|h|h
  .exact h
  .exact absurd gf (by have:w.heap.size<=b:=h;omega)
  .exact absurd h u
 have J7:∀b,b<w.heap.size->¬kj fT (dR acc β) (fs acc F) b->fu.heap[b]? =w.heap[b]? :=fun b J V=>X.ew.block b J V
 have D5:∀b o,S b o->fu.cell? ⟨b,o,none⟩=w.cell? ⟨b,o,none⟩:=X.iP
 have aoU:w.heap.size<=fu.heap.size:=X.ew.size
 have told:∀ {t aa},p t=some (.live aa)->(∀n,aF s1.T n≠none->cw n≠t)->hk t=some (.live aa)/\¬∃n,bV acc.rt n=some (some t):=fun {t aa} ax f=>by
  by_cases h:∃n,bV acc.rt n=some (some t)
  .rw [FI t f h]at ax;cases ax
  .rw [FJ t f h]at ax;exact⟨ax,h⟩
 have BV:∀ {k},aY s1.B k≠none->y (cJ k)≠none:=fun {k} g=>by
  obtain⟨b,au⟩:=gk.1 g
  rw[tC k g,au];simp
 have zr:Ctx.nt ⟨w,S,fun k=>ik k≠none,β,hk,τ⟩ ⟨fu,fM,fun k=>y k≠none,H,p,G⟩:=⟨B9,D5⟩
 have zo:fY ⟨w,S,fun k=>ik k≠none,β,hk,τ⟩ ⟨fu,fM,fun k=>y k≠none,H,p,G⟩:=fun k g=>by
  have g:ik k≠none:=g
  rcases C (fun j=>aY s1.B j≠none) cJ k with⟨j,P,rfl⟩|f
  .refine ⟨BV P,?_⟩
   show H (cJ j)=β (cJ j)
   cases cE:bV acc.az j with
   |some aJ=>rw[bin P,Ka cE,(A.az j aJ cE).1]
   |none=>exact absurd (A.o7 j P cE) g
  .exact ⟨by show y k≠none;rw[L k f];exact g,O f⟩
 have v7:ha ⟨w,S,fun k=>ik k≠none,β,hk,τ⟩ ⟨fu,fM,fun k=>y k≠none,H,p,G⟩:=fun t ax=>by
  have ax:hk t≠none:=ax
  rcases C (fun j=>aF s1.T j≠none) cw t with⟨n,u,rfl⟩|f
  .refine ⟨by show p (cw n)≠none;rw[M n u];exact u,fun bY I=>?_⟩
   have I:p (cw n)=some (.live bY):=I
   rw[M n u]at I
   by_cases hm:∃m,bV acc.rt n=some (some m)
   .obtain ⟨m,hm⟩:=hm
    have em:=A.rt n m hm
    obtain⟨aa,va,g1,g2,g3,g4⟩:=A.back n m _ hm I
    cases g2
    refine⟨aa,by show hk (cw n)=_;rw[em];exact g1,?_,g4,fun h=>by rw[g3]at h;cases h⟩
    show G (cw n)=τ (cw n)
    rw[u9 u,Sw hm I,em]
   .exact absurd (A.H4 n u (fun m h=>hm ⟨m,h⟩)) ax
  .by_cases h:∃n,bV acc.rt n=some (some t)
   .refine ⟨by show p t≠none;rw[FI t f h];simp,fun bY I=>?_⟩
    have I:p t=some (.live bY):=I
    rw[FI t f h]at I;cases I
   .refine ⟨by show p t≠none;rw[FJ t f h];exact ax,fun bY I=>?_⟩
    have I:p t=some (.live bY):=I
    rw[FJ t f h]at I
    exact⟨bY,I,Dm f,rfl,fun h=>⟨h,rfl⟩⟩
 refine⟨H,G,oA,⟨K.ew.on X.ew (fun i hi gf=>?_),fun b o h=>B9 b o (K.cq b o h),fun b o h=>?_,fun b o h=>(D5 b o (K.cq b o h)).trans (K.iP b o h),X.lt,fun k b g=>?_,fun k aJ b bt g Q e=>?_,fun t aa ax=>?_,fun t dc aa bY b ax hP au W=>?_,fun t aa k b ax g U=>?_,fun k b au g=>?_,fun t v aa cO ax=>?_,fun n aa aS i o d u lg fo gS=>?_⟩,zr,zo,v7,fun k g=>⟨BV g,bin g⟩,fun n u=>⟨M n u,u9 u⟩⟩
 .rcases (P1 i hi).1 with h|h
  .omega
  .exact h
 .rcases X.new b o h with h|h
  .exact K.new b o h
  .exact .inr (EN b h)
 ·
  rcases C (fun j=>aY s1.B j≠none) cJ k with⟨j,P,rfl⟩|f
  .obtain ⟨ej,kH⟩:=gk.1 P
   rw[tC j P,kH]at g
   cases g
   obtain⟨pV,c2,c3,vG⟩:=X.boxes j ej kH
   rw[bin P]
   refine⟨EN _ pV,c2,fun bI o cx=>c3 bI o ?_,?_⟩
   .have hlen:∀l:List ar,(ar.jU cJ cw l).length=l.length:=fun l=>by
     induction l with
     |nil=>rfl
     |cons x l lh=>simp[ar.jU,lh]
    rw[hlen]at cx;exact cx
   .rcases vG with⟨u,bQ,T,c4,c5⟩|⟨u,eb,dD,es,fg,Kl,c4,c5⟩|⟨u,bQ,c4,c5⟩
    .refine .inl ⟨(PQ (wo j P)).trans u,bQ,T,c4,?_⟩
     exact Cw (c:=⟨fu,fM,fun k=>aY s1.B k≠none,Z,aF s1.T,pG⟩) (c':=⟨fu,fM,fun k=>y k≠none,H,p,G⟩) rfl rfl (fun k g=>⟨BV g,bin g⟩) (fun n u=>⟨M n u,u9 u⟩) (fun k g=>wo k g) c5
    .refine .inr (.inl ⟨(wo j P).trans u,eb,dD,es,fg,Kl,?_,c5⟩)
     rcases c4 with e|e
     .exact .inl (by show ar.jU cJ cw ej.cs=_;rw[e];rfl)
     .exact .inr (by show ar.jU cJ cw ej.cs=_;rw[e];rfl)
    .refine .inr (.inr ⟨(wo j P).trans u,bQ,c4,?_⟩)
     exact Cw (c:=⟨fu,fM,fun k=>aY s1.B k≠none,Z,aF s1.T,pG⟩) (c':=⟨fu,fM,fun k=>y k≠none,H,p,G⟩) rfl rfl (fun k g=>⟨BV g,bin g⟩) (fun n u=>⟨M n u,u9 u⟩) (fun k g=>wo k g) c5
  .rw [L k f]at g
   obtain⟨pV,c2,c3,vG⟩:=K.boxes k b g
   have LJ:=EO g f
   have gf:=K.blt g
   rw[O f]
   exact⟨pV,fun bI o cx=>c2 bI o (akK _ o cx gf LJ),fun bI o cx=>B9 _ o (c3 bI o cx),vG.imp (J7 _ gf LJ) fun x v bd=>⟨e9.mono zr zo v7 bd.1,bd.2⟩⟩
 ·
  have key:∀j k b,aY s1.B j≠none->ik k=some b->(∀j,aY s1.B j≠none->cJ j≠k)->Z j≠β k:=fun j k b P g f e=>by
   obtain⟨ej,kH⟩:=gk.1 P
   rcases(X.boxes j ej kH).1 with h|h
   .have h:w.heap.size<=Z j:=h
    have:=K.blt g;omega
   .exact EO g f (e▸h)
  rcases C (fun j=>aY s1.B j≠none) cJ k with⟨j,P,rfl⟩|f<;>rcases C (fun j=>aY s1.B j≠none) cJ aJ with⟨cZ,l1,rfl⟩|r
  .rw [bin P,bin l1]at e
   obtain⟨ej,kH⟩:=gk.1 P
   obtain⟨ba,tC⟩:=gk.1 l1
   rw[X.jB j cZ ej ba kH tC e]
  .rw [bin P,O r]at e
   rw[L aJ r]at Q
   exact absurd e (key j aJ bt P Q r)
  .rw [O f,bin l1]at e
   rw[L k f]at g
   exact absurd e.symm (key cZ k b l1 g f)
  .rw [O f,O r]at e
   rw[L k f]at g;rw[L aJ r]at Q
   exact K.jB k aJ b bt g Q e
 ·
  rcases C (fun j=>aF s1.T j≠none) cw t with⟨n,u,rfl⟩|f
  .rw [M n u]at ax
   rw[u9 u,fin u]
   exact(X.bG n aa ax).dm fun b au=>EN b ((X.bG n aa ax).1 b au).1
  .obtain ⟨J,V⟩:=told ax f
   rw[Dm f,Y f]
   have g:=K.bG t aa J
   have oT:Step (fun b=>kj fT (dR acc β) (fs acc F) b) S fM w fu:=⟨X.ew,D5,B9,fun b o h=>by
    rcases X.new b o h with h|h|h
    .exact .inl h
    .exact .inr (.inl h)
    .exact .inr (.inr h),X.lt⟩
   exact g.step oT (fun b au=>zd J V au)
 .have key:∀n aa t bY b,aF s1.T n=some (.live aa)->hk t=some (.live bY)->(¬∃n,bV acc.rt n=some (some t))->kv n b->¬F t b:=fun n aa t bY b u ax f J V=>by
   rcases((X.bG n aa u).1 b J).1 with h|h
   .have h:w.heap.size<=b:=h
    have:=((K.bG t bY ax).1 b V).2;omega
   .exact zd ax f V h
  rcases C (fun j=>aF s1.T j≠none) cw t with⟨n,u,rfl⟩|f<;>rcases C (fun j=>aF s1.T j≠none) cw dc with⟨b4,tH,rfl⟩|r
  .rw [M n u]at ax;rw[M b4 tH]at hP
   rw[fin u]at au;rw[fin tH]at W
   rw[X.eF n b4 aa bY b ax hP au W]
  .rw [M n u]at ax
   obtain⟨J,V⟩:=told hP r
   rw[fin u]at au;rw[Y r]at W
   exact absurd W (key n aa dc bY b ax J V au)
  .rw [M b4 tH]at hP
   obtain⟨J,V⟩:=told ax f
   rw[fin tH]at W;rw[Y f]at au
   exact absurd au (key b4 bY t aa b hP J V W)
  .obtain ⟨J,_⟩:=told ax f
   obtain⟨V,_⟩:=told hP r
   rw[Y f]at au;rw[Y r]at W
   exact K.eF t dc aa bY b J V au W
 .rcases C (fun j=>aF s1.T j≠none) cw t with⟨n,u,rfl⟩|f<;>rcases C (fun j=>aY s1.B j≠none) cJ k with⟨j,P,rfl⟩|r
  .rw [M n u]at ax
   rw[fin u,bin P]at U
   obtain⟨ej,kH⟩:=gk.1 P
   exact X.fh n aa j ej ax kH U
  .rw [M n u]at ax
   rw[L k r]at g
   rw[fin u,O r]at U
   rcases((X.bG n aa ax).1 _ U).1 with h|h
   .have h:w.heap.size<=β k:=h
    have:=K.blt g;omega
   .exact EO g r h
  .obtain ⟨J,V⟩:=told ax f
   rw[Y f,bin P]at U
   obtain⟨ej,kH⟩:=gk.1 P
   rcases(X.boxes j ej kH).1 with h|h
   .have h:w.heap.size<=Z j:=h
    have:=((K.bG t aa J).1 _ U).2;omega
   .exact zd J V U h
  .obtain ⟨J,V⟩:=told ax f
   rw[L k r]at g
   rw[Y f,O r]at U
   exact K.fh t aa k b J g U
 .rcases C (fun j=>aY s1.B j≠none) cJ k with⟨j,P,rfl⟩|f
  .cases cE:bV acc.az j with
   |none=>rw[XS j P cE]at au;cases au
   |some aJ=>
    obtain⟨cy,_,di⟩:=A.az j aJ cE
    rw[bin P,Ka cE]
    rw[cy]at au
    exact K.k6 aJ b au di
  .rw [L k f]at g
   rw[O f];exact K.k6 k b au g
 .rcases C (fun j=>aF s1.T j≠none) cw t with⟨n,u,rfl⟩|f
  .rw [M n u]at ax
   by_cases hm:∃m,bV acc.rt n=some (some m)
   .obtain ⟨m,hm⟩:=hm
    obtain⟨dd,_,g1,_⟩:=A.back n m _ hm ax
    rw[u9 u,Sw hm ax]
    rw[A.rt n m hm]at cO
    exact K.kS m v dd cO g1
   .rw [XT n u (fun m h=>hm ⟨m,h⟩)]at cO;cases cO
  .obtain ⟨J,_⟩:=told ax f
   rw[Dm f];exact K.kS t v aa cO J
 .rcases C (fun j=>aF s1.T j≠none) cw n with⟨b4,tH,rfl⟩|f
  .rw [M b4 tH]at u
   exact absurd (rD b4 aa u aS i o d lg fo) gS
  .obtain ⟨J,V⟩:=told u f
   obtain⟨cP,cI⟩:=K.fQ n aa aS i o d J lg fo gS
   obtain⟨g1,g2⟩:=v7 d cP
   refine⟨g1,fun gJ bc=>?_⟩
   obtain⟨am8,mX,pk,_⟩:=g2 gJ bc
   obtain⟨b,l,cap,cy,cb⟩:=cI am8 mX
   have U:=(K.bG n aa J).block cy
   refine⟨b,l,cap,by rw[Dm f];exact cy,?_⟩
   rw[show G d=τ d from pk]
   exact(World.cell?_of_block (w:=w) (J7 b ((K.bG n aa J).1 b U).2 (zd J V U))).trans cb
end Go.Proofs.YtnkagklajgimlaaGreatDoor
namespace Go.Proofs.YtnkagklajgimlaaGreatDoor
open Go.RowKit
section
variable {E : Env} {o : Oper} {s : aX} {e : bO} {aK : c6}
theorem DP {c:Ctx} {a:Act} (d:∀y,bo c (s.aP y) (a.eval y)):∀(l:List Operand),bs (bo c) (l.map s.aP) (l.map a.eval)
 | []=>True.intro
 |x::l=>⟨d x,DP d l⟩
theorem JX {c:Ctx}:∀ {xs:List ar} {a:List Value},bs (gw c) xs a->bs (bo c) xs a:=fun h=>h.imp fun _ _ h=>gQ (jy h)
theorem Jo {d i j:Nat} (h:py d i=py d j):i=j:=by simp only[py]at h;omega
theorem Qh {l:List (Nat×Option Nat)} {m:Nat}:m∈l.filterMap (·.2)↔∃n,(n,some m)∈l:=by
 constructor
 .intro h
  obtain⟨⟨n,x⟩,d,a⟩:=qV.1 h
  simp only at a
  subst a
  exact⟨n,d⟩
 .rintro ⟨n,h⟩;exact qV.2 ⟨(n,some m),h,rfl⟩
theorem P5 {ρ:Nat->Nat} {g:cf->cf}:∀ {l:List (Nat×cf)} (hi:∀x y,x∈l->y∈l->ρ x.1=ρ y.1->x.1=y.1) {k:Nat} (a:k∈l.map (·.1)),aY (l.map fun x=>(ρ x.1,g x.2)) (ρ k)=(aY l k).map g
 | [],_,k,a=>by cases a
 |(j,b)::l,hi,k,a=>by
  simp only[cv,aY]
  obtain⟨z,p,r⟩:=cd.1 a
  by_cases e:k=j
  .subst e;simp
  .have d:ρ k≠ρ j:=fun h=>e (by rw[<-r]at h⊢;exact hi z (j,b) p b6 h)
   rw[aA d,aA e]
   have f:k∈l.map (·.1):=by
    simp only[cv,bm]at a
    exact a.resolve_left e
   exact P5 (fun x y u hy=>hi x y (b7 _ u) (b7 _ hy)) f
theorem P8 {ρ:Nat->Nat}:∀ {l:List (Nat×Option bb)} (hi:∀x y,x∈l->y∈l->ρ x.1=ρ y.1->x.1=y.1) {k:Nat} (a:k∈l.map (·.1)),aF (l.map fun x=>(ρ x.1,x.2)) (ρ k)=aF l k
 | [],_,k,a=>by cases a
 |(j,b)::l,hi,k,a=>by
  simp only[cv,aF]
  obtain⟨z,g,p⟩:=cd.1 a
  by_cases e:k=j
  .subst e;simp
  .have d:ρ k≠ρ j:=fun h=>e (by rw[<-p]at h⊢;exact hi z (j,b) g b6 h)
   rw[aA d,aA e]
   have f:k∈l.map (·.1):=by
    simp only[cv,bm]at a
    exact a.resolve_left e
   exact P8 (fun x y r hy=>hi x y (b7 _ r) (b7 _ hy)) f
theorem B6 {ρ:Nat->Nat}:∀ {l:List Nat},(∀x y,x∈l->y∈l->ρ x=ρ y->x=y)->l.Nodup->(l.map ρ).Nodup
 | [],_,_=>by simp
 |a::l,hi,h=>by
  simp only[cv,ot]at h⊢
  refine⟨fun d=>?_,B6 (fun x y f hy=>hi x y (b7 _ f) (b7 _ hy)) h.2⟩
  obtain⟨b,au,e⟩:=cd.1 d
  exact h.1 (hi b a (b7 _ au) b6 e▸au)
theorem akl {l:List (Nat×cf)} {k:Nat} (h:k∉l.map (·.1)):aY l k=none:=by
 cases a:aY l k with
 |none=>rfl
 |some b=>exact absurd (cd.2 ⟨(k,b),n0 a,rfl⟩) h
theorem alR {w:World} {S:bW} {v:Value} {p:b3} (h:bq w S v p) (a:p.isLit=true):v=fq p:=by
 cases h<;>first|rfl|cases a
theorem HH {c:Ctx}:∀ {xs:List ar} {a:List Value} {ps:List b3},bs (ee c) xs a->bs sY xs ps->ps.all b3.isLit=true->a=ps.map fq
 | [],[],[],_,_,_=>rfl
 |x::xs,v::a,p::ps,h,k,d=>by
  simp only[List.all_cons,bk]at d
  rw[cv,HH h.2 k.2 d.2,alR (J2 k.1 h.1.1) d.1]
 | [],_::_,_,h,_,_=>h.elim
 |_::_,[],_,h,_,_=>h.elim
 | [],[],_::_,_,k,_=>k.elim
 |_::_,_::_,[],_,k,_=>k.elim
theorem flat_lit :∀(t:aH) (x:t.D),t.cj=true->(enc t x).all b3.isLit=true
 | .bool,_,_=>rfl
 | .int _,_,_=>rfl
 | .str,_,_=>rfl
 | .unit,_,_=>rfl
 | .pair a b,x,h=>by
  simp only[aH.cj,bk]at h
  simp only[enc,List.all_append,flat_lit a x.1 h.1,flat_lit b x.2 h.2,pB]
 | .av _,_,h=>by cases h
 | .opt _,_,h=>by cases h
 | .q,_,h=>by cases h
theorem amn (J:eA E) (op:BinOp) (T:TypeId) (x y:Operand) (t:TypeId) (G:o.op= .binOp op T x y t) (xs ys:List ar) (d:DO (s.aP x) (s.aP y)=some (xs,ys)) (h:(DN ((E.ty T).bind (·.eqs)) op xs ys).R s [] [] e aK):cR E o s e:=by
 obtain⟨K,hy⟩:s.aP x= .agg xs/\s.aP y= .agg ys:=by
  unfold DO at d
  split at d
  .rename_i u
   split at d
   .rename_i v;cases d;exact⟨u,v⟩
   .cases d
  .cases d
 unfold DN at h
 split at h
 .exact h.elim
 rename_i r A
 obtain⟨ty,C,A⟩:=ju.1 A
 obtain⟨l,p,g⟩:=(J.ty T ty C).eqs r A
 split at h
 .exact h.elim
 rename_i a L
 split at h
 .exact h.elim
 rename_i b au
 have val:∀(c:Ctx) (ac:Act),(∀y,bo c (s.aP y) (ac.eval y))->ac.eval x= .agg ((enc r a).map fq).toArray/\ac.eval y= .agg ((enc r b).map fq).toArray:=fun c ac f=>by
  have H:=f x
  have I:=f y
  rw[K]at H
  rw[hy]at I
  obtain⟨O,u,M⟩:=H
  obtain⟨us,v,a2⟩:=I
  rw[u,v,HH M (HV r xs a L) (flat_lit r a l),HH a2 (HV r ys b au) (flat_lit r b l)]
  exact⟨rfl,rfl⟩
 split at h
 .cases cY h
  refine gI fun c ac w hw f=>⟨.bool (r.hO a b),?_,qy c _⟩
  obtain⟨v1,v2⟩:=val c ac f
  simp only[execOp,G,Sem.run_bind,v1,v2,run_eqGuard_agg w _ _ _ _ _ _ p,Result.andThen_ok,run_eql_struct,g,Sem.run_pure]
 .cases cY h
  refine gI fun c ac w hw f=>⟨.bool (!r.hO a b),?_,qy c _⟩
  obtain⟨v1,v2⟩:=val c ac f
  simp only[execOp,G,Sem.run_bind,v1,v2,run_eqGuard_agg w _ _ _ _ _ _ p,Result.andThen_ok,run_neq_struct,g,Sem.run_pure]
 .exact h.elim
def hI (a:List (Nat×Option bb)):Prop:=∀n aa,(n,some (bb.live aa))∈a->aa.only
theorem hI.append {a b:List (Nat×Option bb)} (h:hI a) (k:hI b):hI (a++b):=fun n aa d=>by
 rcases cp.1 d with f|f
 .exact h n aa f
 .exact k n aa f
theorem hI.nil :hI []:=fun n aa h=>by cases h
mutual
theorem YF :∀(v:b8) (ps:List gN),hI (inst v ps).2.2
 | .dead,ps=>hI.nil
 | .ag t,ps=>by cases ps<;>exact hI.nil
 | .aQ,ps=>hI.nil
 | .eK,ps=>hI.nil
 | .box k o,ps=>hI.nil
 | .ptr t,ps=>by cases ps<;>exact hI.nil
 | .own n t e d,ps=>by
  simp only[inst]
  split
  .exact fun m aa h g i o d ax a=>by
    simp at h
    obtain⟨_,rfl⟩:=h
    cases ax<;>cases a
  .exact hI.nil
 | .aw n t e d,ps=>by
  simp only[inst]
  split
  .exact fun m aa h g i o d ax a=>by
    simp at h
    obtain⟨_,rfl⟩:=h
    cases ax<;>cases a
  .exact hI.nil
 | .kn n t e,ps=>by
  simp only[inst]
  split
  .exact fun m aa h g i o d ax a=>by
    simp at h
    obtain⟨_,rfl⟩:=h
    cases ax<;>cases a
  .exact hI.nil
 | .qQ n t e,ps=>by
  simp only[inst]
  split
  .exact fun m aa h g i o d ax a=>by
    simp at h
    obtain⟨_,rfl⟩:=h
    cases ax
    simp at a
    exact a.2.2
  .exact hI.nil
 | .agg l,ps=>tV l ps
 | .bM l,ps=>tV l ps
 | .aU f l,ps=>by
  cases ps with
  |nil=>exact hI.nil
  |cons p ps=>exact tV l _
theorem tV :∀(l:List b8) (ps:List gN),hI (hA l ps).2.2
 | [],ps=>hI.nil
 |v::l,ps=>by
  simp only[hA]
  exact(YF v ps).append (tV l _)
end
theorem Mp :∀(l:List (Nat×Bool×List b8)) (ps:List gN),hI (l4 l ps).2
 | [],ps=>hI.nil
 |(k,cn,a)::l,ps=>by
  simp only[l4]
  exact(tV a ps).append (Mp l _)
theorem HZ (sh:ay) (y:fZ sh.fm):∀n aa,aF (sh.mk' y).T n=some (.live aa)->aa.only:=fun n aa h=>
 ((tV sh.vals (unpack sh.fm y)).append (Mp sh.boxes (hA sh.vals (unpack sh.fm y)).2.1)) n aa (qu h)
theorem amw (b9:eA E) (c:Call) (cx:o.op= .call c) (g:Operand) (bB:c.callee= .value g) (f:FuncId) (cs:List ar) (cr:s.aP g= .aU f cs) (h:(D3 E f o.dst (c.args.toList.map s.aP++cs)).R s [] [] e aK):cR E o s e:=by
 unfold D3 at h
 obtain⟨B,alA,h2,h⟩:=IJ _ _ _ _ _ h (fun k b h=>by cases h)
 obtain⟨T,al0,dH,h⟩:=IL _ _ _ _ _ h (fun k b h=>by cases h)
 obtain⟨m,a0,acc,hm,Fj,h⟩:=Ir _ h
 obtain⟨r,cE,h⟩:=h
 unfold Kg at h
 simp only at h
 split at h
 case isFalse=>exact h.elim
 rename_i oS
 obtain⟨zG,aoS,h⟩:=Lc _ _ _ _ h
 obtain⟨qc,al1,h⟩:=EP _ _ _ _ h
 split at h
 case h_1=>exact h.elim
 rename_i v0 anz jK
 obtain⟨he,_⟩:=h
 simp only[Kf,bk,cA,bz]at oS
 obtain⟨⟨⟨⟨⟨⟨⟨akT,akU⟩,Qu⟩,Qv⟩,H7⟩,Qw⟩,Qx⟩,H8⟩:=oS
 obtain⟨s1,rC⟩:∃s1,s1=m.ret.mk' r:=⟨_,rfl⟩
 rw[<-rC]at zG qc jK he Qu Qv H7 Qw Qx H8
 have hMod:=b9.fn f m hm
 obtain⟨⟨fn,Fm,Fz,Lz⟩,FF⟩:=hMod
 have rA:=FF a0 r cE
 rw[<-rC]at rA
 obtain⟨fT,nN⟩:∃fT,fT=m.arg.mk' a0:=⟨_,rfl⟩
 rw[<-nN]at rA
 rintro R a w e3 ⟨β,τ,F,S,dG,W,gp,fR⟩ K Q dP
 have fG:=hL fR
 obtain⟨us,Fq,tL⟩:=Jp (cr▸fG g)
 have FN:bs (bo (s.ctx w S β τ)) (c.args.toList.map s.aP++cs) (c.args.toList.map a.eval++us):=(DP fG _).append (JX tL)
 obtain⟨hinv,S',nL,iK,ry,oQ,wb,tD,tA,wC⟩:=D9 dG h2 dH Fj FN
 rw[<-nN]at ry oQ wb tD tA wC
 have LB:∀k,aY s.B k≠none↔fF (aY s.B) acc.dA k≠none:=fun k=>by
  unfold fF
  cases aY s.B k<;>simp
 have X5:∀n,aF s.T n≠none↔dN (aF s.T) acc.c8 n≠none:=fun n=>by
  unfold dN
  split
  .rename_i aa mI;rw[mI];simp
  .rfl
 have E4:Mem (jh fT (dR acc β) (gW acc τ) (fs acc F) S' w) (aY fT.B) (aF fT.T) (dR acc β) (gW acc τ) (fs acc F) S' w:=by
  obtain⟨g1,g2,g3,g4,g5⟩:=tA (jh fT (dR acc β) (gW acc τ) (fs acc F) S' w).dm (fun k b p=>.inr (.inl ⟨k,b,p,rfl⟩)) (fun t aa b ax au=>.inr (.inr ⟨t,aa,ax,au⟩))
  refine⟨hr.refl _ _,fun _ _ h=>h,fun _ _ h=>.inl h,fun _ _ _=>rfl,iK.lt,g1,g2,g3,g4,g5,fun k b au p=>?_,fun t v aa cO ax=>?_,fun n aa aS i o d W lg J Y=>absurd ((by rw[nN]at W;exact HZ _ _ n aa W:aa.only) aS i o d lg J) Y⟩
  .simp only [jh]at au
   split at au
   .cases au;rfl
   .cases au
  .simp only [jh,ax]at cO
   cases cO;rfl
 have qd:k2 w (kj fT (dR acc β) (fs acc F)) S':=e3.2.2.later dG nL fun b au=>by
  rcases au with⟨k,x,p,rfl⟩|⟨t,aa,ax,cM⟩
  .obtain ⟨aJ,bt,g1,g2,_⟩:=ry k x p
   have:dR acc β k=β aJ:=by unfold dR;rw[g1];rfl
   rw[this]
   exact(iK.boxes aJ bt g2).1
  .obtain ⟨b4,u,C⟩:=oQ t aa ax
   have bD:=qt hinv.rt.1 t b4 u
   unfold fs at cM
   rw[bD]at cM
   cases b4 with
   |none=>exact cM.elim
   |some m=>
    obtain⟨dd,cN,_⟩:=C
    exact(iK.bG m dd cN).1 b cM|>.1
 have Fe:=rA w S' (dR acc β) (gW acc τ) (fs acc F) _ qd E4 wC
 have iL:(execOp a.eval o).run E.P w= .ok (.enter f (c.args.toList.map a.eval++us).toArray) w:=by
  have jL:¬fn.body=none:=fun e=>by rw[e]at Lz;cases Lz
  have kD:(c.args.toList.map a.eval++us).toArray= #[]++c.args.map a.eval++us.toArray:=by apply Array.ext';simp
  rw[kD]
  simp[execOp,cx,resolve,bB,Fq,Deferred.ofValue,invoke,callFunc,Fm,Fz,jL]
 unfold Oper.wp
 rw[iL,Oper.upon_enter]
 refine Fe.mono fun de fu he=>?_
 obtain⟨v,JF,pG,kv,fM,rfl,mC,x,U,FQ⟩:=he
 rw[jK]at U
 simp only[List.head?_cons,ic]at U
 subst U
 simp only
 obtain⟨cJ,H⟩:∃cJ,cJ=xJ (o.dst.getD 0) acc.az:=⟨_,rfl⟩
 obtain⟨cw,zP⟩:∃cw,cw=Cx (o.dst.getD 0) acc.rt:=⟨_,rfl⟩
 rw[<-H]at zG
 rw[<-zP]at qc
 rw[<-H,<-zP]at he
 have alB:∀k aJ,bV acc.az k=some aJ->cJ k=aJ:=fun k aJ h=>by rw[H];unfold xJ;rw[h];rfl
 have Re:∀k,bV acc.az k=none->cJ k=py (o.dst.getD 0) k:=fun k h=>by rw[H];unfold xJ;rw[h];rfl
 have al2:∀n m,bV acc.rt n=some (some m)->cw n=m:=fun n m h=>by rw[zP];unfold Cx;rw[h]
 have Rr:∀n,(∀m,bV acc.rt n≠some (some m))->cw n=py (o.dst.getD 0) n:=fun n h=>by
  rw[zP];unfold Cx
  cases bK:bV acc.rt n with
  |none=>rfl
  |some x=>cases x with
   |none=>rfl
   |some m=>exact absurd bK (h m)
 have M:∀k,aY s1.B k≠none↔k∈s1.B.map (·.1):=fun k=>⟨fun h=>by
  obtain⟨b,au⟩:=gk.1 h
  exact cd.2 ⟨(k,b),n0 au,rfl⟩,HM⟩
 have ajP:∀n,aF s1.T n≠none->n∈s1.T.map (·.1):=fun n h=>by
  by_cases J:n∈s1.T.map (·.1)
  .exact J
  .exact absurd (P9 J) h
 have aoD:=tA
 have XX:∀n aa,aF fT.T n=some (.live aa)->∃x,bV acc.rt n=some x/\∀m,x=some m->∃dd,dN (aF s.T) acc.c8 m=some (.live dd):=fun n aa W=>by
  obtain⟨b4,u,C⟩:=oQ n aa W
  refine⟨b4,qt hinv.rt.1 n b4 u,fun m hm=>?_⟩
  subst hm
  obtain⟨dd,bD,_⟩:=C
  exact⟨dd,bD⟩
 have WI:∀n m z,bV acc.rt n=some (some m)->aF s1.T n=some z->∃aa bY,dN (aF s.T) acc.c8 m=some (.live aa)/\z= .live bY/\aa.wr=true/\bY.t=aa.t:=fun n m z u C=>by
  have bD:=Qw (n,some z) (qu C)
  simp only[J3,u]at bD
  split at bD
  .rename_i aa bY cy cb
   simp only[bk,bz,sO,List.contains_eq_mem,decide_eq_false_iff_not]at bD
   cases cb
   obtain⟨⟨g1,g2⟩,g3⟩:=bD
   exact⟨aa,bY,by unfold dN;rw[dH m _ cy];simp[g3],rfl,g1,g2⟩
  .cases bD
 have E0:sZ acc fT s1 cJ cw (fF (aY s.B) acc.dA) (dN (aF s.T) acc.c8):=by
  refine⟨fun k aJ p=>?_,hinv.az,fun k b p=>?_,fun k p A=>?_,fun k aJ u C e=>?_,al2,fun n b4 m u C=>?_,XX,fun n W A=>?_,fun n b4 u C e=>?_,WI⟩
  .refine ⟨alB k aJ p,?_,?_⟩
   .have:=Qu (k,aJ) (l8 p)
    simp only[Option.isSome_iff_ne_none]at this;exact this
   .have:=tD k aJ p
    obtain⟨b,au⟩:=gk.1 this
    obtain⟨cI,bt,g1,g2,_⟩:=ry k b au
    rw[p]at g1;cases g1
    rw[g2];simp
  .obtain ⟨aJ,bt,g1,_⟩:=ry k b p
   exact⟨aJ,g1⟩
  .obtain ⟨b,au⟩:=gk.1 p
   have:=(zG (cJ k) (cd.2 ⟨(k,b),hp.2 ⟨n0 au,by simp[A]⟩,rfl⟩)).1
   by_cases Y:fF (aY s.B) acc.dA (cJ k)=none
   .exact Y
   .exact absurd this ((LB _).2 Y)
  .rw [Re k u,Re aJ C]at e;exact Jo e
  .obtain ⟨i,hi⟩:=sU.1 (l8 u)
   obtain⟨eI,Ft⟩:=sU.1 (l8 C)
   have:=hinv.rt.2 i eI _ _ m hi Ft rfl rfl
   subst this
   rw[hi]at Ft;cases Ft;rfl
  .obtain ⟨z,bI⟩:=gk.1 W
   have Fu:wQ acc n=false:=by
    unfold wQ
    split
    .rename_i m hm;exact absurd hm (A m)
    .rfl
   have:=(qc (cw n) (cd.2 ⟨(n,some z),hp.2 ⟨qu bI,by simp[Fu]⟩,rfl⟩)).1
   by_cases Y:dN (aF s.T) acc.c8 (cw n)=none
   .exact Y
   .exact absurd this ((X5 _).2 Y)
  .rw [Rr n u,Rr b4 C]at e;exact Jo e
 have wu:∀x y,x∈s1.B->y∈s1.B->cJ x.1=cJ y.1->x.1=y.1:=fun x y U hy h=>E0.Ml ((M x.1).2 (cd.2 ⟨x,U,rfl⟩)) ((M y.1).2 (cd.2 ⟨y,hy,rfl⟩)) h
 have dn:∀x,x∈s1.T->aF s1.T x.1≠none:=fun x U=>by
  rw[xu H7 x.1 x.2 U]
  intro bI
  have:=Qx x U
  rw[bI]at this;cases this
 have tJ:∀x y,x∈s1.T->y∈s1.T->cw x.1=cw y.1->x.1=y.1:=fun x y U hy h=>E0.F0 (dn x U) (dn y hy) h
 obtain⟨V,O⟩:∃l:List (Nat×cf),l=s1.B.map fun x=>(cJ x.1,(⟨x.2.cn,ar.jU cJ cw x.2.cs⟩:cf)):=⟨_,rfl⟩
 obtain⟨I,G⟩:∃l:List (Nat×Option bb),l=s1.T.map fun x=>(cw x.1,x.2):=⟨_,rfl⟩
 rw[<-O,<-G]at he
 have akH:(V.map (·.1)).Nodup:=by
  rw[O,show(s1.B.map fun x=>(cJ x.1,(⟨x.2.cn,ar.jU cJ cw x.2.cs⟩:cf))).map (·.1)=(s1.B.map (·.1)).map cJ from by simp]
  refine B6 (fun x y U hy h=>?_) Qv
  obtain⟨fW,kK,rfl⟩:=cd.1 U
  obtain⟨hn,nQ,rfl⟩:=cd.1 hy
  exact wu fW hn kK nQ h
 have akI:(I.map (·.1)).Nodup:=by
  rw[G,show(s1.T.map fun x=>(cw x.1,x.2)).map (·.1)=(s1.T.map (·.1)).map cw from by simp]
  refine B6 (fun x y U hy h=>?_) H7
  obtain⟨fW,kK,rfl⟩:=cd.1 U
  obtain⟨hn,nQ,rfl⟩:=cd.1 hy
  exact tJ fW hn kK nQ h
 have LA:∀k,e.updB (aY s.B) k=match aY V k with|some b=>some b|none=>fF (aY s.B) acc.dA k:=fun k=>by
  rw[he]
  simp only[bO.updB,hU]
  rw[K6 V _ akH]
  cases aY V k with
  |some b=>rfl
  |none=>
   simp only
   rw[K7 B (aY s.B) h2 acc.dA _ (fun k p=>by have:=akT k p;simpa[Option.isSome_iff_ne_none]using this)]
   unfold fF
   by_cases J:k∈acc.dA
   .rw [ai J];cases aY s.B k<;>simp[J]
   .rw [aA J];cases aY s.B k<;>simp[J]
 have Z:∀t,e.updT (aF s.T) t=if t∈I.map (·.1)then aF I t else if t∈acc.rt.filterMap (·.2)then some .eg else dN (aF s.T) acc.c8 t:=fun t=>by
  rw[he]
  simp only[bO.updT,hU]
  rw[K9 I _ akI,C5]
  by_cases u:t∈I.map (·.1)
  .rw [ai u,ai u]
  .rw [aA u,aA u]
   unfold eO
   by_cases C:t∈acc.rt.filterMap (·.2)
   .rw [ai C,ai C]
   .rw [aA C,aA C,K8 T (aF s.T) dH acc.c8 _ (fun n W=>akU n W)]
    by_cases bD:t∈acc.c8
    .rw [ai bD]
    .rw [aA bD]
     unfold dN
     split
     .rename_i aa mI;rw[mI];simp[bD]
     .rfl
 have ajO:∀k,k∈V.map (·.1)->∃j,aY s1.B j≠none/\cJ j=k:=fun k p=>by
  rw[O]at p
  obtain⟨y,hy,rfl⟩:=cd.1 p
  obtain⟨x,U,rfl⟩:=cd.1 hy
  exact⟨x.1,(M x.1).2 (cd.2 ⟨x,U,rfl⟩),rfl⟩
 have PO:∀k,k∈I.map (·.1)->∃j,aF s1.T j≠none/\cw j=k:=fun k p=>by
  rw[G]at p
  obtain⟨y,hy,rfl⟩:=cd.1 p
  obtain⟨x,U,rfl⟩:=cd.1 hy
  exact⟨x.1,dn x U,rfl⟩
 obtain⟨Ts,vq,oA,tz,zr,zo,v7,Xy,Xz⟩:=Uq iK E0 mC (e.updB (aY s.B)) (e.updT (aF s.T)) (fun k p=>by
   rw[LA,O,P5 (g:=fun b=>⟨b.cn,ar.jU cJ cw b.cs⟩) wu ((M k).1 p)]
   obtain⟨b,au⟩:=gk.1 p
   rw[au];rfl) (fun k A=>by
   rw[LA,akl (fun p=>by obtain⟨j,u,C⟩:=ajO k p;exact A j u C)]) (fun n W=>by
   have u:=ajP n W
   rw[Z,ai (by rw[G,show(s1.T.map fun x=>(cw x.1,x.2)).map (·.1)=(s1.T.map (·.1)).map cw from by simp];exact cd.2 ⟨n,u,rfl⟩),G,P8 tJ u]) (fun t A au=>by
   obtain⟨n,au⟩:=au
   rw[Z,aA (fun p=>by obtain⟨j,u,C⟩:=PO t p;exact A j u C),ai (Qh.2 ⟨n,l8 au⟩)]) (fun t A au=>by
   rw[Z,aA (fun p=>by obtain⟨j,u,C⟩:=PO t p;exact A j u C),aA (fun p=>by obtain⟨n,u⟩:=Qh.1 p;exact au ⟨n,qt hinv.rt.1 n _ u⟩)]) (fun k p A=>by
   obtain⟨b,au⟩:=gk.1 p
   exact e3.ny (zG (cJ k) (cd.2 ⟨(k,b),hp.2 ⟨n0 au,by simp[A]⟩,rfl⟩)).2) (fun n W A=>by
   obtain⟨z,bI⟩:=gk.1 W
   have Fu:wQ acc n=false:=by
    unfold wQ
    split
    .rename_i m hm;exact absurd hm (A m)
    .rfl
   exact e3.gi (qc (cw n) (cd.2 ⟨(n,some z),hp.2 ⟨qu bI,by simp[Fu]⟩,rfl⟩)).2) (fun n m u _=>wb n _ (l8 u)) tD (by rw[rC];exact HZ _ _) (fun k p=>by
   obtain⟨b,au⟩:=gk.1 p
   have:=H8 (k,b) (n0 au)
   rw[H]
   simpa using this)
 have wA:∀i,bo ⟨fu,fM,fun k=>e.updB (aY s.B) k≠none,Ts,e.updT (aF s.T),vq⟩ (dT s.L i) (a.tmps.getD i undef):=fun i=>by
  have u:=bo.mono (c:=s.ctx w S β τ) (c':=⟨w,S',fun k=>fF (aY s.B) acc.dA k≠none,β,dN (aF s.T) acc.c8,τ⟩) ⟨nL,fun _ _ _=>rfl⟩ (fun k p=>⟨(LB k).1 p,rfl⟩) (fun t ax=>by
   obtain⟨u,C⟩:=Le (w:=w) (S:=S) (S':=S') (live:=fun _=>True) (β:=β) (τ:=τ) (aF s.T) acc.c8 t ax
   exact⟨u,C⟩) (fR i)
  exact bo.mono zr zo v7 u
 refine dP _ _ (jT (s:=s) (e:=e) tz W gp wA o.dst ?_)
 cases bc:o.dst with
 |none=>exact .inl rfl
 |some d=>
  right
  have cO:e.val=v0.sq cJ cw:=by rw[he];simp[bc]
  rw[cO]
  exact alO (c:=s1.ctx fu fM JF pG) (c':=⟨fu,fM,fun k=>e.updB (aY s.B) k≠none,Ts,e.updT (aF s.T),vq⟩) rfl rfl (fun k p=>Xy k p) (fun n W=>Xz n W) (fun k p=>by
   obtain⟨b,au⟩:=gk.1 p
   have:=H8 (k,b) (n0 au)
   rw[H]
   simpa using this) FQ
end
end Go.Proofs.YtnkagklajgimlaaGreatDoor
