
import Derived.Test.YtnkagklajgimlaaGreatDoorKR
set_option linter.unusedSimpArgs false
set_option linter.unusedVariables false
namespace Go.Proofs.YtnkagklajgimlaaGreatDoor
open Go.RowKit
theorem SS :∀(l:List aJ) (ps:List gY) (y:gp l),pack l ps=some y->unpack l y=ps
 | [],ps,y,h=>by
  simp only[pack]at h
  split at h
  .rfl
  .cases h
 | [t],ps,y,h=>by
  simp only[pack]at h
  split at h
  .rename_i p
   split at h
   .rename_i e;subst e;cases h;rfl
   .cases h
  .cases h
 |t::u::l,ps,y,h=>by
  simp only[pack]at h
  split at h
  .rename_i p a
   split at h
   .rename_i e
    subst e
    split at h
    .rename_i z d
     cases h
     simp only[unpack,SS (u::l) a z d]
    .cases h
   .cases h
  .cases h
structure V6 (Fr:Nat->Prop) (box:Nat->Option cm) (tok:Nat->Option bc) (β:Nat->Nat) (τ:Nat->Value) (F:Nat->Nat->Prop) (S:b0) (w:World):Prop where
 boxes:∀k b,box k=some b->Fr (β k)/\(b.cu=false->∀o,¬S (β k) o)/\(b.cu=true->∀o,o<b.cs.length->S (β k) o)/\kq ⟨w,S,fun k=>box k≠none,β,tok,τ⟩ k (β k) b.cs
 j0:∀k aL b bz,box k=some b->box aL=some bz->β k=β aL->k=aL
 bI:∀t aa,tok t=some (.live aa)->cn Fr w S aa (τ t) (F t)
 eM:∀t dj aa b2 b,tok t=some (.live aa)->tok dj=some (.live b2)->F t b->F dj b->t=dj
 fq:∀t aa k b,tok t=some (.live aa)->box k=some b->¬F t (β k)
theorem cn.dt {Fr Fr':Nat->Prop} {w:World} {S:b0} {aa:Tok} {v:Value} {F:Nat->Prop} (h:cn Fr w S aa v F) (a:∀b,F b->Fr' b):cn Fr' w S aa v F:=⟨fun b av=>⟨a b av,(h.1 b av).2⟩,h.2⟩
def dN (tok:Nat->Option bc) (a:List Nat):Nat->Option bc:=fun n=>match tok n with
 |some (.live aa)=>some (.live (if n∈a then aa.cu else aa))
 |z=>z
def fO (box:Nat->Option cm) (ks:List Nat):Nat->Option cm:=fun k=>match box k with
 |some b=>some {b with cu:=b.cu||decide (k∈ks)}
 |none=>none
section
variable {R : ec} {w : World} {S : b0} {box : Nat -> Option cm} {tok : Nat -> Option bc} {β : Nat -> Nat} {τ : Nat -> Value} {F : Nat -> Nat -> Prop}
theorem MV {tok:Nat->Option bc} {d:List Nat} {t:Nat} {aa:Tok} (h:dN tok d t=some (.live aa)):∃dm,tok t=some (.live dm)/\aa=if t∈d then dm.cu else dm:=by
 unfold dN at h
 split at h
 .rename_i dm f;cases h;exact⟨dm,f,rfl⟩
 .rename_i a;exact absurd h (a aa)
theorem Mem.MQ (y:Mem R box tok β τ F S w):∀a:List Nat,∃S',Mem R box (dN tok a) β τ F S' w/\∀b o,S b o->S' b o
 | []=>⟨S,by
  have:dN tok []=tok:=by
   funext n;unfold dN
   split
   .rename_i aa h;rw[h];simp
   .rfl
  rw[this];exact y,fun _ _ h=>h⟩
 |n::a=>by
  obtain⟨u,g,r⟩:=y.MQ a
  cases l:dN tok a n with
  |none=>
   refine⟨u,?_,r⟩
   have:dN tok (n::a)=dN tok a:=by
    funext m;unfold dN
    by_cases e:m=n
    .subst e
     unfold dN at l
     split at l
     .cases l
     .rfl
    .split<;>simp[e]
   rw[this];exact g
  |some z=>cases z with
   |ej=>
    refine⟨u,?_,r⟩
    have:dN tok (n::a)=dN tok a:=by
     funext m;unfold dN
     by_cases e:m=n
     .subst e
      unfold dN at l
      split at l
      .cases l
      .rfl
     .split<;>simp[e]
    rw[this];exact g
   |live aa=>
    obtain⟨dm,g1,g2⟩:=MV l
    cases d:aa.whole with
    |false=>
     refine⟨u,?_,r⟩
     have:dN tok (n::a)=dN tok a:=by
      funext m
      by_cases e:m=n
      .subst e
       rw[l]
       unfold dN
       rw[g1]
       simp only[bn,true_or,if_true]
       congr 2
       by_cases f:m∈a
       .rw [ai f]at g2;exact g2.symm
       .rw [aC f]at g2
        rw[<-g2]
        unfold Tok.cu
        rw[d];rfl
      .unfold dN
       split<;>simp[e]
     rw[this];exact g
    |true=>
     obtain⟨A,v,C,_⟩:=g.Av n aa l d
     refine⟨A,?_,fun b o h=>C b o (r b o h)⟩
     have:dN tok (n::a)=updT (dN tok a) n (some (.live aa.jz)):=by
      funext m
      by_cases e:m=n
      .subst e
       simp only[updT,if_true]
       unfold dN
       rw[g1]
       simp only[bn,true_or,if_true]
       congr 2
       by_cases f:m∈a
       .rw [ai f]at g2
        rw[g2]
        cases p:dm.whole with
        |true=>rw[Tok.Ax p];rfl
        |false=>
         have G:dm.cu=dm:=by unfold Tok.cu;rw[p];rfl
         rw[g2,G,p]at d;cases d
       .rw [aC f]at g2
        rw[g2,Tok.Ax (by rw[<-g2];exact d)]
      .simp only [updT,e,if_false]
       unfold dN
       split<;>simp[e]
     rw[this];exact v
theorem Mem.Yo (a:Mem R box tok β τ F S w) (k:Nat) (b:cm) (l:box k=some b):∃S',Mem R (updB box k {b with cu:=true}) tok β τ F S' w/\∀b o,S b o->S' b o:=by
 obtain⟨C,P,Q,G⟩:=a.boxes k b l
 have p:(fun j=>updB box k {b with cu:=true} j≠none)=fun j=>box j≠none:=by
  funext j
  simp only[updB]
  split
  .rename_i e;subst e;rw[l];simp
  .rfl
 have f:Step (fun j=>j=β k) S (fun c o=>S c o\/(c=β k/\o<b.cs.length)) w w:=⟨hF.refl _ _,fun _ _ _=>rfl,fun _ _ h=>.inl h,fun c o h=>h.imp id (fun h=>.inr h.1),fun c o h=>by
  rcases h with h|⟨rfl,_⟩
  .exact a.lt c o h
  .exact a.blt l⟩
 refine⟨fun c o=>S c o\/(c=β k/\o<b.cs.length),⟨a.eD,fun c o h=>.inl (a.cv c o h),fun c o h=>?_,a.la,f.lt,fun j bz d=>?_,fun j db ew a8 d u e=>?_,fun t aa az=>(a.bI t aa az).step f (fun c y e=>a.fq t aa k b az l (e▸y)),a.eM,fun t aa j bz az d=>?_,fun j c y d=>?_,a.lp,a.fR⟩,fun _ _ h=>.inl h⟩
 .rcases h with h|⟨rfl,_⟩
  .exact a.new c o h
  .exact .inr C
 .rw [p]
  by_cases e:j=k
  .subst e
   simp only[updB,if_true,iB]at d
   subst d
   exact⟨C,(fun h=>by cases h),fun _ o g=>.inr ⟨rfl,g⟩,G.imp rfl fun x v r=>⟨ff.mono (c:=⟨w,S,fun k=>box k≠none,β,tok,τ⟩) (c':=⟨w,fun c o=>S c o\/(c=β j/\o<b.cs.length),fun j=>box j≠none,β,tok,τ⟩) ⟨fun _ _ h=>.inl h,fun _ _ _=>rfl⟩ (gn.refl rfl rfl) (hq.refl rfl rfl) r.1,r.2⟩⟩
  .simp only [updB,e,if_false]at d
   obtain⟨H,I,J,K⟩:=a.boxes j bz d
   refine⟨H,fun A o g=>?_,fun A o g=>.inl (J A o g),K.imp rfl fun x v r=>⟨ff.mono (c:=⟨w,S,fun k=>box k≠none,β,tok,τ⟩) (c':=⟨w,fun c o=>S c o\/(c=β k/\o<b.cs.length),fun j=>box j≠none,β,tok,τ⟩) ⟨fun _ _ h=>.inl h,fun _ _ _=>rfl⟩ (gn.refl rfl rfl) (hq.refl rfl rfl) r.1,r.2⟩⟩
   rcases g with g|⟨g,_⟩
   .exact I A o g
   .exact e (a.j0 j k bz b d l g)
 .have conv:∀ {j ew},updB box k {b with cu:=true} j=some ew->∃a8,box j=some a8:=fun {j ew} h=>by
   by_cases e:j=k
   .exact ⟨b,e▸l⟩
   .simp only [updB,e,if_false]at h;exact⟨ew,h⟩
  obtain⟨L,M⟩:=conv d
  obtain⟨c2,O⟩:=conv u
  exact a.j0 j db L c2 M O e
 .by_cases e:j=k
  .subst e;exact a.fq t aa j b az l
  .simp only [updB,e,if_false]at d;exact a.fq t aa j bz az d
 .refine a.lK j c y (fun h=>d ?_)
  by_cases e:j=k
  .subst e;rw[l]at h;cases h
  .simp only [updB,e,if_false];exact h
theorem Mem.MP (g:Mem R box tok β τ F S w):∀ks:List Nat,∃S',Mem R (fO box ks) tok β τ F S' w/\∀b o,S b o->S' b o
 | []=>⟨S,by
  have:fO box []=box:=by
   funext n;unfold fO
   split
   .rename_i b h;rw[h];simp
   .rename_i h;rw[h]
  rw[this];exact g,fun _ _ h=>h⟩
 |k::ks=>by
  obtain⟨p,d,l⟩:=g.MP ks
  cases a:fO box ks k with
  |none=>
   refine⟨p,?_,l⟩
   have:fO box (k::ks)=fO box ks:=by
    funext m;unfold fO
    by_cases e:m=k
    .subst e
     unfold fO at a
     split at a
     .cases a
     .rfl
    .split<;>simp[e]
   rw[this];exact d
  |some b=>
   obtain⟨r,f,u⟩:=d.Yo k b a
   refine⟨r,?_,fun b o h=>u b o (l b o h)⟩
   have:fO box (k::ks)=updB (fO box ks) k {b with cu:=true}:=by
    funext m
    by_cases e:m=k
    .subst e
     simp only[updB,if_true]
     unfold fO at a⊢
     split at a
     .cases a
      simp
     .cases a
    .simp only [updB,e,if_false]
     unfold fO
     split<;>simp[e]
   rw[this];exact f
end
section
variable (B : List (Nat × cm)) (T : List (Nat × Option bc))
theorem FI :∀(l:List (Nat×Bool×List cc)) (a d:Acc),qG B T l a=some d->Ext a d/\(kO a->kO d)
 | [],a,d,h=>by simp only[qG]at h;cases h;exact⟨Ext.refl _,id⟩
 |(k,cu,p)::l,a,d,h=>by
  simp only[qG]at h
  split at h
  .split at h
   .obtain ⟨f,r,u⟩:=jR.1 h
    obtain⟨a2,v,y⟩:=jR.1 u
    obtain⟨A,g2,g3,g4,g5,g6,g7,g8,g9,_⟩:=zZ r
    obtain⟨C,i2⟩:=qH B T p _ _ _ v
    obtain⟨G,i3⟩:=FI l a2 d y
    refine⟨A.trans (Ext.trans (b:={f with dF:=if cu then f.dF++ [(bZ a.aE k).getD k]else f.dF,hl:=if cu then f.hl else f.hl++ [(bZ a.aE k).getD k]}) ⟨True.intro,⟨[],by simp⟩,fun _ _ h=>h,fun k g=>?_,fun _ h=>h,fun _ h=>h,fun k g=>?_⟩ (C.trans G)),fun hi=>i3 (i2 ⟨by rw[g4];exact hi.rt,g9 hi.aE⟩)⟩
    .simp only;split
     .exact fc _ g
     .exact g
    .simp only;split
     .exact g
     .exact fc _ g
   .cases h
  .cases h
variable {B T} {fin : Acc} {Fr : Nat -> Prop} {c c' : Ctx} {F : Nat -> Nat -> Prop}
theorem Xh {r:aJ} {xs:List r.D} {f:List cc} {a g:Acc} (h:gM B T f [.af (.ar r) xs] a=some g):∃c1 p,g.ps=a.ps++c1/\g.rt=a.rt/\(∀rest,hK f (c1++rest)=(p,rest,[]))/\(p=[.af (.ar r) xs]\/p=[.dead]):=by
 match f,h with
 | [],h=>simp[gM]at h
 |v::y::l,h=>
  simp only[gM]at h
  obtain⟨_,_,h⟩:=jR.1 h
  cases h
 | [v],h=>
  simp only[gM]at h
  obtain⟨A,d,u⟩:=jR.1 h
  cases u
  cases v with
  |dead=>
   simp only[conv]at d
   cases d
   exact⟨[],[.dead],by simp,rfl,fun rest=>rfl,.inr rfl⟩
  |af t=>
   simp only[conv,au.as]at d
   by_cases e:aJ.ar r=t
   .subst e
    simp only[dif_pos]at d
    cases d
    exact⟨[⟨.ar r,xs⟩],[.af (.ar r) xs],rfl,rfl,fun rest=>rfl,.inl rfl⟩
   .simp only [dif_neg e]at d
    cases d
  |_=>simp[conv]at d
theorem Xf {d:List cc} {a f:Acc} (h:gM B T d [.dead] a=some f):f.ps=a.ps/\f.rt=a.rt/\(∀rest,hK d rest=([.dead],rest,[])):=by
 match d,h with
 | [],h=>simp[gM]at h
 |v::r::l,h=>
  simp only[gM]at h
  obtain⟨_,_,h⟩:=jR.1 h
  cases h
 | [v],h=>
  simp only[gM]at h
  obtain⟨u,g,p⟩:=jR.1 h
  cases p
  cases v with
  |dead=>
   simp only[conv]at g
   cases g
   exact⟨rfl,rfl,fun rest=>rfl⟩
  |_=>simp[conv,au.as]at g
theorem aom {l:List cc} {cs:List au} {a g:Acc} {w:World} {b:Nat} (hm:Fc w b cs) (h:gM B T l cs a=some g):∃c1 d,g.ps=a.ps++c1/\g.rt=a.rt/\(∀rest,hK l (c1++rest)=(d,rest,[]))/\Fc w b d/\d.length=cs.length:=by
 obtain⟨p,r,es,fo,f,y,u,v⟩:=hm
 rcases y with rfl|rfl
 .obtain ⟨c1,d,g1,g2,g3,g4⟩:=Xh h
  refine⟨c1,d,g1,g2,g3,⟨p,r,es,fo,f,g4,u,v⟩,?_⟩
  rcases g4 with rfl|rfl<;>rfl
 .obtain ⟨g1,g2,g3⟩:=Xf h
  exact⟨[],[.dead],by simp[g1],g2,fun rest=>g3 rest,⟨p,r,es,fo,f,.inr rfl,u,v⟩,rfl⟩
theorem L2 (Y:wJ B T fin Fr c c' F) (p:c'.w=c.w) (P:∀k b,aZ B k=some b->kq c k (c.β k) b.cs):∀(l:List (Nat×Bool×List cc)) (a r:Acc),qG B T l a=some r->Ext r fin->
  ∃c1 u Q us,r.ps=a.ps++c1/\r.rt=a.rt++u/\(∀rest,mG l (c1++rest)=(Q,us))/\bx (ud c) u us/\Q.map (·.1)=l.map (·.1)/\((∀n z,(n,z)∈us->c'.tok n=z)->∀k bz,(k,bz)∈Q->∃aL b,bZ fin.aE k=some aL/\aZ B aL=some b/\kq c' k (c.β aL) bz.cs/\(bz.cu=true->aL∈fin.dF)/\(bz.cu=false->b.cu=false/\aL∈fin.hl)/\bz.cs.length=b.cs.length)
 | [],a,r,h,y=>by
  simp only[qG]at h;cases h
  exact⟨[],[],[],[],by simp,by simp,fun rest=>rfl,True.intro,rfl,fun _ k bz h=>by cases h⟩
 |(k,cu,Z)::l,a,r,h,y=>by
  simp only[qG]at h
  split at h
  case h_2=>cases h
  rename_i b av
  split at h
  case isFalse=>cases h
  rename_i Ns
  obtain⟨mn,aG,aX⟩:=jR.1 h
  obtain⟨a2,bD,cN⟩:=jR.1 aX
  obtain⟨cB,g2,g3,g4,g5,g6,g7,g8,g9,_⟩:=zZ aG
  obtain⟨ck,_⟩:=qH B T Z _ _ _ bD
  obtain⟨O,_⟩:=FI B T l a2 r cN
  have C:∃s1 A d t1,a2.ps=mn.ps++s1/\a2.rt=mn.rt++A/\(∀rest,hK Z (s1++rest)=(d,rest,t1))/\bx (ud c) A t1/\((∀n z,(n,z)∈t1->c'.tok n=z)->kq c' k (c.β ((bZ a.aE k).getD k)) d/\d.length=b.cs.length):=by
   have G:=Y.bw _ _ (y.aE _ _ (O.aE _ _ (ck.aE _ _ g2)))
   rcases P _ b av with⟨U,us,bt,H,f⟩|⟨U,V⟩|⟨U,us,⟨WG,n,m,seen,i1,i2,i3⟩,f⟩
   .obtain ⟨s1,A,d,t1,I,J,K,L,M⟩:=r7 Y (fun c=>ed c) (fun x gm v h=>hb h.1) (fun x gm v hi h=>⟨hi.2.1 h.1,h.2⟩) Z b.cs _ a2 us bD (O.trans y) f
    refine⟨s1,A,d,t1,I,J,K,L,fun az=>?_⟩
    have az:=M az
    exact⟨.inl ⟨(RU G).trans U,us,bt,by rw[p];exact H,az⟩,by rw[az.len,f.len]⟩
   .obtain ⟨c1,d,I,J,K,L,M⟩:=aom V bD
    exact⟨c1,[],d,[],I,by simp[J],K,True.intro,fun _=>⟨.inr (.inl ⟨G.trans U,by rw[p];exact L⟩),M⟩⟩
   .obtain ⟨s1,A,d,t1,I,J,K,L,M⟩:=r7 Y (fun c=>ed c) (fun x gm v h=>hb h.1) (fun x gm v hi h=>⟨hi.2.1 h.1,h.2⟩) Z b.cs _ a2 us bD (O.trans y) f
    refine⟨s1,A,d,t1,I,J,K,L,fun az=>?_⟩
    have az:=M az
    exact⟨.inr (.inr ⟨G.trans U,us,⟨WG,n,m,seen,i1,by rw[p];exact i2,i3⟩,az⟩),by rw[az.len,f.len]⟩
  obtain⟨s1,A,d,t1,I,J,K,L,M⟩:=C
  obtain⟨s2,ll,Q,t2,l4,jH,mP,jI,p2,l5⟩:=L2 Y p P l a2 r cN y
  refine⟨s1++s2,A++ll,(k,⟨cu,d⟩)::Q,t1++t2,by rw[l4,I,e5,<-g3],by rw[jH,J,e5,<-g4],fun rest=>?_,L.append jI,by simp[p2],fun W j bz X=>?_⟩
  .simp only [mG,e5,K,mP]
  .rcases bn.1 X with X|X
   .cases X
    have az:=M fun n z g=>W n z (fc _ g)
    refine⟨_,b,y.aE _ _ (O.aE _ _ (ck.aE _ _ g2)),av,az.1,fun g=>y.dF _ (O.dF _ (ck.dF _ ?_)),fun g=>⟨?_,y.hl _ (O.hl _ (ck.hl _ ?_))⟩,az.2⟩
    .simp only at g;simp[g]
    .simp only at g
     cases Zf:b.cu with
     |false=>rfl
     |true=>have:=Ns Zf;rw[g]at this;cases this
    .simp only at g;simp[g]
   .exact l5 (fun n z g=>W n z (lv _ g)) j bz X
end
theorem UP {c:Ctx}:∀ {l:List (Nat×Option Nat)} {a:List (Nat×Option bc)},bx (ud c) l a->a.map (·.1)=l.map (·.1)
 | [],[],_=>rfl
 |x::l,y::a,h=>by simp[h.1.1,UP h.2]
 | [],_::_,h=>h.elim
 |_::_,[],h=>h.elim
theorem yA :∀ {a:List (Nat×Option bc)},(a.map (·.1)).Nodup->∀n z,(n,z)∈a->aH a n=z
 | [],_,n,z,h=>by cases h
 |(m,y)::a,d,n,z,h=>by
  simp only[cw,n2]at d
  simp only[aH]
  rcases bn.1 h with h|h
  .cases h;simp
  .have:n≠m:=fun e=>d.1 (by rw[<-e];exact cg.2 ⟨(n,z),h,rfl⟩)
   rw[aC this]
   exact yA d.2 n z h
theorem ri :∀ {a:List (Nat×Option bc)} {n:Nat} {z:bc},aH a n=some z->(n,some z)∈a
 | [],n,z,h=>by cases h
 |(m,y)::a,n,z,h=>by
  simp only[aH]at h
  split at h
  .rename_i e;subst e;subst h;exact cb
  .exact ch _ (ri h)
theorem oP :∀ {a:List (Nat×cm)} {k:Nat} {b:cm},aZ a k=some b->(k,b)∈a
 | [],k,b,h=>by cases h
 |(m,y)::a,k,b,h=>by
  simp only[aZ]at h
  split at h
  .rename_i e;subst e;cases h;exact cb
  .exact ch _ (oP h)
theorem Jr :∀ {a:List (Nat×cm)} {k:Nat},k∈a.map (·.1)->aZ a k≠none
 |(m,y)::a,k,h=>by
  simp only[aZ]
  split
  .simp
  .rename_i e
   simp only[cw,bn]at h
   exact Jr (h.resolve_left e)
def dR (a:Acc) (β:Nat->Nat) (k:Nat):Nat:=β ((bZ a.aE k).getD k)
def hk (a:Acc) (τ:Nat->Value) (n:Nat):Value:=match bZ a.rt n with
 |some (some m)=>τ m
 |_=>.slice none 0 0
def fz (a:Acc) (F:Nat->Nat->Prop) (n:Nat):Nat->Prop:=match bZ a.rt n with
 |some (some m)=>F m
 |_=>fun _=>False
theorem rh {α:Type}:∀ {l:List (Nat×α)},(l.map (·.1)).Nodup->∀n z,(n,z)∈l->bZ l n=some z
 | [],_,n,z,h=>by cases h
 |(m,y)::l,a,n,z,h=>by
  simp only[cw,n2]at a
  simp only[bZ]
  rcases bn.1 h with h|h
  .cases h;simp
  .have:n≠m:=fun e=>a.1 (by rw[<-e];exact cg.2 ⟨(n,z),h,rfl⟩)
   rw[aC this]
   exact rh a.2 n z h
theorem Yt {aa:Tok} (h:aa.wr=false):aa.cu.wr=false:=by unfold Tok.cu;cases aa.whole<;>first|exact h|rfl
theorem MU {w:World} {S S':b0} {live:Nat->Prop} {β:Nat->Nat} {τ:Nat->Value} (tok:Nat->Option bc) (d:List Nat):hq ⟨w,S,live,β,tok,τ⟩ ⟨w,S',live,β,dN tok d,τ⟩:=fun t az=>by
 have az:tok t≠none:=az
 refine⟨?_,fun b2 h=>?_⟩
 .show dN tok d t≠none
  unfold dN;split
  .simp
  .exact az
 .obtain ⟨dm,f,rfl⟩:=MV (show dN tok d t=some (.live b2)from h)
  exact⟨dm,f,rfl,by split<;>simp[Tok.Ys],fun hw=>by
   by_cases a:t∈d
   .rw [ai a];exact⟨Yt hw,Tok.Yr dm⟩
   .rw [aC a];exact⟨hw,rfl⟩⟩
theorem FJ {R:ec} {w:World} {S:b0} {box:Nat->Option cm} {tok:Nat->Option bc} {β:Nat->Nat} {τ:Nat->Value} {F:Nat->Nat->Prop} (dI:Mem R box tok β τ F S w) {B:List (Nat×cm)} {T:List (Nat×Option bc)} (il:∀k b,aZ B k=some b->box k=some b) (dJ:∀n z,aH T n=some z->tok n=some z)
  {sh:aw} {xs:List au} {y:gp sh.ft} {acc:Acc} (bF:sh.conv B T xs=some (y,acc)) {vals:List Value} (cV:bx (bp ⟨w,S,fun k=>box k≠none,β,tok,τ⟩) xs vals):
  kO acc/\∃S',(∀b o,S b o->S' b o)/\Mem R (fO box acc.dF) (dN tok acc.de) β τ F S' w/\(∀k b,aZ (sh.mk' y).B k=some b->∃aL bz,bZ acc.aE k=some aL/\fO box acc.dF aL=some bz/\bz.cu=b.cu)/\
   (∀n aa,aH (sh.mk' y).T n=some (.live aa)->∃b7,(n,b7)∈acc.rt/\match b7 with|some m=>∃dm,dN tok acc.de m=some (.live dm)/\dm.wr=aa.wr|none=>True)/\
   (∀n x,(n,x)∈acc.rt->∃aa,aH (sh.mk' y).T n=some (.live aa))/\(∀k aL,bZ acc.aE k=some aL->aZ (sh.mk' y).B k≠none)/\
   (∀Fr',(∀k b,aZ (sh.mk' y).B k=some b->Fr' (dR acc β k))->(∀t aa b,aH (sh.mk' y).T t=some (.live aa)->fz acc F t b->Fr' b)->V6 Fr' (aZ (sh.mk' y).B) (aH (sh.mk' y).T) (dR acc β) (hk acc τ) (fz acc F) S' w)/\
   bx (bp ((sh.mk' y).ctx w S' (dR acc β) (hk acc τ))) (sh.mk' y).L vals:=by
 unfold aw.conv at bF
 obtain⟨mn,aG,bF⟩:=jR.1 bF
 obtain⟨a2,aX,bF⟩:=jR.1 bF
 split at bF
 case isFalse=>cases bF
 rename_i pF
 obtain⟨hD,hy,he⟩:=hT.1 bF
 cases he
 simp only[Li,a6,cz]at pF
 obtain⟨⟨⟨⟨Z2,aaE⟩,aal⟩,aam⟩,Nq⟩:=pF
 obtain⟨qf,i1⟩:=qH B T sh.vals xs _ mn aG
 obtain⟨ia,i2⟩:=FI B T sh.boxes mn acc aX
 have hinv:kO acc:=i2 (i1 ⟨⟨by simp,fun i j x y m hi=>by simp at hi⟩,fun j db i h=>by cases h⟩)
 obtain⟨ga,im,GH⟩:=dI.MQ acc.de
 obtain⟨S',A,GI⟩:=im.MP acc.dF
 have ox:∀b o,S b o->S' b o:=fun b o h=>GI b o (GH b o h)
 have U:(fun k=>fO box acc.dF k≠none)=fun k=>box k≠none:=by
  funext k;unfold fO
  split
  .rename_i b h;simp[h]
  .rename_i h;simp[h]
 refine⟨hinv,S',ox,A,?_⟩
 obtain⟨c,d⟩:∃c:Ctx,c=⟨w,S',fun k=>box k≠none,β,dN tok acc.de,τ⟩:=⟨_,rfl⟩
 obtain⟨Q,mE⟩:∃Q,Q=sh.mk' y:=⟨_,rfl⟩
 rw[<-mE]
 obtain⟨c',f⟩:∃c':Ctx,c'=Q.ctx w S' (dR acc β) (hk acc τ):=⟨_,rfl⟩
 have aaG:bx (bp c) xs vals:=cV.imp fun x v bb=>by
  rw[d]
  exact bp.mono (c:=⟨w,S,fun k=>box k≠none,β,tok,τ⟩) (c':=⟨w,S',fun k=>box k≠none,β,dN tok acc.de,τ⟩) ⟨ox,fun _ _ _=>rfl⟩ (gn.refl rfl rfl) (MU tok acc.de) bb
 have J:∀k aL,bZ acc.aE k=some aL->h6 k=h6 aL:=fun k aL h=>by simpa using aam (k,aL) (mL h)
 have Zh:∀k b,aZ B k=some b->kq c k (c.β k) b.cs:=fun k b r=>by
  have av:fO box acc.dF k=some {b with cu:=b.cu||decide (k∈acc.dF)}:=by unfold fO;rw[il k b r]
  have g5:=(A.boxes k _ av).2.2.2
  rw[U]at g5
  rw[d];exact g5
 have Z6:∀ps,(mG sh.boxes ps).1.map (·.1)=sh.boxes.map (·.1):=by
  intro ps
  generalize sh.boxes=l
  induction l generalizing ps with
  |nil=>rfl
  |cons x l lU=>
   obtain⟨k,cu,bT⟩:=x
   simp only[mG,cw,lU]
 have uW:Q.B.map (·.1)=sh.boxes.map (·.1):=by
  rw[mE];unfold aw.mk';exact Z6 _
 have dP:wJ B T acc R.dt c c' F:=by
  refine⟨by rw[f,d];rfl,by rw[f,d];rfl,fun n aa C=>?_,fun n aa C=>?_,fun k b o t z av r H _=>?_,fun n C kB=>?_,fun k aL r=>?_,fun n b7 C=>?_,J,fun k r=>by simpa using Nq k r⟩
  .rw [d];show dN tok acc.de n=_;unfold dN;rw[dJ n _ C]
  .rw [d]at C⊢;exact A.bI n aa C
  .have GN:fO box acc.dF k=some {b with cu:=b.cu||decide (k∈acc.dF)}:=by unfold fO;rw[il k b av]
   obtain⟨_,_,g3,sg⟩:=A.boxes k _ GN
   obtain⟨bT,bt,g4,g5⟩:=sg.cells (by have:=Nq k r;simpa using this)
   have g3:=g3 (by simp[r])
   rw[U]at g5
   have Z:=Dq (c:=c) t _ z _ H (by rw[d];exact(g5.drop o).take t.w)
   intro j p cp
   have bV:j<t.w:=by have:=(dB.1 cp).1;rwa[et]at this
   have M:=Z.len
   rw[et]at M
   obtain⟨u,hu⟩:∃u,((bT.drop o).take t.w)[j]? =some u:=⟨_,bG (by rw[M];exact bV)⟩
   have cG:=Z.get' j u p hu cp
   rw[hU,ai bV,hV]at hu
   have gr:o+j<b.cs.length:=by rw[g5.len];exact(dB.1 hu).1
   rw[d]at cG⊢
   exact⟨g3 _ gr,u,by show w.cell? _=_;rw[wV g4];exact hu,cG⟩
  .have:=Z2 n C
   simp at this;exact this kB
  .rw [f,d]
   refine⟨?_,by show dR acc β k=_;unfold dR;rw[r];rfl⟩
   refine Jr ?_
   rw[uW]
   have:=aal (k,aL) (mL r)
   obtain⟨b,k5,uN⟩:=List.any_eq_true.1 this
   exact cg.2 ⟨b,k5,by simpa using uN⟩
  .rw [f,d]
   show hk acc τ n=_
   unfold hk
   rw[rh hinv.rt.1 n b7 C]
   cases b7<;>rfl
 obtain⟨s1,o1,ys,t1,lk,mM,tg,th,J2⟩:=r7 dP bp (fun x gm v h=>h) (fun x gm v hi h=>hi.2.2.2 h) sh.vals xs _ mn vals aG ia aaG
 obtain⟨s2,ll,WT,t2,l4,jH,mP,jI,p2,l5⟩:=L2 dP (by rw[f,d];rfl) Zh sh.boxes mn acc aX (Ext.refl _)
 simp only[fE]at lk mM
 have aac:unpack sh.ft y=s1++s2:=by rw[SS _ _ _ hy,l4,lk]
 have J:Q=⟨ys,WT,t1++t2⟩:=by
  rw[mE]
  unfold aw.mk'
  rw[aac,tg]
  have:=mP []
  rw[fe]at this
  simp only[this]
 have He:acc.rt=o1++ll:=by rw[jH,mM]
 have AN:bx (ud c) acc.rt Q.T:=by rw[He,J];exact th.append jI
 have Ha:(Q.T.map (·.1)).Nodup:=by rw[UP AN];exact hinv.rt.1
 have nr:∀n z,(n,z)∈Q.T->c'.tok n=z:=fun n z H=>by rw[f];exact yA Ha n z H
 have Y0:=l5 fun n z H=>nr n z (by rw[J];exact lv _ H)
 have W:∀k bz,aZ Q.B k=some bz->∃aL b,bZ acc.aE k=some aL/\aZ B aL=some b/\kq c' k (c.β aL) bz.cs/\(bz.cu=true->aL∈acc.dF)/\(bz.cu=false->b.cu=false/\aL∈acc.hl)/\bz.cs.length=b.cs.length:=fun k bz r=>by
  rw[J]at r;exact Y0 k bz (oP r)
 have G:∀(k:Nat) (bz:cm) (aL:Nat) (b:cm),(bz.cu=true->aL∈acc.dF)->(bz.cu=false->b.cu=false/\aL∈acc.hl)->aZ B aL=some b->fO box acc.dF aL=some {b with cu:=bz.cu}:=fun k bz aL b I K av=>by
  unfold fO;rw[il aL b av]
  cases H:bz.cu with
  |true=>simp[I H]
  |false=>
   obtain⟨g1,g2⟩:=K H
   have:=aaE aL g2
   simp at this
   simp[g1,this]
 have O:∀(n:Nat) (aa:Tok),aH Q.T n=some (.live aa)->∃(i:Nat) (x:Nat×Option Nat),acc.rt[i]? =some x/\x.1=n/\match x.2 with
   |some m=>∃dm:Tok,dN tok acc.de m=some (.live dm)/\(⟨aa.t,aa.xs⟩:(t:aJ)×List t.D)=⟨dm.t,dm.xs⟩/\aa.e=dm.e/\aa.wr=dm.wr/\(aa.deep=true->dm.deep=true)/\aa.tr=dm.tr/\(aa.tr≠none->aa.deep=true)
   |none=>aa.xs=[]/\(aa.tr=none\/(aa.tr=some []/\aa.wr=true/\aa.deep=true)):=fun n aa C=>by
  obtain⟨i,hi,uQ⟩:=eb.1 (ri C)
  have P:i<acc.rt.length:=by rw[AN.len];exact hi
  obtain⟨I,b2,K,dr⟩:=AN.get' i acc.rt[i] Q.T[i] (bG P) (bG hi)
  rw[uQ]at I K
  cases K
  refine⟨i,acc.rt[i],bG P,I.symm,?_⟩
  rw[d]at dr
  cases X:acc.rt[i].2 with
  |none=>rw[X]at dr;exact dr
  |some m=>rw[X]at dr;exact dr
 refine⟨fun k b r=>?_,fun n aa C=>?_,fun n x bb=>?_,fun k aL r=>by have:=(dP.live k aL r).1;rw[f]at this;exact this,fun Fr' YO AH=>?_,by rw[<-f];rw[J];exact J2 fun n z H=>nr n z (by rw[J];exact fc _ H)⟩
 .obtain ⟨aL,rZ,I,K,dr,gf,lP,w3⟩:=W k b r
  exact⟨aL,_,I,G k b aL rZ gf lP K,rfl⟩
 .obtain ⟨i,x,bb,rfl,hm⟩:=O n aa C
  refine⟨x.2,fY bb,?_⟩
  revert hm
  cases x.2 with
  |none=>exact fun _=>True.intro
  |some m=>exact fun⟨dm,g1,_,_,g2,_⟩=>⟨dm,g1,g2.symm⟩
 .obtain ⟨i,hi⟩:=tP.1 bb
  obtain⟨⟨yC,z⟩,H,I,aa,K,_⟩:=AN.get i (n,x) hi
  simp only at I K
  subst I;subst K
  exact⟨aa,yA Ha _ _ (fY H)⟩
 have AJ:∀(n:Nat) (aa:Tok),aH Q.T n=some (.live aa)->(∃(m:Nat) (dm:Tok),bZ acc.rt n=some (some m)/\hk acc τ n=τ m/\fz acc F n=F m/\dN tok acc.de m=some (.live dm)/\(⟨aa.t,aa.xs⟩:(t:aJ)×List t.D)=⟨dm.t,dm.xs⟩/\aa.e=dm.e/\aa.wr=dm.wr/\(aa.deep=true->dm.deep=true)/\aa.tr=dm.tr/\(aa.tr≠none->aa.deep=true))\/(hk acc τ n= .slice none 0 0/\(fz acc F n=fun _=>False)/\aa.xs=[]/\(aa.tr=none\/(aa.tr=some []/\aa.wr=true/\aa.deep=true))):=fun n aa C=>by
  obtain⟨i,x,bb,rfl,hm⟩:=O n aa C
  have M:=rh hinv.rt.1 x.1 x.2 (fY bb)
  cases X:x.2 with
  |none=>
   rw[X]at hm M
   exact .inr ⟨by unfold hk;rw[M],by unfold fz;rw[M],hm⟩
  |some m=>
   rw[X]at hm M
   obtain⟨dm,g⟩:=hm
   exact .inl ⟨m,dm,M,by unfold hk;rw[M],by unfold fz;rw[M],g⟩
 refine⟨fun k b r=>?_,fun k aL b bz r kD e=>?_,fun n aa C=>?_,fun t dj aa b2 b az h4 av j9=>?_,fun t aa k b az r cT=>?_⟩
 .obtain ⟨aL,rZ,I,K,dr,gf,lP,w3⟩:=W k b r
  obtain⟨g1,g2,g3,_⟩:=A.boxes aL _ (G k b aL rZ gf lP K)
  have Y:dR acc β k=β aL:=by unfold dR;rw[I];rfl
  refine⟨YO k b r,fun H=>by rw[Y];exact g2 H,fun H o cC=>by rw[Y];exact g3 H o (by rw[w3]at cC;exact cC),?_⟩
  rw[Y]
  rw[f,d]at dr
  exact dr
 .obtain ⟨cW,ew,I,K,_,gf,lP,_⟩:=W k b r
  obtain⟨cO,a8,f1,f2,_,f5,f6,_⟩:=W aL bz kD
  have Z:dR acc β k=β cW:=by unfold dR;rw[I];rfl
  have cN:dR acc β aL=β cO:=by unfold dR;rw[f1];rfl
  rw[Z,cN]at e
  have:=A.j0 cW cO _ _ (G k b cW ew gf lP K) (G aL bz cO a8 f5 f6 f2) e
  subst this
  exact hinv.aE k aL cW I f1
 .rcases AJ n aa C with⟨m,dm,M,g1,g2,g3,g4,g5,g6,g7,g8,g9⟩|⟨g1,g2,g3,g4⟩
  .have NN:=A.bI m dm g3
   have xm:=UK NN g4.symm
   rw[<-g5,<-g6,<-g8]at xm
   rw[g1]
   refine⟨fun b av=>⟨AH n aa b C av,?_⟩,?_,?_⟩
   .rw [g2]at av;exact(NN.1 b av).2
   .rw [g2];exact xm.2.1
   .rw [g2]
    have Z:=xm.2.2
    unfold hE at Z⊢
    cases O:aa.tr with
    |none=>rw[O]at Z;exact fun bd=>Z (g7 bd)
    |some aU=>
     rw[O]at Z
     obtain⟨cW,cO,h5,I5⟩:=Z
     exact⟨cW,g9 (by rw[O];simp),h5,I5⟩
  .refine ⟨fun b av=>by rw[g2]at av;exact av.elim,.inl ⟨g1,g3⟩,?_⟩
   unfold hE
   rcases g4 with g4|⟨g4,g5,g6⟩
   .rw [g4];exact fun _=>by rw[g1,g3];exact .nil _ _
   .rw [g4];exact⟨g5,g6,fun b av=>by rw[g2]at av;exact av.elim,.inl g1⟩
 .rcases AJ t aa az with⟨m,dm,M,g1,g2,g3,_⟩|⟨g1,g2,g3⟩
  .rcases AJ dj b2 h4 with⟨aok,arO,ZS,Yu,Gr,MW,_⟩|⟨Yu,Gr,MW⟩
   .rw [g2]at av;rw[Gr]at j9
    have:=A.eM m aok dm arO b g3 MW av j9
    subst this
    obtain⟨i,hi⟩:=tP.1 (mL M)
    obtain⟨eO,P⟩:=tP.1 (mL ZS)
    have:=hinv.rt.2 i eO _ _ m hi P rfl rfl
    subst this
    rw[hi]at P
    cases P;rfl
   .rw [Gr]at j9;exact j9.elim
  .rw [g2]at av;exact av.elim
 .obtain ⟨aL,rZ,I,K,dr,gf,lP,w3⟩:=W k b r
  have Y:dR acc β k=β aL:=by unfold dR;rw[I];rfl
  rw[Y]at cT
  rcases AJ t aa az with⟨m,dm,M,g1,g2,g3,_⟩|⟨g1,g2,g3⟩
  .rw [g2]at cT;exact A.fq m dm aL _ g3 (G k b aL rZ gf lP K) cT
  .rw [g2]at cT;exact cT
section
variable {E : Env} {o : Oper} {s : aY} {e : bP} {aM : dc}
theorem Ko :∀(l:List Nat) (B:List (Nat×cm)) (f:List (Nat×cm)->bk) (aE rt:List Nat),(yT l B f).R s aE rt e aM->(∀k b,aZ B k=some b->aZ s.B k=some b)->∃p d,(∀k b,aZ p k=some b->aZ s.B k=some b)/\(f p).R s d rt e aM
 | [],B,f,aE,rt,h,g=>⟨B,aE,g,h⟩
 |k::l,B,f,aE,rt,h,g=>by
  simp only[yT,bk.R]at h
  split at h
  .rename_i b av
   refine Ko l _ f _ rt h (fun j bz a=>?_)
   rw[Js]at a
   simp only[updB]at a
   split at a
   .rename_i r;subst r;cases a;exact av
   .exact g j bz a
  .exact h.elim
theorem Kq :∀(l:List Nat) (T:List (Nat×Option bc)) (f:List (Nat×Option bc)->bk) (aE rt:List Nat),(yU l T f).R s aE rt e aM->(∀k b,aH T k=some b->aH s.T k=some b)->∃p d,(∀k b,aH p k=some b->aH s.T k=some b)/\(f p).R s aE d e aM
 | [],T,f,aE,rt,h,g=>⟨T,rt,g,h⟩
 |k::l,T,f,aE,rt,h,g=>by
  simp only[yU,bk.R]at h
  refine Kq l _ f aE _ h (fun j bz a=>?_)
  rw[nA]at a
  simp only[updT]at a
  split at a
  .rename_i r;subst r;exact a
  .exact g j bz a
theorem J8 {B:List (Nat×cm)} {T:List (Nat×Option bc)} {xs:List au} {f:(m:Model)->gp m.arg.ft->Acc->bk} {aE rt:List Nat}:∀(l:List Model),(yM B T xs f l).R s aE rt e aM->∃m a acc,m∈l/\m.arg.conv B T xs=some (a,acc)/\(f m a acc).R s aE rt e aM
 | [],h=>h.elim
 |m::l,h=>by
  simp only[yM]at h
  split at h
  .rename_i a acc d
   exact⟨m,a,acc,cb,d,h⟩
  .obtain ⟨g,a,acc,p,r,u⟩:=J8 l h
   exact⟨g,a,acc,ch _ p,r,u⟩
theorem MR :∀(l:List Nat) (r:bk) (aE rt:List Nat),(Aw E l r).R s aE rt e aM->(∀k,k∈l->aZ s.B k=none/\E.res k=false)/\∃a,r.R s a rt e aM
 | [],r,aE,rt,h=>⟨(fun k d=>by cases d),aE,h⟩
 |k::l,r,aE,rt,h=>by
  simp only[Aw,bk.R]at h
  split at h
  .rename_i d
   split at h
   .exact h.elim
   .rename_i g
    obtain⟨p,u⟩:=MR l r _ rt h
    refine⟨fun j f=>?_,u⟩
    rcases bn.1 f with rfl|f
    .exact ⟨d,by simpa using g⟩
    .exact p j f
  .exact h.elim
theorem Gq :∀(l:List Nat) (r:bk) (aE rt:List Nat),(xa E l r).R s aE rt e aM->(∀k,k∈l->aH s.T k=none/\E.res k=false)/\∃a,r.R s aE a e aM
 | [],r,aE,rt,h=>⟨(fun k d=>by cases d),rt,h⟩
 |k::l,r,aE,rt,h=>by
  simp only[xa,bk.R]at h
  split at h
  .rename_i d
   split at h
   .exact h.elim
   .rename_i g
    obtain⟨p,u⟩:=Gq l r aE _ h
    refine⟨fun j f=>?_,u⟩
    rcases bn.1 f with rfl|f
    .exact ⟨d,by simpa using g⟩
    .exact p j f
  .exact h.elim
end
section
variable {c c' : Ctx} {cP cA : Nat -> Nat} (hw : c'.w = c.w) (df : c'.S = c.S) (av : ∀ k, c.live k -> c'.live (cP k) /\ c'.β (cP k) = c.β k) (az : ∀ n, c.tok n ≠ none -> c'.tok (cA n) = c.tok n /\ c'.τ (cA n) = c.τ n) (hm : ∀ k, c.live k -> h6 (cP k) = h6 k)
include hw df av az hm
theorem p3 {x:au} {v:Value} (f:gK c x v):gK c' (x.tp cP cA) v:=by
 cases x with
 |dead=>exact True.intro
 |af t y=>obtain⟨p,h,d⟩:=f;exact⟨p,h,by rw[hw,df];exact d⟩
 |aT=>exact f
 |eQ=>exact f
 |box k o=>obtain⟨h,d⟩:=f;exact⟨(av k h).1,by rw[(av k h).2];unfold rB at d⊢;rw[hm k h];exact d⟩
 |ptr t y o=>obtain⟨b,q,h,d⟩:=f;exact⟨b,q,h,by rw[hw,df];exact d⟩
 |own n t xs=>
  obtain⟨h,d,r⟩:=f
  obtain⟨g1,g2⟩:=az n d
  exact⟨by rw[hw,df];exact h,by rw[g1];exact d,fun aa a=>by rw[g1]at a;rw[g2];exact r aa a⟩
 |ay n=>
  obtain⟨h,d,r⟩:=f
  obtain⟨g1,g2⟩:=az n d
  exact⟨h,by rw[g1];exact d,fun aa a=>by rw[g1]at a;rw[g2];exact r aa a⟩
 |fx n i o=>
  obtain⟨h,d,r⟩:=f
  obtain⟨g1,g2⟩:=az n d
  exact⟨h,by rw[g1];exact d,fun aa a=>by rw[g1]at a;rw[g2];exact r aa a⟩
 |sub n l k=>
  obtain⟨h,d,r⟩:=f
  obtain⟨g1,g2⟩:=az n d
  exact⟨h,by rw[g1];exact d,fun aa a=>by rw[g1]at a;rw[g2];exact r aa a⟩
 |jd g=>exact⟨by rw[df];exact f.1,by rw[hw];exact f.2.1,f.2.2⟩
 |agg _=>exact f.elim
 |bR _=>exact f.elim
 |aV _ _=>exact f.elim
theorem TE :∀ {xs:List au} {a:List Value},bx (gK c) xs a->bx (gK c') (au.kj cP cA xs) a
 | [],[],_=>True.intro
 |_::xs,_::a,h=>⟨p3 hw df av az hm h.1,TE h.2⟩
 | [],_::_,h=>h.elim
 |_::_,[],h=>h.elim
theorem o4 {x:au} {v:Value} (a:ff c x v):ff c' (x.tp cP cA) v:=by
 cases x with
 |aV f cs=>obtain⟨us,e,d⟩:=a;exact⟨us,e,TE hw df av az hm d⟩
 |agg _=>exact a.elim
 |bR _=>exact a.elim
 |dead=>exact True.intro
 |af t y=>exact jW (p3 hw df av az hm (x:=.af t y) a)
 |aT=>exact a
 |eQ=>exact a
 |box k o=>exact jW (p3 hw df av az hm (x:=.box k o) a)
 |ptr t y o=>exact jW (p3 hw df av az hm (x:=.ptr t y o) a)
 |own n t xs=>exact jW (p3 hw df av az hm (x:=.own n t xs) a)
 |ay n=>exact jW (p3 hw df av az hm (x:=.ay n) a)
 |fx n i o=>exact jW (p3 hw df av az hm (x:=.fx n i o) a)
 |jd g=>exact jW (p3 hw df av az hm (x:=.jd g) a)
 |sub n l k=>exact jW (p3 hw df av az hm (x:=.sub n l k) a)
theorem DW :∀ {xs:List au} {a:List Value},bx (ed c) xs a->bx (ed c') (au.kj cP cA xs) a
 | [],[],_=>True.intro
 |_::xs,_::a,h=>⟨⟨o4 hw df av az hm h.1.1,h.1.2⟩,DW h.2⟩
 | [],_::_,h=>h.elim
 |_::_,[],h=>h.elim
theorem nO {x:au} {v:Value} (a:gq c x v):gq c' (x.tp cP cA) v:=by
 cases x with
 |agg cs=>obtain⟨us,e,d⟩:=a;exact⟨us,e,DW hw df av az hm d⟩
 |bR _=>exact a.elim
 |aV f cs=>exact kU (o4 hw df av az hm (x:=.aV f cs) a)
 |dead=>exact True.intro
 |af t y=>exact kU (o4 hw df av az hm (x:=.af t y) a)
 |aT=>exact a
 |eQ=>exact a
 |box k o=>exact kU (o4 hw df av az hm (x:=.box k o) a)
 |ptr t y o=>exact kU (o4 hw df av az hm (x:=.ptr t y o) a)
 |own n t xs=>exact kU (o4 hw df av az hm (x:=.own n t xs) a)
 |ay n=>exact kU (o4 hw df av az hm (x:=.ay n) a)
 |fx n i o=>exact kU (o4 hw df av az hm (x:=.fx n i o) a)
 |jd g=>exact kU (o4 hw df av az hm (x:=.jd g) a)
 |sub n l k=>exact kU (o4 hw df av az hm (x:=.sub n l k) a)
theorem TF :∀ {xs:List au} {a:List Value},bx (gq c) xs a->bx (gq c') (au.kj cP cA xs) a
 | [],[],_=>True.intro
 |_::xs,_::a,h=>⟨nO hw df av az hm h.1,TF h.2⟩
 | [],_::_,h=>h.elim
 |_::_,[],h=>h.elim
theorem aqh {x:au} {v:Value} (a:bp c x v):bp c' (x.tp cP cA) v:=by
 cases x with
 |bR cs=>obtain⟨us,e,d⟩:=a;exact⟨us,e,TF hw df av az hm d⟩
 |agg cs=>exact jX (nO hw df av az hm (x:=.agg cs) a)
 |aV f cs=>exact jX (nO hw df av az hm (x:=.aV f cs) a)
 |dead=>exact True.intro
 |af t y=>exact jX (nO hw df av az hm (x:=.af t y) a)
 |aT=>exact a
 |eQ=>exact a
 |box k o=>exact jX (nO hw df av az hm (x:=.box k o) a)
 |ptr t y o=>exact jX (nO hw df av az hm (x:=.ptr t y o) a)
 |own n t xs=>exact jX (nO hw df av az hm (x:=.own n t xs) a)
 |ay n=>exact jX (nO hw df av az hm (x:=.ay n) a)
 |fx n i o=>exact jX (nO hw df av az hm (x:=.fx n i o) a)
 |jd g=>exact jX (nO hw df av az hm (x:=.jd g) a)
 |sub n l k=>exact jX (nO hw df av az hm (x:=.sub n l k) a)
end
theorem ML :∀(l:List (Nat×cm)) (f:Nat->Option cm),(l.map (·.1)).Nodup->∀k,l.foldl (fun f x=>updB f x.1 x.2) f k=match aZ l k with|some b=>some b|none=>f k
 | [],f,_,k=>rfl
 |(j,b)::l,f,a,k=>by
  simp only[cw,n2]at a
  rw[eZ,ML l _ a.2]
  simp only[aZ]
  by_cases e:k=j
  .subst e
   have:aZ l k=none:=by
    cases h:aZ l k with
    |none=>rfl
    |some c=>exact absurd (cg.2 ⟨(k,c),oP h,rfl⟩) a.1
   simp[this,updB]
  .simp [e,updB]
theorem Sf :∀ {l:List (Nat×Option bc)} {k:Nat},k∉l.map (·.1)->aH l k=none
 | [],k,_=>rfl
 |(j,x)::l,k,h=>by
  simp only[cw,bn,not_or]at h
  simp only[aH]
  rw[aC h.1]
  exact Sf h.2
theorem MO :∀(l:List (Nat×Option bc)) (f:Nat->Option bc),(l.map (·.1)).Nodup->∀k,l.foldl (fun f x=>updT f x.1 x.2) f k=if k∈l.map (·.1)then aH l k else f k
 | [],f,_,k=>by simp
 |(j,b)::l,f,d,k=>by
  simp only[cw,n2]at d
  rw[eZ,MO l _ d.2]
  simp only[aH,cw,bn]
  by_cases e:k=j
  .subst e
   simp[d.1,updT]
  .by_cases a:k∈l.map (·.1)
   .rw [ai a,ai (.inr a),aC e]
   .rw [aC a,aC (fun h=>h.elim e a)]
    simp[updT,e]
theorem MM (B:List (Nat×cm)) (box:Nat->Option cm) (a:∀k b,aZ B k=some b->box k=some b):∀(ks:List Nat) (f:Nat->Option cm),(∀k,k∈ks->aZ B k≠none)->∀k,(ks.filterMap fun k=>(aZ B k).map fun b=>(k,(⟨true,b.cs⟩:cm))).foldl (fun f x=>updB f x.1 x.2) f k=if k∈ks then(box k).map fun b=>⟨true,b.cs⟩else f k
 | [],f,_,k=>by simp
 |j::ks,f,h,k=>by
  obtain⟨b,av⟩:=gy.1 (h j cb)
  simp only[tK,av,pe,eZ]
  rw[MM B box a ks _ (fun k d=>h k (ch _ d))]
  by_cases e:k=j
  .subst e
   simp only[updB,if_true,bn,true_or,a k b av,pe]
   split<;>rfl
  .simp [e,updB]
theorem MN (T:List (Nat×Option bc)) (tok:Nat->Option bc) (y:∀k b,aH T k=some b->tok k=some b):∀(a:List Nat) (f:Nat->Option bc),(∀n,n∈a->s6 (aH T n)=true)->∀k,(a.filterMap (xc T)).foldl (fun f x=>updT f x.1 x.2) f k=if k∈a then dN tok a k else f k
 | [],f,_,k=>by simp
 |j::a,f,h,k=>by
  have r:=h j cb
  have g:∀n (a:List Nat),n∈a->s6 (aH T n)=true->dN tok a n=match aH T n with|some (.live aa)=>some (.live aa.cu)|z=>z:=fun n a C l=>by
   cases p:aH T n with
   |none=>rw[p]at l;cases l
   |some z=>cases z with
    |ej=>rw[p]at l;cases l
    |live b2=>unfold dN;rw[y n _ p];simp[C]
  cases u:aH T j with
  |none=>rw[u]at r;cases r
  |some z=>cases z with
   |ej=>rw[u]at r;cases r
   |live aa=>
    simp only[tK,xc,u,eZ]
    rw[show(a.filterMap fun n=>xc T n)=a.filterMap (xc T)from rfl]at*
    rw[MN T tok y a _ (fun k G=>h k (ch _ G))]
    by_cases e:k=j
    .subst e
     have A:=g k (k::a) cb r
     rw[u]at A
     simp only[bn,true_or,if_true,A]
     split
     .rename_i d;rw[g k a d r,u]
     .simp [updT]
    .by_cases d:k∈a
     .simp only [d,if_true,bn,or_true]
      have v:=h k (ch _ d)
      rw[g k a d v,g k (j::a) (ch _ d) v]
     .simp [d,e,updT]
end Go.Proofs.YtnkagklajgimlaaGreatDoor
namespace Go.Proofs.YtnkagklajgimlaaGreatDoor
open Go.RowKit
structure tU (acc:Acc) (gk s1:aY) (cP cA:Nat->Nat) (iF:Nat->Option cm) (hC:Nat->Option bc):Prop where
 aE:∀k aL,bZ acc.aE k=some aL->cP k=aL/\aZ s1.B k≠none/\iF aL≠none
 ap5:∀j db i,bZ acc.aE j=some i->bZ acc.aE db=some i->j=db
 Kz:∀k b,aZ gk.B k=some b->∃aL,bZ acc.aE k=some aL
 pS:∀k,aZ s1.B k≠none->bZ acc.aE k=none->iF (cP k)=none
 aoA:∀k aL,bZ acc.aE k=none->bZ acc.aE aL=none->cP k=cP aL->k=aL
 rt:∀n m,bZ acc.rt n=some (some m)->cA n=m
 aqw:∀n b7 m,bZ acc.rt n=some (some m)->bZ acc.rt b7=some (some m)->n=b7
 KA:∀n aa,aH gk.T n=some (.live aa)->∃x,bZ acc.rt n=some x/\∀m,x=some m->∃dm,hC m=some (.live dm)
 JH:∀n,aH s1.T n≠none->(∀m,bZ acc.rt n≠some (some m))->hC (cA n)=none
 aoH:∀n b7,(∀m,bZ acc.rt n≠some (some m))->(∀m,bZ acc.rt b7≠some (some m))->cA n=cA b7->n=b7
 back:∀n m z,bZ acc.rt n=some (some m)->aH s1.T n=some z->∃aa b2,hC m=some (.live aa)/\z= .live b2/\aa.wr=true/\b2.t=aa.t
theorem tU.N8 {acc:Acc} {gk s1:aY} {cP cA:Nat->Nat} {iF:Nat->Option cm} {hC:Nat->Option bc} (h:tU acc gk s1 cP cA iF hC) {k aL:Nat} (l:aZ s1.B k≠none) (p:aZ s1.B aL≠none) (e:cP k=cP aL):k=aL:=by
 cases g1:bZ acc.aE k with
 |some i=>
  obtain⟨g,_,d⟩:=h.aE k i g1
  cases g2:bZ acc.aE aL with
  |some f=>
   obtain⟨a,_,_⟩:=h.aE aL f g2
   rw[g,a]at e;subst e
   exact h.ap5 k aL i g1 g2
  |none=>have:=h.pS aL p g2;rw[<-e,g]at this;exact absurd this d
 |none=>
  cases g2:bZ acc.aE aL with
  |some f=>
   obtain⟨a,_,d⟩:=h.aE aL f g2
   have:=h.pS k l g1;rw[e,a]at this;exact absurd this d
  |none=>exact h.aoA k aL g1 g2 e
theorem tU.HA {acc:Acc} {gk s1:aY} {cP cA:Nat->Nat} {iF:Nat->Option cm} {hC:Nat->Option bc} (h:tU acc gk s1 cP cA iF hC) {k aL:Nat} (a:aH s1.T k≠none) (l:aH s1.T aL≠none) (e:cA k=cA aL):k=aL:=by
 have live:∀k m,aH s1.T k≠none->bZ acc.rt k=some (some m)->hC m≠none:=fun k m a g=>by
  obtain⟨z,r⟩:=gy.1 a
  obtain⟨aa,_,az,_⟩:=h.back k m z g r
  rw[az];simp
 by_cases g1:∃m,bZ acc.rt k=some (some m)
 .obtain ⟨m,g1⟩:=g1
  have p:=h.rt k m g1
  by_cases g2:∃m,bZ acc.rt aL=some (some m)
  .obtain ⟨d,g2⟩:=g2
   have f:=h.rt aL d g2
   rw[p,f]at e;subst e
   exact h.aqw k aL m g1 g2
  .have:=h.JH aL l (fun m hm=>g2 ⟨m,hm⟩)
   rw[<-e,p]at this
   exact absurd this (live k m a g1)
 .by_cases g2:∃m,bZ acc.rt aL=some (some m)
  .obtain ⟨d,g2⟩:=g2
   have f:=h.rt aL d g2
   have:=h.JH k a (fun m hm=>g1 ⟨m,hm⟩)
   rw[e,f]at this
   exact absurd this (live aL d l g2)
  .exact h.aoH k aL (fun m hm=>g1 ⟨m,hm⟩) (fun m hm=>g2 ⟨m,hm⟩) e
open Classical in
noncomputable def ti {α:Type} (dom:Nat->Prop) (ρ:Nat->Nat) (f g:Nat->α) (k:Nat):α:=if h:∃j,dom j/\ρ j=k then f (Classical.choose h)else g k
theorem J9 {α:Type} {dom:Nat->Prop} {ρ:Nat->Nat} {f g:Nat->α} (hi:∀j db,dom j->dom db->ρ j=ρ db->j=db) {j:Nat} (a:dom j):ti dom ρ f g (ρ j)=f j:=by
 unfold ti
 have h:∃db,dom db/\ρ db=ρ j:=⟨j,a,rfl⟩
 rw[dif_pos h]
 obtain⟨d,l⟩:=Classical.choose_spec h
 rw[hi _ _ d a l]
theorem Ka {α:Type} {dom:Nat->Prop} {ρ:Nat->Nat} {f g:Nat->α} {k:Nat} (h:∀j,dom j->ρ j≠k):ti dom ρ f g k=g k:=by
 unfold ti
 rw[dif_neg]
 rintro⟨j,a,d⟩
 exact h j a d
theorem WZ {R:ec} {w ev:World} {S ga:b0} {iF:Nat->Option cm} {hC:Nat->Option bc} {β Z:Nat->Nat} {τ qo:Nat->Value} {F kQ:Nat->Nat->Prop} (K:Mem R iF hC β τ F S w) {acc:Acc} {gk s1:aY} {cP cA:Nat->Nat} (A:tU acc gk s1 cP cA iF hC)
  (X:Mem (jE gk (dR acc β) (hk acc τ) (fz acc F) S w) (aZ s1.B) (aH s1.T) Z qo kQ ga ev)
  (y:Nat->Option cm) (p:Nat->Option bc)
  (uN:∀k,aZ s1.B k≠none->y (cP k)=(aZ s1.B k).map fun b=>⟨b.cu,au.kj cP cA b.cs⟩) (L:∀k,(∀j,aZ s1.B j≠none->cP j≠k)->y k=iF k)
  (M:∀n,aH s1.T n≠none->p (cA n)=aH s1.T n) (Hi:∀t,(∀n,aH s1.T n≠none->cA n≠t)->(∃n,bZ acc.rt n=some (some t))->p t=some .ej) (Hj:∀t,(∀n,aH s1.T n≠none->cA n≠t)->(¬∃n,bZ acc.rt n=some (some t))->p t=hC t)
  (aao:∀k,aZ s1.B k≠none->bZ acc.aE k=none->R.oc (cP k)=none) (aap:∀n,aH s1.T n≠none->(∀m,bZ acc.rt n≠some (some m))->R.gw (cA n)=none)
  (oz:∀n m,bZ acc.rt n=some (some m)->aH s1.T n≠none->∃aa,aH gk.T n=some (.live aa)) (aas:∀k aL,bZ acc.aE k=some aL->aZ gk.B k≠none) (sw:∀n aa,aH s1.T n=some (.live aa)->aa.only) (xp:∀k,aZ s1.B k≠none->h6 (cP k)=h6 k):
  ∃H G pk,Mem R y p H G pk ga ev/\Ctx.n6 ⟨w,S,fun k=>iF k≠none,β,hC,τ⟩ ⟨ev,ga,fun k=>y k≠none,H,p,G⟩/\gn ⟨w,S,fun k=>iF k≠none,β,hC,τ⟩ ⟨ev,ga,fun k=>y k≠none,H,p,G⟩/\hq ⟨w,S,fun k=>iF k≠none,β,hC,τ⟩ ⟨ev,ga,fun k=>y k≠none,H,p,G⟩/\
   (∀k,aZ s1.B k≠none->y (cP k)≠none/\H (cP k)=Z k)/\(∀n,aH s1.T n≠none->p (cA n)=aH s1.T n/\G (cA n)=qo n):=by
 obtain⟨H,N3⟩:∃H,H=ti (fun j=>aZ s1.B j≠none) cP Z β:=⟨_,rfl⟩
 obtain⟨G,N5⟩:∃G,G=ti (fun j=>aH s1.T j≠none) cA qo τ:=⟨_,rfl⟩
 obtain⟨pk,AH⟩:∃pk,pk=ti (fun j=>aH s1.T j≠none) cA kQ F:=⟨_,rfl⟩
 have bin:∀ {k},aZ s1.B k≠none->H (cP k)=Z k:=fun {k} g=>by rw[N3];exact J9 (dom:=fun j=>aZ s1.B j≠none) (fun j db J V e=>A.N8 J V e) g
 have O:∀ {k},(∀j,aZ s1.B j≠none->cP j≠k)->H k=β k:=fun {k} g=>by rw[N3];exact Ka g
 have we:∀ {k},aH s1.T k≠none->G (cA k)=qo k:=fun {k} g=>by rw[N5];exact J9 (dom:=fun j=>aH s1.T j≠none) (fun j db J V e=>A.HA J V e) g
 have EO:∀ {k},(∀j,aH s1.T j≠none->cA j≠k)->G k=τ k:=fun {k} g=>by rw[N5];exact Ka g
 have fin:∀ {k},aH s1.T k≠none->pk (cA k)=kQ k:=fun {k} g=>by rw[AH];exact J9 (dom:=fun j=>aH s1.T j≠none) (fun j db J V e=>A.HA J V e) g
 have Y:∀ {k},(∀j,aH s1.T j≠none->cA j≠k)->pk k=F k:=fun {k} g=>by rw[AH];exact Ka g
 have C:∀(dom:Nat->Prop) (ρ:Nat->Nat) (k:Nat),(∃j,dom j/\ρ j=k)\/ ∀j,dom j->ρ j≠k:=fun dom ρ k=>by
  by_cases h:∃j,dom j/\ρ j=k
  .exact .inl h
  .exact .inr fun j J V=>h ⟨j,J,V⟩
 have LI:∀ {k aL},bZ acc.aE k=some aL->Z k=β aL:=fun {k aL} h=>by
  obtain⟨b,av⟩:=gy.1 (aas k aL h)
  have:=X.lK k (dR acc β k) (by simp[jE,av]) (A.aE k aL h).2.1
  rw[this];unfold dR;rw[h];rfl
 have UR:∀ {n m b2},bZ acc.rt n=some (some m)->aH s1.T n=some (.live b2)->qo n=τ m:=fun {n m b2} h bL=>by
  obtain⟨aa,I⟩:=oz n m h (by rw[bL];simp)
  have:=X.lp n (hk acc τ n) b2 (by simp[jE,I]) bL
  rw[this];unfold hk;rw[h]
 have R6:∀b,kF gk (dR acc β) (fz acc F) b->R.dt b/\b<w.heap.size:=fun b av=>by
  rcases av with⟨k,x,g,rfl⟩|⟨t,aa,az,U⟩
  .obtain ⟨aL,Q⟩:=A.Kz k x g
   obtain⟨b,av⟩:=gy.1 (A.aE k aL Q).2.2
   have:dR acc β k=β aL:=by unfold dR;rw[Q];rfl
   rw[this]
   exact⟨(K.boxes aL b av).1,K.blt av⟩
  .unfold fz at U
   obtain⟨x,bb,bK⟩:=A.KA t aa az
   rw[bb]at U
   cases x with
   |none=>exact U.elim
   |some m=>
    obtain⟨dm,hv⟩:=bK m rfl
    exact(K.bI m dm hv).1 b U
 have Gn:∀b,(jE gk (dR acc β) (hk acc τ) (fz acc F) S w).dt b->R.dt b:=fun b av=>by
  rcases av with av|av
  .exact .inl (dS K.size av)
  .exact (R6 b av).1
 have Gp:∀ {k b},iF k=some b->(∀j,aZ s1.B j≠none->cP j≠k)->¬kF gk (dR acc β) (fz acc F) (β k):=fun {k b} g f bK=>by
  rcases bK with⟨j,x,P,e⟩|⟨t,aa,az,U⟩
  .obtain ⟨aL,Q⟩:=A.Kz j x P
   obtain⟨cB,ck,dr⟩:=A.aE j aL Q
   obtain⟨bz,W⟩:=gy.1 dr
   have:dR acc β j=β aL:=by unfold dR;rw[Q];rfl
   rw[this]at e
   have:=K.j0 aL k bz b W g e
   exact f j ck (cB.trans this)
  .unfold fz at U
   obtain⟨x,bb,bK⟩:=A.KA t aa az
   rw[bb]at U
   cases x with
   |none=>exact U.elim
   |some m=>
    obtain⟨dm,hv⟩:=bK m rfl
    exact K.fq m dm k b hv g U
 have Au:∀ {t aa b},hC t=some (.live aa)->(¬∃n,bZ acc.rt n=some (some t))->F t b->¬kF gk (dR acc β) (fz acc F) b:=fun {t aa b} az f U bK=>by
  rcases bK with⟨j,x,P,rfl⟩|⟨n,b2,u,nj⟩
  .obtain ⟨aL,Q⟩:=A.Kz j x P
   obtain⟨bz,W⟩:=gy.1 (A.aE j aL Q).2.2
   have:dR acc β j=β aL:=by unfold dR;rw[Q];rfl
   rw[this]at U
   exact K.fq t aa aL bz az W U
  .unfold fz at nj
   obtain⟨x,bb,bK⟩:=A.KA n b2 u
   rw[bb]at nj
   cases x with
   |none=>exact nj.elim
   |some m=>
    obtain⟨dm,hv⟩:=bK m rfl
    have:=K.eM m t dm aa b hv az nj U
    subst this
    exact f ⟨n,bb⟩
 have DA:∀b o,S b o->ga b o:=X.cv
 have aoE:∀b o,ga b o->b<w.heap.size->¬kF gk (dR acc β) (fz acc F) b->S b o:=fun b o h gr u=>by
  rcases X.new b o h with h|h|h
  .exact h
  .exact absurd gr (by have:w.heap.size<=b:=h;omega)
  .exact absurd h u
 have LD:∀b,b<w.heap.size->¬kF gk (dR acc β) (fz acc F) b->ev.heap[b]? =w.heap[b]? :=fun b J V=>X.eD.block b J V
 have FF:∀b o,S b o->ev.cell? ⟨b,o,none⟩=w.cell? ⟨b,o,none⟩:=X.la
 have atE:w.heap.size<=ev.heap.size:=X.eD.size
 have told:∀ {t aa},p t=some (.live aa)->(∀n,aH s1.T n≠none->cA n≠t)->hC t=some (.live aa)/\¬∃n,bZ acc.rt n=some (some t):=fun {t aa} az f=>by
  by_cases h:∃n,bZ acc.rt n=some (some t)
  .rw [Hi t f h]at az;cases az
  .rw [Hj t f h]at az;exact⟨az,h⟩
 have Di:∀ {k},aZ s1.B k≠none->y (cP k)≠none:=fun {k} g=>by
  obtain⟨b,av⟩:=gy.1 g
  rw[uN k g,av];simp
 have AK:Ctx.n6 ⟨w,S,fun k=>iF k≠none,β,hC,τ⟩ ⟨ev,ga,fun k=>y k≠none,H,p,G⟩:=⟨DA,FF⟩
 have AG:gn ⟨w,S,fun k=>iF k≠none,β,hC,τ⟩ ⟨ev,ga,fun k=>y k≠none,H,p,G⟩:=fun k g=>by
  have g:iF k≠none:=g
  rcases C (fun j=>aZ s1.B j≠none) cP k with⟨j,P,rfl⟩|f
  .refine ⟨Di P,?_⟩
   show H (cP j)=β (cP j)
   cases cG:bZ acc.aE j with
   |some aL=>rw[bin P,LI cG,(A.aE j aL cG).1]
   |none=>exact absurd (A.pS j P cG) g
  .exact ⟨by show y k≠none;rw[L k f];exact g,O f⟩
 have xe:hq ⟨w,S,fun k=>iF k≠none,β,hC,τ⟩ ⟨ev,ga,fun k=>y k≠none,H,p,G⟩:=fun t az=>by
  have az:hC t≠none:=az
  rcases C (fun j=>aH s1.T j≠none) cA t with⟨n,u,rfl⟩|f
  .refine ⟨by show p (cA n)≠none;rw[M n u];exact u,fun b2 I=>?_⟩
   have I:p (cA n)=some (.live b2):=I
   rw[M n u]at I
   by_cases hm:∃m,bZ acc.rt n=some (some m)
   .obtain ⟨m,hm⟩:=hm
    have em:=A.rt n m hm
    obtain⟨aa,wg,g1,g2,g3,g4⟩:=A.back n m _ hm I
    cases g2
    refine⟨aa,by show hC (cA n)=_;rw[em];exact g1,?_,g4,fun h=>by rw[g3]at h;cases h⟩
    show G (cA n)=τ (cA n)
    rw[we u,UR hm I,em]
   .exact absurd (A.JH n u (fun m h=>hm ⟨m,h⟩)) az
  .by_cases h:∃n,bZ acc.rt n=some (some t)
   .refine ⟨by show p t≠none;rw[Hi t f h];simp,fun b2 I=>?_⟩
    have I:p t=some (.live b2):=I
    rw[Hi t f h]at I;cases I
   .refine ⟨by show p t≠none;rw[Hj t f h];exact az,fun b2 I=>?_⟩
    have I:p t=some (.live b2):=I
    rw[Hj t f h]at I
    exact⟨b2,I,EO f,rfl,fun h=>⟨h,rfl⟩⟩
 refine⟨H,G,pk,⟨K.eD.on X.eD (fun i hi gr=>?_),fun b o h=>DA b o (K.cv b o h),fun b o h=>?_,fun b o h=>(FF b o (K.cv b o h)).trans (K.la b o h),X.lt,fun k b g=>?_,fun k aL b bz g Q e=>?_,fun t aa az=>?_,fun t dj aa b2 b az h4 av W=>?_,fun t aa k b az g U=>?_,fun k b av g=>?_,fun t v aa cV az=>?_,fun n aa aU i o d u lT fu hd=>?_⟩,AK,AG,xe,fun k g=>⟨Di g,bin g⟩,fun n u=>⟨M n u,we u⟩⟩
 .rcases (R6 i hi).1 with h|h
  .omega
  .exact h
 .rcases X.new b o h with h|h
  .exact K.new b o h
  .exact .inr (Gn b h)
 ·
  rcases C (fun j=>aZ s1.B j≠none) cP k with⟨j,P,rfl⟩|f
  .obtain ⟨ew,k5⟩:=gy.1 P
   rw[uN j P,k5]at g
   cases g
   obtain⟨qE,c2,c3,wU⟩:=X.boxes j ew k5
   rw[bin P]
   refine⟨Gn _ qE,c2,fun bL o cC=>c3 bL o ?_,?_⟩
   .have hlen:∀l:List au,(au.kj cP cA l).length=l.length:=fun l=>by
     induction l with
     |nil=>rfl
     |cons x l lU=>simp[au.kj,lU]
    rw[hlen]at cC;exact cC
   .rcases wU with⟨u,bT,T,c4,c5⟩|⟨u,dZ,dG,es,fo,LW,c4,c5⟩|⟨u,bT,c4,c5⟩
    .refine .inl ⟨(RU (xp j P)).trans u,bT,T,c4,?_⟩
     exact DW (c:=⟨ev,ga,fun k=>aZ s1.B k≠none,Z,aH s1.T,qo⟩) (c':=⟨ev,ga,fun k=>y k≠none,H,p,G⟩) rfl rfl (fun k g=>⟨Di g,bin g⟩) (fun n u=>⟨M n u,we u⟩) (fun k g=>xp k g) c5
    .refine .inr (.inl ⟨(xp j P).trans u,dZ,dG,es,fo,LW,?_,c5⟩)
     rcases c4 with e|e
     .exact .inl (by show au.kj cP cA ew.cs=_;rw[e];rfl)
     .exact .inr (by show au.kj cP cA ew.cs=_;rw[e];rfl)
    .refine .inr (.inr ⟨(xp j P).trans u,bT,c4,?_⟩)
     exact DW (c:=⟨ev,ga,fun k=>aZ s1.B k≠none,Z,aH s1.T,qo⟩) (c':=⟨ev,ga,fun k=>y k≠none,H,p,G⟩) rfl rfl (fun k g=>⟨Di g,bin g⟩) (fun n u=>⟨M n u,we u⟩) (fun k g=>xp k g) c5
  .rw [L k f]at g
   obtain⟨qE,c2,c3,wU⟩:=K.boxes k b g
   have Nr:=Gp g f
   have gr:=K.blt g
   rw[O f]
   exact⟨qE,fun bL o cC=>c2 bL o (aoE _ o cC gr Nr),fun bL o cC=>DA _ o (c3 bL o cC),wU.imp (LD _ gr Nr) fun x v bb=>⟨ff.mono AK AG xe bb.1,bb.2⟩⟩
 ·
  have key:∀j k b,aZ s1.B j≠none->iF k=some b->(∀j,aZ s1.B j≠none->cP j≠k)->Z j≠β k:=fun j k b P g f e=>by
   obtain⟨ew,k5⟩:=gy.1 P
   rcases(X.boxes j ew k5).1 with h|h
   .have h:w.heap.size<=Z j:=h
    have:=K.blt g;omega
   .exact Gp g f (e▸h)
  rcases C (fun j=>aZ s1.B j≠none) cP k with⟨j,P,rfl⟩|f<;>rcases C (fun j=>aZ s1.B j≠none) cP aL with⟨db,mC,rfl⟩|r
  .rw [bin P,bin mC]at e
   obtain⟨ew,k5⟩:=gy.1 P
   obtain⟨a8,uN⟩:=gy.1 mC
   rw[X.j0 j db ew a8 k5 uN e]
  .rw [bin P,O r]at e
   rw[L aL r]at Q
   exact absurd e (key j aL bz P Q r)
  .rw [O f,bin mC]at e
   rw[L k f]at g
   exact absurd e.symm (key db k b mC g f)
  .rw [O f,O r]at e
   rw[L k f]at g;rw[L aL r]at Q
   exact K.j0 k aL b bz g Q e
 ·
  rcases C (fun j=>aH s1.T j≠none) cA t with⟨n,u,rfl⟩|f
  .rw [M n u]at az
   rw[we u,fin u]
   exact(X.bI n aa az).dt fun b av=>Gn b ((X.bI n aa az).1 b av).1
  .obtain ⟨J,V⟩:=told az f
   rw[EO f,Y f]
   have g:=K.bI t aa J
   have pG:Step (fun b=>kF gk (dR acc β) (fz acc F) b) S ga w ev:=⟨X.eD,FF,DA,fun b o h=>by
    rcases X.new b o h with h|h|h
    .exact .inl h
    .exact .inr (.inl h)
    .exact .inr (.inr h),X.lt⟩
   exact g.step pG (fun b av=>Au J V av)
 .have key:∀n aa t b2 b,aH s1.T n=some (.live aa)->hC t=some (.live b2)->(¬∃n,bZ acc.rt n=some (some t))->kQ n b->¬F t b:=fun n aa t b2 b u az f J V=>by
   rcases((X.bI n aa u).1 b J).1 with h|h
   .have h:w.heap.size<=b:=h
    have:=((K.bI t b2 az).1 b V).2;omega
   .exact Au az f V h
  rcases C (fun j=>aH s1.T j≠none) cA t with⟨n,u,rfl⟩|f<;>rcases C (fun j=>aH s1.T j≠none) cA dj with⟨b7,qW,rfl⟩|r
  .rw [M n u]at az;rw[M b7 qW]at h4
   rw[fin u]at av;rw[fin qW]at W
   rw[X.eM n b7 aa b2 b az h4 av W]
  .rw [M n u]at az
   obtain⟨J,V⟩:=told h4 r
   rw[fin u]at av;rw[Y r]at W
   exact absurd W (key n aa dj b2 b az J V av)
  .rw [M b7 qW]at h4
   obtain⟨J,V⟩:=told az f
   rw[fin qW]at W;rw[Y f]at av
   exact absurd av (key b7 b2 t aa b h4 J V W)
  .obtain ⟨J,_⟩:=told az f
   obtain⟨V,_⟩:=told h4 r
   rw[Y f]at av;rw[Y r]at W
   exact K.eM t dj aa b2 b J V av W
 .rcases C (fun j=>aH s1.T j≠none) cA t with⟨n,u,rfl⟩|f<;>rcases C (fun j=>aZ s1.B j≠none) cP k with⟨j,P,rfl⟩|r
  .rw [M n u]at az
   rw[fin u,bin P]at U
   obtain⟨ew,k5⟩:=gy.1 P
   exact X.fq n aa j ew az k5 U
  .rw [M n u]at az
   rw[L k r]at g
   rw[fin u,O r]at U
   rcases((X.bI n aa az).1 _ U).1 with h|h
   .have h:w.heap.size<=β k:=h
    have:=K.blt g;omega
   .exact Gp g r h
  .obtain ⟨J,V⟩:=told az f
   rw[Y f,bin P]at U
   obtain⟨ew,k5⟩:=gy.1 P
   rcases(X.boxes j ew k5).1 with h|h
   .have h:w.heap.size<=Z j:=h
    have:=((K.bI t aa J).1 _ U).2;omega
   .exact Au J V U h
  .obtain ⟨J,V⟩:=told az f
   rw[L k r]at g
   rw[Y f,O r]at U
   exact K.fq t aa k b J g U
 .rcases C (fun j=>aZ s1.B j≠none) cP k with⟨j,P,rfl⟩|f
  .cases cG:bZ acc.aE j with
   |none=>rw[aao j P cG]at av;cases av
   |some aL=>
    obtain⟨cB,_,dr⟩:=A.aE j aL cG
    rw[bin P,LI cG]
    rw[cB]at av
    exact K.lK aL b av dr
  .rw [L k f]at g
   rw[O f];exact K.lK k b av g
 .rcases C (fun j=>aH s1.T j≠none) cA t with⟨n,u,rfl⟩|f
  .rw [M n u]at az
   by_cases hm:∃m,bZ acc.rt n=some (some m)
   .obtain ⟨m,hm⟩:=hm
    obtain⟨dm,_,g1,_⟩:=A.back n m _ hm az
    rw[we u,UR hm az]
    rw[A.rt n m hm]at cV
    exact K.lp m v dm cV g1
   .rw [aap n u (fun m h=>hm ⟨m,h⟩)]at cV;cases cV
  .obtain ⟨J,_⟩:=told az f
   rw[EO f];exact K.lp t v aa cV J
 .rcases C (fun j=>aH s1.T j≠none) cA n with⟨b7,qW,rfl⟩|f
  .rw [M b7 qW]at u
   exact absurd (sw b7 aa u aU i o d lT fu) hd
  .obtain ⟨J,V⟩:=told u f
   obtain⟨cW,cO⟩:=K.fR n aa aU i o d J lT fu hd
   obtain⟨g1,g2⟩:=xe d cW
   refine⟨g1,fun gU bd=>?_⟩
   obtain⟨arH,l4,jH,_⟩:=g2 gU bd
   obtain⟨b,l,cap,cB,ck⟩:=cO arH l4
   have U:=(K.bI n aa J).block cB
   refine⟨b,l,cap,by rw[EO f];exact cB,?_⟩
   rw[show G d=τ d from jH]
   exact(World.cell?_of_block (w:=w) (LD b ((K.bI n aa J).1 b U).2 (Au J V U))).trans ck
end Go.Proofs.YtnkagklajgimlaaGreatDoor
namespace Go.Proofs.YtnkagklajgimlaaGreatDoor
open Go.RowKit
section
variable {E : Env} {o : Oper} {s : aY} {e : bP} {aM : dc}
theorem Fm {c:Ctx} {a:Act} (d:∀y,bp c (s.aQ y) (a.eval y)):∀(l:List Operand),bx (bp c) (l.map s.aQ) (l.map a.eval)
 | []=>True.intro
 |x::l=>⟨d x,Fm d l⟩
theorem Ls {c:Ctx}:∀ {xs:List au} {a:List Value},bx (gK c) xs a->bx (bp c) xs a:=fun h=>h.imp fun _ _ h=>hb (jW h)
theorem KV {d i j:Nat} (h:qb d i=qb d j):i=j:=by simp only[qb]at h;omega
theorem Sn {l:List (Nat×Option Nat)} {m:Nat}:m∈l.filterMap (·.2)↔∃n,(n,some m)∈l:=by
 constructor
 .intro h
  obtain⟨⟨n,x⟩,d,a⟩:=rQ.1 h
  simp only at a
  subst a
  exact⟨n,d⟩
 .rintro ⟨n,h⟩;exact rQ.2 ⟨(n,some m),h,rfl⟩
theorem Sb {ρ:Nat->Nat} {g:cm->cm}:∀ {l:List (Nat×cm)} (hi:∀x y,x∈l->y∈l->ρ x.1=ρ y.1->x.1=y.1) {k:Nat} (a:k∈l.map (·.1)),aZ (l.map fun x=>(ρ x.1,g x.2)) (ρ k)=(aZ l k).map g
 | [],_,k,a=>by cases a
 |(j,b)::l,hi,k,a=>by
  simp only[cw,aZ]
  obtain⟨z,p,r⟩:=cg.1 a
  by_cases e:k=j
  .subst e;simp
  .have d:ρ k≠ρ j:=fun h=>e (by rw[<-r]at h⊢;exact hi z (j,b) p cb h)
   rw[aC d,aC e]
   have f:k∈l.map (·.1):=by
    simp only[cw,bn]at a
    exact a.resolve_left e
   exact Sb (fun x y u hy=>hi x y (ch _ u) (ch _ hy)) f
theorem Se {ρ:Nat->Nat}:∀ {l:List (Nat×Option bc)} (hi:∀x y,x∈l->y∈l->ρ x.1=ρ y.1->x.1=y.1) {k:Nat} (a:k∈l.map (·.1)),aH (l.map fun x=>(ρ x.1,x.2)) (ρ k)=aH l k
 | [],_,k,a=>by cases a
 |(j,b)::l,hi,k,a=>by
  simp only[cw,aH]
  obtain⟨z,g,p⟩:=cg.1 a
  by_cases e:k=j
  .subst e;simp
  .have d:ρ k≠ρ j:=fun h=>e (by rw[<-p]at h⊢;exact hi z (j,b) g cb h)
   rw[aC d,aC e]
   have f:k∈l.map (·.1):=by
    simp only[cw,bn]at a
    exact a.resolve_left e
   exact Se (fun x y r hy=>hi x y (ch _ r) (ch _ hy)) f
theorem Dv {ρ:Nat->Nat}:∀ {l:List Nat},(∀x y,x∈l->y∈l->ρ x=ρ y->x=y)->l.Nodup->(l.map ρ).Nodup
 | [],_,_=>by simp
 |a::l,hi,h=>by
  simp only[cw,n2]at h⊢
  refine⟨fun d=>?_,Dv (fun x y f hy=>hi x y (ch _ f) (ch _ hy)) h.2⟩
  obtain⟨b,av,e⟩:=cg.1 d
  exact h.1 (hi b a (ch _ av) cb e▸av)
theorem aoa {l:List (Nat×cm)} {k:Nat} (h:k∉l.map (·.1)):aZ l k=none:=by
 cases a:aZ l k with
 |none=>rfl
 |some b=>exact absurd (cg.2 ⟨(k,b),oP a,rfl⟩) h
theorem aqk {w:World} {S:b0} {v:Value} {p:b6} (h:bs w S v p) (a:p.isLit=true):v=fw p:=by
 cases h<;>first|rfl|cases a
theorem Jm {c:Ctx}:∀ {xs:List au} {a:List Value} {ps:List b6},bx (ed c) xs a->bx tT xs ps->ps.all b6.isLit=true->a=ps.map fw
 | [],[],[],_,_,_=>rfl
 |x::xs,v::a,p::ps,h,k,d=>by
  simp only[List.all_cons,a6]at d
  rw[cw,Jm h.2 k.2 d.2,aqk (Ly k.1 h.1.1) d.1]
 | [],_::_,_,h,_,_=>h.elim
 |_::_,[],_,h,_,_=>h.elim
 | [],[],_::_,_,k,_=>k.elim
 |_::_,_::_,[],_,k,_=>k.elim
theorem flat_lit :∀(t:aJ) (x:t.D),t.ct=true->(enc t x).all b6.isLit=true
 | .bool,_,_=>rfl
 | .int _,_,_=>rfl
 | .str,_,_=>rfl
 | .unit,_,_=>rfl
 | .pair a b,x,h=>by
  simp only[aJ.ct,a6]at h
  simp only[enc,List.all_append,flat_lit a x.1 h.1,flat_lit b x.2 h.2,rO]
 | .ar _,_,h=>by cases h
 | .opt _,_,h=>by cases h
 | .q,_,h=>by cases h
theorem aqQ (J:eG E) (op:BinOp) (T:TypeId) (x y:Operand) (t:TypeId) (G:o.op= .binOp op T x y t) (xs ys:List au) (d:Fl (s.aQ x) (s.aQ y)=some (xs,ys)) (h:(Fk ((E.ty T).bind (·.eqs)) op xs ys).R s [] [] e aM):cX E o s e:=by
 obtain⟨K,hy⟩:s.aQ x= .agg xs/\s.aQ y= .agg ys:=by
  unfold Fl at d
  split at d
  .rename_i u
   split at d
   .rename_i v;cases d;exact⟨u,v⟩
   .cases d
  .cases d
 unfold Fk at h
 split at h
 .exact h.elim
 rename_i r A
 obtain⟨ty,C,A⟩:=jR.1 A
 obtain⟨l,p,g⟩:=(J.ty T ty C).eqs r A
 split at h
 .exact h.elim
 rename_i a L
 split at h
 .exact h.elim
 rename_i b av
 have val:∀(c:Ctx) (ac:Act),(∀y,bp c (s.aQ y) (ac.eval y))->ac.eval x= .agg ((enc r a).map fw).toArray/\ac.eval y= .agg ((enc r b).map fw).toArray:=fun c ac f=>by
  have H:=f x
  have I:=f y
  rw[K]at H
  rw[hy]at I
  obtain⟨O,u,M⟩:=H
  obtain⟨us,v,a2⟩:=I
  rw[u,v,Jm M (Jz r xs a L) (flat_lit r a l),Jm a2 (Jz r ys b av) (flat_lit r b l)]
  exact⟨rfl,rfl⟩
 split at h
 .cases da h
  refine gT fun c ac w hw f=>⟨.bool (r.h2 a b),?_,rn c _⟩
  obtain⟨v1,v2⟩:=val c ac f
  simp only[execOp,G,Sem.run_bind,v1,v2,run_eqGuard_agg w _ _ _ _ _ _ p,Result.andThen_ok,run_eql_struct,g,Sem.run_pure]
 .cases da h
  refine gT fun c ac w hw f=>⟨.bool (!r.h2 a b),?_,rn c _⟩
  obtain⟨v1,v2⟩:=val c ac f
  simp only[execOp,G,Sem.run_bind,v1,v2,run_eqGuard_agg w _ _ _ _ _ _ p,Result.andThen_ok,run_neq_struct,g,Sem.run_pure]
 .exact h.elim
def hR (a:List (Nat×Option bc)):Prop:=∀n aa,(n,some (bc.live aa))∈a->aa.only
theorem hR.append {a b:List (Nat×Option bc)} (h:hR a) (k:hR b):hR (a++b):=fun n aa d=>by
 rcases cE.1 d with f|f
 .exact h n aa f
 .exact k n aa f
theorem hR.nil :hR []:=fun n aa h=>by cases h
mutual
theorem abd :∀(v:cc) (ps:List gY),hR (inst v ps).2.2
 | .dead,ps=>hR.nil
 | .af t,ps=>by cases ps<;>exact hR.nil
 | .aT,ps=>hR.nil
 | .eQ,ps=>hR.nil
 | .box k o,ps=>hR.nil
 | .ptr t,ps=>by cases ps<;>exact hR.nil
 | .own n t e d,ps=>by
  simp only[inst]
  split
  .exact fun m aa h g i o d az a=>by
    simp at h
    obtain⟨_,rfl⟩:=h
    cases az<;>cases a
  .exact hR.nil
 | .ay n t e d,ps=>by
  simp only[inst]
  split
  .exact fun m aa h g i o d az a=>by
    simp at h
    obtain⟨_,rfl⟩:=h
    cases az<;>cases a
  .exact hR.nil
 | .kJ n t e,ps=>by
  simp only[inst]
  split
  .exact fun m aa h g i o d az a=>by
    simp at h
    obtain⟨_,rfl⟩:=h
    cases az<;>cases a
  .exact hR.nil
 | .rK n t e,ps=>by
  simp only[inst]
  split
  .exact fun m aa h g i o d az a=>by
    simp at h
    obtain⟨_,rfl⟩:=h
    cases az
    simp at a
    exact a.2.2
  .exact hR.nil
 | .agg l,ps=>u7 l ps
 | .bR l,ps=>u7 l ps
 | .aV f l,ps=>by
  cases ps with
  |nil=>exact hR.nil
  |cons p ps=>exact u7 l _
theorem u7 :∀(l:List cc) (ps:List gY),hR (hK l ps).2.2
 | [],ps=>hR.nil
 |v::l,ps=>by
  simp only[hK]
  exact(abd v ps).append (u7 l _)
end
theorem Od :∀(l:List (Nat×Bool×List cc)) (ps:List gY),hR (mG l ps).2
 | [],ps=>hR.nil
 |(k,cu,a)::l,ps=>by
  simp only[mG]
  exact(u7 a ps).append (Od l _)
theorem JD (sh:aw) (y:gp sh.ft):∀n aa,aH (sh.mk' y).T n=some (.live aa)->aa.only:=fun n aa h=>
 ((u7 sh.vals (unpack sh.ft y)).append (Od sh.boxes (hK sh.vals (unpack sh.ft y)).2.1)) n aa (ri h)
theorem aqZ (cd:eG E) (c:Call) (cC:o.op= .call c) (g:Operand) (bF:c.callee= .value g) (f:FuncId) (cs:List au) (bU:s.aQ g= .aV f cs) (h:(FD E f o.dst (c.args.toList.map s.aQ++cs)).R s [] [] e aM):cX E o s e:=by
 unfold FD at h
 obtain⟨B,ap3,il,h⟩:=Ko _ _ _ _ _ h (fun k b h=>by cases h)
 obtain⟨T,aqt,dJ,h⟩:=Kq _ _ _ _ _ h (fun k b h=>by cases h)
 obtain⟨m,a0,acc,hm,GU,h⟩:=J8 _ h
 obtain⟨r,cG,h⟩:=h
 unfold LQ at h
 simp only at h
 split at h
 case isFalse=>exact h.elim
 rename_i pF
 obtain⟨A0,atB,h⟩:=MR _ _ _ _ h
 obtain⟨qT,aqu,h⟩:=Gq _ _ _ _ h
 split at h
 case h_1=>exact h.elim
 rename_i v0 ar9 jA
 obtain⟨he,_⟩:=h
 simp only[LP,a6,cz,bo]at pF
 obtain⟨⟨⟨⟨⟨⟨⟨aoM,aoN⟩,Sy⟩,Sz⟩,JK⟩,SA⟩,SB⟩,JL⟩:=pF
 obtain⟨s1,sv⟩:∃s1,s1=m.ret.mk' r:=⟨_,rfl⟩
 rw[<-sv]at A0 qT jA he Sy Sz JK SA SB JL
 have hMod:=cd.fn f m hm
 obtain⟨⟨fn,GZ,G9,Ng⟩,Hf⟩:=hMod
 have ss:=Hf a0 r cG
 rw[<-sv]at ss
 obtain⟨gk,oz⟩:∃gk,gk=m.arg.mk' a0:=⟨_,rfl⟩
 rw[<-oz]at ss
 rintro R a w e3 ⟨β,τ,F,S,dI,W,gA,gh⟩ K Q dP
 have fQ:=hZ gh
 obtain⟨us,G2,uX⟩:=KW (bU▸fQ g)
 have Hn:bx (bp (s.ctx w S β τ)) (c.args.toList.map s.aQ++cs) (c.args.toList.map a.eval++us):=(Fm fQ _).append (Ls uX)
 obtain⟨hinv,S',ox,je,so,pE,xh,uO,uL,xz⟩:=FJ dI il dJ GU Hn
 rw[<-oz]at so pE xh uO uL xz
 have Ni:∀k,aZ s.B k≠none↔fO (aZ s.B) acc.dF k≠none:=fun k=>by
  unfold fO
  cases aZ s.B k<;>simp
 have aaB:∀n,aH s.T n≠none↔dN (aH s.T) acc.de n≠none:=fun n=>by
  unfold dN
  split
  .rename_i aa nr;rw[nr];simp
  .rfl
 have GF:Mem (jE gk (dR acc β) (hk acc τ) (fz acc F) S' w) (aZ gk.B) (aH gk.T) (dR acc β) (hk acc τ) (fz acc F) S' w:=by
  obtain⟨g1,g2,g3,g4,g5⟩:=uL (jE gk (dR acc β) (hk acc τ) (fz acc F) S' w).dt (fun k b p=>.inr (.inl ⟨k,b,p,rfl⟩)) (fun t aa b az av=>.inr (.inr ⟨t,aa,az,av⟩))
  refine⟨hF.refl _ _,fun _ _ h=>h,fun _ _ h=>.inl h,fun _ _ _=>rfl,je.lt,g1,g2,g3,g4,g5,fun k b av p=>?_,fun t v aa cV az=>?_,fun n aa aU i o d W lT J Y=>absurd ((by rw[oz]at W;exact JD _ _ n aa W:aa.only) aU i o d lT J) Y⟩
  .simp only [jE]at av
   split at av
   .cases av;rfl
   .cases av
  .simp only [jE,az]at cV
   cases cV;rfl
 have qU:lE w (kF gk (dR acc β) (fz acc F)) S':=e3.2.2.later dI ox fun b av=>by
  rcases av with⟨k,x,p,rfl⟩|⟨t,aa,az,cT⟩
  .obtain ⟨aL,bz,g1,g2,_⟩:=so k x p
   have:dR acc β k=β aL:=by unfold dR;rw[g1];rfl
   rw[this]
   exact(je.boxes aL bz g2).1
  .obtain ⟨b7,u,C⟩:=pE t aa az
   have bD:=rh hinv.rt.1 t b7 u
   unfold fz at cT
   rw[bD]at cT
   cases b7 with
   |none=>exact cT.elim
   |some m=>
    obtain⟨dm,cN,_⟩:=C
    exact(je.bI m dm cN).1 b cT|>.1
 have GO:=ss w S' (dR acc β) (hk acc τ) (fz acc F) _ qU GF xz
 have jf:(execOp a.eval o).run E.P w= .ok (.enter f (c.args.toList.map a.eval++us).toArray) w:=by
  have j9:¬fn.body=none:=fun e=>by rw[e]at Ng;cases Ng
  have kZ:(c.args.toList.map a.eval++us).toArray= #[]++c.args.map a.eval++us.toArray:=by apply Array.ext';simp
  rw[kZ]
  simp[execOp,cC,resolve,bF,G2,Deferred.ofValue,invoke,callFunc,GZ,G9,j9]
 unfold Oper.wp
 rw[jf,Oper.upon_enter]
 refine GO.mono fun dn ev he=>?_
 obtain⟨v,Lb,qo,kQ,ga,rfl,ni,x,U,Hq⟩:=he
 rw[jA]at U
 simp only[List.head?_cons,iB]at U
 subst U
 simp only
 obtain⟨cP,H⟩:∃cP,cP=yV (o.dst.getD 0) acc.aE:=⟨_,rfl⟩
 obtain⟨cA,Bb⟩:∃cA,cA=DX (o.dst.getD 0) acc.rt:=⟨_,rfl⟩
 rw[<-H]at A0
 rw[<-Bb]at qT
 rw[<-H,<-Bb]at he
 have ap4:∀k aL,bZ acc.aE k=some aL->cP k=aL:=fun k aL h=>by rw[H];unfold yV;rw[h];rfl
 have Tw:∀k,bZ acc.aE k=none->cP k=qb (o.dst.getD 0) k:=fun k h=>by rw[H];unfold yV;rw[h];rfl
 have aqv:∀n m,bZ acc.rt n=some (some m)->cA n=m:=fun n m h=>by rw[Bb];unfold DX;rw[h]
 have TN:∀n,(∀m,bZ acc.rt n≠some (some m))->cA n=qb (o.dst.getD 0) n:=fun n h=>by
  rw[Bb];unfold DX
  cases bK:bZ acc.rt n with
  |none=>rfl
  |some x=>cases x with
   |none=>rfl
   |some m=>exact absurd bK (h m)
 have M:∀k,aZ s1.B k≠none↔k∈s1.B.map (·.1):=fun k=>⟨fun h=>by
  obtain⟨b,av⟩:=gy.1 h
  exact cg.2 ⟨(k,b),oP av,rfl⟩,Jr⟩
 have anA:∀n,aH s1.T n≠none->n∈s1.T.map (·.1):=fun n h=>by
  by_cases J:n∈s1.T.map (·.1)
  .exact J
  .exact absurd (Sf J) h
 have atn:=uL
 have aat:∀n aa,aH gk.T n=some (.live aa)->∃x,bZ acc.rt n=some x/\∀m,x=some m->∃dm,dN (aH s.T) acc.de m=some (.live dm):=fun n aa W=>by
  obtain⟨b7,u,C⟩:=pE n aa W
  refine⟨b7,rh hinv.rt.1 n b7 u,fun m hm=>?_⟩
  subst hm
  obtain⟨dm,bD,_⟩:=C
  exact⟨dm,bD⟩
 have Zd:∀n m z,bZ acc.rt n=some (some m)->aH s1.T n=some z->∃aa b2,dN (aH s.T) acc.de m=some (.live aa)/\z= .live b2/\aa.wr=true/\b2.t=aa.t:=fun n m z u C=>by
  have bD:=SA (n,some z) (ri C)
  simp only[Lz,u]at bD
  split at bD
  .rename_i aa b2 cB ck
   simp only[a6,bo,nZ,List.contains_eq_mem,decide_eq_false_iff_not]at bD
   cases ck
   obtain⟨⟨g1,g2⟩,g3⟩:=bD
   exact⟨aa,b2,by unfold dN;rw[dJ m _ cB];simp[g3],rfl,g1,g2⟩
  .cases bD
 have GA:tU acc gk s1 cP cA (fO (aZ s.B) acc.dF) (dN (aH s.T) acc.de):=by
  refine⟨fun k aL p=>?_,hinv.aE,fun k b p=>?_,fun k p A=>?_,fun k aL u C e=>?_,aqv,fun n b7 m u C=>?_,aat,fun n W A=>?_,fun n b7 u C e=>?_,Zd⟩
  .refine ⟨ap4 k aL p,?_,?_⟩
   .have:=Sy (k,aL) (mL p)
    simp only[Option.isSome_iff_ne_none]at this;exact this
   .have:=uO k aL p
    obtain⟨b,av⟩:=gy.1 this
    obtain⟨cO,bz,g1,g2,_⟩:=so k b av
    rw[p]at g1;cases g1
    rw[g2];simp
  .obtain ⟨aL,bz,g1,_⟩:=so k b p
   exact⟨aL,g1⟩
  .obtain ⟨b,av⟩:=gy.1 p
   have:=(A0 (cP k) (cg.2 ⟨(k,b),gH.2 ⟨oP av,by simp[A]⟩,rfl⟩)).1
   by_cases Y:fO (aZ s.B) acc.dF (cP k)=none
   .exact Y
   .exact absurd this ((Ni _).2 Y)
  .rw [Tw k u,Tw aL C]at e;exact KV e
  .obtain ⟨i,hi⟩:=tP.1 (mL u)
   obtain⟨eO,G4⟩:=tP.1 (mL C)
   have:=hinv.rt.2 i eO _ _ m hi G4 rfl rfl
   subst this
   rw[hi]at G4;cases G4;rfl
  .obtain ⟨z,bL⟩:=gy.1 W
   have G5:xU acc n=false:=by
    unfold xU
    split
    .rename_i m hm;exact absurd hm (A m)
    .rfl
   have:=(qT (cA n) (cg.2 ⟨(n,some z),gH.2 ⟨ri bL,by simp[G5]⟩,rfl⟩)).1
   by_cases Y:dN (aH s.T) acc.de (cA n)=none
   .exact Y
   .exact absurd this ((aaB _).2 Y)
  .rw [TN n u,TN b7 C]at e;exact KV e
 have xr:∀x y,x∈s1.B->y∈s1.B->cP x.1=cP y.1->x.1=y.1:=fun x y U hy h=>GA.N8 ((M x.1).2 (cg.2 ⟨x,U,rfl⟩)) ((M y.1).2 (cg.2 ⟨y,hy,rfl⟩)) h
 have fa:∀x,x∈s1.T->aH s1.T x.1≠none:=fun x U=>by
  rw[yA JK x.1 x.2 U]
  intro bL
  have:=SB x U
  rw[bL]at this;cases this
 have uV:∀x y,x∈s1.T->y∈s1.T->cA x.1=cA y.1->x.1=y.1:=fun x y U hy h=>GA.HA (fa x U) (fa y hy) h
 obtain⟨V,O⟩:∃l:List (Nat×cm),l=s1.B.map fun x=>(cP x.1,(⟨x.2.cu,au.kj cP cA x.2.cs⟩:cm)):=⟨_,rfl⟩
 obtain⟨I,G⟩:∃l:List (Nat×Option bc),l=s1.T.map fun x=>(cA x.1,x.2):=⟨_,rfl⟩
 rw[<-O,<-G]at he
 have aoB:(V.map (·.1)).Nodup:=by
  rw[O,show(s1.B.map fun x=>(cP x.1,(⟨x.2.cu,au.kj cP cA x.2.cs⟩:cm))).map (·.1)=(s1.B.map (·.1)).map cP from by simp]
  refine Dv (fun x y U hy h=>?_) Sz
  obtain⟨gm,k8,rfl⟩:=cg.1 U
  obtain⟨hD,oD,rfl⟩:=cg.1 hy
  exact xr gm hD k8 oD h
 have aoC:(I.map (·.1)).Nodup:=by
  rw[G,show(s1.T.map fun x=>(cA x.1,x.2)).map (·.1)=(s1.T.map (·.1)).map cA from by simp]
  refine Dv (fun x y U hy h=>?_) JK
  obtain⟨gm,k8,rfl⟩:=cg.1 U
  obtain⟨hD,oD,rfl⟩:=cg.1 hy
  exact uV gm hD k8 oD h
 have Nh:∀k,e.updB (aZ s.B) k=match aZ V k with|some b=>some b|none=>fO (aZ s.B) acc.dF k:=fun k=>by
  rw[he]
  simp only[bP.updB,hW]
  rw[ML V _ aoB]
  cases aZ V k with
  |some b=>rfl
  |none=>
   simp only
   rw[MM B (aZ s.B) il acc.dF _ (fun k p=>by have:=aoM k p;simpa[Option.isSome_iff_ne_none]using this)]
   unfold fO
   by_cases J:k∈acc.dF
   .rw [ai J];cases aZ s.B k<;>simp[J]
   .rw [aC J];cases aZ s.B k<;>simp[J]
 have Z:∀t,e.updT (aH s.T) t=if t∈I.map (·.1)then aH I t else if t∈acc.rt.filterMap (·.2)then some .ej else dN (aH s.T) acc.de t:=fun t=>by
  rw[he]
  simp only[bP.updT,hW]
  rw[MO I _ aoC,Ex]
  by_cases u:t∈I.map (·.1)
  .rw [ai u,ai u]
  .rw [aC u,aC u]
   unfold eS
   by_cases C:t∈acc.rt.filterMap (·.2)
   .rw [ai C,ai C]
   .rw [aC C,aC C,MN T (aH s.T) dJ acc.de _ (fun n W=>aoN n W)]
    by_cases bD:t∈acc.de
    .rw [ai bD]
    .rw [aC bD]
     unfold dN
     split
     .rename_i aa nr;rw[nr];simp[bD]
     .rfl
 have anz:∀k,k∈V.map (·.1)->∃j,aZ s1.B j≠none/\cP j=k:=fun k p=>by
  rw[O]at p
  obtain⟨y,hy,rfl⟩:=cg.1 p
  obtain⟨x,U,rfl⟩:=cg.1 hy
  exact⟨x.1,(M x.1).2 (cg.2 ⟨x,U,rfl⟩),rfl⟩
 have RT:∀k,k∈I.map (·.1)->∃j,aH s1.T j≠none/\cA j=k:=fun k p=>by
  rw[G]at p
  obtain⟨y,hy,rfl⟩:=cg.1 p
  obtain⟨x,U,rfl⟩:=cg.1 hy
  exact⟨x.1,fa x U,rfl⟩
 obtain⟨VV,wD,pk,uK,AK,AG,xe,Z4,Z5⟩:=WZ je GA ni (e.updB (aZ s.B)) (e.updT (aH s.T)) (fun k p=>by
   rw[Nh,O,Sb (g:=fun b=>⟨b.cu,au.kj cP cA b.cs⟩) xr ((M k).1 p)]
   obtain⟨b,av⟩:=gy.1 p
   rw[av];rfl) (fun k A=>by
   rw[Nh,aoa (fun p=>by obtain⟨j,u,C⟩:=anz k p;exact A j u C)]) (fun n W=>by
   have u:=anA n W
   rw[Z,ai (by rw[G,show(s1.T.map fun x=>(cA x.1,x.2)).map (·.1)=(s1.T.map (·.1)).map cA from by simp];exact cg.2 ⟨n,u,rfl⟩),G,Se uV u]) (fun t A av=>by
   obtain⟨n,av⟩:=av
   rw[Z,aC (fun p=>by obtain⟨j,u,C⟩:=RT t p;exact A j u C),ai (Sn.2 ⟨n,mL av⟩)]) (fun t A av=>by
   rw[Z,aC (fun p=>by obtain⟨j,u,C⟩:=RT t p;exact A j u C),aC (fun p=>by obtain⟨n,u⟩:=Sn.1 p;exact av ⟨n,rh hinv.rt.1 n _ u⟩)]) (fun k p A=>by
   obtain⟨b,av⟩:=gy.1 p
   exact e3.oc (A0 (cP k) (cg.2 ⟨(k,b),gH.2 ⟨oP av,by simp[A]⟩,rfl⟩)).2) (fun n W A=>by
   obtain⟨z,bL⟩:=gy.1 W
   have G5:xU acc n=false:=by
    unfold xU
    split
    .rename_i m hm;exact absurd hm (A m)
    .rfl
   exact e3.gw (qT (cA n) (cg.2 ⟨(n,some z),gH.2 ⟨ri bL,by simp[G5]⟩,rfl⟩)).2) (fun n m u _=>xh n _ (mL u)) uO (by rw[sv];exact JD _ _) (fun k p=>by
   obtain⟨b,av⟩:=gy.1 p
   have:=JL (k,b) (oP av)
   rw[H]
   simpa using this)
 have xx:∀i,bp ⟨ev,ga,fun k=>e.updB (aZ s.B) k≠none,VV,e.updT (aH s.T),wD⟩ (dU s.L i) (a.tmps.getD i undef):=fun i=>by
  have u:=bp.mono (c:=s.ctx w S β τ) (c':=⟨w,S',fun k=>fO (aZ s.B) acc.dF k≠none,β,dN (aH s.T) acc.de,τ⟩) ⟨ox,fun _ _ _=>rfl⟩ (fun k p=>⟨(Ni k).1 p,rfl⟩) (fun t az=>by
   obtain⟨u,C⟩:=MU (w:=w) (S:=S) (S':=S') (live:=fun _=>True) (β:=β) (τ:=τ) (aH s.T) acc.de t az
   exact⟨u,C⟩) (gh i)
  exact bp.mono AK AG xe u
 refine dP _ _ (ki (s:=s) (e:=e) uK W gA xx o.dst ?_)
 cases bd:o.dst with
 |none=>exact .inl rfl
 |some d=>
  right
  have cV:e.val=v0.tp cP cA:=by rw[he];simp[bd]
  rw[cV]
  exact aqh (c:=s1.ctx ev ga Lb qo) (c':=⟨ev,ga,fun k=>e.updB (aZ s.B) k≠none,VV,e.updT (aH s.T),wD⟩) rfl rfl (fun k p=>Z4 k p) (fun n W=>Z5 n W) (fun k p=>by
   obtain⟨b,av⟩:=gy.1 p
   have:=JL (k,b) (oP av)
   rw[H]
   simpa using this) Hq
end
end Go.Proofs.YtnkagklajgimlaaGreatDoor
