import Derived.Test.YtkglkigmdmohkaaGreatDoorG1
import Derived.Test.YtkglkigmdmohkaaGreatDoorQ1
set_option linter.unusedVariables false
set_option linter.unusedSimpArgs false
namespace Go.Proofs.YtkglkigmdmohkaaGreatDoor
open Go.RowKit
section
variable {α γ ρ : Type} (c : γ -> α -> α -> Option Int)
end
section
variable {α γ ρ : Type} {c : γ -> α -> α -> Option Int} {lt : α -> α -> Bool} {ks : γ}
structure WOrd (lt:α->α->Bool):Prop where
 asym:∀x y,lt x y=true->lt y x=false
 ntr:∀x y z,lt y x=false->lt z y=false->lt z x=false
structure WComp (c:γ->α->α->Option Int) (ks:γ) (lt:α->α->Bool) (d:List α):Prop where
 cmp:∀x,x∈d->∀y,y∈d->Def (c ks x y) fun r=>decide (r<0)=lt x y
theorem WComp.perm {d d':List α} (h:WComp c ks lt d) (hp:d'.Perm d):WComp c ks lt d':=
 ⟨fun x hx y hy=>h.cmp x (hp.mem_iff.1 hx) y (hp.mem_iff.1 hy)⟩
def ltO (lt:α->α->Bool):Option α->Option α->Prop
 |some x,some y=>lt x y=true
 |_,_=>False
def leO (lt:α->α->Bool):Option α->Option α->Prop
 |some x,some y=>lt y x=false
 |_,_=>False
theorem leO.trans (ho:WOrd lt) {x y z:Option α} (h1:leO lt x y) (h2:leO lt y z):leO lt x z:=by
 cases x<;>cases y<;>cases z<;>first|exact h1.elim|exact h2.elim|exact ho.ntr _ _ _ h1 h2
theorem ltO.le (ho:WOrd lt) {x y:Option α} (h1:ltO lt x y):leO lt x y:=by
 cases x<;>cases y<;>first|exact h1.elim|exact ho.asym _ _ h1
theorem ltO.not_le {x y:Option α} (h1:ltO lt x y) (h2:leO lt y x):False:=by
 cases x<;>cases y<;>first|exact h1.elim|exact h2.elim|skip
 have e1:lt _ _=true:=h1
 have e2:lt _ _=false:=h2
 rw[e1]at e2;cases e2
theorem WComp.other {d:List α} (h:WComp c ks lt d) {i j:Nat} (hi:i<d.length) (hj:j<d.length) (hij:i≠j) (hn:¬ltO lt d[i]? d[j]?):leO lt d[j]? d[i]? :=by
 rw[zc hi,zc hj]at*
 show lt d[i] d[j]=false
 cases e:lt d[i] d[j]
 .rfl
 .exact absurd e hn
def OrdS (lt:α->α->Bool) (d:List α) (a b:Nat):Prop:=∀m n,a<=m->m<n->n<b->leO lt d[m]? d[n]?
structure Seg (a b:Nat) (d d':List α):Prop where
 perm:d'.Perm d
 out:∀m,m<a\/b<=m->d'[m]? =d[m]?
 inn:∀m,a<=m->m<b->∃n,a<=n/\n<b/\d'[m]? =d[n]?
theorem Seg.refl (a b:Nat) (d:List α):Seg a b d d:=⟨List.Perm.refl _,fun _ _=>rfl,fun m h1 h2=>⟨m,h1,h2,rfl⟩⟩
theorem Seg.trans {a b:Nat} {d e f:List α} (h1:Seg a b d e) (h2:Seg a b e f):Seg a b d f:=
 ⟨h2.perm.trans h1.perm,fun m hm=>(h2.out m hm).trans (h1.out m hm),fun m g1 g2=>by
  obtain⟨n,n1,n2,n3⟩:=h2.inn m g1 g2
  obtain⟨k,k1,k2,k3⟩:=h1.inn n n1 n2
  exact⟨k,k1,k2,n3.trans k3⟩⟩
theorem Seg.mono {a b a' b':Nat} {d e:List α} (h:Seg a b d e) (ha:a'<=a) (hb:b<=b'):Seg a' b' d e:=
 ⟨h.perm,fun m hm=>h.out m (by omega),fun m g1 g2=>by
  by_cases e:a<=m/\m<b
  .obtain ⟨n,n1,n2,n3⟩:=h.inn m e.1 e.2
   exact⟨n,by omega,by omega,n3⟩
  .exact ⟨m,g1,g2,h.out m (by omega)⟩⟩
theorem Seg.len {a b:Nat} {d e:List α} (h:Seg a b d e):e.length=d.length:=h.perm.length_eq
structure Swp (i j:Nat) (d d':List α):Prop where
 perm:d'.Perm d
 at':∀m,d'[m]? =if m=j then d[i]? else if m=i then d[j]? else d[m]?
theorem Swp.seg {i j a b:Nat} {d d':List α} (h:Swp i j d d') (i1:a<=i) (i2:i<b) (j1:a<=j) (j2:j<b):Seg a b d d':=by
 refine⟨h.perm,fun m hm=>?_,fun m g1 g2=>?_⟩
 .rw [h.at',zu (by omega),zu (by omega)]
 .rw [h.at']
  by_cases e:m=j
  .rw [zf e];exact⟨i,i1,i2,rfl⟩
  .rw [zu e]
   by_cases e2:m=i
   .rw [zf e2];exact⟨j,j1,j2,rfl⟩
   .rw [zu e2];exact⟨m,g1,g2,rfl⟩
theorem swp_mk {d:List α} {i j:Nat} (hi:i<d.length) (hj:j<d.length):Swp i j d ((d.set i d[j]).set j d[i]):=by
 refine⟨List.set_set_perm hi hj,fun m=>?_⟩
 rw[zbm,zbm,List.length_set]
 by_cases e:m=j
 .subst e
  rw[zf rfl,zf hj,zf rfl,zc hi]
 .rw [zu (fun h=>e h.symm),zu e]
  by_cases e2:m=i
  .subst e2
   rw[zf rfl,zf hi,zf rfl,zc hj]
  .rw [zu (fun h=>e2 h.symm),zu e2]
theorem swp_def {d:List α} {i j:Nat} (hi:i<d.length) (hj:j<d.length) {k:List α->Option ρ} {P:ρ->Prop} (h:∀d',Swp i j d d'->Def (k d') P):Def (swpG d (i:Int) (j:Int) k) P:=by
 unfold swpG
 simp only[zai,List.length_set]
 rw[zf ⟨by omega,by omega⟩,zc hj,za,zf ⟨by omega,by omega⟩,zc hi,za,zf ⟨by omega,by omega⟩,za,zf ⟨by omega,by omega⟩,
  zc (by rw[List.length_set];exact hj),za]
 exact h _ (swp_mk hi hj)
theorem cmp2_def {d:List α} (hC:WComp c ks lt d) {i j:Nat} (hi:i<d.length) (hj:j<d.length) {k:Int->Option ρ} {P:ρ->Prop}
  (h1:ltO lt d[i]? d[j]? ->∀r,decide (r<0)=true->Def (k r) P) (h2:¬ltO lt d[i]? d[j]? ->∀r,decide (r<0)=false->Def (k r) P):Def (Option.bind (c ks d[i] d[j]) k) P:=by
 rw[zc hi,zc hj]at*
 refine Def.bind (hC.cmp _ (zr hi) _ (zr hj)) fun r hr=>?_
 by_cases e:lt d[i] d[j]=true
 .exact h1 e r (hr.trans e)
 .exact h2 e r (hr.trans (by simpa using e))
theorem cmpG_def {d:List α} (hC:WComp c ks lt d) {i j:Nat} (hi:i<d.length) (hj:j<d.length) {k:Int->Option ρ} {P:ρ->Prop}
  (h1:ltO lt d[i]? d[j]? ->∀r,decide (r<0)=true->Def (k r) P) (h2:¬ltO lt d[i]? d[j]? ->∀r,decide (r<0)=false->Def (k r) P):Def (cmpG c ks d (i:Int) (j:Int) k) P:=by
 unfold cmpG
 rw[zai,zai,zf ⟨by omega,by omega⟩,zc hi,za,zf ⟨by omega,by omega⟩,zc hj,za]
 exact cmp2_def hC hi hj h1 h2
theorem cmpP_def {d:List α} (hC:WComp c ks lt d) {j:Nat} (hj:j+1<d.length) (hl:d.length<=1099511627776) {k:Int->Option ρ} {P:ρ->Prop}
  (h1:ltO lt d[j+1]? d[j]? ->∀r,decide (r<0)=true->Def (k r) P) (h2:¬ltO lt d[j+1]? d[j]? ->∀r,decide (r<0)=false->Def (k r) P):Def (cmpP c ks d ((j+1:Nat):Int) k) P:=by
 have hj':j<d.length:=by omega
 unfold cmpP
 rw[show(((j+1:Nat):Int)-1)=(j:Int)from by omega,zai,zai,zf ⟨by omega,by omega⟩,zc hj,za,zf (by unfold fits;omega),zf ⟨by omega,by omega⟩,zc hj',za]
 exact cmp2_def hC hj hj' h1 h2
theorem swpP_def {d:List α} {j:Nat} (hj:j+1<d.length) (hl:d.length<=1099511627776) {k:List α->Option ρ} {P:ρ->Prop} (h:∀d',Swp (j+1) j d d'->Def (k d') P):Def (swpP d ((j+1:Nat):Int) k) P:=by
 unfold swpP
 refine Def.ite (by unfold fits;omega) (Def.ite (by unfold fits;omega) ?_)
 rw[show(((j+1:Nat):Int)-1)=(j:Int)from by omega]
 exact swp_def hj (by omega) h
theorem ins_def (ho:WOrd lt) (N:Nat) {d:List α} {a b:Nat} (hC:WComp c ks lt d) (hab:a<=b) (hb:b<=d.length) (hl:d.length<N) (hN:N<=1099511627776):
  Def (insG c N d (a:Int) (b:Int) ks) fun r=>Seg a b d r/\OrdS lt r a b:=by
 unfold insG
 refine Def.ite (fits_nat (n:=a) (by omega)) ?_
 refine Def.iter (fun g=>∃d':List α,∃i:Nat,a+1<=i/\(i<=b\/i=a+1)/\Seg a b d d'/\OrdS lt d' a i/\g=(d',(a:Int),(b:Int),ks,(i:Int))) (fun g=>b-g.2.2.2.2.toNat) ?_ N _
  ⟨d,a+1,zae _,.inr rfl,Seg.refl _ _ _,(fun m n h1 h2 h3=>by omega),by rw[cast_succ']⟩ (by show b-_<N;omega)
 rintro go _ ⟨d',i,h1,h2,hs,hA,rfl⟩ hgo
 dsimp only
 have hdl:=hs.len
 refine Def.dif (fun e=>?_) (fun e=>Def.ret ⟨hs,fun m n g1 g2 g3=>hA m n g1 g2 (by omega)⟩)
 refine Def.iter (fun g=>∃d':List α,∃j:Nat,a<=j/\j<=i/\Seg a b d d'/\(∀m n,a<=m->m<n->n<=i->n≠j->leO lt d'[m]? d'[n]?)/\g=(d',(a:Int),(b:Int),ks,(i:Int),(j:Int))) (fun g=>g.2.2.2.2.2.toNat) ?_ N _
  ⟨d',i,by omega,zae _,hs,(fun m n g1 g2 g3 g4=>hA m n g1 g2 (by omega)),rfl⟩ (by show((i:Int)).toNat<N;omega)
 rintro go2 _ ⟨d',j,j1,j2,hs,hA,rfl⟩ hgo2
 dsimp only
 have hdl:=hs.len
 have hC':=hC.perm hs.perm
 have stop:(∀m,a<=m->m<j->leO lt d'[m]? d'[j]?)->Def (if fits ((i:Int)+1)then go (d',(a:Int),(b:Int),ks,(i:Int)+1)else none) fun r=>Seg a b d r/\OrdS lt r a b:=fun hj=>by
  refine Def.ite (fits_nat (n:=i) (by omega)) (hgo _ ⟨d',i+1,by omega,.inl (by omega),hs,fun m n g1 g2 g3=>?_,by rw[cast_succ']⟩ (by show b-((i:Int)+1).toNat<b-((i:Int)).toNat;omega))
  by_cases e:n=j
  .subst e;exact hj m g1 g2
  .exact hA m n g1 g2 (by omega) e
 refine Def.dif (fun e2=>?_) (fun e2=>stop fun m g1 g2=>by omega)
 obtain⟨k,rfl⟩:∃k,j=k+1:=⟨j-1,by omega⟩
 refine cmpP_def hC' (by omega) (by omega) (fun hlt r hr=>?_) (fun hlt r hr=>?_)
 .rw [hr,zg]
  refine swpP_def (by omega) (by omega) fun d2 hw=>Def.ite (by unfold fits;omega) (hgo2 _ ⟨d2,k,by omega,by omega,hs.trans (hw.seg (by omega) (by omega) (by omega) (by omega)),fun m n g1 g2 g3 g4=>?_,by rw[show(((k+1:Nat):Int)-1)=(k:Int)from by omega]⟩ ?_)
  .rw [hw.at',hw.at']
   by_cases m1:m=k
   .subst m1
    rw[zf rfl,zu g4]
    by_cases n1:n=m+1
    .subst n1;rw[zf rfl];exact hlt.le ho
    .rw [zu n1];exact hA (m+1) n (by omega) (by omega) g3 n1
   .rw [zu m1,zu g4]
    by_cases m2:m=k+1
    .subst m2
     rw[zf rfl,zu (by omega)]
     exact hA k n (by omega) (by omega) g3 (by omega)
    .rw [zu m2]
     by_cases n1:n=k+1
     .subst n1;rw[zf rfl];exact hA m k g1 (by omega) (by omega) (by omega)
     .rw [zu n1];exact hA m n g1 g2 g3 n1
  .show (((k+1:Nat):Int)-1).toNat<((k+1:Nat):Int).toNat
   omega
 .rw [hr,ze]
  have h3:=hC'.other (by omega) (by omega) (by omega) hlt
  refine stop fun m g1 g2=>?_
  by_cases e3:m=k
  .subst e3;exact h3
  .exact (hA m k g1 (by omega) (by omega) (by omega)).trans ho h3
structure Split (lt:α->α->Bool) (a b:Nat) (d:List α) (i j:Nat):Prop where
 i1:a<i
 ij:i<=j+1
 jb:j<b
 bl:b<=d.length
 low:∀m,a<m->m<i->leO lt d[m]? d[a]?
 high:∀m,j<m->m<b->leO lt d[a]? d[m]?
theorem partU_def (ho:WOrd lt) (N:Nat) {d:List α} {a b i j:Nat} (hC:WComp c ks lt d) (h:Split lt a b d i j) (hl:d.length<N) (hN:N<=1099511627776) {k:(List α×Int×γ×Int×Int)->Option ρ} {P:ρ->Prop}
  (hk:∀i',i<=i'->Split lt a b d i' j->(i'<=j->¬ltO lt d[i']? d[a]?)->Def (k (d,(a:Int),ks,(i':Int),(j:Int))) P):Def (partU c k N (d,(a:Int),ks,(i:Int),(j:Int))) P:=by
 unfold partU
 have:=h.jb;have:=h.bl;have:=h.ij
 refine Def.iter (fun g=>∃i':Nat,i<=i'/\Split lt a b d i' j/\g=(d,(a:Int),ks,(i':Int),(j:Int))) (fun g=>j+1-g.2.2.2.1.toNat) ?_ N _ ⟨i,zae _,h,rfl⟩ (by show j+1-((i:Int)).toNat<N;omega)
 rintro go _ ⟨i',hi,hs,rfl⟩ hgo
 dsimp only
 have hi1:=hs.i1
 refine Def.dif (fun e=>?_) (fun e=>hk i' hi hs (fun h=>by omega))
 refine cmpG_def hC (by omega) (by omega) (fun hlt r hr=>?_) (fun hlt r hr=>?_)
 .rw [hr,zg]
  refine Def.ite (fits_nat (n:=i') (by omega)) (hgo _ ⟨i'+1,by omega,⟨by omega,by omega,hs.jb,hs.bl,fun m g1 g2=>?_,hs.high⟩,by rw[cast_succ']⟩ (by show j+1-((i':Int)+1).toNat<j+1-((i':Int)).toNat;omega))
  by_cases e2:m=i'
  .subst e2;exact hlt.le ho
  .exact hs.low m g1 (by omega)
 .rw [hr,ze]
  exact hk i' hi hs (fun _=>hlt)
theorem partD_def (N:Nat) {d:List α} {a b i j:Nat} (hC:WComp c ks lt d) (h:Split lt a b d i j) (hl:d.length<N) (hN:N<=1099511627776) {k:(List α×Int×γ×Int×Int)->Option ρ} {P:ρ->Prop}
  (hk:∀j',j'<=j->Split lt a b d i j'->(i<=j'->ltO lt d[j']? d[a]?)->Def (k (d,(a:Int),ks,(i:Int),(j':Int))) P):Def (partD c k N (d,(a:Int),ks,(i:Int),(j:Int))) P:=by
 unfold partD
 have:=h.jb;have:=h.bl;have:=h.ij;have hi1:=h.i1
 refine Def.iter (fun g=>∃j':Nat,j'<=j/\Split lt a b d i j'/\g=(d,(a:Int),ks,(i:Int),(j':Int))) (fun g=>g.2.2.2.2.toNat) ?_ N _ ⟨j,zae _,h,rfl⟩ (by show((j:Int)).toNat<N;omega)
 rintro go _ ⟨j',hj,hs,rfl⟩ hgo
 dsimp only
 refine Def.dif (fun e=>?_) (fun e=>hk j' hj hs (fun h=>by omega))
 refine cmpG_def hC (by omega) (by omega) (fun hlt r hr=>?_) (fun hlt r hr=>?_)
 .rw [hr,zn,ze]
  exact hk j' hj hs (fun _=>hlt)
 .rw [hr,zaI,zg]
  obtain⟨q,rfl⟩:∃q,j'=q+1:=⟨j'-1,by omega⟩
  have h3:=hC.other (by omega) (by omega) (by omega) hlt
  refine Def.ite (by unfold fits;omega) (hgo _ ⟨q,by omega,⟨hs.i1,by omega,by omega,hs.bl,hs.low,fun m g1 g2=>?_⟩,by rw[show(((q+1:Nat):Int)-1)=(q:Int)from by omega]⟩ (by show(((q+1:Nat):Int)-1).toNat<((q+1:Nat):Int).toNat;omega))
  by_cases e2:m=q+1
  .subst e2;exact h3
  .exact hs.high m (by omega) g2
structure Cloven (lt:α->α->Bool) (a b k:Nat) (d:List α):Prop where
 ak:a<=k
 kb:k<b
 low:∀m,a<=m->m<k->leO lt d[m]? d[k]?
 high:∀m,k<m->m<b->leO lt d[k]? d[m]?
theorem partE_def {d:List α} {a b i j:Nat} (ho:WOrd lt) (hC:WComp c ks lt d) (h:Split lt a b d i j) (h1:i<=j->¬ltO lt d[i]? d[a]?) (h2:i<=j->ltO lt d[j]? d[a]?) (hl:d.length<=1099511627776)
  {go3:(List α×Int×γ×Int×Int)->Option (Int×Bool×List α)} {fl:Bool} {P:(Int×Bool×List α)->Prop}
  (hend:∀d',Seg a b d d'->Cloven lt a b j d'->P ((j:Int),fl,d')) (hgo:∀d' j',j'+2<=j+1->i<j->Seg a b d d'->Split lt a b d' (i+1) j'->Def (go3 (d',(a:Int),ks,((i+1:Nat):Int),(j':Int))) P):
  Def (partE go3 fl (d,(a:Int),ks,(i:Int),(j:Int))) P:=by
 unfold partE
 dsimp only
 have hi1:=h.i1;have hij:=h.ij;have hjb:=h.jb;have hbl:=h.bl
 refine Def.dif (fun e=>?_) (fun e=>?_)
 .refine swp_def (by omega) (by omega) fun d' hw=>Def.ret (hend d' (hw.seg (by omega) (by omega) (by omega) (by omega)) ⟨by omega,hjb,fun m g1 g2=>?_,fun m g1 g2=>?_⟩)
  .rw [hw.at' m,hw.at' j]
   by_cases e1:m=a
   .subst e1
    rw[zf rfl,zu (by omega),zf rfl]
    exact h.low j (by omega) (by omega)
   .rw [zu e1,zu (by omega)]
    by_cases e2:j=a
    .omega
    .rw [zu e2,zf rfl];exact h.low m (by omega) (by omega)
  .rw [hw.at' m,zu (by omega:¬m=a),zu (by omega:¬m=j),hw.at' j]
   by_cases e2:j=a
   .subst e2;rw[zf rfl];exact h.high m g1 g2
   .rw [zu e2,zf rfl];exact h.high m g1 g2
 .have hij2:i<=j:=by omega
  have hne:i≠j:=by
   rintro rfl
   exact h1 hij2 (h2 hij2)
  obtain⟨q,rfl⟩:∃q,j=q+1:=⟨j-1,by omega⟩
  refine swp_def (by omega) (by omega) fun d' hw=>Def.ite (fits_nat (n:=i) (by omega)) (Def.ite (by unfold fits;omega) ?_)
  rw[<-cast_succ',show(((q+1:Nat):Int)-1)=(q:Int)from by omega]
  have hdl:=hw.perm.length_eq
  have ha:d'[a]? =d[a]? :=by rw[hw.at',zu (by omega),zu (by omega)]
  refine hgo d' q (by omega) (by omega) (hw.seg (by omega) (by omega) (by omega) (by omega)) ⟨by omega,by omega,by omega,by omega,fun m g1 g2=>?_,fun m g1 g2=>?_⟩
  .rw [ha,hw.at' m,zu (by omega)]
   by_cases e1:m=i
   .rw [zf e1];exact(h2 hij2).le ho
   .rw [zu e1];exact h.low m g1 (by omega)
  .rw [ha,hw.at' m]
   by_cases e1:m=q+1
   .rw [zf e1]
    exact hC.other (by omega) (by omega) (by omega) (h1 hij2)
   .rw [zu e1,zu (by omega)];exact h.high m (by omega) g2
theorem part_def (ho:WOrd lt) (N:Nat) {d:List α} {a b p:Nat} (hC:WComp c ks lt d) (hap:a<=p) (hpb:p<b) (hb:b<=d.length) (hl:d.length<N) (hN:N<=1099511627776):
  Def (partG c N d (a:Int) (b:Int) (p:Int) ks) fun r=>∃k:Nat,r.1=(k:Int)/\Seg a b d r.2.2/\Cloven lt a b k r.2.2:=by
 unfold partG
 refine swp_def (by omega) (by omega) fun d1 hw1=>Def.ite (fits_nat (n:=a) (by omega)) (Def.ite (by unfold fits;omega) ?_)
 have hs1:=hw1.seg (a:=a) (b:=b) (by omega) (by omega) hap hpb
 have hC1:=hC.perm hs1.perm
 have hd1:=hs1.len
 obtain⟨q,rfl⟩:∃q,b=q+1:=⟨b-1,by omega⟩
 rw[<-cast_succ',show(((q+1:Nat):Int)-1)=(q:Int)from by omega]
 have h1:Split lt a (q+1) d1 (a+1) q:=⟨by omega,by omega,by omega,by omega,fun m g1 g2=>by omega,fun m g1 g2=>by omega⟩
 refine partU_def ho N hC1 h1 (by omega) hN fun i hi hS hn=>?_
 refine partD_def N hC1 hS (by omega) hN fun j hj hS2 hn2=>?_
 refine partE_def ho hC1 hS2 (fun e=>hn (by omega)) hn2 (by omega) (fun d' g1 g2=>⟨j,rfl,hs1.trans g1,g2⟩) fun d2 j2 gj _ gs gS=>?_
 have hjb:=hS2.jb
 refine Def.iter (fun g=>∃d':List α,∃i j:Nat,Seg a (q+1) d d'/\Split lt a (q+1) d' i j/\g=(d',(a:Int),ks,(i:Int),(j:Int))) (fun g=>g.2.2.2.2.toNat) ?_ N _ ⟨d2,i+1,j2,hs1.trans gs,gS,rfl⟩ (by show((j2:Int)).toNat<N;omega)
 rintro go _ ⟨d',i,j,hs,hS,rfl⟩ hgo
 have hC':=hC.perm hs.perm
 have hdl:=hs.len
 refine partU_def ho N hC' hS (by omega) hN fun i' hi' hS' hn'=>?_
 refine partD_def N hC' hS' (by omega) hN fun j' hj' hS2' hn2'=>?_
 refine partE_def ho hC' hS2' (fun e=>hn' (by omega)) hn2' (by omega) (fun d' g1 g2=>⟨j',rfl,hs.trans g1,g2⟩) fun d2 j2 gj gij gs gS=>?_
 exact hgo _ ⟨d2,i'+1,j2,hs.trans gs,gS,rfl⟩ (by show((j2:Int)).toNat<((j:Int)).toNat;omega)
structure Alike (lt:α->α->Bool) (a b:Nat) (d:List α) (i j:Nat):Prop where
 i1:a<i
 ij:i<=j+1
 jb:j<b
 bl:b<=d.length
 low:∀m,a<m->m<i->leO lt d[m]? d[a]?
theorem peqU_def (N:Nat) {d:List α} {a b i j:Nat} (hC:WComp c ks lt d) (h:Alike lt a b d i j) (hl:d.length<N) (hN:N<=1099511627776) {k:(List α×Int×γ×Int×Int)->Option ρ} {P:ρ->Prop}
  (hk:∀i',i<=i'->Alike lt a b d i' j->(i'<=j->ltO lt d[a]? d[i']?)->Def (k (d,(a:Int),ks,(i':Int),(j:Int))) P):Def (peqU c k N (d,(a:Int),ks,(i:Int),(j:Int))) P:=by
 unfold peqU
 have:=h.jb;have:=h.bl;have:=h.ij
 refine Def.iter (fun g=>∃i':Nat,i<=i'/\Alike lt a b d i' j/\g=(d,(a:Int),ks,(i':Int),(j:Int))) (fun g=>j+1-g.2.2.2.1.toNat) ?_ N _ ⟨i,zae _,h,rfl⟩ (by show j+1-((i:Int)).toNat<N;omega)
 rintro go _ ⟨i',hi,hs,rfl⟩ hgo
 dsimp only
 have hi1:=hs.i1
 refine Def.dif (fun e=>?_) (fun e=>hk i' hi hs (fun h=>by omega))
 refine cmpG_def hC (by omega) (by omega) (fun hlt r hr=>?_) (fun hlt r hr=>?_)
 .rw [hr,zn,ze]
  exact hk i' hi hs (fun _=>hlt)
 .rw [hr,zaI,zg]
  have h3:=hC.other (by omega) (by omega) (by omega) hlt
  refine Def.ite (fits_nat (n:=i') (by omega)) (hgo _ ⟨i'+1,by omega,⟨by omega,by omega,hs.jb,hs.bl,fun m g1 g2=>?_⟩,by rw[cast_succ']⟩ (by show j+1-((i':Int)+1).toNat<j+1-((i':Int)).toNat;omega))
  by_cases e2:m=i'
  .subst e2;exact h3
  .exact hs.low m g1 (by omega)
theorem peqD_def (N:Nat) {d:List α} {a b i j:Nat} (hC:WComp c ks lt d) (h:Alike lt a b d i j) (hl:d.length<N) (hN:N<=1099511627776) {k:(List α×Int×γ×Int×Int)->Option ρ} {P:ρ->Prop}
  (hk:∀j',j'<=j->Alike lt a b d i j'->(i<=j'->¬ltO lt d[a]? d[j']?)->Def (k (d,(a:Int),ks,(i:Int),(j':Int))) P):Def (peqD c k N (d,(a:Int),ks,(i:Int),(j:Int))) P:=by
 unfold peqD
 have:=h.jb;have:=h.bl;have:=h.ij;have hi1:=h.i1
 refine Def.iter (fun g=>∃j':Nat,j'<=j/\Alike lt a b d i j'/\g=(d,(a:Int),ks,(i:Int),(j':Int))) (fun g=>g.2.2.2.2.toNat) ?_ N _ ⟨j,zae _,h,rfl⟩ (by show((j:Int)).toNat<N;omega)
 rintro go _ ⟨j',hj,hs,rfl⟩ hgo
 dsimp only
 refine Def.dif (fun e=>?_) (fun e=>hk j' hj hs (fun h=>by omega))
 refine cmpG_def hC (by omega) (by omega) (fun hlt r hr=>?_) (fun hlt r hr=>?_)
 .rw [hr,zg]
  obtain⟨q,rfl⟩:∃q,j'=q+1:=⟨j'-1,by omega⟩
  refine Def.ite (by unfold fits;omega) (hgo _ ⟨q,by omega,⟨hs.i1,by omega,by omega,hs.bl,hs.low⟩,by rw[show(((q+1:Nat):Int)-1)=(q:Int)from by omega]⟩ (by show(((q+1:Nat):Int)-1).toNat<((q+1:Nat):Int).toNat;omega))
 .rw [hr,ze]
  exact hk j' hj hs (fun _=>hlt)
theorem peq_def (N:Nat) {d:List α} {a b p:Nat} (hC:WComp c ks lt d) (hap:a<=p) (hpb:p<b) (hb:b<=d.length) (hl:d.length<N) (hN:N<=1099511627776):
  Def (peqG c N d (a:Int) (b:Int) (p:Int) ks) fun r=>∃k:Nat,r.1=(k:Int)/\a<k/\k<=b/\Seg a b d r.2/\r.2[a]? =d[p]? /\∀m,a<m->m<k->leO lt r.2[m]? d[p]? :=by
 unfold peqG
 refine swp_def (by omega) (by omega) fun d1 hw1=>Def.ite (fits_nat (n:=a) (by omega)) (Def.ite (by unfold fits;omega) ?_)
 have hs1:=hw1.seg (a:=a) (b:=b) (by omega) (by omega) hap hpb
 have hd1:=hs1.len
 have ha1:d1[a]? =d[p]? :=by
  rw[hw1.at']
  by_cases e:a=p
  .subst e;rw[zf rfl]
  .rw [zu e,zf rfl]
 obtain⟨q,rfl⟩:∃q,b=q+1:=⟨b-1,by omega⟩
 rw[<-cast_succ',show(((q+1:Nat):Int)-1)=(q:Int)from by omega]
 have h1:Alike lt a (q+1) d1 (a+1) q:=⟨by omega,by omega,by omega,by omega,fun m g1 g2=>by omega⟩
 refine Def.iter (fun g=>∃d':List α,∃i j:Nat,Seg a (q+1) d d'/\d'[a]? =d[p]? /\Alike lt a (q+1) d' i j/\g=(d',(a:Int),ks,(i:Int),(j:Int))) (fun g=>g.2.2.2.2.toNat) ?_ N _ ⟨d1,a+1,q,hs1,ha1,h1,rfl⟩ (by show((q:Int)).toNat<N;omega)
 rintro go _ ⟨d',i,j,hs,ha,hA,rfl⟩ hgo
 have hC':=hC.perm hs.perm
 have hdl:=hs.len
 refine peqU_def N hC' hA (by omega) hN fun i' hi' hA' hn'=>?_
 refine peqD_def N hC' hA' (by omega) hN fun j' hj' hA2 hn2=>?_
 unfold peqE
 dsimp only
 have q1:=hA2.i1;have q2:=hA2.ij;have q3:=hA2.jb;have q4:=hA2.bl
 refine Def.dif (fun e=>Def.ret ⟨i',rfl,q1,by omega,hs,ha,fun m g1 g2=>ha▸hA2.low m g1 g2⟩) (fun e=>?_)
 have hij:i'<=j':=by omega
 have hne:i'≠j':=fun e=>by subst e;exact hn2 hij (hn' (by omega))
 obtain⟨t,rfl⟩:∃t,j'=t+1:=⟨j'-1,by omega⟩
 refine swp_def (by omega) (by omega) fun d2 hw=>Def.ite (fits_nat (n:=i') (by omega)) (Def.ite (by unfold fits;omega) ?_)
 rw[<-cast_succ',show(((t+1:Nat):Int)-1)=(t:Int)from by omega]
 have hd2:=hw.perm.length_eq
 have hat:d2[a]? =d'[a]? :=by rw[hw.at',zu (by omega),zu (by omega)]
 refine hgo _ ⟨d2,i'+1,t,hs.trans (hw.seg (by omega) (by omega) (by omega) (by omega)),hat.trans ha,⟨by omega,by omega,by omega,by omega,fun m g1 g2=>?_⟩,rfl⟩ (by show((t:Int)).toNat<((j:Int)).toNat;omega)
 rw[hat,hw.at' m,zu (by omega)]
 by_cases e1:m=i'
 .rw [zf e1];exact hC'.other (by omega) (by omega) (by omega) (hn2 hij)
 .rw [zu e1];exact hA2.low m g1 (by omega)
end
def lenTab :List UInt8:=[0,1,2,2,3,3,3,3,4,4,4,4,4,4,4,4,5,5,5,5,5,5,5,5,5,5,5,5,5,5,5,5,6,6,6,6,6,6,6,6,6,6,6,6,6,6,6,6,6,6,6,6,6,6,6,6,6,6,6,6,6,6,6,6,7,7,7,7,7,7,7,7,7,7,7,7,7,7,7,7,7,7,7,7,7,7,7,7,7,7,7,7,7,7,7,7,7,7,7,7,7,7,7,7,7,7,7,7,7,7,7,7,7,7,7,7,7,7,7,7,7,7,7,7,7,7,7,7,8,8,8,8,8,8,8,8,8,8,8,8,8,8,8,8,8,8,8,8,8,8,8,8,8,8,8,8,8,8,8,8,8,8,8,8,8,8,8,8,8,8,8,8,8,8,8,8,8,8,8,8,8,8,8,8,8,8,8,8,8,8,8,8,8,8,8,8,8,8,8,8,8,8,8,8,8,8,8,8,8,8,8,8,8,8,8,8,8,8,8,8,8,8,8,8,8,8,8,8,8,8,8,8,8,8,8,8,8,8,8,8,8,8,8,8,8,8,8,8,8,8,8,8,8,8,8,8]
theorem tab_all :∀t:Nat,t<256->(match idx lenTab (IntKind.u8.wrap (t:Int))with|some e=>decide (t=0\/2^e.toNat<=2*t)&&decide (t<2^e.toNat)&&decide (e.toNat<=8)&&decide (IntKind.i64.wrap (e.toNat:Int)=(e.toNat:Int))|none=>false)=true:=by decide+kernel
theorem tab_def (t:Nat) (h:t<256):∃e:UInt8,idx lenTab (IntKind.u8.wrap (t:Int))=some e/\(t=0\/2^e.toNat<=2*t)/\t<2^e.toNat/\e.toNat<=8/\IntKind.i64.wrap (e.toNat:Int)=(e.toNat:Int):=by
 have:=tab_all t h
 cases he:idx lenTab (IntKind.u8.wrap (t:Int))with
 |none=>rw[he]at this;cases this
 |some e=>
  rw[he]at this
  simp only[zj,zw]at this
  exact⟨e,rfl,this.1.1.1,this.1.1.2,this.1.2,this.2⟩
theorem len64_def (N:Nat) (x:Nat) (h0:1<=x) (h:x<16777216):Def (k_math_bits_Len64_m N (x:Int)) fun r=>∃n:Nat,r=(n:Int)/\2^n<=2*x/\x<2^n/\n<=24:=by
 have fin:∀(M:Int) (t m:Nat) (hMm:M=(m:Int)) (ht:t<256) (hm:m<=16) (ht0:1<=t) (hx:t=x/2^m),
   Def (Option.bind (idx lenTab (IntKind.u8.wrap (t:Int))) fun(e:UInt8)=>(if fits (M+(IntKind.i64.wrap (e.toNat:Int)))then(some (M+(IntKind.i64.wrap (e.toNat:Int))))else none)) fun r=>∃n:Nat,r=(n:Int)/\2^n<=2*x/\x<2^n/\n<=24:=fun M t m hMm ht hm ht0 hx=>by
  subst hMm
  obtain⟨e,e1,e2,e3,e4,e5⟩:=tab_def t ht
  rw[e1,za,e5]
  refine Def.ite (by unfold fits;omega) (Def.ret ⟨m+e.toNat,by omega,?_,?_,by omega⟩)
  .have e2:=e2.resolve_left (by omega)
   have:2^m*(x/2^m)<=x:=Nat.mul_div_le x (2^m)
   rw[Nat.pow_add]
   calc 2^m*2^e.toNat<=2^m*(2*t):=Nat.mul_le_mul_left _ e2
    _=2*(2^m*(x/2^m)):=by rw[hx,Nat.mul_left_comm]
    _<=2*x:=by omega
  .have hp:0<2^m:=Nat.two_pow_pos m
   have h1:x<2^m*(x/2^m+1):=Nat.lt_mul_div_succ x hp
   rw[Nat.pow_add]
   exact zbi h1 (Nat.mul_le_mul_left _ (by omega))
 unfold k_math_bits_Len64_m meet
 dsimp only
 have p16:(2:Int)^(min (16:Int).toNat (IntKind.bits .u64))=65536:=by decide
 have p8:(2:Int)^(min (8:Int).toNat (IntKind.bits .u64))=256:=by decide
 have d16:((x:Int).fdiv 65536)=((x/65536:Nat):Int):=by rw[Int.fdiv_eq_ediv_of_nonneg _ (by omega)];omega
 have d8:((x:Int).fdiv 256)=((x/256:Nat):Int):=by rw[Int.fdiv_eq_ediv_of_nonneg _ (by omega)];omega
 refine Def.dif (fun e=>by omega) (fun _=>?_)
 refine Def.dif (fun e=>?_) (fun e=>?_)
 .rw [p16,d16]
  refine Def.ite (by omega) (Def.ite (by unfold fits;omega) (Def.dif (fun e2=>by omega) (fun e2=>?_)))
  exact fin (0+16) (x/65536) 16 (by omega) (by omega) (by omega) (by omega) (by omega)
 .refine Def.dif (fun e2=>?_) (fun e2=>?_)
  .rw [p8,d8]
   refine Def.ite (by omega) (Def.ite (by unfold fits;omega) ?_)
   exact fin (0+8) (x/256) 8 (by omega) (by omega) (by omega) (by omega) (by omega)
  .exact fin 0 x 0 (by omega) (by omega) (by omega) (by omega) (by omega)
theorem wrap_u64 {n:Int} (h0:0<=n) (h1:n<18446744073709551616):IntKind.u64.wrap n=n:=by
 have:IntKind.u64.wrap n=n%18446744073709551616:=by simp[IntKind.wrap,IntKind.bits,IntKind.signed]
 rw[this];omega
theorem wrap_i64 {n:Int} (h0:0<=n) (h1:n<9223372036854775808):IntKind.i64.wrap n=n:=by
 simp only[IntKind.wrap,IntKind.bits,IntKind.signed]
 simp only[show((2:Int)^64)=18446744073709551616 by rfl,show((2:Int)^(64-1))=9223372036854775808 by rfl]
 have e:n%18446744073709551616=n:=Int.emod_eq_of_lt h0 (by omega)
 rw[e]
 have:¬(n≥9223372036854775808):=by omega
 simp[this]
theorem len_bits (N:Nat) (x:Nat) (h0:1<=x) (h:x<16777216):Def (k_math_bits_Len_m N (IntKind.u64.wrap (x:Int))) fun r=>∃n:Nat,r=(n:Int)/\2^n<=2*x/\x<2^n/\n<=24:=by
 unfold k_math_bits_Len_m
 rw[wrap_u64 (by omega) (by omega)]
 exact Def.bind (len64_def N x h0 h) fun r hr=>Def.ret hr
theorem nextPow_def (N:Nat) (x:Nat) (h0:1<=x) (h:x<16777216):Def (k_slices_nextPowerOfTwo_m N (x:Int)) fun r=>1<=r/\r<=2*x:=by
 unfold k_slices_nextPowerOfTwo_m
 refine Def.bind (len_bits N x h0 h) fun r ⟨n,hn,h1,h2,h3⟩=>?_
 subst hn
 refine Def.ite (by omega) (Def.ret ?_)
 have e:min ((n:Int)).toNat (IntKind.bits .u64)=n:=by
  show min n 64=n
  omega
 have hp:0<2^n:=Nat.two_pow_pos n
 have hc:((1:Int)*2^n)=((2^n:Nat):Int):=by rw[Int.one_mul];norm_cast
 rw[e,hc,wrap_u64 (by omega) (by omega)]
 omega
theorem and_le (x y:Int) (h0:0<=y) (h1:y<9223372036854775808):0<=bitsI .and .u64 x y/\bitsI .and .u64 x y<=y:=by
 have hy:(BitVec.ofInt 64 y).toNat=y.toNat:=by
  rw[BitVec.toNat_ofInt]
  omega
 have hle:(BitVec.ofInt 64 x&&&BitVec.ofInt 64 y).toNat<=y.toNat:=by
  rw[BitVec.toNat_and,hy]
  exact Nat.and_le_right
 have e:bitsI .and .u64 x y=((BitVec.ofInt 64 x&&&BitVec.ofInt 64 y).toNat:Int):=by
  show IntKind.u64.wrap _=_
  exact wrap_u64 (by omega) (by show(((BitVec.ofInt 64 x&&&BitVec.ofInt 64 y).toNat:Nat):Int)<_;omega)
 rw[e]
 omega
section
variable {α γ ρ : Type} {c : γ -> α -> α -> Option Int} {lt : α -> α -> Bool} {ks : γ}
theorem tdiv_nat (n m:Nat):((n:Int)).tdiv (m:Int)=((n/m:Nat):Int):=rfl
theorem break_def (N:Nat) {d:List α} {a b:Nat} (hab:a<=b) (hb:b<=d.length) (hl:d.length<N) (hM:d.length<16777216):
  Def (breakG N d (a:Int) (b:Int) ks) fun r=>Seg a b d r:=by
 unfold breakG
 rw[show((b:Int)-(a:Int))=((b-a:Nat):Int)from by omega]
 generalize hn:b-a=n
 refine Def.ite (by unfold fits;omega) (Def.dif (fun e=>?_) (fun e=>Def.ret (Seg.refl _ _ _)))
 refine Def.bind (nextPow_def N n (by omega) (by omega)) fun r ⟨hr1,hr2⟩=>?_
 have t4:((n:Int)).tdiv 4=((n/4:Nat):Int):=rfl
 rw[t4]
 refine Def.ite (by omega) (Def.ite (by unfold fits;omega) (Def.ite (by unfold fits;omega) (Def.ite (by unfold fits;omega) (Def.ite (by unfold fits;omega) ?_))))
 refine Def.iter (fun g=>∃d':List α,∃i:Nat,∃rnd:Int,Seg a b d d'/\a<=i/\g=(d',(a:Int),(n:Int),r,(i:Int),rnd)) (fun g=>b-g.2.2.2.2.1.toNat) ?_ N _ ⟨d,a+n/4*2-1,IntKind.u64.wrap (n:Int),Seg.refl _ _ _,by omega,?_⟩ (by show b-_<N;omega)
 .rintro go _ ⟨d',i,rnd,hs,hai,rfl⟩ hgo
  dsimp only
  rw[t4]
  have hdl:=hs.len
  refine Def.ite (by omega) (Def.ite (by unfold fits;omega) (Def.ite (by unfold fits;omega) (Def.ite (by unfold fits;omega) (Def.ite (by unfold fits;omega) (Def.dif (fun e2=>?_) (fun e2=>Def.ret hs))))))
  refine Def.bind (P:=fun _=>True) ?_ fun r2 _=>?_
  .unfold k__slices_xorshift_Next_m
   exact Def.ite (by omega) (Def.ite (by omega) (Def.ite (by omega) (Def.ret True.intro)))
  have hm:=and_le r2.1 (IntKind.u64.wrap (r-1)) (by rw[wrap_u64 (by omega) (by omega)];omega) (by rw[wrap_u64 (by omega) (by omega)];omega)
  have hw0:IntKind.u64.wrap (r-1)=r-1:=wrap_u64 (by omega) (by omega)
  rw[wrap_i64 hm.1 (by omega)]
  generalize bitsI .and .u64 r2.1 (IntKind.u64.wrap (r-1))=m at*
  refine Def.meet (fun g=>∃o:Nat,∃rnd:Int,o<n/\g=(d',(a:Int),(n:Int),r,(i:Int),(o:Int),rnd)) ?_ fun J hJ=>?_
  .rintro _ ⟨o,rnd,ho,rfl⟩
   dsimp only
   refine Def.ite (by unfold fits;omega) (Def.ite (by unfold fits;omega) ?_)
   rw[show((a:Int)+(o:Int))=((a+o:Nat):Int)from by omega]
   refine swp_def (by omega) (by omega) fun d2 hw=>Def.ite (fits_nat (n:=i) (by omega)) (hgo _ ⟨d2,i+1,rnd,hs.trans (hw.seg (by omega) (by omega) (by omega) (by omega)),by omega,by rw[cast_succ']⟩ (by show b-((i:Int)+1).toNat<b-((i:Int)).toNat;omega))
  .refine Def.dif (fun e3=>?_) (fun e3=>?_)
   .refine Def.ite (by unfold fits;omega) (hJ _ ⟨(m-n).toNat,r2.2,by omega,?_⟩)
    rw[zbU (by omega)]
   .refine hJ _ ⟨m.toNat,r2.2,by omega,?_⟩
    rw[zbU (by omega)]
 .rw [show(((a+n/4*2-1:Nat)):Int)=(a:Int)+((n/4:Nat):Int)*2-1 from by omega]
theorem reverse_def (N:Nat) {d:List α} {a b:Nat} (hab:a<b) (hb:b<=d.length) (hl:d.length<N) (hN:N<=1099511627776):
  Def (reverseRangeG N d (a:Int) (b:Int) ks) fun r=>Seg a b d r:=by
 unfold reverseRangeG
 refine Def.ite (by unfold fits;omega) ?_
 refine Def.iter (fun g=>∃d':List α,∃i j:Nat,Seg a b d d'/\a<=i/\j<b/\g=(d',(i:Int),(j:Int))) (fun g=>g.2.2.toNat) ?_ N _ ⟨d,a,b-1,Seg.refl _ _ _,zae _,by omega,by rw[show((b-1:Nat):Int)=(b:Int)-1 from by omega]⟩ (by show((b:Int)-1).toNat<N;omega)
 rintro go _ ⟨d',i,j,hs,hi,hj,rfl⟩ hgo
 dsimp only
 have hdl:=hs.len
 refine Def.dif (fun e=>?_) (fun e=>Def.ret hs)
 refine swp_def (by omega) (by omega) fun d2 hw=>Def.ite (fits_nat (n:=i) (by omega)) (Def.ite (by unfold fits;omega) (hgo _ ⟨d2,i+1,j-1,hs.trans (hw.seg (by omega) (by omega) (by omega) (by omega)),by omega,by omega,by rw[cast_succ',show((j-1:Nat):Int)=(j:Int)-1 from by omega]⟩ (by show((j:Int)-1).toNat<((j:Int)).toNat;omega)))
def In (a b:Nat) (n:Int):Prop:=∃k:Nat,n=(k:Int)/\a<=k/\k<b
theorem order2_def (N:Nat) {d:List α} {a b:Nat} (hC:WComp c ks lt d) (hb:b<=d.length) {i j s:Int} (hi:In a b i) (hj:In a b j) (h0:0<=s) (h1:s<=1000):
  Def (order2G c N d i j ks s) fun r=>In a b r.1/\In a b r.2.1/\r.2.2.1=d/\s<=r.2.2.2/\r.2.2.2<=s+1:=by
 obtain⟨i,rfl,i1,i2⟩:=hi
 obtain⟨j,rfl,j1,j2⟩:=hj
 unfold order2G
 refine cmpG_def hC (by omega) (by omega) (fun _ r hr=>?_) (fun _ r hr=>?_)
 .rw [hr,zg]
  exact Def.ite (by unfold fits;omega) (Def.ret ⟨⟨j,rfl,j1,j2⟩,⟨i,rfl,i1,i2⟩,rfl,by dsimp only;omega,by dsimp only;omega⟩)
 .rw [hr,ze]
  exact Def.ret ⟨⟨i,rfl,i1,i2⟩,⟨j,rfl,j1,j2⟩,rfl,by dsimp only;omega,by dsimp only;omega⟩
theorem median_def (N:Nat) {d:List α} {a b:Nat} (hC:WComp c ks lt d) (hb:b<=d.length) {i j k s:Int} (hi:In a b i) (hj:In a b j) (hk:In a b k) (h0:0<=s) (h1:s<=900):
  Def (medianG c N d i j k ks s) fun r=>In a b r.1/\r.2.1=d/\s<=r.2.2/\r.2.2<=s+3:=by
 unfold medianG
 refine Def.bind (order2_def N hC hb hi hj h0 (by omega)) fun r ⟨a1,a2,a3,a4,a5⟩=>?_
 rw[a3]
 refine Def.bind (order2_def N hC hb a2 hk (by omega) (by omega)) fun r2 ⟨b1,b2,b3,b4,b5⟩=>?_
 rw[b3]
 refine Def.bind (order2_def N hC hb a1 b1 (by omega) (by omega)) fun r3 ⟨c1,c2,c3,c4,c5⟩=>?_
 exact Def.ret ⟨c2,c3,by dsimp only;omega,by dsimp only;omega⟩
theorem medianAdj_def (N:Nat) {d:List α} {a b:Nat} (hC:WComp c ks lt d) (hb:b<=d.length) (hM:d.length<=1099511627776) {i s:Int} (hi:(a:Int)+1<=i/\i+1<b) (h0:0<=s) (h1:s<=900):
  Def (medianAdjacentG c N d i ks s) fun r=>In a b r.1/\r.2.1=d/\s<=r.2.2/\r.2.2<=s+3:=by
 unfold medianAdjacentG
 refine Def.ite (by unfold fits;omega) (Def.ite (by unfold fits;omega) ?_)
 refine Def.bind (median_def N hC hb ⟨(i-1).toNat,by omega,by omega,by omega⟩ ⟨i.toNat,by omega,by omega,by omega⟩ ⟨(i+1).toNat,by omega,by omega,by omega⟩ h0 h1) fun r hr=>Def.ret hr
theorem choose_def (N:Nat) {d:List α} {a b:Nat} (hC:WComp c ks lt d) (hab:a<b) (hb:b<=d.length) (hM:d.length<=1099511627776):
  Def (choosePivotG c N d (a:Int) (b:Int) ks) fun r=>In a b r.1/\r.2.2=d:=by
 unfold choosePivotG
 rw[show((b:Int)-(a:Int))=((b-a:Nat):Int)from by omega]
 generalize hn:b-a=n
 have t4:((n:Int)).tdiv 4=((n/4:Nat):Int):=rfl
 rw[t4]
 refine Def.ite (by unfold fits;omega) (Def.ite (by omega) (Def.ite (by unfold fits;omega) (Def.ite (by unfold fits;omega) (Def.ite (by unfold fits;omega) (Def.ite (by omega)
  (Def.ite (by unfold fits;omega) (Def.ite (by unfold fits;omega) (Def.ite (by unfold fits;omega) (Def.ite (by omega) (Def.ite (by unfold fits;omega) (Def.ite (by unfold fits;omega) (Def.ite (by unfold fits;omega) ?_))))))))))))
 refine Def.meet (fun g=>∃j s,In a b j/\g=(d,j,s)) ?_ fun J hJ=>?_
 .rintro _ ⟨j,s,hj,rfl⟩
  dsimp only
  exact Def.dif (fun _=>Def.ret ⟨hj,rfl⟩) (fun _=>Def.dif (fun _=>Def.ret ⟨hj,rfl⟩) (fun _=>Def.ret ⟨hj,rfl⟩))
 .refine Def.dif (fun e=>?_) (fun e=>hJ _ ⟨_,_,⟨a+n/4*2,by omega,by omega,by omega⟩,rfl⟩)
  refine Def.meet (fun g=>∃i j k s,In a b i/\In a b j/\In a b k/\0<=s/\s<=900/\g=(d,ks,i,j,k,s)) ?_ fun J2 hJ2=>?_
  .rintro _ ⟨i,j,k,s,hi,hj,hk,s0,s1,rfl⟩
   dsimp only
   refine Def.bind (median_def N hC hb hi hj hk s0 s1) fun r ⟨h1,h2,_,_⟩=>hJ _ ⟨_,_,h1,by rw[h2]⟩
  .refine Def.dif (fun e2=>?_) (fun e2=>hJ2 _ ⟨_,_,_,_,⟨a+n/4*1,by omega,by omega,by omega⟩,⟨a+n/4*2,by omega,by omega,by omega⟩,⟨a+n/4*3,by omega,by omega,by omega⟩,zbD _,by omega,rfl⟩)
   refine Def.bind (medianAdj_def (a:=a) (b:=b) N hC hb hM (by omega) (zbD _) (by omega)) fun r ⟨h1,h2,h3,h4⟩=>?_
   rw[h2]
   refine Def.bind (medianAdj_def (a:=a) (b:=b) N hC hb hM (by omega) (by omega) (by omega)) fun r2 ⟨g1,g2,g3,g4⟩=>?_
   rw[g2]
   refine Def.bind (medianAdj_def (a:=a) (b:=b) N hC hb hM (by omega) (by omega) (by omega)) fun r3 ⟨f1,f2,f3,f4⟩=>?_
   exact hJ2 _ ⟨r.1,r2.1,r3.1,r3.2.2,h1,g1,f1,by omega,by omega,by rw[f2]⟩
end
section
variable {α γ ρ : Type} {c : γ -> α -> α -> Option Int} {lt : α -> α -> Bool} {ks : γ}
def Low (lt:α->α->Bool) (d:List α) (a b:Nat):Prop:=0<a->∀m,a<=m->m<b->leO lt d[a-1]? d[m]?
theorem Low.seg {d d':List α} {a b:Nat} (h:Low lt d a b) (hs:Seg a b d d'):Low lt d' a b:=fun h0 m g1 g2=>by
 obtain⟨n,n1,n2,n3⟩:=hs.inn m g1 g2
 rw[hs.out (a-1) (by omega),n3]
 exact h h0 n n1 n2
theorem shDown_def (ho:WOrd lt) (N:Nat) {d:List α} {a b i:Nat} (j:Int) (hC:WComp c ks lt d) (hL:Low lt d a b) (hai:a+2<=i) (hib:i<b) (hb:b<=d.length) (hl:d.length<N) (hN:N<=1099511627776)
  (hA:OrdS lt d a (i-1)) {k:(List α×Int×Int×γ×Int×Int)->Option ρ} {P:ρ->Prop} (hk:∀d',Seg a b d d'->OrdS lt d' a i->Def (k (d',(a:Int),(b:Int),ks,(i:Int),j)) P):
  Def (shDown c k N (d,(a:Int),(b:Int),ks,(i:Int),j,(i:Int)-1)) P:=by
 unfold shDown
 refine Def.iter (fun g=>∃d':List α,∃q:Nat,a<=q/\q<i/\Seg a b d d'/\(∀m n,a<=m->m<n->n<i->n≠q->leO lt d'[m]? d'[n]?)/\g=(d',(a:Int),(b:Int),ks,(i:Int),j,(q:Int))) (fun g=>g.2.2.2.2.2.2.toNat) ?_ N _
  ⟨d,i-1,by omega,by omega,Seg.refl _ _ _,fun m n g1 g2 g3 g4=>hA m n g1 g2 (by omega),by rw[show((i-1:Nat):Int)=(i:Int)-1 from by omega]⟩ (by show((i:Int)-1).toNat<N;omega)
 rintro go _ ⟨d',q,q1,q2,hs,hA',rfl⟩ hgo
 dsimp only
 have hdl:=hs.len
 have hC':=hC.perm hs.perm
 have stop:(∀m,a<=m->m<q->leO lt d'[m]? d'[q]?)->Def (k (d',(a:Int),(b:Int),ks,(i:Int),j)) P:=fun hq=>hk d' hs fun m n g1 g2 g3=>by
  by_cases e:n=q
  .subst e;exact hq m g1 g2
  .exact hA' m n g1 g2 g3 e
 refine Def.dif (fun e=>?_) (fun e=>stop fun m g1 g2=>by omega)
 obtain⟨p,rfl⟩:∃p,q=p+1:=⟨q-1,by omega⟩
 refine cmpP_def hC' (by omega) (by omega) (fun hlt r hr=>?_) (fun hlt r hr=>?_)
 .rw [hr,zn,ze]
  have hap:a<=p:=by
   by_cases e2:a<=p
   .exact e2
   .exfalso
    obtain rfl:a=p+1:=by omega
    exact hlt.not_le ((hL.seg hs) (by omega) (p+1) (by omega) (by omega))
  refine swpP_def (by omega) (by omega) fun d2 hw=>Def.ite (by unfold fits;omega) (hgo _ ⟨d2,p,by omega,by omega,hs.trans (hw.seg (by omega) (by omega) (by omega) (by omega)),fun m n g1 g2 g3 g4=>?_,by rw[show(((p+1:Nat):Int)-1)=(p:Int)from by omega]⟩ ?_)
  .rw [hw.at',hw.at']
   by_cases m1:m=p
   .subst m1
    rw[zf rfl,zu g4]
    by_cases n1:n=m+1
    .subst n1;rw[zf rfl];exact hlt.le ho
    .rw [zu n1];exact hA' (m+1) n (by omega) (by omega) g3 n1
   .rw [zu m1,zu g4]
    by_cases m2:m=p+1
    .subst m2
     rw[zf rfl,zu (by omega)]
     exact hA' p n (by omega) (by omega) g3 (by omega)
    .rw [zu m2]
     by_cases n1:n=p+1
     .subst n1;rw[zf rfl];exact hA' m p g1 (by omega) (by omega) (by omega)
     .rw [zu n1];exact hA' m n g1 g2 g3 n1
  .show (((p+1:Nat):Int)-1).toNat<((p+1:Nat):Int).toNat
   omega
 .rw [hr,zaI,zg]
  by_cases e2:a=p+1
  .exact stop fun m g1 g2=>by omega
  have h3:=hC'.other (by omega) (by omega) (by omega) hlt
  refine stop fun m g1 g2=>?_
  by_cases e3:m=p
  .subst e3;exact h3
  .exact (hA' m p g1 (by omega) (by omega) (by omega)).trans ho h3
theorem shUp_def (N:Nat) {d:List α} {a b i j:Nat} (hC:WComp c ks lt d) (hai:a<=i) (hib:i<b) (hb:b<=d.length) (hl:d.length<N) (hN:N<=1099511627776) (hj:j<=1000)
  (hA:OrdS lt d a i) {k:(List α×Int×Int×γ×Int×Int)->Option ρ} {P:ρ->Prop} (hk:∀d',Seg a b d d'->OrdS lt d' a i->Def (k (d',(a:Int),(b:Int),ks,(i:Int),((j+1:Nat):Int))) P):
  Def (shUp c k N (d,(a:Int),(b:Int),ks,(i:Int),(j:Int),(i:Int)+1)) P:=by
 unfold shUp
 refine Def.iter (fun g=>∃d':List α,∃q:Nat,i<=q/\Seg a b d d'/\OrdS lt d' a i/\g=(d',(a:Int),(b:Int),ks,(i:Int),(j:Int),((q+1:Nat):Int))) (fun g=>b-g.2.2.2.2.2.2.toNat) ?_ N _
  ⟨d,i,zae _,Seg.refl _ _ _,hA,by rw[cast_succ']⟩ (by show b-_<N;omega)
 rintro go _ ⟨d',q,q1,hs,hA',rfl⟩ hgo
 dsimp only
 have hdl:=hs.len
 have hC':=hC.perm hs.perm
 have stop:Def (if fits ((j:Int)+1)then k (d',(a:Int),(b:Int),ks,(i:Int),(j:Int)+1)else none) P:=by
  refine Def.ite (fits_nat (n:=j) (by omega)) ?_
  have:=hk d' hs hA'
  rw[cast_succ']at this
  exact this
 refine Def.dif (fun e=>?_) (fun e=>stop)
 refine cmpP_def hC' (by omega) (by omega) (fun hlt r hr=>?_) (fun hlt r hr=>?_)
 .rw [hr,zn,ze]
  refine swpP_def (by omega) (by omega) fun d2 hw=>Def.ite (by unfold fits;omega) (hgo _ ⟨d2,q+1,by omega,hs.trans (hw.seg (by omega) (by omega) (by omega) (by omega)),fun m n g1 g2 g3=>?_,by rw[cast_succ' (q+1)]⟩ (by show b-(((q+1:Nat):Int)+1).toNat<b-((q+1:Nat):Int).toNat;omega))
  rw[hw.at',hw.at',zu (by omega),zu (by omega),zu (by omega),zu (by omega)]
  exact hA' m n g1 g2 g3
 .rw [hr,zaI,zg]
  exact stop
theorem pis_def (ho:WOrd lt) (N:Nat) {d:List α} {a b:Nat} (hC:WComp c ks lt d) (hL:Low lt d a b) (hab:a<b) (hb:b<=d.length) (hl:d.length<N) (hN:N<=1099511627776) (h5:5<N):
  Def (pisG c N d (a:Int) (b:Int) ks) fun r=>Seg a b d r.2/\(r.1=true->OrdS lt r.2 a b):=by
 unfold pisG
 refine Def.ite (fits_nat (n:=a) (by omega)) ?_
 refine Def.iter (fun g=>∃d':List α,∃i j:Nat,a+1<=i/\i<=b/\j<=5/\Seg a b d d'/\OrdS lt d' a i/\g=(d',(a:Int),(b:Int),ks,(i:Int),(j:Int))) (fun g=>5-g.2.2.2.2.2.toNat) ?_ N _
  ⟨d,a+1,0,zae _,by omega,by omega,Seg.refl _ _ _,(fun m n h1 h2 h3=>by omega),by rw[cast_succ'];rfl⟩ (by show 5-_<N;omega)
 rintro go _ ⟨d',i,j,i1,i2,j1,hs,hA,rfl⟩ hgo
 dsimp only
 refine Def.dif (fun ej=>?_) (fun _=>Def.ret ⟨hs,fun h=>by cases h⟩)
 have hdl:=hs.len
 have hC':=hC.perm hs.perm
 refine Def.iter (fun g=>∃q:Nat,i<=q/\q<=b/\OrdS lt d' a q/\g=(d',(a:Int),(b:Int),ks,(q:Int),(j:Int))) (fun g=>b-g.2.2.2.2.1.toNat) ?_ N _ ⟨i,zae _,i2,hA,rfl⟩ (by show b-_<N;omega)
 rintro go2 _ ⟨q,q1,q2,hQ,rfl⟩ hgo2
 dsimp only
 have back:∀d2,Seg a b d d2->OrdS lt d2 a q->Def (go (d2,(a:Int),(b:Int),ks,(q:Int),((j+1:Nat):Int))) fun r=>Seg a b d r.2/\(r.1=true->OrdS lt r.2 a b):=fun d2 h1 h2=>
  hgo _ ⟨d2,q,j+1,by omega,q2,by omega,h1,h2,rfl⟩ (by show 5-(((j+1:Nat)):Int).toNat<5-((j:Int)).toNat;omega)
 have stop:Def (pisX c N go d' (a:Int) (b:Int) ks (q:Int) (j:Int)) fun r=>Seg a b d r.2/\(r.1=true->OrdS lt r.2 a b):=by
  unfold pisX
  refine Def.dif (fun e=>Def.ret ⟨hs,fun _ m n g1 g2 g3=>hQ m n g1 g2 (by omega)⟩) (fun e=>?_)
  refine Def.ite (by unfold fits;omega) (Def.dif (fun _=>Def.ret ⟨hs,fun h=>by cases h⟩) (fun _=>?_))
  obtain⟨p,rfl⟩:∃p,q=p+1:=⟨q-1,by omega⟩
  refine swpP_def (by omega) (by omega) fun d2 hw=>?_
  have hs2:=hs.trans (hw.seg (a:=a) (b:=b) (by omega) (by omega) (by omega) (by omega))
  have hd2:=hs2.len
  have hA2:OrdS lt d2 a p:=fun m n g1 g2 g3=>by
   rw[hw.at',hw.at',zu (by omega),zu (by omega),zu (by omega),zu (by omega)]
   exact hQ m n g1 g2 (by omega)
  refine Def.meet (fun g=>∃d3,Seg a b d d3/\OrdS lt d3 a (p+1)/\g=(d3,(a:Int),(b:Int),ks,((p+1:Nat):Int),(j:Int))) ?_ fun J hJ=>?_
  .rintro _ ⟨d3,hs3,hA3,rfl⟩
   dsimp only
   have hd3:=hs3.len
   refine Def.ite (by unfold fits;omega) (Def.dif (fun e3=>?_) (fun e3=>?_))
   .refine Def.ite (by unfold fits;omega) ?_
    exact shUp_def N (hC.perm hs3.perm) (by omega) (by omega) (by omega) (by omega) hN (by omega) hA3 fun d4 g1 g2=>back d4 (hs3.trans g1) g2
   .refine Def.ite (by unfold fits;omega) ?_
    have:=back d3 hs3 hA3
    rw[cast_succ' j]at this
    exact this
  .refine Def.ite (by unfold fits;omega) (Def.dif (fun e3=>?_) (fun e3=>?_))
   .refine Def.ite (by unfold fits;omega) ?_
    exact shDown_def ho N (i:=p+1) (j:Int) (hC.perm hs2.perm) (hL.seg hs2) (by omega) (by omega) (by omega) (by omega) hN hA2 fun d4 g1 g2=>hJ _ ⟨d4,hs2.trans g1,g2,rfl⟩
   .exact hJ _ ⟨d2,hs2,fun m n g1 g2 g3=>by omega,rfl⟩
 refine Def.dif (fun e=>?_) (fun e=>stop)
 obtain⟨p,rfl⟩:∃p,q=p+1:=⟨q-1,by omega⟩
 refine cmpP_def hC' (by omega) (by omega) (fun hlt r hr=>?_) (fun hlt r hr=>?_)
 .rw [hr,zn,ze]
  exact stop
 .rw [hr,zaI,zg]
  have h3:=hC'.other (by omega) (by omega) (by omega) hlt
  refine Def.ite (fits_nat (n:=p+1) (by omega)) (hgo2 _ ⟨p+2,by omega,by omega,fun m n g1 g2 g3=>?_,by rw[cast_succ' (p+1)]⟩ (by show b-(((p+1:Nat):Int)+1).toNat<b-((p+1:Nat):Int).toNat;omega))
  by_cases e2:n=p+1
  .subst e2
   by_cases e3:m=p
   .subst e3;exact h3
   .exact (hQ m p g1 (by omega) (by omega)).trans ho h3
  .exact hQ m n g1 g2 (by omega)
end
section
variable {α γ ρ : Type} {c : γ -> α -> α -> Option Int} {lt : α -> α -> Bool} {ks : γ}
def HeapOk (c:γ->α->α->Option Int) (ks:γ) (lt:α->α->Bool) (N:Nat) (hs:List α->Int->Int->γ->Option (List α)):Prop:=
 ∀(d:List α) (a b:Nat),WComp c ks lt d->a<=b->b<=d.length->d.length<N->Def (hs d (a:Int) (b:Int) ks) fun r=>Seg a b d r/\OrdS lt r a b
def PeOk (c:γ->α->α->Option Int) (ks:γ) (lt:α->α->Bool) (N:Nat) (pe:List α->Int->Int->Int->γ->Option (Int×List α)):Prop:=
 ∀(d:List α) (a b p:Nat),WComp c ks lt d->a<=p->p<b->b<=d.length->d.length<N->Def (pe d (a:Int) (b:Int) (p:Int) ks) fun r=>∃k:Nat,r.1=(k:Int)/\a<k/\k<=b/\Seg a b d r.2/\r.2[a]? =d[p]? /\∀m,a<m->m<k->leO lt r.2[m]? d[p]?
def Done (lt:α->α->Bool) (d:List α) (a b a' b':Nat):Prop:=∀m n,a<=m->m<n->n<b->(m<a'\/b'<=n)->leO lt d[m]? d[n]?
theorem Done.seg {d e:List α} {a b a' b':Nat} (h:Done lt d a b a' b') (ha:a<=a') (hb:b'<=b) (hs:Seg a' b' d e):Done lt e a b a' b':=fun m n g1 g2 g3 g4=>by
 by_cases m1:a'<=m/\m<b'
 .obtain ⟨m',x1,x2,x3⟩:=hs.inn m m1.1 m1.2
  rw[x3,hs.out n (by omega)]
  exact h m' n (by omega) (by omega) g3 (by omega)
 .rw [hs.out m (by omega)]
  by_cases n1:a'<=n/\n<b'
  .obtain ⟨n',x1,x2,x3⟩:=hs.inn n n1.1 n1.2
   rw[x3]
   exact h m n' g1 (by omega) (by omega) (by omega)
  .rw [hs.out n (by omega)]
   exact h m n g1 g2 g3 g4
theorem Done.low {d:List α} {a b a' b':Nat} (h:Done lt d a b a' b') (ha:a<=a') (hb:b'<=b) (hL:Low lt d a b):Low lt d a' b':=fun h0 m g1 g2=>by
 by_cases e:a'=a
 .subst e;exact hL h0 m g1 (by omega)
 .exact h (a'-1) m (by omega) (by omega) (by omega) (by omega)
theorem Cloven.left {d e:List α} {a b k:Nat} (h:Cloven lt a b k d) (ho:WOrd lt) (hs:Seg a k d e) (hA:OrdS lt e a k):∀m n,a<=m->m<=k->m<n->n<b->leO lt e[m]? e[n]? :=by
 have hk:∀m,a<=m->m<k->leO lt e[m]? e[k]? :=fun m g1 g2=>by
  obtain⟨m',x1,x2,x3⟩:=hs.inn m g1 g2
  rw[x3,hs.out k (by omega)];exact h.low m' x1 x2
 have hr:∀n,k<n->n<b->leO lt e[k]? e[n]? :=fun n g1 g2=>by
  rw[hs.out k (by omega),hs.out n (by omega)];exact h.high n g1 g2
 intro m n g1 g2 g3 g4
 by_cases e1:m=k
 .subst e1;exact hr n g3 g4
 .have hm:=hk m g1 (by omega)
  rcases zbl n k with e2|e2|e2
  .exact hA m n g1 g3 e2
  .subst e2;exact hm
  .exact hm.trans ho (hr n e2 g4)
theorem Cloven.right {d e:List α} {a b k:Nat} (h:Cloven lt a b k d) (ho:WOrd lt) (hs:Seg (k+1) b d e) (hA:OrdS lt e (k+1) b):∀m n,a<=m->m<n->k<=n->n<b->leO lt e[m]? e[n]? :=by
 have hk:∀m,a<=m->m<k->leO lt e[m]? e[k]? :=fun m g1 g2=>by
  rw[hs.out m (by omega),hs.out k (by omega)];exact h.low m g1 g2
 have hr:∀n,k<n->n<b->leO lt e[k]? e[n]? :=fun n g1 g2=>by
  obtain⟨n',x1,x2,x3⟩:=hs.inn n (by omega) g2
  rw[x3,hs.out k (by omega)];exact h.high n' (by omega) x2
 intro m n g1 g2 g3 g4
 by_cases e1:n=k
 .subst e1;exact hk m g1 g2
 .have hn:=hr n (by omega) g4
  rcases zbl m k with e2|e2|e2
  .exact (hk m g1 e2).trans ho hn
  .subst e2;exact hn
  .exact hA m n (by omega) g2 g4
theorem pdq_def (ho:WOrd lt) (N:Nat) (hN:N<=16777216) (h5:5<N) (hs:List α->Int->Int->γ->Option (List α)) (pe:List α->Int->Int->Int->γ->Option (Int×List α)) (hpe:PeOk c ks lt N pe):
  ∀(D:Nat) (d:List α) (a b limit:Nat),WComp c ks lt d->Low lt d a b->a<=b->b<=d.length->d.length<N->b-a<D->limit<=1000->(HeapOk c ks lt N hs\/b-a<=11+limit)->
   Def (pdqG c hs pe N D d (a:Int) (b:Int) (limit:Int) ks) fun r=>Seg a b d r/\OrdS lt r a b
 |0,_,_,_,_,_,_,_,_,_,h,_,_=>absurd h (Nat.not_lt_zero _)
 |D+1,d,a,b,limit,hC,hL,hab,hb,hl,hD,hlim,hH=>by
  unfold pdqG
  refine Def.iter (fun g=>∃d':List α,∃a' b' l':Nat,∃wb wp:Bool,a<=a'/\a'<=b'/\b'<=b/\l'<=1000/\(HeapOk c ks lt N hs\/b'-a'<=11+l')/\Seg a b d d'/\Done lt d' a b a' b'/\g=(d',(a':Int),(b':Int),(l':Int),ks,wb,wp)) (fun g=>g.2.2.1.toNat-g.2.1.toNat) ?_ N _
   ⟨d,a,b,limit,true,true,zae _,hab,zae _,hlim,hH,Seg.refl _ _ _,(fun m n g1 g2 g3 g4=>by omega),rfl⟩ (by show((b:Int)).toNat-_<N;omega)
  rintro go _ ⟨d',a',b',l',wb,wp,a1,a2,a3,l1,hH',hS,hDn,rfl⟩ hgo
  dsimp only
  have hdl:=hS.len
  have hC':=hC.perm hS.perm
  have hL':Low lt d' a' b':=hDn.low a1 a3 (hL.seg hS)
  have fin:∀e,Seg a' b' d' e->OrdS lt e a' b'->Seg a b d e/\OrdS lt e a b:=fun e he hA=>⟨hS.trans (he.mono a1 a3),fun m n g1 g2 g3=>by
   by_cases x:m<a'\/b'<=n
   .exact hDn.seg a1 a3 he m n g1 g2 g3 x
   .exact hA m n (by omega) g2 (by omega)⟩
  refine Def.ite (by unfold fits;omega) (Def.dif (fun e12=>?_) (fun e12=>?_))
  .exact Def.bind (ins_def ho N hC' a2 (by omega) (by omega) (by omega)) fun r ⟨h1,h2⟩=>Def.ret (fin r h1 h2)
  refine Def.dif (fun e0=>?_) (fun e0=>?_)
  .rcases hH' with hp|hp
   .exact Def.bind (hp d' a' b' hC' a2 (by omega) (by omega)) fun r ⟨h1,h2⟩=>Def.ret (fin r h1 h2)
   .omega
  refine Def.meet (fun g=>∃e:List α,∃l2:Nat,∃wb wp:Bool,l2<=1000/\(HeapOk c ks lt N hs\/b'-a'<=12+l2)/\Seg a' b' d' e/\g=(e,(a':Int),(b':Int),(l2:Int),ks,wb,wp,(b':Int)-(a':Int))) ?_ fun J hJ=>?_
  .rintro _ ⟨e,l2,wb,wp,l2h,hH2,hSe,rfl⟩
   dsimp only
   have hel:=hSe.len
   have hCe:=hC'.perm hSe.perm
   refine Def.bind (choose_def N hCe (by omega) (by omega) (by omega)) fun r4 ⟨hp4,hr4⟩=>?_
   rw[hr4]
   refine Def.meet (fun g=>∃e2:List α,∃p h:Int,Seg a' b' d' e2/\In a' b' p/\g=(e2,(a':Int),(b':Int),(l2:Int),ks,wb,wp,(b':Int)-(a':Int),p,h)) ?_ fun J2 hJ2=>?_
   .rintro _ ⟨e2,p,h,hS2,hp,rfl⟩
    dsimp only
    have hel2:=hS2.len
    have hC2:=hC'.perm hS2.perm
    refine Def.meet (fun g=>∃e3:List α,Seg a' b' d' e3/\g=(e3,(a':Int),(b':Int),(l2:Int),ks,wb,wp,(b':Int)-(a':Int),p)) ?_ fun J3 hJ3=>?_
    .rintro _ ⟨e3,hS3,rfl⟩
     dsimp only
     have hel3:=hS3.len
     have hC3:=hC'.perm hS3.perm
     obtain⟨p,rfl,p1,p2⟩:=hp
     have tail:∀X,X=Option.bind (partG c N e3 (a':Int) (b':Int) (p:Int) ks) (fun(r9:Int×Bool×(List α))=>
                      (if fits (r9.1-(a':Int))then(if fits ((b':Int)-r9.1)then(if 8≠0 then
                         (if fits (((b':Int)-(a':Int)).tdiv 8)then(bif(decide ((r9.1-(a':Int))<((b':Int)-r9.1)))then
                           (Option.bind (pdqG c hs pe N D r9.2.2 (a':Int) r9.1 (l2:Int) ks) fun(r10:(List α))=>
                            (if fits (r9.1+1)then(go (r10,(r9.1+1),(b':Int),(l2:Int),ks,(decide ((((b':Int)-(a':Int)).tdiv 8)<=(r9.1-(a':Int)))),r9.2.1))else none))
                           else
                           (if fits (r9.1+1)then(Option.bind (pdqG c hs pe N D r9.2.2 (r9.1+1) (b':Int) (l2:Int) ks) fun(r11:(List α))=>
                             (go (r11,(a':Int),r9.1,(l2:Int),ks,(decide ((((b':Int)-(a':Int)).tdiv 8)<=((b':Int)-r9.1))),r9.2.1)))else none))else none)
                         else none)else none)else none))->Def X fun r=>Seg a b d r/\OrdS lt r a b:=by
      rintro _ rfl
      refine Def.bind (part_def ho N hC3 p1 p2 (by omega) (by omega) (by omega)) fun r9 ⟨k,hk,hS9,hV⟩=>?_
      rw[hk]
      have k1:=hV.ak
      have k2:=hV.kb
      have hel9:=hS9.len
      have hS9':=hS3.trans hS9
      have hC9:=hC'.perm hS9'.perm
      have hDn9:=hDn.seg a1 a3 hS9'
      have t8:((b':Int)-(a':Int)).tdiv 8=(((b'-a')/8:Nat):Int):=by
       rw[show((b':Int)-(a':Int))=((b'-a':Nat):Int)from by omega];rfl
      refine Def.ite (by unfold fits;omega) (Def.ite (by unfold fits;omega) (Def.ite (by omega) (Def.ite (by rw[t8];unfold fits;omega) ?_)))
      refine Def.dif (fun _=>?_) (fun _=>?_)
      .refine Def.bind (pdq_def ho N hN h5 hs pe hpe D r9.2.2 a' k l2 hC9 ?_ (by omega) (by omega) (by omega) (by omega) l2h (hH2.imp_right fun h=>by omega)) fun r10 ⟨h1,h2⟩=>?_
       .exact fun h0 m g1 g2=>(hDn9.low a1 a3 ((hL.seg hS).seg (hS9'.mono a1 a3))) h0 m g1 (by omega)
       refine Def.ite (fits_nat (n:=k) (by omega)) (hgo _ ⟨r10,k+1,b',l2,_,_,by omega,by omega,a3,l2h,hH2.imp_right fun h=>by omega,hS.trans ((hS9'.trans (h1.mono (zae _) (by omega))).mono a1 a3),fun m n g1 g2 g3 g4=>?_,by rw[cast_succ']⟩ (by show((b':Int)).toNat-((k:Int)+1).toNat<((b':Int)).toNat-((a':Int)).toNat;omega))
       by_cases x:m<a'\/b'<=n
       .exact hDn9.seg a1 a3 (h1.mono (zae _) (by omega)) m n g1 g2 g3 x
       .exact hV.left ho h1 h2 m n (by omega) (by omega) g2 (by omega)
      .refine Def.ite (fits_nat (n:=k) (by omega)) ?_
       rw[<-cast_succ']
       refine Def.bind (pdq_def ho N hN h5 hs pe hpe D r9.2.2 (k+1) b' l2 hC9 ?_ (by omega) (by omega) (by omega) (by omega) l2h (hH2.imp_right fun h=>by omega)) fun r11 ⟨h1,h2⟩=>?_
       .exact fun h0 m g1 g2=>by
         rw[zbq];exact hV.high m (by omega) g2
       refine hgo _ ⟨r11,a',k,l2,_,_,a1,k1,by omega,l2h,hH2.imp_right fun h=>by omega,hS.trans ((hS9'.trans (h1.mono (by omega) (zae _))).mono a1 a3),fun m n g1 g2 g3 g4=>?_,rfl⟩ (by show((k:Int)).toNat-((a':Int)).toNat<((b':Int)).toNat-((a':Int)).toNat;omega)
       by_cases x:m<a'\/b'<=n
       .exact hDn9.seg a1 a3 (h1.mono (by omega) (zae _)) m n g1 g2 g3 x
       .exact hV.right ho h1 h2 m n (by omega) g2 (by omega) (by omega)
     refine Def.dif (fun ea=>?_) (fun ea=>tail _ rfl)
     have hL3:=hL'.seg hS3
     have ha0:0<a':=by omega
     refine Def.ite (by unfold fits;omega) ?_
     rw[show((a':Int)-1)=((a'-1:Nat):Int)from by omega]
     have hx:=hL3 ha0 p p1 p2
     refine cmpG_def (i:=a'-1) (j:=p) hC3 (by omega) (by omega) (fun _ r hr=>?_) (fun hn r hr=>?_)
     .rw [hr,zn,ze]
      exact tail _ rfl
     .rw [hr,zaI,zg]
      refine Def.bind (hpe e3 a' b' p hC3 p1 p2 (by omega) (by omega)) fun r9 ⟨k,hk,k1,k2,hS9,hA0,hA9⟩=>?_
      rw[hk]
      have hel9:=hS9.len
      have hS9':=hS3.trans hS9
      have hC9:=hC'.perm hS9'.perm
      have hDn9:=hDn.seg a1 a3 hS9'
      have hL9:=hL'.seg hS9'
      have hpa:leO lt e3[p]? e3[a'-1]? :=hC3.other (by omega) (by omega) (by omega) hn
      refine hgo _ ⟨r9.2,k,b',l2,_,_,by omega,k2,a3,l2h,hH2.imp_right fun h=>by omega,hS.trans (hS9'.mono a1 a3),fun m n g1 g2 g3 g4=>?_,rfl⟩ (by show((b':Int)).toNat-((k:Int)).toNat<((b':Int)).toNat-((a':Int)).toNat;omega)
      by_cases x:m<a'\/b'<=n
      .exact hDn9 m n g1 g2 g3 x
      .have hout:r9.2[a'-1]? =e3[a'-1]? :=hS9.out _ (by omega)
       have hn9:=hL9 ha0 n (by omega) (by omega)
       rw[hout]at hn9
       have hpn:leO lt e3[p]? r9.2[n]? :=hpa.trans ho hn9
       by_cases em:m=a'
       .rw [em,hA0];exact hpn
       .exact (hA9 m (by omega) (by omega)).trans ho hpn
    .have go3:∀e3,Seg a' b' d' e3->Def (J3 (e3,(a':Int),(b':Int),(l2:Int),ks,wb,wp,(b':Int)-(a':Int),p)) fun r=>Seg a b d r/\OrdS lt r a b:=fun e3 h=>hJ3 _ ⟨e3,h,rfl⟩
     refine Def.bif (fun _=>Def.bif (fun _=>Def.dif (fun _=>?_) (fun _=>go3 e2 hS2)) (fun _=>go3 e2 hS2)) (fun _=>go3 e2 hS2)
     refine Def.bind (pis_def ho N hC2 (hL'.seg hS2) (by omega) (by omega) (by omega) (by omega) h5) fun r6 ⟨h1,h2⟩=>?_
     exact Def.bif (fun e=>Def.ret (fin _ (hS2.trans h1) (h2 e))) (fun _=>go3 _ (hS2.trans h1))
   .refine Def.dif (fun _=>?_) (fun _=>hJ2 _ ⟨e,r4.1,r4.2.1,hSe,hp4,rfl⟩)
    refine Def.bind (reverse_def N (by omega) (by omega) (by omega) (by omega)) fun r5 h5=>?_
    obtain⟨q,hq,q1,q2⟩:=hp4
    rw[hq]
    refine Def.ite (by unfold fits;omega) (Def.ite (by unfold fits;omega) (Def.ite (by unfold fits;omega) (hJ2 _ ⟨r5,_,_,hSe.trans h5,⟨b'-1-(q-a'),by omega,by omega,by omega⟩,rfl⟩)))
  .refine Def.bif (fun _=>?_) (fun _=>hJ _ ⟨d',l',wb,wp,l1,hH'.imp_right fun h=>by omega,Seg.refl _ _ _,rfl⟩)
   refine Def.bind (break_def (ks:=ks) N a2 (by omega) (by omega) (by omega)) fun r3 h3=>?_
   refine Def.ite (by unfold fits;omega) (hJ _ ⟨r3,l'-1,wb,wp,by omega,hH'.imp_right fun h=>by omega,h3,?_⟩)
   rw[show((l'-1:Nat):Int)=(l':Int)-1 from by omega]
end
section
variable {α γ ρ : Type} {c : γ -> α -> α -> Option Int} {lt : α -> α -> Bool} {ks : γ}
def Heap (lt:α->α->Bool) (d:List α) (f lo hi:Nat):Prop:=∀p q,lo<=p->(q=2*p+1\/q=2*p+2)->q<hi->leO lt d[f+q]? d[f+p]?
theorem Def.get1 {β:Type} {a:List α} {n:Nat} {f:α->Option β} {P:β->Prop} (hn:n<a.length) (h:Def (f a[n]) P):Def (Option.bind (a[((n:Nat):Int).toNat]?) f) P:=by
 rw[zai,zc hn];exact h
theorem sift_def (ho:WOrd lt) (N:Nat) {d:List α} {f lo hi:Nat} (hC:WComp c ks lt d) (hb:f+hi<=d.length) (hl:d.length<N) (hN:N<=1099511627776) (hlo:lo<=d.length) (hH:Heap lt d f (lo+1) hi):
  Def (siftG c N d (lo:Int) (hi:Int) (f:Int) ks) fun r=>Seg f (f+hi) d r/\Heap lt r f lo hi/\∀m,m<lo->r[f+m]? =d[f+m]? :=by
 unfold siftG
 refine Def.iter (fun g=>∃d':List α,∃r:Nat,lo<=r/\r<=d.length/\Seg f (f+hi) d d'/\(∀m,m<lo->d'[f+m]? =d[f+m]?)/\(∀p q,lo<=p->p≠r->(q=2*p+1\/q=2*p+2)->q<hi->leO lt d'[f+q]? d'[f+p]?)/\
  (∀p q,lo<=p->(r=2*p+1\/r=2*p+2)->(q=2*r+1\/q=2*r+2)->q<hi->leO lt d'[f+q]? d'[f+p]?)/\g=(d',(hi:Int),(f:Int),ks,(r:Int))) (fun g=>hi-g.2.2.2.2.toNat) ?_ N _
  ⟨d,lo,zae _,hlo,Seg.refl _ _ _,fun _ _=>rfl,fun p q g1 g2 g3 g4=>hH p q (by omega) g3 g4,fun p q g1 g2 g3 g4=>by omega,rfl⟩ (by show hi-_<N;omega)
 rintro go _ ⟨d',r,r1,hbig,hs,hm,hA,hB,rfl⟩ hgo
 dsimp only
 have hdl:=hs.len
 have hC':=hC.perm hs.perm
 .refine Def.ite (by unfold fits;omega) (Def.ite (by unfold fits;omega) (Def.dif (fun e=>?_) (fun e=>?_)))
  .refine Def.ret ⟨hs,fun p q g1 g2 g3=>?_,hm⟩
   by_cases e2:p=r
   .subst e2;omega
   .exact hA p q g1 e2 g2 g3
  refine Def.meet (fun g=>∃ch:Nat,(ch=2*r+1\/ch=2*r+2)/\ch<hi/\(∀q,(q=2*r+1\/q=2*r+2)->q≠ch->q<hi->leO lt d'[f+q]? d'[f+ch]?)/\g=(d',(hi:Int),(f:Int),ks,(r:Int),(ch:Int))) ?_ fun J hJ=>?_
  .rintro _ ⟨ch,c1,c2,c3,rfl⟩
   dsimp only
   rw[show((f:Int)+(r:Int))=((f+r:Nat):Int)from by omega,show((f:Int)+(ch:Int))=((f+ch:Nat):Int)from by omega]
   have lr:f+r<d'.length:=by omega
   have lc:f+ch<d'.length:=by omega
   refine Def.ite (by unfold fits;omega) (Def.ite (by omega) (Def.get1 lr (Def.ite (by unfold fits;omega) (Def.ite (by omega) (Def.get1 lc ?_)))))
   refine cmp2_def hC' lr lc (fun hlt r2 hr=>?_) (fun hlt r2 hr=>?_)
   .rw [hr,zn,ze]
    refine Def.ite (by unfold fits;omega) (Def.ite (by unfold fits;omega) (Def.ite (by unfold fits;omega) (Def.ite (by omega) (Def.get1 lc (Def.ite (by unfold fits;omega) (Def.ite (by omega) (Def.get1 lr (Def.ite (by omega) (Def.get1 lr (Def.ite (by rw[List.length_set];omega) ?_))))))))))
    have hw:=swp_mk (d:=d') lr lc
    rw[zai,zai,zc (by rw[List.length_set];exact lc),za]
    generalize(d'.set (f+r) d'[f+ch]).set (f+ch) d'[f+r]=d2 at*
    refine hgo _ ⟨d2,ch,by omega,by omega,hs.trans (hw.seg (by omega) (by omega) (by omega) (by omega)),fun m h=>?_,fun p q g1 g2 g3 g4=>?_,fun p q g1 g2 g3 g4=>?_,rfl⟩ (by show hi-((ch:Int)).toNat<hi-((r:Int)).toNat;omega)
    .rw [hw.at',zu (by omega),zu (by omega)];exact hm m h
    .rw [hw.at',hw.at',zu (by omega:¬f+p=f+ch)]
     by_cases e1:p=r
     .subst e1
      rw[zf rfl]
      by_cases e2:q=ch
      .subst e2;rw[zf rfl];exact hlt.le ho
      .rw [zu (by omega),zu (by omega)];exact c3 q g3 e2 g4
     .rw [zu (by omega:¬f+p=f+r),zu (by omega)]
      by_cases e2:q=r
      .subst e2;rw[zf rfl];exact hB p ch g1 g3 c1 c2
      .rw [zu (by omega)];exact hA p q g1 e1 g3 g4
    .have e1:p=r:=by omega
     subst e1
     rw[hw.at',hw.at',zu (by omega),zu (by omega),zu (by omega),zf rfl]
     exact hA ch q (by omega) (by omega) g3 g4
   .rw [hr,zaI,zg]
    have h3:=hC'.other lr lc (by omega) hlt
    refine Def.ret ⟨hs,fun p q g1 g2 g3=>?_,hm⟩
    by_cases e2:p=r
    .subst e2
     by_cases e3:q=ch
     .subst e3;exact h3
     .exact (c3 q g2 e3 g3).trans ho h3
    .exact hA p q g1 e2 g2 g3
  .refine Def.ite (by unfold fits;omega) (Def.dif (fun e2=>?_) (fun e2=>?_))
   .rw [show((f:Int)+(2*(r:Int)+1))=((f+(2*r+1):Nat):Int)from by omega]
    have l1:f+(2*r+1)<d'.length:=by omega
    have l2:f+(2*r+1)+1<d'.length:=by omega
    refine Def.ite (by unfold fits;omega) (Def.ite (by omega) (Def.get1 l1 (Def.ite (by unfold fits;omega) (Def.ite (by unfold fits;omega) ?_))))
    rw[<-cast_succ']
    refine Def.ite (by omega) (Def.get1 l2 ?_)
    refine cmp2_def hC' l1 l2 (fun hlt r2 hr=>?_) (fun hlt r2 hr=>?_)
    .rw [hr,zg]
     refine Def.ite (by unfold fits;omega) (hJ _ ⟨2*r+2,.inr rfl,by omega,fun q g1 g2 g3=>?_,by rw[show((2*r+2:Nat):Int)=2*(r:Int)+1+1 from by omega]⟩)
     rw[show q=2*r+1 from by omega];exact hlt.le ho
    .rw [hr,ze]
     have h3:=hC'.other l1 l2 (by omega) hlt
     refine hJ _ ⟨2*r+1,.inl rfl,by omega,fun q g1 g2 g3=>?_,by rw[show((2*r+1:Nat):Int)=2*(r:Int)+1 from by omega]⟩
     rw[show q=2*r+2 from by omega];exact h3
   .refine hJ _ ⟨2*r+1,.inl rfl,by omega,fun q g1 g2 g3=>by omega,by rw[show((2*r+1:Nat):Int)=2*(r:Int)+1 from by omega]⟩
theorem Heap.top (ho:WOrd lt) {d:List α} {f hi:Nat} (h:Heap lt d f 0 hi):∀m,0<m->m<hi->leO lt d[f+m]? d[f+0]? :=by
 intro m
 induction m using Nat.strongRecOn with
 |ind m ih=>
  intro h0 h1
  have hp:=h ((m-1)/2) m (zaf _) (by omega) h1
  by_cases e:(m-1)/2=0
  .rw [e]at hp;exact hp
  .exact hp.trans ho (ih _ (by omega) (by omega) (by omega))
theorem heap_ok (ho:WOrd lt) (N:Nat) (hN:N<=1099511627776) (h5:5<N):HeapOk c ks lt N (fun d a b ks=>heapG c N d a b ks):=by
 intro d a b hC hab hb hl
 show Def (heapG c N d (a:Int) (b:Int) ks) _
 unfold heapG
 rw[show((b:Int)-(a:Int))=((b-a:Nat):Int)from by omega]
 generalize hn:b-a=n
 have hd2:(((n:Int))-1).tdiv 2=((n-1)/2:Nat):=by
  by_cases e:n=0
  .subst e;rfl
  .rw [show((n:Int))-1=((n-1:Nat):Int)from by omega];rfl
 refine Def.ite (by unfold fits;omega) (Def.ite (by unfold fits;omega) (Def.ite (by omega) (Def.ite (by rw[hd2];unfold fits;omega) ?_)))
 rw[hd2]
 refine Def.iter (fun g=>∃d':List α,∃i:Nat,i<=n+1/\Seg a b d d'/\Heap lt d' a i n/\g=(d',ks,(a:Int),0,(n:Int),(i:Int)-1)) (fun g=>(g.2.2.2.2.2+1).toNat) ?_ N _
  ⟨d,(n-1)/2+1,?_,Seg.refl _ _ _,fun p q g1 g2 g3=>by omega,?_⟩ (by show(((n-1)/2:Nat)+1:Int).toNat<N;omega)
 .rintro go _ ⟨d',i,hi,hs,hH,rfl⟩ hgo
  dsimp only
  have hdl:=hs.len
  refine Def.dif (fun e=>?_) (fun e=>?_)
  .obtain ⟨j,rfl⟩:∃j,i=j+1:=⟨i-1,by omega⟩
   rw[show(((j+1:Nat):Int)-1)=(j:Int)from by omega]
   refine Def.bind (sift_def ho N (hC.perm hs.perm) (f:=a) (lo:=j) (hi:=n) (by omega) (by omega) hN (by omega) hH) fun r ⟨h1,h2,_⟩=>?_
   refine Def.ite (by unfold fits;omega) (hgo _ ⟨r,j,by omega,hs.trans (h1.mono (zae _) (by omega)),h2,rfl⟩ (by show((j:Int)-1+1).toNat<((((j+1:Nat):Int)-1)+1).toNat;omega))
  .obtain rfl:i=0:=by omega
   refine Def.ite (by unfold fits;omega) ?_
   refine Def.iter (fun g=>∃d':List α,∃i:Nat,i<=n/\Seg a b d d'/\Heap lt d' a 0 i/\(∀m k,m<k->i<=k->k<n->leO lt d'[a+m]? d'[a+k]?)/\g=(d',ks,(a:Int),0,(i:Int)-1)) (fun g=>(g.2.2.2.2+1).toNat) ?_ N _
    ⟨d',n,zae _,hs,hH,fun m k g1 g2 g3=>by omega,rfl⟩ (by show((n:Int)-1+1).toNat<N;omega)
   rintro go2 _ ⟨d',i,hi,hs,hH,hT,rfl⟩ hgo2
   dsimp only
   have hdl:=hs.len
   refine Def.dif (fun e=>?_) (fun e=>Def.ret ⟨hs,fun m k g1 g2 g3=>?_⟩)
   .obtain ⟨j,rfl⟩:∃j,i=j+1:=⟨i-1,by omega⟩
    rw[show(((j+1:Nat):Int)-1)=(j:Int)from by omega,show((a:Int)+(j:Int))=((a+j:Nat):Int)from by omega]
    refine Def.ite (by unfold fits;omega) (Def.ite (by unfold fits;omega) ?_)
    refine swp_def (by omega) (by omega) fun d2 hw=>?_
    have hs2:=hs.trans (hw.seg (a:=a) (b:=b) (by omega) (by omega) (by omega) (by omega))
    have hd2':=hs2.len
    have hH2:Heap lt d2 a (0+1) j:=fun p q g1 g2 g3=>by
     rw[hw.at',hw.at',zu (by omega),zu (by omega),zu (by omega),zu (by omega)]
     exact hH p q (by omega) g2 (by omega)
    have hT2:∀m k,m<k->j<=k->k<n->leO lt d2[a+m]? d2[a+k]? :=fun m k g1 g2 g3=>by
     rw[hw.at',hw.at']
     by_cases e1:k=j
     .subst e1
      rw[zf rfl,zu (by omega)]
      by_cases e2:m=0
      .subst e2
       rw[zf (by omega)]
       exact hH.top ho k (by omega) (by omega)
      .rw [zu (by omega)]
       exact hH.top ho m (by omega) (by omega)
     .rw [zu (by omega:¬a+k=a+j),zu (by omega:¬a+k=a)]
      by_cases e2:m=j
      .subst e2;rw[zf rfl];exact hT 0 k (by omega) (by omega) g3
      .rw [zu (by omega)]
       by_cases e3:m=0
       .subst e3;rw[zf (by omega)];exact hT j k (by omega) (by omega) g3
       .rw [zu (by omega)];exact hT m k g1 (by omega) g3
    refine Def.bind (sift_def ho N (hC.perm hs2.perm) (f:=a) (lo:=0) (hi:=j) (by omega) (by omega) hN (by omega) hH2) fun r ⟨h1,h2,_⟩=>?_
    refine Def.ite (by unfold fits;omega) (hgo2 _ ⟨r,j,by omega,hs2.trans (h1.mono (zae _) (by omega)),h2,fun m k g1 g2 g3=>?_,rfl⟩ (by show((j:Int)-1+1).toNat<((((j+1:Nat):Int)-1)+1).toNat;omega))
    rw[h1.out (a+k) (by omega)]
    by_cases e1:m<j
    .obtain ⟨m',x1,x2,x3⟩:=h1.inn (a+m) (by omega) (by omega)
     rw[x3,show m'=a+(m'-a)from by omega]
     exact hT2 (m'-a) k (by omega) g2 g3
    .rw [h1.out (a+m) (by omega)]
     exact hT2 m k g1 g2 g3
   .have hi0:i=0:=by omega
    have:=hT (m-a) (k-a) (by omega) (by omega) (by omega)
    rw[show a+(m-a)=m from by omega,show a+(k-a)=k from by omega]at this
    exact this
 .omega
 .rw [show((((n-1)/2+1:Nat)):Int)-1=(((n-1)/2:Nat):Int)from by omega]
end
section
variable {α γ : Type} {c : γ -> α -> α -> Option Int} {lt : α -> α -> Bool} {ks : γ}
def sortG (c:γ->α->α->Option Int) (N:Nat) (x:List α) (ks:γ):Option (List α):=
 Option.bind (k_math_bits_Len_m N (IntKind.u64.wrap (x.length:Int))) fun r=>
  Option.bind (pdqG c (fun d a b ks=>heapG c N d a b ks) (fun d a b p ks=>peqG c N d a b p ks) N N x 0 (x.length:Int) r ks) fun r2=>some r2
theorem sortG_def (ho:WOrd lt) (N:Nat) (hN:N<=16777216) (h5:5<N) (d:List α) (hC:WComp c ks lt d) (hl:d.length<N):
  Def (sortG c N d ks) fun r=>r.Perm d/\r.Pairwise fun x y=>lt y x=false:=by
 have hH:HeapOk c ks lt N (fun d a b ks=>heapG c N d a b ks):=heap_ok ho N (by omega) h5
 have hP:PeOk c ks lt N (fun d a b p ks=>peqG c N d a b p ks):=fun d a b p h1 h2 h3 h4 h5=>peq_def N h1 h2 h3 h4 h5 (by omega)
 unfold sortG
 by_cases h0:d.length=0
 .obtain rfl:d=[]:=zbI.1 h0
  have e:IntKind.u64.wrap (([]:List α).length:Int)=0:=by show IntKind.u64.wrap 0=0;decide
  refine Def.bind (P:=fun r=>r=0) ?_ fun r hr=>?_
  .rw [e];exact⟨0,rfl,rfl⟩
  .subst hr
   refine Def.bind (pdq_def ho N hN h5 _ _ hP N [] 0 0 0 hC (fun h=>by omega) (zae _) (zae _) hl (by omega) (by omega) (.inl hH)) fun r ⟨h1,_⟩=>?_
   have:=List.perm_nil.1 h1.perm
   subst this
   exact Def.ret ⟨List.Perm.refl _,za4⟩
 refine Def.bind (len_bits N d.length (by omega) (by omega)) fun r ⟨n,hn,b1,b2,b3⟩=>?_
 subst hn
 refine Def.bind (pdq_def ho N hN h5 _ _ hP N d 0 d.length n hC (fun h=>by omega) (zaf _) (zae _) hl (by omega) (by omega) (.inl hH)) fun r ⟨h1,h2⟩=>Def.ret ⟨h1.perm,?_⟩
 have hrl:=h1.len
 refine za2.2 fun i j hi hj hij=>?_
 have:=h2 i j (zaf _) hij (by omega)
 rw[zc hi,zc hj]at this
 exact this
structure Ordr (lt:α->α->Bool):Prop where
 asym:∀x y,lt x y=true->lt y x=false
 trans:∀x y z,lt x y=true->lt y z=true->lt x z=true
structure Comp (c:γ->α->α->Option Int) (ks:γ) (lt:α->α->Bool) (d:List α):Prop where
 cmp:∀x,x∈d->∀y,y∈d->Def (c ks x y) fun r=>decide (r<0)=lt x y
 tot:d.Pairwise fun x y=>lt x y=true\/lt y x=true
def rank (lt:α->α->Bool) (d:List α) (x:α):Nat:=(d.filter fun z=>lt z x).length
def ltR (lt:α->α->Bool) (d:List α) (x y:α):Bool:=decide (rank lt d x<rank lt d y)
theorem ltR_ord (lt:α->α->Bool) (d:List α):WOrd (ltR lt d):=by
 refine⟨fun x y h=>?_,fun x y z h k=>?_⟩
 .unfold ltR at*;rw[zw]at h;rw[decide_eq_false_iff_not];omega
 .unfold ltR at*;rw[decide_eq_false_iff_not]at*;omega
theorem rank_lt (ho:Ordr lt) {x y:α} (h:lt x y=true):∀d:List α,rank lt d x<=rank lt d y/\(x∈d->rank lt d x<rank lt d y)
 | []=>⟨zae _,fun h=>by cases h⟩
 |z::d=>by
  obtain⟨h1,h2⟩:=rank_lt ho h d
  unfold rank at*
  rw[za9,za9]
  by_cases e1:lt z x=true
  .have e2:=ho.trans z x y e1 h
   simp only[e1,e2,if_true,zi]
   refine⟨by omega,fun hm=>?_⟩
   rcases zp.1 hm with e|hm
   .exfalso
    subst e
    have:=ho.asym _ _ e1
    rw[e1]at this;cases this
   .have:=h2 hm;omega
  .by_cases e2:lt z y=true
   .simp only [e1,e2,if_true,zi]
    simp only[za7,if_false]
    exact⟨by omega,fun hm=>by omega⟩
   .simp only [e1,e2,za7,if_false]
    refine⟨h1,fun hm=>?_⟩
    rcases zp.1 hm with e|hm
    .exfalso
     subst e
     exact e2 h
    .exact h2 hm
theorem ltR_eq (ho:Ordr lt) {d:List α} (ht:d.Pairwise fun x y=>lt x y=true\/lt y x=true) {x y:α} (hx:x∈d) (hy:y∈d):ltR lt d x y=lt x y:=by
 unfold ltR
 cases e:lt x y
 .rw [decide_eq_false_iff_not]
  intro h
  obtain⟨i,hi,rfl⟩:=zav.1 hx
  obtain⟨j,hj,rfl⟩:=zav.1 hy
  rcases zbl i j with hij|hij|hij
  .rcases za2.1 ht i j hi hj hij with h1|h1
   .rw [e]at h1;cases h1
   .have:=(rank_lt ho h1 d).1;omega
  .subst hij;omega
  .rcases za2.1 ht j i hj hi hij with h1|h1
   .have:=(rank_lt ho h1 d).1;omega
   .rw [e]at h1;cases h1
 .rw [zw]
  exact(rank_lt ho e d).2 hx
theorem sortG_tot (ho:Ordr lt) (N:Nat) (hN:N<=16777216) (h5:5<N) (d:List α) (hC:Comp c ks lt d) (hl:d.length<N):
  Def (sortG c N d ks) fun r=>r.Perm d/\r.Pairwise fun x y=>lt x y=true:=by
 obtain⟨r,hr,hp,hs⟩:=sortG_def (ltR_ord lt d) N hN h5 d (⟨fun x hx y hy=>by
  obtain⟨r,hr,he⟩:=hC.cmp x hx y hy
  exact⟨r,hr,by rw[ltR_eq ho hC.tot hx hy];exact he⟩⟩:WComp c ks (ltR lt d) d) hl
 refine⟨r,hr,hp,?_⟩
 have ht:r.Pairwise fun x y=>lt x y=true\/lt y x=true:=(hp.pairwise_iff (fun {x y} h=>h.symm)).2 hC.tot
 refine za2.2 fun i j hi hj hij=>?_
 have h1:=za2.1 hs i j hi hj hij
 have h2:=za2.1 ht i j hi hj hij
 have mi:=hp.mem_iff.1 (zr hi)
 have mj:=hp.mem_iff.1 (zr hj)
 rw[ltR_eq ho hC.tot mj mi]at h1
 rcases h2 with h2|h2
 .exact h2
 .rw [h1]at h2;cases h2
end
theorem sortEq_105 (N:Nat) (d:List ((List UInt8)×(List UInt8)×(List (Int×(List Int))))) (ks:Unit):k_slices_SortFunc_105_m N d ks=sortG (cmp105 N) N d ks:=rfl
theorem sortAny_105 (lt:((List UInt8)×(List UInt8)×(List (Int×(List Int))))->((List UInt8)×(List UInt8)×(List (Int×(List Int))))->Bool) (ho:Ordr lt) (N:Nat) (hN:N<=16777216) (h5:5<N) (d:List ((List UInt8)×(List UInt8)×(List (Int×(List Int))))) (ks:Unit) (hC:Comp (cmp105 N) ks lt d) (hl:d.length<N):
  Def (k_slices_SortFunc_105_m N d ks) fun r=>r.Perm d/\r.Pairwise fun x y=>lt x y=true:=by
 rw[sortEq_105];exact sortG_tot ho N hN h5 d hC hl
end Go.Proofs.YtkglkigmdmohkaaGreatDoor
