
import Derived.Test.YtnkagklajgimlaaGreatDoorG1
import Derived.Test.YtnkagklajgimlaaGreatDoorQ1
set_option linter.unusedVariables false
set_option linter.unusedSimpArgs false
namespace Go.Proofs.YtnkagklajgimlaaGreatDoor
open Go.RowKit
section
variable {α bX ρ : Type} (c : bX -> α -> α -> Option Int)
end
section
variable {α bX ρ : Type} {c : bX -> α -> α -> Option Int} {lt : α -> α -> Bool} {ks : bX}
structure ih (lt:α->α->Bool):Prop where
 Fs:∀x y,lt x y=true->lt y x=false
 aoI:∀x y z,lt y x=false->lt z y=false->lt z x=false
structure fs (c:bX->α->α->Option Int) (ks:bX) (lt:α->α->Bool) (d:List α):Prop where
 cmp:∀x,x∈d->∀y,y∈d->Def (c ks x y) fun r=>decide (r<0)=lt x y
theorem fs.perm {d a1:List α} (h:fs c ks lt d) (e:a1.Perm d):fs c ks lt a1:=
 ⟨fun x f y hy=>h.cmp x (e.mem_iff.1 f) y (e.mem_iff.1 hy)⟩
def jF (lt:α->α->Bool):Option α->Option α->Prop
 |some x,some y=>lt x y=true
 |_,_=>False
def eW (lt:α->α->Bool):Option α->Option α->Prop
 |some x,some y=>lt y x=false
 |_,_=>False
theorem eW.trans (g:ih lt) {x y z:Option α} (e:eW lt x y) (f:eW lt y z):eW lt x z:=by
 cases x<;>cases y<;>cases z<;>first|exact e.elim|exact f.elim|exact g.aoI _ _ _ e f
theorem jF.le (f:ih lt) {x y:Option α} (e:jF lt x y):eW lt x y:=by
 cases x<;>cases y<;>first|exact e.elim|exact f.Fs _ _ e
theorem jF.not_le {x y:Option α} (e:jF lt x y) (f:eW lt y x):False:=by
 cases x<;>cases y<;>first|exact e.elim|exact f.elim|skip
 have h:lt _ _=true:=e
 have g:lt _ _=false:=f
 rw[h]at g;cases g
theorem fs.other {d:List α} (h:fs c ks lt d) {i j:Nat} (hi:i<d.length) (f:j<d.length) (g:i≠j) (l:¬jF lt d[i]? d[j]?):eW lt d[j]? d[i]? :=by
 rw[bG hi,bG f]at*
 show lt d[i] d[j]=false
 cases e:lt d[i] d[j]
 .rfl
 .exact absurd e l
def gX (lt:α->α->Bool) (d:List α) (a b:Nat):Prop:=∀m n,a<=m->m<n->n<b->eW lt d[m]? d[n]?
structure cL (a b:Nat) (d a1:List α):Prop where
 perm:a1.Perm d
 out:∀m,m<a\/b<=m->a1[m]? =d[m]?
 gB:∀m,a<=m->m<b->∃n,a<=n/\n<b/\a1[m]? =d[n]?
theorem cL.refl (a b:Nat) (d:List α):cL a b d d:=⟨List.Perm.refl _,fun _ _=>rfl,fun m e f=>⟨m,e,f,rfl⟩⟩
theorem cL.trans {a b:Nat} {d e f:List α} (g:cL a b d e) (h:cL a b e f):cL a b d f:=
 ⟨h.perm.trans g.perm,fun m hm=>(h.out m hm).trans (g.out m hm),fun m g1 g2=>by
  obtain⟨n,l,o,p⟩:=h.gB m g1 g2
  obtain⟨k,s,t,u⟩:=g.gB n l o
  exact⟨k,s,t,p.trans u⟩⟩
theorem cL.mono {a b f g:Nat} {d e:List α} (h:cL a b d e) (o:f<=a) (p:b<=g):cL f g d e:=
 ⟨h.perm,fun m hm=>h.out m (by omega),fun m g1 g2=>by
  by_cases e:a<=m/\m<b
  .obtain ⟨n,s,t,l⟩:=h.gB m e.1 e.2
   exact⟨n,by omega,by omega,l⟩
  .exact ⟨m,g1,g2,h.out m (by omega)⟩⟩
theorem cL.len {a b:Nat} {d e:List α} (h:cL a b d e):e.length=d.length:=h.perm.length_eq
structure wM (i j:Nat) (d a1:List α):Prop where
 perm:a1.Perm d
 at':∀m,a1[m]? =if m=j then d[i]? else if m=i then d[j]? else d[m]?
theorem wM.c1 {i j a b:Nat} {d a1:List α} (h:wM i j d a1) (i1:a<=i) (i2:i<b) (g:a<=j) (l:j<b):cL a b d a1:=by
 refine⟨h.perm,fun m hm=>?_,fun m g1 g2=>?_⟩
 .rw [h.at',aC (by omega),aC (by omega)]
 .rw [h.at']
  by_cases e:m=j
  .rw [ai e];exact⟨i,i1,i2,rfl⟩
  .rw [aC e]
   by_cases f:m=i
   .rw [ai f];exact⟨j,g,l,rfl⟩
   .rw [aC f];exact⟨m,g1,g2,rfl⟩
theorem Uv {d:List α} {i j:Nat} (hi:i<d.length) (f:j<d.length):wM i j d ((d.set i d[j]).set j d[i]):=by
 refine⟨List.set_set_perm hi f,fun m=>?_⟩
 rw[List.getElem?_set,List.getElem?_set,pb]
 by_cases e:m=j
 .subst e
  rw[ai rfl,ai f,ai rfl,bG hi]
 .rw [aC (fun h=>e h.symm),aC e]
  by_cases g:m=i
  .subst g
   rw[ai rfl,ai hi,ai rfl,bG f]
  .rw [aC (fun h=>g h.symm),aC g]
theorem p7 {d:List α} {i j:Nat} (hi:i<d.length) (e:j<d.length) {k:List α->Option ρ} {P:ρ->Prop} (h:∀a1,wM i j d a1->Def (k a1) P):Def (nS d (i:Int) (j:Int) k) P:=by
 unfold nS
 simp only[eg,pb]
 rw[ai ⟨by omega,by omega⟩,bG e,ag,ai ⟨by omega,by omega⟩,bG hi,ag,ai ⟨by omega,by omega⟩,ag,ai ⟨by omega,by omega⟩,
  bG (by rw[pb];exact e),ag]
 exact h _ (Uv hi e)
theorem z8 {d:List α} (h:fs c ks lt d) {i j:Nat} (hi:i<d.length) (f:j<d.length) {k:Int->Option ρ} {P:ρ->Prop}
  (l:jF lt d[i]? d[j]? ->∀r,decide (r<0)=true->Def (k r) P) (o:¬jF lt d[i]? d[j]? ->∀r,decide (r<0)=false->Def (k r) P):Def (Option.bind (c ks d[i] d[j]) k) P:=by
 rw[bG hi,bG f]at*
 refine Def.bind (h.cmp _ (br hi) _ (br f)) fun r g=>?_
 by_cases e:lt d[i] d[j]=true
 .exact l e r (g.trans e)
 .exact o e r (g.trans (by simpa using e))
theorem uu {d:List α} (f:fs c ks lt d) {i j:Nat} (hi:i<d.length) (e:j<d.length) {k:Int->Option ρ} {P:ρ->Prop}
  (g:jF lt d[i]? d[j]? ->∀r,decide (r<0)=true->Def (k r) P) (h:¬jF lt d[i]? d[j]? ->∀r,decide (r<0)=false->Def (k r) P):Def (r5 c ks d (i:Int) (j:Int) k) P:=by
 unfold r5
 rw[eg,eg,ai ⟨by omega,by omega⟩,bG hi,ag,ai ⟨by omega,by omega⟩,bG e,ag]
 exact z8 f hi e g h
theorem Aa {d:List α} (g:fs c ks lt d) {j:Nat} (f:j+1<d.length) (o:d.length<=1099511627776) {k:Int->Option ρ} {P:ρ->Prop}
  (h:jF lt d[j+1]? d[j]? ->∀r,decide (r<0)=true->Def (k r) P) (l:¬jF lt d[j+1]? d[j]? ->∀r,decide (r<0)=false->Def (k r) P):Def (uv c ks d ((j+1:Nat):Int) k) P:=by
 have e:j<d.length:=by omega
 unfold uv
 rw[show(((j+1:Nat):Int)-1)=(j:Int)from by omega,eg,eg,ai ⟨by omega,by omega⟩,bG f,ag,ai (by unfold fits;omega),ai ⟨by omega,by omega⟩,bG e,ag]
 exact z8 g f e h l
theorem ED {d:List α} {j:Nat} (e:j+1<d.length) (f:d.length<=1099511627776) {k:List α->Option ρ} {P:ρ->Prop} (h:∀a1,wM (j+1) j d a1->Def (k a1) P):Def (v8 d ((j+1:Nat):Int) k) P:=by
 unfold v8
 refine Def.ite (by unfold fits;omega) (Def.ite (by unfold fits;omega) ?_)
 rw[show(((j+1:Nat):Int)-1)=(j:Int)from by omega]
 exact p7 e (by omega) h
theorem abb (B:ih lt) (N:Nat) {d:List α} {a b:Nat} (C:fs c ks lt d) (F:a<=b) (L:b<=d.length) (M:d.length<N) (O:N<=1099511627776):
  Def (sG c N d (a:Int) (b:Int) ks) fun r=>cL a b d r/\gX lt r a b:=by
 unfold sG
 refine Def.ite (aO (n:=a) (by omega)) ?_
 refine Def.iter (fun g=>∃a1:List α,∃i:Nat,a+1<=i/\(i<=b\/i=a+1)/\cL a b d a1/\gX lt a1 a i/\g=(a1,(a:Int),(b:Int),ks,(i:Int))) (fun g=>b-g.2.2.2.2.toNat) ?_ N _
  ⟨d,a+1,bE _,.inr rfl,cL.refl _ _ _,(fun m n G H t=>by omega),by rw[aS]⟩ (by show b-_<N;omega)
 rintro go _ ⟨a1,i,G,H,h,f,rfl⟩ u
 dsimp only
 have v:=h.len
 refine Def.bO (fun e=>?_) (fun e=>Def.ret ⟨h,fun m n g1 g2 g3=>f m n g1 g2 (by omega)⟩)
 refine Def.iter (fun g=>∃a1:List α,∃j:Nat,a<=j/\j<=i/\cL a b d a1/\(∀m n,a<=m->m<n->n<=i->n≠j->eW lt a1[m]? a1[n]?)/\g=(a1,(a:Int),(b:Int),ks,(i:Int),(j:Int))) (fun g=>g.2.2.2.2.2.toNat) ?_ N _
  ⟨a1,i,by omega,bE _,h,(fun m n g1 g2 g3 g4=>f m n g1 g2 (by omega)),rfl⟩ (by show((i:Int)).toNat<N;omega)
 rintro go2 _ ⟨a1,j,P,Q,h,f,rfl⟩ p
 dsimp only
 have v:=h.len
 have s:=C.perm h.perm
 have stop:(∀m,a<=m->m<j->eW lt a1[m]? a1[j]?)->Def (if fits ((i:Int)+1)then go (a1,(a:Int),(b:Int),ks,(i:Int)+1)else none) fun r=>cL a b d r/\gX lt r a b:=fun I=>by
  refine Def.ite (aO (n:=i) (by omega)) (u _ ⟨a1,i+1,by omega,.inl (by omega),h,fun m n g1 g2 g3=>?_,by rw[aS]⟩ (by show b-((i:Int)+1).toNat<b-((i:Int)).toNat;omega))
  by_cases e:n=j
  .subst e;exact I m g1 g2
  .exact f m n g1 g2 (by omega) e
 refine Def.bO (fun J=>?_) (fun J=>stop fun m g1 g2=>by omega)
 obtain⟨k,rfl⟩:∃k,j=k+1:=⟨j-1,by omega⟩
 refine Aa s (by omega) (by omega) (fun l r A=>?_) (fun l r A=>?_)
 .rw [A,ao]
  refine ED (by omega) (by omega) fun d2 hw=>Def.ite (by unfold fits;omega) (p _ ⟨d2,k,by omega,by omega,h.trans (hw.c1 (by omega) (by omega) (by omega) (by omega)),fun m n g1 g2 g3 g4=>?_,by rw[show(((k+1:Nat):Int)-1)=(k:Int)from by omega]⟩ ?_)
  .rw [hw.at',hw.at']
   by_cases m1:m=k
   .subst m1
    rw[ai rfl,aC g4]
    by_cases o:n=m+1
    .subst o;rw[ai rfl];exact l.le B
    .rw [aC o];exact f (m+1) n (by omega) (by omega) g3 o
   .rw [aC m1,aC g4]
    by_cases m2:m=k+1
    .subst m2
     rw[ai rfl,aC (by omega)]
     exact f k n (by omega) (by omega) g3 (by omega)
    .rw [aC m2]
     by_cases o:n=k+1
     .subst o;rw[ai rfl];exact f m k g1 (by omega) (by omega) (by omega)
     .rw [aC o];exact f m n g1 g2 g3 o
  .show (((k+1:Nat):Int)-1).toNat<((k+1:Nat):Int).toNat
   omega
 .rw [A,aj]
  have t:=s.other (by omega) (by omega) (by omega) l
  refine stop fun m g1 g2=>?_
  by_cases K:m=k
  .subst K;exact t
  .exact (f m k g1 (by omega) (by omega) (by omega)).trans B t
structure Split (lt:α->α->Bool) (a b:Nat) (d:List α) (i j:Nat):Prop where
 i1:a<i
 sE:i<=j+1
 oJ:j<b
 gL:b<=d.length
 low:∀m,a<m->m<i->eW lt d[m]? d[a]?
 high:∀m,j<m->m<b->eW lt d[a]? d[m]?
theorem SX (u:ih lt) (N:Nat) {d:List α} {a b i j:Nat} (v:fs c ks lt d) (h:Split lt a b d i j) (C:d.length<N) (F:N<=1099511627776) {k:(List α×Int×bX×Int×Int)->Option ρ} {P:ρ->Prop}
  (t:∀f,i<=f->Split lt a b d f j->(f<=j->¬jF lt d[f]? d[a]?)->Def (k (d,(a:Int),ks,(f:Int),(j:Int))) P):Def (DL c k N (d,(a:Int),ks,(i:Int),(j:Int))) P:=by
 unfold DL
 have:=h.oJ;have:=h.gL;have:=h.sE
 refine Def.iter (fun g=>∃f:Nat,i<=f/\Split lt a b d f j/\g=(d,(a:Int),ks,(f:Int),(j:Int))) (fun g=>j+1-g.2.2.2.1.toNat) ?_ N _ ⟨i,bE _,h,rfl⟩ (by show j+1-((i:Int)).toNat<N;omega)
 rintro go _ ⟨f,hi,l,rfl⟩ p
 dsimp only
 have A:=l.i1
 refine Def.bO (fun e=>?_) (fun e=>t f hi l (fun h=>by omega))
 refine uu v (by omega) (by omega) (fun o r s=>?_) (fun o r s=>?_)
 .rw [s,ao]
  refine Def.ite (aO (n:=f) (by omega)) (p _ ⟨f+1,by omega,⟨by omega,by omega,l.oJ,l.gL,fun m g1 g2=>?_,l.high⟩,by rw[aS]⟩ (by show j+1-((f:Int)+1).toNat<j+1-((f:Int)).toNat;omega))
  by_cases B:m=f
  .subst B;exact o.le u
  .exact l.low m g1 (by omega)
 .rw [s,aj]
  exact t f hi l (fun _=>o)
theorem SV (N:Nat) {d:List α} {a b i j:Nat} (t:fs c ks lt d) (h:Split lt a b d i j) (F:d.length<N) (G:N<=1099511627776) {k:(List α×Int×bX×Int×Int)->Option ρ} {P:ρ->Prop}
  (u:∀f,f<=j->Split lt a b d i f->(i<=f->jF lt d[f]? d[a]?)->Def (k (d,(a:Int),ks,(i:Int),(f:Int))) P):Def (DJ c k N (d,(a:Int),ks,(i:Int),(j:Int))) P:=by
 unfold DJ
 have:=h.oJ;have:=h.gL;have:=h.sE;have A:=h.i1
 refine Def.iter (fun g=>∃f:Nat,f<=j/\Split lt a b d i f/\g=(d,(a:Int),ks,(i:Int),(f:Int))) (fun g=>g.2.2.2.2.toNat) ?_ N _ ⟨j,bE _,h,rfl⟩ (by show((j:Int)).toNat<N;omega)
 rintro go _ ⟨f,v,o,rfl⟩ p
 dsimp only
 refine Def.bO (fun e=>?_) (fun e=>u f v o (fun h=>by omega))
 refine uu t (by omega) (by omega) (fun l r s=>?_) (fun l r s=>?_)
 .rw [s,bf,aj]
  exact u f v o (fun _=>l)
 .rw [s,dH,ao]
  obtain⟨q,rfl⟩:∃q,f=q+1:=⟨f-1,by omega⟩
  have B:=t.other (by omega) (by omega) (by omega) l
  refine Def.ite (by unfold fits;omega) (p _ ⟨q,by omega,⟨o.i1,by omega,by omega,o.gL,o.low,fun m g1 g2=>?_⟩,by rw[show(((q+1:Nat):Int)-1)=(q:Int)from by omega]⟩ (by show(((q+1:Nat):Int)-1).toNat<((q+1:Nat):Int).toNat;omega))
  by_cases C:m=q+1
  .subst C;exact B
  .exact o.high m (by omega) g2
structure tV (lt:α->α->Bool) (a b k:Nat) (d:List α):Prop where
 Lo:a<=k
 anx:k<b
 low:∀m,a<=m->m<k->eW lt d[m]? d[k]?
 high:∀m,k<m->m<b->eW lt d[k]? d[m]?
theorem SW {d:List α} {a b i j:Nat} (C:ih lt) (F:fs c ks lt d) (h:Split lt a b d i j) (v:i<=j->¬jF lt d[i]? d[a]?) (A:i<=j->jF lt d[j]? d[a]?) (L:d.length<=1099511627776)
  {l:(List α×Int×bX×Int×Int)->Option (Int×Bool×List α)} {e2:Bool} {P:(Int×Bool×List α)->Prop}
  (o:∀a1,cL a b d a1->tV lt a b j a1->P ((j:Int),e2,a1)) (s:∀a1 t,t+2<=j+1->i<j->cL a b d a1->Split lt a b a1 (i+1) t->Def (l (a1,(a:Int),ks,((i+1:Nat):Int),(t:Int))) P):
  Def (DK l e2 (d,(a:Int),ks,(i:Int),(j:Int))) P:=by
 unfold DK
 dsimp only
 have G:=h.i1;have H:=h.sE;have u:=h.oJ;have I:=h.gL
 refine Def.bO (fun e=>?_) (fun e=>?_)
 .refine p7 (by omega) (by omega) fun a1 hw=>Def.ret (o a1 (hw.c1 (by omega) (by omega) (by omega) (by omega)) ⟨by omega,u,fun m g1 g2=>?_,fun m g1 g2=>?_⟩)
  .rw [hw.at' m,hw.at' j]
   by_cases g:m=a
   .subst g
    rw[ai rfl,aC (by omega),ai rfl]
    exact h.low j (by omega) (by omega)
   .rw [aC g,aC (by omega)]
    by_cases p:j=a
    .omega
    .rw [aC p,ai rfl];exact h.low m (by omega) (by omega)
  .rw [hw.at' m,aC (by omega:¬m=a),aC (by omega:¬m=j),hw.at' j]
   by_cases p:j=a
   .subst p;rw[ai rfl];exact h.high m g1 g2
   .rw [aC p,ai rfl];exact h.high m g1 g2
 .have f:i<=j:=by omega
  have J:i≠j:=by
   rintro rfl
   exact v f (A f)
  obtain⟨q,rfl⟩:∃q,j=q+1:=⟨j-1,by omega⟩
  refine p7 (by omega) (by omega) fun a1 hw=>Def.ite (aO (n:=i) (by omega)) (Def.ite (by unfold fits;omega) ?_)
  rw[<-aS,show(((q+1:Nat):Int)-1)=(q:Int)from by omega]
  have K:=hw.perm.length_eq
  have B:a1[a]? =d[a]? :=by rw[hw.at',aC (by omega),aC (by omega)]
  refine s a1 q (by omega) (by omega) (hw.c1 (by omega) (by omega) (by omega) (by omega)) ⟨by omega,by omega,by omega,by omega,fun m g1 g2=>?_,fun m g1 g2=>?_⟩
  .rw [B,hw.at' m,aC (by omega)]
   by_cases g:m=i
   .rw [ai g];exact(A f).le C
   .rw [aC g];exact h.low m g1 (by omega)
  .rw [B,hw.at' m]
   by_cases g:m=q+1
   .rw [ai g]
    exact F.other (by omega) (by omega) (by omega) (v f)
   .rw [aC g,aC (by omega)];exact h.high m (by omega) g2
theorem apc (v:ih lt) (N:Nat) {d:List α} {a b p:Nat} (O:fs c ks lt d) (C:a<=p) (F:p<b) (av:b<=d.length) (bK:d.length<N) (A:N<=1099511627776):
  Def (p1 c N d (a:Int) (b:Int) (p:Int) ks) fun r=>∃k:Nat,r.1=(k:Int)/\cL a b d r.2.2/\tV lt a b k r.2.2:=by
 unfold p1
 refine p7 (by omega) (by omega) fun d1 G=>Def.ite (aO (n:=a) (by omega)) (Def.ite (by unfold fits;omega) ?_)
 have f:=G.c1 (a:=a) (b:=b) (by omega) (by omega) C F
 have h:=O.perm f.perm
 have P:=f.len
 obtain⟨q,rfl⟩:∃q,b=q+1:=⟨b-1,by omega⟩
 rw[<-aS,show(((q+1:Nat):Int)-1)=(q:Int)from by omega]
 have Q:Split lt a (q+1) d1 (a+1) q:=⟨by omega,by omega,by omega,by omega,fun m g1 g2=>by omega,fun m g1 g2=>by omega⟩
 refine SX v N h Q (by omega) A fun i hi H S=>?_
 refine SV N h H (by omega) A fun j bV o I=>?_
 refine SW v h o (fun e=>S (by omega)) I (by omega) (fun a1 g1 g2=>⟨j,rfl,f.trans g1,g2⟩) fun d2 s T _ gs J=>?_
 have U:=o.oJ
 refine Def.iter (fun g=>∃a1:List α,∃i j:Nat,cL a (q+1) d a1/\Split lt a (q+1) a1 i j/\g=(a1,(a:Int),ks,(i:Int),(j:Int))) (fun g=>g.2.2.2.2.toNat) ?_ N _ ⟨d2,i+1,s,f.trans gs,J,rfl⟩ (by show((s:Int)).toNat<N;omega)
 rintro go _ ⟨a1,i,j,B,H,rfl⟩ K
 have l:=O.perm B.perm
 have V:=B.len
 refine SX v N l H (by omega) A fun W X L M=>?_
 refine SV N l L (by omega) A fun Y Z t u=>?_
 refine SW v l t (fun e=>M (by omega)) u (by omega) (fun a1 g1 g2=>⟨Y,rfl,B.trans g1,g2⟩) fun d2 s T atd gs J=>?_
 exact K _ ⟨d2,W+1,s,B.trans gs,J,rfl⟩ (by show((s:Int)).toNat<((j:Int)).toNat;omega)
structure Alike (lt:α->α->Bool) (a b:Nat) (d:List α) (i j:Nat):Prop where
 i1:a<i
 sE:i<=j+1
 oJ:j<b
 gL:b<=d.length
 low:∀m,a<m->m<i->eW lt d[m]? d[a]?
theorem apf (N:Nat) {d:List α} {a b i j:Nat} (t:fs c ks lt d) (h:Alike lt a b d i j) (C:d.length<N) (F:N<=1099511627776) {k:(List α×Int×bX×Int×Int)->Option ρ} {P:ρ->Prop}
  (u:∀f,i<=f->Alike lt a b d f j->(f<=j->jF lt d[a]? d[f]?)->Def (k (d,(a:Int),ks,(f:Int),(j:Int))) P):Def (J7 c k N (d,(a:Int),ks,(i:Int),(j:Int))) P:=by
 unfold J7
 have:=h.oJ;have:=h.gL;have:=h.sE
 refine Def.iter (fun g=>∃f:Nat,i<=f/\Alike lt a b d f j/\g=(d,(a:Int),ks,(f:Int),(j:Int))) (fun g=>j+1-g.2.2.2.1.toNat) ?_ N _ ⟨i,bE _,h,rfl⟩ (by show j+1-((i:Int)).toNat<N;omega)
 rintro go _ ⟨f,hi,o,rfl⟩ p
 dsimp only
 have v:=o.i1
 refine Def.bO (fun e=>?_) (fun e=>u f hi o (fun h=>by omega))
 refine uu t (by omega) (by omega) (fun l r s=>?_) (fun l r s=>?_)
 .rw [s,bf,aj]
  exact u f hi o (fun _=>l)
 .rw [s,dH,ao]
  have A:=t.other (by omega) (by omega) (by omega) l
  refine Def.ite (aO (n:=f) (by omega)) (p _ ⟨f+1,by omega,⟨by omega,by omega,o.oJ,o.gL,fun m g1 g2=>?_⟩,by rw[aS]⟩ (by show j+1-((f:Int)+1).toNat<j+1-((f:Int)).toNat;omega))
  by_cases B:m=f
  .subst B;exact A
  .exact o.low m g1 (by omega)
theorem ape (N:Nat) {d:List α} {a b i j:Nat} (v:fs c ks lt d) (h:Alike lt a b d i j) (B:d.length<N) (C:N<=1099511627776) {k:(List α×Int×bX×Int×Int)->Option ρ} {P:ρ->Prop}
  (t:∀f,f<=j->Alike lt a b d i f->(i<=f->¬jF lt d[a]? d[f]?)->Def (k (d,(a:Int),ks,(i:Int),(f:Int))) P):Def (J6 c k N (d,(a:Int),ks,(i:Int),(j:Int))) P:=by
 unfold J6
 have:=h.oJ;have:=h.gL;have:=h.sE;have A:=h.i1
 refine Def.iter (fun g=>∃f:Nat,f<=j/\Alike lt a b d i f/\g=(d,(a:Int),ks,(i:Int),(f:Int))) (fun g=>g.2.2.2.2.toNat) ?_ N _ ⟨j,bE _,h,rfl⟩ (by show((j:Int)).toNat<N;omega)
 rintro go _ ⟨f,u,l,rfl⟩ p
 dsimp only
 refine Def.bO (fun e=>?_) (fun e=>t f u l (fun h=>by omega))
 refine uu v (by omega) (by omega) (fun o r s=>?_) (fun o r s=>?_)
 .rw [s,ao]
  obtain⟨q,rfl⟩:∃q,f=q+1:=⟨f-1,by omega⟩
  refine Def.ite (by unfold fits;omega) (p _ ⟨q,by omega,⟨l.i1,by omega,by omega,l.gL,l.low⟩,by rw[show(((q+1:Nat):Int)-1)=(q:Int)from by omega]⟩ (by show(((q+1:Nat):Int)-1).toNat<((q+1:Nat):Int).toNat;omega))
 .rw [s,aj]
  exact t f u l (fun _=>o)
theorem apg (N:Nat) {d:List α} {a b p:Nat} (P:fs c ks lt d) (F:a<=p) (G:p<b) (av:b<=d.length) (bK:d.length<N) (M:N<=1099511627776):
  Def (mN c N d (a:Int) (b:Int) (p:Int) ks) fun r=>∃k:Nat,r.1=(k:Int)/\a<k/\k<=b/\cL a b d r.2/\r.2[a]? =d[p]? /\∀m,a<m->m<k->eW lt r.2[m]? d[p]? :=by
 unfold mN
 refine p7 (by omega) (by omega) fun d1 o=>Def.ite (aO (n:=a) (by omega)) (Def.ite (by unfold fits;omega) ?_)
 have s:=o.c1 (a:=a) (b:=b) (by omega) (by omega) F G
 have Q:=s.len
 have H:d1[a]? =d[p]? :=by
  rw[o.at']
  by_cases e:a=p
  .subst e;rw[ai rfl]
  .rw [aC e,ai rfl]
 obtain⟨q,rfl⟩:∃q,b=q+1:=⟨b-1,by omega⟩
 rw[<-aS,show(((q+1:Nat):Int)-1)=(q:Int)from by omega]
 have S:Alike lt a (q+1) d1 (a+1) q:=⟨by omega,by omega,by omega,by omega,fun m g1 g2=>by omega⟩
 refine Def.iter (fun g=>∃a1:List α,∃i j:Nat,cL a (q+1) d a1/\a1[a]? =d[p]? /\Alike lt a (q+1) a1 i j/\g=(a1,(a:Int),ks,(i:Int),(j:Int))) (fun g=>g.2.2.2.2.toNat) ?_ N _ ⟨d1,a+1,q,s,H,S,rfl⟩ (by show((q:Int)).toNat<N;omega)
 rintro go _ ⟨a1,i,j,B,I,T,rfl⟩ J
 have h:=P.perm B.perm
 have U:=B.len
 refine apf N h T (by omega) M fun l V K L=>?_
 refine ape N h K (by omega) M fun C W f u=>?_
 unfold SZ
 dsimp only
 have X:=f.i1;have jH:=f.sE;have mP:=f.oJ;have jI:=f.gL
 refine Def.bO (fun e=>Def.ret ⟨l,rfl,X,by omega,B,I,fun m g1 g2=>I▸f.low m g1 g2⟩) (fun e=>?_)
 have v:l<=C:=by omega
 have Y:l≠C:=fun e=>by subst e;exact u v (L (by omega))
 obtain⟨t,rfl⟩:∃t,C=t+1:=⟨C-1,by omega⟩
 refine p7 (by omega) (by omega) fun d2 hw=>Def.ite (aO (n:=l) (by omega)) (Def.ite (by unfold fits;omega) ?_)
 rw[<-aS,show(((t+1:Nat):Int)-1)=(t:Int)from by omega]
 have Z:=hw.perm.length_eq
 have A:d2[a]? =a1[a]? :=by rw[hw.at',aC (by omega),aC (by omega)]
 refine J _ ⟨d2,l+1,t,B.trans (hw.c1 (by omega) (by omega) (by omega) (by omega)),A.trans I,⟨by omega,by omega,by omega,by omega,fun m g1 g2=>?_⟩,rfl⟩ (by show((t:Int)).toNat<((j:Int)).toNat;omega)
 rw[A,hw.at' m,aC (by omega)]
 by_cases O:m=l
 .rw [ai O];exact h.other (by omega) (by omega) (by omega) (u v)
 .rw [aC O];exact f.low m g1 (by omega)
end
def Dh :List UInt8:=[0,1,2,2,3,3,3,3,4,4,4,4,4,4,4,4,5,5,5,5,5,5,5,5,5,5,5,5,5,5,5,5,6,6,6,6,6,6,6,6,6,6,6,6,6,6,6,6,6,6,6,6,6,6,6,6,6,6,6,6,6,6,6,6,7,7,7,7,7,7,7,7,7,7,7,7,7,7,7,7,7,7,7,7,7,7,7,7,7,7,7,7,7,7,7,7,7,7,7,7,7,7,7,7,7,7,7,7,7,7,7,7,7,7,7,7,7,7,7,7,7,7,7,7,7,7,7,7,8,8,8,8,8,8,8,8,8,8,8,8,8,8,8,8,8,8,8,8,8,8,8,8,8,8,8,8,8,8,8,8,8,8,8,8,8,8,8,8,8,8,8,8,8,8,8,8,8,8,8,8,8,8,8,8,8,8,8,8,8,8,8,8,8,8,8,8,8,8,8,8,8,8,8,8,8,8,8,8,8,8,8,8,8,8,8,8,8,8,8,8,8,8,8,8,8,8,8,8,8,8,8,8,8,8,8,8,8,8,8,8,8,8,8,8,8,8,8,8,8,8,8,8,8,8,8,8]
theorem arE :∀t:Nat,t<256->(match idx Dh (IntKind.u8.wrap (t:Int))with|some e=>decide (t=0\/2^e.toNat<=2*t)&&decide (t<2^e.toNat)&&decide (e.toNat<=8)&&decide (IntKind.i64.wrap (e.toNat:Int)=(e.toNat:Int))|none=>false)=true:=by decide+kernel
theorem arF (t:Nat) (h:t<256):∃e:UInt8,idx Dh (IntKind.u8.wrap (t:Int))=some e/\(t=0\/2^e.toNat<=2*t)/\t<2^e.toNat/\e.toNat<=8/\IntKind.i64.wrap (e.toNat:Int)=(e.toNat:Int):=by
 have:=arE t h
 cases he:idx Dh (IntKind.u8.wrap (t:Int))with
 |none=>rw[he]at this;cases this
 |some e=>
  rw[he]at this
  simp only[a6,bo]at this
  exact⟨e,rfl,this.1.1.1,this.1.1.2,this.1.2,this.2⟩
theorem an0 (N:Nat) (x:Nat) (F:1<=x) (h:x<16777216):Def (C3 N (x:Int)) fun r=>∃n:Nat,r=(n:Int)/\2^n<=2*x/\x<2^n/\n<=24:=by
 have fin:∀(M:Int) (t m:Nat) (g:M=(m:Int)) (p:t<256) (hm:m<=16) (l:1<=t) (s:t=x/2^m),
   Def (Option.bind (idx Dh (IntKind.u8.wrap (t:Int))) fun(e:UInt8)=>(if fits (M+(IntKind.i64.wrap (e.toNat:Int)))then(some (M+(IntKind.i64.wrap (e.toNat:Int))))else none)) fun r=>∃n:Nat,r=(n:Int)/\2^n<=2*x/\x<2^n/\n<=24:=fun M t m g p hm l s=>by
  subst g
  obtain⟨e,u,f,G,H,v⟩:=arF t p
  rw[u,ag,v]
  refine Def.ite (by unfold fits;omega) (Def.ret ⟨m+e.toNat,by omega,?_,?_,by omega⟩)
  .have f:=f.resolve_left (by omega)
   have:2^m*(x/2^m)<=x:=Nat.mul_div_le x (2^m)
   rw[Nat.pow_add]
   calc 2^m*2^e.toNat<=2^m*(2*t):=Nat.mul_le_mul_left _ f
    _=2*(2^m*(x/2^m)):=by rw[s,Nat.mul_left_comm]
    _<=2*x:=by omega
  .have A:0<2^m:=Nat.two_pow_pos m
   have B:x<2^m*(x/2^m+1):=Nat.lt_mul_div_succ x A
   rw[Nat.pow_add]
   exact mc B (Nat.mul_le_mul_left _ (by omega))
 unfold C3 meet
 dsimp only
 have o:(2:Int)^(min (16:Int).toNat (IntKind.bits .u64))=65536:=by decide
 have C:(2:Int)^(min (8:Int).toNat (IntKind.bits .u64))=256:=by decide
 have d16:((x:Int).fdiv 65536)=((x/65536:Nat):Int):=by rw[E5 _ (by omega)];omega
 have d8:((x:Int).fdiv 256)=((x/256:Nat):Int):=by rw[E5 _ (by omega)];omega
 refine Def.bO (fun e=>by omega) (fun _=>?_)
 refine Def.bO (fun e=>?_) (fun e=>?_)
 .rw [o,d16]
  refine Def.ite (by omega) (Def.ite (by unfold fits;omega) (Def.bO (fun f=>by omega) (fun f=>?_)))
  exact fin (0+16) (x/65536) 16 (by omega) (by omega) (by omega) (by omega) (by omega)
 .refine Def.bO (fun f=>?_) (fun f=>?_)
  .rw [C,d8]
   refine Def.ite (by omega) (Def.ite (by unfold fits;omega) ?_)
   exact fin (0+8) (x/256) 8 (by omega) (by omega) (by omega) (by omega) (by omega)
  .exact fin 0 x 0 (by omega) (by omega) (by omega) (by omega) (by omega)
theorem wrap_u64 {n:Int} (e:0<=n) (f:n<18446744073709551616):IntKind.u64.wrap n=n:=by
 have:IntKind.u64.wrap n=n%18446744073709551616:=by simp[IntKind.wrap,IntKind.bits,IntKind.signed]
 rw[this];omega
theorem wrap_i64 {n:Int} (f:0<=n) (g:n<9223372036854775808):IntKind.i64.wrap n=n:=by
 simp only[IntKind.wrap,IntKind.bits,IntKind.signed]
 simp only[show((2:Int)^64)=18446744073709551616 by rfl,show((2:Int)^(64-1))=9223372036854775808 by rfl]
 have e:n%18446744073709551616=n:=wz f (by omega)
 rw[e]
 have:¬(n≥9223372036854775808):=by omega
 simp[this]
theorem R4 (N:Nat) (x:Nat) (e:1<=x) (h:x<16777216):Def (pQ N (IntKind.u64.wrap (x:Int))) fun r=>∃n:Nat,r=(n:Int)/\2^n<=2*x/\x<2^n/\n<=24:=by
 unfold pQ
 rw[wrap_u64 (by omega) (by omega)]
 exact Def.bind (an0 N x e h) fun r f=>Def.ret f
theorem aoG (N:Nat) (x:Nat) (f:1<=x) (h:x<16777216):Def (C9 N (x:Int)) fun r=>1<=r/\r<=2*x:=by
 unfold C9
 refine Def.bind (R4 N x f h) fun r ⟨n,g,o,p,s⟩=>?_
 subst g
 refine Def.ite (by omega) (Def.ret ?_)
 have e:min ((n:Int)).toNat (IntKind.bits .u64)=n:=by
  show min n 64=n
  omega
 have t:0<2^n:=Nat.two_pow_pos n
 have l:((1:Int)*2^n)=((2^n:Nat):Int):=by rw[Int.one_mul];norm_cast
 rw[e,l,wrap_u64 (by omega) (by omega)]
 omega
theorem Wr (x y:Int) (f:0<=y) (g:y<9223372036854775808):0<=ey .and .u64 x y/\ey .and .u64 x y<=y:=by
 have hy:(BitVec.ofInt 64 y).toNat=y.toNat:=by
  rw[BitVec.toNat_ofInt]
  omega
 have hle:(BitVec.ofInt 64 x&&&BitVec.ofInt 64 y).toNat<=y.toNat:=by
  rw[BitVec.toNat_and,hy]
  exact Nat.and_le_right
 have e:ey .and .u64 x y=((BitVec.ofInt 64 x&&&BitVec.ofInt 64 y).toNat:Int):=by
  show IntKind.u64.wrap _=_
  exact wrap_u64 (by omega) (by show(((BitVec.ofInt 64 x&&&BitVec.ofInt 64 y).toNat:Nat):Int)<_;omega)
 rw[e]
 omega
section
variable {α bX ρ : Type} {c : bX -> α -> α -> Option Int} {lt : α -> α -> Bool} {ks : bX}
theorem p9 (n m:Nat):((n:Int)).tdiv (m:Int)=((n/m:Nat):Int):=rfl
theorem WS (N:Nat) {d:List α} {a b:Nat} (t:a<=b) (H:b<=d.length) (I:d.length<N) (K:d.length<16777216):
  Def (r3 N d (a:Int) (b:Int) ks) fun r=>cL a b d r:=by
 unfold r3
 rw[show((b:Int)-(a:Int))=((b-a:Nat):Int)from by omega]
 generalize L:b-a=n
 refine Def.ite (by unfold fits;omega) (Def.bO (fun e=>?_) (fun e=>Def.ret (cL.refl _ _ _)))
 refine Def.bind (aoG N n (by omega) (by omega)) fun r ⟨u,v⟩=>?_
 have t4:((n:Int)).tdiv 4=((n/4:Nat):Int):=rfl
 rw[t4]
 refine Def.ite (by omega) (Def.ite (by unfold fits;omega) (Def.ite (by unfold fits;omega) (Def.ite (by unfold fits;omega) (Def.ite (by unfold fits;omega) ?_))))
 refine Def.iter (fun g=>∃a1:List α,∃i:Nat,∃f:Int,cL a b d a1/\a<=i/\g=(a1,(a:Int),(n:Int),r,(i:Int),f)) (fun g=>b-g.2.2.2.2.1.toNat) ?_ N _ ⟨d,a+n/4*2-1,IntKind.u64.wrap (n:Int),cL.refl _ _ _,by omega,?_⟩ (by show b-_<N;omega)
 .rintro go _ ⟨a1,i,f,l,A,rfl⟩ p
  dsimp only
  rw[t4]
  have B:=l.len
  refine Def.ite (by omega) (Def.ite (by unfold fits;omega) (Def.ite (by unfold fits;omega) (Def.ite (by unfold fits;omega) (Def.ite (by unfold fits;omega) (Def.bO (fun C=>?_) (fun C=>Def.ret l))))))
  refine Def.bind (P:=fun _=>True) ?_ fun h _=>?_
  .unfold I7
   exact Def.ite (by omega) (Def.ite (by omega) (Def.ite (by omega) (Def.ret True.intro)))
  have hm:=Wr h.1 (IntKind.u64.wrap (r-1)) (by rw[wrap_u64 (by omega) (by omega)];omega) (by rw[wrap_u64 (by omega) (by omega)];omega)
  have F:IntKind.u64.wrap (r-1)=r-1:=wrap_u64 (by omega) (by omega)
  rw[wrap_i64 hm.1 (by omega)]
  generalize ey .and .u64 h.1 (IntKind.u64.wrap (r-1))=m at*
  refine Def.meet (fun g=>∃o:Nat,∃f:Int,o<n/\g=(a1,(a:Int),(n:Int),r,(i:Int),(o:Int),f)) ?_ fun J s=>?_
  .rintro _ ⟨o,f,M,rfl⟩
   dsimp only
   refine Def.ite (by unfold fits;omega) (Def.ite (by unfold fits;omega) ?_)
   rw[show((a:Int)+(o:Int))=((a+o:Nat):Int)from by omega]
   refine p7 (by omega) (by omega) fun d2 hw=>Def.ite (aO (n:=i) (by omega)) (p _ ⟨d2,i+1,f,l.trans (hw.c1 (by omega) (by omega) (by omega) (by omega)),by omega,by rw[aS]⟩ (by show b-((i:Int)+1).toNat<b-((i:Int)).toNat;omega))
  .refine Def.bO (fun G=>?_) (fun G=>?_)
   .refine Def.ite (by unfold fits;omega) (s _ ⟨(m-n).toNat,h.2,by omega,?_⟩)
    rw[qj (by omega)]
   .refine s _ ⟨m.toNat,h.2,by omega,?_⟩
    rw[qj (by omega)]
 .rw [show(((a+n/4*2-1:Nat)):Int)=(a:Int)+((n/4:Nat):Int)*2-1 from by omega]
theorem aqq (N:Nat) {d:List α} {a b:Nat} (l:a<b) (p:b<=d.length) (s:d.length<N) (t:N<=1099511627776):
  Def (tq N d (a:Int) (b:Int) ks) fun r=>cL a b d r:=by
 unfold tq
 refine Def.ite (by unfold fits;omega) ?_
 refine Def.iter (fun g=>∃a1:List α,∃i j:Nat,cL a b d a1/\a<=i/\j<b/\g=(a1,(i:Int),(j:Int))) (fun g=>g.2.2.toNat) ?_ N _ ⟨d,a,b-1,cL.refl _ _ _,bE _,by omega,by rw[show((b-1:Nat):Int)=(b:Int)-1 from by omega]⟩ (by show((b:Int)-1).toNat<N;omega)
 rintro go _ ⟨a1,i,j,f,hi,u,rfl⟩ h
 dsimp only
 have o:=f.len
 refine Def.bO (fun e=>?_) (fun e=>Def.ret f)
 refine p7 (by omega) (by omega) fun d2 hw=>Def.ite (aO (n:=i) (by omega)) (Def.ite (by unfold fits;omega) (h _ ⟨d2,i+1,j-1,f.trans (hw.c1 (by omega) (by omega) (by omega) (by omega)),by omega,by omega,by rw[aS,show((j-1:Nat):Int)=(j:Int)-1 from by omega]⟩ (by show((j:Int)-1).toNat<((j:Int)).toNat;omega)))
def In (a b:Nat) (n:Int):Prop:=∃k:Nat,n=(k:Int)/\a<=k/\k<b
theorem J1 (N:Nat) {d:List α} {a b:Nat} (h:fs c ks lt d) (o:b<=d.length) {i j s:Int} (hi:In a b i) (l:In a b j) (p:0<=s) (t:s<=1000):
  Def (p0 c N d i j ks s) fun r=>In a b r.1/\In a b r.2.1/\r.2.2.1=d/\s<=r.2.2.2/\r.2.2.2<=s+1:=by
 obtain⟨i,rfl,i1,i2⟩:=hi
 obtain⟨j,rfl,f,g⟩:=l
 unfold p0
 refine uu h (by omega) (by omega) (fun _ r e=>?_) (fun _ r e=>?_)
 .rw [e,ao]
  exact Def.ite (by unfold fits;omega) (Def.ret ⟨⟨j,rfl,f,g⟩,⟨i,rfl,i1,i2⟩,rfl,by dsimp only;omega,by dsimp only;omega⟩)
 .rw [e,aj]
  exact Def.ret ⟨⟨i,rfl,i1,i2⟩,⟨j,rfl,f,g⟩,rfl,by dsimp only;omega,by dsimp only;omega⟩
theorem Sm (N:Nat) {d:List α} {a b:Nat} (e:fs c ks lt d) (f:b<=d.length) {i j k s:Int} (hi:In a b i) (g:In a b j) (h:In a b k) (l:0<=s) (p:s<=900):
  Def (rl c N d i j k ks s) fun r=>In a b r.1/\r.2.1=d/\s<=r.2.2/\r.2.2<=s+3:=by
 unfold rl
 refine Def.bind (J1 N e f hi g l (by omega)) fun r ⟨o,a2,a3,a4,a5⟩=>?_
 rw[a3]
 refine Def.bind (J1 N e f a2 h (by omega) (by omega)) fun t ⟨ew,a8,fF,u,v⟩=>?_
 rw[fF]
 refine Def.bind (J1 N e f o ew (by omega) (by omega)) fun A ⟨B,c2,c3,c4,c5⟩=>?_
 exact Def.ret ⟨c2,c3,by dsimp only;omega,by dsimp only;omega⟩
theorem Jy (N:Nat) {d:List α} {a b:Nat} (e:fs c ks lt d) (f:b<=d.length) (o:d.length<=1099511627776) {i s:Int} (hi:(a:Int)+1<=i/\i+1<b) (g:0<=s) (h:s<=900):
  Def (pR c N d i ks s) fun r=>In a b r.1/\r.2.1=d/\s<=r.2.2/\r.2.2<=s+3:=by
 unfold pR
 refine Def.ite (by unfold fits;omega) (Def.ite (by unfold fits;omega) ?_)
 refine Def.bind (Sm N e f ⟨(i-1).toNat,by omega,by omega,by omega⟩ ⟨i.toNat,by omega,by omega,by omega⟩ ⟨(i+1).toNat,by omega,by omega,by omega⟩ g h) fun r l=>Def.ret l
theorem W6 (N:Nat) {d:List α} {a b:Nat} (l:fs c ks lt d) (B:a<b) (o:b<=d.length) (p:d.length<=1099511627776):
  Def (r4 c N d (a:Int) (b:Int) ks) fun r=>In a b r.1/\r.2.2=d:=by
 unfold r4
 rw[show((b:Int)-(a:Int))=((b-a:Nat):Int)from by omega]
 generalize I:b-a=n
 have t4:((n:Int)).tdiv 4=((n/4:Nat):Int):=rfl
 rw[t4]
 refine Def.ite (by unfold fits;omega) (Def.ite (by omega) (Def.ite (by unfold fits;omega) (Def.ite (by unfold fits;omega) (Def.ite (by unfold fits;omega) (Def.ite (by omega)
  (Def.ite (by unfold fits;omega) (Def.ite (by unfold fits;omega) (Def.ite (by unfold fits;omega) (Def.ite (by omega) (Def.ite (by unfold fits;omega) (Def.ite (by unfold fits;omega) (Def.ite (by unfold fits;omega) ?_))))))))))))
 refine Def.meet (fun g=>∃j s,In a b j/\g=(d,j,s)) ?_ fun J v=>?_
 .rintro _ ⟨j,s,f,rfl⟩
  dsimp only
  exact Def.bO (fun _=>Def.ret ⟨f,rfl⟩) (fun _=>Def.bO (fun _=>Def.ret ⟨f,rfl⟩) (fun _=>Def.ret ⟨f,rfl⟩))
 .refine Def.bO (fun e=>?_) (fun e=>v _ ⟨_,_,⟨a+n/4*2,by omega,by omega,by omega⟩,rfl⟩)
  refine Def.meet (fun g=>∃i j k s,In a b i/\In a b j/\In a b k/\0<=s/\s<=900/\g=(d,ks,i,j,k,s)) ?_ fun K h=>?_
  .rintro _ ⟨i,j,k,s,hi,f,C,F,s1,rfl⟩
   dsimp only
   refine Def.bind (Sm N l o hi f C F s1) fun r ⟨t,u,_,_⟩=>v _ ⟨_,_,t,by rw[u]⟩
  .refine Def.bO (fun G=>?_) (fun G=>h _ ⟨_,_,_,_,⟨a+n/4*1,by omega,by omega,by omega⟩,⟨a+n/4*2,by omega,by omega,by omega⟩,⟨a+n/4*3,by omega,by omega,by omega⟩,ic _,by omega,rfl⟩)
   refine Def.bind (Jy (a:=a) (b:=b) N l o p (by omega) (ic _) (by omega)) fun r ⟨t,u,L,M⟩=>?_
   rw[u]
   refine Def.bind (Jy (a:=a) (b:=b) N l o p (by omega) (by omega) (by omega)) fun H ⟨g1,g2,g3,g4⟩=>?_
   rw[g2]
   refine Def.bind (Jy (a:=a) (b:=b) N l o p (by omega) (by omega) (by omega)) fun A ⟨f1,f2,f3,f4⟩=>?_
   exact h _ ⟨r.1,H.1,A.1,A.2.2,t,g1,f1,by omega,by omega,by rw[f2]⟩
end
section
variable {α bX ρ : Type} {c : bX -> α -> α -> Option Int} {lt : α -> α -> Bool} {ks : bX}
def pn (lt:α->α->Bool) (d:List α) (a b:Nat):Prop:=0<a->∀m,a<=m->m<b->eW lt d[a-1]? d[m]?
theorem pn.c1 {d a1:List α} {a b:Nat} (h:pn lt d a b) (e:cL a b d a1):pn lt a1 a b:=fun f m g1 g2=>by
 obtain⟨n,g,l,o⟩:=e.gB m g1 g2
 rw[e.out (a-1) (by omega),o]
 exact h f n g l
theorem aqL (v:ih lt) (N:Nat) {d:List α} {a b i:Nat} (j:Int) (C:fs c ks lt d) (F:pn lt d a b) (G:a+2<=i) (H:i<b) (Q:b<=d.length) (S:d.length<N) (T:N<=1099511627776)
  (I:gX lt d a (i-1)) {k:(List α×Int×Int×bX×Int×Int)->Option ρ} {P:ρ->Prop} (J:∀a1,cL a b d a1->gX lt a1 a i->Def (k (a1,(a:Int),(b:Int),ks,(i:Int),j)) P):
  Def (KG c k N (d,(a:Int),(b:Int),ks,(i:Int),j,(i:Int)-1)) P:=by
 unfold KG
 refine Def.iter (fun g=>∃a1:List α,∃q:Nat,a<=q/\q<i/\cL a b d a1/\(∀m n,a<=m->m<n->n<i->n≠q->eW lt a1[m]? a1[n]?)/\g=(a1,(a:Int),(b:Int),ks,(i:Int),j,(q:Int))) (fun g=>g.2.2.2.2.2.2.toNat) ?_ N _
  ⟨d,i-1,by omega,by omega,cL.refl _ _ _,fun m n g1 g2 g3 g4=>I m n g1 g2 (by omega),by rw[show((i-1:Nat):Int)=(i:Int)-1 from by omega]⟩ (by show((i:Int)-1).toNat<N;omega)
 rintro go _ ⟨a1,q,U,V,o,f,rfl⟩ t
 dsimp only
 have K:=o.len
 have s:=C.perm o.perm
 have stop:(∀m,a<=m->m<q->eW lt a1[m]? a1[q]?)->Def (k (a1,(a:Int),(b:Int),ks,(i:Int),j)) P:=fun L=>J a1 o fun m n g1 g2 g3=>by
  by_cases e:n=q
  .subst e;exact L m g1 g2
  .exact f m n g1 g2 g3 e
 refine Def.bO (fun e=>?_) (fun e=>stop fun m g1 g2=>by omega)
 obtain⟨p,rfl⟩:∃p,q=p+1:=⟨q-1,by omega⟩
 refine Aa s (by omega) (by omega) (fun h r u=>?_) (fun h r u=>?_)
 .rw [u,bf,aj]
  have M:a<=p:=by
   by_cases A:a<=p
   .exact A
   .exfalso
    obtain rfl:a=p+1:=by omega
    exact h.not_le ((F.c1 o) (by omega) (p+1) (by omega) (by omega))
  refine ED (by omega) (by omega) fun d2 hw=>Def.ite (by unfold fits;omega) (t _ ⟨d2,p,by omega,by omega,o.trans (hw.c1 (by omega) (by omega) (by omega) (by omega)),fun m n g1 g2 g3 g4=>?_,by rw[show(((p+1:Nat):Int)-1)=(p:Int)from by omega]⟩ ?_)
  .rw [hw.at',hw.at']
   by_cases m1:m=p
   .subst m1
    rw[ai rfl,aC g4]
    by_cases l:n=m+1
    .subst l;rw[ai rfl];exact h.le v
    .rw [aC l];exact f (m+1) n (by omega) (by omega) g3 l
   .rw [aC m1,aC g4]
    by_cases m2:m=p+1
    .subst m2
     rw[ai rfl,aC (by omega)]
     exact f p n (by omega) (by omega) g3 (by omega)
    .rw [aC m2]
     by_cases l:n=p+1
     .subst l;rw[ai rfl];exact f m p g1 (by omega) (by omega) (by omega)
     .rw [aC l];exact f m n g1 g2 g3 l
  .show (((p+1:Nat):Int)-1).toNat<((p+1:Nat):Int).toNat
   omega
 .rw [u,dH,ao]
  by_cases A:a=p+1
  .exact stop fun m g1 g2=>by omega
  have B:=s.other (by omega) (by omega) (by omega) h
  refine stop fun m g1 g2=>?_
  by_cases O:m=p
  .subst O;exact B
  .exact (f m p g1 (by omega) (by omega) (by omega)).trans v B
theorem aqM (N:Nat) {d:List α} {a b i j:Nat} (t:fs c ks lt d) (u:a<=i) (v:i<b) (F:b<=d.length) (G:d.length<N) (H:N<=1099511627776) (I:j<=1000)
  (A:gX lt d a i) {k:(List α×Int×Int×bX×Int×Int)->Option ρ} {P:ρ->Prop} (B:∀a1,cL a b d a1->gX lt a1 a i->Def (k (a1,(a:Int),(b:Int),ks,(i:Int),((j+1:Nat):Int))) P):
  Def (KI c k N (d,(a:Int),(b:Int),ks,(i:Int),(j:Int),(i:Int)+1)) P:=by
 unfold KI
 refine Def.iter (fun g=>∃a1:List α,∃q:Nat,i<=q/\cL a b d a1/\gX lt a1 a i/\g=(a1,(a:Int),(b:Int),ks,(i:Int),(j:Int),((q+1:Nat):Int))) (fun g=>b-g.2.2.2.2.2.2.toNat) ?_ N _
  ⟨d,i,bE _,cL.refl _ _ _,A,by rw[aS]⟩ (by show b-_<N;omega)
 rintro go _ ⟨a1,q,J,h,f,rfl⟩ l
 dsimp only
 have C:=h.len
 have o:=t.perm h.perm
 have stop:Def (if fits ((j:Int)+1)then k (a1,(a:Int),(b:Int),ks,(i:Int),(j:Int)+1)else none) P:=by
  refine Def.ite (aO (n:=j) (by omega)) ?_
  have:=B a1 h f
  rw[aS]at this
  exact this
 refine Def.bO (fun e=>?_) (fun e=>stop)
 refine Aa o (by omega) (by omega) (fun p r s=>?_) (fun p r s=>?_)
 .rw [s,bf,aj]
  refine ED (by omega) (by omega) fun d2 hw=>Def.ite (by unfold fits;omega) (l _ ⟨d2,q+1,by omega,h.trans (hw.c1 (by omega) (by omega) (by omega) (by omega)),fun m n g1 g2 g3=>?_,by rw[aS (q+1)]⟩ (by show b-(((q+1:Nat):Int)+1).toNat<b-((q+1:Nat):Int).toNat;omega))
  rw[hw.at',hw.at',aC (by omega),aC (by omega),aC (by omega),aC (by omega)]
  exact f m n g1 g2 g3
 .rw [s,dH,ao]
  exact stop
theorem apj (K:ih lt) (N:Nat) {d:List α} {a b:Nat} (C:fs c ks lt d) (Q:pn lt d a b) (S:a<b) (Z:b<=d.length) (bK:d.length<N) (L:N<=1099511627776) (dO:5<N):
  Def (tj c N d (a:Int) (b:Int) ks) fun r=>cL a b d r.2/\(r.1=true->gX lt r.2 a b):=by
 unfold tj
 refine Def.ite (aO (n:=a) (by omega)) ?_
 refine Def.iter (fun g=>∃a1:List α,∃i j:Nat,a+1<=i/\i<=b/\j<=5/\cL a b d a1/\gX lt a1 a i/\g=(a1,(a:Int),(b:Int),ks,(i:Int),(j:Int))) (fun g=>5-g.2.2.2.2.2.toNat) ?_ N _
  ⟨d,a+1,0,bE _,by omega,by omega,cL.refl _ _ _,(fun m n M O F=>by omega),by rw[aS];rfl⟩ (by show 5-_<N;omega)
 rintro go _ ⟨a1,i,j,i1,i2,atr,o,T,rfl⟩ G
 dsimp only
 refine Def.bO (fun as1=>?_) (fun _=>Def.ret ⟨o,fun h=>by cases h⟩)
 have U:=o.len
 have s:=C.perm o.perm
 refine Def.iter (fun g=>∃q:Nat,i<=q/\q<=b/\gX lt a1 a q/\g=(a1,(a:Int),(b:Int),ks,(q:Int),(j:Int))) (fun g=>b-g.2.2.2.2.1.toNat) ?_ N _ ⟨i,bE _,i2,T,rfl⟩ (by show b-_<N;omega)
 rintro go2 _ ⟨q,l4,V,B,rfl⟩ t
 dsimp only
 have back:∀d2,cL a b d d2->gX lt d2 a q->Def (go (d2,(a:Int),(b:Int),ks,(q:Int),((j+1:Nat):Int))) fun r=>cL a b d r.2/\(r.1=true->gX lt r.2 a b):=fun d2 M O=>
  G _ ⟨d2,q,j+1,by omega,V,by omega,M,O,rfl⟩ (by show 5-(((j+1:Nat)):Int).toNat<5-((j:Int)).toNat;omega)
 have stop:Def (DN c N go a1 (a:Int) (b:Int) ks (q:Int) (j:Int)) fun r=>cL a b d r.2/\(r.1=true->gX lt r.2 a b):=by
  unfold DN
  refine Def.bO (fun e=>Def.ret ⟨o,fun _ m n g1 g2 g3=>B m n g1 g2 (by omega)⟩) (fun e=>?_)
  refine Def.ite (by unfold fits;omega) (Def.bO (fun _=>Def.ret ⟨o,fun h=>by cases h⟩) (fun _=>?_))
  obtain⟨p,rfl⟩:∃p,q=p+1:=⟨q-1,by omega⟩
  refine ED (by omega) (by omega) fun d2 hw=>?_
  have f:=o.trans (hw.c1 (a:=a) (b:=b) (by omega) (by omega) (by omega) (by omega))
  have W:=f.len
  have H:gX lt d2 a p:=fun m n g1 g2 g3=>by
   rw[hw.at',hw.at',aC (by omega),aC (by omega),aC (by omega),aC (by omega)]
   exact B m n g1 g2 (by omega)
  refine Def.meet (fun g=>∃d3,cL a b d d3/\gX lt d3 a (p+1)/\g=(d3,(a:Int),(b:Int),ks,((p+1:Nat):Int),(j:Int))) ?_ fun J P=>?_
  .rintro _ ⟨d3,l,u,rfl⟩
   dsimp only
   have X:=l.len
   refine Def.ite (by unfold fits;omega) (Def.bO (fun v=>?_) (fun v=>?_))
   .refine Def.ite (by unfold fits;omega) ?_
    exact aqM N (C.perm l.perm) (by omega) (by omega) (by omega) (by omega) L (by omega) u fun d4 g1 g2=>back d4 (l.trans g1) g2
   .refine Def.ite (by unfold fits;omega) ?_
    have:=back d3 l u
    rw[aS j]at this
    exact this
  .refine Def.ite (by unfold fits;omega) (Def.bO (fun v=>?_) (fun v=>?_))
   .refine Def.ite (by unfold fits;omega) ?_
    exact aqL K N (i:=p+1) (j:Int) (C.perm f.perm) (Q.c1 f) (by omega) (by omega) (by omega) (by omega) L H fun d4 g1 g2=>P _ ⟨d4,f.trans g1,g2,rfl⟩
   .exact P _ ⟨d2,f,fun m n g1 g2 g3=>by omega,rfl⟩
 refine Def.bO (fun e=>?_) (fun e=>stop)
 obtain⟨p,rfl⟩:∃p,q=p+1:=⟨q-1,by omega⟩
 refine Aa s (by omega) (by omega) (fun A r I=>?_) (fun A r I=>?_)
 .rw [I,bf,aj]
  exact stop
 .rw [I,dH,ao]
  have F:=s.other (by omega) (by omega) (by omega) A
  refine Def.ite (aO (n:=p+1) (by omega)) (t _ ⟨p+2,by omega,by omega,fun m n g1 g2 g3=>?_,by rw[aS (p+1)]⟩ (by show b-(((p+1:Nat):Int)+1).toNat<b-((p+1:Nat):Int).toNat;omega))
  by_cases Y:n=p+1
  .subst Y
   by_cases v:m=p
   .subst v;exact F
   .exact (B m p g1 (by omega) (by omega)).trans K F
  .exact B m n g1 g2 (by omega)
end
section
variable {α bX ρ : Type} {c : bX -> α -> α -> Option Int} {lt : α -> α -> Bool} {ks : bX}
def wI (c:bX->α->α->Option Int) (ks:bX) (lt:α->α->Bool) (N:Nat) (e:List α->Int->Int->bX->Option (List α)):Prop:=
 ∀(d:List α) (a b:Nat),fs c ks lt d->a<=b->b<=d.length->d.length<N->Def (e d (a:Int) (b:Int) ks) fun r=>cL a b d r/\gX lt r a b
def Lf (c:bX->α->α->Option Int) (ks:bX) (lt:α->α->Bool) (N:Nat) (e:List α->Int->Int->Int->bX->Option (Int×List α)):Prop:=
 ∀(d:List α) (a b p:Nat),fs c ks lt d->a<=p->p<b->b<=d.length->d.length<N->Def (e d (a:Int) (b:Int) (p:Int) ks) fun r=>∃k:Nat,r.1=(k:Int)/\a<k/\k<=b/\cL a b d r.2/\r.2[a]? =d[p]? /\∀m,a<m->m<k->eW lt r.2[m]? d[p]?
def tX (lt:α->α->Bool) (d:List α) (a b e f:Nat):Prop:=∀m n,a<=m->m<n->n<b->(m<e\/f<=n)->eW lt d[m]? d[n]?
theorem tX.c1 {d e:List α} {a b f g:Nat} (h:tX lt d a b f g) (A:a<=f) (B:g<=b) (l:cL f g d e):tX lt e a b f g:=fun m n g1 g2 g3 g4=>by
 by_cases m1:f<=m/\m<g
 .obtain ⟨s,t,u,o⟩:=l.gB m m1.1 m1.2
  rw[o,l.out n (by omega)]
  exact h s n (by omega) (by omega) g3 (by omega)
 .rw [l.out m (by omega)]
  by_cases p:f<=n/\n<g
  .obtain ⟨v,t,u,o⟩:=l.gB n p.1 p.2
   rw[o]
   exact h m v g1 (by omega) (by omega) (by omega)
  .rw [l.out n (by omega)]
   exact h m n g1 g2 g3 g4
theorem tX.low {d:List α} {a b f g:Nat} (h:tX lt d a b f g) (p:a<=f) (s:g<=b) (l:pn lt d a b):pn lt d f g:=fun o m g1 g2=>by
 by_cases e:f=a
 .subst e;exact l o m g1 (by omega)
 .exact h (f-1) m (by omega) (by omega) (by omega) (by omega)
theorem tV.left {d e:List α} {a b k:Nat} (h:tV lt a b k d) (o:ih lt) (g:cL a k d e) (p:gX lt e a k):∀m n,a<=m->m<=k->m<n->n<b->eW lt e[m]? e[n]? :=by
 have s:∀m,a<=m->m<k->eW lt e[m]? e[k]? :=fun m g1 g2=>by
  obtain⟨t,u,v,A⟩:=g.gB m g1 g2
  rw[A,g.out k (by omega)];exact h.low t u v
 have l:∀n,k<n->n<b->eW lt e[k]? e[n]? :=fun n g1 g2=>by
  rw[g.out k (by omega),g.out n (by omega)];exact h.high n g1 g2
 intro m n g1 g2 g3 g4
 by_cases B:m=k
 .subst B;exact l n g3 g4
 .have hm:=s m g1 (by omega)
  rcases pd n k with f|f|f
  .exact p m n g1 g3 f
  .subst f;exact hm
  .exact hm.trans o (l n f g4)
theorem tV.right {d e:List α} {a b k:Nat} (h:tV lt a b k d) (p:ih lt) (f:cL (k+1) b d e) (s:gX lt e (k+1) b):∀m n,a<=m->m<n->k<=n->n<b->eW lt e[m]? e[n]? :=by
 have l:∀m,a<=m->m<k->eW lt e[m]? e[k]? :=fun m g1 g2=>by
  rw[f.out m (by omega),f.out k (by omega)];exact h.low m g1 g2
 have t:∀n,k<n->n<b->eW lt e[k]? e[n]? :=fun n g1 g2=>by
  obtain⟨u,C,v,A⟩:=f.gB n (by omega) g2
  rw[A,f.out k (by omega)];exact h.high u (by omega) v
 intro m n g1 g2 g3 g4
 by_cases B:n=k
 .subst B;exact l m g1 g2
 .have o:=t n (by omega) g4
  rcases pd m k with g|g|g
  .exact (l m g1 g).trans p o
  .subst g;exact o
  .exact s m n (by omega) g2 g4
theorem DM (M:ih lt) (N:Nat) (ow:N<=16777216) (dO:5<N) (U:List α->Int->Int->bX->Option (List α)) (vO:List α->Int->Int->Int->bX->Option (Int×List α)) (Y:Lf c ks lt N vO):
  ∀(D:Nat) (d:List α) (a b s:Nat),fs c ks lt d->pn lt d a b->a<=b->b<=d.length->d.length<N->b-a<D->s<=1000->(wI c ks lt N U\/b-a<=11+s)->
   Def (l3 c U vO N D d (a:Int) (b:Int) (s:Int) ks) fun r=>cL a b d r/\gX lt r a b
 |0,_,_,_,_,_,_,_,_,_,h,_,_=>absurd h (pc _)
 |D+1,d,a,b,s,ni,jA,Y7,av,bK,j8,ZW,YU=>by
  unfold l3
  refine Def.iter (fun g=>∃a1:List α,∃f l V:Nat,∃hQ wp:Bool,a<=f/\f<=l/\l<=b/\V<=1000/\(wI c ks lt N U\/l-f<=11+V)/\cL a b d a1/\tX lt a1 a b f l/\g=(a1,(f:Int),(l:Int),(V:Int),ks,hQ,wp)) (fun g=>g.2.2.1.toNat-g.2.1.toNat) ?_ N _
   ⟨d,a,b,s,true,true,bE _,Y7,bE _,ZW,YU,cL.refl _ _ _,(fun m n g1 g2 g3 g4=>by omega),rfl⟩ (by show((b:Int)).toNat-_<N;omega)
  rintro go _ ⟨a1,f,l,V,hQ,wp,G,a2,a3,anC,Z,W,O,rfl⟩ G1
  dsimp only
  have AZ:=W.len
  have B:=ni.perm W.perm
  have GD:pn lt a1 f l:=O.low G a3 (jA.c1 W)
  have fin:∀e,cL f l a1 e->gX lt e f l->cL a b d e/\gX lt e a b:=fun e he AF=>⟨W.trans (he.mono G a3),fun m n g1 g2 g3=>by
   by_cases x:m<f\/l<=n
   .exact O.c1 G a3 he m n g1 g2 g3 x
   .exact AF m n (by omega) g2 (by omega)⟩
  refine Def.ite (by unfold fits;omega) (Def.bO (fun XQ=>?_) (fun XQ=>?_))
  .exact Def.bind (abb M N B a2 (by omega) (by omega) (by omega)) fun r ⟨C,P⟩=>Def.ret (fin r C P)
  refine Def.bO (fun uA=>?_) (fun uA=>?_)
  .rcases Z with cp|cp
   .exact Def.bind (cp a1 f l B a2 (by omega) (by omega)) fun r ⟨C,P⟩=>Def.ret (fin r C P)
   .omega
  refine Def.meet (fun g=>∃e:List α,∃A:Nat,∃hQ wp:Bool,A<=1000/\(wI c ks lt N U\/l-f<=12+A)/\cL f l a1 e/\g=(e,(f:Int),(l:Int),(A:Int),ks,hQ,wp,(l:Int)-(f:Int))) ?_ fun J M7=>?_
  .rintro _ ⟨e,A,hQ,wp,I,K,Q,rfl⟩
   dsimp only
   have sr:=Q.len
   have YM:=B.perm Q.perm
   refine Def.bind (W6 N YM (by omega) (by omega) (by omega)) fun nL ⟨NU,aaj⟩=>?_
   rw[aaj]
   refine Def.meet (fun g=>∃ck:List α,∃p h:Int,cL f l a1 ck/\In f l p/\g=(ck,(f:Int),(l:Int),(A:Int),ks,hQ,wp,(l:Int)-(f:Int),p,h)) ?_ fun qx M8=>?_
   .rintro _ ⟨ck,p,h,u,cp,rfl⟩
    dsimp only
    have atf:=u.len
    have YL:=B.perm u.perm
    refine Def.meet (fun g=>∃F:List α,cL f l a1 F/\g=(F,(f:Int),(l:Int),(A:Int),ks,hQ,wp,(l:Int)-(f:Int),p)) ?_ fun zF YW=>?_
    .rintro _ ⟨F,L,rfl⟩
     dsimp only
     have atg:=L.len
     have S:=B.perm L.perm
     obtain⟨p,rfl,lk,mM⟩:=cp
     have tail:∀X,X=Option.bind (p1 c N F (f:Int) (l:Int) (p:Int) ks) (fun(t:Int×Bool×(List α))=>
                      (if fits (t.1-(f:Int))then(if fits ((l:Int)-t.1)then(if 8≠0 then
                         (if fits (((l:Int)-(f:Int)).tdiv 8)then(bif(decide ((t.1-(f:Int))<((l:Int)-t.1)))then
                           (Option.bind (l3 c U vO N D t.2.2 (f:Int) t.1 (A:Int) ks) fun(vR:(List α))=>
                            (if fits (t.1+1)then(go (vR,(t.1+1),(l:Int),(A:Int),ks,(decide ((((l:Int)-(f:Int)).tdiv 8)<=(t.1-(f:Int)))),t.2.1))else none))
                           else
                           (if fits (t.1+1)then(Option.bind (l3 c U vO N D t.2.2 (t.1+1) (l:Int) (A:Int) ks) fun(yR:(List α))=>
                             (go (yR,(f:Int),t.1,(A:Int),ks,(decide ((((l:Int)-(f:Int)).tdiv 8)<=((l:Int)-t.1))),t.2.1)))else none))else none)
                         else none)else none)else none))->Def X fun r=>cL a b d r/\gX lt r a b:=by
      rintro _ rfl
      refine Def.bind (apc M N S lk mM (by omega) (by omega) (by omega)) fun t ⟨k,bB,H,nk⟩=>?_
      rw[bB]
      have cW:=nk.Lo
      have cO:=nk.anx
      have Zp:=H.len
      have o:=L.trans H
      have GB:=B.perm o.perm
      have v:=O.c1 G a3 o
      have t8:((l:Int)-(f:Int)).tdiv 8=(((l-f)/8:Nat):Int):=by
       rw[show((l:Int)-(f:Int))=((l-f:Nat):Int)from by omega];rfl
      refine Def.ite (by unfold fits;omega) (Def.ite (by unfold fits;omega) (Def.ite (by omega) (Def.ite (by rw[t8];unfold fits;omega) ?_)))
      refine Def.bO (fun _=>?_) (fun _=>?_)
      .refine Def.bind (DM M N ow dO U vO Y D t.2.2 f k A GB ?_ (by omega) (by omega) (by omega) (by omega) I (K.imp_right fun h=>by omega)) fun vR ⟨C,P⟩=>?_
       .exact fun hv m g1 g2=>(v.low G a3 ((jA.c1 W).c1 (o.mono G a3))) hv m g1 (by omega)
       refine Def.ite (aO (n:=k) (by omega)) (G1 _ ⟨vR,k+1,l,A,_,_,by omega,by omega,a3,I,K.imp_right fun h=>by omega,W.trans ((o.trans (C.mono (bE _) (by omega))).mono G a3),fun m n g1 g2 g3 g4=>?_,by rw[aS]⟩ (by show((l:Int)).toNat-((k:Int)+1).toNat<((l:Int)).toNat-((f:Int)).toNat;omega))
       by_cases x:m<f\/l<=n
       .exact v.c1 G a3 (C.mono (bE _) (by omega)) m n g1 g2 g3 x
       .exact nk.left M C P m n (by omega) (by omega) g2 (by omega)
      .refine Def.ite (aO (n:=k) (by omega)) ?_
       rw[<-aS]
       refine Def.bind (DM M N ow dO U vO Y D t.2.2 (k+1) l A GB ?_ (by omega) (by omega) (by omega) (by omega) I (K.imp_right fun h=>by omega)) fun yR ⟨C,P⟩=>?_
       .exact fun hv m g1 g2=>by
         rw[mX];exact nk.high m (by omega) g2
       refine G1 _ ⟨yR,f,k,A,_,_,G,cW,by omega,I,K.imp_right fun h=>by omega,W.trans ((o.trans (C.mono (by omega) (bE _))).mono G a3),fun m n g1 g2 g3 g4=>?_,rfl⟩ (by show((k:Int)).toNat-((f:Int)).toNat<((l:Int)).toNat-((f:Int)).toNat;omega)
       by_cases x:m<f\/l<=n
       .exact v.c1 G a3 (C.mono (by omega) (bE _)) m n g1 g2 g3 x
       .exact nk.right M C P m n (by omega) g2 (by omega) (by omega)
     refine Def.bO (fun kZ=>?_) (fun kZ=>tail _ rfl)
     have YX:=GD.c1 L
     have Nc:0<f:=by omega
     refine Def.ite (by unfold fits;omega) ?_
     rw[show((f:Int)-1)=((f-1:Nat):Int)from by omega]
     have bb:=YX Nc p lk mM
     refine uu (i:=f-1) (j:=p) S (by omega) (by omega) (fun _ r cG=>?_) (fun bj r cG=>?_)
     .rw [cG,bf,aj]
      exact tail _ rfl
     .rw [cG,dH,ao]
      refine Def.bind (Y F f l p S lk mM (by omega) (by omega)) fun t ⟨k,bB,cW,cO,H,YH,YI⟩=>?_
      rw[bB]
      have Zp:=H.len
      have o:=L.trans H
      have GB:=B.perm o.perm
      have v:=O.c1 G a3 o
      have YY:=GD.c1 o
      have aab:eW lt F[p]? F[f-1]? :=S.other (by omega) (by omega) (by omega) bj
      refine G1 _ ⟨t.2,k,l,A,_,_,by omega,cO,a3,I,K.imp_right fun h=>by omega,W.trans (o.mono G a3),fun m n g1 g2 g3 g4=>?_,rfl⟩ (by show((l:Int)).toNat-((k:Int)).toNat<((l:Int)).toNat-((f:Int)).toNat;omega)
      by_cases x:m<f\/l<=n
      .exact v m n g1 g2 g3 x
      .have aaa:t.2[f-1]? =F[f-1]? :=H.out _ (by omega)
       have NP:=YY Nc n (by omega) (by omega)
       rw[aaa]at NP
       have NV:eW lt F[p]? t.2[n]? :=aab.trans M NP
       by_cases em:m=f
       .rw [em,YH];exact NV
       .exact (YI m (by omega) (by omega)).trans M NV
    .have T:∀F,cL f l a1 F->Def (zF (F,(f:Int),(l:Int),(A:Int),ks,hQ,wp,(l:Int)-(f:Int),p)) fun r=>cL a b d r/\gX lt r a b:=fun F h=>YW _ ⟨F,h,rfl⟩
     refine Def.bif (fun _=>Def.bif (fun _=>Def.bO (fun _=>?_) (fun _=>T ck u)) (fun _=>T ck u)) (fun _=>T ck u)
     refine Def.bind (apj M N YL (GD.c1 u) (by omega) (by omega) (by omega) (by omega) dO) fun mQ ⟨C,P⟩=>?_
     exact Def.bif (fun e=>Def.ret (fin _ (u.trans C) (P e))) (fun _=>T _ (u.trans C))
   .refine Def.bO (fun _=>?_) (fun _=>M8 _ ⟨e,nL.1,nL.2.1,Q,NU,rfl⟩)
    refine Def.bind (aqq N (by omega) (by omega) (by omega) (by omega)) fun o2 dO=>?_
    obtain⟨q,dy,l4,jH⟩:=NU
    rw[dy]
    refine Def.ite (by unfold fits;omega) (Def.ite (by unfold fits;omega) (Def.ite (by unfold fits;omega) (M8 _ ⟨o2,_,_,Q.trans dO,⟨l-1-(q-f),by omega,by omega,by omega⟩,rfl⟩)))
  .refine Def.bif (fun _=>?_) (fun _=>M7 _ ⟨a1,V,hQ,wp,anC,Z.imp_right fun h=>by omega,cL.refl _ _ _,rfl⟩)
   refine Def.bind (WS (ks:=ks) N a2 (by omega) (by omega) (by omega)) fun nK bD=>?_
   refine Def.ite (by unfold fits;omega) (M7 _ ⟨nK,V-1,hQ,wp,by omega,Z.imp_right fun h=>by omega,bD,?_⟩)
   rw[show((V-1:Nat):Int)=(V:Int)-1 from by omega]
end
section
variable {α bX ρ : Type} {c : bX -> α -> α -> Option Int} {lt : α -> α -> Bool} {ks : bX}
def Heap (lt:α->α->Bool) (d:List α) (f lo hi:Nat):Prop:=∀p q,lo<=p->(q=2*p+1\/q=2*p+2)->q<hi->eW lt d[f+q]? d[f+p]?
theorem Def.sj {β:Type} {a:List α} {n:Nat} {f:α->Option β} {P:β->Prop} (e:n<a.length) (h:Def (f a[n]) P):Def (Option.bind (a[((n:Nat):Int).toNat]?) f) P:=by
 rw[eg,bG e];exact h
theorem Uc (G:ih lt) (N:Nat) {d:List α} {f lo hi:Nat} (S:fs c ks lt d) (X:f+hi<=d.length) (Y:d.length<N) (Z:N<=1099511627776) (H:lo<=d.length) (T:Heap lt d f (lo+1) hi):
  Def (rJ c N d (lo:Int) (hi:Int) (f:Int) ks) fun r=>cL f (f+hi) d r/\Heap lt r f lo hi/\∀m,m<lo->r[f+m]? =d[f+m]? :=by
 unfold rJ
 refine Def.iter (fun g=>∃a1:List α,∃r:Nat,lo<=r/\r<=d.length/\cL f (f+hi) d a1/\(∀m,m<lo->a1[f+m]? =d[f+m]?)/\(∀p q,lo<=p->p≠r->(q=2*p+1\/q=2*p+2)->q<hi->eW lt a1[f+q]? a1[f+p]?)/\
  (∀p q,lo<=p->(r=2*p+1\/r=2*p+2)->(q=2*r+1\/q=2*r+2)->q<hi->eW lt a1[f+q]? a1[f+p]?)/\g=(a1,(hi:Int),(f:Int),ks,(r:Int))) (fun g=>hi-g.2.2.2.2.toNat) ?_ N _
  ⟨d,lo,bE _,H,cL.refl _ _ _,fun _ _=>rfl,fun p q g1 g2 g3 g4=>T p q (by omega) g3 g4,fun p q g1 g2 g3 g4=>by omega,rfl⟩ (by show hi-_<N;omega)
 rintro go _ ⟨a1,r,o1,P,A,hm,B,U,rfl⟩ I
 dsimp only
 have V:=A.len
 have t:=S.perm A.perm
 .refine Def.ite (by unfold fits;omega) (Def.ite (by unfold fits;omega) (Def.bO (fun e=>?_) (fun e=>?_)))
  .refine Def.ret ⟨A,fun p q g1 g2 g3=>?_,hm⟩
   by_cases s:p=r
   .subst s;omega
   .exact B p q g1 s g2 g3
  refine Def.meet (fun g=>∃l:Nat,(l=2*r+1\/l=2*r+2)/\l<hi/\(∀q,(q=2*r+1\/q=2*r+2)->q≠l->q<hi->eW lt a1[f+q]? a1[f+l]?)/\g=(a1,(hi:Int),(f:Int),ks,(r:Int),(l:Int))) ?_ fun J K=>?_
  .rintro _ ⟨l,W,c2,c3,rfl⟩
   dsimp only
   rw[show((f:Int)+(r:Int))=((f+r:Nat):Int)from by omega,show((f:Int)+(l:Int))=((f+l:Nat):Int)from by omega]
   have v:f+r<a1.length:=by omega
   have lc:f+l<a1.length:=by omega
   refine Def.ite (by unfold fits;omega) (Def.ite (by omega) (Def.sj v (Def.ite (by unfold fits;omega) (Def.ite (by omega) (Def.sj lc ?_)))))
   refine z8 t v lc (fun o L u=>?_) (fun o L u=>?_)
   .rw [u,bf,aj]
    refine Def.ite (by unfold fits;omega) (Def.ite (by unfold fits;omega) (Def.ite (by unfold fits;omega) (Def.ite (by omega) (Def.sj lc (Def.ite (by unfold fits;omega) (Def.ite (by omega) (Def.sj v (Def.ite (by omega) (Def.sj v (Def.ite (by rw[pb];omega) ?_))))))))))
    have hw:=Uv (d:=a1) v lc
    rw[eg,eg,bG (by rw[pb];exact lc),ag]
    generalize(a1.set (f+r) a1[f+l]).set (f+l) a1[f+r]=d2 at*
    refine I _ ⟨d2,l,by omega,by omega,A.trans (hw.c1 (by omega) (by omega) (by omega) (by omega)),fun m h=>?_,fun p q g1 g2 g3 g4=>?_,fun p q g1 g2 g3 g4=>?_,rfl⟩ (by show hi-((l:Int)).toNat<hi-((r:Int)).toNat;omega)
    .rw [hw.at',aC (by omega),aC (by omega)];exact hm m h
    .rw [hw.at',hw.at',aC (by omega:¬f+p=f+l)]
     by_cases C:p=r
     .subst C
      rw[ai rfl]
      by_cases s:q=l
      .subst s;rw[ai rfl];exact o.le G
      .rw [aC (by omega),aC (by omega)];exact c3 q g3 s g4
     .rw [aC (by omega:¬f+p=f+r),aC (by omega)]
      by_cases s:q=r
      .subst s;rw[ai rfl];exact U p l g1 g3 W c2
      .rw [aC (by omega)];exact B p q g1 C g3 g4
    .have C:p=r:=by omega
     subst C
     rw[hw.at',hw.at',aC (by omega),aC (by omega),aC (by omega),ai rfl]
     exact B l q (by omega) (by omega) g3 g4
   .rw [u,dH,ao]
    have F:=t.other v lc (by omega) o
    refine Def.ret ⟨A,fun p q g1 g2 g3=>?_,hm⟩
    by_cases s:p=r
    .subst s
     by_cases Q:q=l
     .subst Q;exact F
     .exact (c3 q g2 Q g3).trans G F
    .exact B p q g1 s g2 g3
  .refine Def.ite (by unfold fits;omega) (Def.bO (fun s=>?_) (fun s=>?_))
   .rw [show((f:Int)+(2*(r:Int)+1))=((f+(2*r+1):Nat):Int)from by omega]
    have M:f+(2*r+1)<a1.length:=by omega
    have O:f+(2*r+1)+1<a1.length:=by omega
    refine Def.ite (by unfold fits;omega) (Def.ite (by omega) (Def.sj M (Def.ite (by unfold fits;omega) (Def.ite (by unfold fits;omega) ?_))))
    rw[<-aS]
    refine Def.ite (by omega) (Def.sj O ?_)
    refine z8 t M O (fun o L u=>?_) (fun o L u=>?_)
    .rw [u,ao]
     refine Def.ite (by unfold fits;omega) (K _ ⟨2*r+2,.inr rfl,by omega,fun q g1 g2 g3=>?_,by rw[show((2*r+2:Nat):Int)=2*(r:Int)+1+1 from by omega]⟩)
     rw[show q=2*r+1 from by omega];exact o.le G
    .rw [u,aj]
     have F:=t.other M O (by omega) o
     refine K _ ⟨2*r+1,.inl rfl,by omega,fun q g1 g2 g3=>?_,by rw[show((2*r+1:Nat):Int)=2*(r:Int)+1 from by omega]⟩
     rw[show q=2*r+2 from by omega];exact F
   .refine K _ ⟨2*r+1,.inl rfl,by omega,fun q g1 g2 g3=>by omega,by rw[show((2*r+1:Nat):Int)=2*(r:Int)+1 from by omega]⟩
theorem Heap.top (l:ih lt) {d:List α} {f hi:Nat} (h:Heap lt d f 0 hi):∀m,0<m->m<hi->eW lt d[f+m]? d[f+0]? :=by
 intro m
 induction m using Nat.strongRecOn with
 |ind m o=>
  intro s p
  have g:=h ((m-1)/2) m (bg _) (by omega) p
  by_cases e:(m-1)/2=0
  .rw [e]at g;exact g
  .exact g.trans l (o _ (by omega) (by omega) (by omega))
theorem Zo (A:ih lt) (N:Nat) (K:N<=1099511627776) (U:5<N):wI c ks lt N (fun d a b ks=>lS c N d a b ks):=by
 intro d a b L P V W
 show Def (lS c N d (a:Int) (b:Int) ks) _
 unfold lS
 rw[show((b:Int)-(a:Int))=((b-a:Nat):Int)from by omega]
 generalize X:b-a=n
 have t:(((n:Int))-1).tdiv 2=((n-1)/2:Nat):=by
  by_cases e:n=0
  .subst e;rfl
  .rw [show((n:Int))-1=((n-1:Nat):Int)from by omega];rfl
 refine Def.ite (by unfold fits;omega) (Def.ite (by unfold fits;omega) (Def.ite (by omega) (Def.ite (by rw[t];unfold fits;omega) ?_)))
 rw[t]
 refine Def.iter (fun g=>∃a1:List α,∃i:Nat,i<=n+1/\cL a b d a1/\Heap lt a1 a i n/\g=(a1,ks,(a:Int),0,(n:Int),(i:Int)-1)) (fun g=>(g.2.2.2.2.2+1).toNat) ?_ N _
  ⟨d,(n-1)/2+1,?_,cL.refl _ _ _,fun p q g1 g2 g3=>by omega,?_⟩ (by show(((n-1)/2:Nat)+1:Int).toNat<N;omega)
 .rintro go _ ⟨a1,i,hi,h,o,rfl⟩ C
  dsimp only
  have F:=h.len
  refine Def.bO (fun e=>?_) (fun e=>?_)
  .obtain ⟨j,rfl⟩:∃j,i=j+1:=⟨i-1,by omega⟩
   rw[show(((j+1:Nat):Int)-1)=(j:Int)from by omega]
   refine Def.bind (Uc A N (L.perm h.perm) (f:=a) (lo:=j) (hi:=n) (by omega) (by omega) K (by omega) o) fun r ⟨s,G,_⟩=>?_
   refine Def.ite (by unfold fits;omega) (C _ ⟨r,j,by omega,h.trans (s.mono (bE _) (by omega)),G,rfl⟩ (by show((j:Int)-1+1).toNat<((((j+1:Nat):Int)-1)+1).toNat;omega))
  .obtain rfl:i=0:=by omega
   refine Def.ite (by unfold fits;omega) ?_
   refine Def.iter (fun g=>∃a1:List α,∃i:Nat,i<=n/\cL a b d a1/\Heap lt a1 a 0 i/\(∀m k,m<k->i<=k->k<n->eW lt a1[a+m]? a1[a+k]?)/\g=(a1,ks,(a:Int),0,(i:Int)-1)) (fun g=>(g.2.2.2.2+1).toNat) ?_ N _
    ⟨a1,n,bE _,h,o,fun m k g1 g2 g3=>by omega,rfl⟩ (by show((n:Int)-1+1).toNat<N;omega)
   rintro go2 _ ⟨a1,i,hi,h,o,B,rfl⟩ u
   dsimp only
   have F:=h.len
   refine Def.bO (fun e=>?_) (fun e=>Def.ret ⟨h,fun m k g1 g2 g3=>?_⟩)
   .obtain ⟨j,rfl⟩:∃j,i=j+1:=⟨i-1,by omega⟩
    rw[show(((j+1:Nat):Int)-1)=(j:Int)from by omega,show((a:Int)+(j:Int))=((a+j:Nat):Int)from by omega]
    refine Def.ite (by unfold fits;omega) (Def.ite (by unfold fits;omega) ?_)
    refine p7 (by omega) (by omega) fun d2 hw=>?_
    have l:=h.trans (hw.c1 (a:=a) (b:=b) (by omega) (by omega) (by omega) (by omega))
    have M:=l.len
    have H:Heap lt d2 a (0+1) j:=fun p q g1 g2 g3=>by
     rw[hw.at',hw.at',aC (by omega),aC (by omega),aC (by omega),aC (by omega)]
     exact o p q (by omega) g2 (by omega)
    have v:∀m k,m<k->j<=k->k<n->eW lt d2[a+m]? d2[a+k]? :=fun m k g1 g2 g3=>by
     rw[hw.at',hw.at']
     by_cases O:k=j
     .subst O
      rw[ai rfl,aC (by omega)]
      by_cases I:m=0
      .subst I
       rw[ai (by omega)]
       exact o.top A k (by omega) (by omega)
      .rw [aC (by omega)]
       exact o.top A m (by omega) (by omega)
     .rw [aC (by omega:¬a+k=a+j),aC (by omega:¬a+k=a)]
      by_cases I:m=j
      .subst I;rw[ai rfl];exact B 0 k (by omega) (by omega) g3
      .rw [aC (by omega)]
       by_cases Q:m=0
       .subst Q;rw[ai (by omega)];exact B j k (by omega) (by omega) g3
       .rw [aC (by omega)];exact B m k g1 (by omega) g3
    refine Def.bind (Uc A N (L.perm l.perm) (f:=a) (lo:=0) (hi:=j) (by omega) (by omega) K (by omega) H) fun r ⟨s,G,_⟩=>?_
    refine Def.ite (by unfold fits;omega) (u _ ⟨r,j,by omega,l.trans (s.mono (bE _) (by omega)),G,fun m k g1 g2 g3=>?_,rfl⟩ (by show((j:Int)-1+1).toNat<((((j+1:Nat):Int)-1)+1).toNat;omega))
    rw[s.out (a+k) (by omega)]
    by_cases O:m<j
    .obtain ⟨J,Y,Z,S⟩:=s.gB (a+m) (by omega) (by omega)
     rw[S,show J=a+(J-a)from by omega]
     exact v (J-a) k (by omega) g2 g3
    .rw [s.out (a+m) (by omega)]
     exact v m k g1 g2 g3
   .have T:i=0:=by omega
    have:=B (m-a) (k-a) (by omega) (by omega) (by omega)
    rw[show a+(m-a)=m from by omega,show a+(k-a)=k from by omega]at this
    exact this
 .omega
 .rw [show((((n-1)/2+1:Nat)):Int)-1=(((n-1)/2:Nat):Int)from by omega]
end
section
variable {α bX : Type} {c : bX -> α -> α -> Option Int} {lt : α -> α -> Bool} {ks : bX}
def tw (c:bX->α->α->Option Int) (N:Nat) (x:List α) (ks:bX):Option (List α):=
 Option.bind (pQ N (IntKind.u64.wrap (x.length:Int))) fun r=>
  Option.bind (l3 c (fun d a b ks=>lS c N d a b ks) (fun d a b p ks=>mN c N d a b p ks) N N x 0 (x.length:Int) r ks) fun e=>some e
theorem KJ (l:ih lt) (N:Nat) (t:N<=16777216) (g:5<N) (d:List α) (u:fs c ks lt d) (v:d.length<N):
  Def (tw c N d ks) fun r=>r.Perm d/\r.Pairwise fun x y=>lt y x=false:=by
 have A:wI c ks lt N (fun d a b ks=>lS c N d a b ks):=Zo l N (by omega) g
 have B:Lf c ks lt N (fun d a b p ks=>mN c N d a b p ks):=fun d a b p f o C F g=>apg N f o C F g (by omega)
 unfold tw
 by_cases G:d.length=0
 .obtain rfl:d=[]:=wu.1 G
  have e:IntKind.u64.wrap (([]:List α).length:Int)=0:=by show IntKind.u64.wrap 0=0;decide
  refine Def.bind (P:=fun r=>r=0) ?_ fun r H=>?_
  .rw [e];exact⟨0,rfl,rfl⟩
  .subst H
   refine Def.bind (DM l N t g _ _ B N [] 0 0 0 u (fun h=>by omega) (bE _) (bE _) v (by omega) (by omega) (.inl A)) fun r ⟨f,_⟩=>?_
   have:=List.perm_nil.1 f.perm
   subst this
   exact Def.ret ⟨List.Perm.refl _,l9⟩
 refine Def.bind (R4 N d.length (by omega) (by omega)) fun r ⟨n,I,ew,a8,fF⟩=>?_
 subst I
 refine Def.bind (DM l N t g _ _ B N d 0 d.length n u (fun h=>by omega) (bg _) (bE _) v (by omega) (by omega) (.inl A)) fun r ⟨f,o⟩=>Def.ret ⟨f.perm,?_⟩
 have J:=f.len
 refine gx.2 fun i j hi K s=>?_
 have:=o i j (bg _) s (by omega)
 rw[bG hi,bG K]at this
 exact this
structure rV (lt:α->α->Bool):Prop where
 Fs:∀x y,lt x y=true->lt y x=false
 trans:∀x y z,lt x y=true->lt y z=true->lt x z=true
structure E8 (c:bX->α->α->Option Int) (ks:bX) (lt:α->α->Bool) (d:List α):Prop where
 cmp:∀x,x∈d->∀y,y∈d->Def (c ks x y) fun r=>decide (r<0)=lt x y
 tC:d.Pairwise fun x y=>lt x y=true\/lt y x=true
def tn (lt:α->α->Bool) (d:List α) (x:α):Nat:=(d.filter fun z=>lt z x).length
def vz (lt:α->α->Bool) (d:List α) (x y:α):Bool:=decide (tn lt d x<tn lt d y)
theorem aog (lt:α->α->Bool) (d:List α):ih (vz lt d):=by
 refine⟨fun x y h=>?_,fun x y z h k=>?_⟩
 .unfold vz at*;rw[bo]at h;rw[decide_eq_false_iff_not];omega
 .unfold vz at*;rw[decide_eq_false_iff_not]at*;omega
theorem DU (l:rV lt) {x y:α} (h:lt x y=true):∀d:List α,tn lt d x<=tn lt d y/\(x∈d->tn lt d x<tn lt d y)
 | []=>⟨bE _,fun h=>by cases h⟩
 |z::d=>by
  obtain⟨p,o⟩:=DU l h d
  unfold tn at*
  rw[iY,iY]
  by_cases f:lt z x=true
  .have g:=l.trans z x y f h
   simp only[f,g,if_true,ba]
   refine⟨by omega,fun hm=>?_⟩
   rcases bn.1 hm with e|hm
   .exfalso
    subst e
    have:=l.Fs _ _ f
    rw[f]at this;cases this
   .have:=o hm;omega
  .by_cases g:lt z y=true
   .simp only [f,g,if_true,ba]
    simp only[nY,if_false]
    exact⟨by omega,fun hm=>by omega⟩
   .simp only [f,g,nY,if_false]
    refine⟨p,fun hm=>?_⟩
    rcases bn.1 hm with e|hm
    .exfalso
     subst e
     exact g h
    .exact o hm
theorem Si (l:rV lt) {d:List α} (o:d.Pairwise fun x y=>lt x y=true\/lt y x=true) {x y:α} (p:x∈d) (hy:y∈d):vz lt d x y=lt x y:=by
 unfold vz
 cases e:lt x y
 .rw [decide_eq_false_iff_not]
  intro h
  obtain⟨i,hi,rfl⟩:=eb.1 p
  obtain⟨j,s,rfl⟩:=eb.1 hy
  rcases pd i j with f|f|f
  .rcases gx.1 o i j hi s f with g|g
   .rw [e]at g;cases g
   .have:=(DU l g d).1;omega
  .subst f;omega
  .rcases gx.1 o j i s hi f with g|g
   .have:=(DU l g d).1;omega
   .rw [e]at g;cases g
 .rw [bo]
  exact(DU l e d).2 p
theorem Uh (s:rV lt) (N:Nat) (v:N<=16777216) (A:5<N) (d:List α) (g:E8 c ks lt d) (B:d.length<N):
  Def (tw c N d ks) fun r=>r.Perm d/\r.Pairwise fun x y=>lt x y=true:=by
 obtain⟨r,o,l,C⟩:=KJ (aog lt d) N v A d (⟨fun x t y hy=>by
  obtain⟨r,o,he⟩:=g.cmp x t y hy
  exact⟨r,o,by rw[Si s g.tC t hy];exact he⟩⟩:fs c ks (vz lt d) d) B
 refine⟨r,o,l,?_⟩
 have F:r.Pairwise fun x y=>lt x y=true\/lt y x=true:=(l.pairwise_iff (fun {x y} h=>h.symm)).2 g.tC
 refine gx.2 fun i j hi p f=>?_
 have u:=gx.1 C i j hi p f
 have e:=gx.1 F i j hi p f
 have G:=l.mem_iff.1 (br hi)
 have H:=l.mem_iff.1 (br p)
 rw[Si s g.tC H G]at u
 rcases e with e|e
 .exact e
 .rw [u]at e;cases e
end
theorem arq (N:Nat) (d:List ((List UInt8)×(List UInt8)×(List (Int×(List Int))))) (ks:Unit):C5 N d ks=tw (j2 N) N d ks:=rfl
theorem Ug (lt:((List UInt8)×(List UInt8)×(List (Int×(List Int))))->((List UInt8)×(List UInt8)×(List (Int×(List Int))))->Bool) (e:rV lt) (N:Nat) (f:N<=16777216) (g:5<N) (d:List ((List UInt8)×(List UInt8)×(List (Int×(List Int))))) (ks:Unit) (h:E8 (j2 N) ks lt d) (l:d.length<N):
  Def (C5 N d ks) fun r=>r.Perm d/\r.Pairwise fun x y=>lt x y=true:=by
 rw[arq];exact Uh e N f g d h l
theorem aru (N:Nat) (d:List (Int×(List ((List UInt8)×(List UInt8)))×(List ((List UInt8)×Int)))) (ks:Unit):C8 N d ks=tw (j5 N) N d ks:=rfl
theorem ary (lt:(Int×(List ((List UInt8)×(List UInt8)))×(List ((List UInt8)×Int)))->(Int×(List ((List UInt8)×(List UInt8)))×(List ((List UInt8)×Int)))->Bool) (e:ih lt) (N:Nat) (f:N<=16777216) (g:5<N) (d:List (Int×(List ((List UInt8)×(List UInt8)))×(List ((List UInt8)×Int)))) (ks:Unit) (h:fs (j5 N) ks lt d) (l:d.length<N):
  Def (C8 N d ks) fun r=>r.Perm d/\r.Pairwise fun x y=>lt y x=false:=by
 rw[aru];exact KJ e N f g d h l
theorem art (N:Nat) (d:List ((List UInt8)×(List UInt8))) (ks:Unit):C7 N d ks=tw (j4 N) N d ks:=rfl
theorem arx (lt:((List UInt8)×(List UInt8))->((List UInt8)×(List UInt8))->Bool) (e:ih lt) (N:Nat) (f:N<=16777216) (g:5<N) (d:List ((List UInt8)×(List UInt8))) (ks:Unit) (h:fs (j4 N) ks lt d) (l:d.length<N):
  Def (C7 N d ks) fun r=>r.Perm d/\r.Pairwise fun x y=>lt y x=false:=by
 rw[art];exact KJ e N f g d h l
theorem ars (N:Nat) (d:List (Int×Int)) (ks:Unit):C6 N d ks=tw (j3 N) N d ks:=rfl
theorem arp (lt:(Int×Int)->(Int×Int)->Bool) (e:rV lt) (N:Nat) (f:N<=16777216) (g:5<N) (d:List (Int×Int)) (ks:Unit) (h:E8 (j3 N) ks lt d) (l:d.length<N):
  Def (C6 N d ks) fun r=>r.Perm d/\r.Pairwise fun x y=>lt x y=true:=by
 rw[ars];exact Uh e N f g d h l
end Go.Proofs.YtnkagklajgimlaaGreatDoor
