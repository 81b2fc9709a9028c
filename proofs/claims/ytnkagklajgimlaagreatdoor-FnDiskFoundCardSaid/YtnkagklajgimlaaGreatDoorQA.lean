
import Derived.Test.YtnkagklajgimlaaGreatDoorG1
import Derived.Test.YtnkagklajgimlaaGreatDoorQ1
set_option linter.unusedVariables false
set_option linter.unusedSimpArgs false
namespace Go.Proofs.YtnkagklajgimlaaGreatDoor
open Go.RowKit
section
variable {α bT ρ : Type} (c : bT -> α -> α -> Option Int)
end
section
variable {α bT ρ : Type} {c : bT -> α -> α -> Option Int} {lt : α -> α -> Bool} {ks : bT}
structure hX (lt:α->α->Bool):Prop where
 DT:∀x y,lt x y=true->lt y x=false
 akO:∀x y z,lt y x=false->lt z y=false->lt z x=false
structure fk (c:bT->α->α->Option Int) (ks:bT) (lt:α->α->Bool) (d:List α):Prop where
 cmp:∀x,x∈d->∀y,y∈d->Def (c ks x y) fun r=>decide (r<0)=lt x y
theorem fk.perm {d a6:List α} (h:fk c ks lt d) (e:a6.Perm d):fk c ks lt a6:=
 ⟨fun x f y hy=>h.cmp x (e.mem_iff.1 f) y (e.mem_iff.1 hy)⟩
def ji (lt:α->α->Bool):Option α->Option α->Prop
 |some x,some y=>lt x y=true
 |_,_=>False
def eW (lt:α->α->Bool):Option α->Option α->Prop
 |some x,some y=>lt y x=false
 |_,_=>False
theorem eW.trans (g:hX lt) {x y z:Option α} (e:eW lt x y) (f:eW lt y z):eW lt x z:=by
 cases x<;>cases y<;>cases z<;>first|exact e.elim|exact f.elim|exact g.akO _ _ _ e f
theorem ji.le (f:hX lt) {x y:Option α} (e:ji lt x y):eW lt x y:=by
 cases x<;>cases y<;>first|exact e.elim|exact f.DT _ _ e
theorem ji.not_le {x y:Option α} (e:ji lt x y) (f:eW lt y x):False:=by
 cases x<;>cases y<;>first|exact e.elim|exact f.elim|skip
 have h:lt _ _=true:=e
 have g:lt _ _=false:=f
 rw[h]at g;cases g
theorem fk.other {d:List α} (h:fk c ks lt d) {i j:Nat} (hi:i<d.length) (f:j<d.length) (g:i≠j) (l:¬ji lt d[i]? d[j]?):eW lt d[j]? d[i]? :=by
 rw[bH hi,bH f]at*
 show lt d[i] d[j]=false
 cases e:lt d[i] d[j]
 .rfl
 .exact absurd e l
def gM (lt:α->α->Bool) (d:List α) (a b:Nat):Prop:=∀m n,a<=m->m<n->n<b->eW lt d[m]? d[n]?
structure cG (a b:Nat) (d a6:List α):Prop where
 perm:a6.Perm d
 out:∀m,m<a\/b<=m->a6[m]? =d[m]?
 gB:∀m,a<=m->m<b->∃n,a<=n/\n<b/\a6[m]? =d[n]?
theorem cG.refl (a b:Nat) (d:List α):cG a b d d:=⟨List.Perm.refl _,fun _ _=>rfl,fun m e f=>⟨m,e,f,rfl⟩⟩
theorem cG.trans {a b:Nat} {d e f:List α} (g:cG a b d e) (h:cG a b e f):cG a b d f:=
 ⟨h.perm.trans g.perm,fun m hm=>(h.out m hm).trans (g.out m hm),fun m g1 g2=>by
  obtain⟨n,l,o,p⟩:=h.gB m g1 g2
  obtain⟨k,s,t,u⟩:=g.gB n l o
  exact⟨k,s,t,p.trans u⟩⟩
theorem cG.mono {a b f g:Nat} {d e:List α} (h:cG a b d e) (o:f<=a) (p:b<=g):cG f g d e:=
 ⟨h.perm,fun m hm=>h.out m (by omega),fun m g1 g2=>by
  by_cases e:a<=m/\m<b
  .obtain ⟨n,s,t,l⟩:=h.gB m e.1 e.2
   exact⟨n,by omega,by omega,l⟩
  .exact ⟨m,g1,g2,h.out m (by omega)⟩⟩
theorem cG.len {a b:Nat} {d e:List α} (h:cG a b d e):e.length=d.length:=h.perm.length_eq
structure vy (i j:Nat) (d a6:List α):Prop where
 perm:a6.Perm d
 at':∀m,a6[m]? =if m=j then d[i]? else if m=i then d[j]? else d[m]?
theorem vy.cQ {i j a b:Nat} {d a6:List α} (h:vy i j d a6) (i1:a<=i) (i2:i<b) (g:a<=j) (l:j<b):cG a b d a6:=by
 refine⟨h.perm,fun m hm=>?_,fun m g1 g2=>?_⟩
 .rw [h.at',aA (by omega),aA (by omega)]
 .rw [h.at']
  by_cases e:m=j
  .rw [ai e];exact⟨i,i1,i2,rfl⟩
  .rw [aA e]
   by_cases f:m=i
   .rw [ai f];exact⟨j,g,l,rfl⟩
   .rw [aA f];exact⟨m,g1,g2,rfl⟩
theorem Sc {d:List α} {i j:Nat} (hi:i<d.length) (f:j<d.length):vy i j d ((d.set i d[j]).set j d[i]):=by
 refine⟨List.set_set_perm hi f,fun m=>?_⟩
 rw[List.getElem?_set,List.getElem?_set,mj]
 by_cases e:m=j
 .subst e
  rw[ai rfl,ai f,ai rfl,bH hi]
 .rw [aA (fun h=>e h.symm),aA e]
  by_cases g:m=i
  .subst g
   rw[ai rfl,ai hi,ai rfl,bH f]
  .rw [aA (fun h=>g h.symm),aA g]
theorem pt {d:List α} {i j:Nat} (hi:i<d.length) (e:j<d.length) {k:List α->Option ρ} {P:ρ->Prop} (h:∀a6,vy i j d a6->Def (k a6) P):Def (nd d (i:Int) (j:Int) k) P:=by
 unfold nd
 simp only[er,mj]
 rw[ai ⟨by omega,by omega⟩,bH e,af,ai ⟨by omega,by omega⟩,bH hi,af,ai ⟨by omega,by omega⟩,af,ai ⟨by omega,by omega⟩,
  bH (by rw[mj];exact e),af]
 exact h _ (Sc hi e)
theorem yS {d:List α} (h:fk c ks lt d) {i j:Nat} (hi:i<d.length) (f:j<d.length) {k:Int->Option ρ} {P:ρ->Prop}
  (l:ji lt d[i]? d[j]? ->∀r,decide (r<0)=true->Def (k r) P) (o:¬ji lt d[i]? d[j]? ->∀r,decide (r<0)=false->Def (k r) P):Def (Option.bind (c ks d[i] d[j]) k) P:=by
 rw[bH hi,bH f]at*
 refine Def.bind (h.cmp _ (bA hi) _ (bA f)) fun r g=>?_
 by_cases e:lt d[i] d[j]=true
 .exact l e r (g.trans e)
 .exact o e r (g.trans (by simpa using e))
theorem tj {d:List α} (f:fk c ks lt d) {i j:Nat} (hi:i<d.length) (e:j<d.length) {k:Int->Option ρ} {P:ρ->Prop}
  (g:ji lt d[i]? d[j]? ->∀r,decide (r<0)=true->Def (k r) P) (h:¬ji lt d[i]? d[j]? ->∀r,decide (r<0)=false->Def (k r) P):Def (ra c ks d (i:Int) (j:Int) k) P:=by
 unfold ra
 rw[er,er,ai ⟨by omega,by omega⟩,bH hi,af,ai ⟨by omega,by omega⟩,bH e,af]
 exact yS f hi e g h
theorem yT {d:List α} (g:fk c ks lt d) {j:Nat} (f:j+1<d.length) (o:d.length<=1099511627776) {k:Int->Option ρ} {P:ρ->Prop}
  (h:ji lt d[j+1]? d[j]? ->∀r,decide (r<0)=true->Def (k r) P) (l:¬ji lt d[j+1]? d[j]? ->∀r,decide (r<0)=false->Def (k r) P):Def (tk c ks d ((j+1:Nat):Int) k) P:=by
 have e:j<d.length:=by omega
 unfold tk
 rw[show(((j+1:Nat):Int)-1)=(j:Int)from by omega,er,er,ai ⟨by omega,by omega⟩,bH f,af,ai (by unfold fits;omega),ai ⟨by omega,by omega⟩,bH e,af]
 exact yS g f e h l
theorem Db {d:List α} {j:Nat} (e:j+1<d.length) (f:d.length<=1099511627776) {k:List α->Option ρ} {P:ρ->Prop} (h:∀a6,vy (j+1) j d a6->Def (k a6) P):Def (u5 d ((j+1:Nat):Int) k) P:=by
 unfold u5
 refine Def.ite (by unfold fits;omega) (Def.ite (by unfold fits;omega) ?_)
 rw[show(((j+1:Nat):Int)-1)=(j:Int)from by omega]
 exact pt e (by omega) h
theorem YD (B:hX lt) (N:Nat) {d:List α} {a b:Nat} (C:fk c ks lt d) (F:a<=b) (L:b<=d.length) (M:d.length<N) (O:N<=1099511627776):
  Def (rL c N d (a:Int) (b:Int) ks) fun r=>cG a b d r/\gM lt r a b:=by
 unfold rL
 refine Def.ite (aN (n:=a) (by omega)) ?_
 refine Def.iter (fun g=>∃a6:List α,∃i:Nat,a+1<=i/\(i<=b\/i=a+1)/\cG a b d a6/\gM lt a6 a i/\g=(a6,(a:Int),(b:Int),ks,(i:Int))) (fun g=>b-g.2.2.2.2.toNat) ?_ N _
  ⟨d,a+1,bC _,.inr rfl,cG.refl _ _ _,(fun m n G H t=>by omega),by rw[aR]⟩ (by show b-_<N;omega)
 rintro go _ ⟨a6,i,G,H,h,f,rfl⟩ u
 dsimp only
 have v:=h.len
 refine Def.bL (fun e=>?_) (fun e=>Def.ret ⟨h,fun m n g1 g2 g3=>f m n g1 g2 (by omega)⟩)
 refine Def.iter (fun g=>∃a6:List α,∃j:Nat,a<=j/\j<=i/\cG a b d a6/\(∀m n,a<=m->m<n->n<=i->n≠j->eW lt a6[m]? a6[n]?)/\g=(a6,(a:Int),(b:Int),ks,(i:Int),(j:Int))) (fun g=>g.2.2.2.2.2.toNat) ?_ N _
  ⟨a6,i,by omega,bC _,h,(fun m n g1 g2 g3 g4=>f m n g1 g2 (by omega)),rfl⟩ (by show((i:Int)).toNat<N;omega)
 rintro go2 _ ⟨a6,j,P,Q,h,f,rfl⟩ p
 dsimp only
 have v:=h.len
 have s:=C.perm h.perm
 have stop:(∀m,a<=m->m<j->eW lt a6[m]? a6[j]?)->Def (if fits ((i:Int)+1)then go (a6,(a:Int),(b:Int),ks,(i:Int)+1)else none) fun r=>cG a b d r/\gM lt r a b:=fun I=>by
  refine Def.ite (aN (n:=i) (by omega)) (u _ ⟨a6,i+1,by omega,.inl (by omega),h,fun m n g1 g2 g3=>?_,by rw[aR]⟩ (by show b-((i:Int)+1).toNat<b-((i:Int)).toNat;omega))
  by_cases e:n=j
  .subst e;exact I m g1 g2
  .exact f m n g1 g2 (by omega) e
 refine Def.bL (fun J=>?_) (fun J=>stop fun m g1 g2=>by omega)
 obtain⟨k,rfl⟩:∃k,j=k+1:=⟨j-1,by omega⟩
 refine yT s (by omega) (by omega) (fun l r A=>?_) (fun l r A=>?_)
 .rw [A,ao]
  refine Db (by omega) (by omega) fun d2 hw=>Def.ite (by unfold fits;omega) (p _ ⟨d2,k,by omega,by omega,h.trans (hw.cQ (by omega) (by omega) (by omega) (by omega)),fun m n g1 g2 g3 g4=>?_,by rw[show(((k+1:Nat):Int)-1)=(k:Int)from by omega]⟩ ?_)
  .rw [hw.at',hw.at']
   by_cases m1:m=k
   .subst m1
    rw[ai rfl,aA g4]
    by_cases o:n=m+1
    .subst o;rw[ai rfl];exact l.le B
    .rw [aA o];exact f (m+1) n (by omega) (by omega) g3 o
   .rw [aA m1,aA g4]
    by_cases m2:m=k+1
    .subst m2
     rw[ai rfl,aA (by omega)]
     exact f k n (by omega) (by omega) g3 (by omega)
    .rw [aA m2]
     by_cases o:n=k+1
     .subst o;rw[ai rfl];exact f m k g1 (by omega) (by omega) (by omega)
     .rw [aA o];exact f m n g1 g2 g3 o
  .show (((k+1:Nat):Int)-1).toNat<((k+1:Nat):Int).toNat
   omega
 .rw [A,aj]
  have t:=s.other (by omega) (by omega) (by omega) l
  refine stop fun m g1 g2=>?_
  by_cases K:m=k
  .subst K;exact t
  .exact (f m k g1 (by omega) (by omega) (by omega)).trans B t
structure Split (lt:α->α->Bool) (a b:Nat) (d:List α) (i j:Nat):Prop where
 i1:a<i
 rJ:i<=j+1
 nV:j<b
 gx:b<=d.length
 low:∀m,a<m->m<i->eW lt d[m]? d[a]?
 high:∀m,j<m->m<b->eW lt d[a]? d[m]?
theorem QP (u:hX lt) (N:Nat) {d:List α} {a b i j:Nat} (v:fk c ks lt d) (h:Split lt a b d i j) (C:d.length<N) (F:N<=1099511627776) {k:(List α×Int×bT×Int×Int)->Option ρ} {P:ρ->Prop}
  (t:∀f,i<=f->Split lt a b d f j->(f<=j->¬ji lt d[f]? d[a]?)->Def (k (d,(a:Int),ks,(f:Int),(j:Int))) P):Def (Ck c k N (d,(a:Int),ks,(i:Int),(j:Int))) P:=by
 unfold Ck
 have:=h.nV;have:=h.gx;have:=h.rJ
 refine Def.iter (fun g=>∃f:Nat,i<=f/\Split lt a b d f j/\g=(d,(a:Int),ks,(f:Int),(j:Int))) (fun g=>j+1-g.2.2.2.1.toNat) ?_ N _ ⟨i,bC _,h,rfl⟩ (by show j+1-((i:Int)).toNat<N;omega)
 rintro go _ ⟨f,hi,l,rfl⟩ p
 dsimp only
 have A:=l.i1
 refine Def.bL (fun e=>?_) (fun e=>t f hi l (fun h=>by omega))
 refine tj v (by omega) (by omega) (fun o r s=>?_) (fun o r s=>?_)
 .rw [s,ao]
  refine Def.ite (aN (n:=f) (by omega)) (p _ ⟨f+1,by omega,⟨by omega,by omega,l.nV,l.gx,fun m g1 g2=>?_,l.high⟩,by rw[aR]⟩ (by show j+1-((f:Int)+1).toNat<j+1-((f:Int)).toNat;omega))
  by_cases B:m=f
  .subst B;exact o.le u
  .exact l.low m g1 (by omega)
 .rw [s,aj]
  exact t f hi l (fun _=>o)
theorem QN (N:Nat) {d:List α} {a b i j:Nat} (t:fk c ks lt d) (h:Split lt a b d i j) (F:d.length<N) (G:N<=1099511627776) {k:(List α×Int×bT×Int×Int)->Option ρ} {P:ρ->Prop}
  (u:∀f,f<=j->Split lt a b d i f->(i<=f->ji lt d[f]? d[a]?)->Def (k (d,(a:Int),ks,(i:Int),(f:Int))) P):Def (Ci c k N (d,(a:Int),ks,(i:Int),(j:Int))) P:=by
 unfold Ci
 have:=h.nV;have:=h.gx;have:=h.rJ;have A:=h.i1
 refine Def.iter (fun g=>∃f:Nat,f<=j/\Split lt a b d i f/\g=(d,(a:Int),ks,(i:Int),(f:Int))) (fun g=>g.2.2.2.2.toNat) ?_ N _ ⟨j,bC _,h,rfl⟩ (by show((j:Int)).toNat<N;omega)
 rintro go _ ⟨f,v,o,rfl⟩ p
 dsimp only
 refine Def.bL (fun e=>?_) (fun e=>u f v o (fun h=>by omega))
 refine tj t (by omega) (by omega) (fun l r s=>?_) (fun l r s=>?_)
 .rw [s,bn,aj]
  exact u f v o (fun _=>l)
 .rw [s,dt,ao]
  obtain⟨q,rfl⟩:∃q,f=q+1:=⟨f-1,by omega⟩
  have B:=t.other (by omega) (by omega) (by omega) l
  refine Def.ite (by unfold fits;omega) (p _ ⟨q,by omega,⟨o.i1,by omega,by omega,o.gx,o.low,fun m g1 g2=>?_⟩,by rw[show(((q+1:Nat):Int)-1)=(q:Int)from by omega]⟩ (by show(((q+1:Nat):Int)-1).toNat<((q+1:Nat):Int).toNat;omega))
  by_cases C:m=q+1
  .subst C;exact B
  .exact o.high m (by omega) g2
structure s0 (lt:α->α->Bool) (a b k:Nat) (d:List α):Prop where
 JT:a<=k
 ajN:k<b
 low:∀m,a<=m->m<k->eW lt d[m]? d[k]?
 high:∀m,k<m->m<b->eW lt d[k]? d[m]?
theorem QO {d:List α} {a b i j:Nat} (C:hX lt) (F:fk c ks lt d) (h:Split lt a b d i j) (v:i<=j->¬ji lt d[i]? d[a]?) (A:i<=j->ji lt d[j]? d[a]?) (L:d.length<=1099511627776)
  {l:(List α×Int×bT×Int×Int)->Option (Int×Bool×List α)} {eU:Bool} {P:(Int×Bool×List α)->Prop}
  (o:∀a6,cG a b d a6->s0 lt a b j a6->P ((j:Int),eU,a6)) (s:∀a6 t,t+2<=j+1->i<j->cG a b d a6->Split lt a b a6 (i+1) t->Def (l (a6,(a:Int),ks,((i+1:Nat):Int),(t:Int))) P):
  Def (Cj l eU (d,(a:Int),ks,(i:Int),(j:Int))) P:=by
 unfold Cj
 dsimp only
 have G:=h.i1;have H:=h.rJ;have u:=h.nV;have I:=h.gx
 refine Def.bL (fun e=>?_) (fun e=>?_)
 .refine pt (by omega) (by omega) fun a6 hw=>Def.ret (o a6 (hw.cQ (by omega) (by omega) (by omega) (by omega)) ⟨by omega,u,fun m g1 g2=>?_,fun m g1 g2=>?_⟩)
  .rw [hw.at' m,hw.at' j]
   by_cases g:m=a
   .subst g
    rw[ai rfl,aA (by omega),ai rfl]
    exact h.low j (by omega) (by omega)
   .rw [aA g,aA (by omega)]
    by_cases p:j=a
    .omega
    .rw [aA p,ai rfl];exact h.low m (by omega) (by omega)
  .rw [hw.at' m,aA (by omega:¬m=a),aA (by omega:¬m=j),hw.at' j]
   by_cases p:j=a
   .subst p;rw[ai rfl];exact h.high m g1 g2
   .rw [aA p,ai rfl];exact h.high m g1 g2
 .have f:i<=j:=by omega
  have J:i≠j:=by
   rintro rfl
   exact v f (A f)
  obtain⟨q,rfl⟩:∃q,j=q+1:=⟨j-1,by omega⟩
  refine pt (by omega) (by omega) fun a6 hw=>Def.ite (aN (n:=i) (by omega)) (Def.ite (by unfold fits;omega) ?_)
  rw[<-aR,show(((q+1:Nat):Int)-1)=(q:Int)from by omega]
  have K:=hw.perm.length_eq
  have B:a6[a]? =d[a]? :=by rw[hw.at',aA (by omega),aA (by omega)]
  refine s a6 q (by omega) (by omega) (hw.cQ (by omega) (by omega) (by omega) (by omega)) ⟨by omega,by omega,by omega,by omega,fun m g1 g2=>?_,fun m g1 g2=>?_⟩
  .rw [B,hw.at' m,aA (by omega)]
   by_cases g:m=i
   .rw [ai g];exact(A f).le C
   .rw [aA g];exact h.low m g1 (by omega)
  .rw [B,hw.at' m]
   by_cases g:m=q+1
   .rw [ai g]
    exact F.other (by omega) (by omega) (by omega) (v f)
   .rw [aA g,aA (by omega)];exact h.high m (by omega) g2
theorem ak7 (v:hX lt) (N:Nat) {d:List α} {a b p:Nat} (O:fk c ks lt d) (C:a<=p) (F:p<b) (au:b<=d.length) (bK:d.length<N) (A:N<=1099511627776):
  Def (pj c N d (a:Int) (b:Int) (p:Int) ks) fun r=>∃k:Nat,r.1=(k:Int)/\cG a b d r.2.2/\s0 lt a b k r.2.2:=by
 unfold pj
 refine pt (by omega) (by omega) fun d1 G=>Def.ite (aN (n:=a) (by omega)) (Def.ite (by unfold fits;omega) ?_)
 have f:=G.cQ (a:=a) (b:=b) (by omega) (by omega) C F
 have h:=O.perm f.perm
 have P:=f.len
 obtain⟨q,rfl⟩:∃q,b=q+1:=⟨b-1,by omega⟩
 rw[<-aR,show(((q+1:Nat):Int)-1)=(q:Int)from by omega]
 have Q:Split lt a (q+1) d1 (a+1) q:=⟨by omega,by omega,by omega,by omega,fun m g1 g2=>by omega,fun m g1 g2=>by omega⟩
 refine QP v N h Q (by omega) A fun i hi H S=>?_
 refine QN N h H (by omega) A fun j bR o I=>?_
 refine QO v h o (fun e=>S (by omega)) I (by omega) (fun a6 g1 g2=>⟨j,rfl,f.trans g1,g2⟩) fun d2 s T _ gs J=>?_
 have U:=o.nV
 refine Def.iter (fun g=>∃a6:List α,∃i j:Nat,cG a (q+1) d a6/\Split lt a (q+1) a6 i j/\g=(a6,(a:Int),ks,(i:Int),(j:Int))) (fun g=>g.2.2.2.2.toNat) ?_ N _ ⟨d2,i+1,s,f.trans gs,J,rfl⟩ (by show((s:Int)).toNat<N;omega)
 rintro go _ ⟨a6,i,j,B,H,rfl⟩ K
 have l:=O.perm B.perm
 have V:=B.len
 refine QP v N l H (by omega) A fun W X L M=>?_
 refine QN N l L (by omega) A fun Y Z t u=>?_
 refine QO v l t (fun e=>M (by omega)) u (by omega) (fun a6 g1 g2=>⟨Y,rfl,B.trans g1,g2⟩) fun d2 s T aot gs J=>?_
 exact K _ ⟨d2,W+1,s,B.trans gs,J,rfl⟩ (by show((s:Int)).toNat<((j:Int)).toNat;omega)
structure Alike (lt:α->α->Bool) (a b:Nat) (d:List α) (i j:Nat):Prop where
 i1:a<i
 rJ:i<=j+1
 nV:j<b
 gx:b<=d.length
 low:∀m,a<m->m<i->eW lt d[m]? d[a]?
theorem ak9 (N:Nat) {d:List α} {a b i j:Nat} (t:fk c ks lt d) (h:Alike lt a b d i j) (C:d.length<N) (F:N<=1099511627776) {k:(List α×Int×bT×Int×Int)->Option ρ} {P:ρ->Prop}
  (u:∀f,i<=f->Alike lt a b d f j->(f<=j->ji lt d[a]? d[f]?)->Def (k (d,(a:Int),ks,(f:Int),(j:Int))) P):Def (Iq c k N (d,(a:Int),ks,(i:Int),(j:Int))) P:=by
 unfold Iq
 have:=h.nV;have:=h.gx;have:=h.rJ
 refine Def.iter (fun g=>∃f:Nat,i<=f/\Alike lt a b d f j/\g=(d,(a:Int),ks,(f:Int),(j:Int))) (fun g=>j+1-g.2.2.2.1.toNat) ?_ N _ ⟨i,bC _,h,rfl⟩ (by show j+1-((i:Int)).toNat<N;omega)
 rintro go _ ⟨f,hi,o,rfl⟩ p
 dsimp only
 have v:=o.i1
 refine Def.bL (fun e=>?_) (fun e=>u f hi o (fun h=>by omega))
 refine tj t (by omega) (by omega) (fun l r s=>?_) (fun l r s=>?_)
 .rw [s,bn,aj]
  exact u f hi o (fun _=>l)
 .rw [s,dt,ao]
  have A:=t.other (by omega) (by omega) (by omega) l
  refine Def.ite (aN (n:=f) (by omega)) (p _ ⟨f+1,by omega,⟨by omega,by omega,o.nV,o.gx,fun m g1 g2=>?_⟩,by rw[aR]⟩ (by show j+1-((f:Int)+1).toNat<j+1-((f:Int)).toNat;omega))
  by_cases B:m=f
  .subst B;exact A
  .exact o.low m g1 (by omega)
theorem ak8 (N:Nat) {d:List α} {a b i j:Nat} (v:fk c ks lt d) (h:Alike lt a b d i j) (B:d.length<N) (C:N<=1099511627776) {k:(List α×Int×bT×Int×Int)->Option ρ} {P:ρ->Prop}
  (t:∀f,f<=j->Alike lt a b d i f->(i<=f->¬ji lt d[a]? d[f]?)->Def (k (d,(a:Int),ks,(i:Int),(f:Int))) P):Def (Ip c k N (d,(a:Int),ks,(i:Int),(j:Int))) P:=by
 unfold Ip
 have:=h.nV;have:=h.gx;have:=h.rJ;have A:=h.i1
 refine Def.iter (fun g=>∃f:Nat,f<=j/\Alike lt a b d i f/\g=(d,(a:Int),ks,(i:Int),(f:Int))) (fun g=>g.2.2.2.2.toNat) ?_ N _ ⟨j,bC _,h,rfl⟩ (by show((j:Int)).toNat<N;omega)
 rintro go _ ⟨f,u,l,rfl⟩ p
 dsimp only
 refine Def.bL (fun e=>?_) (fun e=>t f u l (fun h=>by omega))
 refine tj v (by omega) (by omega) (fun o r s=>?_) (fun o r s=>?_)
 .rw [s,ao]
  obtain⟨q,rfl⟩:∃q,f=q+1:=⟨f-1,by omega⟩
  refine Def.ite (by unfold fits;omega) (p _ ⟨q,by omega,⟨l.i1,by omega,by omega,l.gx,l.low⟩,by rw[show(((q+1:Nat):Int)-1)=(q:Int)from by omega]⟩ (by show(((q+1:Nat):Int)-1).toNat<((q+1:Nat):Int).toNat;omega))
 .rw [s,aj]
  exact t f u l (fun _=>o)
theorem ala (N:Nat) {d:List α} {a b p:Nat} (P:fk c ks lt d) (F:a<=p) (G:p<b) (au:b<=d.length) (bK:d.length<N) (M:N<=1099511627776):
  Def (ma c N d (a:Int) (b:Int) (p:Int) ks) fun r=>∃k:Nat,r.1=(k:Int)/\a<k/\k<=b/\cG a b d r.2/\r.2[a]? =d[p]? /\∀m,a<m->m<k->eW lt r.2[m]? d[p]? :=by
 unfold ma
 refine pt (by omega) (by omega) fun d1 o=>Def.ite (aN (n:=a) (by omega)) (Def.ite (by unfold fits;omega) ?_)
 have s:=o.cQ (a:=a) (b:=b) (by omega) (by omega) F G
 have Q:=s.len
 have H:d1[a]? =d[p]? :=by
  rw[o.at']
  by_cases e:a=p
  .subst e;rw[ai rfl]
  .rw [aA e,ai rfl]
 obtain⟨q,rfl⟩:∃q,b=q+1:=⟨b-1,by omega⟩
 rw[<-aR,show(((q+1:Nat):Int)-1)=(q:Int)from by omega]
 have S:Alike lt a (q+1) d1 (a+1) q:=⟨by omega,by omega,by omega,by omega,fun m g1 g2=>by omega⟩
 refine Def.iter (fun g=>∃a6:List α,∃i j:Nat,cG a (q+1) d a6/\a6[a]? =d[p]? /\Alike lt a (q+1) a6 i j/\g=(a6,(a:Int),ks,(i:Int),(j:Int))) (fun g=>g.2.2.2.2.toNat) ?_ N _ ⟨d1,a+1,q,s,H,S,rfl⟩ (by show((q:Int)).toNat<N;omega)
 rintro go _ ⟨a6,i,j,B,I,T,rfl⟩ J
 have h:=P.perm B.perm
 have U:=B.len
 refine ak9 N h T (by omega) M fun l V K L=>?_
 refine ak8 N h K (by omega) M fun C W f u=>?_
 unfold QR
 dsimp only
 have X:=f.i1;have pk:=f.rJ;have Cs:=f.nV;have oc:=f.gx
 refine Def.bL (fun e=>Def.ret ⟨l,rfl,X,by omega,B,I,fun m g1 g2=>I▸f.low m g1 g2⟩) (fun e=>?_)
 have v:l<=C:=by omega
 have Y:l≠C:=fun e=>by subst e;exact u v (L (by omega))
 obtain⟨t,rfl⟩:∃t,C=t+1:=⟨C-1,by omega⟩
 refine pt (by omega) (by omega) fun d2 hw=>Def.ite (aN (n:=l) (by omega)) (Def.ite (by unfold fits;omega) ?_)
 rw[<-aR,show(((t+1:Nat):Int)-1)=(t:Int)from by omega]
 have Z:=hw.perm.length_eq
 have A:d2[a]? =a6[a]? :=by rw[hw.at',aA (by omega),aA (by omega)]
 refine J _ ⟨d2,l+1,t,B.trans (hw.cQ (by omega) (by omega) (by omega) (by omega)),A.trans I,⟨by omega,by omega,by omega,by omega,fun m g1 g2=>?_⟩,rfl⟩ (by show((t:Int)).toNat<((j:Int)).toNat;omega)
 rw[A,hw.at' m,aA (by omega)]
 by_cases O:m=l
 .rw [ai O];exact h.other (by omega) (by omega) (by omega) (u v)
 .rw [aA O];exact f.low m g1 (by omega)
end
def BU :List UInt8:=[0,1,2,2,3,3,3,3,4,4,4,4,4,4,4,4,5,5,5,5,5,5,5,5,5,5,5,5,5,5,5,5,6,6,6,6,6,6,6,6,6,6,6,6,6,6,6,6,6,6,6,6,6,6,6,6,6,6,6,6,6,6,6,6,7,7,7,7,7,7,7,7,7,7,7,7,7,7,7,7,7,7,7,7,7,7,7,7,7,7,7,7,7,7,7,7,7,7,7,7,7,7,7,7,7,7,7,7,7,7,7,7,7,7,7,7,7,7,7,7,7,7,7,7,7,7,7,7,8,8,8,8,8,8,8,8,8,8,8,8,8,8,8,8,8,8,8,8,8,8,8,8,8,8,8,8,8,8,8,8,8,8,8,8,8,8,8,8,8,8,8,8,8,8,8,8,8,8,8,8,8,8,8,8,8,8,8,8,8,8,8,8,8,8,8,8,8,8,8,8,8,8,8,8,8,8,8,8,8,8,8,8,8,8,8,8,8,8,8,8,8,8,8,8,8,8,8,8,8,8,8,8,8,8,8,8,8,8,8,8,8,8,8,8,8,8,8,8,8,8,8,8,8,8,8,8]
theorem am5 :∀t:Nat,t<256->(match idx BU (IntKind.u8.wrap (t:Int))with|some e=>decide (t=0\/2^e.toNat<=2*t)&&decide (t<2^e.toNat)&&decide (e.toNat<=8)&&decide (IntKind.i64.wrap (e.toNat:Int)=(e.toNat:Int))|none=>false)=true:=by decide+kernel
theorem am6 (t:Nat) (h:t<256):∃e:UInt8,idx BU (IntKind.u8.wrap (t:Int))=some e/\(t=0\/2^e.toNat<=2*t)/\t<2^e.toNat/\e.toNat<=8/\IntKind.i64.wrap (e.toNat:Int)=(e.toNat:Int):=by
 have:=am5 t h
 cases he:idx BU (IntKind.u8.wrap (t:Int))with
 |none=>rw[he]at this;cases this
 |some e=>
  rw[he]at this
  simp only[bk,bz]at this
  exact⟨e,rfl,this.1.1.1,this.1.1.2,this.1.2,this.2⟩
theorem akb (N:Nat) (x:Nat) (F:1<=x) (h:x<16777216):Def (BH N (x:Int)) fun r=>∃n:Nat,r=(n:Int)/\2^n<=2*x/\x<2^n/\n<=24:=by
 have fin:∀(M:Int) (t m:Nat) (g:M=(m:Int)) (p:t<256) (hm:m<=16) (l:1<=t) (s:t=x/2^m),
   Def (Option.bind (idx BU (IntKind.u8.wrap (t:Int))) fun(e:UInt8)=>(if fits (M+(IntKind.i64.wrap (e.toNat:Int)))then(some (M+(IntKind.i64.wrap (e.toNat:Int))))else none)) fun r=>∃n:Nat,r=(n:Int)/\2^n<=2*x/\x<2^n/\n<=24:=fun M t m g p hm l s=>by
  subst g
  obtain⟨e,u,f,G,H,v⟩:=am6 t p
  rw[u,af,v]
  refine Def.ite (by unfold fits;omega) (Def.ret ⟨m+e.toNat,by omega,?_,?_,by omega⟩)
  .have f:=f.resolve_left (by omega)
   have:2^m*(x/2^m)<=x:=Nat.mul_div_le x (2^m)
   rw[Nat.pow_add]
   calc 2^m*2^e.toNat<=2^m*(2*t):=Nat.mul_le_mul_left _ f
    _=2*(2^m*(x/2^m)):=by rw[s,Nat.mul_left_comm]
    _<=2*x:=by omega
  .have A:0<2^m:=Nat.two_pow_pos m
   have B:x<2^m*(x/2^m+1):=Nat.lt_mul_div_succ x A
   rw[Nat.pow_add]
   exact kZ B (Nat.mul_le_mul_left _ (by omega))
 unfold BH meet
 dsimp only
 have o:(2:Int)^(min (16:Int).toNat (IntKind.bits .u64))=65536:=by decide
 have C:(2:Int)^(min (8:Int).toNat (IntKind.bits .u64))=256:=by decide
 have d16:((x:Int).fdiv 65536)=((x/65536:Nat):Int):=by rw[DA _ (by omega)];omega
 have d8:((x:Int).fdiv 256)=((x/256:Nat):Int):=by rw[DA _ (by omega)];omega
 refine Def.bL (fun e=>by omega) (fun _=>?_)
 refine Def.bL (fun e=>?_) (fun e=>?_)
 .rw [o,d16]
  refine Def.ite (by omega) (Def.ite (by unfold fits;omega) (Def.bL (fun f=>by omega) (fun f=>?_)))
  exact fin (0+16) (x/65536) 16 (by omega) (by omega) (by omega) (by omega) (by omega)
 .refine Def.bL (fun f=>?_) (fun f=>?_)
  .rw [C,d8]
   refine Def.ite (by omega) (Def.ite (by unfold fits;omega) ?_)
   exact fin (0+8) (x/256) 8 (by omega) (by omega) (by omega) (by omega) (by omega)
  .exact fin 0 x 0 (by omega) (by omega) (by omega) (by omega) (by omega)
theorem wrap_u64 {n:Int} (e:0<=n) (f:n<18446744073709551616):IntKind.u64.wrap n=n:=by
 have:IntKind.u64.wrap n=n%18446744073709551616:=by simp[IntKind.wrap,IntKind.bits,IntKind.signed]
 rw[this];omega
theorem wrap_i64 {n:Int} (f:0<=n) (g:n<9223372036854775808):IntKind.i64.wrap n=n:=by
 simp only[IntKind.wrap,IntKind.bits,IntKind.signed]
 simp only[show((2:Int)^64)=18446744073709551616 by rfl,show((2:Int)^(64-1))=9223372036854775808 by rfl]
 have e:n%18446744073709551616=n:=vn f (by omega)
 rw[e]
 have:¬(n≥9223372036854775808):=by omega
 simp[this]
theorem PZ (N:Nat) (x:Nat) (e:1<=x) (h:x<16777216):Def (o4 N (IntKind.u64.wrap (x:Int))) fun r=>∃n:Nat,r=(n:Int)/\2^n<=2*x/\x<2^n/\n<=24:=by
 unfold o4
 rw[wrap_u64 (by omega) (by omega)]
 exact Def.bind (akb N x e h) fun r f=>Def.ret f
theorem akM (N:Nat) (x:Nat) (f:1<=x) (h:x<16777216):Def (BM N (x:Int)) fun r=>1<=r/\r<=2*x:=by
 unfold BM
 refine Def.bind (PZ N x f h) fun r ⟨n,g,o,p,s⟩=>?_
 subst g
 refine Def.ite (by omega) (Def.ret ?_)
 have e:min ((n:Int)).toNat (IntKind.bits .u64)=n:=by
  show min n 64=n
  omega
 have t:0<2^n:=Nat.two_pow_pos n
 have l:((1:Int)*2^n)=((2^n:Nat):Int):=by rw[Int.one_mul];norm_cast
 rw[e,l,wrap_u64 (by omega) (by omega)]
 omega
theorem TV (x y:Int) (f:0<=y) (g:y<9223372036854775808):0<=dS .and .u64 x y/\dS .and .u64 x y<=y:=by
 have hy:(BitVec.ofInt 64 y).toNat=y.toNat:=by
  rw[BitVec.toNat_ofInt]
  omega
 have hle:(BitVec.ofInt 64 x&&&BitVec.ofInt 64 y).toNat<=y.toNat:=by
  rw[BitVec.toNat_and,hy]
  exact Nat.and_le_right
 have e:dS .and .u64 x y=((BitVec.ofInt 64 x&&&BitVec.ofInt 64 y).toNat:Int):=by
  show IntKind.u64.wrap _=_
  exact wrap_u64 (by omega) (by show(((BitVec.ofInt 64 x&&&BitVec.ofInt 64 y).toNat:Nat):Int)<_;omega)
 rw[e]
 omega
section
variable {α bT ρ : Type} {c : bT -> α -> α -> Option Int} {lt : α -> α -> Bool} {ks : bT}
theorem pw (n m:Nat):((n:Int)).tdiv (m:Int)=((n/m:Nat):Int):=rfl
theorem Ul (N:Nat) {d:List α} {a b:Nat} (t:a<=b) (H:b<=d.length) (I:d.length<N) (K:d.length<16777216):
  Def (q8 N d (a:Int) (b:Int) ks) fun r=>cG a b d r:=by
 unfold q8
 rw[show((b:Int)-(a:Int))=((b-a:Nat):Int)from by omega]
 generalize L:b-a=n
 refine Def.ite (by unfold fits;omega) (Def.bL (fun e=>?_) (fun e=>Def.ret (cG.refl _ _ _)))
 refine Def.bind (akM N n (by omega) (by omega)) fun r ⟨u,v⟩=>?_
 have t4:((n:Int)).tdiv 4=((n/4:Nat):Int):=rfl
 rw[t4]
 refine Def.ite (by omega) (Def.ite (by unfold fits;omega) (Def.ite (by unfold fits;omega) (Def.ite (by unfold fits;omega) (Def.ite (by unfold fits;omega) ?_))))
 refine Def.iter (fun g=>∃a6:List α,∃i:Nat,∃f:Int,cG a b d a6/\a<=i/\g=(a6,(a:Int),(n:Int),r,(i:Int),f)) (fun g=>b-g.2.2.2.2.1.toNat) ?_ N _ ⟨d,a+n/4*2-1,IntKind.u64.wrap (n:Int),cG.refl _ _ _,by omega,?_⟩ (by show b-_<N;omega)
 .rintro go _ ⟨a6,i,f,l,A,rfl⟩ p
  dsimp only
  rw[t4]
  have B:=l.len
  refine Def.ite (by omega) (Def.ite (by unfold fits;omega) (Def.ite (by unfold fits;omega) (Def.ite (by unfold fits;omega) (Def.ite (by unfold fits;omega) (Def.bL (fun C=>?_) (fun C=>Def.ret l))))))
  refine Def.bind (P:=fun _=>True) ?_ fun h _=>?_
  .unfold Hs
   exact Def.ite (by omega) (Def.ite (by omega) (Def.ite (by omega) (Def.ret True.intro)))
  have hm:=TV h.1 (IntKind.u64.wrap (r-1)) (by rw[wrap_u64 (by omega) (by omega)];omega) (by rw[wrap_u64 (by omega) (by omega)];omega)
  have F:IntKind.u64.wrap (r-1)=r-1:=wrap_u64 (by omega) (by omega)
  rw[wrap_i64 hm.1 (by omega)]
  generalize dS .and .u64 h.1 (IntKind.u64.wrap (r-1))=m at*
  refine Def.meet (fun g=>∃o:Nat,∃f:Int,o<n/\g=(a6,(a:Int),(n:Int),r,(i:Int),(o:Int),f)) ?_ fun J s=>?_
  .rintro _ ⟨o,f,M,rfl⟩
   dsimp only
   refine Def.ite (by unfold fits;omega) (Def.ite (by unfold fits;omega) ?_)
   rw[show((a:Int)+(o:Int))=((a+o:Nat):Int)from by omega]
   refine pt (by omega) (by omega) fun d2 hw=>Def.ite (aN (n:=i) (by omega)) (p _ ⟨d2,i+1,f,l.trans (hw.cQ (by omega) (by omega) (by omega) (by omega)),by omega,by rw[aR]⟩ (by show b-((i:Int)+1).toNat<b-((i:Int)).toNat;omega))
  .refine Def.bL (fun G=>?_) (fun G=>?_)
   .refine Def.ite (by unfold fits;omega) (s _ ⟨(m-n).toNat,h.2,by omega,?_⟩)
    rw[pC (by omega)]
   .refine s _ ⟨m.toNat,h.2,by omega,?_⟩
    rw[pC (by omega)]
 .rw [show(((a+n/4*2-1:Nat)):Int)=(a:Int)+((n/4:Nat):Int)*2-1 from by omega]
theorem alX (N:Nat) {d:List α} {a b:Nat} (l:a<b) (p:b<=d.length) (s:d.length<N) (t:N<=1099511627776):
  Def (sr N d (a:Int) (b:Int) ks) fun r=>cG a b d r:=by
 unfold sr
 refine Def.ite (by unfold fits;omega) ?_
 refine Def.iter (fun g=>∃a6:List α,∃i j:Nat,cG a b d a6/\a<=i/\j<b/\g=(a6,(i:Int),(j:Int))) (fun g=>g.2.2.toNat) ?_ N _ ⟨d,a,b-1,cG.refl _ _ _,bC _,by omega,by rw[show((b-1:Nat):Int)=(b:Int)-1 from by omega]⟩ (by show((b:Int)-1).toNat<N;omega)
 rintro go _ ⟨a6,i,j,f,hi,u,rfl⟩ h
 dsimp only
 have o:=f.len
 refine Def.bL (fun e=>?_) (fun e=>Def.ret f)
 refine pt (by omega) (by omega) fun d2 hw=>Def.ite (aN (n:=i) (by omega)) (Def.ite (by unfold fits;omega) (h _ ⟨d2,i+1,j-1,f.trans (hw.cQ (by omega) (by omega) (by omega) (by omega)),by omega,by omega,by rw[aR,show((j-1:Nat):Int)=(j:Int)-1 from by omega]⟩ (by show((j:Int)-1).toNat<((j:Int)).toNat;omega)))
def In (a b:Nat) (n:Int):Prop:=∃k:Nat,n=(k:Int)/\a<=k/\k<b
theorem Il (N:Nat) {d:List α} {a b:Nat} (h:fk c ks lt d) (o:b<=d.length) {i j s:Int} (hi:In a b i) (l:In a b j) (p:0<=s) (t:s<=1000):
  Def (pg c N d i j ks s) fun r=>In a b r.1/\In a b r.2.1/\r.2.2.1=d/\s<=r.2.2.2/\r.2.2.2<=s+1:=by
 obtain⟨i,rfl,i1,i2⟩:=hi
 obtain⟨j,rfl,f,g⟩:=l
 unfold pg
 refine tj h (by omega) (by omega) (fun _ r e=>?_) (fun _ r e=>?_)
 .rw [e,ao]
  exact Def.ite (by unfold fits;omega) (Def.ret ⟨⟨j,rfl,f,g⟩,⟨i,rfl,i1,i2⟩,rfl,by dsimp only;omega,by dsimp only;omega⟩)
 .rw [e,aj]
  exact Def.ret ⟨⟨i,rfl,i1,i2⟩,⟨j,rfl,f,g⟩,rfl,by dsimp only;omega,by dsimp only;omega⟩
theorem Qg (N:Nat) {d:List α} {a b:Nat} (e:fk c ks lt d) (f:b<=d.length) {i j k s:Int} (hi:In a b i) (g:In a b j) (h:In a b k) (l:0<=s) (p:s<=900):
  Def (qw c N d i j k ks s) fun r=>In a b r.1/\r.2.1=d/\s<=r.2.2/\r.2.2<=s+3:=by
 unfold qw
 refine Def.bind (Il N e f hi g l (by omega)) fun r ⟨o,a2,a3,a4,a5⟩=>?_
 rw[a3]
 refine Def.bind (Il N e f a2 h (by omega) (by omega)) fun t ⟨ej,ba,e0,u,v⟩=>?_
 rw[e0]
 refine Def.bind (Il N e f o ej (by omega) (by omega)) fun A ⟨B,c2,c3,c4,c5⟩=>?_
 exact Def.ret ⟨c2,c3,by dsimp only;omega,by dsimp only;omega⟩
theorem HU (N:Nat) {d:List α} {a b:Nat} (e:fk c ks lt d) (f:b<=d.length) (o:d.length<=1099511627776) {i s:Int} (hi:(a:Int)+1<=i/\i+1<b) (g:0<=s) (h:s<=900):
  Def (o5 c N d i ks s) fun r=>In a b r.1/\r.2.1=d/\s<=r.2.2/\r.2.2<=s+3:=by
 unfold o5
 refine Def.ite (by unfold fits;omega) (Def.ite (by unfold fits;omega) ?_)
 refine Def.bind (Qg N e f ⟨(i-1).toNat,by omega,by omega,by omega⟩ ⟨i.toNat,by omega,by omega,by omega⟩ ⟨(i+1).toNat,by omega,by omega,by omega⟩ g h) fun r l=>Def.ret l
theorem Ux (N:Nat) {d:List α} {a b:Nat} (l:fk c ks lt d) (B:a<b) (o:b<=d.length) (p:d.length<=1099511627776):
  Def (q9 c N d (a:Int) (b:Int) ks) fun r=>In a b r.1/\r.2.2=d:=by
 unfold q9
 rw[show((b:Int)-(a:Int))=((b-a:Nat):Int)from by omega]
 generalize I:b-a=n
 have t4:((n:Int)).tdiv 4=((n/4:Nat):Int):=rfl
 rw[t4]
 refine Def.ite (by unfold fits;omega) (Def.ite (by omega) (Def.ite (by unfold fits;omega) (Def.ite (by unfold fits;omega) (Def.ite (by unfold fits;omega) (Def.ite (by omega)
  (Def.ite (by unfold fits;omega) (Def.ite (by unfold fits;omega) (Def.ite (by unfold fits;omega) (Def.ite (by omega) (Def.ite (by unfold fits;omega) (Def.ite (by unfold fits;omega) (Def.ite (by unfold fits;omega) ?_))))))))))))
 refine Def.meet (fun g=>∃j s,In a b j/\g=(d,j,s)) ?_ fun J v=>?_
 .rintro _ ⟨j,s,f,rfl⟩
  dsimp only
  exact Def.bL (fun _=>Def.ret ⟨f,rfl⟩) (fun _=>Def.bL (fun _=>Def.ret ⟨f,rfl⟩) (fun _=>Def.ret ⟨f,rfl⟩))
 .refine Def.bL (fun e=>?_) (fun e=>v _ ⟨_,_,⟨a+n/4*2,by omega,by omega,by omega⟩,rfl⟩)
  refine Def.meet (fun g=>∃i j k s,In a b i/\In a b j/\In a b k/\0<=s/\s<=900/\g=(d,ks,i,j,k,s)) ?_ fun K h=>?_
  .rintro _ ⟨i,j,k,s,hi,f,C,F,s1,rfl⟩
   dsimp only
   refine Def.bind (Qg N l o hi f C F s1) fun r ⟨t,u,_,_⟩=>v _ ⟨_,_,t,by rw[u]⟩
  .refine Def.bL (fun G=>?_) (fun G=>h _ ⟨_,_,_,_,⟨a+n/4*1,by omega,by omega,by omega⟩,⟨a+n/4*2,by omega,by omega,by omega⟩,⟨a+n/4*3,by omega,by omega,by omega⟩,iF _,by omega,rfl⟩)
   refine Def.bind (HU (a:=a) (b:=b) N l o p (by omega) (iF _) (by omega)) fun r ⟨t,u,L,M⟩=>?_
   rw[u]
   refine Def.bind (HU (a:=a) (b:=b) N l o p (by omega) (by omega) (by omega)) fun H ⟨g1,g2,g3,g4⟩=>?_
   rw[g2]
   refine Def.bind (HU (a:=a) (b:=b) N l o p (by omega) (by omega) (by omega)) fun A ⟨f1,f2,f3,f4⟩=>?_
   exact h _ ⟨r.1,H.1,A.1,A.2.2,t,g1,f1,by omega,by omega,by rw[f2]⟩
end
section
variable {α bT ρ : Type} {c : bT -> α -> α -> Option Int} {lt : α -> α -> Bool} {ks : bT}
def oD (lt:α->α->Bool) (d:List α) (a b:Nat):Prop:=0<a->∀m,a<=m->m<b->eW lt d[a-1]? d[m]?
theorem oD.cQ {d a6:List α} {a b:Nat} (h:oD lt d a b) (e:cG a b d a6):oD lt a6 a b:=fun f m g1 g2=>by
 obtain⟨n,g,l,o⟩:=e.gB m g1 g2
 rw[e.out (a-1) (by omega),o]
 exact h f n g l
theorem amk (v:hX lt) (N:Nat) {d:List α} {a b i:Nat} (j:Int) (C:fk c ks lt d) (F:oD lt d a b) (G:a+2<=i) (H:i<b) (Q:b<=d.length) (S:d.length<N) (T:N<=1099511627776)
  (I:gM lt d a (i-1)) {k:(List α×Int×Int×bT×Int×Int)->Option ρ} {P:ρ->Prop} (J:∀a6,cG a b d a6->gM lt a6 a i->Def (k (a6,(a:Int),(b:Int),ks,(i:Int),j)) P):
  Def (I8 c k N (d,(a:Int),(b:Int),ks,(i:Int),j,(i:Int)-1)) P:=by
 unfold I8
 refine Def.iter (fun g=>∃a6:List α,∃q:Nat,a<=q/\q<i/\cG a b d a6/\(∀m n,a<=m->m<n->n<i->n≠q->eW lt a6[m]? a6[n]?)/\g=(a6,(a:Int),(b:Int),ks,(i:Int),j,(q:Int))) (fun g=>g.2.2.2.2.2.2.toNat) ?_ N _
  ⟨d,i-1,by omega,by omega,cG.refl _ _ _,fun m n g1 g2 g3 g4=>I m n g1 g2 (by omega),by rw[show((i-1:Nat):Int)=(i:Int)-1 from by omega]⟩ (by show((i:Int)-1).toNat<N;omega)
 rintro go _ ⟨a6,q,U,V,o,f,rfl⟩ t
 dsimp only
 have K:=o.len
 have s:=C.perm o.perm
 have stop:(∀m,a<=m->m<q->eW lt a6[m]? a6[q]?)->Def (k (a6,(a:Int),(b:Int),ks,(i:Int),j)) P:=fun L=>J a6 o fun m n g1 g2 g3=>by
  by_cases e:n=q
  .subst e;exact L m g1 g2
  .exact f m n g1 g2 g3 e
 refine Def.bL (fun e=>?_) (fun e=>stop fun m g1 g2=>by omega)
 obtain⟨p,rfl⟩:∃p,q=p+1:=⟨q-1,by omega⟩
 refine yT s (by omega) (by omega) (fun h r u=>?_) (fun h r u=>?_)
 .rw [u,bn,aj]
  have M:a<=p:=by
   by_cases A:a<=p
   .exact A
   .exfalso
    obtain rfl:a=p+1:=by omega
    exact h.not_le ((F.cQ o) (by omega) (p+1) (by omega) (by omega))
  refine Db (by omega) (by omega) fun d2 hw=>Def.ite (by unfold fits;omega) (t _ ⟨d2,p,by omega,by omega,o.trans (hw.cQ (by omega) (by omega) (by omega) (by omega)),fun m n g1 g2 g3 g4=>?_,by rw[show(((p+1:Nat):Int)-1)=(p:Int)from by omega]⟩ ?_)
  .rw [hw.at',hw.at']
   by_cases m1:m=p
   .subst m1
    rw[ai rfl,aA g4]
    by_cases l:n=m+1
    .subst l;rw[ai rfl];exact h.le v
    .rw [aA l];exact f (m+1) n (by omega) (by omega) g3 l
   .rw [aA m1,aA g4]
    by_cases m2:m=p+1
    .subst m2
     rw[ai rfl,aA (by omega)]
     exact f p n (by omega) (by omega) g3 (by omega)
    .rw [aA m2]
     by_cases l:n=p+1
     .subst l;rw[ai rfl];exact f m p g1 (by omega) (by omega) (by omega)
     .rw [aA l];exact f m n g1 g2 g3 l
  .show (((p+1:Nat):Int)-1).toNat<((p+1:Nat):Int).toNat
   omega
 .rw [u,dt,ao]
  by_cases A:a=p+1
  .exact stop fun m g1 g2=>by omega
  have B:=s.other (by omega) (by omega) (by omega) h
  refine stop fun m g1 g2=>?_
  by_cases O:m=p
  .subst O;exact B
  .exact (f m p g1 (by omega) (by omega) (by omega)).trans v B
theorem aml (N:Nat) {d:List α} {a b i j:Nat} (t:fk c ks lt d) (u:a<=i) (v:i<b) (F:b<=d.length) (G:d.length<N) (H:N<=1099511627776) (I:j<=1000)
  (A:gM lt d a i) {k:(List α×Int×Int×bT×Int×Int)->Option ρ} {P:ρ->Prop} (B:∀a6,cG a b d a6->gM lt a6 a i->Def (k (a6,(a:Int),(b:Int),ks,(i:Int),((j+1:Nat):Int))) P):
  Def (Ja c k N (d,(a:Int),(b:Int),ks,(i:Int),(j:Int),(i:Int)+1)) P:=by
 unfold Ja
 refine Def.iter (fun g=>∃a6:List α,∃q:Nat,i<=q/\cG a b d a6/\gM lt a6 a i/\g=(a6,(a:Int),(b:Int),ks,(i:Int),(j:Int),((q+1:Nat):Int))) (fun g=>b-g.2.2.2.2.2.2.toNat) ?_ N _
  ⟨d,i,bC _,cG.refl _ _ _,A,by rw[aR]⟩ (by show b-_<N;omega)
 rintro go _ ⟨a6,q,J,h,f,rfl⟩ l
 dsimp only
 have C:=h.len
 have o:=t.perm h.perm
 have stop:Def (if fits ((j:Int)+1)then k (a6,(a:Int),(b:Int),ks,(i:Int),(j:Int)+1)else none) P:=by
  refine Def.ite (aN (n:=j) (by omega)) ?_
  have:=B a6 h f
  rw[aR]at this
  exact this
 refine Def.bL (fun e=>?_) (fun e=>stop)
 refine yT o (by omega) (by omega) (fun p r s=>?_) (fun p r s=>?_)
 .rw [s,bn,aj]
  refine Db (by omega) (by omega) fun d2 hw=>Def.ite (by unfold fits;omega) (l _ ⟨d2,q+1,by omega,h.trans (hw.cQ (by omega) (by omega) (by omega) (by omega)),fun m n g1 g2 g3=>?_,by rw[aR (q+1)]⟩ (by show b-(((q+1:Nat):Int)+1).toNat<b-((q+1:Nat):Int).toNat;omega))
  rw[hw.at',hw.at',aA (by omega),aA (by omega),aA (by omega),aA (by omega)]
  exact f m n g1 g2 g3
 .rw [s,dt,ao]
  exact stop
theorem ald (K:hX lt) (N:Nat) {d:List α} {a b:Nat} (C:fk c ks lt d) (Q:oD lt d a b) (S:a<b) (Z:b<=d.length) (bK:d.length<N) (L:N<=1099511627776) (dO:5<N):
  Def (sj c N d (a:Int) (b:Int) ks) fun r=>cG a b d r.2/\(r.1=true->gM lt r.2 a b):=by
 unfold sj
 refine Def.ite (aN (n:=a) (by omega)) ?_
 refine Def.iter (fun g=>∃a6:List α,∃i j:Nat,a+1<=i/\i<=b/\j<=5/\cG a b d a6/\gM lt a6 a i/\g=(a6,(a:Int),(b:Int),ks,(i:Int),(j:Int))) (fun g=>5-g.2.2.2.2.2.toNat) ?_ N _
  ⟨d,a+1,0,bC _,by omega,by omega,cG.refl _ _ _,(fun m n M O F=>by omega),by rw[aR];rfl⟩ (by show 5-_<N;omega)
 rintro go _ ⟨a6,i,j,i1,i2,aoH,o,T,rfl⟩ G
 dsimp only
 refine Def.bL (fun aoj=>?_) (fun _=>Def.ret ⟨o,fun h=>by cases h⟩)
 have U:=o.len
 have s:=C.perm o.perm
 refine Def.iter (fun g=>∃q:Nat,i<=q/\q<=b/\gM lt a6 a q/\g=(a6,(a:Int),(b:Int),ks,(q:Int),(j:Int))) (fun g=>b-g.2.2.2.2.1.toNat) ?_ N _ ⟨i,bC _,i2,T,rfl⟩ (by show b-_<N;omega)
 rintro go2 _ ⟨q,mX,V,B,rfl⟩ t
 dsimp only
 have back:∀d2,cG a b d d2->gM lt d2 a q->Def (go (d2,(a:Int),(b:Int),ks,(q:Int),((j+1:Nat):Int))) fun r=>cG a b d r.2/\(r.1=true->gM lt r.2 a b):=fun d2 M O=>
  G _ ⟨d2,q,j+1,by omega,V,by omega,M,O,rfl⟩ (by show 5-(((j+1:Nat)):Int).toNat<5-((j:Int)).toNat;omega)
 have stop:Def (Cm c N go a6 (a:Int) (b:Int) ks (q:Int) (j:Int)) fun r=>cG a b d r.2/\(r.1=true->gM lt r.2 a b):=by
  unfold Cm
  refine Def.bL (fun e=>Def.ret ⟨o,fun _ m n g1 g2 g3=>B m n g1 g2 (by omega)⟩) (fun e=>?_)
  refine Def.ite (by unfold fits;omega) (Def.bL (fun _=>Def.ret ⟨o,fun h=>by cases h⟩) (fun _=>?_))
  obtain⟨p,rfl⟩:∃p,q=p+1:=⟨q-1,by omega⟩
  refine Db (by omega) (by omega) fun d2 hw=>?_
  have f:=o.trans (hw.cQ (a:=a) (b:=b) (by omega) (by omega) (by omega) (by omega))
  have W:=f.len
  have H:gM lt d2 a p:=fun m n g1 g2 g3=>by
   rw[hw.at',hw.at',aA (by omega),aA (by omega),aA (by omega),aA (by omega)]
   exact B m n g1 g2 (by omega)
  refine Def.meet (fun g=>∃d3,cG a b d d3/\gM lt d3 a (p+1)/\g=(d3,(a:Int),(b:Int),ks,((p+1:Nat):Int),(j:Int))) ?_ fun J P=>?_
  .rintro _ ⟨d3,l,u,rfl⟩
   dsimp only
   have X:=l.len
   refine Def.ite (by unfold fits;omega) (Def.bL (fun v=>?_) (fun v=>?_))
   .refine Def.ite (by unfold fits;omega) ?_
    exact aml N (C.perm l.perm) (by omega) (by omega) (by omega) (by omega) L (by omega) u fun d4 g1 g2=>back d4 (l.trans g1) g2
   .refine Def.ite (by unfold fits;omega) ?_
    have:=back d3 l u
    rw[aR j]at this
    exact this
  .refine Def.ite (by unfold fits;omega) (Def.bL (fun v=>?_) (fun v=>?_))
   .refine Def.ite (by unfold fits;omega) ?_
    exact amk K N (i:=p+1) (j:Int) (C.perm f.perm) (Q.cQ f) (by omega) (by omega) (by omega) (by omega) L H fun d4 g1 g2=>P _ ⟨d4,f.trans g1,g2,rfl⟩
   .exact P _ ⟨d2,f,fun m n g1 g2 g3=>by omega,rfl⟩
 refine Def.bL (fun e=>?_) (fun e=>stop)
 obtain⟨p,rfl⟩:∃p,q=p+1:=⟨q-1,by omega⟩
 refine yT s (by omega) (by omega) (fun A r I=>?_) (fun A r I=>?_)
 .rw [I,bn,aj]
  exact stop
 .rw [I,dt,ao]
  have F:=s.other (by omega) (by omega) (by omega) A
  refine Def.ite (aN (n:=p+1) (by omega)) (t _ ⟨p+2,by omega,by omega,fun m n g1 g2 g3=>?_,by rw[aR (p+1)]⟩ (by show b-(((p+1:Nat):Int)+1).toNat<b-((p+1:Nat):Int).toNat;omega))
  by_cases Y:n=p+1
  .subst Y
   by_cases v:m=p
   .subst v;exact F
   .exact (B m p g1 (by omega) (by omega)).trans K F
  .exact B m n g1 g2 (by omega)
end
section
variable {α bT ρ : Type} {c : bT -> α -> α -> Option Int} {lt : α -> α -> Bool} {ks : bT}
def vu (c:bT->α->α->Option Int) (ks:bT) (lt:α->α->Bool) (N:Nat) (e:List α->Int->Int->bT->Option (List α)):Prop:=
 ∀(d:List α) (a b:Nat),fk c ks lt d->a<=b->b<=d.length->d.length<N->Def (e d (a:Int) (b:Int) ks) fun r=>cG a b d r/\gM lt r a b
def JI (c:bT->α->α->Option Int) (ks:bT) (lt:α->α->Bool) (N:Nat) (e:List α->Int->Int->Int->bT->Option (Int×List α)):Prop:=
 ∀(d:List α) (a b p:Nat),fk c ks lt d->a<=p->p<b->b<=d.length->d.length<N->Def (e d (a:Int) (b:Int) (p:Int) ks) fun r=>∃k:Nat,r.1=(k:Int)/\a<k/\k<=b/\cG a b d r.2/\r.2[a]? =d[p]? /\∀m,a<m->m<k->eW lt r.2[m]? d[p]?
def s4 (lt:α->α->Bool) (d:List α) (a b e f:Nat):Prop:=∀m n,a<=m->m<n->n<b->(m<e\/f<=n)->eW lt d[m]? d[n]?
theorem s4.cQ {d e:List α} {a b f g:Nat} (h:s4 lt d a b f g) (A:a<=f) (B:g<=b) (l:cG f g d e):s4 lt e a b f g:=fun m n g1 g2 g3 g4=>by
 by_cases m1:f<=m/\m<g
 .obtain ⟨s,t,u,o⟩:=l.gB m m1.1 m1.2
  rw[o,l.out n (by omega)]
  exact h s n (by omega) (by omega) g3 (by omega)
 .rw [l.out m (by omega)]
  by_cases p:f<=n/\n<g
  .obtain ⟨v,t,u,o⟩:=l.gB n p.1 p.2
   rw[o]
   exact h m v g1 (by omega) (by omega) (by omega)
  .rw [l.out n (by omega)]
   exact h m n g1 g2 g3 g4
theorem s4.low {d:List α} {a b f g:Nat} (h:s4 lt d a b f g) (p:a<=f) (s:g<=b) (l:oD lt d a b):oD lt d f g:=fun o m g1 g2=>by
 by_cases e:f=a
 .subst e;exact l o m g1 (by omega)
 .exact h (f-1) m (by omega) (by omega) (by omega) (by omega)
theorem s0.left {d e:List α} {a b k:Nat} (h:s0 lt a b k d) (o:hX lt) (g:cG a k d e) (p:gM lt e a k):∀m n,a<=m->m<=k->m<n->n<b->eW lt e[m]? e[n]? :=by
 have s:∀m,a<=m->m<k->eW lt e[m]? e[k]? :=fun m g1 g2=>by
  obtain⟨t,u,v,A⟩:=g.gB m g1 g2
  rw[A,g.out k (by omega)];exact h.low t u v
 have l:∀n,k<n->n<b->eW lt e[k]? e[n]? :=fun n g1 g2=>by
  rw[g.out k (by omega),g.out n (by omega)];exact h.high n g1 g2
 intro m n g1 g2 g3 g4
 by_cases B:m=k
 .subst B;exact l n g3 g4
 .have hm:=s m g1 (by omega)
  rcases sT n k with f|f|f
  .exact p m n g1 g3 f
  .subst f;exact hm
  .exact hm.trans o (l n f g4)
theorem s0.right {d e:List α} {a b k:Nat} (h:s0 lt a b k d) (p:hX lt) (f:cG (k+1) b d e) (s:gM lt e (k+1) b):∀m n,a<=m->m<n->k<=n->n<b->eW lt e[m]? e[n]? :=by
 have l:∀m,a<=m->m<k->eW lt e[m]? e[k]? :=fun m g1 g2=>by
  rw[f.out m (by omega),f.out k (by omega)];exact h.low m g1 g2
 have t:∀n,k<n->n<b->eW lt e[k]? e[n]? :=fun n g1 g2=>by
  obtain⟨u,C,v,A⟩:=f.gB n (by omega) g2
  rw[A,f.out k (by omega)];exact h.high u (by omega) v
 intro m n g1 g2 g3 g4
 by_cases B:n=k
 .subst B;exact l m g1 g2
 .have o:=t n (by omega) g4
  rcases sT m k with g|g|g
  .exact (l m g1 g).trans p o
  .subst g;exact o
  .exact s m n (by omega) g2 g4
theorem Cl (M:hX lt) (N:Nat) (qa:N<=16777216) (dO:5<N) (U:List α->Int->Int->bT->Option (List α)) (uR:List α->Int->Int->Int->bT->Option (Int×List α)) (Y:JI c ks lt N uR):
  ∀(D:Nat) (d:List α) (a b s:Nat),fk c ks lt d->oD lt d a b->a<=b->b<=d.length->d.length<N->b-a<D->s<=1000->(vu c ks lt N U\/b-a<=11+s)->
   Def (lu c U uR N D d (a:Int) (b:Int) (s:Int) ks) fun r=>cG a b d r/\gM lt r a b
 |0,_,_,_,_,_,_,_,_,_,h,_,_=>absurd h (sQ _)
 |D+1,d,a,b,s,mC,jK,WC,au,bK,jJ,Xq,Wp=>by
  unfold lu
  refine Def.iter (fun g=>∃a6:List α,∃f l V:Nat,∃hH wp:Bool,a<=f/\f<=l/\l<=b/\V<=1000/\(vu c ks lt N U\/l-f<=11+V)/\cG a b d a6/\s4 lt a6 a b f l/\g=(a6,(f:Int),(l:Int),(V:Int),ks,hH,wp)) (fun g=>g.2.2.1.toNat-g.2.1.toNat) ?_ N _
   ⟨d,a,b,s,true,true,bC _,WC,bC _,Xq,Wp,cG.refl _ _ _,(fun m n g1 g2 g3 g4=>by omega),rfl⟩ (by show((b:Int)).toNat-_<N;omega)
  rintro go _ ⟨a6,f,l,V,hH,wp,G,a2,a3,ajQ,Z,W,O,rfl⟩ Fp
  dsimp only
  have zF:=W.len
  have B:=mC.perm W.perm
  have E3:oD lt a6 f l:=O.low G a3 (jK.cQ W)
  have fin:∀e,cG f l a6 e->gM lt e f l->cG a b d e/\gM lt e a b:=fun e he zn=>⟨W.trans (he.mono G a3),fun m n g1 g2 g3=>by
   by_cases x:m<f\/l<=n
   .exact O.cQ G a3 he m n g1 g2 g3 x
   .exact zn m n (by omega) g2 (by omega)⟩
  refine Def.ite (by unfold fits;omega) (Def.bL (fun Vi=>?_) (fun Vi=>?_))
  .exact Def.bind (YD M N B a2 (by omega) (by omega) (by omega)) fun r ⟨C,P⟩=>Def.ret (fin r C P)
  refine Def.bL (fun tp=>?_) (fun tp=>?_)
  .rcases Z with cU|cU
   .exact Def.bind (cU a6 f l B a2 (by omega) (by omega)) fun r ⟨C,P⟩=>Def.ret (fin r C P)
   .omega
  refine Def.meet (fun g=>∃e:List α,∃A:Nat,∃hH wp:Bool,A<=1000/\(vu c ks lt N U\/l-f<=12+A)/\cG f l a6 e/\g=(e,(f:Int),(l:Int),(A:Int),ks,hH,wp,(l:Int)-(f:Int))) ?_ fun J Lr=>?_
  .rintro _ ⟨e,A,hH,wp,I,K,Q,rfl⟩
   dsimp only
   have wg:=Q.len
   have Wh:=B.perm Q.perm
   refine Def.bind (Ux N Wh (by omega) (by omega) (by omega)) fun qH ⟨L8,XN⟩=>?_
   rw[XN]
   refine Def.meet (fun g=>∃cb:List α,∃p h:Int,cG f l a6 cb/\In f l p/\g=(cb,(f:Int),(l:Int),(A:Int),ks,hH,wp,(l:Int)-(f:Int),p,h)) ?_ fun vv Ls=>?_
   .rintro _ ⟨cb,p,h,u,cU,rfl⟩
    dsimp only
    have aov:=u.len
    have Wg:=B.perm u.perm
    refine Def.meet (fun g=>∃F:List α,cG f l a6 F/\g=(F,(f:Int),(l:Int),(A:Int),ks,hH,wp,(l:Int)-(f:Int),p)) ?_ fun TA Wr=>?_
    .rintro _ ⟨F,L,rfl⟩
     dsimp only
     have aow:=L.len
     have S:=B.perm L.perm
     obtain⟨p,rfl,kO,mU⟩:=cU
     have tail:∀X,X=Option.bind (pj c N F (f:Int) (l:Int) (p:Int) ks) (fun(t:Int×Bool×(List α))=>
                      (if fits (t.1-(f:Int))then(if fits ((l:Int)-t.1)then(if 8≠0 then
                         (if fits (((l:Int)-(f:Int)).tdiv 8)then(bif(decide ((t.1-(f:Int))<((l:Int)-t.1)))then
                           (Option.bind (lu c U uR N D t.2.2 (f:Int) t.1 (A:Int) ks) fun(IG:(List α))=>
                            (if fits (t.1+1)then(go (IG,(t.1+1),(l:Int),(A:Int),ks,(decide ((((l:Int)-(f:Int)).tdiv 8)<=(t.1-(f:Int)))),t.2.1))else none))
                           else
                           (if fits (t.1+1)then(Option.bind (lu c U uR N D t.2.2 (t.1+1) (l:Int) (A:Int) ks) fun(IH:(List α))=>
                             (go (IH,(f:Int),t.1,(A:Int),ks,(decide ((((l:Int)-(f:Int)).tdiv 8)<=((l:Int)-t.1))),t.2.1)))else none))else none)
                         else none)else none)else none))->Def X fun r=>cG a b d r/\gM lt r a b:=by
      rintro _ rfl
      refine Def.bind (ak7 M N S kO mU (by omega) (by omega) (by omega)) fun t ⟨k,bx,H,mE⟩=>?_
      rw[bx]
      have cP:=mE.JT
      have cI:=mE.ajN
      have WV:=H.len
      have o:=L.trans H
      have E1:=B.perm o.perm
      have v:=O.cQ G a3 o
      have t8:((l:Int)-(f:Int)).tdiv 8=(((l-f)/8:Nat):Int):=by
       rw[show((l:Int)-(f:Int))=((l-f:Nat):Int)from by omega];rfl
      refine Def.ite (by unfold fits;omega) (Def.ite (by unfold fits;omega) (Def.ite (by omega) (Def.ite (by rw[t8];unfold fits;omega) ?_)))
      refine Def.bL (fun _=>?_) (fun _=>?_)
      .refine Def.bind (Cl M N qa dO U uR Y D t.2.2 f k A E1 ?_ (by omega) (by omega) (by omega) (by omega) I (K.imp_right fun h=>by omega)) fun IG ⟨C,P⟩=>?_
       .exact fun hc m g1 g2=>(v.low G a3 ((jK.cQ W).cQ (o.mono G a3))) hc m g1 (by omega)
       refine Def.ite (aN (n:=k) (by omega)) (Fp _ ⟨IG,k+1,l,A,_,_,by omega,by omega,a3,I,K.imp_right fun h=>by omega,W.trans ((o.trans (C.mono (bC _) (by omega))).mono G a3),fun m n g1 g2 g3 g4=>?_,by rw[aR]⟩ (by show((l:Int)).toNat-((k:Int)+1).toNat<((l:Int)).toNat-((f:Int)).toNat;omega))
       by_cases x:m<f\/l<=n
       .exact v.cQ G a3 (C.mono (bC _) (by omega)) m n g1 g2 g3 x
       .exact mE.left M C P m n (by omega) (by omega) g2 (by omega)
      .refine Def.ite (aN (n:=k) (by omega)) ?_
       rw[<-aR]
       refine Def.bind (Cl M N qa dO U uR Y D t.2.2 (k+1) l A E1 ?_ (by omega) (by omega) (by omega) (by omega) I (K.imp_right fun h=>by omega)) fun IH ⟨C,P⟩=>?_
       .exact fun hc m g1 g2=>by
         rw[lF];exact mE.high m (by omega) g2
       refine Fp _ ⟨IH,f,k,A,_,_,G,cP,by omega,I,K.imp_right fun h=>by omega,W.trans ((o.trans (C.mono (by omega) (bC _))).mono G a3),fun m n g1 g2 g3 g4=>?_,rfl⟩ (by show((k:Int)).toNat-((f:Int)).toNat<((l:Int)).toNat-((f:Int)).toNat;omega)
       by_cases x:m<f\/l<=n
       .exact v.cQ G a3 (C.mono (by omega) (bC _)) m n g1 g2 g3 x
       .exact mE.right M C P m n (by omega) g2 (by omega) (by omega)
     refine Def.bL (fun kD=>?_) (fun kD=>tail _ rfl)
     have Ws:=E3.cQ L
     have Lw:0<f:=by omega
     refine Def.ite (by unfold fits;omega) ?_
     rw[show((f:Int)-1)=((f-1:Nat):Int)from by omega]
     have bd:=Ws Lw p kO mU
     refine tj (i:=f-1) (j:=p) S (by omega) (by omega) (fun _ r cE=>?_) (fun cD r cE=>?_)
     .rw [cE,bn,aj]
      exact tail _ rfl
     .rw [cE,dt,ao]
      refine Def.bind (Y F f l p S kO mU (by omega) (by omega)) fun t ⟨k,bx,cP,cI,H,Wc,Wd⟩=>?_
      rw[bx]
      have WV:=H.len
      have o:=L.trans H
      have E1:=B.perm o.perm
      have v:=O.cQ G a3 o
      have Wt:=E3.cQ o
      have XF:eW lt F[p]? F[f-1]? :=S.other (by omega) (by omega) (by omega) cD
      refine Fp _ ⟨t.2,k,l,A,_,_,by omega,cI,a3,I,K.imp_right fun h=>by omega,W.trans (o.mono G a3),fun m n g1 g2 g3 g4=>?_,rfl⟩ (by show((l:Int)).toNat-((k:Int)).toNat<((l:Int)).toNat-((f:Int)).toNat;omega)
      by_cases x:m<f\/l<=n
      .exact v m n g1 g2 g3 x
      .have XE:t.2[f-1]? =F[f-1]? :=H.out _ (by omega)
       have L3:=Wt Lw n (by omega) (by omega)
       rw[XE]at L3
       have L9:eW lt F[p]? t.2[n]? :=XF.trans M L3
       by_cases em:m=f
       .rw [em,Wc];exact L9
       .exact (Wd m (by omega) (by omega)).trans M L9
    .have T:∀F,cG f l a6 F->Def (TA (F,(f:Int),(l:Int),(A:Int),ks,hH,wp,(l:Int)-(f:Int),p)) fun r=>cG a b d r/\gM lt r a b:=fun F h=>Wr _ ⟨F,h,rfl⟩
     refine Def.bif (fun _=>Def.bif (fun _=>Def.bL (fun _=>?_) (fun _=>T cb u)) (fun _=>T cb u)) (fun _=>T cb u)
     refine Def.bind (ald M N Wg (E3.cQ u) (by omega) (by omega) (by omega) (by omega) dO) fun qI ⟨C,P⟩=>?_
     exact Def.bif (fun e=>Def.ret (fin _ (u.trans C) (P e))) (fun _=>T _ (u.trans C))
   .refine Def.bL (fun _=>?_) (fun _=>Ls _ ⟨e,qH.1,qH.2.1,Q,L8,rfl⟩)
    refine Def.bind (alX N (by omega) (by omega) (by omega) (by omega)) fun uV dO=>?_
    obtain⟨q,dr,mX,pk⟩:=L8
    rw[dr]
    refine Def.ite (by unfold fits;omega) (Def.ite (by unfold fits;omega) (Def.ite (by unfold fits;omega) (Ls _ ⟨uV,_,_,Q.trans dO,⟨l-1-(q-f),by omega,by omega,by omega⟩,rfl⟩)))
  .refine Def.bif (fun _=>?_) (fun _=>Lr _ ⟨a6,V,hH,wp,ajQ,Z.imp_right fun h=>by omega,cG.refl _ _ _,rfl⟩)
   refine Def.bind (Ul (ks:=ks) N a2 (by omega) (by omega) (by omega)) fun qG bD=>?_
   refine Def.ite (by unfold fits;omega) (Lr _ ⟨qG,V-1,hH,wp,by omega,Z.imp_right fun h=>by omega,bD,?_⟩)
   rw[show((V-1:Nat):Int)=(V:Int)-1 from by omega]
end
section
variable {α bT ρ : Type} {c : bT -> α -> α -> Option Int} {lt : α -> α -> Bool} {ks : bT}
def Heap (lt:α->α->Bool) (d:List α) (f lo hi:Nat):Prop:=∀p q,lo<=p->(q=2*p+1\/q=2*p+2)->q<hi->eW lt d[f+q]? d[f+p]?
theorem Def.rq {β:Type} {a:List α} {n:Nat} {f:α->Option β} {P:β->Prop} (e:n<a.length) (h:Def (f a[n]) P):Def (Option.bind (a[((n:Nat):Int).toNat]?) f) P:=by
 rw[er,bH e];exact h
theorem RQ (G:hX lt) (N:Nat) {d:List α} {f lo hi:Nat} (S:fk c ks lt d) (X:f+hi<=d.length) (Y:d.length<N) (Z:N<=1099511627776) (H:lo<=d.length) (T:Heap lt d f (lo+1) hi):
  Def (qP c N d (lo:Int) (hi:Int) (f:Int) ks) fun r=>cG f (f+hi) d r/\Heap lt r f lo hi/\∀m,m<lo->r[f+m]? =d[f+m]? :=by
 unfold qP
 refine Def.iter (fun g=>∃a6:List α,∃r:Nat,lo<=r/\r<=d.length/\cG f (f+hi) d a6/\(∀m,m<lo->a6[f+m]? =d[f+m]?)/\(∀p q,lo<=p->p≠r->(q=2*p+1\/q=2*p+2)->q<hi->eW lt a6[f+q]? a6[f+p]?)/\
  (∀p q,lo<=p->(r=2*p+1\/r=2*p+2)->(q=2*r+1\/q=2*r+2)->q<hi->eW lt a6[f+q]? a6[f+p]?)/\g=(a6,(hi:Int),(f:Int),ks,(r:Int))) (fun g=>hi-g.2.2.2.2.toNat) ?_ N _
  ⟨d,lo,bC _,H,cG.refl _ _ _,fun _ _=>rfl,fun p q g1 g2 g3 g4=>T p q (by omega) g3 g4,fun p q g1 g2 g3 g4=>by omega,rfl⟩ (by show hi-_<N;omega)
 rintro go _ ⟨a6,r,od,P,A,hm,B,U,rfl⟩ I
 dsimp only
 have V:=A.len
 have t:=S.perm A.perm
 .refine Def.ite (by unfold fits;omega) (Def.ite (by unfold fits;omega) (Def.bL (fun e=>?_) (fun e=>?_)))
  .refine Def.ret ⟨A,fun p q g1 g2 g3=>?_,hm⟩
   by_cases s:p=r
   .subst s;omega
   .exact B p q g1 s g2 g3
  refine Def.meet (fun g=>∃l:Nat,(l=2*r+1\/l=2*r+2)/\l<hi/\(∀q,(q=2*r+1\/q=2*r+2)->q≠l->q<hi->eW lt a6[f+q]? a6[f+l]?)/\g=(a6,(hi:Int),(f:Int),ks,(r:Int),(l:Int))) ?_ fun J K=>?_
  .rintro _ ⟨l,W,c2,c3,rfl⟩
   dsimp only
   rw[show((f:Int)+(r:Int))=((f+r:Nat):Int)from by omega,show((f:Int)+(l:Int))=((f+l:Nat):Int)from by omega]
   have v:f+r<a6.length:=by omega
   have lc:f+l<a6.length:=by omega
   refine Def.ite (by unfold fits;omega) (Def.ite (by omega) (Def.rq v (Def.ite (by unfold fits;omega) (Def.ite (by omega) (Def.rq lc ?_)))))
   refine yS t v lc (fun o L u=>?_) (fun o L u=>?_)
   .rw [u,bn,aj]
    refine Def.ite (by unfold fits;omega) (Def.ite (by unfold fits;omega) (Def.ite (by unfold fits;omega) (Def.ite (by omega) (Def.rq lc (Def.ite (by unfold fits;omega) (Def.ite (by omega) (Def.rq v (Def.ite (by omega) (Def.rq v (Def.ite (by rw[mj];omega) ?_))))))))))
    have hw:=Sc (d:=a6) v lc
    rw[er,er,bH (by rw[mj];exact lc),af]
    generalize(a6.set (f+r) a6[f+l]).set (f+l) a6[f+r]=d2 at*
    refine I _ ⟨d2,l,by omega,by omega,A.trans (hw.cQ (by omega) (by omega) (by omega) (by omega)),fun m h=>?_,fun p q g1 g2 g3 g4=>?_,fun p q g1 g2 g3 g4=>?_,rfl⟩ (by show hi-((l:Int)).toNat<hi-((r:Int)).toNat;omega)
    .rw [hw.at',aA (by omega),aA (by omega)];exact hm m h
    .rw [hw.at',hw.at',aA (by omega:¬f+p=f+l)]
     by_cases C:p=r
     .subst C
      rw[ai rfl]
      by_cases s:q=l
      .subst s;rw[ai rfl];exact o.le G
      .rw [aA (by omega),aA (by omega)];exact c3 q g3 s g4
     .rw [aA (by omega:¬f+p=f+r),aA (by omega)]
      by_cases s:q=r
      .subst s;rw[ai rfl];exact U p l g1 g3 W c2
      .rw [aA (by omega)];exact B p q g1 C g3 g4
    .have C:p=r:=by omega
     subst C
     rw[hw.at',hw.at',aA (by omega),aA (by omega),aA (by omega),ai rfl]
     exact B l q (by omega) (by omega) g3 g4
   .rw [u,dt,ao]
    have F:=t.other v lc (by omega) o
    refine Def.ret ⟨A,fun p q g1 g2 g3=>?_,hm⟩
    by_cases s:p=r
    .subst s
     by_cases Q:q=l
     .subst Q;exact F
     .exact (c3 q g2 Q g3).trans G F
    .exact B p q g1 s g2 g3
  .refine Def.ite (by unfold fits;omega) (Def.bL (fun s=>?_) (fun s=>?_))
   .rw [show((f:Int)+(2*(r:Int)+1))=((f+(2*r+1):Nat):Int)from by omega]
    have M:f+(2*r+1)<a6.length:=by omega
    have O:f+(2*r+1)+1<a6.length:=by omega
    refine Def.ite (by unfold fits;omega) (Def.ite (by omega) (Def.rq M (Def.ite (by unfold fits;omega) (Def.ite (by unfold fits;omega) ?_))))
    rw[<-aR]
    refine Def.ite (by omega) (Def.rq O ?_)
    refine yS t M O (fun o L u=>?_) (fun o L u=>?_)
    .rw [u,ao]
     refine Def.ite (by unfold fits;omega) (K _ ⟨2*r+2,.inr rfl,by omega,fun q g1 g2 g3=>?_,by rw[show((2*r+2:Nat):Int)=2*(r:Int)+1+1 from by omega]⟩)
     rw[show q=2*r+1 from by omega];exact o.le G
    .rw [u,aj]
     have F:=t.other M O (by omega) o
     refine K _ ⟨2*r+1,.inl rfl,by omega,fun q g1 g2 g3=>?_,by rw[show((2*r+1:Nat):Int)=2*(r:Int)+1 from by omega]⟩
     rw[show q=2*r+2 from by omega];exact F
   .refine K _ ⟨2*r+1,.inl rfl,by omega,fun q g1 g2 g3=>by omega,by rw[show((2*r+1:Nat):Int)=2*(r:Int)+1 from by omega]⟩
theorem Heap.top (l:hX lt) {d:List α} {f hi:Nat} (h:Heap lt d f 0 hi):∀m,0<m->m<hi->eW lt d[f+m]? d[f+0]? :=by
 intro m
 induction m using Nat.strongRecOn with
 |ind m o=>
  intro s p
  have g:=h ((m-1)/2) m (bg _) (by omega) p
  by_cases e:(m-1)/2=0
  .rw [e]at g;exact g
  .exact g.trans l (o _ (by omega) (by omega) (by omega))
theorem WU (A:hX lt) (N:Nat) (K:N<=1099511627776) (U:5<N):vu c ks lt N (fun d a b ks=>ld c N d a b ks):=by
 intro d a b L P V W
 show Def (ld c N d (a:Int) (b:Int) ks) _
 unfold ld
 rw[show((b:Int)-(a:Int))=((b-a:Nat):Int)from by omega]
 generalize X:b-a=n
 have t:(((n:Int))-1).tdiv 2=((n-1)/2:Nat):=by
  by_cases e:n=0
  .subst e;rfl
  .rw [show((n:Int))-1=((n-1:Nat):Int)from by omega];rfl
 refine Def.ite (by unfold fits;omega) (Def.ite (by unfold fits;omega) (Def.ite (by omega) (Def.ite (by rw[t];unfold fits;omega) ?_)))
 rw[t]
 refine Def.iter (fun g=>∃a6:List α,∃i:Nat,i<=n+1/\cG a b d a6/\Heap lt a6 a i n/\g=(a6,ks,(a:Int),0,(n:Int),(i:Int)-1)) (fun g=>(g.2.2.2.2.2+1).toNat) ?_ N _
  ⟨d,(n-1)/2+1,?_,cG.refl _ _ _,fun p q g1 g2 g3=>by omega,?_⟩ (by show(((n-1)/2:Nat)+1:Int).toNat<N;omega)
 .rintro go _ ⟨a6,i,hi,h,o,rfl⟩ C
  dsimp only
  have F:=h.len
  refine Def.bL (fun e=>?_) (fun e=>?_)
  .obtain ⟨j,rfl⟩:∃j,i=j+1:=⟨i-1,by omega⟩
   rw[show(((j+1:Nat):Int)-1)=(j:Int)from by omega]
   refine Def.bind (RQ A N (L.perm h.perm) (f:=a) (lo:=j) (hi:=n) (by omega) (by omega) K (by omega) o) fun r ⟨s,G,_⟩=>?_
   refine Def.ite (by unfold fits;omega) (C _ ⟨r,j,by omega,h.trans (s.mono (bC _) (by omega)),G,rfl⟩ (by show((j:Int)-1+1).toNat<((((j+1:Nat):Int)-1)+1).toNat;omega))
  .obtain rfl:i=0:=by omega
   refine Def.ite (by unfold fits;omega) ?_
   refine Def.iter (fun g=>∃a6:List α,∃i:Nat,i<=n/\cG a b d a6/\Heap lt a6 a 0 i/\(∀m k,m<k->i<=k->k<n->eW lt a6[a+m]? a6[a+k]?)/\g=(a6,ks,(a:Int),0,(i:Int)-1)) (fun g=>(g.2.2.2.2+1).toNat) ?_ N _
    ⟨a6,n,bC _,h,o,fun m k g1 g2 g3=>by omega,rfl⟩ (by show((n:Int)-1+1).toNat<N;omega)
   rintro go2 _ ⟨a6,i,hi,h,o,B,rfl⟩ u
   dsimp only
   have F:=h.len
   refine Def.bL (fun e=>?_) (fun e=>Def.ret ⟨h,fun m k g1 g2 g3=>?_⟩)
   .obtain ⟨j,rfl⟩:∃j,i=j+1:=⟨i-1,by omega⟩
    rw[show(((j+1:Nat):Int)-1)=(j:Int)from by omega,show((a:Int)+(j:Int))=((a+j:Nat):Int)from by omega]
    refine Def.ite (by unfold fits;omega) (Def.ite (by unfold fits;omega) ?_)
    refine pt (by omega) (by omega) fun d2 hw=>?_
    have l:=h.trans (hw.cQ (a:=a) (b:=b) (by omega) (by omega) (by omega) (by omega))
    have M:=l.len
    have H:Heap lt d2 a (0+1) j:=fun p q g1 g2 g3=>by
     rw[hw.at',hw.at',aA (by omega),aA (by omega),aA (by omega),aA (by omega)]
     exact o p q (by omega) g2 (by omega)
    have v:∀m k,m<k->j<=k->k<n->eW lt d2[a+m]? d2[a+k]? :=fun m k g1 g2 g3=>by
     rw[hw.at',hw.at']
     by_cases O:k=j
     .subst O
      rw[ai rfl,aA (by omega)]
      by_cases I:m=0
      .subst I
       rw[ai (by omega)]
       exact o.top A k (by omega) (by omega)
      .rw [aA (by omega)]
       exact o.top A m (by omega) (by omega)
     .rw [aA (by omega:¬a+k=a+j),aA (by omega:¬a+k=a)]
      by_cases I:m=j
      .subst I;rw[ai rfl];exact B 0 k (by omega) (by omega) g3
      .rw [aA (by omega)]
       by_cases Q:m=0
       .subst Q;rw[ai (by omega)];exact B j k (by omega) (by omega) g3
       .rw [aA (by omega)];exact B m k g1 (by omega) g3
    refine Def.bind (RQ A N (L.perm l.perm) (f:=a) (lo:=0) (hi:=j) (by omega) (by omega) K (by omega) H) fun r ⟨s,G,_⟩=>?_
    refine Def.ite (by unfold fits;omega) (u _ ⟨r,j,by omega,l.trans (s.mono (bC _) (by omega)),G,fun m k g1 g2 g3=>?_,rfl⟩ (by show((j:Int)-1+1).toNat<((((j+1:Nat):Int)-1)+1).toNat;omega))
    rw[s.out (a+k) (by omega)]
    by_cases O:m<j
    .obtain ⟨J,Y,Z,S⟩:=s.gB (a+m) (by omega) (by omega)
     rw[S,show J=a+(J-a)from by omega]
     exact v (J-a) k (by omega) g2 g3
    .rw [s.out (a+m) (by omega)]
     exact v m k g1 g2 g3
   .have T:i=0:=by omega
    have:=B (m-a) (k-a) (by omega) (by omega) (by omega)
    rw[show a+(m-a)=m from by omega,show a+(k-a)=k from by omega]at this
    exact this
 .omega
 .rw [show((((n-1)/2+1:Nat)):Int)-1=(((n-1)/2:Nat):Int)from by omega]
end
section
variable {α bT : Type} {c : bT -> α -> α -> Option Int} {lt : α -> α -> Bool} {ks : bT}
def sy (c:bT->α->α->Option Int) (N:Nat) (x:List α) (ks:bT):Option (List α):=
 Option.bind (o4 N (IntKind.u64.wrap (x.length:Int))) fun r=>
  Option.bind (lu c (fun d a b ks=>ld c N d a b ks) (fun d a b p ks=>ma c N d a b p ks) N N x 0 (x.length:Int) r ks) fun e=>some e
theorem Jb (l:hX lt) (N:Nat) (t:N<=16777216) (g:5<N) (d:List α) (u:fk c ks lt d) (v:d.length<N):
  Def (sy c N d ks) fun r=>r.Perm d/\r.Pairwise fun x y=>lt y x=false:=by
 have A:vu c ks lt N (fun d a b ks=>ld c N d a b ks):=WU l N (by omega) g
 have B:JI c ks lt N (fun d a b p ks=>ma c N d a b p ks):=fun d a b p f o C F g=>ala N f o C F g (by omega)
 unfold sy
 by_cases G:d.length=0
 .obtain rfl:d=[]:=vj.1 G
  have e:IntKind.u64.wrap (([]:List α).length:Int)=0:=by show IntKind.u64.wrap 0=0;decide
  refine Def.bind (P:=fun r=>r=0) ?_ fun r H=>?_
  .rw [e];exact⟨0,rfl,rfl⟩
  .subst H
   refine Def.bind (Cl l N t g _ _ B N [] 0 0 0 u (fun h=>by omega) (bC _) (bC _) v (by omega) (by omega) (.inl A)) fun r ⟨f,_⟩=>?_
   have:=List.perm_nil.1 f.perm
   subst this
   exact Def.ret ⟨List.Perm.refl _,lC⟩
 refine Def.bind (PZ N d.length (by omega) (by omega)) fun r ⟨n,I,ej,ba,e0⟩=>?_
 subst I
 refine Def.bind (Cl l N t g _ _ B N d 0 d.length n u (fun h=>by omega) (bg _) (bC _) v (by omega) (by omega) (.inl A)) fun r ⟨f,o⟩=>Def.ret ⟨f.perm,?_⟩
 have J:=f.len
 refine mh.2 fun i j hi K s=>?_
 have:=o i j (bg _) s (by omega)
 rw[bH hi,bH K]at this
 exact this
structure q0 (lt:α->α->Bool):Prop where
 DT:∀x y,lt x y=true->lt y x=false
 trans:∀x y z,lt x y=true->lt y z=true->lt x z=true
structure DD (c:bT->α->α->Option Int) (ks:bT) (lt:α->α->Bool) (d:List α):Prop where
 cmp:∀x,x∈d->∀y,y∈d->Def (c ks x y) fun r=>decide (r<0)=lt x y
 sD:d.Pairwise fun x y=>lt x y=true\/lt y x=true
def so (lt:α->α->Bool) (d:List α) (x:α):Nat:=(d.filter fun z=>lt z x).length
def uz (lt:α->α->Bool) (d:List α) (x y:α):Bool:=decide (so lt d x<so lt d y)
theorem akr (lt:α->α->Bool) (d:List α):hX (uz lt d):=by
 refine⟨fun x y h=>?_,fun x y z h k=>?_⟩
 .unfold uz at*;rw[bz]at h;rw[decide_eq_false_iff_not];omega
 .unfold uz at*;rw[decide_eq_false_iff_not]at*;omega
theorem Cu (l:q0 lt) {x y:α} (h:lt x y=true):∀d:List α,so lt d x<=so lt d y/\(x∈d->so lt d x<so lt d y)
 | []=>⟨bC _,fun h=>by cases h⟩
 |z::d=>by
  obtain⟨p,o⟩:=Cu l h d
  unfold so at*
  rw[iX,iX]
  by_cases f:lt z x=true
  .have g:=l.trans z x y f h
   simp only[f,g,if_true,aZ]
   refine⟨by omega,fun hm=>?_⟩
   rcases bm.1 hm with e|hm
   .exfalso
    subst e
    have:=l.DT _ _ f
    rw[f]at this;cases this
   .have:=o hm;omega
  .by_cases g:lt z y=true
   .simp only [f,g,if_true,aZ]
    simp only[nk,if_false]
    exact⟨by omega,fun hm=>by omega⟩
   .simp only [f,g,nk,if_false]
    refine⟨p,fun hm=>?_⟩
    rcases bm.1 hm with e|hm
    .exfalso
     subst e
     exact g h
    .exact o hm
theorem Qb (l:q0 lt) {d:List α} (o:d.Pairwise fun x y=>lt x y=true\/lt y x=true) {x y:α} (p:x∈d) (hy:y∈d):uz lt d x y=lt x y:=by
 unfold uz
 cases e:lt x y
 .rw [decide_eq_false_iff_not]
  intro h
  obtain⟨i,hi,rfl⟩:=fe.1 p
  obtain⟨j,s,rfl⟩:=fe.1 hy
  rcases sT i j with f|f|f
  .rcases mh.1 o i j hi s f with g|g
   .rw [e]at g;cases g
   .have:=(Cu l g d).1;omega
  .subst f;omega
  .rcases mh.1 o j i s hi f with g|g
   .have:=(Cu l g d).1;omega
   .rw [e]at g;cases g
 .rw [bz]
  exact(Cu l e d).2 p
theorem RW (s:q0 lt) (N:Nat) (v:N<=16777216) (A:5<N) (d:List α) (g:DD c ks lt d) (B:d.length<N):
  Def (sy c N d ks) fun r=>r.Perm d/\r.Pairwise fun x y=>lt x y=true:=by
 obtain⟨r,o,l,C⟩:=Jb (akr lt d) N v A d (⟨fun x t y hy=>by
  obtain⟨r,o,he⟩:=g.cmp x t y hy
  exact⟨r,o,by rw[Qb s g.sD t hy];exact he⟩⟩:fk c ks (uz lt d) d) B
 refine⟨r,o,l,?_⟩
 have F:r.Pairwise fun x y=>lt x y=true\/lt y x=true:=(l.pairwise_iff (fun {x y} h=>h.symm)).2 g.sD
 refine mh.2 fun i j hi p f=>?_
 have u:=mh.1 C i j hi p f
 have e:=mh.1 F i j hi p f
 have G:=l.mem_iff.1 (bA hi)
 have H:=l.mem_iff.1 (bA p)
 rw[Qb s g.sD H G]at u
 rcases e with e|e
 .exact e
 .rw [u]at e;cases e
end
theorem amT (N:Nat) (d:List ((List UInt8)×(List UInt8)×(List (Int×(List Int))))) (ks:Unit):BI N d ks=sy (jC N) N d ks:=rfl
theorem RV (lt:((List UInt8)×(List UInt8)×(List (Int×(List Int))))->((List UInt8)×(List UInt8)×(List (Int×(List Int))))->Bool) (e:q0 lt) (N:Nat) (f:N<=16777216) (g:5<N) (d:List ((List UInt8)×(List UInt8)×(List (Int×(List Int))))) (ks:Unit) (h:DD (jC N) ks lt d) (l:d.length<N):
  Def (BI N d ks) fun r=>r.Perm d/\r.Pairwise fun x y=>lt x y=true:=by
 rw[amT];exact RW e N f g d h l
theorem amW (N:Nat) (d:List (Int×(List ((List UInt8)×(List UInt8)))×(List ((List UInt8)×Int)))) (ks:Unit):BL N d ks=sy (jF N) N d ks:=rfl
theorem amZ (lt:(Int×(List ((List UInt8)×(List UInt8)))×(List ((List UInt8)×Int)))->(Int×(List ((List UInt8)×(List UInt8)))×(List ((List UInt8)×Int)))->Bool) (e:hX lt) (N:Nat) (f:N<=16777216) (g:5<N) (d:List (Int×(List ((List UInt8)×(List UInt8)))×(List ((List UInt8)×Int)))) (ks:Unit) (h:fk (jF N) ks lt d) (l:d.length<N):
  Def (BL N d ks) fun r=>r.Perm d/\r.Pairwise fun x y=>lt y x=false:=by
 rw[amW];exact Jb e N f g d h l
theorem amV (N:Nat) (d:List ((List UInt8)×(List UInt8))) (ks:Unit):BK N d ks=sy (jE N) N d ks:=rfl
theorem amY (lt:((List UInt8)×(List UInt8))->((List UInt8)×(List UInt8))->Bool) (e:hX lt) (N:Nat) (f:N<=16777216) (g:5<N) (d:List ((List UInt8)×(List UInt8))) (ks:Unit) (h:fk (jE N) ks lt d) (l:d.length<N):
  Def (BK N d ks) fun r=>r.Perm d/\r.Pairwise fun x y=>lt y x=false:=by
 rw[amV];exact Jb e N f g d h l
theorem amU (N:Nat) (d:List (Int×Int)) (ks:Unit):BJ N d ks=sy (jD N) N d ks:=rfl
theorem amS (lt:(Int×Int)->(Int×Int)->Bool) (e:q0 lt) (N:Nat) (f:N<=16777216) (g:5<N) (d:List (Int×Int)) (ks:Unit) (h:DD (jD N) ks lt d) (l:d.length<N):
  Def (BJ N d ks) fun r=>r.Perm d/\r.Pairwise fun x y=>lt x y=true:=by
 rw[amU];exact RW e N f g d h l
end Go.Proofs.YtnkagklajgimlaaGreatDoor
