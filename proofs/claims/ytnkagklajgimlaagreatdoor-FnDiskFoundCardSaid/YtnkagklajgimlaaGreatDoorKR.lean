
import Derived.Test.YtnkagklajgimlaaGreatDoorKQ
set_option linter.unusedSimpArgs false
set_option linter.unusedVariables false
namespace Go.Proofs.YtnkagklajgimlaaGreatDoor
open Go.RowKit
section
variable {E : Env} {o : Oper} {s : aX} {e : bO} {aK : c6}
theorem ahx (c:Call) (cx:o.op= .call c) (bB:c.callee= .builtin .append) (x y:Operand) (bd:c.args.toList=[x,y]) (T:TypeId) (dH:c.argTypes.toList=[T,T]) (ty:bw) (hx:bU E.P T ty) (de:TypeId) (r:aH) (X:Nat) (he:ty.elem=some (de,r,X)) (d:Nat) (lV:o.dst=some d)
  (xs ys:List r.D) (gx av:List Nat) (wr u f:Bool)
  (Y:∀R β τ F S (a:Act) w,Mem R (aY s.B) (aF s.T) β τ F S w->(∀y,bo (s.ctx w S β τ) (s.aP y) (a.eval y))->∃Z,cg R.dm w S ⟨r,xs,de,wr,u,none⟩ (a.eval x) Z/\∀b,Z b->∃t aa,t∈gx/\aF s.T t=some (.live aa)/\F t b)
  (XZ:∀R β τ F S (a:Act) w,Mem R (aY s.B) (aF s.T) β τ F S w->(∀y,bo (s.ctx w S β τ) (s.aP y) (a.eval y))->ih w S (a.eval y) r ys/\(f=true->r.cj=true\/ ∃t aa,t∈av/\t∉gx/\aF s.T t=some (.live aa)/\Deep w (F t) (a.eval y) (.ag (.av r) ys)))
  (O:(xs.length+ys.length)*X<=140737488355328) (tx:xs.length+ys.length<=9223372036854775807) (kJ:E.wr d=wr) {az rt:List Nat} (h:(mR E d r (xs++ys) de (u&&f) ((gx++av).map fun t=>(t,some bb.eg))).R s az rt e aK):cR E o s e:=by
 obtain⟨bc,tE,l2,rfl⟩:=B5 h
 rw[kJ]
 rintro R a w e3 ⟨β,τ,F,S,M,cD,gp,fR⟩ K Q dP
 have fG:=hL fR
 obtain⟨hu,qf,fy,z,jM,gT,mF,bI,jg⟩:=hx.elem _ _ _ he
 have kD:c.args= #[x,y]:=by apply Array.ext';simpa using bd
 have p0:c.argTypes= #[T,T]:=by apply Array.ext';simpa using dH
 obtain⟨Z,Wx,hd⟩:=Y R β τ F S a w M fG
 obtain⟨wg,FG⟩:=XZ R β τ F S a w M fG
 have zF:d∉gx++av:=fun fo=>tE (d,some .eg) (cd.2 ⟨d,fo,rfl⟩) rfl
 have V:∀t aa b,aF s.T t=some (.live aa)->F t b->R.dm b/\b<w.heap.size:=fun t aa b G g=>(M.bG t aa G).1 b g
 have h3:=M.drop (tok':=eO (aF s.T) (gx++av)) (fun t G=>oi G) (fun t aa h=>(iV h).2)
 obtain⟨kx,XY,E2⟩:∃kx:Nat->Prop,(f=true->r.cj=true\/(Deep w kx (a.eval y) (.ag (.av r) ys)/\∀b,kx b->¬Z b))/\∀b,kx b->∃t aa,t∈av/\aF s.T t=some (.live aa)/\F t b:=by
  by_cases I:f=true/\¬r.cj=true
  .rcases FG I.1 with J|⟨t,aa,J,C,H,cN⟩
   .exact absurd J I.2
   .refine ⟨F t,fun _=>.inr ⟨cN,fun b g jL=>?_⟩,fun b g=>⟨t,aa,J,H,g⟩⟩
    obtain⟨U,p,g1,g2,g3⟩:=hd b jL
    exact C (M.eF t U aa p b H g2 g g3▸g1)
  .refine ⟨fun _=>False,fun J=>.inl ?_,fun _ h=>h.elim⟩
   by_cases C:r.cj=true
   .exact C
   .exact absurd ⟨J,C⟩ I
 have v:∀t aa b,t∉gx++av->aF s.T t=some (.live aa)->(Z b\/kx b)->¬F t b:=fun t aa b L G g cM=>by
  rcases g with g|g
  .obtain ⟨U,p,J,C,H⟩:=hd b g
   exact L (e8 _ (M.eF t U aa p b G C cM H▸J))
  .obtain ⟨U,p,J,C,H⟩:=E2 b g
   exact L (kW _ (M.eF t U aa p b G C cM H▸J))
 have A:∀k b,aY s.B k=some b->¬(Z (β k)\/kx (β k)):=fun k b W g=>by
  rcases g with g|g
  .obtain ⟨U,p,J,C,H⟩:=hd _ g
   exact M.fh U p k b C W H
  .obtain ⟨U,p,J,C,H⟩:=E2 _ g
   exact M.fh U p k b C W H
 obtain⟨fi,w',S',iL,iK,hle,iv⟩:=J1 (P:=E.P) h3 T o.type de fy z r X hu jM bI gT mF jg qf (a.eval x) (a.eval y) xs ys wr u f Z kx Wx wg XY
  (fun b g=>by obtain⟨t,aa,_,C,H⟩:=E2 b g;exact V t aa b C H) (fun t aa b G g=>v t aa b (iV G).1 (iV G).2 (.inl g)) (fun k b W g=>A k b W (.inl g)) O tx
 have cE:(execOp a.eval o).run E.P w= .ok (.value fi) w':=by
  simp only[execOp,cx,resolve,bB,invoke,builtin,Sem.run_bind,Sem.run_pure,Result.andThen_ok,kD,p0,List.map_toArray,cv,pF,iL]
 refine jt cE (dP _ _ (qK (s:=s) (gx++av) iK cD gp fR hle d bc (e3.gi l2) ⟨r,xs++ys,de,wr,u&&f,none⟩ fi _ iv rfl (fun t p b L G g=>?_) (fun k b W g=>?_) o.dst zF _ rfl))
 .rcases g.1 with h|h|h
  .exact v t p b L G (.inl h)
  .exact v t p b L G (.inr h)
  .intro cM;have:=(V t p b G cM).2;omega
 .rcases g.1 with h|h|h
  .exact A k b W (.inl h)
  .exact A k b W (.inr h)
  .have:=M.blt W;omega
theorem Oj {w:World} {F:Nat->Prop} {v:Value} {t:aH} {xs:List t.D} {r:aH} {ys:List r.D} (h:Deep w F v (.ag (.av t) xs)) (d:(⟨t,xs⟩:(t:aH)×List t.D)=⟨r,ys⟩):Deep w F v (.ag (.av r) ys):=by
 simp only[Sigma.mk.injEq]at d
 obtain⟨rfl,f⟩:=d
 cases f
 exact h
theorem yD {l:List Nat} {n:Nat} (h:((l.map fun t=>(t,some bb.eg)).any fun y=>y.1==n)=false):n∉l:=by
 intro d
 have:=List.any_eq_false.1 h (n,some .eg) (cd.2 ⟨n,d,rfl⟩)
 simp at this
theorem GH (b9:eA E) (c:Call) (cx:o.op= .call c) (bB:c.callee= .builtin .append) (x y:Operand) (bd:c.args.toList=[x,y]) (T:TypeId) (dH:c.argTypes.toList=[T,T]) (ty:bw) (W:bU E.P T ty) (O:TypeId) (r:aH) (I:Nat) (he:ty.elem=some (O,r,I)) (d:Nat) (Q:o.dst=some d)
  (xs:List r.D) (gx:List Nat) (wr g:Bool)
  (L:∀R β τ F S (a:Act) w,Mem R (aY s.B) (aF s.T) β τ F S w->(∀y,bo (s.ctx w S β τ) (s.aP y) (a.eval y))->∃k1,cg R.dm w S ⟨r,xs,O,wr,g,none⟩ (a.eval x) k1/\∀b,k1 b->∃t aa,t∈gx/\aF s.T t=some (.live aa)/\F t b)
  {az rt:List Nat} (h:(vB E d O r I g (gx.map fun t=>(t,some bb.eg)) wr xs (s.aP y)).R s az rt e aK):cR E o s e:=by
 have fin:∀(ys:List r.D) (av:List Nat) (p:Bool) (rt:List Nat),
   (∀R β τ F S (a:Act) w,Mem R (aY s.B) (aF s.T) β τ F S w->(∀y,bo (s.ctx w S β τ) (s.aP y) (a.eval y))->ih w S (a.eval y) r ys/\(p=true->r.cj=true\/ ∃t aa,t∈av/\t∉gx/\aF s.T t=some (.live aa)/\Deep w (F t) (a.eval y) (.ag (.av r) ys)))->
   (gE (room xs.length ys.length I) (if E.wr d=wr then mR E d r (xs++ys) O (g&&p) ((gx++av).map fun t=>(t,some bb.eg))else .fail)).R s az rt e aK->cR E o s e:=fun ys av p rt aS h=>by
  obtain⟨⟨v,J⟩,X⟩:=h
  split at X
  .rename_i Y
   exact ahx c cx bB x y bd T dH ty W O r I he d Q xs ys gx av wr g p L aS v J Y X
  .exact X.elim
 unfold vB at h
 simp only at h
 split at h
 .rename_i n hy
  simp only[bh.R]at h
  split at h
  case h_2=>exact h.elim
  rename_i aa u
  split at h
  case isFalse=>exact h.elim
  rename_i U
  obtain⟨U,M⟩:=U
  subst U
  have C:∀R β τ F S (a:Act) w,Mem R (aY s.B) (aF s.T) β τ F S w->(∀y,bo (s.ctx w S β τ) (s.aP y) (a.eval y))->a.eval y=τ n/\cg R.dm w S aa (τ n) (F n):=fun R β τ F S a w A f=>by
   have v:=f y;rw[hy]at v
   exact⟨(jX v).2.2 aa u,A.bG n aa u⟩
  split at h
  .rename_i G
   refine fin aa.xs [] true _ (fun R β τ F S a w A f=>?_) (by simpa using h)
   obtain⟨v,J⟩:=C R β τ F S a w A f
   exact⟨by rw[v];exact ih.xy J M,fun _=>.inl G⟩
  .rename_i G
   split at h
   .exact h.elim
   .rename_i H
    refine fin aa.xs [n] aa.deep _ (fun R β τ F S a w A f=>?_) (by simpa using h)
    obtain⟨v,J⟩:=C R β τ F S a w A f
    exact⟨by rw[v];exact ih.xy J M,fun K=>.inr ⟨n,aa,by simp,yD (Bool.eq_false_iff.2 H),u,by rw[v];exact J.nC M K⟩⟩
 .rename_i n iA zs hy
  split at h
  case isFalse=>exact h.elim
  rename_i U
  subst U
  have C:∀R β τ F S (a:Act) w,Mem R (aY s.B) (aF s.T) β τ F S w->(∀y,bo (s.ctx w S β τ) (s.aP y) (a.eval y))->ih w S (a.eval y) iA zs/\∀aa,aF s.T n=some (.live aa)->a.eval y=τ n/\cg R.dm w S aa (τ n) (F n)/\(⟨aa.t,aa.xs⟩:(t:aH)×List t.D)=⟨iA,zs⟩/\aa.wr=false:=fun R β τ F S a w A f=>by
   have v:=f y;rw[hy]at v
   obtain⟨g1,g2,g3⟩:=Dq v
   exact⟨ih.H6 g1,fun aa u=>⟨(g3 aa u).2.1,A.bG n aa u,(g3 aa u).2.2,(g3 aa u).1⟩⟩
  split at h
  .rename_i G
   exact fin zs [] true _ (fun R β τ F S a w A f=>⟨(C R β τ F S a w A f).1,fun _=>.inl G⟩) (by simpa using h)
  .rename_i G
   split at h
   .exact h.elim
   .rename_i H
    simp only[bh.R]at h
    refine fin zs [n] (nC (aF s.T n)) (n::rt) (fun R β τ F S a w A f=>?_) (by simp only[iD,cv,pF];exact h)
    obtain⟨v,J⟩:=C R β τ F S a w A f
    refine⟨v,fun K=>?_⟩
    cases V:aF s.T n with
    |none=>rw[V]at K;cases K
    |some z=>cases z with
     |eg=>rw[V]at K;cases K
     |live aa=>
      rw[V]at K
      obtain⟨cP,cI,hQ,Hq⟩:=J aa V
      refine .inr ⟨n,aa,by simp,yD (Bool.eq_false_iff.2 H),V,?_⟩
      have:=cI.nC (cI.plain Hq) K
      rw[cP]
      exact Oj this hQ
 .split at h
  case h_2=>exact h.elim
  rename_i ys Z
  refine fin ys [] r.cj _ (fun R β τ F S a w A f=>⟨ih.H6 (yI (c:=s.ctx w S β τ) Z (f y)),fun h=>.inl h⟩) (by simpa using h)
theorem Sq {Fr:Nat->Prop} {w:World} {S:bW} {aa:Tok} {v:Value} {F:Nat->Prop} (h:cg Fr w S aa v F) {r:aH} {xs:List r.D} (d:(⟨aa.t,aa.xs⟩:(t:aH)×List t.D)=⟨r,xs⟩):cg Fr w S ⟨r,xs,aa.e,aa.wr,aa.deep,aa.tr⟩ v F:=by
 obtain⟨t,ys,g,wr,deep,tr⟩:=aa
 simp only[Sigma.mk.injEq]at d
 obtain⟨rfl,f⟩:=d
 cases f
 exact h
theorem afl (Q:eA E) (c:Call) (U:o.op= .call c) (V:c.callee= .builtin .append)
  (I:∀(d:Nat) (x y:Operand) (T:TypeId) (ty:bw) (v:TypeId) (r:aH) (g t:Nat) (aa:Tok),o.dst=some d->c.args.toList=[x,y]->c.argTypes.toList=[T,T]->E.ty T=some ty->ty.elem=some (v,r,g)->s.aP x= .aw t->aF s.T t=some (.live aa)->(G:aa.t=r/\aa.tr=some [])->aa.e=v->(yG E d v r g t (G.1▸aa.xs) (s.aP y)).R s [] [t] e aK->cR E o s e)
  (L:∀(d:Nat) (x y:Operand) (T:TypeId) (ty:bw) (v:TypeId) (r:aH) (g t k:Nat) (aa:Tok),o.dst=some d->c.args.toList=[x,y]->c.argTypes.toList=[T,T]->E.ty T=some ty->ty.elem=some (v,r,g)->s.aP x= .sub t 0 k->aF s.T t=some (.live aa)->aa.t=r->aa.tr=none->aa.wr=true->aa.t.cj=true->E.wr d=true->(yF E d t k aa (s.aP y)).R s [] [t] e aK->cR E o s e)
  (h:(cF E o.op o.dst s.aP).R s [] [] e aK):cR E o s e:=by
 rw[U]at h
 simp only[cF,V]at h
 split at h
 case h_2=>exact h.elim
 rename_i d x y T c7 p M A
 split at h
 case isFalse=>exact h.elim
 rename_i p0
 subst p0
 split at h
 case h_2=>exact h.elim
 rename_i ty J
 have K:=Q.ty T ty J
 split at h
 case h_2=>exact h.elim
 rename_i v r g he
 split at h
 .rename_i t iA xs u
  simp only[bh.R]at h
  split at h
  case h_2=>exact h.elim
  rename_i aa f
  split at h
  case isFalse=>exact h.elim
  rename_i G
  subst G
  split at h
  case isFalse=>exact h.elim
  rename_i O
  refine GH Q c U V x y M T A ty K v iA g he d p xs [t] false aa.deep (fun R β τ F S a w P C=>?_) h
  have H:=C x;rw[u]at H
  obtain⟨g1,g2,g3⟩:=Dq H
  obtain⟨cP,cI,hQ⟩:=g3 aa f
  have W:=(P.bG t aa f).plain cP
  have:=Sq (P.bG t aa f) hQ
  rw[cP,O,W]at this
  refine⟨F t,?_,fun b X=>⟨t,aa,by simp,f,X⟩⟩
  rw[cI];exact this
 .rename_i t u
  simp only[bh.R]at h
  split at h
  case h_2=>exact h.elim
  rename_i aa f
  split at h
  case isFalse=>
   split at h
   case isFalse=>exact h.elim
   rename_i G
   split at h
   case isFalse=>exact h.elim
   rename_i O
   exact I d x y T ty v r g t aa p M A J he u f G O h
  rename_i G
  obtain⟨G,Y⟩:=G
  subst G
  split at h
  case isFalse=>exact h.elim
  rename_i O
  refine GH Q c U V x y M T A ty K v aa.t g he d p aa.xs [t] aa.wr aa.deep (fun R β τ F S a w P C=>?_) h
  have H:=C x;rw[u]at H
  obtain⟨g1,g2,g3⟩:=jX H
  have:=P.bG t aa f
  refine⟨F t,?_,fun b X=>⟨t,aa,by simp,f,X⟩⟩
  have cb:(⟨aa.t,aa.xs,v,aa.wr,aa.deep,none⟩:Tok)=aa:=by rw[<-O,<-Y]
  rw[g3 aa f,cb];exact this
 .rename_i u
  refine GH Q c U V x y M T A ty K v r g he d p [] [] (E.wr d) true (fun R β τ F S a w P C=>?_) h
  have H:=C x;rw[u]at H
  exact⟨fun _=>False,⟨fun _ h=>h.elim,.inl ⟨H,rfl⟩,fun _=>by rw[H];exact .nil _ _⟩,fun _ h=>h.elim⟩
 .rename_i t lo k u
  simp only[bh.R]at h
  split at h
  case h_2=>exact h.elim
  rename_i aa f
  split at h
  case isFalse=>exact h.elim
  rename_i Z
  obtain⟨pV,c2,c3,c4,c5,Up⟩:=Z
  subst Up
  exact L d x y T ty v r g t k aa p M A J he u f pV c2 c3 c4 c5 h
 .exact h.elim
end
section
variable {E : Env} {o : Oper} {s : aX} {e : bO} {aK : c6}
theorem cg.Ef {Fr:Nat->Prop} {w:World} {S:bW} {aa:Tok} {v:Value} {F:Nat->Prop} (h:cg Fr w S aa v F) (y:aa.tr=some []):Deep w F v (.ag (.av aa.t) aa.xs):=by
 obtain⟨Y,K,f⟩:=h
 unfold hq at f
 rw[y]at f
 obtain⟨_,_,_,A⟩:=f
 rcases K with⟨g,L⟩|⟨b,cap,r,T,g,M,H,O,P,hm,Q,U,Z⟩
 .rw [g,L];exact .nil _ _
 .rcases A with A|⟨bt,I,q,J,V,W,C⟩
  .rw [A]at g;cases g
  .rw [J]at g;cases g
   rw[J]
   have key:∀(i j:Nat) (x:aa.t.D) (c:ar),aa.xs[i]? =some x->(cellsOf aa.t x)[j]? =some c->∃u,r[i*aa.t.w+j]? =some u/\Deep w (q i j) u c:=fun i j x c p d=>by
    obtain⟨u,g1,g2,g3⟩:=C i j x c p d
    rw[cell_of_row w b _ r T (0,0) H]at g1
    exact⟨u,g1,g3 (jx.nil _ _)⟩
   refine .av F cap aa.t aa.xs (fun i j=>(r[i*aa.t.w+j]?).getD undef) b q r T M H O P hm (fun i j x c p d=>?_) V W (fun i j x c p d=>?_)
   .obtain ⟨u,G,_⟩:=key i j x c p d
    rw[G];rfl
   .obtain ⟨u,G,X⟩:=key i j x c p d
    simp only[G,mi]
    exact X
def Tok.only (aa:Tok):Prop:=∀f i o d,aa.tr=some f->(i,o,d)∈f->d=gone
theorem Mem.turn {R:ed} {w w':World} {S S':bW} {box:Nat->Option cf} {tok:Nat->Option bb} {β:Nat->Nat} {τ:Nat->Value} {F:Nat->Nat->Prop} (y:Mem R box tok β τ F S w) (n:Nat) (aa p:Tok) (A:tok n=some (.live aa)) (l:List Nat) (zK:n∉l) (X:Nat->Prop) (r:Step X S S' w w') (lU:∀k,X k->F n k)
  (G:Nat->Prop) (p9:∀b,G b->F n b\/ ∃t f,t∈l/\tok t=some (.live f)/\F t b) (M:cg R.dm w' S' p (τ n) G) (W:p.t=aa.t) (bB:aa.wr=false->p.wr=false/\(⟨p.t,p.xs⟩:(t:aH)×List t.D)=⟨aa.t,aa.xs⟩)
  (lY:∀l3 i o d,p.tr=some l3->(i,o,d)∈l3->d≠gone->∃aS,aa.tr=some aS/\(i,o,d)∈aS/\∀b l cap,τ n= .slice (some ⟨b,0,none⟩) l cap->w'.cell? ⟨b,i*aa.t.w+o,none⟩=w.cell? ⟨b,i*aa.t.w+o,none⟩):
  Mem R box (updT (eO tok l) n (some (.live p))) β τ (fun t=>if t=n then G else F t) S' w'/\ha ⟨w,S,fun k=>box k≠none,β,tok,τ⟩ ⟨w',S',fun k=>box k≠none,β,updT (eO tok l) n (some (.live p)),τ⟩:=by
 have cM:=(y.bG n aa A).1
 have Y:∀k b,box k=some b->¬F n (β k):=fun k b I h=>y.fh n aa k b A I h
 have h3:=y.drop (tok':=eO tok (n::l)) (fun t W=>oi W) (fun t aa h=>(iV h).2)
 have K:=h3.step r (fun k I=>(cM k (lU k I)).1) (fun k b I h=>Y k b I (lU _ h)) (fun t p W k I M=>(iV W).1 (by simp[y.eF t n p aa k (iV W).2 A I (lU k M)]))
 have cq:∀ {t f},t≠n->updT (eO tok l) n (some (bb.live p)) t=some (.live f)->t∉l/\tok t=some (.live f):=fun {t f} e h=>by
  simp only[updT,e,if_false]at h
  exact iV h
 have O:∀ {t f},updT (eO tok l) n (some (bb.live p)) t=some (.live f)->∃J,tok t=some (.live J):=fun {t f} h=>by
  by_cases e:t=n
  .exact ⟨aa,e▸A⟩
  .exact ⟨f,(cq e h).2⟩
 have used:∀ {t},tok t≠none->updT (eO tok l) n (some (bb.live p)) t≠none:=fun {t} h=>by
  by_cases e:t=n
  .subst e;simp[updT]
  .simp only [updT,e,if_false];exact oi h
 have hle:ha ⟨w,S,fun k=>box k≠none,β,tok,τ⟩ ⟨w',S',fun k=>box k≠none,β,updT (eO tok l) n (some (.live p)),τ⟩:=fun t H=>⟨used H,fun f C=>by
  have C:updT (eO tok l) n (some (bb.live p)) t=some (.live f):=C
  by_cases e:t=n
  .subst e
   simp[updT]at C;subst C
   exact⟨aa,A,rfl,W,bB⟩
  .exact ⟨f,(cq e C).2,rfl,rfl,fun h=>⟨h,rfl⟩⟩⟩
 refine⟨⟨K.ew,K.cq,K.new,K.iP,K.lt,fun k b I=>?_,y.jB,fun t f H=>?_,fun t dc f J b C U f1 f2=>?_,fun t f k b H I f1=>?_,y.k6,fun t v f cO H=>?_,fun m V aS i o d hm lg fo Z=>?_⟩,hle⟩
 .obtain ⟨C,U,p8,h2⟩:=y.boxes k b I
  obtain⟨cP,cI,hQ,_⟩:=K.boxes k b I
  exact⟨cP,cI,hQ,h2.imp (r.ew.block _ (y.blt I) (fun h=>Y k b I (lU _ h))) fun x u bd=>⟨e9.mono (c:=⟨w,S,fun k=>box k≠none,β,tok,τ⟩) (c':=⟨w',S',fun k=>box k≠none,β,updT (eO tok l) n (some (.live p)),τ⟩) ⟨r.cq,r.cell⟩ (fY.refl rfl rfl) hle bd.1,bd.2⟩⟩
 .by_cases e:t=n
  .subst e
   simp[updT]at H;subst H
   simpa using M
  .have C:=cq e H
   have:=(y.bG t f C.2).step r (fun k I M=>e (y.eF t n f aa k C.2 A I (lU k M)))
   simpa[e]using this
 .by_cases L:t=n<;>by_cases P:dc=n
  .rw [L,P]
  .simp only [L,if_true]at f1
   simp only[P,if_false]at f2
   have U:=cq P U
   rcases p9 b f1 with g|⟨t1,Q,g1,g2,g3⟩
   .exact absurd (y.eF dc n J aa b U.2 A f2 g) P
   .exact absurd (y.eF dc t1 J Q b U.2 g2 f2 g3▸g1) U.1
  .simp only [L,if_false]at f1
   simp only[P,if_true]at f2
   have C:=cq L C
   rcases p9 b f2 with g|⟨t1,Q,g1,g2,g3⟩
   .exact absurd (y.eF t n f aa b C.2 A f1 g) L
   .exact absurd (y.eF t t1 f Q b C.2 g2 f1 g3▸g1) C.1
  .simp only [L,if_false]at f1
   simp only[P,if_false]at f2
   exact y.eF t dc f J b (cq L C).2 (cq P U).2 f1 f2
 .by_cases e:t=n
  .simp only [e,if_true]at f1
   rcases p9 _ f1 with g|⟨t1,Q,g1,g2,g3⟩
   .exact Y k b I g
   .exact y.fh t1 Q k b g2 I g3
  .simp only [e,if_false]at f1
   exact y.fh t f k b (cq e H).2 I f1
 .obtain ⟨J,U⟩:=O H
  exact y.kS t v J cO U
 .by_cases e:m=n
  .subst e
   simp[updT]at hm;subst hm
   obtain⟨nN,g1,g2,g3⟩:=lY aS i o d lg fo Z
   obtain⟨cP,cI⟩:=y.fQ m aa nN i o d A g1 g2 Z
   refine⟨used cP,fun gJ bc=>?_⟩
   obtain⟨Jh,oR⟩:=O bc
   obtain⟨b,l,cap,L,P⟩:=cI Jh oR
   exact⟨b,l,cap,L,by rw[W];exact(g3 b l cap L).trans P⟩
  .have C:=cq e hm
   obtain⟨cP,cI⟩:=y.fQ m V aS i o d C.2 lg fo Z
   refine⟨used cP,fun gJ bc=>?_⟩
   obtain⟨Jh,oR⟩:=O bc
   obtain⟨b,l,cap,L,P⟩:=cI Jh oR
   have mD:=(y.bG m V C.2).block L
   exact⟨b,l,cap,L,(World.cell?_of_block (w:=w) (r.ew.block b ((y.bG m V C.2).1 b mD).2 (fun bd=>e (y.eF m n V aa b C.2 A mD (lU b bd))))).trans P⟩
theorem Mem.C1 {R:ed} {w w':World} {S S':bW} {box:Nat->Option cf} {tok:Nat->Option bb} {β:Nat->Nat} {τ:Nat->Value} {F:Nat->Nat->Prop} (u:Mem R box tok β τ F S w) (n:Nat) (aa f:Tok) (p:tok n=some (.live aa)) (X:Nat->Prop) (g:Step X S S' w w') (v:∀k,X k->F n k)
  (r:cg R.dm w' S' f (τ n) (F n)) (x:f.t=aa.t) (y:aa.wr=false->f.wr=false/\(⟨f.t,f.xs⟩:(t:aH)×List t.D)=⟨aa.t,aa.xs⟩) (A:f.tr=none):Mem R box (updT tok n (some (.live f))) β τ F S' w':=by
 have h:=(u.turn n aa f p [] (by simp) X g v (F n) (fun b C=>.inl C) r x y (fun G i o d h=>by rw[A]at h;cases h)).1
 have H:eO tok []=tok:=by funext t;simp[eO]
 have I:(fun t=>if t=n then F n else F t)=F:=by
  funext t
  by_cases e:t=n
  .rw [ai e,e]
  .rw [aA e]
 rw[H,I]at h
 exact h
theorem HI {w:World} {S S':bW} {v:Value} {p:b3} (h:bq w S v p) (d:p.isLit=true):bq w S' v p:=by
 rw[og h d];exact bq.pc d
theorem Mem.ze {R:ed} {w:World} {S:bW} {box:Nat->Option cf} {tok:Nat->Option bb} {β:Nat->Nat} {τ:Nat->Value} {F:Nat->Nat->Prop} (U:Mem R box tok β τ F S w) (n:Nat) (aa:Tok) (G:tok n=some (.live aa)) (g:aa.whole=true):
  ∃S',Mem R box (updT tok n (some (.live aa.jf))) β τ F S' w/\(∀b o,S b o->S' b o)/\cg R.dm w S' aa.jf (τ n) (F n):=by
 have A:=U.bG n aa G
 cases hw:aa.wr with
 |false=>
  have K:=A.plain hw
  have y:aa.jf=aa:=by cases aa;simp only at hw K;simp only[Tok.jf,hw,K]
  refine⟨S,?_,fun _ _ h=>h,by rw[y];exact A⟩
  have:updT tok n (some (.live aa.jf))=tok:=by
   funext j
   by_cases h:j=n
   .subst h;simp only[updT,if_true];rw[y];exact G.symm
   .simp only [updT,h,if_false]
  rw[this];exact U
 |true=>
  have W:=A
  obtain⟨cM,A,f⟩:=A
  obtain⟨S',v⟩:∃S':bW,S'=fun b o=>S b o\/(F n b/\((∀l cap,τ n= .slice (some ⟨b,0,none⟩) l cap->o<aa.xs.length*aa.t.w)/\(aa.tr≠none\/ ∃l cap,τ n= .slice (some ⟨b,0,none⟩) l cap))):=⟨_,rfl⟩
  have H:∀b o,S b o->S' b o:=fun b o h=>by rw[v];exact .inl h
  have I:Step (fun b=>F n b) S S' w w:=⟨hr.refl _ _,fun _ _ _=>rfl,H,fun b o h=>by
   rw[v]at h
   rcases h with h|h
   .exact .inl h
   .exact .inr (.inr h.1),fun b o h=>by
   rw[v]at h
   rcases h with h|h
   .exact U.lt b o h
   .exact (cM b h.1).2⟩
  have M:cg R.dm w S' aa.jf (τ n) (F n):=by
   refine⟨cM,?_,?_⟩
   .rcases A with⟨y,O⟩|⟨b,cap,X,T,y,aD,cr,bI,cD,hm,nO,Y,bB⟩
    .exact .inl ⟨y,O⟩
    .refine .inr ⟨b,cap,X,T,y,aD,cr,bI,cD,hm,fun _ o L=>?_,(fun h=>by cases h),fun i j x p Z K=>?_⟩
     .rw [v]at L
      rcases L with L|L
      .exact absurd L (Y hw o)
      .exact L.2.1 _ _ y
     .obtain ⟨u,V,cI,_⟩:=bB i j x p Z K
      have hi:i<aa.xs.length:=(dx.1 Z).1
      have bR:j<aa.t.w:=by have:=(dx.1 K).1;rwa[en]at this
      have gf:i*aa.t.w+j<aa.xs.length*aa.t.w:=by
       have:(i+1)*aa.t.w<=aa.xs.length*aa.t.w:=eh _ hi
       rw[ey]at this;omega
      refine⟨u,V,fun _=>?_,fun _=>?_⟩
      ·
       cases d:aa.tr with
       |none=>exact(cI d).mono H (fun _ _ _=>rfl)
       |some P=>
        have J:P=[]:=by
         unfold Tok.whole at g
         rw[d]at g
         cases P with
         |nil=>rfl
         |cons _ _=>cases g
        subst J
        unfold hq at f
        rw[d]at f
        obtain⟨_,_,Wk,dH⟩:=f
        rcases dH with dH|⟨bt,C,q,de,dr,bc,nM⟩
        .rw [dH]at y;cases y
        .rw [de]at y;cases y
         obtain⟨c,Q⟩:=th (r:=aa.t) x bR
         obtain⟨yc,g1,g2,g3⟩:=nM i j x c Z Q
         rw[cell_of_row w b _ X T (0,0) cr]at g1
         have V:X[i*aa.t.w+j]? =some u:=V
         rw[V]at g1
         cases g1
         obtain⟨t0,kq,n8,cN,dO,iu⟩:=(g3 (jx.nil _ _)).rep (S:=S') (fun k o A=>by
          rw[v]
          refine .inr ⟨(dr i j k A).1,fun l C O=>?_,.inl (by rw[d];simp)⟩
          rw[de]at O;cases O
          exact absurd rfl (dr i j b A).2)
         obtain⟨t1,sM,hv,oP⟩:=(k7 aa.t x).get' j c p Q K
         rw[hv]at cN;cases cN
         rw[oP]at dO;cases dO
         exact iu
      .rw [v]
       exact .inr ⟨aD,fun l C O=>gf,.inr ⟨_,_,y⟩⟩
   .unfold hq
    show(aa.deep=true->Deep w (F n) (τ n) (.ag (.av aa.t) aa.xs))
    intro bc
    unfold hq at f
    cases d:aa.tr with
    |none=>rw[d]at f;exact f bc
    |some P=>
     have J:P=[]:=by
      unfold Tok.whole at g
      rw[d]at g
      cases P with
      |nil=>rfl
      |cons _ _=>cases g
     subst J
     rw[d]at f
     exact W.Ef d
  exact⟨S',U.C1 n aa aa.jf G _ I (fun _ h=>h) M rfl (fun h=>by rw[hw]at h;cases h) rfl,H,M⟩
theorem aiF {c:Ctx} {S':bW} {n:Nat} {aa:Tok} (f:c.tok n=some (.live aa)) (g:aa.wr=false->aa.tr=none):ha c ⟨c.w,S',c.live,c.β,updT c.tok n (some (.live aa.jf)),c.τ⟩:=fun t p=>by
 by_cases e:t=n
 .subst e
  refine⟨by simp[updT],fun d h=>?_⟩
  simp[updT]at h;subst h
  exact⟨aa,f,rfl,rfl,fun h=>⟨rfl,rfl⟩⟩
 .simp only [updT,e,if_false]
  exact⟨p,fun d h=>⟨d,h,trivial,rfl,fun h=>⟨h,rfl⟩⟩⟩
theorem Deep.head {w:World} {F:Nat->Prop} {b cap:Nat} {r:aH} {xs:List r.D} (h:Deep w F (.slice (some ⟨b,0,none⟩) xs.length cap) (.ag (.av r) xs)) (k:Nat) (P:k<=xs.length):Deep w F (.slice (some ⟨b,0,none⟩) k cap) (.ag (.av r) (xs.take k)):=by
 obtain⟨v,d⟩:∃v,v=Value.slice (some ⟨b,0,none⟩) xs.length cap:=⟨_,rfl⟩
 rw[<-d]at h
 cases h with
 |lit _ _ _ _ p he f C=>cases he;cases f
 |nil _ _=>cases d
 |av _ A _ _ u Q q G T H I J U K hu L M O=>
  cases d
  have f:(xs.take k).length=k:=by simp;omega
  have get:∀ {i:Nat} {x:r.D},(xs.take k)[i]? =some x->xs[i]? =some x:=fun {i x} h=>by
   rw[ho]at h
   split at h
   .exact h
   .cases h
  have:=Deep.av F cap r (xs.take k) u b q G T H I J (by omega) K (fun i j x c g y=>hu i j x c (get g) y) L M (fun i j x c g y=>O i j x c (get g) y)
  rwa[f]at this
theorem cg.head {Fr:Nat->Prop} {w:World} {S:bW} {aa:Tok} {v:Value} {F:Nat->Prop} (h:cg Fr w S aa v F) (hw:aa.wr=true) (G:aa.tr=none) (k:Nat) (g:k<=aa.xs.length) {H:Option Addr} {cap m:Nat} (d:v= .slice H aa.xs.length cap):
  cg Fr w S ⟨aa.t,aa.xs.take k,aa.e,true,aa.deep,none⟩ (.slice (hN H cap 0 m) k (cap-0)) F:=by
 have r:=fun y=>h.nC G y
 obtain⟨I,L,_⟩:=h
 rcases L with⟨f,J⟩|⟨b,K,M,T,f,O,P,Q,cD,hm,U,A,V⟩
 .rw [f,show aa.xs.length=0 by rw[J];rfl]at d
  cases d
  have C:k=0:=by rw[J]at g;simpa using g
  subst C
  refine⟨I,.inl ⟨?_,by simp⟩,?_⟩
  .simp [hN]
  .show (aa.deep=true->Deep w F _ (.ag (.av aa.t) (aa.xs.take 0)))
   intro _
   have:(.slice (hN none 0 0 m) 0 (0-0):Value)= .slice none 0 0:=by simp[hN]
   rw[this]
   exact .nil _ _
 .rw [f]at d
  cases d
  have W:hN (some ⟨b,0,none⟩) cap 0 m=some ⟨b,0,none⟩:=by
   unfold hN
   split
   .rfl
   .simp [nv]
  have get:∀ {i:Nat} {x:aa.t.D},(aa.xs.take k)[i]? =some x->aa.xs[i]? =some x:=fun {i x} h=>by
   rw[ho]at h
   split at h
   .exact h
   .cases h
  rw[W,Nat.sub_zero]
  refine⟨I,.inr ⟨b,cap,M,T,by simp;omega,O,P,Q,by simp;omega,hm,(fun h=>by cases h),fun _=>A hw,fun i j x p X Y=>?_⟩,?_⟩
  .obtain ⟨u,Z,cI,_⟩:=V i j x p (get X) Y
   exact⟨u,Z,fun _=>cI G,fun h=>by cases h⟩
  .show (aa.deep=true->Deep w F _ (.ag (.av aa.t) (aa.xs.take k)))
   intro y
   have:=r y
   rw[f]at this
   exact this.head k g
theorem afr {dst:Option Nat} {lo:Option Operand} {wr:Bool} {d:Nat} (h:Hu E dst lo wr=some d):dst=some d/\lo=none/\E.wr d=true/\wr=true:=by
 unfold Hu at h
 split at h
 .split at h
  .rename_i f
   cases h
   simp only[bk]at f
   exact⟨rfl,rfl,f.1,f.2⟩
  .cases h
 .cases h
theorem ah9 (b9:eA E) (T:TypeId) (x:Operand) (lo hi:Option Operand) (cx:o.op= .slice T x lo hi none) (h:(cF E o.op o.dst s.aP).R s [] [] e aK):cR E o s e:=by
 rw[cx]at h
 simp only[cF]at h
 split at h
 case h_2=>exact h.elim
 rename_i ty hx
 have Lu:=b9.ty T ty hx
 split at h
 .rename_i b bd
  split at h
  case isFalse=>exact h.elim
  rename_i X0
  obtain⟨l,h,U⟩:=uN h
  obtain⟨q,h,W⟩:=uN h
  obtain⟨y,hy,h⟩:=h
  cases cY h
  obtain⟨X,Y,Z,rfl⟩:=yY hy
  refine gI fun c a w hw f=>?_
  have C:a.eval x= .string (bytes b):=vg (bd▸f x)
  have cE:=Ru (P:=E.P) w a false b.length b.length lo hi l q (U c a f) (W c a f) X Y Z (bC _)
  refine⟨.string ((bytes b).extract l.toNat q.toNat),?_,?_⟩
  .simp only [execOp,cx,Instr.sliceAt,Sem.run_bind,run_underlying (Lu.str X0),Result.andThen_ok,Instr.slice,C,Option.map_none,Option.isSome_none,nk,if_false,yO,cE,Sem.run_pure]
  .have:(bytes b).extract l.toNat q.toNat=bytes ((b.take q.toNat).drop l.toNat):=by
    apply Go.WideShapes.bytes_inj
    rw[ByteArray.data_extract,Array.toList_extract]
    simp only[bytes,List.extract,List.drop_take]
   rw[this];exact HY c _
 .split at h
  case h_2=>exact h.elim
  rename_i de r j8 he
  obtain⟨hu,qf,fy,z,J,gT,_⟩:=Lu.elem _ _ _ he
  split at h
  .rename_i n bd
   simp only[bh.R]at h
   split at h
   case h_2=>exact h.elim
   rename_i aa u
   split at h
   case isFalse=>exact h.elim
   rename_i la
   obtain⟨la,mA⟩:=la
   subst la
   have rD:aa.whole=true:=by unfold Tok.whole;rw[mA]
   obtain⟨l,h,U⟩:=uN h
   obtain⟨q,h,W⟩:=uN h
   obtain⟨y,hy,h⟩:=h
   obtain⟨X,Y,Z,Yi⟩:=yY hy
   split at h
   .rename_i d Xl
    obtain⟨lV,Fy,Ye,kJ⟩:=afr Xl
    obtain⟨bc,tE,l2,rfl⟩:=B5 h
    rw[Ye]
    rintro R a w e3 ⟨β,τ,F,S,L,M,H,V⟩ K Q dP
    have f:=hL V
    have v:=f x;rw[bd]at v
    have aP:=(jX v).2.2 aa u
    have Xn:l=0:=by
     rcases U (s.ctx w S β τ) a f with⟨_,e⟩|⟨hn,k,e,_⟩
     .exact e
     .rw [Fy]at e;cases e
    subst Xn
    have bx:=L.bG n aa u
    obtain⟨G,cap,C,g⟩:∃G cap,τ n= .slice G aa.xs.length cap/\aa.xs.length<=cap:=by
     rcases bx.2.1 with⟨O,cb⟩|⟨b,cap,bQ,c7,O,_,_,_,M,_⟩
     .exact ⟨none,0,by rw[O,cb];rfl,by rw[cb];exact bC _⟩
     .exact ⟨_,cap,O,M⟩
    have p:=Cz (E:=E) T x lo hi cx de fy hu J a w G aa.xs.length cap (aP.trans C) 0 q (U (s.ctx w S β τ) a f) (W (s.ctx w S β τ) a f) X Y Z g
    have iv:=bx.head kJ mA q.toNat (by omega) (m:=fy.size) C
    have h3:=L.drop (tok':=eO (aF s.T) [n]) (fun t ax=>oi ax) (fun t aa h=>(iV h).2)
    have Wz:cg R.dm w S ⟨aa.t,y,aa.e,true,aa.deep,none⟩ (.slice (hN G cap (0:Int).toNat fy.size) (q.toNat-(0:Int).toNat) (cap-(0:Int).toNat)) (F n):=by
     rw[Yi];exact iv
    exact jt p (dP _ _ (qK (s:=s) [n] h3 M H V (fun _ _ _ _ _=>⟨fun _ _ h=>h,fun _ _ _=>rfl⟩) d bc (e3.gi l2) ⟨aa.t,y,aa.e,true,aa.deep,none⟩ _ (F n) Wz rfl
     (fun t I b kI ax au cM=>kI (by simp[L.eF t n I aa b ax u cM au])) (fun k b bx au=>L.fh n aa k b u bx au) o.dst (fun fo=>by simp only[c1]at fo;rw[fo,u]at bc;cases bc) _ rfl))
   cases hle:xq E o.dst with
   |true=>
    rw[hle]at h
    cases cY h
    rintro R a w e3 ⟨β,τ,F,S,L,M,H,V⟩ K Q dP
    have f:=hL V
    have v:=f x;rw[bd]at v
    have aP:=(jX v).2.2 aa u
    have bx:=L.bG n aa u
    obtain⟨G,cap,C,g⟩:∃G cap,τ n= .slice G aa.xs.length cap/\aa.xs.length<=cap:=by
     rcases bx.2.1 with⟨O,cb⟩|⟨b,cap,bQ,c7,O,_,_,_,M,_⟩
     .exact ⟨none,0,by rw[O,cb];rfl,by rw[cb];exact bC _⟩
     .exact ⟨_,cap,O,M⟩
    have p:=Cz (E:=E) T x lo hi cx de fy hu J a w G aa.xs.length cap (aP.trans C) l q (U (s.ctx w S β τ) a f) (W (s.ctx w S β τ) a f) X Y Z g
    rw[gT]at p
    refine jt p (dP _ _ (jT (e:=⟨.sub n l.toNat q.toNat,[],[]⟩) L M H V o.dst (.inr ?_)))
    exact⟨rfl,by show aF s.T n≠none;rw[u];simp,fun I X3=>by
     have O:I=aa:=by
      have:some (bb.live I)=some (.live aa):=X3.symm.trans u
      cases this;rfl
     subst O
     exact⟨G,I.xs.length,cap,C,by omega,by omega,g,rfl⟩⟩
   |false=>
   rw[hle]at h
   obtain⟨rfl,_⟩:=h
   rintro R a w e3 ⟨β,τ,F,S,L,M,H,V⟩ K Q dP
   have f:=hL V
   have v:=f x;rw[bd]at v
   have aP:=(jX v).2.2 aa u
   obtain⟨S',iK,nL,iv⟩:=L.ze n aa u rD
   have A:bq w S' (τ n) (.av (aa.xs.map (enc aa.t))):=iv.rep rfl
   obtain⟨G,cap,b,ob,m,C,g,_⟩:=A.opened
   simp only[dX]at C g
   have WW:a.eval x= .slice G aa.xs.length cap:=aP.trans C
   have p:=Cz (E:=E) T x lo hi cx de fy hu J a w G aa.xs.length cap WW l q (U (s.ctx w S β τ) a f) (W (s.ctx w S β τ) a f) X Y Z g
   rw[gT]at p
   refine jt p (dP _ _ (jT (e:=⟨.ag (.av aa.t) y,[],[(n,some (.live aa.jf))]⟩) iK M H ?_ o.dst (.inr ⟨_,rfl,?_⟩)))
   .exact l7 (c:=s.ctx w S β τ) (c':=⟨w,S',fun k=>aY s.B k≠none,β,updT (aF s.T) n (some (.live aa.jf)),τ⟩) ⟨nL,fun _ _ _=>rfl⟩ (fY.refl rfl rfl) (aiF u (fun _=>mA)) V
   .exact Kz (by rw[<-C];exact A) l q hy
  .split at h
   case h_2=>exact h.elim
   rename_i xs oV
   obtain⟨l,h,U⟩:=uN h
   obtain⟨q,h,W⟩:=uN h
   obtain⟨y,hy,h⟩:=h
   cases cY h
   obtain⟨X,Y,Z,_⟩:=yY hy
   refine gI fun c a w hw f=>?_
   have A:=yI oV (f x)
   obtain⟨G,cap,b,ob,m,C,g,_⟩:=A.opened
   rw[dX]at C g
   have p:=Cz (E:=E) T x lo hi cx de fy hu J a w G xs.length cap C l q (U c a f) (W c a f) X Y Z g
   rw[gT]at p
   exact⟨_,p,_,rfl,Kz (by rw[<-C];exact A) l q hy⟩
theorem RO {c:Ctx} {w':World} {S':bW} {n:Nat} {aa d:Tok} (f:c.tok n=some (.live aa)) (p:d.t=aa.t) (r:aa.wr=false->d.wr=false/\(⟨d.t,d.xs⟩:(t:aH)×List t.D)=⟨aa.t,aa.xs⟩):ha c ⟨w',S',c.live,c.β,updT c.tok n (some (.live d)),c.τ⟩:=fun t g=>by
 by_cases e:t=n
 .subst e
  refine⟨by simp[updT],fun u h=>?_⟩
  simp[updT]at h;subst h
  exact⟨aa,f,rfl,p,r⟩
 .simp only [updT,e,if_false]
  exact⟨g,fun d h=>⟨d,h,trivial,rfl,fun h=>⟨h,rfl⟩⟩⟩
theorem B3 {c:Ctx}:∀(t:aH) (cs:List ar) (y:t.D) (d:List Value),hE t cs=some y->bs (ee c) cs d->bs (fun v p=>bq c.w c.S v p) d (enc t y):=by
 have leaf:∀(t:aH) (cs:List ar) (y:t.D) (d:List Value),one t cs=some y->bs (ee c) cs d->bs (fun v p=>bq c.w c.S v p) d (enc t y):=fun t cs y d h g=>by
  match cs,d,h,g with
  | [a],[v],h,g=>
   obtain⟨p,e,O⟩:=mx (c:=c) (show a.as t=some y from h) (gQ g.1.1)
   rw[e];exact⟨O,True.intro⟩
 intro t
 induction t with
 |bool=>exact leaf .bool
 |int k=>exact leaf (.int k)
 |str=>exact leaf .str
 |av r _=>exact leaf (.av r)
 |opt r _=>exact leaf (.opt r)
 |unit=>
  intro cs y d h g
  match cs,d,h,g with
  | [],[],_,_=>exact True.intro
 |pair a b A C=>
  intro cs y d h g
  simp only[hE]at h
  split at h
  .rename_i Z kU P Q
   cases h
   have u:=A _ _ _ P (g.take a.w)
   have x:=C _ _ _ Q (g.drop a.w)
   have:=u.append x
   rwa[lD]at this
  .cases h
 |q=>
  intro cs y d h g
  simp only[hE]at h
  match cs,d,h,g with
  | [k,f,ws,a,b,kids],[v1,v2,v3,v4,v5,v6],h,g=>
   simp only[B2]at h
   split at h
   .rename_i aJ aol U bN bt G g1 g2 g3 g4 g5 g6
    cases h
    obtain⟨i1,i2,i3,i4,i5,i6,_⟩:=g
    obtain⟨kO,u,V⟩:=mx (c:=c) g1 (gQ i1.1)
    obtain⟨mU,x,W⟩:=mx (c:=c) g2 (gQ i2.1)
    obtain⟨uP,H,I⟩:=mx (c:=c) g3 (gQ i3.1)
    obtain⟨sf,J,X⟩:=mx (c:=c) g4 (gQ i4.1)
    obtain⟨Im,K,Y⟩:=mx (c:=c) g5 (gQ i5.1)
    obtain⟨aoQ,L,M⟩:=mx (c:=c) g6 (gQ i6.1)
    simp only[enc,List.cons.injEq,and_true]at u x H J K L
    refine⟨u▸V,x▸W,?_,J▸X,K▸Y,?_,True.intro⟩
    .rw [<-H]at I;exact I
    .rw [Eu];rw[<-L]at M;exact M
   .cases h
theorem aiz (b9:eA E) (T:TypeId) (x y:Operand) (cx:o.op= .store T x y) (ty:bw) (hx:E.ty T=some ty) (n i q:Nat) (r:s.aP x= .fr n i q) (ys:List ar) (hy:(s.aP y).cells? =some ys) (cD:ys.length=ty.size) (aa:Tok) (Z:aF s.T n=some (.live aa)) (I:aa.wr=true) (mA:aa.tr=none) (W0:aa.t.cj=true\/aa.deep=false) (wz:q+ty.size<=aa.t.w)
  (cq:aa.t.D) (hold:aa.xs[i]? =some cq) (Y:aa.t.D) (qg:hE aa.t ((cellsOf aa.t cq).take q++ys++(cellsOf aa.t cq).drop (q+ty.size))=some Y) (lV:o.dst=none):
  cR E o s ⟨.bM [],[],[(n,some (.live {aa with xs:=aa.xs.set i Y}))]⟩:=by
 rintro R a w e3 ⟨β,τ,F,S,dG,gT,gp,aS⟩ K Q dP
 have fG:=hL aS
 have h:=fG x
 rw[r]at h
 obtain⟨f,l,il,aP,tG,C⟩:=(pA h).2.2 aa Z
 rw[show(s.ctx w S β τ).τ n=τ n from rfl]at aP
 have bB:=ti hy (fG y)
 obtain⟨cM,bx,LF⟩:=dG.bG n aa Z
 rcases bx with⟨cy,cb⟩|⟨ba,oJ,J,c7,cy,hd,cr,bI,mH,hm,nO,hw,zA⟩
 .rw [cb]at hold;simp at hold
 rw[cy]at aP;cases aP
 obtain⟨Jl,z,hi,Fv,_⟩:=(b9.ty T ty hx).info
 have bK:=bB.len
 have LW:i<aa.xs.length:=(dx.1 hold).1
 obtain⟨xM,L,XV⟩:=IU (c:=s.ctx w S β τ) (b:=f) (q:=i*aa.t.w) cq (fun j p C=>by
  obtain⟨u,M,cI,_⟩:=zA i j cq p hold C
  exact⟨u,by show w.cell? _=_;rw[cell_of_row w f _ J c7 (0,0) cr];exact M,cI mA⟩)
 have O:=L.len
 rw[k8]at O
 have hlen:=(B3 (c:=s.ctx w S β τ) aa.t _ Y _ qg (((L.take q).append bB).append (L.drop (q+ty.size))))
 have U:=hlen.len
 rw[en]at U
 have G:(a.eval y).cells.toList.length=ty.size:=by rw[<-bK,cD]
 simp only[a1,bX,eY,G]at U
 have WJ:i*aa.t.w+aa.t.w<=aa.xs.length*aa.t.w:=by
  have:(i+1)*aa.t.w<=aa.xs.length*aa.t.w:=eh _ LW
  rwa[ey,Nat.one_mul]at this
 have Yh:aa.xs.length*aa.t.w<=J.size:=by rw[bI];exact eh _ mH
 have rB:∀v∈(a.eval y).cells.toList,v.oneCell'=true:=fun v cO=>by
  obtain⟨j,bR,rfl⟩:=fe.1 cO
  exact(bB.get' j (ys[j]'(by omega)) _ (by simp) (by simp)).2
 have wB:=run_storeCells_at E.P f (i*aa.t.w+q) c7 (a.eval y).cells.toList 0 J w cr (by omega) rB
 obtain⟨d,mJ⟩:∃d:Array Value,d=(J.toList.take (i*aa.t.w+q)++(a.eval y).cells.toList++J.toList.drop (i*aa.t.w+q+(a.eval y).cells.toList.length)).toArray:=⟨_,rfl⟩
 have cE:(execOp a.eval o).run E.P w= .ok .skip (w.setRow f d):=by
  have mL:(a.eval y).cells.size=Jl.size:=by rw[Fv,<-cD,bK];simp
  simp only[lH]at wB
  simp only[execOp,cx,Instr.storeAt,C,Instr.sureAddr,storeVar,sizeOf,typeInfo,hi,Sem.run_bind,Sem.run_pure,Result.andThen_ok,run_program]
  simp[hi,mL,wB,mJ]
 have mK:d.toList=J.toList.take (i*aa.t.w+q)++(a.eval y).cells.toList++J.toList.drop (i*aa.t.w+q+(a.eval y).cells.toList.length):=by rw[mJ]
 have lX:∀k,d[k]? =if i*aa.t.w+q<=k/\k<i*aa.t.w+q+ty.size then(a.eval y).cells.toList[k-(i*aa.t.w+q)]? else J[k]? :=fun k=>by
  rw[<-jY,mK,sz _ _ _ (by rw[G,kY];omega),G]
  simp
 have V:d.size=J.size:=by
  rw[<-kY,mK]
  simp only[a1,bX,eY,G,kY]
  omega
 have A:∀k,k≠f->(w.setRow f d).heap[k]? =w.heap[k]? :=fun k bx=>setRow_other w f k _ bx
 have ke:(w.setRow f d).heap.size=w.heap.size:=by simp[World.setRow]
 have g:∀b o,S b o->(w.setRow f d).cell? ⟨b,o,none⟩=w.cell? ⟨b,o,none⟩:=fun b o au=>World.cell?_of_block (w:=w) (A b (fun e=>hw I o (e▸au)))
 have oT:Step (fun k=>k=f) S S w (w.setRow f d):=⟨⟨rfl,rfl,rfl,by rw[ke];exact bC _,fun k _ bx=>A k bx⟩,g,fun _ _ h=>h,fun _ _ h=>.inl h,fun b o h=>by rw[ke];exact dG.lt b o h⟩
 have W:(w.setRow f d).heap[f]? =some (.cells d c7 (0,0)):=setRow_heap w f J _ c7 (0,0) cr
 have X:∀(i2 j:Nat) (x:aa.t.D) (p:b3),(aa.xs.set i Y)[i2]? =some x->(enc aa.t x)[j]? =some p->∃u,d[i2*aa.t.w+j]? =some u/\bq (w.setRow f d) S u p:=fun i2 j x p r C=>by
  have bR:j<aa.t.w:=by have:=(dx.1 C).1;rwa[en]at this
  by_cases e:i2=i
  .subst e
   rw[List.getElem?_set_self LW]at r
   cases r
   have mG:j<((xM.take q)++(a.eval y).cells.toList++xM.drop (q+ty.size)).length:=by rw[hlen.len];exact(dx.1 C).1
   have XR:=hlen.get' j _ p (bH mG) C
   have Md:=sz xM (a.eval y).cells.toList q (by rw[<-O,G];exact wz) j
   rw[G]at Md
   refine⟨_,?_,XR.mono (fun _ _ h=>h) g⟩
   rw[lX,<-bH mG,Md]
   by_cases qe:q<=j/\j<q+ty.size
   .rw [ai ⟨by omega,by omega⟩,ai qe]
    congr 1;omega
   .rw [aA (by omega),aA qe]
    have LZ:j<xM.length:=by rw[<-O];exact bR
    have dO:=XV j xM[j] (bH LZ)
    rw[show(s.ctx w S β τ).w=w from rfl,cell_of_row w f _ J c7 (0,0) cr]at dO
    rw[dO,bH LZ]
  .rw [List.getElem?_set_ne (Ne.symm e)]at r
   obtain⟨u,M,cI,_⟩:=zA i2 j x p r C
   refine⟨u,?_,(cI mA).mono (fun _ _ h=>h) g⟩
   rw[lX,aA ?_]
   .exact M
   .rintro ⟨g1,g2⟩
    rcases Nat.lt_or_gt_of_ne e with gf|gf
    .have:(i2+1)*aa.t.w<=i*aa.t.w:=eh _ gf
     rw[ey]at this;omega
    .have:(i+1)*aa.t.w<=i2*aa.t.w:=eh _ gf
     rw[ey]at this;omega
 have iK:=dG.C1 n aa {aa with xs:=aa.xs.set i Y} Z (fun k=>k=f) oT (fun k bx=>bx▸hd) ⟨fun b au=>by rw[ke];exact cM b au,.inr ⟨f,il,d,c7,?_,hd,W,by rw[V];exact bI,by simpa using mH,hm,(fun h=>by simp only at h;rw[I]at h;cases h),fun h=>hw h,fun i2 j x p r C=>?_⟩,?_⟩ rfl (fun h=>by rw[I]at h;cases h) mA
 .refine Jx cE (dP _ _ (jT (e:=⟨.bM [],[],[(n,some (.live {aa with xs:=aa.xs.set i Y}))]⟩) iK gT gp ?_ o.dst (.inl lV)))
  exact l7 (c:=s.ctx w S β τ) (c':=⟨w.setRow f d,S,fun k=>aY s.B k≠none,β,updT (aF s.T) n (some (.live {aa with xs:=aa.xs.set i Y})),τ⟩) ⟨fun _ _ h=>h,g⟩ (fY.refl rfl rfl) (RO Z rfl (fun h=>by rw[I]at h;cases h)) aS
 .rw [cy];simp
 .obtain ⟨u,M,cI⟩:=X i2 j x p r C
  exact⟨u,M,fun _=>cI,fun h=>by simp only at h;rw[I]at h;cases h⟩
 ·
  unfold hq
  simp only[mA]
  intro LG
  have lW:aa.t.cj=true:=W0.resolve_right (fun h=>by rw[h]at LG;cases LG)
  rw[cy,show aa.xs.length=(aa.xs.set i Y).length from by simp]
  have hu:∀(i2 j:Nat) (x:aa.t.D) (c:ar),(aa.xs.set i Y)[i2]? =some x->(cellsOf aa.t x)[j]? =some c->∃u,d[i2*aa.t.w+j]? =some u/\∀p,(enc aa.t x)[j]? =some p->bq (w.setRow f d) S u p:=fun i2 j x c r H=>by
   obtain⟨p,C⟩:∃p,(enc aa.t x)[j]? =some p:=⟨_,bH (by rw[en];exact lR H)⟩
   obtain⟨u,M,cI⟩:=X i2 j x p r C
   exact⟨u,M,fun Cg L7=>by rw[C]at L7;cases L7;exact cI⟩
  refine .av _ il aa.t (aa.xs.set i Y) (fun i2 j=>(d[i2*aa.t.w+j]?).getD undef) f (fun _ _ _=>False) d c7 hd W (by rw[V];exact bI) (by simpa using mH) hm (fun i2 j x c r H=>?_) (fun _ _ _ h=>h.elim) (fun _ _ _ _ _ h=>h.elim) (fun i2 j x c r H=>?_)
  .obtain ⟨u,M,_⟩:=hu i2 j x c r H
   rw[M];rfl
  .obtain ⟨u,M,cI⟩:=hu i2 j x c r H
   simp only[M,mi]
   exact .leaf lW H cI
theorem afD (H:eA E) (T:TypeId) (x y:Operand) (v:o.op= .store T x y) (f:∀ty n i q aa I ys,E.ty T=some ty->s.aP x= .fr n i q->aF s.T n=some (.live aa)->aa.tr=some I->(s.aP y).cells? =some ys->ys.length=ty.size->o.dst=none->(C7 n i q ty.size ys aa I).R s [] [n] e aK->cR E o s e) (h:(cF E o.op o.dst s.aP).R s [] [] e aK):cR E o s e:=by
 rw[v]at h
 simp only[cF]at h
 split at h
 case h_2=>exact h.elim
 rename_i ty ys g hy d
 split at h
 case isFalse=>exact h.elim
 rename_i A
 split at h
 .rename_i k q u
  split at h
  case isTrue=>exact h.elim
  rename_i C
  simp only[bh.R]at h
  split at h
  case h_2=>exact h.elim
  rename_i cs J
  split at h
  case isFalse=>exact h.elim
  rename_i K
  obtain⟨rfl,_⟩:=h
  exact amO H T x y v ty g k q (by simpa using C) u cs ys J hy A K d
 .rename_i n i q u
  simp only[bh.R]at h
  split at h
  case h_2=>exact h.elim
  rename_i aa p
  split at h
  case h_2=>exact f ty n i q aa _ ys g u p ‹_› hy A d h
  rename_i G
  split at h
  case isFalse=>exact h.elim
  rename_i hw
  obtain⟨cq,hold,h⟩:=h
  simp only at h
  split at h
  case h_2=>exact h.elim
  rename_i L r
  obtain⟨rfl,_⟩:=h
  exact aiz H T x y v ty g n i q u ys hy A aa p hw.1 G hw.2.1 hw.2.2 cq hold L r d
 .exact h.elim
end
section
variable {E : Env} {o : Oper} {s : aX} {e : bO} {aK : c6}
theorem Io {c:Ctx} {a:Act} (d:∀y,bo c (s.aP y) (a.eval y)) (m:Nat):∀(parts:List (Nat×Operand)) (i:Nat) (cs:List ar),qC m i (parts.map fun q=>(q.1,s.aP q.2))=some cs->
  (parts.map fun q=>(q.1,a.eval q.2))=((parts.map fun q=>a.eval q.2).zipIdx i).map (fun x=>(x.2,x.1))/\(∀v,v∈parts.map (fun q=>a.eval q.2)->v.cells.size=m)/\bs (ee c) cs ((parts.map fun q=>(a.eval q.2).cells.toList).flatten)/\cs.length=parts.length*m
 | [],i,cs,h=>by simp[qC]at h;subst h;exact⟨rfl,fun v h=>by simp at h,True.intro,by simp⟩
 |(j,x)::parts,i,cs,h=>by
  simp only[cv,qC]at h
  split at h
  case isFalse=>cases h
  case isTrue e=>
  subst e
  cases f:(s.aP x).cells? with
  |none=>simp[f]at h
  |some ds=>
   cases p:qC m (i+1) (parts.map fun q=>(q.1,s.aP q.2))with
   |none=>simp[f,p]at h
   |some es=>
    simp only[f,p]at h
    split at h
    case isFalse=>cases h
    case isTrue u=>
    simp at h
    subst h
    obtain⟨C,G,H,I⟩:=Io d m parts (i+1) es p
    have A:=ti f (d x)
    have r:=A.len
    refine⟨by simp[C],fun v g=>?_,?_,?_⟩
    .simp only [cv,bm]at g
     rcases g with rfl|g
     .rw [<-u,r];simp
     .exact G v g
    .simp only [cv,List.flatten_cons];exact A.append H
    .simp only [a1,aZ,I,u,ey];omega
def sY (x:ar) (p:b3):Prop:=∃t y,x.as t=some y/\enc t y=[p]
theorem HV :∀(t:aH) (cs:List ar) (y:t.D),hE t cs=some y->bs sY cs (enc t y):=by
 have leaf:∀(t:aH),(∀y:t.D,∃p,enc t y=[p])->∀(cs:List ar) (y:t.D),one t cs=some y->bs sY cs (enc t y):=fun t x cs y h=>by
  match cs,h with
  | [a],h=>
   obtain⟨p,v⟩:=x y
   rw[v];exact⟨⟨t,y,h,v⟩,True.intro⟩
 intro t
 induction t with
 |bool=>exact leaf .bool (fun y=>⟨_,rfl⟩)
 |int k=>exact leaf (.int k) (fun y=>⟨_,rfl⟩)
 |str=>exact leaf .str (fun y=>⟨_,rfl⟩)
 |av r _=>exact leaf (.av r) (fun y=>⟨_,rfl⟩)
 |opt r _=>exact leaf (.opt r) (fun y=>⟨_,rfl⟩)
 |unit=>
  intro cs y h
  match cs,h with
  | [],_=>exact True.intro
 |pair a b d g=>
  intro cs y h
  simp only[hE]at h
  split at h
  .rename_i H I A C
   cases h
   have:=(d _ _ A).append (g _ _ C)
   rwa[lD]at this
  .cases h
 |q=>
  intro cs y h
  simp only[hE]at h
  match cs,h with
  | [k,f,ws,a,b,kids],h=>
   simp only[B2]at h
   split at h
   .rename_i aJ J G bN K u g1 g2 g3 g4 g5 g6
    cases h
    exact⟨⟨_,_,g1,rfl⟩,⟨_,_,g2,rfl⟩,⟨_,_,g3,rfl⟩,⟨_,_,g4,rfl⟩,⟨_,_,g5,rfl⟩,⟨_,_,g6,by simp only[enc,Eu]⟩,True.intro⟩
   .cases h
theorem Ok (r:aH):∀(n:Nat) (cs:List ar) (xs:List r.D),qx r n cs=some xs->xs.length=n/\∀i x,xs[i]? =some x->bs sY ((cs.drop (i*r.w)).take r.w) (enc r x)
 |0,cs,xs,h=>by cases h;exact⟨rfl,fun i x h=>by simp at h⟩
 |n+1,cs,xs,h=>by
  simp only[qx]at h
  split at h
  .rename_i x ys d f
   cases h
   obtain⟨g,p⟩:=Ok r n _ _ f
   refine⟨by simp[g],fun i y hy=>?_⟩
   cases i with
   |zero=>simp at hy;subst hy;simpa using HV r _ _ d
   |succ i=>
    have:=p i y (by simpa using hy)
    rw[pD]at this
    rw[ey,Nat.one_mul,Nat.add_comm];exact this
  .cases h
def oy (x c:ar):Prop:=∃t y,x.as t=some y/\c= .ag t y
theorem HW :∀(t:aH) (cs:List ar) (y:t.D),hE t cs=some y->bs oy cs (cellsOf t y):=by
 have leaf:∀(t:aH),(∀y:t.D,cellsOf t y=[.ag t y])->∀(cs:List ar) (y:t.D),one t cs=some y->bs oy cs (cellsOf t y):=fun t u cs y h=>by
  match cs,h with
  | [a],h=>
   rw[u y];exact⟨⟨t,y,h,rfl⟩,True.intro⟩
 intro t
 induction t with
 |bool=>exact leaf .bool (fun y=>rfl)
 |int k=>exact leaf (.int k) (fun y=>rfl)
 |str=>exact leaf .str (fun y=>rfl)
 |av r _=>exact leaf (.av r) (fun y=>rfl)
 |opt r _=>exact leaf (.opt r) (fun y=>rfl)
 |unit=>
  intro cs y h
  match cs,h with
  | [],_=>exact True.intro
 |pair a b d g=>
  intro cs y h
  simp only[hE]at h
  split at h
  .rename_i C G v x
   cases h
   have:=(d _ _ v).append (g _ _ x)
   rwa[lD]at this
  .cases h
 |q=>
  intro cs y h
  simp only[hE]at h
  match cs,h with
  | [k,f,ws,a,b,kids],h=>
   simp only[B2]at h
   split at h
   .rename_i aJ H A bN I p g1 g2 g3 g4 g5 g6
    cases h
    exact⟨⟨_,_,g1,rfl⟩,⟨_,_,g2,rfl⟩,⟨_,_,g3,rfl⟩,⟨_,_,g4,rfl⟩,⟨_,_,g5,rfl⟩,⟨_,_,g6,rfl⟩,True.intro⟩
   .cases h
theorem HX (r:aH):∀(n:Nat) (cs:List ar) (xs:List r.D),qx r n cs=some xs->xs.length=n/\∀i x,xs[i]? =some x->bs oy ((cs.drop (i*r.w)).take r.w) (cellsOf r x)
 |0,cs,xs,h=>by cases h;exact⟨rfl,fun i x h=>by simp at h⟩
 |n+1,cs,xs,h=>by
  simp only[qx]at h
  split at h
  .rename_i x ys d f
   cases h
   obtain⟨g,p⟩:=HX r n _ _ f
   refine⟨by simp[g],fun i y hy=>?_⟩
   cases i with
   |zero=>simp at hy;subst hy;simpa using HW r _ _ d
   |succ i=>
    have:=p i y (by simpa using hy)
    rw[pD]at this
    rw[ey,Nat.one_mul,Nat.add_comm];exact this
  .cases h
theorem J2 {c:Ctx} {x:ar} {v:Value} {p:b3} (f:sY x p) (h:e9 c x v):bq c.w c.S v p:=by
 obtain⟨t,y,g,r⟩:=f
 obtain⟨A,d,u⟩:=mx g (gQ h)
 rw[r]at d;cases d;exact u
def OC (s:aX) (cs:List ar) (l:List Nat) (deep:Bool):Prop:=
 (∀t,t∈l↔∃r xs,ar.own t r xs∈cs)/\
 (deep=true->(∀x,x∈cs->(∃t y,x= .ag t y/\t.cj=true)\/x= .aQ\/ ∃t r xs aa,x= .own t r xs/\aF s.T t=some (.live aa)/\aa.deep=true)/\∀(k aJ:Nat) t r f xs d,cs[k]? =some (.own t r xs)->cs[aJ]? =some (.own t f d)->k=aJ)
theorem GM :∀(cs:List ar) (f:List (Nat×Option bb)->Bool->bh) (az rt:List Nat),(p6 cs f).R s az rt e aK->∃l p d,OC s cs l p/\(f (l.map fun t=>(t,some bb.eg)) p).R s az d e aK
 | [],f,az,rt,h=>⟨[],true,rt,⟨fun t=>by simp,fun _=>⟨fun x bd=>by simp at bd,fun k aJ t r H xs u h=>by simp at h⟩⟩,h⟩
 |x::cs,f,az,rt,h=>by
  have other:∀(g:List (Nat×Option bb)->Bool->bh) (M:Bool),(∀t r xs,x≠ .own t r xs)->(M=true->(∃t y,x= .ag t y/\t.cj=true)\/x= .aQ)->(p6 cs g).R s az rt e aK->(∀es p,g es p=f es (M&&p))->∃l p d,OC s (x::cs) l p/\(f (l.map fun t=>(t,some bb.eg)) p).R s az d e aK:=fun g M v U cr V=>by
   obtain⟨l,p,d,⟨g2,g3⟩,O⟩:=GM cs g az rt cr
   rw[V]at O
   refine⟨l,M&&p,d,⟨fun t=>?_,fun I=>?_⟩,O⟩
   .rw [g2 t]
    constructor
    .rintro ⟨r,xs,h⟩;exact⟨r,xs,b7 _ h⟩
    .rintro ⟨r,xs,h⟩
     rcases bm.1 h with h|h
     .exact absurd h.symm (v t r xs)
     .exact ⟨r,xs,h⟩
   .simp only [bk]at I
    refine⟨fun y hy=>?_,fun k aJ t r H xs u C G=>?_⟩
    .rcases bm.1 hy with rfl|hy
     .exact (U I.1).imp id .inl
     .exact (g3 I.2).1 y hy
    .cases k with
     |zero=>simp at C;exact absurd C (v t r xs)
     |succ k=>cases aJ with
      |zero=>simp at G;exact absurd G (v t H u)
      |succ aJ=>rw[(g3 I.2).2 k aJ t r H xs u (by simpa using C) (by simpa using G)]
  cases x with
  |own t r xs=>
   simp only[p6,bh.R]at h
   obtain⟨l,p,d,⟨g2,g3⟩,O⟩:=GM cs _ az _ h
   refine⟨t::l,_,d,⟨fun P=>?_,fun I=>?_⟩,O⟩
   .constructor
    .intro hy
     rcases bm.1 hy with rfl|hy
     .exact ⟨r,xs,b6⟩
     .obtain ⟨H,u,J⟩:=(g2 P).1 hy;exact⟨H,u,b7 _ J⟩
    .rintro ⟨H,u,J⟩
     rcases bm.1 J with J|J
     .cases J;exact b6
     .exact b7 _ ((g2 P).2 ⟨H,u,J⟩)
   .simp only [bk]at I
    obtain⟨⟨A,K⟩,W⟩:=I
    have L:t∉l:=fun X=>by
     have:=cA.1 W (t,some .eg) (cd.2 ⟨t,X,rfl⟩)
     simp at this
    refine⟨fun y hy=>?_,fun k aJ P od kP Y Z C G=>?_⟩
    .rcases bm.1 hy with rfl|hy
     .cases Q:aF s.T t with
      |none=>rw[Q]at A;cases A
      |some z=>cases z with
       |eg=>rw[Q]at A;cases A
       |live aa=>rw[Q]at A;exact .inr (.inr ⟨t,r,xs,aa,rfl,Q,A⟩)
     .exact (g3 K).1 y hy
    .have v:∀(k:Nat) r xs,cs[k]? =some (.own t r xs)->False:=fun k r xs bx=>L ((g2 t).2 ⟨r,xs,fc bx⟩)
     cases k with
     |zero=>
      simp at C
      cases aJ with
      |zero=>rfl
      |succ aJ=>simp at G;rw[<-C.1]at G;exact(v aJ _ _ G).elim
     |succ k=>cases aJ with
      |zero=>simp at G C;rw[<-G.1]at C;exact(v k _ _ C).elim
      |succ aJ=>rw[(g3 K).2 k aJ P od kP Y Z (by simpa using C) (by simpa using G)]
  |ag t y=>exact other _ t.cj (fun _ _ _ h=>by cases h) (fun dr=>.inl ⟨t,y,rfl,dr⟩) h (fun es p=>rfl)
  |aQ=>exact other _ true (fun _ _ _ h=>by cases h) (fun _=>.inr rfl) h (fun es p=>by simp)
  |dead=>exact other _ false (fun _ _ _ h=>by cases h) (fun h=>by cases h) h (fun es p=>by simp)
  |eK=>exact other _ false (fun _ _ _ h=>by cases h) (fun h=>by cases h) h (fun es p=>by simp)
  |agg _=>exact other _ false (fun _ _ _ h=>by cases h) (fun h=>by cases h) h (fun es p=>by simp)
  |bM _=>exact other _ false (fun _ _ _ h=>by cases h) (fun h=>by cases h) h (fun es p=>by simp)
  |box _ _=>exact other _ false (fun _ _ _ h=>by cases h) (fun h=>by cases h) h (fun es p=>by simp)
  |ptr _ _ _=>exact other _ false (fun _ _ _ h=>by cases h) (fun h=>by cases h) h (fun es p=>by simp)
  |aw _=>exact other _ false (fun _ _ _ h=>by cases h) (fun h=>by cases h) h (fun es p=>by simp)
  |fr _ _ _=>exact other _ false (fun _ _ _ h=>by cases h) (fun h=>by cases h) h (fun es p=>by simp)
  |iJ _=>exact other _ false (fun _ _ _ h=>by cases h) (fun h=>by cases h) h (fun es p=>by simp)
  |sub _ _ _=>exact other _ false (fun _ _ _ h=>by cases h) (fun h=>by cases h) h (fun es p=>by simp)
  |aU _ _=>exact other _ false (fun _ _ _ h=>by cases h) (fun h=>by cases h) h (fun es p=>by simp)
theorem Rw {P:Program} (w:World) (T e:TypeId) (parts:List (Nat×Value)) (len m:Nat) (g:TypeInfo) (z:Value) (hu:P.underlying T=some (.slice e)) (p:P.info? e=some g) (W:g.zero=some z) (d:g.size=m) (X:z.cells.size=m) (hm:0<m) (C:len*m<=16777216)
  (vals:List Value) (M:parts=(vals.zipIdx 0).map (fun x=>(x.2,x.1))) (hlen:vals.length=len) (G:∀v,v∈vals->v.cells.size=m):
  (Instr.buildSlice T len parts.toArray).run P w= .ok (.slice (some ⟨w.heap.size,0,none⟩) len len) (w.alloc (.cells (vals.map fun v=>v.cells.toList).flatten.toArray e)):=by
 by_cases O:len=0
 .subst O
  have:vals=[]:=yk hlen
  subst this
  subst M
  simp[Instr.buildSlice,run_underlying hu,sizeOf,typeInfo,p,Instr.fill,newRow]
  rw[show Array.map (fun _=>default) (Array.range 0)=(#[]:Array Value)from by apply Array.ext';simp]
 .have u:¬len*g.size=0:=by rw[d];exact fun h=>(Nat.mul_eq_zero.1 h).elim O (by omega)
  obtain⟨r,Q,H,I⟩:=Go.Great.fill_dense hm vals 0 ((Array.range (len*g.size)).map (z.cells[· %z.cells.size]!)) G (by simp[hlen,d])
  have Y:r=(vals.map fun v=>v.cells.toList).flatten.toArray:=by
   apply Array.ext'
   apply sS
   intro t
   have y:∀cs,cs∈vals.map (fun v=>v.cells.toList)->cs.length=m:=fun cs J=>by
    obtain⟨v,K,rfl⟩:=cd.1 J
    simpa using G v K
   have f:=K4 (vals.map fun v=>v.cells.toList) m y
   simp only[dX,hlen]at f
   by_cases U:t<len*m
   .have aD:t/m<len:=(vm hm).2 U
    have Z:t%m<m:=mn _ hm
    have bD:t=t/m*m+t%m:=by rw[k0];exact(Nat.div_add_mod t m).symm
    have V:=I t
    rw[ai (by simp[hlen,U]),Nat.sub_zero,bH (by omega),af]at V
    have L:(vals[t/m]'(by omega)).cells.size=m:=G _ (by simp)
    have A:=K3 _ m y (t/m) ((vals[t/m]'(by omega)).cells.toList) (by simp;exact⟨_,bH (by omega),rfl⟩) (t%m) ((vals[t/m]'(by omega)).cells.toList[t%m]'(by simp[L,Z])) (by simp)
    rw[<-bD]at A
    rw[jY,V]
    simp only[A]
    rw[Dy (by omega)]
    simp
   .rw [kr (by simp[H,d];omega),kr (by simp only[f];omega)]
  rw[<-Y]
  exact run_buildSlice w T e len parts.toArray r g z hu p W (by rw[d];omega) u (by rw[show parts.toArray.toList=parts from by simp,M];rw[d]at Q⊢;exact Q)
theorem agX (b9:eA E) (T:TypeId) (len:Nat) (parts:Array (Nat×Operand)) (cx:o.op= .buildSlice T len parts)
  (X6:∀(d:Nat) (ty:bw) (M:TypeId) (r:aH) (j8:Nat) (cs:List ar) (xs:List r.D),o.dst=some d->E.ty T=some ty->ty.elem=some (M,r,j8)->qC r.w 0 (parts.toList.map fun q=>(q.1,s.aP q.2))=some cs->qx r len cs=some xs->len=parts.toList.length->len*r.w<=16777216->zeroDeep cs=true->(uF E d r xs M []).R s [] [] e aK->cR E o s e)
  (h:(cF E o.op o.dst s.aP).R s [] [] e aK):cR E o s e:=by
 rw[cx]at h
 simp only[cF]at h
 split at h
 case h_2=>exact h.elim
 rename_i d ty lV hx
 have dH:=b9.ty T ty hx
 split at h
 case h_2=>exact h.elim
 rename_i M r j8 he
 split at h
 case h_2=>exact h.elim
 rename_i cs zB
 split at h
 case h_2=>exact h.elim
 rename_i xs oV
 split at h
 case isFalse=>exact h.elim
 rename_i hlen
 obtain⟨hlen,I⟩:=hlen
 split at h
 .rename_i bI
  exact X6 d ty M r _ cs xs lV hx he zB oV hlen I bI.2.2 h
 obtain⟨l,deep,IV,⟨Fx,W4⟩,h⟩:=GM cs _ _ _ h
 obtain⟨bc,tE,l2,rfl⟩:=B5 h
 rintro R a w e3 ⟨β,τ,F,S,A,cD,gp,fR⟩ K Q dP
 have fG:=hL fR
 obtain⟨hu,J,fy,z,jM,gT,mF,bI,jg⟩:=dH.elem _ _ _ he
 obtain⟨kO,mU,uP,sf⟩:=Io fG r.w parts.toList 0 cs zB
 obtain⟨G,Yg⟩:=Ok r len cs xs oV
 obtain⟨vals,f⟩:∃vals,vals=parts.toList.map fun q=>a.eval q.2:=⟨_,rfl⟩
 have FP:vals.length=len:=by rw[f,hlen];simp
 have U:=Rw (P:=E.P) w T M (parts.toList.map fun q=>(q.1,a.eval q.2)) len r.w fy z hu jM bI gT jg J I vals (by rw[kO,<-f]) FP (by rw[f];exact mU)
 obtain⟨us,tL⟩:∃us,us=(vals.map fun v=>v.cells.toList).flatten:=⟨_,rfl⟩
 have Fi:bs (ee (s.ctx w S β τ)) cs us:=by
  rw[tL,f,ml];exact uP
 have zL:us.length=len*r.w:=by rw[<-Fi.len,sf,<-hlen]
 rw[<-tL]at U
 have iL:(execOp a.eval o).run E.P w= .ok (.value (.slice (some ⟨w.heap.size,0,none⟩) len len)) (w.alloc (.cells us.toArray M)):=by
  have Ey:(parts.map fun(i,x)=>(i,a.eval x))=(parts.toList.map fun q=>(q.1,a.eval q.2)).toArray:=by apply Array.ext';simp
  simp only[execOp,cx,Sem.run_bind,Ey,U,Result.andThen_ok,Sem.run_pure]
 have zF:d∉l:=fun fo=>tE (d,some .eg) (cd.2 ⟨d,fo,rfl⟩) rfl
 obtain⟨w',zM⟩:∃w',w'=w.alloc (.cells us.toArray M):=⟨_,rfl⟩
 rw[<-zM]at iL
 have au:Below w.heap.size w w':=by rw[zM];exact(Below.refl _ _).alloc (bC _) _
 have V:w'.heap[w.heap.size]? =some (.cells us.toArray M (0,0)):=by rw[zM];exact heap_alloc_new w _
 have X1:w'.heap.size=w.heap.size+1:=by rw[zM];simp
 obtain⟨S',L⟩:∃S':bW,S'=u3 (E.wr d) S w.heap.size (len*r.w):=⟨_,rfl⟩
 have tB:∀b q,S b q->S' b q:=fun b q h=>by rw[L];exact .inl h
 have E9:∀b q,S' b q->S b q\/w.heap.size<=b:=fun b q h=>by
  rw[L]at h
  rcases h with h|⟨_,rfl,_⟩
  .exact .inl h
  .exact .inr (bC _)
 have E8:∀b q,S' b q->b<w'.heap.size:=fun b q h=>by
  rw[L]at h
  rcases h with h|⟨_,rfl,_⟩
  .have:=A.lt b q h;omega
  .omega
 have h3:=(A.drop (tok':=eO (aF s.T) l) (fun t ax=>oi ax) (fun t aa h=>(iV h).2)).grow au tB E9 E8
 have Ff:∀k,w'.cell? ⟨w.heap.size,k,none⟩=us[k]? :=fun k=>vH V k
 have qg:∀(i j:Nat) (x:r.D) (c:b3),xs[i]? =some x->(enc r x)[j]? =some c->i<len/\j<r.w/\i*r.w+j<len*r.w/\∃y u,cs[i*r.w+j]? =some y/\sY y c/\us[i*r.w+j]? =some u/\ee (s.ctx w S β τ) y u:=fun i j x c W X=>by
  have hi:i<len:=by rw[<-G];exact(dx.1 W).1
  have bR:j<r.w:=by have:=(dx.1 X).1;rwa[en]at this
  have aoy:i*r.w+r.w<=len*r.w:=by
   have:(i+1)*r.w<=len*r.w:=eh _ hi
   rw[ey]at this;omega
  have C:=Yg i x W
  have Y:=C.len
  rw[en]at Y
  obtain⟨y,hy⟩:∃y,((cs.drop (i*r.w)).take r.w)[j]? =some y:=⟨_,bH (by rw[Y];exact bR)⟩
  have wE:=C.get' j y c hy X
  rw[ho,ai bR,hT]at hy
  obtain⟨u,nP,oU⟩:=Fi.get _ _ hy
  exact⟨hi,bR,by omega,y,u,hy,wE,nP,oU⟩
 have zJ:len<=maxLen:=by
  have:len<=len*r.w:=Nat.le_mul_of_pos_right _ J
  simp only[maxLen];omega
 have iv:cg R.dm w' S' ⟨r,xs,M,E.wr d,deep,none⟩ (.slice (some ⟨w.heap.size,0,none⟩) len len) (fun b=>b=w.heap.size\/(deep=true/\∃t aa,t∈l/\aF s.T t=some (.live aa)/\F t b)):=by
  refine⟨fun b Z=>?_,.inr ⟨w.heap.size,len,us.toArray,M,by rw[G],.inl rfl,V,by simpa using zL,by rw[G];exact bC _,zJ,fun hw q g=>?_,fun hw q g=>?_,fun i j x c W X=>?_⟩,?_⟩
  .rcases Z with rfl|⟨_,t,aa,_,O,H⟩
   .exact ⟨.inl A.size,by omega⟩
   .have:=(A.bG t aa O).1 b H;exact⟨this.1,by omega⟩
  .simp only [G]
   rw[L]at g
   rcases g with g|⟨_,_,g⟩
   .have:=A.lt _ _ g;omega
   .exact g
  .simp only at hw
   rw[L]at g
   rcases g with g|⟨g,_⟩
   .have:=A.lt _ _ g;omega
   .rw [hw]at g;cases g
  .obtain ⟨aD,vZ,O,y,u,H,cN,dO,iu⟩:=qg i j x c W X
   exact⟨u,by simpa using dO,fun _=>(J2 cN iu.1).mono tB (fun b q g=>(q4 au).1 b q (A.lt b q g)),fun hw=>by rw[L];exact .inr ⟨hw,rfl,O⟩⟩
  .show (deep=true->Deep w' _ (.slice (some ⟨w.heap.size,0,none⟩) len len) (.ag (.av r) xs))
   intro cU
   obtain⟨g4,g5⟩:=W4 cU
   obtain⟨_,FT⟩:=HX r len cs xs oV
   have Mb:∀(i j:Nat) (x:r.D) (c:ar),xs[i]? =some x->(cellsOf r x)[j]? =some c->i<len/\j<r.w/\∃y u,cs[i*r.w+j]? =some y/\oy y c/\us[i*r.w+j]? =some u/\ee (s.ctx w S β τ) y u:=fun i j x c W X=>by
    have hi:i<len:=by rw[<-G];exact(dx.1 W).1
    have bR:j<r.w:=lR X
    have C:=FT i x W
    have Y:=C.len
    rw[k8]at Y
    obtain⟨y,hy⟩:∃y,((cs.drop (i*r.w)).take r.w)[j]? =some y:=⟨_,bH (by rw[Y];exact bR)⟩
    have wE:=C.get' j y c hy X
    rw[ho,ai bR,hT]at hy
    obtain⟨u,nP,oU⟩:=Fi.get _ _ hy
    exact⟨hi,bR,y,u,hy,wE,nP,oU⟩
   have:=Deep.av (w:=w') (fun b=>b=w.heap.size\/(deep=true/\∃t aa,t∈l/\aF s.T t=some (.live aa)/\F t b)) len r xs (fun i j=>(us[i*r.w+j]?).getD undef) w.heap.size (fun i j b=>j<r.w/\∃t iA zs aa,cs[i*r.w+j]? =some (.own t iA zs)/\aF s.T t=some (.live aa)/\F t b) us.toArray M (.inl rfl) V (by simpa using zL) (by rw[G];exact bC _) zJ
    (fun i j x c W X=>?_) (fun i j k bx=>?_) (fun i j eI cZ k bx kf=>?_) (fun i j x c W X=>?_)
   .rwa [G]at this
   .obtain ⟨aD,vZ,y,u,H,cN,dO,iu⟩:=Mb i j x c W X
    simp only[List.getElem?_toArray,dO,mi]
   .obtain ⟨zI,t,iA,zs,aa,aD,O,H⟩:=bx
    refine⟨.inr ⟨cU,t,aa,(Fx t).2 ⟨iA,zs,fc aD⟩,O,H⟩,fun tq=>?_⟩
    have:=((A.bG t aa O).1 k H).2
    omega
   .obtain ⟨zI,t,od,zs,aa,aD,O,H⟩:=bx
    obtain⟨Xi,dc,kP,anI,bY,vZ,p8,Wb⟩:=kf
    obtain rfl:=A.eF t dc aa bY k O p8 H Wb
    have lY:=g5 _ _ t od kP zs anI aD vZ
    have cy:(i*r.w+j)/r.w=i:=by rw[k0,Nat.mul_add_div J,Nat.div_eq_of_lt zI];omega
    have cb:(eI*r.w+cZ)/r.w=eI:=by rw[k0,Nat.mul_add_div J,Nat.div_eq_of_lt Xi];omega
    have di:i=eI:=by rw[<-cy,lY,cb]
    subst di
    exact⟨rfl,by omega⟩
   .obtain ⟨aD,vZ,y,u,H,cN,dO,iu⟩:=Mb i j x c W X
    simp only[dO,mi]
    obtain⟨t0,aph,C,rfl⟩:=cN
    rcases g4 y (fc H)with⟨t1,api,rfl,lW⟩|rfl|⟨t1,od,zs,aa,rfl,hv,oP⟩
    .simp only [ar.as]at C
     split at C
     .rename_i la
      subst la
      cases C
      obtain⟨p,he,cE⟩:=ye (gQ iu.1)
      have bK:=jI _ _ lW p (by rw[he];simp)
      exact .lit _ u _ _ p he bK (og cE bK)
     .cases C
    .cases t0 with
     |av IF=>
      cases C
      have e:u= .slice none 0 0:=iu.1
      rw[e]
      exact .nil _ _
     |_=>cases C
    .simp only [ar.as]at C
     split at C
     .rename_i la
      subst la
      cases C
      obtain⟨_,_,hQ⟩:=Dq (gQ iu.1)
      obtain⟨tp,cy,cb⟩:=hQ aa hv
      have jJ:=(A.bG t1 aa hv).nC ((A.bG t1 aa hv).plain tp) oP
      rw[show τ t1=u from cy.symm]at jJ
      have Wi:=(Oj jJ cb).same (w':=w') (fun k bx=>au.block k ((A.bG t1 aa hv).1 k bx).2)
      exact Wi.mono (fun k bx=>⟨vZ,t1,od,zs,aa,H,hv,bx⟩)
     .cases C
 refine jt iL (dP _ _ (qK (s:=s) l h3 cD gp fR (fun _ _ _ _ _=>⟨tB,fun b q g=>(q4 au).1 b q (A.lt b q g)⟩) d bc (e3.gi l2) ⟨r,xs,M,E.wr d,deep,none⟩ _ _ iv rfl (fun t bY b kI ax Z cM=>?_) (fun k b bx Z=>?_) o.dst zF _ rfl))
 .rcases Z with rfl|⟨_,dc,aa,aD,O,H⟩
  .have:=((A.bG t bY ax).1 _ cM).2;omega
  .exact kI (A.eF t dc bY aa b ax O cM H▸aD)
 .rcases Z with h|⟨_,dc,aa,aD,O,H⟩
  .have:=A.blt bx;omega
  .exact A.fh dc aa k b O bx H
end
structure Ext (a bN:Acc):Prop where
 ps:True
 rt:∃l,bN.rt=a.rt++l
 az:∀k aJ,bV a.az k=some aJ->bV bN.az k=some aJ
 dA:∀k,k∈a.dA->k∈bN.dA
 c8:∀k,k∈a.c8->k∈bN.c8
 mt:∀k,k∈a.mt->k∈bN.mt
 gX:∀k,k∈a.gX->k∈bN.gX
theorem Ext.refl (a:Acc):Ext a a:=⟨True.intro,⟨[],by simp⟩,fun _ _ h=>h,fun _ h=>h,fun _ h=>h,fun _ h=>h,fun _ h=>h⟩
theorem Ext.trans {a b c:Acc} (h:Ext a b) (k:Ext b c):Ext a c:=by
 obtain⟨m1,f1⟩:=h.rt;obtain⟨m2,f2⟩:=k.rt
 exact⟨True.intro,⟨m1++m2,by rw[f2,f1,dJ]⟩,fun x y d=>k.az x y (h.az x y d),fun x d=>k.dA x (h.dA x d),fun x d=>k.c8 x (h.c8 x d),fun x d=>k.mt x (h.mt x d),fun x d=>k.gX x (h.gX x d)⟩
theorem P6 {α:Type}:∀(l m:List (Nat×α)) (k:Nat),bV (l++m) k=match bV l k with|some x=>some x|none=>bV m k
 | [],m,k=>rfl
 |(j,x)::l,m,k=>by
  simp only[jZ,bV]
  split
  .rfl
  .exact P6 l m k
theorem l8 {α:Type}:∀ {l:List (Nat×α)} {k:Nat} {x:α},bV l k=some x->(k,x)∈l
 | [],k,x,h=>by cases h
 |(j,y)::l,k,x,h=>by
  simp only[bV]at h
  split at h
  .rename_i e;cases h;subst e;exact b6
  .exact b7 _ (l8 h)
theorem P7 {α:Type}:∀ {l:List (Nat×α)} {k:Nat},bV l k=none->∀x,(k,x)∉l
 | [],k,h,x,d=>by cases d
 |(j,y)::l,k,h,x,d=>by
  simp only[bV]at h
  split at h
  .cases h
  .rename_i e
   rcases bm.1 d with d|d
   .cases d;exact e rfl
   .exact P7 h x d
theorem yM {a bN:Acc} {k aJ:Nat} (h:yL a k aJ=some bN):Ext a bN/\bV bN.az k=some aJ/\bN.ps=a.ps/\bN.rt=a.rt/\bN.dA=a.dA/\bN.c8=a.c8/\bN.mt=a.mt/\bN.gX=a.gX/\
  ((∀j cZ i,bV a.az j=some i->bV a.az cZ=some i->j=cZ)->∀j cZ i,bV bN.az j=some i->bV bN.az cZ=some i->j=cZ)/\(∀x,x∈bN.az->x∈a.az\/x=(k,aJ)):=by
 unfold yL at h
 split at h
 .rename_i j f
  split at h
  .rename_i e;cases h;subst e;exact⟨Ext.refl _,f,rfl,rfl,rfl,rfl,rfl,rfl,fun h=>h,fun x p=>.inl p⟩
  .cases h
 .rename_i C
  split at h
  .cases h
  .rename_i u
   cases h
   have g:∀j,bV (a.az++ [(k,aJ)]) j=match bV a.az j with|some x=>some x|none=>if j=k then some aJ else none:=fun j=>by
    rw[P6]
    cases bV a.az j<;>rfl
   refine⟨⟨True.intro,⟨[],by simp⟩,fun j cZ f=>?_,fun _ h=>h,fun _ h=>h,fun _ h=>h,fun _ h=>h⟩,?_,rfl,rfl,rfl,rfl,rfl,rfl,fun hi j cZ i f d=>?_,fun x p=>?_⟩
   .simp only [g,f]
   .simp only [g,C,if_true]
   .simp only [g]at f d
    have v:∀j,bV a.az j≠some aJ:=fun j f=>u (List.any_eq_true.2 ⟨(j,aJ),l8 f,by simp⟩)
    cases A:bV a.az j with
    |some x=>
     cases r:bV a.az cZ with
     |some y=>rw[A]at f;rw[r]at d;cases f;cases d;exact hi j cZ _ A r
     |none=>
      rw[A]at f;rw[r]at d
      cases f
      simp only at d
      split at d
      .cases d;exact absurd A (v j)
      .cases d
    |none=>
     rw[A]at f
     simp only at f
     split at f
     .rename_i G
      cases f
      cases r:bV a.az cZ with
      |some y=>rw[r]at d;cases d;exact absurd r (v cZ)
      |none=>
       rw[r]at d
       simp only at d
       split at d
       .rename_i H;rw[G,H]
       .cases d
     .cases f
   .rcases cp.1 p with p|p
    .exact .inl p
    .exact .inr (by simpa using p)
theorem td {a bN:Acc} {n:Nat} {b4:Option Nat} {p:gN} (h:kA a n b4 p=some bN):Ext a bN/\bN.ps=a.ps++ [p]/\bN.rt=a.rt++ [(n,b4)]/\bN.az=a.az/\bN.dA=a.dA/\bN.c8=a.c8/\bN.mt=a.mt/\bN.gX=a.gX/\n∉a.rt.map (·.1)/\(∀m,b4=some m->∀x,x∈a.rt->x.2≠some m):=by
 unfold kA at h
 split at h
 .cases h
 .rename_i g
  split at h
  .cases h
  .rename_i d
   cases h
   refine⟨⟨True.intro,⟨_,rfl⟩,fun _ _ h=>h,fun _ h=>h,fun _ h=>h,fun _ h=>h,fun _ h=>h⟩,rfl,rfl,rfl,rfl,rfl,rfl,rfl,fun f=>?_,fun m hm x r e=>?_⟩
   .obtain ⟨⟨y,u⟩,v,rfl⟩:=cd.1 f
    exact P7 g u v
   .subst hm
    refine d ?_
    simp only[Option.isSome_some,ck,List.any_eq_true]
    exact⟨x,r,by simpa using e⟩
def yu (l:List (Nat×Option Nat)):Prop:=(l.map (·.1)).Nodup/\∀(i j:Nat) x y m,l[i]? =some x->l[j]? =some y->x.2=some m->y.2=some m->i=j
theorem yu.snoc {l:List (Nat×Option Nat)} (h:yu l) {n:Nat} {b4:Option Nat} (r:n∉l.map (·.1)) (g:∀m,b4=some m->∀x,x∈l->x.2≠some m):yu (l++ [(n,b4)]):=by
 refine⟨?_,fun i j x y m hi d f hy=>?_⟩
 .rw [iD,cv,pF]
  exact List.nodup_append.2 ⟨h.1,by simp,fun a u b p e=>r (by simp at p;rw[<-p,<-e];exact u)⟩
 .rw [List.getElem?_append]at hi d
  split at hi<;>split at d
  .exact h.2 i j x y m hi d f hy
  .have:y=(n,b4):=by
    have:=fc d;simpa using this
   subst this
   exact absurd f (g m hy x (fc hi))
  .have:x=(n,b4):=by
    have:=fc hi;simpa using this
   subst this
   exact absurd hy (g m f y (fc d))
  .have v:=(dx.1 hi).1
   have A:=(dx.1 d).1
   simp at v A;omega
structure kt (a:Acc):Prop where
 rt:yu a.rt
 az:∀j cZ i,bV a.az j=some i->bV a.az cZ=some i->j=cZ
section
variable (B : List (Nat × cf)) (T : List (Nat × Option bb))
structure vw (fin:Acc) (Fr:Nat->Prop) (c c':Ctx) (F:Nat->Nat->Prop):Prop where
 w:c'.w=c.w
 S:c'.S=c.S
 tok:∀n aa,aF T n=some (.live aa)->c.tok n=some (.live (if n∈fin.c8 then aa.cn else aa))
 bG:∀n aa,c.tok n=some (.live aa)->cg Fr c.w c.S aa (c.τ n) (F n)
 box:∀k b o t z,aY B k=some b->k∈fin.dA->hE t ((b.cs.drop o).take t.w)=some z->c.live k->j1 c.w c.S (c.β k) o (enc t z)
 mt:∀n,n∈fin.mt->n∉fin.c8
 live:∀k aJ,bV fin.az k=some aJ->c'.live k/\c'.β k=c.β aJ
 τ:∀n b4,(n,b4)∈fin.rt->c'.τ n=match b4 with|some m=>c.τ m|none=>.slice none 0 0
 aW:∀k aJ,bV fin.az k=some aJ->hR k=hR aJ
 Vx:∀k,k∈fin.dA->gq k=false
def ta (c:Ctx) (x:Nat×Option Nat) (y:Nat×Option bb):Prop:=
 y.1=x.1/\∃aa,y.2=some (.live aa)/\match x.2 with
  |some m=>∃d,c.tok m=some (.live d)/\(⟨aa.t,aa.xs⟩:(t:aH)×List t.D)=⟨d.t,d.xs⟩/\aa.e=d.e/\aa.wr=d.wr/\(aa.deep=true->d.deep=true)/\aa.tr=d.tr/\(aa.tr≠none->aa.deep=true)
  |none=>aa.xs=[]/\(aa.tr=none\/(aa.tr=some []/\aa.wr=true/\aa.deep=true))
def jA (c c':Ctx) (x d:ar) (v:Value):Prop:=(gw c x v->gw c' d v)/\(e9 c x v->e9 c' d v)/\(ga c x v->ga c' d v)/\(bo c x v->bo c' d v)
def ar.base :ar->Bool
 | .agg _=>false
 | .bM _=>false
 | .aU _ _=>false
 |_=>true
theorem jA.pd {c c':Ctx} {x f:ar} {v:Value} (g:x.base=true) (h:bo c x v->gw c' f v):jA c c' x f v:=
 ⟨fun d=>h (gQ (jy d)),fun d=>jy (h (gQ d)),fun d=>kz (jy (h (jz d))),fun d=>gQ (jy (h d))⟩
theorem jA.dead {c c':Ctx} {x:ar} {v:Value}:jA c c' x .dead v:=⟨fun _=>True.intro,fun _=>True.intro,fun _=>True.intro,fun _=>True.intro⟩
def JG (c c':Ctx) (v:b8) (x:ar) (a bN:Acc) (val:Value):Prop:=
 ∃cQ d g f,bN.ps=a.ps++cQ/\bN.rt=a.rt++d/\(∀rest,inst v (cQ++rest)=(g,rest,f))/\bs (ta c) d f/\((∀n z,(n,z)∈f->c'.tok n=z)->jA c c' x g val)
def Tu (c c':Ctx) (Q:Ctx->ar->Value->Prop) (h:List b8) (xs:List ar) (a bN:Acc) (vals:List Value):Prop:=
 ∃cQ d f g,bN.ps=a.ps++cQ/\bN.rt=a.rt++d/\(∀rest,hA h (cQ++rest)=(f,rest,g))/\bs (ta c) d g/\((∀n z,(n,z)∈g->c'.tok n=z)->bs (Q c') f vals)
end
section
variable (B : List (Nat × cf)) (T : List (Nat × Option bb))
mutual
theorem UJ :∀(v:b8) (x:ar) (a bN:Acc),conv B T v x a=some bN->Ext a bN/\(kt a->kt bN)
 | .dead,x,a,bN,h=>by cases h;exact⟨Ext.refl _,id⟩
 | .ag t,x,a,bN,h=>by
  simp only[conv]at h
  split at h
  .split at h
   .split at h
    .cases h;exact⟨⟨True.intro,⟨[],by simp⟩,fun _ _ h=>h,fun _ h=>h,fun _ h=>e8 _ h,fun _ h=>h,fun _ h=>h⟩,fun hi=>⟨hi.rt,hi.az⟩⟩
    .cases h
   .cases h
  .split at h
   .cases h;exact⟨⟨True.intro,⟨[],by simp⟩,fun _ _ h=>h,fun _ h=>h,fun _ h=>h,fun _ h=>h,fun _ h=>h⟩,fun hi=>⟨hi.rt,hi.az⟩⟩
   .cases h
 | .aQ,x,a,bN,h=>by
  simp only[conv]at h
  split at h
  .cases h;exact⟨Ext.refl _,id⟩
  .cases h
 | .eK,x,a,bN,h=>by
  simp only[conv]at h
  split at h
  .cases h;exact⟨Ext.refl _,id⟩
  .cases h
 | .box k o,x,a,bN,h=>by
  simp only[conv]at h
  split at h
  .split at h
   .obtain ⟨g,_,_,y,_,_,_,_,A,_⟩:=yM h
    exact⟨g,fun hi=>⟨by rw[y];exact hi.rt,A hi.az⟩⟩
   .cases h
  .cases h
 | .ptr t,x,a,bN,h=>by
  simp only[conv]at h
  split at h
  .split at h
   .cases h;exact⟨⟨True.intro,⟨[],by simp⟩,fun _ _ h=>h,fun _ h=>h,fun _ h=>h,fun _ h=>h,fun _ h=>h⟩,fun hi=>⟨hi.rt,hi.az⟩⟩
   .cases h
  .split at h
   .split at h
    .cases h;exact⟨⟨True.intro,⟨[],by simp⟩,fun _ _ h=>h,fun _ h=>e8 _ h,fun _ h=>h,fun _ h=>h,fun _ h=>h⟩,fun hi=>⟨hi.rt,hi.az⟩⟩
    .cases h
   .cases h
  .cases h
 | .own n t e deep,x,a,bN,h=>by
  simp only[conv]at h
  have fin:∀ {b4 p d},kA a n b4 p=some d->Ext a d/\(kt a->kt d):=fun {b4 p d} h=>by
   obtain⟨g,_,r,y,_,_,_,_,A,u⟩:=td h
   exact⟨g,fun hi=>⟨by rw[r];exact hi.rt.snoc A u,by rw[y];exact hi.az⟩⟩
  split at h
  .split at h
   .split at h
    .exact fin h
    .cases h
   .cases h
  .split at h
   .split at h
    .obtain ⟨d,g,rfl⟩:=hJ.1 h
     obtain⟨G,r⟩:=fin g
     exact⟨G.trans ⟨True.intro,⟨[],by simp⟩,fun _ _ h=>h,fun _ h=>h,fun _ h=>e8 _ h,fun _ h=>h,fun _ h=>h⟩,fun hi=>⟨(r hi).rt,(r hi).az⟩⟩
    .cases h
   .cases h
  .exact fin h
  .cases h
 | .aw n t e deep,x,a,bN,h=>by
  simp only[conv]at h
  have fin:∀ {b4 p d},kA a n b4 p=some d->Ext a d/\(kt a->kt d):=fun {b4 p d} h=>by
   obtain⟨g,_,r,y,_,_,_,_,A,u⟩:=td h
   exact⟨g,fun hi=>⟨by rw[r];exact hi.rt.snoc A u,by rw[y];exact hi.az⟩⟩
  split at h
  .split at h
   .split at h
    .obtain ⟨d,g,rfl⟩:=hJ.1 h
     obtain⟨G,r⟩:=fin g
     exact⟨G.trans ⟨True.intro,⟨[],by simp⟩,fun _ _ h=>h,fun _ h=>h,fun _ h=>h,fun _ h=>e8 _ h,fun _ h=>h⟩,fun hi=>⟨(r hi).rt,(r hi).az⟩⟩
    .cases h
   .cases h
  .exact fin h
  .cases h
 | .kn n t e,x,a,bN,h=>by
  simp only[conv]at h
  have fin:∀ {b4 p d},kA a n b4 p=some d->Ext a d/\(kt a->kt d):=fun {b4 p d} h=>by
   obtain⟨g,_,r,y,_,_,_,_,A,u⟩:=td h
   exact⟨g,fun hi=>⟨by rw[r];exact hi.rt.snoc A u,by rw[y];exact hi.az⟩⟩
  split at h
  .split at h
   .split at h
    .obtain ⟨d,g,rfl⟩:=hJ.1 h
     obtain⟨G,r⟩:=fin g
     exact⟨G.trans ⟨True.intro,⟨[],by simp⟩,fun _ _ h=>h,fun _ h=>h,fun _ h=>h,fun _ h=>e8 _ h,fun _ h=>h⟩,fun hi=>⟨(r hi).rt,(r hi).az⟩⟩
    .cases h
   .cases h
  .exact fin h
  .cases h
 | .qQ n t e,x,a,bN,h=>by
  simp only[conv]at h
  split at h
  case h_2=>cases h
  split at h
  case h_2=>cases h
  split at h
  case h_2=>cases h
  split at h
  case isFalse=>cases h
  obtain⟨d,g,rfl⟩:=hJ.1 h
  obtain⟨g1,_,g3,g4,_,_,_,_,g9,g10⟩:=td g
  exact⟨g1.trans ⟨True.intro,⟨[],by simp⟩,fun _ _ h=>h,fun _ h=>h,fun _ h=>h,fun _ h=>e8 _ h,fun _ h=>h⟩,fun hi=>⟨by rw[g3];exact hi.rt.snoc g9 g10,by rw[g4];exact hi.az⟩⟩
 | .agg l,x,a,bN,h=>by
  simp only[conv]at h
  split at h
  .exact pY l _ _ _ h
  .cases h
 | .bM l,x,a,bN,h=>by
  simp only[conv]at h
  split at h
  .exact pY l _ _ _ h
  .cases h
 | .aU f l,x,a,bN,h=>by
  simp only[conv]at h
  split at h
  .split at h
   .split at h
    .rename_i d g
     split at h
     .cases h
      obtain⟨C,H⟩:=pY l _ _ _ g
      exact⟨⟨True.intro,C.rt,C.az,C.dA,C.c8,C.mt,C.gX⟩,fun hi=>⟨(H ⟨hi.rt,hi.az⟩).rt,(H ⟨hi.rt,hi.az⟩).az⟩⟩
     .cases h
    .cases h
   .cases h
  .cases h
theorem pY :∀(l:List b8) (xs:List ar) (a bN:Acc),gy B T l xs a=some bN->Ext a bN/\(kt a->kt bN)
 | [],[],a,bN,h=>by simp only[gy]at h;cases h;exact⟨Ext.refl _,id⟩
 |v::l,x::xs,a,bN,h=>by
  simp only[gy]at h
  obtain⟨d,f,g⟩:=ju.1 h
  obtain⟨p,i1⟩:=UJ v x a d f
  obtain⟨r,i2⟩:=pY l xs d bN g
  exact⟨p.trans r,fun hi=>i2 (i1 hi)⟩
 | [],_::_,a,bN,h=>by simp only[gy]at h;cases h
 |_::_,[],a,bN,h=>by simp only[gy]at h;cases h
end
variable {B T} {fin : Acc} {Fr : Nat -> Prop} {c c' : Ctx} {F : Nat -> Nat -> Prop}
theorem cg.tree {Fr:Nat->Prop} {w:World} {S:bW} {aa:Tok} {v:Value} {F:Nat->Prop} (h:cg Fr w S aa v F) {d:List (Nat×Nat×Nat)} (f:aa.tr=some d):aa.wr=true/\aa.deep=true:=by
 have:=h.2.2
 unfold hq at this
 rw[f]at this
 exact⟨this.1,this.2.1⟩
theorem ajM {tr:Option (List (Nat×Nat×Nat))} {k:Nat} (h:Hr tr=some k):tr=some [(k,gone,gone)]:=by
 unfold Hr at h
 split at h
 .split at h
  .rename_i d
   cases h
   rw[d.1,d.2]
  .cases h
 .cases h
theorem q5 (A:vw B T fin Fr c c' F) {a J bN:Acc} {n:Nat} {b4:Option Nat} {t:aH} {xs:List t.D} {x:ar} {val:Value} {e:TypeId} {deep wr:Bool} {tr:Option (List (Nat×Nat×Nat))} {v:b8} (O:x.base=true) (h:kA a n b4 ⟨.av t,xs⟩=some J) (K:bN.ps=J.ps) (C:bN.rt=J.rt) (G:∀y,y∈bN.rt->y∈fin.rt)
  (P:inst v=fun ps=>match ps with|⟨.av r,xs⟩::ps=>(if wr then .aw n else .own n r xs,ps,[(n,some (.live ⟨r,xs,e,wr,deep,tr⟩))])|_=>(.dead,[],[]))
  (hm:match b4 with
   |some m=>∃d,c.tok m=some (.live d)/\(⟨t,xs⟩:(t:aH)×List t.D)=⟨d.t,d.xs⟩/\e=d.e/\wr=d.wr/\(deep=true->d.deep=true)/\val=c.τ m/\tr=d.tr/\(tr≠none->deep=true)
   |none=>xs=[]/\val= .slice none 0 0/\(tr=none\/(tr=some []/\wr=true/\deep=true))):JG c c' v x a bN val:=by
 obtain⟨U,Q,M,_⟩:=td h
 refine⟨[⟨.av t,xs⟩],[(n,b4)],if wr then .aw n else .own n t xs,[(n,some (.live ⟨t,xs,e,wr,deep,tr⟩))],by rw[K,Q],by rw[C,M],fun rest=>by rw[P];rfl,⟨⟨rfl,_,rfl,?_⟩,True.intro⟩,fun f=>jA.pd O fun _=>?_⟩
 .cases b4 with
  |none=>exact⟨hm.1,hm.2.2⟩
  |some m=>obtain⟨d,g1,g2,g3,g4,g5,_,g7,g8⟩:=hm;exact⟨d,g1,g2,g3,g4,g5,g7,g8⟩
 .have f:=f n _ b6
  have L:=A.τ n b4 (G _ (by rw[C,M];simp))
  have u:val=c'.τ n:=by
   rw[L]
   cases b4 with
   |none=>exact hm.2.1
   |some m=>obtain⟨_,_,_,_,_,_,g,_⟩:=hm;exact g
  cases wr with
  |true=>
   refine⟨?_,by rw[f];simp,fun aa _=>u⟩
   cases b4 with
   |none=>rw[hm.2.1];rfl
   |some m=>obtain⟨d,g1,_,_,_,_,g6,_⟩:=hm;rw[g6];exact(A.bG m d g1).cell
  |false=>
   refine⟨?_,by rw[f];simp,fun aa H=>?_⟩
   .rw [A.w,A.S]
    cases b4 with
    |none=>obtain⟨rfl,rfl,_⟩:=hm;exact Cy
    |some m=>
     obtain⟨d,g1,g2,_,g4,_,g6,_⟩:=hm
     rw[g6]
     have I:=(A.bG m d g1).rep g4.symm
     have:∀p q:(t:aH)×List t.D,p=q->bq c.w c.S (c.τ m) (.av (q.2.map (enc q.1)))->bq c.w c.S (c.τ m) (.av (p.2.map (enc p.1))):=fun p q h=>by subst h;exact id
     exact this _ _ g2 I
   .rw [f]at H
    cases H
    exact⟨rfl,u,rfl⟩
mutual
theorem UL (d:vw B T fin Fr c c' F):∀(v:b8) (x:ar) (a bN:Acc) (val:Value),conv B T v x a=some bN->Ext bN fin->bo c x val->JG c c' v x a bN val
 | .dead,x,a,bN,val,h,r,A=>by cases h;exact⟨[],[],.dead,[],by simp,by simp,fun rest=>rfl,True.intro,fun _=>jA.dead⟩
 | .ag t,x,a,bN,val,h,r,A=>by
  simp only[conv]at h
  split at h
  .rename_i n
   split at h
   .rename_i aa G
    split at h
    .rename_i la
     obtain⟨la,Vw⟩:=la
     cases h
     subst la
     refine⟨[⟨.av aa.t,aa.xs⟩],[],.ag (.av aa.t) aa.xs,[],rfl,by simp,fun rest=>rfl,True.intro,fun _=>jA.pd rfl fun _=>?_⟩
     have X:n∈fin.c8:=r.c8 n (by simp)
     have H:=d.tok n aa G
     rw[ai X]at H
     rw[Tok.zg Vw]at H
     have I:=d.bG n _ H
     have J:=(jX A).2.2 _ H
     refine⟨_,rfl,?_⟩
     rw[d.w,d.S,J]
     exact I.rep rfl
    .cases h
   .cases h
  .split at h
   .rename_i gS y hy
    cases h
    refine⟨[⟨t,y⟩],[],.ag t y,[],rfl,by simp,fun rest=>rfl,True.intro,fun _=>jA.pd ?_ fun A=>?_⟩
    .cases x<;>first|rfl|cases hy
    .obtain ⟨p,H,I⟩:=mx hy A
     exact⟨p,H,by rw[d.w,d.S];exact I⟩
   .cases h
 | .aQ,x,a,bN,val,h,r,A=>by
  simp only[conv]at h
  split at h
  .cases h;exact⟨[],[],.aQ,[],by simp,by simp,fun rest=>rfl,True.intro,fun _=>jA.pd rfl fun h=>h⟩
  .cases h
 | .eK,x,a,bN,val,h,r,A=>by
  simp only[conv]at h
  split at h
  .cases h;exact⟨[],[],.eK,[],by simp,by simp,fun rest=>rfl,True.intro,fun _=>jA.pd rfl fun h=>h⟩
  .cases h
 | .box k o,x,a,bN,val,h,r,A=>by
  simp only[conv]at h
  split at h
  .rename_i aJ sa
   split at h
   .rename_i Vt
    subst Vt
    obtain⟨H,I,J,cN,_⟩:=yM h
    refine⟨[],[],.box k sa,[],by simp[J],by simp[cN],fun rest=>rfl,True.intro,fun _=>jA.pd rfl fun A=>?_⟩
    obtain⟨g1,g2⟩:=anw A
    obtain⟨cP,cI⟩:=d.live k aJ (r.az _ _ I)
    have hQ:=d.aW k aJ (r.az _ _ I)
    exact⟨cP,by rw[cI];unfold qJ at g2⊢;rw[hQ];exact g2⟩
   .cases h
  .cases h
 | .ptr t,x,a,bN,val,h,r,A=>by
  simp only[conv]at h
  split at h
  .rename_i dc y o
   split at h
   .rename_i z bI
    cases h
    refine⟨[⟨t,z⟩],[],.ptr t z 0,[],rfl,by simp,fun rest=>rfl,True.intro,fun _=>jA.pd rfl fun A=>?_⟩
    obtain⟨b,bu,de,bB⟩:=Dr A
    refine⟨b,bu+o,by simpa using de,fun j p cU=>?_⟩
    rw[d.w,d.S]
    obtain⟨Q,H,I⟩:=IU (c:=c) y (b:=b) (q:=bu) (fun j p cU=>(bB j p cU).2)
    have J:=B3 t _ z _ bI ((H.drop o).take t.w)
    have bR:j<t.w:=by have:=(dx.1 cU).1;rwa[en]at this
    have K:=J.len
    rw[en]at K
    obtain⟨u,hu⟩:∃u,((Q.drop o).take t.w)[j]? =some u:=⟨_,bH (by rw[K];exact bR)⟩
    have cE:=J.get' j u p hu cU
    rw[ho,ai bR,hT]at hu
    have gf:o+j<(enc dc y).length:=by
     rw[en,<-k8 dc y,H.len];exact(dx.1 hu).1
    have nO:=(bB (o+j) (enc dc y)[o+j] (bH gf)).1
    exact⟨by rw[mm];exact nO,u,by rw[mm];exact I _ _ hu,cE⟩
   .cases h
  .rename_i k o
   split at h
   .rename_i b U
    split at h
    .rename_i z bI
     cases h
     refine⟨[⟨t,z⟩],[],.ptr t z 0,[],rfl,by simp,fun rest=>rfl,True.intro,fun _=>jA.pd rfl fun A=>?_⟩
     obtain⟨g1,g2⟩:=vf (d.Vx k (r.dA k (by simp))) A
     have H:=d.box k b o t z U (r.dA k (by simp)) bI g1
     exact⟨c.β k,o,by simpa using g2,by rw[d.w,d.S];exact H⟩
    .cases h
   .cases h
  .cases h
 | .own n t e deep,x,a,bN,val,h,r,A=>by
  simp only[conv]at h
  split at h
  .rename_i b4 dc xs
   split at h
   .rename_i aa G
    split at h
    .rename_i V
     obtain⟨rfl,I,J⟩:=V
     have H:=d.tok b4 aa G
     obtain⟨_,_,g⟩:=Dq A
     have Y:=(d.bG _ _ H)
     obtain⟨g1,g2,g3⟩:=g _ H
     have Y:=Y.plain g1
     have Z:(if b4∈fin.c8 then aa.cn else aa).e=aa.e:=by split<;>simp[Tok.VV]
     have cb:deep=true->(if b4∈fin.c8 then aa.cn else aa).deep=true:=fun bc=>by have:=J bc;split<;>simp[Tok.VU,this]
     refine q5 d (wr:=false) (e:=e) (deep:=deep) (tr:=none) rfl h rfl rfl (fun y hy=>?_) (by funext ps;cases ps<;>rfl) ⟨_,H,g3.symm,I.symm.trans Z.symm,g1.symm,cb,g2,Y.symm,fun h=>absurd rfl h⟩
     obtain⟨l,K⟩:=r.rt;rw[K];exact e8 _ hy
    .cases h
   .cases h
  .rename_i b4
   split at h
   .rename_i aa G
    split at h
    .rename_i V
     obtain⟨H,I,J,cN⟩:=V
     obtain⟨W,U,rfl⟩:=hJ.1 h
     have X:b4∈fin.c8:=r.c8 b4 (by simp)
     have g1:=d.tok b4 aa G
     rw[ai X,Tok.zg cN]at g1
     have g2:=(jX A).2.2 _ g1
     refine q5 d (wr:=false) (e:=e) (deep:=deep) (tr:=none) rfl U rfl rfl (fun y hy=>?_) (by funext ps;cases ps<;>rfl) ⟨_,g1,rfl,I.symm,rfl,J,g2,rfl,fun h=>absurd rfl h⟩
     obtain⟨l,K⟩:=r.rt;rw[K];exact e8 _ hy
    .cases h
   .cases h
  .refine q5 d (wr:=false) (e:=e) (deep:=deep) (tr:=none) rfl h rfl rfl (fun y hy=>?_) (by funext ps;cases ps<;>rfl) ⟨rfl,A,.inl rfl⟩
   obtain⟨l,K⟩:=r.rt;rw[K];exact e8 _ hy
  .cases h
 | .aw n t e deep,x,a,bN,val,h,r,A=>by
  simp only[conv]at h
  split at h
  .rename_i b4
   split at h
   .rename_i aa G
    split at h
    .rename_i V
     obtain⟨H,I,J,cN,dO⟩:=V
     obtain⟨W,U,rfl⟩:=hJ.1 h
     have L:b4∉fin.c8:=d.mt b4 (r.mt b4 (by simp))
     have g1:=d.tok b4 aa G
     rw[aA L]at g1
     have g2:=(jX A).2.2 _ g1
     refine q5 d (wr:=true) (e:=e) (deep:=deep) (tr:=none) rfl U rfl rfl (fun y hy=>?_) (by funext ps;cases ps<;>rfl) ⟨_,g1,rfl,I.symm,J.symm,cN,g2,dO.symm,fun h=>absurd rfl h⟩
     obtain⟨l,K⟩:=r.rt;rw[K];exact e8 _ hy
    .cases h
   .cases h
  .refine q5 d (wr:=true) (e:=e) (deep:=deep) (tr:=none) rfl h rfl rfl (fun y hy=>?_) (by funext ps;cases ps<;>rfl) ⟨rfl,A,.inl rfl⟩
   obtain⟨l,K⟩:=r.rt;rw[K];exact e8 _ hy
  .cases h
 | .kn n t e,x,a,bN,val,h,r,A=>by
  simp only[conv]at h
  split at h
  .rename_i b4
   split at h
   .rename_i aa G
    split at h
    .rename_i V
     obtain⟨H,I,J⟩:=V
     obtain⟨W,U,rfl⟩:=hJ.1 h
     have L:b4∉fin.c8:=d.mt b4 (r.mt b4 (by simp))
     have g1:=d.tok b4 aa G
     rw[aA L]at g1
     have g2:=(jX A).2.2 _ g1
     have gt:=(d.bG _ _ g1).tree J
     refine q5 d (wr:=true) (e:=e) (deep:=true) (tr:=some []) rfl U rfl rfl (fun y hy=>?_) (by funext ps;cases ps<;>rfl) ⟨_,g1,rfl,I.symm,gt.1.symm,fun _=>gt.2,g2,J.symm,fun _=>rfl⟩
     obtain⟨l,K⟩:=r.rt;rw[K];exact e8 _ hy
    .cases h
   .cases h
  .refine q5 d (wr:=true) (e:=e) (deep:=true) (tr:=some []) rfl h rfl rfl (fun y hy=>?_) (by funext ps;cases ps<;>rfl) ⟨rfl,A,.inr ⟨rfl,rfl,rfl⟩⟩
   obtain⟨l,K⟩:=r.rt;rw[K];exact e8 _ hy
  .cases h
 | .qQ n t e,x,a,bN,val,h,r,A=>by
  simp only[conv]at h
  split at h
  case h_2=>cases h
  rename_i b4
  split at h
  case h_2=>cases h
  rename_i aa G
  split at h
  case h_2=>cases h
  rename_i k bx
  split at h
  case isFalse=>cases h
  rename_i V
  obtain⟨rfl,I⟩:=V
  obtain⟨W,U,rfl⟩:=hJ.1 h
  obtain⟨H,p8,J,_⟩:=td U
  have lg:=ajM bx
  have L:b4∉fin.c8:=d.mt b4 (r.mt b4 (by simp))
  have g1:=d.tok b4 aa G
  rw[aA L]at g1
  have g2:=(jX A).2.2 _ g1
  have gt:=(d.bG _ _ g1).tree lg
  refine⟨[⟨.pair (.av aa.t) (.int .i64),((aa.xs,(k:Int)):List aa.t.D×Int)⟩],[(n,some b4)],.aw n,[(n,some (.live ⟨aa.t,aa.xs,e,true,true,some [(k,gone,gone)]⟩))],p8,J,fun rest=>rfl,⟨⟨rfl,_,rfl,aa,g1,rfl,I.symm,gt.1.symm,fun _=>gt.2,lg.symm,fun _=>rfl⟩,True.intro⟩,fun C=>jA.pd rfl fun _=>?_⟩
  have C:=C n _ b6
  have Yo:=d.τ n (some b4) (by obtain⟨l,K⟩:=r.rt;rw[K];exact e8 _ (by show _∈W.rt;rw[J];simp))
  refine⟨?_,by rw[C];simp,fun aa _=>by rw[Yo];exact g2⟩
  rw[g2]
  exact(d.bG b4 aa g1).cell
 | .agg l,x,a,bN,val,h,r,A=>by
  simp only[conv]at h
  split at h
  .rename_i cs
   obtain⟨Q,aP,P⟩:=A
   obtain⟨cQ,M,O,iW,Z,cb,di,gA,fO⟩:=rf d (fun c=>ee c) (fun x fW v h=>gQ h.1) (fun x fW v hi h=>⟨hi.2.1 h.1,h.2⟩) l cs a bN Q h r P
   refine⟨cQ,M,.agg O,iW,Z,cb,fun rest=>by simp only[inst,di],gA,fun C=>⟨fun h=>h.elim,fun h=>h.elim,fun⟨us,nF,hu⟩=>?_,fun⟨us,nF,hu⟩=>?_⟩⟩
   all_goals
    rw[aP]at nF
    cases nF
    exact⟨Q,aP,fO C⟩
  .cases h
 | .bM l,x,a,bN,val,h,r,A=>by
  simp only[conv]at h
  split at h
  .rename_i cs
   obtain⟨Q,aP,P⟩:=A
   obtain⟨cQ,M,O,iW,Z,cb,di,gA,fO⟩:=rf d (fun c=>ga c) (fun x fW v h=>jz h) (fun x fW v hi h=>hi.2.2.1 h) l cs a bN Q h r P
   refine⟨cQ,M,.bM O,iW,Z,cb,fun rest=>by simp only[inst,di],gA,fun C=>⟨fun h=>h.elim,fun h=>h.elim,fun h=>h.elim,fun⟨us,nF,hu⟩=>?_⟩⟩
   rw[aP]at nF
   cases nF
   exact⟨Q,aP,fO C⟩
  .cases h
 | .aU f l,x,a,bN,val,h,r,A=>by
  simp only[conv]at h
  split at h
  .rename_i g cs
   split at h
   .rename_i Vp
    subst Vp
    split at h
    case h_2=>cases h
    rename_i W H
    split at h
    case isFalse=>cases h
    rename_i hlen
    cases h
    obtain⟨Q,aP,P⟩:=Jp A
    obtain⟨cQ,M,O,iW,Z,cb,di,gA,fO⟩:=rf d (fun c=>gw c) (fun x fW v h=>gQ (jy h)) (fun x fW v hi h=>hi.1 h) l cs _ W Q H ⟨True.intro,r.rt,r.az,r.dA,r.c8,r.mt,r.gX⟩ P
    have key:(∀n z,(n,z)∈iW->c'.tok n=z)->e9 c' (.aU g O) val:=fun C=>⟨Q,aP,fO C⟩
    have Vh:W.ps=cQ:=Z
    have Vj:hA l cQ=(O,[],iW):=by have:=di [];rwa[e5]at this
    exact⟨[uQ W.ps],M,.aU g O,iW,rfl,cb,fun rest=>by
     simp only[inst,jZ,fj]
     rw[<-hlen,Td,Vh,Vj],gA,fun C=>⟨fun h=>h.elim,fun h=>key C,fun h=>kz (key C),fun h=>gQ (key C)⟩⟩
   .cases h
  .cases h
theorem rf (A:vw B T fin Fr c c' F) (Q:Ctx->ar->Value->Prop) (f:∀x (r:ar) v,Q c x v->bo c x v) (C:∀x r v,jA c c' x r v->Q c x v->Q c' r v):∀(l:List b8) (xs:List ar) (a bN:Acc) (vals:List Value),gy B T l xs a=some bN->Ext bN fin->bs (Q c) xs vals->Tu c c' Q l xs a bN vals
 | [],[],a,bN,vals,h,g,d=>by
  simp only[gy]at h;cases h
  match vals,d with
  | [],_=>exact⟨[],[],[],[],by simp,by simp,fun rest=>rfl,True.intro,fun _=>True.intro⟩
 |v::l,x::xs,a,bN,vals,h,g,d=>by
  match vals,d with
  |val::vals,d=>
   simp only[gy]at h
   obtain⟨u,I,G⟩:=ju.1 h
   obtain⟨J,_⟩:=pY B T l xs u bN G
   obtain⟨s1,K,H,t1,L,M,O,P,U⟩:=UL A v x a u val I (J.trans g) (f x x val d.1)
   obtain⟨s2,V,W,t2,X,Y,Z,oc,uU⟩:=rf A Q f C l xs u bN vals G g d.2
   refine⟨s1++s2,K++V,H::W,t1++t2,by rw[X,L,dJ],by rw[Y,M,dJ],fun rest=>?_,P.append oc,fun p=>⟨C x H val (U fun n z y=>p n z (e8 _ y)) d.1,uU fun n z y=>p n z (kW _ y)⟩⟩
   simp only[hA,dJ,O,Z]
 | [],_::_,a,bN,vals,h,g,d=>by simp only[gy]at h;cases h
 |_::_,[],a,bN,vals,h,g,d=>by simp only[gy]at h;cases h
end
end
end Go.Proofs.YtnkagklajgimlaaGreatDoor
