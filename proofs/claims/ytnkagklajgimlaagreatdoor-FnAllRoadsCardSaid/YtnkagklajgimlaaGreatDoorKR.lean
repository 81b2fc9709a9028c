
import Derived.Test.YtnkagklajgimlaaGreatDoorKQ
set_option linter.unusedSimpArgs false
set_option linter.unusedVariables false
namespace Go.Proofs.YtnkagklajgimlaaGreatDoor
open Go.RowKit
section
variable {E : Env} {o : Oper} {s : aY} {e : bP} {aM : dc}
theorem akZ (c:Call) (cC:o.op= .call c) (bF:c.callee= .builtin .append) (x y:Operand) (bb:c.args.toList=[x,y]) (T:TypeId) (dJ:c.argTypes.toList=[T,T]) (ty:bt) (hI:bQ E.P T ty) (dn:TypeId) (r:aJ) (X:Nat) (he:ty.elem=some (dn,r,X)) (d:Nat) (my:o.dst=some d)
  (xs ys:List r.D) (gL ar:List Nat) (wr u f:Bool)
  (Y:∀R β τ F S (a:Act) w,Mem R (aZ s.B) (aH s.T) β τ F S w->(∀y,bp (s.ctx w S β τ) (s.aQ y) (a.eval y))->∃Z,cn R.dt w S ⟨r,xs,dn,wr,u,none⟩ (a.eval x) Z/\∀b,Z b->∃t aa,t∈gL/\aH s.T t=some (.live aa)/\F t b)
  (aav:∀R β τ F S (a:Act) w,Mem R (aZ s.B) (aH s.T) β τ F S w->(∀y,bp (s.ctx w S β τ) (s.aQ y) (a.eval y))->iD w S (a.eval y) r ys/\(f=true->r.ct=true\/ ∃t aa,t∈ar/\t∉gL/\aH s.T t=some (.live aa)/\Deep w (F t) (a.eval y) (.af (.ar r) ys)))
  (O:(xs.length+ys.length)*X<=140737488355328) (uJ:xs.length+ys.length<=9223372036854775807) (k7:E.wr d=wr) {aE rt:List Nat} (h:(nC E d r (xs++ys) dn (u&&f) ((gL++ar).map fun t=>(t,some bc.ej))).R s aE rt e aM):cX E o s e:=by
 obtain⟨bd,uP,mD,rfl⟩:=Du h
 rw[k7]
 rintro R a w e3 ⟨β,τ,F,S,M,bj,gA,gh⟩ K Q dP
 have fQ:=hZ gh
 obtain⟨hu,qX,fG,z,ka,hf,nm,bL,jB⟩:=hI.elem _ _ _ he
 have kZ:c.args= #[x,y]:=by apply Array.ext';simpa using bb
 have qJ:c.argTypes= #[T,T]:=by apply Array.ext';simpa using dJ
 obtain⟨Z,Y2,hx⟩:=Y R β τ F S a w M fQ
 obtain⟨sr,Hg⟩:=aav R β τ F S a w M fQ
 have AZ:d∉gL++ar:=fun fu=>uP (d,some .ej) (cg.2 ⟨d,fu,rfl⟩) rfl
 have V:∀t aa b,aH s.T t=some (.live aa)->F t b->R.dt b/\b<w.heap.size:=fun t aa b G g=>(M.bI t aa G).1 b g
 have im:=M.drop (tok':=eS (aH s.T) (gL++ar)) (fun t G=>o7 G) (fun t aa h=>(jo h).2)
 obtain⟨kR,aau,GC⟩:∃kR:Nat->Prop,(f=true->r.ct=true\/(Deep w kR (a.eval y) (.af (.ar r) ys)/\∀b,kR b->¬Z b))/\∀b,kR b->∃t aa,t∈ar/\aH s.T t=some (.live aa)/\F t b:=by
  by_cases I:f=true/\¬r.ct=true
  .rcases Hg I.1 with J|⟨t,aa,J,C,H,cN⟩
   .exact absurd J I.2
   .refine ⟨F t,fun _=>.inr ⟨cN,fun b g j9=>?_⟩,fun b g=>⟨t,aa,J,H,g⟩⟩
    obtain⟨U,p,g1,g2,g3⟩:=hx b j9
    exact C (M.eM t U aa p b H g2 g g3▸g1)
  .refine ⟨fun _=>False,fun J=>.inl ?_,fun _ h=>h.elim⟩
   by_cases C:r.ct=true
   .exact C
   .exact absurd ⟨J,C⟩ I
 have v:∀t aa b,t∉gL++ar->aH s.T t=some (.live aa)->(Z b\/kR b)->¬F t b:=fun t aa b L G g cT=>by
  rcases g with g|g
  .obtain ⟨U,p,J,C,H⟩:=hx b g
   exact L (fc _ (M.eM t U aa p b G C cT H▸J))
  .obtain ⟨U,p,J,C,H⟩:=GC b g
   exact L (lv _ (M.eM t U aa p b G C cT H▸J))
 have A:∀k b,aZ s.B k=some b->¬(Z (β k)\/kR (β k)):=fun k b W g=>by
  rcases g with g|g
  .obtain ⟨U,p,J,C,H⟩:=hx _ g
   exact M.fq U p k b C W H
  .obtain ⟨U,p,J,C,H⟩:=GC _ g
   exact M.fq U p k b C W H
 obtain⟨fr,w',S',jf,je,hle,iM⟩:=Lx (P:=E.P) im T o.type dn fG z r X hu ka bL hf nm jB qX (a.eval x) (a.eval y) xs ys wr u f Z kR Y2 sr aau
  (fun b g=>by obtain⟨t,aa,_,C,H⟩:=GC b g;exact V t aa b C H) (fun t aa b G g=>v t aa b (jo G).1 (jo G).2 (.inl g)) (fun k b W g=>A k b W (.inl g)) O uJ
 have cG:(execOp a.eval o).run E.P w= .ok (.value fr) w':=by
  simp only[execOp,cC,resolve,bF,invoke,builtin,Sem.run_bind,Sem.run_pure,Result.andThen_ok,kZ,qJ,List.map_toArray,cw,qn,jf]
 refine jO cG (dP _ _ (rC (s:=s) (gL++ar) je bj gA gh hle d bd (e3.gw mD) ⟨r,xs++ys,dn,wr,u&&f,none⟩ fr _ iM rfl (fun t p b L G g=>?_) (fun k b W g=>?_) o.dst AZ _ rfl))
 .rcases g.1 with h|h|h
  .exact v t p b L G (.inl h)
  .exact v t p b L G (.inr h)
  .intro cT;have:=(V t p b G cT).2;omega
 .rcases g.1 with h|h|h
  .exact A k b W (.inl h)
  .exact A k b W (.inr h)
  .have:=M.blt W;omega
theorem Qm {w:World} {F:Nat->Prop} {v:Value} {t:aJ} {xs:List t.D} {r:aJ} {ys:List r.D} (h:Deep w F v (.af (.ar t) xs)) (d:(⟨t,xs⟩:(t:aJ)×List t.D)=⟨r,ys⟩):Deep w F v (.af (.ar r) ys):=by
 simp only[Sigma.mk.injEq]at d
 obtain⟨rfl,f⟩:=d
 cases f
 exact h
theorem zQ {l:List Nat} {n:Nat} (h:((l.map fun t=>(t,some bc.ej)).any fun y=>y.1==n)=false):n∉l:=by
 intro d
 have:=qg.1 h (n,some .ej) (cg.2 ⟨n,d,rfl⟩)
 simp at this
theorem Im (cd:eG E) (c:Call) (cC:o.op= .call c) (bF:c.callee= .builtin .append) (x y:Operand) (bb:c.args.toList=[x,y]) (T:TypeId) (dJ:c.argTypes.toList=[T,T]) (ty:bt) (W:bQ E.P T ty) (O:TypeId) (r:aJ) (I:Nat) (he:ty.elem=some (O,r,I)) (d:Nat) (Q:o.dst=some d)
  (xs:List r.D) (gL:List Nat) (wr g:Bool)
  (L:∀R β τ F S (a:Act) w,Mem R (aZ s.B) (aH s.T) β τ F S w->(∀y,bp (s.ctx w S β τ) (s.aQ y) (a.eval y))->∃lD,cn R.dt w S ⟨r,xs,O,wr,g,none⟩ (a.eval x) lD/\∀b,lD b->∃t aa,t∈gL/\aH s.T t=some (.live aa)/\F t b)
  {aE rt:List Nat} (h:(wP E d O r I g (gL.map fun t=>(t,some bc.ej)) wr xs (s.aQ y)).R s aE rt e aM):cX E o s e:=by
 have fin:∀(ys:List r.D) (ar:List Nat) (p:Bool) (rt:List Nat),
   (∀R β τ F S (a:Act) w,Mem R (aZ s.B) (aH s.T) β τ F S w->(∀y,bp (s.ctx w S β τ) (s.aQ y) (a.eval y))->iD w S (a.eval y) r ys/\(p=true->r.ct=true\/ ∃t aa,t∈ar/\t∉gL/\aH s.T t=some (.live aa)/\Deep w (F t) (a.eval y) (.af (.ar r) ys)))->
   (gR (room xs.length ys.length I) (if E.wr d=wr then nC E d r (xs++ys) O (g&&p) ((gL++ar).map fun t=>(t,some bc.ej))else .fail)).R s aE rt e aM->cX E o s e:=fun ys ar p rt aU h=>by
  obtain⟨⟨v,J⟩,X⟩:=h
  split at X
  .rename_i Y
   exact akZ c cC bF x y bb T dJ ty W O r I he d Q xs ys gL ar wr g p L aU v J Y X
  .exact X.elim
 unfold wP at h
 simp only at h
 split at h
 .rename_i n hy
  simp only[bk.R]at h
  split at h
  case h_2=>exact h.elim
  rename_i aa u
  split at h
  case isFalse=>exact h.elim
  rename_i U
  obtain⟨U,M⟩:=U
  subst U
  have C:∀R β τ F S (a:Act) w,Mem R (aZ s.B) (aH s.T) β τ F S w->(∀y,bp (s.ctx w S β τ) (s.aQ y) (a.eval y))->a.eval y=τ n/\cn R.dt w S aa (τ n) (F n):=fun R β τ F S a w A f=>by
   have v:=f y;rw[hy]at v
   exact⟨(kn v).2.2 aa u,A.bI n aa u⟩
  split at h
  .rename_i G
   refine fin aa.xs [] true _ (fun R β τ F S a w A f=>?_) (by simpa using h)
   obtain⟨v,J⟩:=C R β τ F S a w A f
   exact⟨by rw[v];exact iD.yF J M,fun _=>.inl G⟩
  .rename_i G
   split at h
   .exact h.elim
   .rename_i H
    refine fin aa.xs [n] aa.deep _ (fun R β τ F S a w A f=>?_) (by simpa using h)
    obtain⟨v,J⟩:=C R β τ F S a w A f
    exact⟨by rw[v];exact iD.yF J M,fun K=>.inr ⟨n,aa,by simp,zQ (Bool.eq_false_iff.2 H),u,by rw[v];exact J.oi M K⟩⟩
 .rename_i n iT zs hy
  split at h
  case isFalse=>exact h.elim
  rename_i U
  subst U
  have C:∀R β τ F S (a:Act) w,Mem R (aZ s.B) (aH s.T) β τ F S w->(∀y,bp (s.ctx w S β τ) (s.aQ y) (a.eval y))->iD w S (a.eval y) iT zs/\∀aa,aH s.T n=some (.live aa)->a.eval y=τ n/\cn R.dt w S aa (τ n) (F n)/\(⟨aa.t,aa.xs⟩:(t:aJ)×List t.D)=⟨iT,zs⟩/\aa.wr=false:=fun R β τ F S a w A f=>by
   have v:=f y;rw[hy]at v
   obtain⟨g1,g2,g3⟩:=ES v
   exact⟨iD.JJ g1,fun aa u=>⟨(g3 aa u).2.1,A.bI n aa u,(g3 aa u).2.2,(g3 aa u).1⟩⟩
  split at h
  .rename_i G
   exact fin zs [] true _ (fun R β τ F S a w A f=>⟨(C R β τ F S a w A f).1,fun _=>.inl G⟩) (by simpa using h)
  .rename_i G
   split at h
   .exact h.elim
   .rename_i H
    simp only[bk.R]at h
    refine fin zs [n] (oi (aH s.T n)) (n::rt) (fun R β τ F S a w A f=>?_) (by simp only[ib,cw,qn];exact h)
    obtain⟨v,J⟩:=C R β τ F S a w A f
    refine⟨v,fun K=>?_⟩
    cases V:aH s.T n with
    |none=>rw[V]at K;cases K
    |some z=>cases z with
     |ej=>rw[V]at K;cases K
     |live aa=>
      rw[V]at K
      obtain⟨cW,cO,h5,I5⟩:=J aa V
      refine .inr ⟨n,aa,by simp,zQ (Bool.eq_false_iff.2 H),V,?_⟩
      have:=cO.oi (cO.plain I5) K
      rw[cW]
      exact Qm this h5
 .split at h
  case h_2=>exact h.elim
  rename_i ys Z
  refine fin ys [] r.ct _ (fun R β τ F S a w A f=>⟨iD.JJ (zV (c:=s.ctx w S β τ) Z (f y)),fun h=>.inl h⟩) (by simpa using h)
theorem UK {Fr:Nat->Prop} {w:World} {S:b0} {aa:Tok} {v:Value} {F:Nat->Prop} (h:cn Fr w S aa v F) {r:aJ} {xs:List r.D} (d:(⟨aa.t,aa.xs⟩:(t:aJ)×List t.D)=⟨r,xs⟩):cn Fr w S ⟨r,xs,aa.e,aa.wr,aa.deep,aa.tr⟩ v F:=by
 obtain⟨t,ys,g,wr,deep,tr⟩:=aa
 simp only[Sigma.mk.injEq]at d
 obtain⟨rfl,f⟩:=d
 cases f
 exact h
theorem aiJ (Q:eG E) (c:Call) (U:o.op= .call c) (V:c.callee= .builtin .append)
  (I:∀(d:Nat) (x y:Operand) (T:TypeId) (ty:bt) (v:TypeId) (r:aJ) (g t:Nat) (aa:Tok),o.dst=some d->c.args.toList=[x,y]->c.argTypes.toList=[T,T]->E.ty T=some ty->ty.elem=some (v,r,g)->s.aQ x= .ay t->aH s.T t=some (.live aa)->(G:aa.t=r/\aa.tr=some [])->aa.e=v->(zT E d v r g t (G.1▸aa.xs) (s.aQ y)).R s [] [t] e aM->cX E o s e)
  (L:∀(d:Nat) (x y:Operand) (T:TypeId) (ty:bt) (v:TypeId) (r:aJ) (g t k:Nat) (aa:Tok),o.dst=some d->c.args.toList=[x,y]->c.argTypes.toList=[T,T]->E.ty T=some ty->ty.elem=some (v,r,g)->s.aQ x= .sub t 0 k->aH s.T t=some (.live aa)->aa.t=r->aa.tr=none->aa.wr=true->aa.t.ct=true->E.wr d=true->(zS E d t k aa (s.aQ y)).R s [] [t] e aM->cX E o s e)
  (h:(cK E o.op o.dst s.aQ).R s [] [] e aM):cX E o s e:=by
 rw[U]at h
 simp only[cK,V]at h
 split at h
 case h_2=>exact h.elim
 rename_i d x y T dd p M A
 split at h
 case isFalse=>exact h.elim
 rename_i qJ
 subst qJ
 split at h
 case h_2=>exact h.elim
 rename_i ty J
 have K:=Q.ty T ty J
 split at h
 case h_2=>exact h.elim
 rename_i v r g he
 split at h
 .rename_i t iT xs u
  simp only[bk.R]at h
  split at h
  case h_2=>exact h.elim
  rename_i aa f
  split at h
  case isFalse=>exact h.elim
  rename_i G
  subst G
  split at h
  case isFalse=>exact h.elim
  rename_i O
  refine Im Q c U V x y M T A ty K v iT g he d p xs [t] false aa.deep (fun R β τ F S a w P C=>?_) h
  have H:=C x;rw[u]at H
  obtain⟨g1,g2,g3⟩:=ES H
  obtain⟨cW,cO,h5⟩:=g3 aa f
  have W:=(P.bI t aa f).plain cW
  have:=UK (P.bI t aa f) h5
  rw[cW,O,W]at this
  refine⟨F t,?_,fun b X=>⟨t,aa,by simp,f,X⟩⟩
  rw[cO];exact this
 .rename_i t u
  simp only[bk.R]at h
  split at h
  case h_2=>exact h.elim
  rename_i aa f
  split at h
  case isFalse=>
   split at h
   case isFalse=>exact h.elim
   rename_i G
   split at h
   case isFalse=>exact h.elim
   rename_i O
   exact I d x y T ty v r g t aa p M A J he u f G O h
  rename_i G
  obtain⟨G,Y⟩:=G
  subst G
  split at h
  case isFalse=>exact h.elim
  rename_i O
  refine Im Q c U V x y M T A ty K v aa.t g he d p aa.xs [t] aa.wr aa.deep (fun R β τ F S a w P C=>?_) h
  have H:=C x;rw[u]at H
  obtain⟨g1,g2,g3⟩:=kn H
  have:=P.bI t aa f
  refine⟨F t,?_,fun b X=>⟨t,aa,by simp,f,X⟩⟩
  have ck:(⟨aa.t,aa.xs,v,aa.wr,aa.deep,none⟩:Tok)=aa:=by rw[<-O,<-Y]
  rw[g3 aa f,ck];exact this
 .rename_i u
  refine Im Q c U V x y M T A ty K v r g he d p [] [] (E.wr d) true (fun R β τ F S a w P C=>?_) h
  have H:=C x;rw[u]at H
  exact⟨fun _=>False,⟨fun _ h=>h.elim,.inl ⟨H,rfl⟩,fun _=>by rw[H];exact .nil _ _⟩,fun _ h=>h.elim⟩
 .rename_i t lo k u
  simp only[bk.R]at h
  split at h
  case h_2=>exact h.elim
  rename_i aa f
  split at h
  case isFalse=>exact h.elim
  rename_i Z
  obtain⟨qE,c2,c3,c4,c5,WW⟩:=Z
  subst WW
  exact L d x y T ty v r g t k aa p M A J he u f qE c2 c3 c4 c5 h
 .exact h.elim
end
section
variable {E : Env} {o : Oper} {s : aY} {e : bP} {aM : dc}
theorem cn.FP {Fr:Nat->Prop} {w:World} {S:b0} {aa:Tok} {v:Value} {F:Nat->Prop} (h:cn Fr w S aa v F) (y:aa.tr=some []):Deep w F v (.af (.ar aa.t) aa.xs):=by
 obtain⟨Y,K,f⟩:=h
 unfold hE at f
 rw[y]at f
 obtain⟨_,_,_,A⟩:=f
 rcases K with⟨g,L⟩|⟨b,cap,r,T,g,M,H,O,P,hm,Q,U,Z⟩
 .rw [g,L];exact .nil _ _
 .rcases A with A|⟨bz,I,q,J,V,W,C⟩
  .rw [A]at g;cases g
  .rw [J]at g;cases g
   rw[J]
   have key:∀(i j:Nat) (x:aa.t.D) (c:au),aa.xs[i]? =some x->(cellsOf aa.t x)[j]? =some c->∃u,r[i*aa.t.w+j]? =some u/\Deep w (q i j) u c:=fun i j x c p d=>by
    obtain⟨u,g1,g2,g3⟩:=C i j x c p d
    rw[cell_of_row w b _ r T (0,0) H]at g1
    exact⟨u,g1,g3 (jU.nil _ _)⟩
   refine .ar F cap aa.t aa.xs (fun i j=>(r[i*aa.t.w+j]?).getD undef) b q r T M H O P hm (fun i j x c p d=>?_) V W (fun i j x c p d=>?_)
   .obtain ⟨u,G,_⟩:=key i j x c p d
    rw[G];rfl
   .obtain ⟨u,G,X⟩:=key i j x c p d
    simp only[G,mW]
    exact X
def Tok.only (aa:Tok):Prop:=∀f i o d,aa.tr=some f->(i,o,d)∈f->d=gone
theorem Mem.turn {R:ec} {w w':World} {S S':b0} {box:Nat->Option cm} {tok:Nat->Option bc} {β:Nat->Nat} {τ:Nat->Value} {F:Nat->Nat->Prop} (y:Mem R box tok β τ F S w) (n:Nat) (aa p:Tok) (A:tok n=some (.live aa)) (l:List Nat) (A6:n∉l) (X:Nat->Prop) (r:Step X S S' w w') (mx:∀k,X k->F n k)
  (G:Nat->Prop) (qR:∀b,G b->F n b\/ ∃t f,t∈l/\tok t=some (.live f)/\F t b) (M:cn R.dt w' S' p (τ n) G) (W:p.t=aa.t) (bF:aa.wr=false->p.wr=false/\(⟨p.t,p.xs⟩:(t:aJ)×List t.D)=⟨aa.t,aa.xs⟩)
  (mB:∀mE i o d,p.tr=some mE->(i,o,d)∈mE->d≠gone->∃aU,aa.tr=some aU/\(i,o,d)∈aU/\∀b l cap,τ n= .slice (some ⟨b,0,none⟩) l cap->w'.cell? ⟨b,i*aa.t.w+o,none⟩=w.cell? ⟨b,i*aa.t.w+o,none⟩):
  Mem R box (updT (eS tok l) n (some (.live p))) β τ (fun t=>if t=n then G else F t) S' w'/\hq ⟨w,S,fun k=>box k≠none,β,tok,τ⟩ ⟨w',S',fun k=>box k≠none,β,updT (eS tok l) n (some (.live p)),τ⟩:=by
 have cT:=(y.bI n aa A).1
 have Y:∀k b,box k=some b->¬F n (β k):=fun k b I h=>y.fq n aa k b A I h
 have im:=y.drop (tok':=eS tok (n::l)) (fun t W=>o7 W) (fun t aa h=>(jo h).2)
 have K:=im.step r (fun k I=>(cT k (mx k I)).1) (fun k b I h=>Y k b I (mx _ h)) (fun t p W k I M=>(jo W).1 (by simp[y.eM t n p aa k (jo W).2 A I (mx k M)]))
 have cv:∀ {t f},t≠n->updT (eS tok l) n (some (bc.live p)) t=some (.live f)->t∉l/\tok t=some (.live f):=fun {t f} e h=>by
  simp only[updT,e,if_false]at h
  exact jo h
 have O:∀ {t f},updT (eS tok l) n (some (bc.live p)) t=some (.live f)->∃J,tok t=some (.live J):=fun {t f} h=>by
  by_cases e:t=n
  .exact ⟨aa,e▸A⟩
  .exact ⟨f,(cv e h).2⟩
 have used:∀ {t},tok t≠none->updT (eS tok l) n (some (bc.live p)) t≠none:=fun {t} h=>by
  by_cases e:t=n
  .subst e;simp[updT]
  .simp only [updT,e,if_false];exact o7 h
 have hle:hq ⟨w,S,fun k=>box k≠none,β,tok,τ⟩ ⟨w',S',fun k=>box k≠none,β,updT (eS tok l) n (some (.live p)),τ⟩:=fun t H=>⟨used H,fun f C=>by
  have C:updT (eS tok l) n (some (bc.live p)) t=some (.live f):=C
  by_cases e:t=n
  .subst e
   simp[updT]at C;subst C
   exact⟨aa,A,rfl,W,bF⟩
  .exact ⟨f,(cv e C).2,rfl,rfl,fun h=>⟨h,rfl⟩⟩⟩
 refine⟨⟨K.eD,K.cv,K.new,K.la,K.lt,fun k b I=>?_,y.j0,fun t f H=>?_,fun t dj f J b C U f1 f2=>?_,fun t f k b H I f1=>?_,y.lK,fun t v f cV H=>?_,fun m V aU i o d hm lT fu Z=>?_⟩,hle⟩
 .obtain ⟨C,U,qQ,il⟩:=y.boxes k b I
  obtain⟨cW,cO,h5,_⟩:=K.boxes k b I
  exact⟨cW,cO,h5,il.imp (r.eD.block _ (y.blt I) (fun h=>Y k b I (mx _ h))) fun x u bb=>⟨ff.mono (c:=⟨w,S,fun k=>box k≠none,β,tok,τ⟩) (c':=⟨w',S',fun k=>box k≠none,β,updT (eS tok l) n (some (.live p)),τ⟩) ⟨r.cv,r.cell⟩ (gn.refl rfl rfl) hle bb.1,bb.2⟩⟩
 .by_cases e:t=n
  .subst e
   simp[updT]at H;subst H
   simpa using M
  .have C:=cv e H
   have:=(y.bI t f C.2).step r (fun k I M=>e (y.eM t n f aa k C.2 A I (mx k M)))
   simpa[e]using this
 .by_cases L:t=n<;>by_cases P:dj=n
  .rw [L,P]
  .simp only [L,if_true]at f1
   simp only[P,if_false]at f2
   have U:=cv P U
   rcases qR b f1 with g|⟨t1,Q,g1,g2,g3⟩
   .exact absurd (y.eM dj n J aa b U.2 A f2 g) P
   .exact absurd (y.eM dj t1 J Q b U.2 g2 f2 g3▸g1) U.1
  .simp only [L,if_false]at f1
   simp only[P,if_true]at f2
   have C:=cv L C
   rcases qR b f2 with g|⟨t1,Q,g1,g2,g3⟩
   .exact absurd (y.eM t n f aa b C.2 A f1 g) L
   .exact absurd (y.eM t t1 f Q b C.2 g2 f1 g3▸g1) C.1
  .simp only [L,if_false]at f1
   simp only[P,if_false]at f2
   exact y.eM t dj f J b (cv L C).2 (cv P U).2 f1 f2
 .by_cases e:t=n
  .simp only [e,if_true]at f1
   rcases qR _ f1 with g|⟨t1,Q,g1,g2,g3⟩
   .exact Y k b I g
   .exact y.fq t1 Q k b g2 I g3
  .simp only [e,if_false]at f1
   exact y.fq t f k b (cv e H).2 I f1
 .obtain ⟨J,U⟩:=O H
  exact y.lp t v J cV U
 .by_cases e:m=n
  .subst e
   simp[updT]at hm;subst hm
   obtain⟨oz,g1,g2,g3⟩:=mB aU i o d lT fu Z
   obtain⟨cW,cO⟩:=y.fR m aa oz i o d A g1 g2 Z
   refine⟨used cW,fun gU bd=>?_⟩
   obtain⟨KP,nn⟩:=O bd
   obtain⟨b,l,cap,L,P⟩:=cO KP nn
   exact⟨b,l,cap,L,by rw[W];exact(g3 b l cap L).trans P⟩
  .have C:=cv e hm
   obtain⟨cW,cO⟩:=y.fR m V aU i o d C.2 lT fu Z
   refine⟨used cW,fun gU bd=>?_⟩
   obtain⟨KP,nn⟩:=O bd
   obtain⟨b,l,cap,L,P⟩:=cO KP nn
   have nj:=(y.bI m V C.2).block L
   exact⟨b,l,cap,L,(World.cell?_of_block (w:=w) (r.eD.block b ((y.bI m V C.2).1 b nj).2 (fun bb=>e (y.eM m n V aa b C.2 A nj (mx b bb))))).trans P⟩
theorem Mem.Es {R:ec} {w w':World} {S S':b0} {box:Nat->Option cm} {tok:Nat->Option bc} {β:Nat->Nat} {τ:Nat->Value} {F:Nat->Nat->Prop} (u:Mem R box tok β τ F S w) (n:Nat) (aa f:Tok) (p:tok n=some (.live aa)) (X:Nat->Prop) (g:Step X S S' w w') (v:∀k,X k->F n k)
  (r:cn R.dt w' S' f (τ n) (F n)) (x:f.t=aa.t) (y:aa.wr=false->f.wr=false/\(⟨f.t,f.xs⟩:(t:aJ)×List t.D)=⟨aa.t,aa.xs⟩) (A:f.tr=none):Mem R box (updT tok n (some (.live f))) β τ F S' w':=by
 have h:=(u.turn n aa f p [] (by simp) X g v (F n) (fun b C=>.inl C) r x y (fun G i o d h=>by rw[A]at h;cases h)).1
 have H:eS tok []=tok:=by funext t;simp[eS]
 have I:(fun t=>if t=n then F n else F t)=F:=by
  funext t
  by_cases e:t=n
  .rw [ai e,e]
  .rw [aC e]
 rw[H,I]at h
 exact h
theorem Jn {w:World} {S S':b0} {v:Value} {p:b6} (h:bs w S v p) (d:p.isLit=true):bs w S' v p:=by
 rw[o5 h d];exact bs.pX d
theorem Mem.Av {R:ec} {w:World} {S:b0} {box:Nat->Option cm} {tok:Nat->Option bc} {β:Nat->Nat} {τ:Nat->Value} {F:Nat->Nat->Prop} (U:Mem R box tok β τ F S w) (n:Nat) (aa:Tok) (G:tok n=some (.live aa)) (g:aa.whole=true):
  ∃S',Mem R box (updT tok n (some (.live aa.jz))) β τ F S' w/\(∀b o,S b o->S' b o)/\cn R.dt w S' aa.jz (τ n) (F n):=by
 have A:=U.bI n aa G
 cases hw:aa.wr with
 |false=>
  have K:=A.plain hw
  have y:aa.jz=aa:=by cases aa;simp only at hw K;simp only[Tok.jz,hw,K]
  refine⟨S,?_,fun _ _ h=>h,by rw[y];exact A⟩
  have:updT tok n (some (.live aa.jz))=tok:=by
   funext j
   by_cases h:j=n
   .subst h;simp only[updT,if_true];rw[y];exact G.symm
   .simp only [updT,h,if_false]
  rw[this];exact U
 |true=>
  have W:=A
  obtain⟨cT,A,f⟩:=A
  obtain⟨S',v⟩:∃S':b0,S'=fun b o=>S b o\/(F n b/\((∀l cap,τ n= .slice (some ⟨b,0,none⟩) l cap->o<aa.xs.length*aa.t.w)/\(aa.tr≠none\/ ∃l cap,τ n= .slice (some ⟨b,0,none⟩) l cap))):=⟨_,rfl⟩
  have H:∀b o,S b o->S' b o:=fun b o h=>by rw[v];exact .inl h
  have I:Step (fun b=>F n b) S S' w w:=⟨hF.refl _ _,fun _ _ _=>rfl,H,fun b o h=>by
   rw[v]at h
   rcases h with h|h
   .exact .inl h
   .exact .inr (.inr h.1),fun b o h=>by
   rw[v]at h
   rcases h with h|h
   .exact U.lt b o h
   .exact (cT b h.1).2⟩
  have M:cn R.dt w S' aa.jz (τ n) (F n):=by
   refine⟨cT,?_,?_⟩
   .rcases A with⟨y,O⟩|⟨b,cap,X,T,y,aG,bU,bL,bj,hm,oA,Y,bF⟩
    .exact .inl ⟨y,O⟩
    .refine .inr ⟨b,cap,X,T,y,aG,bU,bL,bj,hm,fun _ o L=>?_,(fun h=>by cases h),fun i j x p Z K=>?_⟩
     .rw [v]at L
      rcases L with L|L
      .exact absurd L (Y hw o)
      .exact L.2.1 _ _ y
     .obtain ⟨u,V,cO,_⟩:=bF i j x p Z K
      have hi:i<aa.xs.length:=(dB.1 Z).1
      have bV:j<aa.t.w:=by have:=(dB.1 K).1;rwa[et]at this
      have gr:i*aa.t.w+j<aa.xs.length*aa.t.w:=by
       have:(i+1)*aa.t.w<=aa.xs.length*aa.t.w:=ek _ hi
       rw[eE]at this;omega
      refine⟨u,V,fun _=>?_,fun _=>?_⟩
      ·
       cases d:aa.tr with
       |none=>exact(cO d).mono H (fun _ _ _=>rfl)
       |some P=>
        have J:P=[]:=by
         unfold Tok.whole at g
         rw[d]at g
         cases P with
         |nil=>rfl
         |cons _ _=>cases g
        subst J
        unfold hE at f
        rw[d]at f
        obtain⟨_,_,YP,dJ⟩:=f
        rcases dJ with dJ|⟨bz,C,q,dn,dy,bd,oy⟩
        .rw [dJ]at y;cases y
        .rw [dn]at y;cases y
         obtain⟨c,Q⟩:=uq (r:=aa.t) x bV
         obtain⟨zm,g1,g2,g3⟩:=oy i j x c Z Q
         rw[cell_of_row w b _ X T (0,0) bU]at g1
         have V:X[i*aa.t.w+j]? =some u:=V
         rw[V]at g1
         cases g1
         obtain⟨t0,kL,oV,cN,dO,iL⟩:=(g3 (jU.nil _ _)).rep (S:=S') (fun k o A=>by
          rw[v]
          refine .inr ⟨(dy i j k A).1,fun l C O=>?_,.inl (by rw[d];simp)⟩
          rw[dn]at O;cases O
          exact absurd rfl (dy i j b A).2)
         obtain⟨t1,qf,hc,pD⟩:=(lM aa.t x).get' j c p Q K
         rw[hc]at cN;cases cN
         rw[pD]at dO;cases dO
         exact iL
      .rw [v]
       exact .inr ⟨aG,fun l C O=>gr,.inr ⟨_,_,y⟩⟩
   .unfold hE
    show(aa.deep=true->Deep w (F n) (τ n) (.af (.ar aa.t) aa.xs))
    intro bd
    unfold hE at f
    cases d:aa.tr with
    |none=>rw[d]at f;exact f bd
    |some P=>
     have J:P=[]:=by
      unfold Tok.whole at g
      rw[d]at g
      cases P with
      |nil=>rfl
      |cons _ _=>cases g
     subst J
     rw[d]at f
     exact W.FP d
  exact⟨S',U.Es n aa aa.jz G _ I (fun _ h=>h) M rfl (fun h=>by rw[hw]at h;cases h) rfl,H,M⟩
theorem ame {c:Ctx} {S':b0} {n:Nat} {aa:Tok} (f:c.tok n=some (.live aa)) (g:aa.wr=false->aa.tr=none):hq c ⟨c.w,S',c.live,c.β,updT c.tok n (some (.live aa.jz)),c.τ⟩:=fun t p=>by
 by_cases e:t=n
 .subst e
  refine⟨by simp[updT],fun d h=>?_⟩
  simp[updT]at h;subst h
  exact⟨aa,f,rfl,rfl,fun h=>⟨rfl,rfl⟩⟩
 .simp only [updT,e,if_false]
  exact⟨p,fun d h=>⟨d,h,trivial,rfl,fun h=>⟨h,rfl⟩⟩⟩
theorem Deep.head {w:World} {F:Nat->Prop} {b cap:Nat} {r:aJ} {xs:List r.D} (h:Deep w F (.slice (some ⟨b,0,none⟩) xs.length cap) (.af (.ar r) xs)) (k:Nat) (P:k<=xs.length):Deep w F (.slice (some ⟨b,0,none⟩) k cap) (.af (.ar r) (xs.take k)):=by
 obtain⟨v,d⟩:∃v,v=Value.slice (some ⟨b,0,none⟩) xs.length cap:=⟨_,rfl⟩
 rw[<-d]at h
 cases h with
 |lit _ _ _ _ p he f C=>cases he;cases f
 |nil _ _=>cases d
 |ar _ A _ _ u Q q G T H I J U K hu L M O=>
  cases d
  have f:(xs.take k).length=k:=by simp;omega
  have get:∀ {i:Nat} {x:r.D},(xs.take k)[i]? =some x->xs[i]? =some x:=fun {i x} h=>by
   rw[hU]at h
   split at h
   .exact h
   .cases h
  have:=Deep.ar F cap r (xs.take k) u b q G T H I J (by omega) K (fun i j x c g y=>hu i j x c (get g) y) L M (fun i j x c g y=>O i j x c (get g) y)
  rwa[f]at this
theorem cn.head {Fr:Nat->Prop} {w:World} {S:b0} {aa:Tok} {v:Value} {F:Nat->Prop} (h:cn Fr w S aa v F) (hw:aa.wr=true) (G:aa.tr=none) (k:Nat) (g:k<=aa.xs.length) {H:Option Addr} {cap m:Nat} (d:v= .slice H aa.xs.length cap):
  cn Fr w S ⟨aa.t,aa.xs.take k,aa.e,true,aa.deep,none⟩ (.slice (h1 H cap 0 m) k (cap-0)) F:=by
 have r:=fun y=>h.oi G y
 obtain⟨I,L,_⟩:=h
 rcases L with⟨f,J⟩|⟨b,K,M,T,f,O,P,Q,bj,hm,U,A,V⟩
 .rw [f,show aa.xs.length=0 by rw[J];rfl]at d
  cases d
  have C:k=0:=by rw[J]at g;simpa using g
  subst C
  refine⟨I,.inl ⟨?_,by simp⟩,?_⟩
  .simp [h1]
  .show (aa.deep=true->Deep w F _ (.af (.ar aa.t) (aa.xs.take 0)))
   intro _
   have:(.slice (h1 none 0 0 m) 0 (0-0):Value)= .slice none 0 0:=by simp[h1]
   rw[this]
   exact .nil _ _
 .rw [f]at d
  cases d
  have W:h1 (some ⟨b,0,none⟩) cap 0 m=some ⟨b,0,none⟩:=by
   unfold h1
   split
   .rfl
   .simp [n9]
  have get:∀ {i:Nat} {x:aa.t.D},(aa.xs.take k)[i]? =some x->aa.xs[i]? =some x:=fun {i x} h=>by
   rw[hU]at h
   split at h
   .exact h
   .cases h
  rw[W,Nat.sub_zero]
  refine⟨I,.inr ⟨b,cap,M,T,by simp;omega,O,P,Q,by simp;omega,hm,(fun h=>by cases h),fun _=>A hw,fun i j x p X Y=>?_⟩,?_⟩
  .obtain ⟨u,Z,cO,_⟩:=V i j x p (get X) Y
   exact⟨u,Z,fun _=>cO G,fun h=>by cases h⟩
  .show (aa.deep=true->Deep w F _ (.af (.ar aa.t) (aa.xs.take k)))
   intro y
   have:=r y
   rw[f]at this
   exact this.head k g
theorem aiP {dst:Option Nat} {lo:Option Operand} {wr:Bool} {d:Nat} (h:I9 E dst lo wr=some d):dst=some d/\lo=none/\E.wr d=true/\wr=true:=by
 unfold I9 at h
 split at h
 .split at h
  .rename_i f
   cases h
   simp only[a6]at f
   exact⟨rfl,rfl,f.1,f.2⟩
  .cases h
 .cases h
theorem alF (cd:eG E) (T:TypeId) (x:Operand) (lo hi:Option Operand) (cC:o.op= .slice T x lo hi none) (h:(cK E o.op o.dst s.aQ).R s [] [] e aM):cX E o s e:=by
 rw[cC]at h
 simp only[cK]at h
 split at h
 case h_2=>exact h.elim
 rename_i ty hI
 have Na:=cd.ty T ty hI
 split at h
 .rename_i b bb
  split at h
  case isFalse=>exact h.elim
  rename_i aaw
  obtain⟨l,h,U⟩:=vL h
  obtain⟨q,h,W⟩:=vL h
  obtain⟨y,hy,h⟩:=h
  cases da h
  obtain⟨X,Y,Z,rfl⟩:=Ae hy
  refine gT fun c a w hw f=>?_
  have C:a.eval x= .string (bytes b):=wm (bb▸f x)
  have cG:=TQ (P:=E.P) w a false b.length b.length lo hi l q (U c a f) (W c a f) X Y Z (bE _)
  refine⟨.string ((bytes b).extract l.toNat q.toNat),?_,?_⟩
  .simp only [execOp,cC,Instr.sliceAt,Sem.run_bind,run_underlying (Na.str aaw),Result.andThen_ok,Instr.slice,C,Option.map_none,Option.isSome_none,nY,if_false,z6,cG,Sem.run_pure]
  .have:(bytes b).extract l.toNat q.toNat=bytes ((b.take q.toNat).drop l.toNat):=by
    apply Go.WideShapes.bytes_inj
    rw[ByteArray.data_extract,Array.toList_extract]
    simp only[bytes,List.extract,List.drop_take]
   rw[this];exact JC c _
 .split at h
  case h_2=>exact h.elim
  rename_i dn r ku he
  obtain⟨hu,qX,fG,z,J,hf,_⟩:=Na.elem _ _ _ he
  split at h
  .rename_i n bb
   simp only[bk.R]at h
   split at h
   case h_2=>exact h.elim
   rename_i aa u
   split at h
   case isFalse=>exact h.elim
   rename_i lQ
   obtain⟨lQ,nf⟩:=lQ
   subst lQ
   have sw:aa.whole=true:=by unfold Tok.whole;rw[nf]
   obtain⟨l,h,U⟩:=vL h
   obtain⟨q,h,W⟩:=vL h
   obtain⟨y,hy,h⟩:=h
   obtain⟨X,Y,Z,aaO⟩:=Ae hy
   split at h
   .rename_i d ZR
    obtain⟨my,G8,aaK,k7⟩:=aiP ZR
    obtain⟨bd,uP,mD,rfl⟩:=Du h
    rw[aaK]
    rintro R a w e3 ⟨β,τ,F,S,L,M,H,V⟩ K Q dP
    have f:=hZ V
    have v:=f x;rw[bb]at v
    have aQ:=(kn v).2.2 aa u
    have ZT:l=0:=by
     rcases U (s.ctx w S β τ) a f with⟨_,e⟩|⟨hD,k,e,_⟩
     .exact e
     .rw [G8]at e;cases e
    subst ZT
    have bB:=L.bI n aa u
    obtain⟨G,cap,C,g⟩:∃G cap,τ n= .slice G aa.xs.length cap/\aa.xs.length<=cap:=by
     rcases bB.2.1 with⟨O,ck⟩|⟨b,cap,bT,dd,O,_,_,_,M,_⟩
     .exact ⟨none,0,by rw[O,ck];rfl,by rw[ck];exact bE _⟩
     .exact ⟨_,cap,O,M⟩
    have p:=DZ (E:=E) T x lo hi cC dn fG hu J a w G aa.xs.length cap (aQ.trans C) 0 q (U (s.ctx w S β τ) a f) (W (s.ctx w S β τ) a f) X Y Z g
    have iM:=bB.head k7 nf q.toNat (by omega) (m:=fG.size) C
    have im:=L.drop (tok':=eS (aH s.T) [n]) (fun t az=>o7 az) (fun t aa h=>(jo h).2)
    have Y4:cn R.dt w S ⟨aa.t,y,aa.e,true,aa.deep,none⟩ (.slice (h1 G cap (0:Int).toNat fG.size) (q.toNat-(0:Int).toNat) (cap-(0:Int).toNat)) (F n):=by
     rw[aaO];exact iM
    exact jO p (dP _ _ (rC (s:=s) [n] im M H V (fun _ _ _ _ _=>⟨fun _ _ h=>h,fun _ _ _=>rfl⟩) d bd (e3.gw mD) ⟨aa.t,y,aa.e,true,aa.deep,none⟩ _ (F n) Y4 rfl
     (fun t I b k6 az av cT=>k6 (by simp[L.eM t n I aa b az u cT av])) (fun k b bB av=>L.fq n aa k b u bB av) o.dst (fun fu=>by simp only[du]at fu;rw[fu,u]at bd;cases bd) _ rfl))
   cases hle:yw E o.dst with
   |true=>
    rw[hle]at h
    cases da h
    rintro R a w e3 ⟨β,τ,F,S,L,M,H,V⟩ K Q dP
    have f:=hZ V
    have v:=f x;rw[bb]at v
    have aQ:=(kn v).2.2 aa u
    have bB:=L.bI n aa u
    obtain⟨G,cap,C,g⟩:∃G cap,τ n= .slice G aa.xs.length cap/\aa.xs.length<=cap:=by
     rcases bB.2.1 with⟨O,ck⟩|⟨b,cap,bT,dd,O,_,_,_,M,_⟩
     .exact ⟨none,0,by rw[O,ck];rfl,by rw[ck];exact bE _⟩
     .exact ⟨_,cap,O,M⟩
    have p:=DZ (E:=E) T x lo hi cC dn fG hu J a w G aa.xs.length cap (aQ.trans C) l q (U (s.ctx w S β τ) a f) (W (s.ctx w S β τ) a f) X Y Z g
    rw[hf]at p
    refine jO p (dP _ _ (ki (e:=⟨.sub n l.toNat q.toNat,[],[]⟩) L M H V o.dst (.inr ?_)))
    exact⟨rfl,by show aH s.T n≠none;rw[u];simp,fun I aaz=>by
     have O:I=aa:=by
      have:some (bc.live I)=some (.live aa):=aaz.symm.trans u
      cases this;rfl
     subst O
     exact⟨G,I.xs.length,cap,C,by omega,by omega,g,rfl⟩⟩
   |false=>
   rw[hle]at h
   obtain⟨rfl,_⟩:=h
   rintro R a w e3 ⟨β,τ,F,S,L,M,H,V⟩ K Q dP
   have f:=hZ V
   have v:=f x;rw[bb]at v
   have aQ:=(kn v).2.2 aa u
   obtain⟨S',je,ox,iM⟩:=L.Av n aa u sw
   have A:bs w S' (τ n) (.ar (aa.xs.map (enc aa.t))):=iM.rep rfl
   obtain⟨G,cap,b,oZ,m,C,g,_⟩:=A.opened
   simp only[dE]at C g
   have Zq:a.eval x= .slice G aa.xs.length cap:=aQ.trans C
   have p:=DZ (E:=E) T x lo hi cC dn fG hu J a w G aa.xs.length cap Zq l q (U (s.ctx w S β τ) a f) (W (s.ctx w S β τ) a f) X Y Z g
   rw[hf]at p
   refine jO p (dP _ _ (ki (e:=⟨.af (.ar aa.t) y,[],[(n,some (.live aa.jz))]⟩) je M H ?_ o.dst (.inr ⟨_,rfl,?_⟩)))
   .exact mK (c:=s.ctx w S β τ) (c':=⟨w,S',fun k=>aZ s.B k≠none,β,updT (aH s.T) n (some (.live aa.jz)),τ⟩) ⟨ox,fun _ _ _=>rfl⟩ (gn.refl rfl rfl) (ame u (fun _=>nf)) V
   .exact L9 (by rw[<-C];exact A) l q hy
  .split at h
   case h_2=>exact h.elim
   rename_i xs pI
   obtain⟨l,h,U⟩:=vL h
   obtain⟨q,h,W⟩:=vL h
   obtain⟨y,hy,h⟩:=h
   cases da h
   obtain⟨X,Y,Z,_⟩:=Ae hy
   refine gT fun c a w hw f=>?_
   have A:=zV pI (f x)
   obtain⟨G,cap,b,oZ,m,C,g,_⟩:=A.opened
   rw[dE]at C g
   have p:=DZ (E:=E) T x lo hi cC dn fG hu J a w G xs.length cap C l q (U c a f) (W c a f) X Y Z g
   rw[hf]at p
   exact⟨_,p,_,rfl,L9 (by rw[<-C];exact A) l q hy⟩
theorem T9 {c:Ctx} {w':World} {S':b0} {n:Nat} {aa d:Tok} (f:c.tok n=some (.live aa)) (p:d.t=aa.t) (r:aa.wr=false->d.wr=false/\(⟨d.t,d.xs⟩:(t:aJ)×List t.D)=⟨aa.t,aa.xs⟩):hq c ⟨w',S',c.live,c.β,updT c.tok n (some (.live d)),c.τ⟩:=fun t g=>by
 by_cases e:t=n
 .subst e
  refine⟨by simp[updT],fun u h=>?_⟩
  simp[updT]at h;subst h
  exact⟨aa,f,rfl,p,r⟩
 .simp only [updT,e,if_false]
  exact⟨g,fun d h=>⟨d,h,trivial,rfl,fun h=>⟨h,rfl⟩⟩⟩
theorem Dq {c:Ctx}:∀(t:aJ) (cs:List au) (y:t.D) (d:List Value),hN t cs=some y->bx (ed c) cs d->bx (fun v p=>bs c.w c.S v p) d (enc t y):=by
 have leaf:∀(t:aJ) (cs:List au) (y:t.D) (d:List Value),one t cs=some y->bx (ed c) cs d->bx (fun v p=>bs c.w c.S v p) d (enc t y):=fun t cs y d h g=>by
  match cs,d,h,g with
  | [a],[v],h,g=>
   obtain⟨p,e,O⟩:=nc (c:=c) (show a.as t=some y from h) (hb g.1.1)
   rw[e];exact⟨O,True.intro⟩
 intro t
 induction t with
 |bool=>exact leaf .bool
 |int k=>exact leaf (.int k)
 |str=>exact leaf .str
 |ar r _=>exact leaf (.ar r)
 |opt r _=>exact leaf (.opt r)
 |unit=>
  intro cs y d h g
  match cs,d,h,g with
  | [],[],_,_=>exact True.intro
 |pair a b A C=>
  intro cs y d h g
  simp only[hN]at h
  split at h
  .rename_i Z ia P Q
   cases h
   have u:=A _ _ _ P (g.take a.w)
   have x:=C _ _ _ Q (g.drop a.w)
   have:=u.append x
   rwa[ko]at this
  .cases h
 |q=>
  intro cs y d h g
  simp only[hN]at h
  match cs,d,h,g with
  | [k,f,ws,a,b,kids],[v1,v2,v3,v4,v5,v6],h,g=>
   simp only[Dp]at h
   split at h
   .rename_i aL as3 U bM bz G g1 g2 g3 g4 g5 g6
    cases h
    obtain⟨i1,i2,i3,i4,i5,i6,_⟩:=g
    obtain⟨lk,u,V⟩:=nc (c:=c) g1 (hb i1.1)
    obtain⟨mM,x,W⟩:=nc (c:=c) g2 (hb i2.1)
    obtain⟨tg,H,I⟩:=nc (c:=c) g3 (hb i3.1)
    obtain⟨th,J,X⟩:=nc (c:=c) g4 (hb i4.1)
    obtain⟨J2,K,Y⟩:=nc (c:=c) g5 (hb i5.1)
    obtain⟨atz,L,M⟩:=nc (c:=c) g6 (hb i6.1)
    simp only[enc,List.cons.injEq,and_true]at u x H J K L
    refine⟨u▸V,x▸W,?_,J▸X,K▸Y,?_,True.intro⟩
    .rw [<-H]at I;exact I
    .rw [F4];rw[<-L]at M;exact M
   .cases h
theorem al8 (cd:eG E) (T:TypeId) (x y:Operand) (cC:o.op= .store T x y) (ty:bt) (hI:E.ty T=some ty) (n i q:Nat) (r:s.aQ x= .fx n i q) (ys:List au) (hy:(s.aQ y).cells? =some ys) (bj:ys.length=ty.size) (aa:Tok) (Z:aH s.T n=some (.live aa)) (I:aa.wr=true) (nf:aa.tr=none) (Zu:aa.t.ct=true\/aa.deep=false) (xw:q+ty.size<=aa.t.w)
  (cv:aa.t.D) (hold:aa.xs[i]? =some cv) (Y:aa.t.D) (qY:hN aa.t ((cellsOf aa.t cv).take q++ys++(cellsOf aa.t cv).drop (q+ty.size))=some Y) (my:o.dst=none):
  cX E o s ⟨.bR [],[],[(n,some (.live {aa with xs:=aa.xs.set i Y}))]⟩:=by
 rintro R a w e3 ⟨β,τ,F,S,dI,hf,gA,aU⟩ K Q dP
 have fQ:=hZ aU
 have h:=fQ x
 rw[r]at h
 obtain⟨f,l,iG,aQ,uR,C⟩:=(qd h).2.2 aa Z
 rw[show(s.ctx w S β τ).τ n=τ n from rfl]at aQ
 have bF:=ur hy (fQ y)
 obtain⟨cT,bB,Nl⟩:=dI.bI n aa Z
 rcases bB with⟨cB,ck⟩|⟨a8,px,J,dd,cB,hx,bU,bL,nq,hm,oA,hw,AU⟩
 .rw [ck]at hold;simp at hold
 rw[cB]at aQ;cases aQ
 obtain⟨wc,z,hi,G6,_⟩:=(cd.ty T ty hI).info
 have bK:=bF.len
 have NI:i<aa.xs.length:=(dB.1 hold).1
 obtain⟨yY,L,aar⟩:=Kv (c:=s.ctx w S β τ) (b:=f) (q:=i*aa.t.w) cv (fun j p C=>by
  obtain⟨u,M,cO,_⟩:=AU i j cv p hold C
  exact⟨u,by show w.cell? _=_;rw[cell_of_row w f _ J dd (0,0) bU];exact M,cO nf⟩)
 have O:=L.len
 rw[lN]at O
 have hlen:=(Dq (c:=s.ctx w S β τ) aa.t _ Y _ qY (((L.take q).append bF).append (L.drop (q+ty.size))))
 have U:=hlen.len
 rw[et]at U
 have G:(a.eval y).cells.toList.length=ty.size:=by rw[<-bK,bj]
 simp only[bh,bN,eF,G]at U
 have Ze:i*aa.t.w+aa.t.w<=aa.xs.length*aa.t.w:=by
  have:(i+1)*aa.t.w<=aa.xs.length*aa.t.w:=ek _ NI
  rwa[eE,Nat.one_mul]at this
 have aaN:aa.xs.length*aa.t.w<=J.size:=by rw[bL];exact ek _ nq
 have su:∀v∈(a.eval y).cells.toList,v.oneCell'=true:=fun v cV=>by
  obtain⟨j,bV,rfl⟩:=eb.1 cV
  exact(bF.get' j (ys[j]'(by omega)) _ (by simp) (by simp)).2
 have xy:=run_storeCells_at E.P f (i*aa.t.w+q) dd (a.eval y).cells.toList 0 J w bU (by omega) su
 obtain⟨d,ns⟩:∃d:Array Value,d=(J.toList.take (i*aa.t.w+q)++(a.eval y).cells.toList++J.toList.drop (i*aa.t.w+q+(a.eval y).cells.toList.length)).toArray:=⟨_,rfl⟩
 have cG:(execOp a.eval o).run E.P w= .ok .skip (w.setRow f d):=by
  have nu:(a.eval y).cells.size=wc.size:=by rw[G6,<-bj,bK];simp
  simp only[lC]at xy
  simp only[execOp,cC,Instr.storeAt,C,Instr.sureAddr,storeVar,sizeOf,typeInfo,hi,Sem.run_bind,Sem.run_pure,Result.andThen_ok,run_program]
  simp[hi,nu,xy,ns]
 have nt:d.toList=J.toList.take (i*aa.t.w+q)++(a.eval y).cells.toList++J.toList.drop (i*aa.t.w+q+(a.eval y).cells.toList.length):=by rw[ns]
 have mA:∀k,d[k]? =if i*aa.t.w+q<=k/\k<i*aa.t.w+q+ty.size then(a.eval y).cells.toList[k-(i*aa.t.w+q)]? else J[k]? :=fun k=>by
  rw[<-jQ,nt,tx _ _ _ (by rw[G,lz];omega),G]
  simp
 have V:d.size=J.size:=by
  rw[<-lz,nt]
  simp only[bh,bN,eF,G,lz]
  omega
 have A:∀k,k≠f->(w.setRow f d).heap[k]? =w.heap[k]? :=fun k bB=>setRow_other w f k _ bB
 have kC:(w.setRow f d).heap.size=w.heap.size:=by simp[World.setRow]
 have g:∀b o,S b o->(w.setRow f d).cell? ⟨b,o,none⟩=w.cell? ⟨b,o,none⟩:=fun b o av=>World.cell?_of_block (w:=w) (A b (fun e=>hw I o (e▸av)))
 have pG:Step (fun k=>k=f) S S w (w.setRow f d):=⟨⟨rfl,rfl,rfl,by rw[kC];exact bE _,fun k _ bB=>A k bB⟩,g,fun _ _ h=>h,fun _ _ h=>.inl h,fun b o h=>by rw[kC];exact dI.lt b o h⟩
 have W:(w.setRow f d).heap[f]? =some (.cells d dd (0,0)):=setRow_heap w f J _ dd (0,0) bU
 have X:∀(i2 j:Nat) (x:aa.t.D) (p:b6),(aa.xs.set i Y)[i2]? =some x->(enc aa.t x)[j]? =some p->∃u,d[i2*aa.t.w+j]? =some u/\bs (w.setRow f d) S u p:=fun i2 j x p r C=>by
  have bV:j<aa.t.w:=by have:=(dB.1 C).1;rwa[et]at this
  by_cases e:i2=i
  .subst e
   rw[List.getElem?_set_self NI]at r
   cases r
   have np:j<((yY.take q)++(a.eval y).cells.toList++yY.drop (q+ty.size)).length:=by rw[hlen.len];exact(dB.1 C).1
   have aan:=hlen.get' j _ p (bG np) C
   have NZ:=tx yY (a.eval y).cells.toList q (by rw[<-O,G];exact xw) j
   rw[G]at NZ
   refine⟨_,?_,aan.mono (fun _ _ h=>h) g⟩
   rw[mA,<-bG np,NZ]
   by_cases qV:q<=j/\j<q+ty.size
   .rw [ai ⟨by omega,by omega⟩,ai qV]
    congr 1;omega
   .rw [aC (by omega),aC qV]
    have NL:j<yY.length:=by rw[<-O];exact bV
    have dO:=aar j yY[j] (bG NL)
    rw[show(s.ctx w S β τ).w=w from rfl,cell_of_row w f _ J dd (0,0) bU]at dO
    rw[dO,bG NL]
  .rw [List.getElem?_set_ne (Ne.symm e)]at r
   obtain⟨u,M,cO,_⟩:=AU i2 j x p r C
   refine⟨u,?_,(cO nf).mono (fun _ _ h=>h) g⟩
   rw[mA,aC ?_]
   .exact M
   .rintro ⟨g1,g2⟩
    rcases Nat.lt_or_gt_of_ne e with gr|gr
    .have:(i2+1)*aa.t.w<=i*aa.t.w:=ek _ gr
     rw[eE]at this;omega
    .have:(i+1)*aa.t.w<=i2*aa.t.w:=ek _ gr
     rw[eE]at this;omega
 have je:=dI.Es n aa {aa with xs:=aa.xs.set i Y} Z (fun k=>k=f) pG (fun k bB=>bB▸hx) ⟨fun b av=>by rw[kC];exact cT b av,.inr ⟨f,iG,d,dd,?_,hx,W,by rw[V];exact bL,by simpa using nq,hm,(fun h=>by simp only at h;rw[I]at h;cases h),fun h=>hw h,fun i2 j x p r C=>?_⟩,?_⟩ rfl (fun h=>by rw[I]at h;cases h) nf
 .refine K5 cG (dP _ _ (ki (e:=⟨.bR [],[],[(n,some (.live {aa with xs:=aa.xs.set i Y}))]⟩) je hf gA ?_ o.dst (.inl my)))
  exact mK (c:=s.ctx w S β τ) (c':=⟨w.setRow f d,S,fun k=>aZ s.B k≠none,β,updT (aH s.T) n (some (.live {aa with xs:=aa.xs.set i Y})),τ⟩) ⟨fun _ _ h=>h,g⟩ (gn.refl rfl rfl) (T9 Z rfl (fun h=>by rw[I]at h;cases h)) aU
 .rw [cB];simp
 .obtain ⟨u,M,cO⟩:=X i2 j x p r C
  exact⟨u,M,fun _=>cO,fun h=>by simp only at h;rw[I]at h;cases h⟩
 ·
  unfold hE
  simp only[nf]
  intro Nn
  have mz:aa.t.ct=true:=Zu.resolve_right (fun h=>by rw[h]at Nn;cases Nn)
  rw[cB,show aa.xs.length=(aa.xs.set i Y).length from by simp]
  have hu:∀(i2 j:Nat) (x:aa.t.D) (c:au),(aa.xs.set i Y)[i2]? =some x->(cellsOf aa.t x)[j]? =some c->∃u,d[i2*aa.t.w+j]? =some u/\∀p,(enc aa.t x)[j]? =some p->bs (w.setRow f d) S u p:=fun i2 j x c r H=>by
   obtain⟨p,C⟩:∃p,(enc aa.t x)[j]? =some p:=⟨_,bG (by rw[et];exact mq H)⟩
   obtain⟨u,M,cO⟩:=X i2 j x p r C
   exact⟨u,M,fun DH NT=>by rw[C]at NT;cases NT;exact cO⟩
  refine .ar _ iG aa.t (aa.xs.set i Y) (fun i2 j=>(d[i2*aa.t.w+j]?).getD undef) f (fun _ _ _=>False) d dd hx W (by rw[V];exact bL) (by simpa using nq) hm (fun i2 j x c r H=>?_) (fun _ _ _ h=>h.elim) (fun _ _ _ _ _ h=>h.elim) (fun i2 j x c r H=>?_)
  .obtain ⟨u,M,_⟩:=hu i2 j x c r H
   rw[M];rfl
  .obtain ⟨u,M,cO⟩:=hu i2 j x c r H
   simp only[M,mW]
   exact .leaf mz H cO
theorem ai2 (H:eG E) (T:TypeId) (x y:Operand) (v:o.op= .store T x y) (f:∀ty n i q aa I ys,E.ty T=some ty->s.aQ x= .fx n i q->aH s.T n=some (.live aa)->aa.tr=some I->(s.aQ y).cells? =some ys->ys.length=ty.size->o.dst=none->(Ez n i q ty.size ys aa I).R s [] [n] e aM->cX E o s e) (h:(cK E o.op o.dst s.aQ).R s [] [] e aM):cX E o s e:=by
 rw[v]at h
 simp only[cK]at h
 split at h
 case h_2=>exact h.elim
 rename_i ty ys g hy d
 split at h
 case isFalse=>exact h.elim
 rename_i A
 split at h
 .rename_i k q u
  split at h
  case isTrue=>exact h.elim
  rename_i C
  simp only[bk.R]at h
  split at h
  case h_2=>exact h.elim
  rename_i cs J
  split at h
  case isFalse=>exact h.elim
  rename_i K
  obtain⟨rfl,_⟩:=h
  exact arj H T x y v ty g k q (by simpa using C) u cs ys J hy A K d
 .rename_i n i q u
  simp only[bk.R]at h
  split at h
  case h_2=>exact h.elim
  rename_i aa p
  split at h
  case h_2=>exact f ty n i q aa _ ys g u p ‹_› hy A d h
  rename_i G
  split at h
  case isFalse=>exact h.elim
  rename_i hw
  obtain⟨cv,hold,h⟩:=h
  simp only at h
  split at h
  case h_2=>exact h.elim
  rename_i L r
  obtain⟨rfl,_⟩:=h
  exact al8 H T x y v ty g n i q u ys hy A aa p hw.1 G hw.2.1 hw.2.2 cv hold L r d
 .exact h.elim
end
section
variable {E : Env} {o : Oper} {s : aY} {e : bP} {aM : dc}
theorem J4 {c:Ctx} {a:Act} (d:∀y,bp c (s.aQ y) (a.eval y)) (m:Nat):∀(parts:List (Nat×Operand)) (i:Nat) (cs:List au),rv m i (parts.map fun q=>(q.1,s.aQ q.2))=some cs->
  (parts.map fun q=>(q.1,a.eval q.2))=((parts.map fun q=>a.eval q.2).zipIdx i).map (fun x=>(x.2,x.1))/\(∀v,v∈parts.map (fun q=>a.eval q.2)->v.cells.size=m)/\bx (ed c) cs ((parts.map fun q=>(a.eval q.2).cells.toList).flatten)/\cs.length=parts.length*m
 | [],i,cs,h=>by simp[rv]at h;subst h;exact⟨rfl,fun v h=>by simp at h,True.intro,by simp⟩
 |(j,x)::parts,i,cs,h=>by
  simp only[cw,rv]at h
  split at h
  case isFalse=>cases h
  case isTrue e=>
  subst e
  cases f:(s.aQ x).cells? with
  |none=>simp[f]at h
  |some ds=>
   cases p:rv m (i+1) (parts.map fun q=>(q.1,s.aQ q.2))with
   |none=>simp[f,p]at h
   |some es=>
    simp only[f,p]at h
    split at h
    case isFalse=>cases h
    case isTrue u=>
    simp at h
    subst h
    obtain⟨C,G,H,I⟩:=J4 d m parts (i+1) es p
    have A:=ur f (d x)
    have r:=A.len
    refine⟨by simp[C],fun v g=>?_,?_,?_⟩
    .simp only [cw,bn]at g
     rcases g with rfl|g
     .rw [<-u,r];simp
     .exact G v g
    .simp only [cw,List.flatten_cons];exact A.append H
    .simp only [bh,ba,I,u,eE];omega
def tT (x:au) (p:b6):Prop:=∃t y,x.as t=some y/\enc t y=[p]
theorem Jz :∀(t:aJ) (cs:List au) (y:t.D),hN t cs=some y->bx tT cs (enc t y):=by
 have leaf:∀(t:aJ),(∀y:t.D,∃p,enc t y=[p])->∀(cs:List au) (y:t.D),one t cs=some y->bx tT cs (enc t y):=fun t x cs y h=>by
  match cs,h with
  | [a],h=>
   obtain⟨p,v⟩:=x y
   rw[v];exact⟨⟨t,y,h,v⟩,True.intro⟩
 intro t
 induction t with
 |bool=>exact leaf .bool (fun y=>⟨_,rfl⟩)
 |int k=>exact leaf (.int k) (fun y=>⟨_,rfl⟩)
 |str=>exact leaf .str (fun y=>⟨_,rfl⟩)
 |ar r _=>exact leaf (.ar r) (fun y=>⟨_,rfl⟩)
 |opt r _=>exact leaf (.opt r) (fun y=>⟨_,rfl⟩)
 |unit=>
  intro cs y h
  match cs,h with
  | [],_=>exact True.intro
 |pair a b d g=>
  intro cs y h
  simp only[hN]at h
  split at h
  .rename_i H I A C
   cases h
   have:=(d _ _ A).append (g _ _ C)
   rwa[ko]at this
  .cases h
 |q=>
  intro cs y h
  simp only[hN]at h
  match cs,h with
  | [k,f,ws,a,b,kids],h=>
   simp only[Dp]at h
   split at h
   .rename_i aL J G bM K u g1 g2 g3 g4 g5 g6
    cases h
    exact⟨⟨_,_,g1,rfl⟩,⟨_,_,g2,rfl⟩,⟨_,_,g3,rfl⟩,⟨_,_,g4,rfl⟩,⟨_,_,g5,rfl⟩,⟨_,_,g6,by simp only[enc,F4]⟩,True.intro⟩
   .cases h
theorem Qn (r:aJ):∀(n:Nat) (cs:List au) (xs:List r.D),rm r n cs=some xs->xs.length=n/\∀i x,xs[i]? =some x->bx tT ((cs.drop (i*r.w)).take r.w) (enc r x)
 |0,cs,xs,h=>by cases h;exact⟨rfl,fun i x h=>by simp at h⟩
 |n+1,cs,xs,h=>by
  simp only[rm]at h
  split at h
  .rename_i x ys d f
   cases h
   obtain⟨g,p⟩:=Qn r n _ _ f
   refine⟨by simp[g],fun i y hy=>?_⟩
   cases i with
   |zero=>simp at hy;subst hy;simpa using Jz r _ _ d
   |succ i=>
    have:=p i y (by simpa using hy)
    rw[qm]at this
    rw[eE,Nat.one_mul,Nat.add_comm];exact this
  .cases h
def pj (x c:au):Prop:=∃t y,x.as t=some y/\c= .af t y
theorem JA :∀(t:aJ) (cs:List au) (y:t.D),hN t cs=some y->bx pj cs (cellsOf t y):=by
 have leaf:∀(t:aJ),(∀y:t.D,cellsOf t y=[.af t y])->∀(cs:List au) (y:t.D),one t cs=some y->bx pj cs (cellsOf t y):=fun t u cs y h=>by
  match cs,h with
  | [a],h=>
   rw[u y];exact⟨⟨t,y,h,rfl⟩,True.intro⟩
 intro t
 induction t with
 |bool=>exact leaf .bool (fun y=>rfl)
 |int k=>exact leaf (.int k) (fun y=>rfl)
 |str=>exact leaf .str (fun y=>rfl)
 |ar r _=>exact leaf (.ar r) (fun y=>rfl)
 |opt r _=>exact leaf (.opt r) (fun y=>rfl)
 |unit=>
  intro cs y h
  match cs,h with
  | [],_=>exact True.intro
 |pair a b d g=>
  intro cs y h
  simp only[hN]at h
  split at h
  .rename_i C G v x
   cases h
   have:=(d _ _ v).append (g _ _ x)
   rwa[ko]at this
  .cases h
 |q=>
  intro cs y h
  simp only[hN]at h
  match cs,h with
  | [k,f,ws,a,b,kids],h=>
   simp only[Dp]at h
   split at h
   .rename_i aL H A bM I p g1 g2 g3 g4 g5 g6
    cases h
    exact⟨⟨_,_,g1,rfl⟩,⟨_,_,g2,rfl⟩,⟨_,_,g3,rfl⟩,⟨_,_,g4,rfl⟩,⟨_,_,g5,rfl⟩,⟨_,_,g6,rfl⟩,True.intro⟩
   .cases h
theorem JB (r:aJ):∀(n:Nat) (cs:List au) (xs:List r.D),rm r n cs=some xs->xs.length=n/\∀i x,xs[i]? =some x->bx pj ((cs.drop (i*r.w)).take r.w) (cellsOf r x)
 |0,cs,xs,h=>by cases h;exact⟨rfl,fun i x h=>by simp at h⟩
 |n+1,cs,xs,h=>by
  simp only[rm]at h
  split at h
  .rename_i x ys d f
   cases h
   obtain⟨g,p⟩:=JB r n _ _ f
   refine⟨by simp[g],fun i y hy=>?_⟩
   cases i with
   |zero=>simp at hy;subst hy;simpa using JA r _ _ d
   |succ i=>
    have:=p i y (by simpa using hy)
    rw[qm]at this
    rw[eE,Nat.one_mul,Nat.add_comm];exact this
  .cases h
theorem Ly {c:Ctx} {x:au} {v:Value} {p:b6} (f:tT x p) (h:ff c x v):bs c.w c.S v p:=by
 obtain⟨t,y,g,r⟩:=f
 obtain⟨A,d,u⟩:=nc g (hb h)
 rw[r]at d;cases d;exact u
def QD (s:aY) (cs:List au) (l:List Nat) (deep:Bool):Prop:=
 (∀t,t∈l↔∃r xs,au.own t r xs∈cs)/\
 (deep=true->(∀x,x∈cs->(∃t y,x= .af t y/\t.ct=true)\/x= .aT\/ ∃t r xs aa,x= .own t r xs/\aH s.T t=some (.live aa)/\aa.deep=true)/\∀(k aL:Nat) t r f xs d,cs[k]? =some (.own t r xs)->cs[aL]? =some (.own t f d)->k=aL)
theorem Is :∀(cs:List au) (f:List (Nat×Option bc)->Bool->bk) (aE rt:List Nat),(qP cs f).R s aE rt e aM->∃l p d,QD s cs l p/\(f (l.map fun t=>(t,some bc.ej)) p).R s aE d e aM
 | [],f,aE,rt,h=>⟨[],true,rt,⟨fun t=>by simp,fun _=>⟨fun x bb=>by simp at bb,fun k aL t r H xs u h=>by simp at h⟩⟩,h⟩
 |x::cs,f,aE,rt,h=>by
  have other:∀(g:List (Nat×Option bc)->Bool->bk) (M:Bool),(∀t r xs,x≠ .own t r xs)->(M=true->(∃t y,x= .af t y/\t.ct=true)\/x= .aT)->(qP cs g).R s aE rt e aM->(∀es p,g es p=f es (M&&p))->∃l p d,QD s (x::cs) l p/\(f (l.map fun t=>(t,some bc.ej)) p).R s aE d e aM:=fun g M v U bU V=>by
   obtain⟨l,p,d,⟨g2,g3⟩,O⟩:=Is cs g aE rt bU
   rw[V]at O
   refine⟨l,M&&p,d,⟨fun t=>?_,fun I=>?_⟩,O⟩
   .rw [g2 t]
    constructor
    .rintro ⟨r,xs,h⟩;exact⟨r,xs,ch _ h⟩
    .rintro ⟨r,xs,h⟩
     rcases bn.1 h with h|h
     .exact absurd h.symm (v t r xs)
     .exact ⟨r,xs,h⟩
   .simp only [a6]at I
    refine⟨fun y hy=>?_,fun k aL t r H xs u C G=>?_⟩
    .rcases bn.1 hy with rfl|hy
     .exact (U I.1).imp id .inl
     .exact (g3 I.2).1 y hy
    .cases k with
     |zero=>simp at C;exact absurd C (v t r xs)
     |succ k=>cases aL with
      |zero=>simp at G;exact absurd G (v t H u)
      |succ aL=>rw[(g3 I.2).2 k aL t r H xs u (by simpa using C) (by simpa using G)]
  cases x with
  |own t r xs=>
   simp only[qP,bk.R]at h
   obtain⟨l,p,d,⟨g2,g3⟩,O⟩:=Is cs _ aE _ h
   refine⟨t::l,_,d,⟨fun P=>?_,fun I=>?_⟩,O⟩
   .constructor
    .intro hy
     rcases bn.1 hy with rfl|hy
     .exact ⟨r,xs,cb⟩
     .obtain ⟨H,u,J⟩:=(g2 P).1 hy;exact⟨H,u,ch _ J⟩
    .rintro ⟨H,u,J⟩
     rcases bn.1 J with J|J
     .cases J;exact cb
     .exact ch _ ((g2 P).2 ⟨H,u,J⟩)
   .simp only [a6]at I
    obtain⟨⟨A,K⟩,W⟩:=I
    have L:t∉l:=fun X=>by
     have:=cz.1 W (t,some .ej) (cg.2 ⟨t,X,rfl⟩)
     simp at this
    refine⟨fun y hy=>?_,fun k aL P o1 ll Y Z C G=>?_⟩
    .rcases bn.1 hy with rfl|hy
     .cases Q:aH s.T t with
      |none=>rw[Q]at A;cases A
      |some z=>cases z with
       |ej=>rw[Q]at A;cases A
       |live aa=>rw[Q]at A;exact .inr (.inr ⟨t,r,xs,aa,rfl,Q,A⟩)
     .exact (g3 K).1 y hy
    .have v:∀(k:Nat) r xs,cs[k]? =some (.own t r xs)->False:=fun k r xs bB=>L ((g2 t).2 ⟨r,xs,fY bB⟩)
     cases k with
     |zero=>
      simp at C
      cases aL with
      |zero=>rfl
      |succ aL=>simp at G;rw[<-C.1]at G;exact(v aL _ _ G).elim
     |succ k=>cases aL with
      |zero=>simp at G C;rw[<-G.1]at C;exact(v k _ _ C).elim
      |succ aL=>rw[(g3 K).2 k aL P o1 ll Y Z (by simpa using C) (by simpa using G)]
  |af t y=>exact other _ t.ct (fun _ _ _ h=>by cases h) (fun dy=>.inl ⟨t,y,rfl,dy⟩) h (fun es p=>rfl)
  |aT=>exact other _ true (fun _ _ _ h=>by cases h) (fun _=>.inr rfl) h (fun es p=>by simp)
  |dead=>exact other _ false (fun _ _ _ h=>by cases h) (fun h=>by cases h) h (fun es p=>by simp)
  |eQ=>exact other _ false (fun _ _ _ h=>by cases h) (fun h=>by cases h) h (fun es p=>by simp)
  |agg _=>exact other _ false (fun _ _ _ h=>by cases h) (fun h=>by cases h) h (fun es p=>by simp)
  |bR _=>exact other _ false (fun _ _ _ h=>by cases h) (fun h=>by cases h) h (fun es p=>by simp)
  |box _ _=>exact other _ false (fun _ _ _ h=>by cases h) (fun h=>by cases h) h (fun es p=>by simp)
  |ptr _ _ _=>exact other _ false (fun _ _ _ h=>by cases h) (fun h=>by cases h) h (fun es p=>by simp)
  |ay _=>exact other _ false (fun _ _ _ h=>by cases h) (fun h=>by cases h) h (fun es p=>by simp)
  |fx _ _ _=>exact other _ false (fun _ _ _ h=>by cases h) (fun h=>by cases h) h (fun es p=>by simp)
  |jd _=>exact other _ false (fun _ _ _ h=>by cases h) (fun h=>by cases h) h (fun es p=>by simp)
  |sub _ _ _=>exact other _ false (fun _ _ _ h=>by cases h) (fun h=>by cases h) h (fun es p=>by simp)
  |aV _ _=>exact other _ false (fun _ _ _ h=>by cases h) (fun h=>by cases h) h (fun es p=>by simp)
theorem TS {P:Program} (w:World) (T e:TypeId) (parts:List (Nat×Value)) (len m:Nat) (g:TypeInfo) (z:Value) (hu:P.underlying T=some (.slice e)) (p:P.info? e=some g) (W:g.zero=some z) (d:g.size=m) (X:z.cells.size=m) (hm:0<m) (C:len*m<=16777216)
  (vals:List Value) (M:parts=(vals.zipIdx 0).map (fun x=>(x.2,x.1))) (hlen:vals.length=len) (G:∀v,v∈vals->v.cells.size=m):
  (Instr.buildSlice T len parts.toArray).run P w= .ok (.slice (some ⟨w.heap.size,0,none⟩) len len) (w.alloc (.cells (vals.map fun v=>v.cells.toList).flatten.toArray e)):=by
 by_cases O:len=0
 .subst O
  have:vals=[]:=zt hlen
  subst this
  subst M
  simp[Instr.buildSlice,run_underlying hu,sizeOf,typeInfo,p,Instr.fill,newRow]
  rw[show Array.map (fun _=>default) (Array.range 0)=(#[]:Array Value)from by apply Array.ext';simp]
 .have u:¬len*g.size=0:=by rw[d];exact fun h=>(Nat.mul_eq_zero.1 h).elim O (by omega)
  obtain⟨r,Q,H,I⟩:=Go.Great.fill_dense hm vals 0 ((Array.range (len*g.size)).map (z.cells[· %z.cells.size]!)) G (by simp[hlen,d])
  have Y:r=(vals.map fun v=>v.cells.toList).flatten.toArray:=by
   apply Array.ext'
   apply tO
   intro t
   have y:∀cs,cs∈vals.map (fun v=>v.cells.toList)->cs.length=m:=fun cs J=>by
    obtain⟨v,K,rfl⟩:=cg.1 J
    simpa using G v K
   have f:=MJ (vals.map fun v=>v.cells.toList) m y
   simp only[dE,hlen]at f
   by_cases U:t<len*m
   .have aG:t/m<len:=(wx hm).2 U
    have Z:t%m<m:=mg _ hm
    have bD:t=t/m*m+t%m:=by rw[lB];exact(tR t m).symm
    have V:=I t
    rw[ai (by simp[hlen,U]),Nat.sub_zero,bG (by omega),ag]at V
    have L:(vals[t/m]'(by omega)).cells.size=m:=G _ (by simp)
    have A:=MI _ m y (t/m) ((vals[t/m]'(by omega)).cells.toList) (by simp;exact⟨_,bG (by omega),rfl⟩) (t%m) ((vals[t/m]'(by omega)).cells.toList[t%m]'(by simp[L,Z])) (by simp)
    rw[<-bD]at A
    rw[jQ,V]
    simp only[A]
    rw[E3 (by omega)]
    simp
   .rw [kM (by simp[H,d];omega),kM (by simp only[f];omega)]
  rw[<-Y]
  exact run_buildSlice w T e len parts.toArray r g z hu p W (by rw[d];omega) u (by rw[show parts.toArray.toList=parts from by simp,M];rw[d]at Q⊢;exact Q)
theorem akp (cd:eG E) (T:TypeId) (len:Nat) (parts:Array (Nat×Operand)) (cC:o.op= .buildSlice T len parts)
  (aaC:∀(d:Nat) (ty:bt) (M:TypeId) (r:aJ) (ku:Nat) (cs:List au) (xs:List r.D),o.dst=some d->E.ty T=some ty->ty.elem=some (M,r,ku)->rv r.w 0 (parts.toList.map fun q=>(q.1,s.aQ q.2))=some cs->rm r len cs=some xs->len=parts.toList.length->len*r.w<=16777216->zeroDeep cs=true->(vE E d r xs M []).R s [] [] e aM->cX E o s e)
  (h:(cK E o.op o.dst s.aQ).R s [] [] e aM):cX E o s e:=by
 rw[cC]at h
 simp only[cK]at h
 split at h
 case h_2=>exact h.elim
 rename_i d ty my hI
 have dJ:=cd.ty T ty hI
 split at h
 case h_2=>exact h.elim
 rename_i M r ku he
 split at h
 case h_2=>exact h.elim
 rename_i cs AV
 split at h
 case h_2=>exact h.elim
 rename_i xs pI
 split at h
 case isFalse=>exact h.elim
 rename_i hlen
 obtain⟨hlen,I⟩:=hlen
 split at h
 .rename_i bL
  exact aaC d ty M r _ cs xs my hI he AV pI hlen I bL.2.2 h
 obtain⟨l,deep,Kw,⟨G7,Zy⟩,h⟩:=Is cs _ _ _ h
 obtain⟨bd,uP,mD,rfl⟩:=Du h
 rintro R a w e3 ⟨β,τ,F,S,A,bj,gA,gh⟩ K Q dP
 have fQ:=hZ gh
 obtain⟨hu,J,fG,z,ka,hf,nm,bL,jB⟩:=dJ.elem _ _ _ he
 obtain⟨lk,mM,tg,th⟩:=J4 fQ r.w parts.toList 0 cs AV
 obtain⟨G,aaM⟩:=Qn r len cs xs pI
 obtain⟨vals,f⟩:∃vals,vals=parts.toList.map fun q=>a.eval q.2:=⟨_,rfl⟩
 have Hp:vals.length=len:=by rw[f,hlen];simp
 have U:=TS (P:=E.P) w T M (parts.toList.map fun q=>(q.1,a.eval q.2)) len r.w fG z hu ka bL hf jB J I vals (by rw[lk,<-f]) Hp (by rw[f];exact mM)
 obtain⟨us,uX⟩:∃us,us=(vals.map fun v=>v.cells.toList).flatten:=⟨_,rfl⟩
 have GS:bx (ed (s.ctx w S β τ)) cs us:=by
  rw[uX,f,mb];exact tg
 have A7:us.length=len*r.w:=by rw[<-GS.len,th,<-hlen]
 rw[<-uX]at U
 have jf:(execOp a.eval o).run E.P w= .ok (.value (.slice (some ⟨w.heap.size,0,none⟩) len len)) (w.alloc (.cells us.toArray M)):=by
  have F8:(parts.map fun(i,x)=>(i,a.eval x))=(parts.toList.map fun q=>(q.1,a.eval q.2)).toArray:=by apply Array.ext';simp
  simp only[execOp,cC,Sem.run_bind,F8,U,Result.andThen_ok,Sem.run_pure]
 have AZ:d∉l:=fun fu=>uP (d,some .ej) (cg.2 ⟨d,fu,rfl⟩) rfl
 obtain⟨w',A8⟩:∃w',w'=w.alloc (.cells us.toArray M):=⟨_,rfl⟩
 rw[<-A8]at jf
 have av:Below w.heap.size w w':=by rw[A8];exact(Below.refl _ _).alloc (bE _) _
 have V:w'.heap[w.heap.size]? =some (.cells us.toArray M (0,0)):=by rw[A8];exact heap_alloc_new w _
 have aax:w'.heap.size=w.heap.size+1:=by rw[A8];simp
 obtain⟨S',L⟩:∃S':b0,S'=vZ (E.wr d) S w.heap.size (len*r.w):=⟨_,rfl⟩
 have uM:∀b q,S b q->S' b q:=fun b q h=>by rw[L];exact .inl h
 have GK:∀b q,S' b q->S b q\/w.heap.size<=b:=fun b q h=>by
  rw[L]at h
  rcases h with h|⟨_,rfl,_⟩
  .exact .inl h
  .exact .inr (bE _)
 have GJ:∀b q,S' b q->b<w'.heap.size:=fun b q h=>by
  rw[L]at h
  rcases h with h|⟨_,rfl,_⟩
  .have:=A.lt b q h;omega
  .omega
 have im:=(A.drop (tok':=eS (aH s.T) l) (fun t az=>o7 az) (fun t aa h=>(jo h).2)).grow av uM GK GJ
 have GP:∀k,w'.cell? ⟨w.heap.size,k,none⟩=us[k]? :=fun k=>wV V k
 have qY:∀(i j:Nat) (x:r.D) (c:b6),xs[i]? =some x->(enc r x)[j]? =some c->i<len/\j<r.w/\i*r.w+j<len*r.w/\∃y u,cs[i*r.w+j]? =some y/\tT y c/\us[i*r.w+j]? =some u/\ed (s.ctx w S β τ) y u:=fun i j x c W X=>by
  have hi:i<len:=by rw[<-G];exact(dB.1 W).1
  have bV:j<r.w:=by have:=(dB.1 X).1;rwa[et]at this
  have ati:i*r.w+r.w<=len*r.w:=by
   have:(i+1)*r.w<=len*r.w:=ek _ hi
   rw[eE]at this;omega
  have C:=aaM i x W
  have Y:=C.len
  rw[et]at Y
  obtain⟨y,hy⟩:∃y,((cs.drop (i*r.w)).take r.w)[j]? =some y:=⟨_,bG (by rw[Y];exact bV)⟩
  have xB:=C.get' j y c hy X
  rw[hU,ai bV,hV]at hy
  obtain⟨u,oC,pH⟩:=GS.get _ _ hy
  exact⟨hi,bV,by omega,y,u,hy,xB,oC,pH⟩
 have A5:len<=maxLen:=by
  have:len<=len*r.w:=Nat.le_mul_of_pos_right _ J
  simp only[maxLen];omega
 have iM:cn R.dt w' S' ⟨r,xs,M,E.wr d,deep,none⟩ (.slice (some ⟨w.heap.size,0,none⟩) len len) (fun b=>b=w.heap.size\/(deep=true/\∃t aa,t∈l/\aH s.T t=some (.live aa)/\F t b)):=by
  refine⟨fun b Z=>?_,.inr ⟨w.heap.size,len,us.toArray,M,by rw[G],.inl rfl,V,by simpa using A7,by rw[G];exact bE _,A5,fun hw q g=>?_,fun hw q g=>?_,fun i j x c W X=>?_⟩,?_⟩
  .rcases Z with rfl|⟨_,t,aa,_,O,H⟩
   .exact ⟨.inl A.size,by omega⟩
   .have:=(A.bI t aa O).1 b H;exact⟨this.1,by omega⟩
  .simp only [G]
   rw[L]at g
   rcases g with g|⟨_,_,g⟩
   .have:=A.lt _ _ g;omega
   .exact g
  .simp only at hw
   rw[L]at g
   rcases g with g|⟨g,_⟩
   .have:=A.lt _ _ g;omega
   .rw [hw]at g;cases g
  .obtain ⟨aG,xd,O,y,u,H,cN,dO,iL⟩:=qY i j x c W X
   exact⟨u,by simpa using dO,fun _=>(Ly cN iL.1).mono uM (fun b q g=>(r0 av).1 b q (A.lt b q g)),fun hw=>by rw[L];exact .inr ⟨hw,rfl,O⟩⟩
  .show (deep=true->Deep w' _ (.slice (some ⟨w.heap.size,0,none⟩) len len) (.af (.ar r) xs))
   intro cp
   obtain⟨g4,g5⟩:=Zy cp
   obtain⟨_,Hs⟩:=JB r len cs xs pI
   have NX:∀(i j:Nat) (x:r.D) (c:au),xs[i]? =some x->(cellsOf r x)[j]? =some c->i<len/\j<r.w/\∃y u,cs[i*r.w+j]? =some y/\pj y c/\us[i*r.w+j]? =some u/\ed (s.ctx w S β τ) y u:=fun i j x c W X=>by
    have hi:i<len:=by rw[<-G];exact(dB.1 W).1
    have bV:j<r.w:=mq X
    have C:=Hs i x W
    have Y:=C.len
    rw[lN]at Y
    obtain⟨y,hy⟩:∃y,((cs.drop (i*r.w)).take r.w)[j]? =some y:=⟨_,bG (by rw[Y];exact bV)⟩
    have xB:=C.get' j y c hy X
    rw[hU,ai bV,hV]at hy
    obtain⟨u,oC,pH⟩:=GS.get _ _ hy
    exact⟨hi,bV,y,u,hy,xB,oC,pH⟩
   have:=Deep.ar (w:=w') (fun b=>b=w.heap.size\/(deep=true/\∃t aa,t∈l/\aH s.T t=some (.live aa)/\F t b)) len r xs (fun i j=>(us[i*r.w+j]?).getD undef) w.heap.size (fun i j b=>j<r.w/\∃t iT zs aa,cs[i*r.w+j]? =some (.own t iT zs)/\aH s.T t=some (.live aa)/\F t b) us.toArray M (.inl rfl) V (by simpa using A7) (by rw[G];exact bE _) A5
    (fun i j x c W X=>?_) (fun i j k bB=>?_) (fun i j eO db k bB kD=>?_) (fun i j x c W X=>?_)
   .rwa [G]at this
   .obtain ⟨aG,xd,y,u,H,cN,dO,iL⟩:=NX i j x c W X
    simp only[List.getElem?_toArray,dO,mW]
   .obtain ⟨A4,t,iT,zs,aa,aG,O,H⟩:=bB
    refine⟨.inr ⟨cp,t,aa,(G7 t).2 ⟨iT,zs,fY aG⟩,O,H⟩,fun uB=>?_⟩
    have:=((A.bI t aa O).1 k H).2
    omega
   .obtain ⟨A4,t,o1,zs,aa,aG,O,H⟩:=bB
    obtain⟨ZM,dj,ll,asm,b2,xd,qQ,YG⟩:=kD
    obtain rfl:=A.eM t dj aa b2 k O qQ H YG
    have mB:=g5 _ _ t o1 ll zs asm aG xd
    have cB:(i*r.w+j)/r.w=i:=by rw[lB,Nat.mul_add_div J,Nat.div_eq_of_lt A4];omega
    have ck:(eO*r.w+db)/r.w=eO:=by rw[lB,Nat.mul_add_div J,Nat.div_eq_of_lt ZM];omega
    have dr:i=eO:=by rw[<-cB,mB,ck]
    subst dr
    exact⟨rfl,by omega⟩
   .obtain ⟨aG,xd,y,u,H,cN,dO,iL⟩:=NX i j x c W X
    simp only[dO,mW]
    obtain⟨t0,at2,C,rfl⟩:=cN
    rcases g4 y (fY H)with⟨t1,at3,rfl,mz⟩|rfl|⟨t1,o1,zs,aa,rfl,hc,pD⟩
    .simp only [au.as]at C
     split at C
     .rename_i lQ
      subst lQ
      cases C
      obtain⟨p,he,cG⟩:=zn (hb iL.1)
      have bK:=j7 _ _ mz p (by rw[he];simp)
      exact .lit _ u _ _ p he bK (o5 cG bK)
     .cases C
    .cases t0 with
     |ar Kn=>
      cases C
      have e:u= .slice none 0 0:=iL.1
      rw[e]
      exact .nil _ _
     |_=>cases C
    .simp only [au.as]at C
     split at C
     .rename_i lQ
      subst lQ
      cases C
      obtain⟨_,_,h5⟩:=ES (hb iL.1)
      obtain⟨uA,cB,ck⟩:=h5 aa hc
      have j8:=(A.bI t1 aa hc).oi ((A.bI t1 aa hc).plain uA) pD
      rw[show τ t1=u from cB.symm]at j8
      have YN:=(Qm j8 ck).same (w':=w') (fun k bB=>av.block k ((A.bI t1 aa hc).1 k bB).2)
      exact YN.mono (fun k bB=>⟨xd,t1,o1,zs,aa,H,hc,bB⟩)
     .cases C
 refine jO jf (dP _ _ (rC (s:=s) l im bj gA gh (fun _ _ _ _ _=>⟨uM,fun b q g=>(r0 av).1 b q (A.lt b q g)⟩) d bd (e3.gw mD) ⟨r,xs,M,E.wr d,deep,none⟩ _ _ iM rfl (fun t b2 b k6 az Z cT=>?_) (fun k b bB Z=>?_) o.dst AZ _ rfl))
 .rcases Z with rfl|⟨_,dj,aa,aG,O,H⟩
  .have:=((A.bI t b2 az).1 _ cT).2;omega
  .exact k6 (A.eM t dj b2 aa b az O cT H▸aG)
 .rcases Z with h|⟨_,dj,aa,aG,O,H⟩
  .have:=A.blt bB;omega
  .exact A.fq dj aa k b O bB H
end
structure Ext (a bM:Acc):Prop where
 ps:True
 rt:∃l,bM.rt=a.rt++l
 aE:∀k aL,bZ a.aE k=some aL->bZ bM.aE k=some aL
 dF:∀k,k∈a.dF->k∈bM.dF
 de:∀k,k∈a.de->k∈bM.de
 mt:∀k,k∈a.mt->k∈bM.mt
 hl:∀k,k∈a.hl->k∈bM.hl
theorem Ext.refl (a:Acc):Ext a a:=⟨True.intro,⟨[],by simp⟩,fun _ _ h=>h,fun _ h=>h,fun _ h=>h,fun _ h=>h,fun _ h=>h⟩
theorem Ext.trans {a b c:Acc} (h:Ext a b) (k:Ext b c):Ext a c:=by
 obtain⟨m1,f1⟩:=h.rt;obtain⟨m2,f2⟩:=k.rt
 exact⟨True.intro,⟨m1++m2,by rw[f2,f1,e5]⟩,fun x y d=>k.aE x y (h.aE x y d),fun x d=>k.dF x (h.dF x d),fun x d=>k.de x (h.de x d),fun x d=>k.mt x (h.mt x d),fun x d=>k.hl x (h.hl x d)⟩
theorem Sc {α:Type}:∀(l m:List (Nat×α)) (k:Nat),bZ (l++m) k=match bZ l k with|some x=>some x|none=>bZ m k
 | [],m,k=>rfl
 |(j,x)::l,m,k=>by
  simp only[kp,bZ]
  split
  .rfl
  .exact Sc l m k
theorem mL {α:Type}:∀ {l:List (Nat×α)} {k:Nat} {x:α},bZ l k=some x->(k,x)∈l
 | [],k,x,h=>by cases h
 |(j,y)::l,k,x,h=>by
  simp only[bZ]at h
  split at h
  .rename_i e;cases h;subst e;exact cb
  .exact ch _ (mL h)
theorem Sd {α:Type}:∀ {l:List (Nat×α)} {k:Nat},bZ l k=none->∀x,(k,x)∉l
 | [],k,h,x,d=>by cases d
 |(j,y)::l,k,h,x,d=>by
  simp only[bZ]at h
  split at h
  .cases h
  .rename_i e
   rcases bn.1 d with d|d
   .cases d;exact e rfl
   .exact Sd h x d
theorem zZ {a bM:Acc} {k aL:Nat} (h:zY a k aL=some bM):Ext a bM/\bZ bM.aE k=some aL/\bM.ps=a.ps/\bM.rt=a.rt/\bM.dF=a.dF/\bM.de=a.de/\bM.mt=a.mt/\bM.hl=a.hl/\
  ((∀j db i,bZ a.aE j=some i->bZ a.aE db=some i->j=db)->∀j db i,bZ bM.aE j=some i->bZ bM.aE db=some i->j=db)/\(∀x,x∈bM.aE->x∈a.aE\/x=(k,aL)):=by
 unfold zY at h
 split at h
 .rename_i j f
  split at h
  .rename_i e;cases h;subst e;exact⟨Ext.refl _,f,rfl,rfl,rfl,rfl,rfl,rfl,fun h=>h,fun x p=>.inl p⟩
  .cases h
 .rename_i C
  split at h
  .cases h
  .rename_i u
   cases h
   have g:∀j,bZ (a.aE++ [(k,aL)]) j=match bZ a.aE j with|some x=>some x|none=>if j=k then some aL else none:=fun j=>by
    rw[Sc]
    cases bZ a.aE j<;>rfl
   refine⟨⟨True.intro,⟨[],by simp⟩,fun j db f=>?_,fun _ h=>h,fun _ h=>h,fun _ h=>h,fun _ h=>h⟩,?_,rfl,rfl,rfl,rfl,rfl,rfl,fun hi j db i f d=>?_,fun x p=>?_⟩
   .simp only [g,f]
   .simp only [g,C,if_true]
   .simp only [g]at f d
    have v:∀j,bZ a.aE j≠some aL:=fun j f=>u (List.any_eq_true.2 ⟨(j,aL),mL f,by simp⟩)
    cases A:bZ a.aE j with
    |some x=>
     cases r:bZ a.aE db with
     |some y=>rw[A]at f;rw[r]at d;cases f;cases d;exact hi j db _ A r
     |none=>
      rw[A]at f;rw[r]at d
      cases f
      simp only at d
      split at d
      .cases d;exact absurd A (v j)
      .cases d
    |none=>
     rw[A]at f
     simp only at f
     split at f
     .rename_i G
      cases f
      cases r:bZ a.aE db with
      |some y=>rw[r]at d;cases d;exact absurd r (v db)
      |none=>
       rw[r]at d
       simp only at d
       split at d
       .rename_i H;rw[G,H]
       .cases d
     .cases f
   .rcases cE.1 p with p|p
    .exact .inl p
    .exact .inr (by simpa using p)
theorem uh {a bM:Acc} {n:Nat} {b7:Option Nat} {p:gY} (h:kW a n b7 p=some bM):Ext a bM/\bM.ps=a.ps++ [p]/\bM.rt=a.rt++ [(n,b7)]/\bM.aE=a.aE/\bM.dF=a.dF/\bM.de=a.de/\bM.mt=a.mt/\bM.hl=a.hl/\n∉a.rt.map (·.1)/\(∀m,b7=some m->∀x,x∈a.rt->x.2≠some m):=by
 unfold kW at h
 split at h
 .cases h
 .rename_i g
  split at h
  .cases h
  .rename_i d
   cases h
   refine⟨⟨True.intro,⟨_,rfl⟩,fun _ _ h=>h,fun _ h=>h,fun _ h=>h,fun _ h=>h,fun _ h=>h⟩,rfl,rfl,rfl,rfl,rfl,rfl,rfl,fun f=>?_,fun m hm x r e=>?_⟩
   .obtain ⟨⟨y,u⟩,v,rfl⟩:=cg.1 f
    exact Sd g u v
   .subst hm
    refine d ?_
    simp only[Option.isSome_some,cl,List.any_eq_true]
    exact⟨x,r,by simpa using e⟩
def zG (l:List (Nat×Option Nat)):Prop:=(l.map (·.1)).Nodup/\∀(i j:Nat) x y m,l[i]? =some x->l[j]? =some y->x.2=some m->y.2=some m->i=j
theorem zG.snoc {l:List (Nat×Option Nat)} (h:zG l) {n:Nat} {b7:Option Nat} (r:n∉l.map (·.1)) (g:∀m,b7=some m->∀x,x∈l->x.2≠some m):zG (l++ [(n,b7)]):=by
 refine⟨?_,fun i j x y m hi d f hy=>?_⟩
 .rw [ib,cw,qn]
  exact List.nodup_append.2 ⟨h.1,by simp,fun a u b p e=>r (by simp at p;rw[<-p,<-e];exact u)⟩
 .rw [List.getElem?_append]at hi d
  split at hi<;>split at d
  .exact h.2 i j x y m hi d f hy
  .have:y=(n,b7):=by
    have:=fY d;simpa using this
   subst this
   exact absurd f (g m hy x (fY hi))
  .have:x=(n,b7):=by
    have:=fY hi;simpa using this
   subst this
   exact absurd hy (g m f y (fY d))
  .have v:=(dB.1 hi).1
   have A:=(dB.1 d).1
   simp at v A;omega
structure kO (a:Acc):Prop where
 rt:zG a.rt
 aE:∀j db i,bZ a.aE j=some i->bZ a.aE db=some i->j=db
section
variable (B : List (Nat × cm)) (T : List (Nat × Option bc))
structure wJ (fin:Acc) (Fr:Nat->Prop) (c c':Ctx) (F:Nat->Nat->Prop):Prop where
 w:c'.w=c.w
 S:c'.S=c.S
 tok:∀n aa,aH T n=some (.live aa)->c.tok n=some (.live (if n∈fin.de then aa.cu else aa))
 bI:∀n aa,c.tok n=some (.live aa)->cn Fr c.w c.S aa (c.τ n) (F n)
 box:∀k b o t z,aZ B k=some b->k∈fin.dF->hN t ((b.cs.drop o).take t.w)=some z->c.live k->kr c.w c.S (c.β k) o (enc t z)
 mt:∀n,n∈fin.mt->n∉fin.de
 live:∀k aL,bZ fin.aE k=some aL->c'.live k/\c'.β k=c.β aL
 τ:∀n b7,(n,b7)∈fin.rt->c'.τ n=match b7 with|some m=>c.τ m|none=>.slice none 0 0
 bw:∀k aL,bZ fin.aE k=some aL->h6 k=h6 aL
 X7:∀k,k∈fin.dF->gC k=false
def ud (c:Ctx) (x:Nat×Option Nat) (y:Nat×Option bc):Prop:=
 y.1=x.1/\∃aa,y.2=some (.live aa)/\match x.2 with
  |some m=>∃d,c.tok m=some (.live d)/\(⟨aa.t,aa.xs⟩:(t:aJ)×List t.D)=⟨d.t,d.xs⟩/\aa.e=d.e/\aa.wr=d.wr/\(aa.deep=true->d.deep=true)/\aa.tr=d.tr/\(aa.tr≠none->aa.deep=true)
  |none=>aa.xs=[]/\(aa.tr=none\/(aa.tr=some []/\aa.wr=true/\aa.deep=true))
def jY (c c':Ctx) (x d:au) (v:Value):Prop:=(gK c x v->gK c' d v)/\(ff c x v->ff c' d v)/\(gq c x v->gq c' d v)/\(bp c x v->bp c' d v)
def au.base :au->Bool
 | .agg _=>false
 | .bR _=>false
 | .aV _ _=>false
 |_=>true
theorem jY.pY {c c':Ctx} {x f:au} {v:Value} (g:x.base=true) (h:bp c x v->gK c' f v):jY c c' x f v:=
 ⟨fun d=>h (hb (jW d)),fun d=>jW (h (hb d)),fun d=>kU (jW (h (jX d))),fun d=>hb (jW (h d))⟩
theorem jY.dead {c c':Ctx} {x:au} {v:Value}:jY c c' x .dead v:=⟨fun _=>True.intro,fun _=>True.intro,fun _=>True.intro,fun _=>True.intro⟩
def Lc (c c':Ctx) (v:cc) (x:au) (a bM:Acc) (val:Value):Prop:=
 ∃c1 d g f,bM.ps=a.ps++c1/\bM.rt=a.rt++d/\(∀rest,inst v (c1++rest)=(g,rest,f))/\bx (ud c) d f/\((∀n z,(n,z)∈f->c'.tok n=z)->jY c c' x g val)
def VX (c c':Ctx) (Q:Ctx->au->Value->Prop) (h:List cc) (xs:List au) (a bM:Acc) (vals:List Value):Prop:=
 ∃c1 d f g,bM.ps=a.ps++c1/\bM.rt=a.rt++d/\(∀rest,hK h (c1++rest)=(f,rest,g))/\bx (ud c) d g/\((∀n z,(n,z)∈g->c'.tok n=z)->bx (Q c') f vals)
end
section
variable (B : List (Nat × cm)) (T : List (Nat × Option bc))
mutual
theorem Xg :∀(v:cc) (x:au) (a bM:Acc),conv B T v x a=some bM->Ext a bM/\(kO a->kO bM)
 | .dead,x,a,bM,h=>by cases h;exact⟨Ext.refl _,id⟩
 | .af t,x,a,bM,h=>by
  simp only[conv]at h
  split at h
  .split at h
   .split at h
    .cases h;exact⟨⟨True.intro,⟨[],by simp⟩,fun _ _ h=>h,fun _ h=>h,fun _ h=>fc _ h,fun _ h=>h,fun _ h=>h⟩,fun hi=>⟨hi.rt,hi.aE⟩⟩
    .cases h
   .cases h
  .split at h
   .cases h;exact⟨⟨True.intro,⟨[],by simp⟩,fun _ _ h=>h,fun _ h=>h,fun _ h=>h,fun _ h=>h,fun _ h=>h⟩,fun hi=>⟨hi.rt,hi.aE⟩⟩
   .cases h
 | .aT,x,a,bM,h=>by
  simp only[conv]at h
  split at h
  .cases h;exact⟨Ext.refl _,id⟩
  .cases h
 | .eQ,x,a,bM,h=>by
  simp only[conv]at h
  split at h
  .cases h;exact⟨Ext.refl _,id⟩
  .cases h
 | .box k o,x,a,bM,h=>by
  simp only[conv]at h
  split at h
  .split at h
   .obtain ⟨g,_,_,y,_,_,_,_,A,_⟩:=zZ h
    exact⟨g,fun hi=>⟨by rw[y];exact hi.rt,A hi.aE⟩⟩
   .cases h
  .cases h
 | .ptr t,x,a,bM,h=>by
  simp only[conv]at h
  split at h
  .split at h
   .cases h;exact⟨⟨True.intro,⟨[],by simp⟩,fun _ _ h=>h,fun _ h=>h,fun _ h=>h,fun _ h=>h,fun _ h=>h⟩,fun hi=>⟨hi.rt,hi.aE⟩⟩
   .cases h
  .split at h
   .split at h
    .cases h;exact⟨⟨True.intro,⟨[],by simp⟩,fun _ _ h=>h,fun _ h=>fc _ h,fun _ h=>h,fun _ h=>h,fun _ h=>h⟩,fun hi=>⟨hi.rt,hi.aE⟩⟩
    .cases h
   .cases h
  .cases h
 | .own n t e deep,x,a,bM,h=>by
  simp only[conv]at h
  have fin:∀ {b7 p d},kW a n b7 p=some d->Ext a d/\(kO a->kO d):=fun {b7 p d} h=>by
   obtain⟨g,_,r,y,_,_,_,_,A,u⟩:=uh h
   exact⟨g,fun hi=>⟨by rw[r];exact hi.rt.snoc A u,by rw[y];exact hi.aE⟩⟩
  split at h
  .split at h
   .split at h
    .exact fin h
    .cases h
   .cases h
  .split at h
   .split at h
    .obtain ⟨d,g,rfl⟩:=hT.1 h
     obtain⟨G,r⟩:=fin g
     exact⟨G.trans ⟨True.intro,⟨[],by simp⟩,fun _ _ h=>h,fun _ h=>h,fun _ h=>fc _ h,fun _ h=>h,fun _ h=>h⟩,fun hi=>⟨(r hi).rt,(r hi).aE⟩⟩
    .cases h
   .cases h
  .exact fin h
  .cases h
 | .ay n t e deep,x,a,bM,h=>by
  simp only[conv]at h
  have fin:∀ {b7 p d},kW a n b7 p=some d->Ext a d/\(kO a->kO d):=fun {b7 p d} h=>by
   obtain⟨g,_,r,y,_,_,_,_,A,u⟩:=uh h
   exact⟨g,fun hi=>⟨by rw[r];exact hi.rt.snoc A u,by rw[y];exact hi.aE⟩⟩
  split at h
  .split at h
   .split at h
    .obtain ⟨d,g,rfl⟩:=hT.1 h
     obtain⟨G,r⟩:=fin g
     exact⟨G.trans ⟨True.intro,⟨[],by simp⟩,fun _ _ h=>h,fun _ h=>h,fun _ h=>h,fun _ h=>fc _ h,fun _ h=>h⟩,fun hi=>⟨(r hi).rt,(r hi).aE⟩⟩
    .cases h
   .cases h
  .exact fin h
  .cases h
 | .kJ n t e,x,a,bM,h=>by
  simp only[conv]at h
  have fin:∀ {b7 p d},kW a n b7 p=some d->Ext a d/\(kO a->kO d):=fun {b7 p d} h=>by
   obtain⟨g,_,r,y,_,_,_,_,A,u⟩:=uh h
   exact⟨g,fun hi=>⟨by rw[r];exact hi.rt.snoc A u,by rw[y];exact hi.aE⟩⟩
  split at h
  .split at h
   .split at h
    .obtain ⟨d,g,rfl⟩:=hT.1 h
     obtain⟨G,r⟩:=fin g
     exact⟨G.trans ⟨True.intro,⟨[],by simp⟩,fun _ _ h=>h,fun _ h=>h,fun _ h=>h,fun _ h=>fc _ h,fun _ h=>h⟩,fun hi=>⟨(r hi).rt,(r hi).aE⟩⟩
    .cases h
   .cases h
  .exact fin h
  .cases h
 | .rK n t e,x,a,bM,h=>by
  simp only[conv]at h
  split at h
  case h_2=>cases h
  split at h
  case h_2=>cases h
  split at h
  case h_2=>cases h
  split at h
  case isFalse=>cases h
  obtain⟨d,g,rfl⟩:=hT.1 h
  obtain⟨g1,_,g3,g4,_,_,_,_,g9,g10⟩:=uh g
  exact⟨g1.trans ⟨True.intro,⟨[],by simp⟩,fun _ _ h=>h,fun _ h=>h,fun _ h=>h,fun _ h=>fc _ h,fun _ h=>h⟩,fun hi=>⟨by rw[g3];exact hi.rt.snoc g9 g10,by rw[g4];exact hi.aE⟩⟩
 | .agg l,x,a,bM,h=>by
  simp only[conv]at h
  split at h
  .exact qH l _ _ _ h
  .cases h
 | .bR l,x,a,bM,h=>by
  simp only[conv]at h
  split at h
  .exact qH l _ _ _ h
  .cases h
 | .aV f l,x,a,bM,h=>by
  simp only[conv]at h
  split at h
  .split at h
   .split at h
    .rename_i d g
     split at h
     .cases h
      obtain⟨C,H⟩:=qH l _ _ _ g
      exact⟨⟨True.intro,C.rt,C.aE,C.dF,C.de,C.mt,C.hl⟩,fun hi=>⟨(H ⟨hi.rt,hi.aE⟩).rt,(H ⟨hi.rt,hi.aE⟩).aE⟩⟩
     .cases h
    .cases h
   .cases h
  .cases h
theorem qH :∀(l:List cc) (xs:List au) (a bM:Acc),gM B T l xs a=some bM->Ext a bM/\(kO a->kO bM)
 | [],[],a,bM,h=>by simp only[gM]at h;cases h;exact⟨Ext.refl _,id⟩
 |v::l,x::xs,a,bM,h=>by
  simp only[gM]at h
  obtain⟨d,f,g⟩:=jR.1 h
  obtain⟨p,i1⟩:=Xg v x a d f
  obtain⟨r,i2⟩:=qH l xs d bM g
  exact⟨p.trans r,fun hi=>i2 (i1 hi)⟩
 | [],_::_,a,bM,h=>by simp only[gM]at h;cases h
 |_::_,[],a,bM,h=>by simp only[gM]at h;cases h
end
variable {B T} {fin : Acc} {Fr : Nat -> Prop} {c c' : Ctx} {F : Nat -> Nat -> Prop}
theorem cn.tree {Fr:Nat->Prop} {w:World} {S:b0} {aa:Tok} {v:Value} {F:Nat->Prop} (h:cn Fr w S aa v F) {d:List (Nat×Nat×Nat)} (f:aa.tr=some d):aa.wr=true/\aa.deep=true:=by
 have:=h.2.2
 unfold hE at this
 rw[f]at this
 exact⟨this.1,this.2.1⟩
theorem anw {tr:Option (List (Nat×Nat×Nat))} {k:Nat} (h:I6 tr=some k):tr=some [(k,gone,gone)]:=by
 unfold I6 at h
 split at h
 .split at h
  .rename_i d
   cases h
   rw[d.1,d.2]
  .cases h
 .cases h
theorem r1 (A:wJ B T fin Fr c c' F) {a J bM:Acc} {n:Nat} {b7:Option Nat} {t:aJ} {xs:List t.D} {x:au} {val:Value} {e:TypeId} {deep wr:Bool} {tr:Option (List (Nat×Nat×Nat))} {v:cc} (O:x.base=true) (h:kW a n b7 ⟨.ar t,xs⟩=some J) (K:bM.ps=J.ps) (C:bM.rt=J.rt) (G:∀y,y∈bM.rt->y∈fin.rt)
  (P:inst v=fun ps=>match ps with|⟨.ar r,xs⟩::ps=>(if wr then .ay n else .own n r xs,ps,[(n,some (.live ⟨r,xs,e,wr,deep,tr⟩))])|_=>(.dead,[],[]))
  (hm:match b7 with
   |some m=>∃d,c.tok m=some (.live d)/\(⟨t,xs⟩:(t:aJ)×List t.D)=⟨d.t,d.xs⟩/\e=d.e/\wr=d.wr/\(deep=true->d.deep=true)/\val=c.τ m/\tr=d.tr/\(tr≠none->deep=true)
   |none=>xs=[]/\val= .slice none 0 0/\(tr=none\/(tr=some []/\wr=true/\deep=true))):Lc c c' v x a bM val:=by
 obtain⟨U,Q,M,_⟩:=uh h
 refine⟨[⟨.ar t,xs⟩],[(n,b7)],if wr then .ay n else .own n t xs,[(n,some (.live ⟨t,xs,e,wr,deep,tr⟩))],by rw[K,Q],by rw[C,M],fun rest=>by rw[P];rfl,⟨⟨rfl,_,rfl,?_⟩,True.intro⟩,fun f=>jY.pY O fun _=>?_⟩
 .cases b7 with
  |none=>exact⟨hm.1,hm.2.2⟩
  |some m=>obtain⟨d,g1,g2,g3,g4,g5,_,g7,g8⟩:=hm;exact⟨d,g1,g2,g3,g4,g5,g7,g8⟩
 .have f:=f n _ cb
  have L:=A.τ n b7 (G _ (by rw[C,M];simp))
  have u:val=c'.τ n:=by
   rw[L]
   cases b7 with
   |none=>exact hm.2.1
   |some m=>obtain⟨_,_,_,_,_,_,g,_⟩:=hm;exact g
  cases wr with
  |true=>
   refine⟨?_,by rw[f];simp,fun aa _=>u⟩
   cases b7 with
   |none=>rw[hm.2.1];rfl
   |some m=>obtain⟨d,g1,_,_,_,_,g6,_⟩:=hm;rw[g6];exact(A.bI m d g1).cell
  |false=>
   refine⟨?_,by rw[f];simp,fun aa H=>?_⟩
   .rw [A.w,A.S]
    cases b7 with
    |none=>obtain⟨rfl,rfl,_⟩:=hm;exact DY
    |some m=>
     obtain⟨d,g1,g2,_,g4,_,g6,_⟩:=hm
     rw[g6]
     have I:=(A.bI m d g1).rep g4.symm
     have:∀p q:(t:aJ)×List t.D,p=q->bs c.w c.S (c.τ m) (.ar (q.2.map (enc q.1)))->bs c.w c.S (c.τ m) (.ar (p.2.map (enc p.1))):=fun p q h=>by subst h;exact id
     exact this _ _ g2 I
   .rw [f]at H
    cases H
    exact⟨rfl,u,rfl⟩
mutual
theorem Xi (d:wJ B T fin Fr c c' F):∀(v:cc) (x:au) (a bM:Acc) (val:Value),conv B T v x a=some bM->Ext bM fin->bp c x val->Lc c c' v x a bM val
 | .dead,x,a,bM,val,h,r,A=>by cases h;exact⟨[],[],.dead,[],by simp,by simp,fun rest=>rfl,True.intro,fun _=>jY.dead⟩
 | .af t,x,a,bM,val,h,r,A=>by
  simp only[conv]at h
  split at h
  .rename_i n
   split at h
   .rename_i aa G
    split at h
    .rename_i lQ
     obtain⟨lQ,X6⟩:=lQ
     cases h
     subst lQ
     refine⟨[⟨.ar aa.t,aa.xs⟩],[],.af (.ar aa.t) aa.xs,[],rfl,by simp,fun rest=>rfl,True.intro,fun _=>jY.pY rfl fun _=>?_⟩
     have X:n∈fin.de:=r.de n (by simp)
     have H:=d.tok n aa G
     rw[ai X]at H
     rw[Tok.Ax X6]at H
     have I:=d.bI n _ H
     have J:=(kn A).2.2 _ H
     refine⟨_,rfl,?_⟩
     rw[d.w,d.S,J]
     exact I.rep rfl
    .cases h
   .cases h
  .split at h
   .rename_i hd y hy
    cases h
    refine⟨[⟨t,y⟩],[],.af t y,[],rfl,by simp,fun rest=>rfl,True.intro,fun _=>jY.pY ?_ fun A=>?_⟩
    .cases x<;>first|rfl|cases hy
    .obtain ⟨p,H,I⟩:=nc hy A
     exact⟨p,H,by rw[d.w,d.S];exact I⟩
   .cases h
 | .aT,x,a,bM,val,h,r,A=>by
  simp only[conv]at h
  split at h
  .cases h;exact⟨[],[],.aT,[],by simp,by simp,fun rest=>rfl,True.intro,fun _=>jY.pY rfl fun h=>h⟩
  .cases h
 | .eQ,x,a,bM,val,h,r,A=>by
  simp only[conv]at h
  split at h
  .cases h;exact⟨[],[],.eQ,[],by simp,by simp,fun rest=>rfl,True.intro,fun _=>jY.pY rfl fun h=>h⟩
  .cases h
 | .box k o,x,a,bM,val,h,r,A=>by
  simp only[conv]at h
  split at h
  .rename_i aL ta
   split at h
   .rename_i X3
    subst X3
    obtain⟨H,I,J,cN,_⟩:=zZ h
    refine⟨[],[],.box k ta,[],by simp[J],by simp[cN],fun rest=>rfl,True.intro,fun _=>jY.pY rfl fun A=>?_⟩
    obtain⟨g1,g2⟩:=ar7 A
    obtain⟨cW,cO⟩:=d.live k aL (r.aE _ _ I)
    have h5:=d.bw k aL (r.aE _ _ I)
    exact⟨cW,by rw[cO];unfold rB at g2⊢;rw[h5];exact g2⟩
   .cases h
  .cases h
 | .ptr t,x,a,bM,val,h,r,A=>by
  simp only[conv]at h
  split at h
  .rename_i dj y o
   split at h
   .rename_i z bL
    cases h
    refine⟨[⟨t,z⟩],[],.ptr t z 0,[],rfl,by simp,fun rest=>rfl,True.intro,fun _=>jY.pY rfl fun A=>?_⟩
    obtain⟨b,bA,dn,bF⟩:=ET A
    refine⟨b,bA+o,by simpa using dn,fun j p cp=>?_⟩
    rw[d.w,d.S]
    obtain⟨Q,H,I⟩:=Kv (c:=c) y (b:=b) (q:=bA) (fun j p cp=>(bF j p cp).2)
    have J:=Dq t _ z _ bL ((H.drop o).take t.w)
    have bV:j<t.w:=by have:=(dB.1 cp).1;rwa[et]at this
    have K:=J.len
    rw[et]at K
    obtain⟨u,hu⟩:∃u,((Q.drop o).take t.w)[j]? =some u:=⟨_,bG (by rw[K];exact bV)⟩
    have cG:=J.get' j u p hu cp
    rw[hU,ai bV,hV]at hu
    have gr:o+j<(enc dj y).length:=by
     rw[et,<-lN dj y,H.len];exact(dB.1 hu).1
    have oA:=(bF (o+j) (enc dj y)[o+j] (bG gr)).1
    exact⟨by rw[mY];exact oA,u,by rw[mY];exact I _ _ hu,cG⟩
   .cases h
  .rename_i k o
   split at h
   .rename_i b U
    split at h
    .rename_i z bL
     cases h
     refine⟨[⟨t,z⟩],[],.ptr t z 0,[],rfl,by simp,fun rest=>rfl,True.intro,fun _=>jY.pY rfl fun A=>?_⟩
     obtain⟨g1,g2⟩:=wk (d.X7 k (r.dF k (by simp))) A
     have H:=d.box k b o t z U (r.dF k (by simp)) bL g1
     exact⟨c.β k,o,by simpa using g2,by rw[d.w,d.S];exact H⟩
    .cases h
   .cases h
  .cases h
 | .own n t e deep,x,a,bM,val,h,r,A=>by
  simp only[conv]at h
  split at h
  .rename_i b7 dj xs
   split at h
   .rename_i aa G
    split at h
    .rename_i V
     obtain⟨rfl,I,J⟩:=V
     have H:=d.tok b7 aa G
     obtain⟨_,_,g⟩:=ES A
     have Y:=(d.bI _ _ H)
     obtain⟨g1,g2,g3⟩:=g _ H
     have Y:=Y.plain g1
     have Z:(if b7∈fin.de then aa.cu else aa).e=aa.e:=by split<;>simp[Tok.Yq]
     have ck:deep=true->(if b7∈fin.de then aa.cu else aa).deep=true:=fun bd=>by have:=J bd;split<;>simp[Tok.Yp,this]
     refine r1 d (wr:=false) (e:=e) (deep:=deep) (tr:=none) rfl h rfl rfl (fun y hy=>?_) (by funext ps;cases ps<;>rfl) ⟨_,H,g3.symm,I.symm.trans Z.symm,g1.symm,ck,g2,Y.symm,fun h=>absurd rfl h⟩
     obtain⟨l,K⟩:=r.rt;rw[K];exact fc _ hy
    .cases h
   .cases h
  .rename_i b7
   split at h
   .rename_i aa G
    split at h
    .rename_i V
     obtain⟨H,I,J,cN⟩:=V
     obtain⟨W,U,rfl⟩:=hT.1 h
     have X:b7∈fin.de:=r.de b7 (by simp)
     have g1:=d.tok b7 aa G
     rw[ai X,Tok.Ax cN]at g1
     have g2:=(kn A).2.2 _ g1
     refine r1 d (wr:=false) (e:=e) (deep:=deep) (tr:=none) rfl U rfl rfl (fun y hy=>?_) (by funext ps;cases ps<;>rfl) ⟨_,g1,rfl,I.symm,rfl,J,g2,rfl,fun h=>absurd rfl h⟩
     obtain⟨l,K⟩:=r.rt;rw[K];exact fc _ hy
    .cases h
   .cases h
  .refine r1 d (wr:=false) (e:=e) (deep:=deep) (tr:=none) rfl h rfl rfl (fun y hy=>?_) (by funext ps;cases ps<;>rfl) ⟨rfl,A,.inl rfl⟩
   obtain⟨l,K⟩:=r.rt;rw[K];exact fc _ hy
  .cases h
 | .ay n t e deep,x,a,bM,val,h,r,A=>by
  simp only[conv]at h
  split at h
  .rename_i b7
   split at h
   .rename_i aa G
    split at h
    .rename_i V
     obtain⟨H,I,J,cN,dO⟩:=V
     obtain⟨W,U,rfl⟩:=hT.1 h
     have L:b7∉fin.de:=d.mt b7 (r.mt b7 (by simp))
     have g1:=d.tok b7 aa G
     rw[aC L]at g1
     have g2:=(kn A).2.2 _ g1
     refine r1 d (wr:=true) (e:=e) (deep:=deep) (tr:=none) rfl U rfl rfl (fun y hy=>?_) (by funext ps;cases ps<;>rfl) ⟨_,g1,rfl,I.symm,J.symm,cN,g2,dO.symm,fun h=>absurd rfl h⟩
     obtain⟨l,K⟩:=r.rt;rw[K];exact fc _ hy
    .cases h
   .cases h
  .refine r1 d (wr:=true) (e:=e) (deep:=deep) (tr:=none) rfl h rfl rfl (fun y hy=>?_) (by funext ps;cases ps<;>rfl) ⟨rfl,A,.inl rfl⟩
   obtain⟨l,K⟩:=r.rt;rw[K];exact fc _ hy
  .cases h
 | .kJ n t e,x,a,bM,val,h,r,A=>by
  simp only[conv]at h
  split at h
  .rename_i b7
   split at h
   .rename_i aa G
    split at h
    .rename_i V
     obtain⟨H,I,J⟩:=V
     obtain⟨W,U,rfl⟩:=hT.1 h
     have L:b7∉fin.de:=d.mt b7 (r.mt b7 (by simp))
     have g1:=d.tok b7 aa G
     rw[aC L]at g1
     have g2:=(kn A).2.2 _ g1
     have gt:=(d.bI _ _ g1).tree J
     refine r1 d (wr:=true) (e:=e) (deep:=true) (tr:=some []) rfl U rfl rfl (fun y hy=>?_) (by funext ps;cases ps<;>rfl) ⟨_,g1,rfl,I.symm,gt.1.symm,fun _=>gt.2,g2,J.symm,fun _=>rfl⟩
     obtain⟨l,K⟩:=r.rt;rw[K];exact fc _ hy
    .cases h
   .cases h
  .refine r1 d (wr:=true) (e:=e) (deep:=true) (tr:=some []) rfl h rfl rfl (fun y hy=>?_) (by funext ps;cases ps<;>rfl) ⟨rfl,A,.inr ⟨rfl,rfl,rfl⟩⟩
   obtain⟨l,K⟩:=r.rt;rw[K];exact fc _ hy
  .cases h
 | .rK n t e,x,a,bM,val,h,r,A=>by
  simp only[conv]at h
  split at h
  case h_2=>cases h
  rename_i b7
  split at h
  case h_2=>cases h
  rename_i aa G
  split at h
  case h_2=>cases h
  rename_i k bB
  split at h
  case isFalse=>cases h
  rename_i V
  obtain⟨rfl,I⟩:=V
  obtain⟨W,U,rfl⟩:=hT.1 h
  obtain⟨H,qQ,J,_⟩:=uh U
  have lT:=anw bB
  have L:b7∉fin.de:=d.mt b7 (r.mt b7 (by simp))
  have g1:=d.tok b7 aa G
  rw[aC L]at g1
  have g2:=(kn A).2.2 _ g1
  have gt:=(d.bI _ _ g1).tree lT
  refine⟨[⟨.pair (.ar aa.t) (.int .i64),((aa.xs,(k:Int)):List aa.t.D×Int)⟩],[(n,some b7)],.ay n,[(n,some (.live ⟨aa.t,aa.xs,e,true,true,some [(k,gone,gone)]⟩))],qQ,J,fun rest=>rfl,⟨⟨rfl,_,rfl,aa,g1,rfl,I.symm,gt.1.symm,fun _=>gt.2,lT.symm,fun _=>rfl⟩,True.intro⟩,fun C=>jY.pY rfl fun _=>?_⟩
  have C:=C n _ cb
  have aaU:=d.τ n (some b7) (by obtain⟨l,K⟩:=r.rt;rw[K];exact fc _ (by show _∈W.rt;rw[J];simp))
  refine⟨?_,by rw[C];simp,fun aa _=>by rw[aaU];exact g2⟩
  rw[g2]
  exact(d.bI b7 aa g1).cell
 | .agg l,x,a,bM,val,h,r,A=>by
  simp only[conv]at h
  split at h
  .rename_i cs
   obtain⟨Q,aQ,P⟩:=A
   obtain⟨c1,M,O,jr,Z,ck,dr,gP,gf⟩:=r7 d (fun c=>ed c) (fun x gm v h=>hb h.1) (fun x gm v hi h=>⟨hi.2.1 h.1,h.2⟩) l cs a bM Q h r P
   refine⟨c1,M,.agg O,jr,Z,ck,fun rest=>by simp only[inst,dr],gP,fun C=>⟨fun h=>h.elim,fun h=>h.elim,fun⟨us,oo,hu⟩=>?_,fun⟨us,oo,hu⟩=>?_⟩⟩
   all_goals
    rw[aQ]at oo
    cases oo
    exact⟨Q,aQ,gf C⟩
  .cases h
 | .bR l,x,a,bM,val,h,r,A=>by
  simp only[conv]at h
  split at h
  .rename_i cs
   obtain⟨Q,aQ,P⟩:=A
   obtain⟨c1,M,O,jr,Z,ck,dr,gP,gf⟩:=r7 d (fun c=>gq c) (fun x gm v h=>jX h) (fun x gm v hi h=>hi.2.2.1 h) l cs a bM Q h r P
   refine⟨c1,M,.bR O,jr,Z,ck,fun rest=>by simp only[inst,dr],gP,fun C=>⟨fun h=>h.elim,fun h=>h.elim,fun h=>h.elim,fun⟨us,oo,hu⟩=>?_⟩⟩
   rw[aQ]at oo
   cases oo
   exact⟨Q,aQ,gf C⟩
  .cases h
 | .aV f l,x,a,bM,val,h,r,A=>by
  simp only[conv]at h
  split at h
  .rename_i g cs
   split at h
   .rename_i XZ
    subst XZ
    split at h
    case h_2=>cases h
    rename_i W H
    split at h
    case isFalse=>cases h
    rename_i hlen
    cases h
    obtain⟨Q,aQ,P⟩:=KW A
    obtain⟨c1,M,O,jr,Z,ck,dr,gP,gf⟩:=r7 d (fun c=>gK c) (fun x gm v h=>hb (jW h)) (fun x gm v hi h=>hi.1 h) l cs _ W Q H ⟨True.intro,r.rt,r.aE,r.dF,r.de,r.mt,r.hl⟩ P
    have key:(∀n z,(n,z)∈jr->c'.tok n=z)->ff c' (.aV g O) val:=fun C=>⟨Q,aQ,gf C⟩
    have XP:W.ps=c1:=Z
    have XR:hK l c1=(O,[],jr):=by have:=dr [];rwa[fe]at this
    exact⟨[vN W.ps],M,.aV g O,jr,rfl,ck,fun rest=>by
     simp only[inst,kp,fE]
     rw[<-hlen,VB,XP,XR],gP,fun C=>⟨fun h=>h.elim,fun h=>key C,fun h=>kU (key C),fun h=>hb (key C)⟩⟩
   .cases h
  .cases h
theorem r7 (A:wJ B T fin Fr c c' F) (Q:Ctx->au->Value->Prop) (f:∀x (r:au) v,Q c x v->bp c x v) (C:∀x r v,jY c c' x r v->Q c x v->Q c' r v):∀(l:List cc) (xs:List au) (a bM:Acc) (vals:List Value),gM B T l xs a=some bM->Ext bM fin->bx (Q c) xs vals->VX c c' Q l xs a bM vals
 | [],[],a,bM,vals,h,g,d=>by
  simp only[gM]at h;cases h
  match vals,d with
  | [],_=>exact⟨[],[],[],[],by simp,by simp,fun rest=>rfl,True.intro,fun _=>True.intro⟩
 |v::l,x::xs,a,bM,vals,h,g,d=>by
  match vals,d with
  |val::vals,d=>
   simp only[gM]at h
   obtain⟨u,I,G⟩:=jR.1 h
   obtain⟨J,_⟩:=qH B T l xs u bM G
   obtain⟨s1,K,H,t1,L,M,O,P,U⟩:=Xi A v x a u val I (J.trans g) (f x x val d.1)
   obtain⟨s2,V,W,t2,X,Y,Z,jI,l5⟩:=r7 A Q f C l xs u bM vals G g d.2
   refine⟨s1++s2,K++V,H::W,t1++t2,by rw[X,L,e5],by rw[Y,M,e5],fun rest=>?_,P.append jI,fun p=>⟨C x H val (U fun n z y=>p n z (fc _ y)) d.1,l5 fun n z y=>p n z (lv _ y)⟩⟩
   simp only[hK,e5,O,Z]
 | [],_::_,a,bM,vals,h,g,d=>by simp only[gM]at h;cases h
 |_::_,[],a,bM,vals,h,g,d=>by simp only[gM]at h;cases h
end
end
end Go.Proofs.YtnkagklajgimlaaGreatDoor
