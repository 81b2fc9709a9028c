import Derived.Test.YtcinmmojlcchfaaGreatDoorKQ
set_option linter.unusedSimpArgs false
set_option linter.unusedVariables false
namespace Go.Proofs.YtcinmmojlcchfaaGreatDoor
open Go.RowKit
section
variable {E : Env} {o : Oper} {s : LSt} {e : Eff} {fp : FP}
theorem jqG (c:Call) (ho:o.op= .call c) (hc:c.callee= .builtin .append) (x y:Operand) (hx:c.args.toList=[x,y]) (T:TypeId) (hT:c.argTypes.toList=[T,T]) (ty:Ty) (hty:TyOk E.P T ty) (e':TypeId) (r:Tp) (by':Nat) (he:ty.elem=some (e',r,by')) (d:Nat) (hdst:o.dst=some d)
  (xs ys:List r.D) (bl sl:List Nat) (wr bdeep sdeep:Bool)
  (hbase:∀R β τ F S (a:Act) w,Mem R (lookB s.B) (lookT s.T) β τ F S w->(∀y,V3 (s.ctx w S β τ) (s.ev y) (a.eval y))->∃Fb,TokOk R.fr w S ⟨r,xs,e',wr,bdeep,none⟩ (a.eval x) Fb/\∀b,Fb b->∃t tk,t∈bl/\lookT s.T t=some (.live tk)/\F t b)
  (hsrc:∀R β τ F S (a:Act) w,Mem R (lookB s.B) (lookT s.T) β τ F S w->(∀y,V3 (s.ctx w S β τ) (s.ev y) (a.eval y))->Elems w S (a.eval y) r ys/\(sdeep=true->r.flatB=true\/ ∃t tk,t∈sl/\t∉bl/\lookT s.T t=some (.live tk)/\Deep w (F t) (a.eval y) (.pv (.sl r) ys)))
  (hbytes:(xs.length+ys.length)*by'<=140737488355328) (h63:xs.length+ys.length<=9223372036854775807) (hwr:E.wr d=wr) {rb rt:List Nat} (h:(newTok E d r (xs++ys) e' (bdeep&&sdeep) ((bl++sl).map fun t=>(t,some TS.spent))).R s rb rt e fp):Sim E o s e:=by
 obtain⟨hd,hfr,hres,rfl⟩:=newTok_R h
 rw[hwr]
 rintro R a w hR0 ⟨β,τ,F,S,hM,hn,hdf,hsl⟩ K Q hK
 have hev:=V3_ev hsl
 obtain⟨hu,hpos,ie,z,hie,hsz,hby,hz,hzs⟩:=hty.elem _ _ _ he
 have ea:c.args= #[x,y]:=by apply Array.ext';simpa using hx
 have eT:c.argTypes= #[T,T]:=by apply Array.ext';simpa using hT
 obtain⟨Fb,hTb,hFb⟩:=hbase R β τ F S a w hM hev
 obtain⟨hel,hsd⟩:=hsrc R β τ F S a w hM hev
 have hdl:d∉bl++sl:=fun hin=>hfr (d,some .spent) (zab.2 ⟨d,hin,rfl⟩) rfl
 have hFlt:∀t tk b,lookT s.T t=some (.live tk)->F t b->R.fr b/\b<w.heap.size:=fun t tk b ht hb=>(hM.toks t tk ht).1 b hb
 have hM1:=hM.drop (tok':=spend (lookT s.T) (bl++sl)) (fun t ht=>spend_used ht) (fun t tk h=>(spend_live h).2)
 obtain⟨Fs,hsd2,hFs⟩:∃Fs:Nat->Prop,(sdeep=true->r.flatB=true\/(Deep w Fs (a.eval y) (.pv (.sl r) ys)/\∀b,Fs b->¬Fb b))/\∀b,Fs b->∃t tk,t∈sl/\lookT s.T t=some (.live tk)/\F t b:=by
  by_cases hsd':sdeep=true/\¬r.flatB=true
  .rcases hsd hsd'.1 with h1|⟨t,tk,h1,h2,h3,h4⟩
   .exact absurd h1 hsd'.2
   .refine ⟨F t,fun _=>.inr ⟨h4,fun b hb hb'=>?_⟩,fun b hb=>⟨t,tk,h1,h3,hb⟩⟩
    obtain⟨t',tk',g1,g2,g3⟩:=hFb b hb'
    exact h2 (hM.tdis t t' tk tk' b h3 g2 hb g3▸g1)
  .refine ⟨fun _=>False,fun h1=>.inl ?_,fun _ h=>h.elim⟩
   by_cases h2:r.flatB=true
   .exact h2
   .exact absurd ⟨h1,h2⟩ hsd'
 have hdisj:∀t tk b,t∉bl++sl->lookT s.T t=some (.live tk)->(Fb b\/Fs b)->¬F t b:=fun t tk b htl ht hb hF=>by
  rcases hb with hb|hb
  .obtain ⟨t',tk',h1,h2,h3⟩:=hFb b hb
   exact htl (zad _ (hM.tdis t t' tk tk' b ht h2 hF h3▸h1))
  .obtain ⟨t',tk',h1,h2,h3⟩:=hFs b hb
   exact htl (zaJ _ (hM.tdis t t' tk tk' b ht h2 hF h3▸h1))
 have hdisb:∀k b,lookB s.B k=some b->¬(Fb (β k)\/Fs (β k)):=fun k b hk hb=>by
  rcases hb with hb|hb
  .obtain ⟨t',tk',h1,h2,h3⟩:=hFb _ hb
   exact hM.tbox t' tk' k b h2 hk h3
  .obtain ⟨t',tk',h1,h2,h3⟩:=hFs _ hb
   exact hM.tbox t' tk' k b h2 hk h3
 obtain⟨v',w',S',hrun,hM',hle,hTk⟩:=append_core (P:=E.P) hM1 T o.type e' ie z r by' hu hie hz hsz hby hzs hpos (a.eval x) (a.eval y) xs ys wr bdeep sdeep Fb Fs hTb hel hsd2
  (fun b hb=>by obtain⟨t,tk,_,h2,h3⟩:=hFs b hb;exact hFlt t tk b h2 h3) (fun t tk b ht hb=>hdisj t tk b (spend_live ht).1 (spend_live ht).2 (.inl hb)) (fun k b hk hb=>hdisb k b hk (.inl hb)) hbytes h63
 have hr:(execOp a.eval o).run E.P w= .ok (.value v') w':=by
  simp only[execOp,ho,resolve,hc,invoke,builtin,Sem.run_bind,Sem.run_pure,Result.andThen_ok,ea,eT,List.map_toArray,zv,zck,hrun]
 refine wp_value hr (hK _ _ (rel_newTok (s:=s) (bl++sl) hM' hn hdf hsl hle d hd (hR0.tn hres) ⟨r,xs++ys,e',wr,bdeep&&sdeep,none⟩ v' _ hTk rfl (fun t tk' b htl ht hb=>?_) (fun k b hk hb=>?_) o.dst hdl _ rfl))
 .rcases hb.1 with h|h|h
  .exact hdisj t tk' b htl ht (.inl h)
  .exact hdisj t tk' b htl ht (.inr h)
  .intro hF;have:=(hFlt t tk' b ht hF).2;omega
 .rcases hb.1 with h|h|h
  .exact hdisb k b hk (.inl h)
  .exact hdisb k b hk (.inr h)
  .have:=hM.blt hk;omega
theorem je3 {w:World} {F:Nat->Prop} {v:Value} {t:Tp} {xs:List t.D} {r:Tp} {ys:List r.D} (h:Deep w F v (.pv (.sl t) xs)) (hc:(⟨t,xs⟩:(t:Tp)×List t.D)=⟨r,ys⟩):Deep w F v (.pv (.sl r) ys):=by
 simp only[Sigma.mk.injEq]at hc
 obtain⟨rfl,h2⟩:=hc
 cases h2
 exact h
theorem any_spent {l:List Nat} {n:Nat} (h:((l.map fun t=>(t,some TS.spent)).any fun y=>y.1==n)=false):n∉l:=by
 intro hin
 have:=List.any_eq_false.1 h (n,some .spent) (zab.2 ⟨n,hin,rfl⟩)
 simp at this
theorem jdl (hE:EnvOk E) (c:Call) (ho:o.op= .call c) (hc:c.callee= .builtin .append) (x y:Operand) (hx:c.args.toList=[x,y]) (T:TypeId) (hT:c.argTypes.toList=[T,T]) (ty:Ty) (hty:TyOk E.P T ty) (e':TypeId) (r:Tp) (by':Nat) (he:ty.elem=some (e',r,by')) (d:Nat) (hdst:o.dst=some d)
  (xs:List r.D) (bl:List Nat) (wr bdeep:Bool)
  (hbase:∀R β τ F S (a:Act) w,Mem R (lookB s.B) (lookT s.T) β τ F S w->(∀y,V3 (s.ctx w S β τ) (s.ev y) (a.eval y))->∃Fb,TokOk R.fr w S ⟨r,xs,e',wr,bdeep,none⟩ (a.eval x) Fb/\∀b,Fb b->∃t tk,t∈bl/\lookT s.T t=some (.live tk)/\F t b)
  {rb rt:List Nat} (h:(appendRD E d e' r by' bdeep (bl.map fun t=>(t,some TS.spent)) wr xs (s.ev y)).R s rb rt e fp):Sim E o s e:=by
 have fin:∀(ys:List r.D) (sl:List Nat) (sdeep:Bool) (rt:List Nat),
   (∀R β τ F S (a:Act) w,Mem R (lookB s.B) (lookT s.T) β τ F S w->(∀y,V3 (s.ctx w S β τ) (s.ev y) (a.eval y))->Elems w S (a.eval y) r ys/\(sdeep=true->r.flatB=true\/ ∃t tk,t∈sl/\t∉bl/\lookT s.T t=some (.live tk)/\Deep w (F t) (a.eval y) (.pv (.sl r) ys)))->
   (need (room xs.length ys.length by') (if E.wr d=wr then newTok E d r (xs++ys) e' (bdeep&&sdeep) ((bl++sl).map fun t=>(t,some TS.spent))else .fail)).R s rb rt e fp->Sim E o s e:=fun ys sl sdeep rt hs h=>by
  obtain⟨⟨h1,h2⟩,h3⟩:=h
  split at h3
  .rename_i hwr
   exact jqG c ho hc x y hx T hT ty hty e' r by' he d hdst xs ys bl sl wr bdeep sdeep hbase hs h1 h2 hwr h3
  .exact h3.elim
 unfold appendRD at h
 simp only at h
 split at h
 .rename_i n hy
  simp only[RD.R]at h
  split at h
  case h_2=>exact h.elim
  rename_i tk htk
  split at h
  case isFalse=>exact h.elim
  rename_i et
  obtain⟨et,etr⟩:=et
  subst et
  have hel:∀R β τ F S (a:Act) w,Mem R (lookB s.B) (lookT s.T) β τ F S w->(∀y,V3 (s.ctx w S β τ) (s.ev y) (a.eval y))->a.eval y=τ n/\TokOk R.fr w S tk (τ n) (F n):=fun R β τ F S a w hM hev=>by
   have h1:=hev y;rw[hy]at h1
   exact⟨(v3_mtk h1).2.2 tk htk,hM.toks n tk htk⟩
  split at h
  .rename_i hfl
   refine fin tk.xs [] true _ (fun R β τ F S a w hM hev=>?_) (by simpa using h)
   obtain⟨h1,h2⟩:=hel R β τ F S a w hM hev
   exact⟨by rw[h1];exact Elems.of_tok h2 etr,fun _=>.inl hfl⟩
  .rename_i hfl
   split at h
   .exact h.elim
   .rename_i hany
    refine fin tk.xs [n] tk.deep _ (fun R β τ F S a w hM hev=>?_) (by simpa using h)
    obtain⟨h1,h2⟩:=hel R β τ F S a w hM hev
    exact⟨by rw[h1];exact Elems.of_tok h2 etr,fun hd=>.inr ⟨n,tk,by simp,any_spent (Bool.eq_false_iff.2 hany),htk,by rw[h1];exact h2.deepOf etr hd⟩⟩
 .rename_i n r' zs hy
  split at h
  case isFalse=>exact h.elim
  rename_i et
  subst et
  have hel:∀R β τ F S (a:Act) w,Mem R (lookB s.B) (lookT s.T) β τ F S w->(∀y,V3 (s.ctx w S β τ) (s.ev y) (a.eval y))->Elems w S (a.eval y) r' zs/\∀tk,lookT s.T n=some (.live tk)->a.eval y=τ n/\TokOk R.fr w S tk (τ n) (F n)/\(⟨tk.t,tk.xs⟩:(t:Tp)×List t.D)=⟨r',zs⟩/\tk.wr=false:=fun R β τ F S a w hM hev=>by
   have h1:=hev y;rw[hy]at h1
   obtain⟨g1,g2,g3⟩:=v3_own h1
   exact⟨Elems.of_rep g1,fun tk htk=>⟨(g3 tk htk).2.1,hM.toks n tk htk,(g3 tk htk).2.2,(g3 tk htk).1⟩⟩
  split at h
  .rename_i hfl
   exact fin zs [] true _ (fun R β τ F S a w hM hev=>⟨(hel R β τ F S a w hM hev).1,fun _=>.inl hfl⟩) (by simpa using h)
  .rename_i hfl
   split at h
   .exact h.elim
   .rename_i hany
    simp only[RD.R]at h
    refine fin zs [n] (deepOf (lookT s.T n)) (n::rt) (fun R β τ F S a w hM hev=>?_) (by simp only[zaK,zv,zck];exact h)
    obtain⟨h1,h2⟩:=hel R β τ F S a w hM hev
    refine⟨h1,fun hd=>?_⟩
    cases ht:lookT s.T n with
    |none=>rw[ht]at hd;cases hd
    |some z=>cases z with
     |spent=>rw[ht]at hd;cases hd
     |live tk=>
      rw[ht]at hd
      obtain⟨k1,k2,k3,k4⟩:=h2 tk ht
      refine .inr ⟨n,tk,by simp,any_spent (Bool.eq_false_iff.2 hany),ht,?_⟩
      have:=k2.deepOf (k2.plain k4) hd
      rw[k1]
      exact je3 this k3
 .split at h
  case h_2=>exact h.elim
  rename_i ys hys
  refine fin ys [] r.flatB _ (fun R β τ F S a w hM hev=>⟨Elems.of_rep (as_sl (c:=s.ctx w S β τ) hys (hev y)),fun h=>.inl h⟩) (by simpa using h)
theorem tokOk_cast {Fr:Nat->Prop} {w:World} {S:Stab} {tk:Tok} {v:Value} {F:Nat->Prop} (h:TokOk Fr w S tk v F) {r:Tp} {xs:List r.D} (hc:(⟨tk.t,tk.xs⟩:(t:Tp)×List t.D)=⟨r,xs⟩):TokOk Fr w S ⟨r,xs,tk.e,tk.wr,tk.deep,tk.tr⟩ v F:=by
 obtain⟨t,ys,e',wr,deep,tr⟩:=tk
 simp only[Sigma.mk.injEq]at hc
 obtain⟨rfl,h2⟩:=hc
 cases h2
 exact h
theorem jkN (hE:EnvOk E) (c:Call) (ho:o.op= .call c) (hc:c.callee= .builtin .append)
  (htree:∀(d:Nat) (x y:Operand) (T:TypeId) (ty:Ty) (e':TypeId) (r:Tp) (by' t:Nat) (tk:Tok),o.dst=some d->c.args.toList=[x,y]->c.argTypes.toList=[T,T]->E.ty T=some ty->ty.elem=some (e',r,by')->s.ev x= .mtk t->lookT s.T t=some (.live tk)->(er:tk.t=r/\tk.tr=some [])->tk.e=e'->(appendTree E d e' r by' t (er.1▸tk.xs) (s.ev y)).R s [] [t] e fp->Sim E o s e)
  (hsub:∀(d:Nat) (x y:Operand) (T:TypeId) (ty:Ty) (e':TypeId) (r:Tp) (by' t k:Nat) (tk:Tok),o.dst=some d->c.args.toList=[x,y]->c.argTypes.toList=[T,T]->E.ty T=some ty->ty.elem=some (e',r,by')->s.ev x= .sub t 0 k->lookT s.T t=some (.live tk)->tk.t=r->tk.tr=none->tk.wr=true->tk.t.flatB=true->E.wr d=true->(appendSub E d t k tk (s.ev y)).R s [] [t] e fp->Sim E o s e)
  (h:(opRD E o.op o.dst s.ev).R s [] [] e fp):Sim E o s e:=by
 rw[ho]at h
 simp only[opRD,hc]at h
 split at h
 case h_2=>exact h.elim
 rename_i d x y T T' hdst hx hTT
 split at h
 case isFalse=>exact h.elim
 rename_i eT
 subst eT
 split at h
 case h_2=>exact h.elim
 rename_i ty hty
 have hTy:=hE.ty T ty hty
 split at h
 case h_2=>exact h.elim
 rename_i e' r by' he
 split at h
 .rename_i t r' xs hxv
  simp only[RD.R]at h
  split at h
  case h_2=>exact h.elim
  rename_i tk htk
  split at h
  case isFalse=>exact h.elim
  rename_i er
  subst er
  split at h
  case isFalse=>exact h.elim
  rename_i ee
  refine jdl hE c ho hc x y hx T hTT ty hTy e' r' by' he d hdst xs [t] false tk.deep (fun R β τ F S a w hM hev=>?_) h
  have h1:=hev x;rw[hxv]at h1
  obtain⟨g1,g2,g3⟩:=v3_own h1
  obtain⟨k1,k2,k3⟩:=g3 tk htk
  have hpl:=(hM.toks t tk htk).plain k1
  have:=tokOk_cast (hM.toks t tk htk) k3
  rw[k1,ee,hpl]at this
  refine⟨F t,?_,fun b hb=>⟨t,tk,by simp,htk,hb⟩⟩
  rw[k2];exact this
 .rename_i t hxv
  simp only[RD.R]at h
  split at h
  case h_2=>exact h.elim
  rename_i tk htk
  split at h
  case isFalse=>
   split at h
   case isFalse=>exact h.elim
   rename_i er
   split at h
   case isFalse=>exact h.elim
   rename_i ee
   exact htree d x y T ty e' r by' t tk hdst hx hTT hty he hxv htk er ee h
  rename_i er
  obtain⟨er,etr⟩:=er
  subst er
  split at h
  case isFalse=>exact h.elim
  rename_i ee
  refine jdl hE c ho hc x y hx T hTT ty hTy e' tk.t by' he d hdst tk.xs [t] tk.wr tk.deep (fun R β τ F S a w hM hev=>?_) h
  have h1:=hev x;rw[hxv]at h1
  obtain⟨g1,g2,g3⟩:=v3_mtk h1
  have:=hM.toks t tk htk
  refine⟨F t,?_,fun b hb=>⟨t,tk,by simp,htk,hb⟩⟩
  have e2:(⟨tk.t,tk.xs,e',tk.wr,tk.deep,none⟩:Tok)=tk:=by rw[<-ee,<-etr]
  rw[g3 tk htk,e2];exact this
 .rename_i hxv
  refine jdl hE c ho hc x y hx T hTT ty hTy e' r by' he d hdst [] [] (E.wr d) true (fun R β τ F S a w hM hev=>?_) h
  have h1:=hev x;rw[hxv]at h1
  exact⟨fun _=>False,⟨fun _ h=>h.elim,.inl ⟨h1,rfl⟩,fun _=>by rw[h1];exact .nil _ _⟩,fun _ h=>h.elim⟩
 .rename_i t lo k hxv
  simp only[RD.R]at h
  split at h
  case h_2=>exact h.elim
  rename_i tk htk
  split at h
  case isFalse=>exact h.elim
  rename_i hc1
  obtain⟨c1,c2,c3,c4,c5,c6⟩:=hc1
  subst c6
  exact hsub d x y T ty e' r by' t k tk hdst hx hTT hty he hxv htk c1 c2 c3 c4 c5 h
 .exact h.elim
end
section
variable {E : Env} {o : Oper} {s : LSt} {e : Eff} {fp : FP}
theorem TokOk.deepTree {Fr:Nat->Prop} {w:World} {S:Stab} {tk:Tok} {v:Value} {F:Nat->Prop} (h:TokOk Fr w S tk v F) (htr:tk.tr=some []):Deep w F v (.pv (.sl tk.t) tk.xs):=by
 obtain⟨hF,hk,hon⟩:=h
 unfold Once at hon
 rw[htr]at hon
 obtain⟨_,_,_,hT⟩:=hon
 rcases hk with⟨e1,e2⟩|⟨b,cap,vs,T,e1,h1,hg,hz,hn,hm,hst,hwr,hc⟩
 .rw [e1,e2];exact .nil _ _
 .rcases hT with hT|⟨b',cap',q,e',hq,hd,hcc⟩
  .rw [hT]at e1;cases e1
  .rw [e']at e1;cases e1
   rw[e']
   have key:∀(i j:Nat) (x:tk.t.D) (c:AV),tk.xs[i]? =some x->(cellsOf tk.t x)[j]? =some c->∃u,vs[i*tk.t.w+j]? =some u/\Deep w (q i j) u c:=fun i j x c hx hc'=>by
    obtain⟨u,g1,g2,g3⟩:=hcc i j x c hx hc'
    rw[cell_of_row w b _ vs T (0,0) hg]at g1
    exact⟨u,g1,g3 (Inn.nil _ _)⟩
   refine .sl F cap tk.t tk.xs (fun i j=>(vs[i*tk.t.w+j]?).getD undef) b q vs T h1 hg hz hn hm (fun i j x c hx hc'=>?_) hq hd (fun i j x c hx hc'=>?_)
   .obtain ⟨u,k1,_⟩:=key i j x c hx hc'
    rw[k1];rfl
   .obtain ⟨u,k1,k2⟩:=key i j x c hx hc'
    simp only[k1,za8]
    exact k2
def Tok.only (tk:Tok):Prop:=∀hs i o d,tk.tr=some hs->(i,o,d)∈hs->d=gone
theorem Mem.turn {R:Root} {w w':World} {S S':Stab} {box:Nat->Option BS} {tok:Nat->Option TS} {β:Nat->Nat} {τ:Nat->Value} {F:Nat->Nat->Prop} (hM:Mem R box tok β τ F S w) (n:Nat) (tk tk':Tok) (htk:tok n=some (.live tk)) (l:List Nat) (hnl:n∉l) (X:Nat->Prop) (hstep:Step X S S' w w') (hX:∀k,X k->F n k)
  (G:Nat->Prop) (hG:∀b,G b->F n b\/ ∃t tk1,t∈l/\tok t=some (.live tk1)/\F t b) (hk':TokOk R.fr w' S' tk' (τ n) G) (ht:tk'.t=tk.t) (hc:tk.wr=false->tk'.wr=false/\(⟨tk'.t,tk'.xs⟩:(t:Tp)×List t.D)=⟨tk.t,tk.xs⟩)
  (hh:∀hs' i o d,tk'.tr=some hs'->(i,o,d)∈hs'->d≠gone->∃hs,tk.tr=some hs/\(i,o,d)∈hs/\∀b l cap,τ n= .slice (some ⟨b,0,none⟩) l cap->w'.cell? ⟨b,i*tk.t.w+o,none⟩=w.cell? ⟨b,i*tk.t.w+o,none⟩):
  Mem R box (updT (spend tok l) n (some (.live tk'))) β τ (fun t=>if t=n then G else F t) S' w'/\TokLe ⟨w,S,fun k=>box k≠none,β,tok,τ⟩ ⟨w',S',fun k=>box k≠none,β,updT (spend tok l) n (some (.live tk')),τ⟩:=by
 have hF:=(hM.toks n tk htk).1
 have hne:∀k b,box k=some b->¬F n (β k):=fun k b hk h=>hM.tbox n tk k b htk hk h
 have hM1:=hM.drop (tok':=spend tok (n::l)) (fun t ht=>spend_used ht) (fun t tk h=>(spend_live h).2)
 have hM2:=hM1.step hstep (fun k hk=>(hF k (hX k hk)).1) (fun k b hk h=>hne k b hk (hX _ h)) (fun t tk' ht k hk hk'=>(spend_live ht).1 (by simp[hM.tdis t n tk' tk k (spend_live ht).2 htk hk (hX k hk')]))
 have old:∀ {t tk1},t≠n->updT (spend tok l) n (some (TS.live tk')) t=some (.live tk1)->t∉l/\tok t=some (.live tk1):=fun {t tk1} e h=>by
  simp only[updT,e,if_false]at h
  exact spend_live h
 have old':∀ {t tk1},updT (spend tok l) n (some (TS.live tk')) t=some (.live tk1)->∃tk2,tok t=some (.live tk2):=fun {t tk1} h=>by
  by_cases e:t=n
  .exact ⟨tk,e▸htk⟩
  .exact ⟨tk1,(old e h).2⟩
 have used:∀ {t},tok t≠none->updT (spend tok l) n (some (TS.live tk')) t≠none:=fun {t} h=>by
  by_cases e:t=n
  .subst e;simp[updT]
  .simp only [updT,e,if_false];exact spend_used h
 have hle:TokLe ⟨w,S,fun k=>box k≠none,β,tok,τ⟩ ⟨w',S',fun k=>box k≠none,β,updT (spend tok l) n (some (.live tk')),τ⟩:=fun t ht1=>⟨used ht1,fun tk1 h1=>by
  have h1:updT (spend tok l) n (some (TS.live tk')) t=some (.live tk1):=h1
  by_cases e:t=n
  .subst e
   simp[updT]at h1;subst h1
   exact⟨tk,htk,rfl,ht,hc⟩
  .exact ⟨tk1,(old e h1).2,rfl,rfl,fun h=>⟨h,rfl⟩⟩⟩
 refine⟨⟨hM2.upd,hM2.old,hM2.new,hM2.keep,hM2.lt,fun k b hk=>?_,hM.binj,fun t tk1 ht1=>?_,fun t t' tk1 tk2 b h1 h2 f1 f2=>?_,fun t tk1 k b ht1 hk f1=>?_,hM.bfix,fun t v tk1 hv ht1=>?_,fun m tkm hs i o d hm htr hin hng=>?_⟩,hle⟩
 .obtain ⟨h1,h2,h2',hB⟩:=hM.boxes k b hk
  obtain⟨k1,k2,k3,_⟩:=hM2.boxes k b hk
  exact⟨k1,k2,k3,hB.imp (hstep.upd.block _ (hM.blt hk) (fun h=>hne k b hk (hX _ h))) fun x u hx=>⟨V1.mono (c:=⟨w,S,fun k=>box k≠none,β,tok,τ⟩) (c':=⟨w',S',fun k=>box k≠none,β,updT (spend tok l) n (some (.live tk')),τ⟩) ⟨hstep.old,hstep.cell⟩ (BoxLe.refl rfl rfl) hle hx.1,hx.2⟩⟩
 .by_cases e:t=n
  .subst e
   simp[updT]at ht1;subst ht1
   simpa using hk'
  .have h1:=old e ht1
   have:=(hM.toks t tk1 h1.2).step hstep (fun k hk hk'=>e (hM.tdis t n tk1 tk k h1.2 htk hk (hX k hk')))
   simpa[e]using this
 .by_cases e1:t=n<;>by_cases e2:t'=n
  .rw [e1,e2]
  .simp only [e1,if_true]at f1
   simp only[e2,if_false]at f2
   have h2:=old e2 h2
   rcases hG b f1 with g|⟨t1,tk3,g1,g2,g3⟩
   .exact absurd (hM.tdis t' n tk2 tk b h2.2 htk f2 g) e2
   .exact absurd (hM.tdis t' t1 tk2 tk3 b h2.2 g2 f2 g3▸g1) h2.1
  .simp only [e1,if_false]at f1
   simp only[e2,if_true]at f2
   have h1:=old e1 h1
   rcases hG b f2 with g|⟨t1,tk3,g1,g2,g3⟩
   .exact absurd (hM.tdis t n tk1 tk b h1.2 htk f1 g) e1
   .exact absurd (hM.tdis t t1 tk1 tk3 b h1.2 g2 f1 g3▸g1) h1.1
  .simp only [e1,if_false]at f1
   simp only[e2,if_false]at f2
   exact hM.tdis t t' tk1 tk2 b (old e1 h1).2 (old e2 h2).2 f1 f2
 .by_cases e:t=n
  .simp only [e,if_true]at f1
   rcases hG _ f1 with g|⟨t1,tk3,g1,g2,g3⟩
   .exact hne k b hk g
   .exact hM.tbox t1 tk3 k b g2 hk g3
  .simp only [e,if_false]at f1
   exact hM.tbox t tk1 k b (old e ht1).2 hk f1
 .obtain ⟨tk2,h2⟩:=old' ht1
  exact hM.tfix t v tk2 hv h2
 .by_cases e:m=n
  .subst e
   simp[updT]at hm;subst hm
   obtain⟨hs0,g1,g2,g3⟩:=hh hs i o d htr hin hng
   obtain⟨k1,k2⟩:=hM.hol m tk hs0 i o d htk g1 g2 hng
   refine⟨used k1,fun td hd=>?_⟩
   obtain⟨td2,hd2⟩:=old' hd
   obtain⟨b,l,cap,e1,e2⟩:=k2 td2 hd2
   exact⟨b,l,cap,e1,by rw[ht];exact(g3 b l cap e1).trans e2⟩
  .have h1:=old e hm
   obtain⟨k1,k2⟩:=hM.hol m tkm hs i o d h1.2 htr hin hng
   refine⟨used k1,fun td hd=>?_⟩
   obtain⟨td2,hd2⟩:=old' hd
   obtain⟨b,l,cap,e1,e2⟩:=k2 td2 hd2
   have hF':=(hM.toks m tkm h1.2).block e1
   exact⟨b,l,cap,e1,(World.cell?_of_block (w:=w) (hstep.upd.block b ((hM.toks m tkm h1.2).1 b hF').2 (fun hx=>e (hM.tdis m n tkm tk b h1.2 htk hF' (hX b hx))))).trans e2⟩
theorem Mem.setTok {R:Root} {w w':World} {S S':Stab} {box:Nat->Option BS} {tok:Nat->Option TS} {β:Nat->Nat} {τ:Nat->Value} {F:Nat->Nat->Prop} (hM:Mem R box tok β τ F S w) (n:Nat) (tk tk':Tok) (htk:tok n=some (.live tk)) (X:Nat->Prop) (hstep:Step X S S' w w') (hX:∀k,X k->F n k)
  (hk':TokOk R.fr w' S' tk' (τ n) (F n)) (ht:tk'.t=tk.t) (hc:tk.wr=false->tk'.wr=false/\(⟨tk'.t,tk'.xs⟩:(t:Tp)×List t.D)=⟨tk.t,tk.xs⟩) (hp:tk'.tr=none):Mem R box (updT tok n (some (.live tk'))) β τ F S' w':=by
 have h:=(hM.turn n tk tk' htk [] (by simp) X hstep hX (F n) (fun b hb=>.inl hb) hk' ht hc (fun hs' i o d h=>by rw[hp]at h;cases h)).1
 have e1:spend tok []=tok:=by funext t;simp[spend]
 have e2:(fun t=>if t=n then F n else F t)=F:=by
  funext t
  by_cases e:t=n
  .rw [zf e,e]
  .rw [zu e]
 rw[e1,e2]at h
 exact h
theorem lit_rep {w:World} {S S':Stab} {v:Value} {p:PV} (h:Rep w S v p) (hp:p.isLit=true):Rep w S' v p:=by
 rw[rep_litV h hp];exact Rep.ofLit hp
theorem Mem.freezeTok {R:Root} {w:World} {S:Stab} {box:Nat->Option BS} {tok:Nat->Option TS} {β:Nat->Nat} {τ:Nat->Value} {F:Nat->Nat->Prop} (hM:Mem R box tok β τ F S w) (n:Nat) (tk:Tok) (htk:tok n=some (.live tk)) (hwh:tk.whole=true):
  ∃S',Mem R box (updT tok n (some (.live tk.fz0))) β τ F S' w/\(∀b o,S b o->S' b o)/\TokOk R.fr w S' tk.fz0 (τ n) (F n):=by
 have hk:=hM.toks n tk htk
 cases hw:tk.wr with
 |false=>
  have hp:=hk.plain hw
  have e1:tk.fz0=tk:=by cases tk;simp only at hw hp;simp only[Tok.fz0,hw,hp]
  refine⟨S,?_,fun _ _ h=>h,by rw[e1];exact hk⟩
  have:updT tok n (some (.live tk.fz0))=tok:=by
   funext j
   by_cases h:j=n
   .subst h;simp only[updT,if_true];rw[e1];exact htk.symm
   .simp only [updT,h,if_false]
  rw[this];exact hM
 |true=>
  have hk0:=hk
  obtain⟨hF,hk,hon⟩:=hk
  obtain⟨S',hS'⟩:∃S':Stab,S'=fun b o=>S b o\/(F n b/\((∀l cap,τ n= .slice (some ⟨b,0,none⟩) l cap->o<tk.xs.length*tk.t.w)/\(tk.tr≠none\/ ∃l cap,τ n= .slice (some ⟨b,0,none⟩) l cap))):=⟨_,rfl⟩
  have hSo:∀b o,S b o->S' b o:=fun b o h=>by rw[hS'];exact .inl h
  have hstep:Step (fun b=>F n b) S S' w w:=⟨Upd.refl _ _,fun _ _ _=>rfl,hSo,fun b o h=>by
   rw[hS']at h
   rcases h with h|h
   .exact .inl h
   .exact .inr (.inr h.1),fun b o h=>by
   rw[hS']at h
   rcases h with h|h
   .exact hM.lt b o h
   .exact (hF b h.1).2⟩
  have hTk:TokOk R.fr w S' tk.fz0 (τ n) (F n):=by
   refine⟨hF,?_,?_⟩
   .rcases hk with⟨e1,e2⟩|⟨b,cap,vs,T,e1,h1,hg,hz,hn,hm,hst,hwr,hc⟩
    .exact .inl ⟨e1,e2⟩
    .refine .inr ⟨b,cap,vs,T,e1,h1,hg,hz,hn,hm,fun _ o ho=>?_,(fun h=>by cases h),fun i j x p hx hp=>?_⟩
     .rw [hS']at ho
      rcases ho with ho|ho
      .exact absurd ho (hwr hw o)
      .exact ho.2.1 _ _ e1
     .obtain ⟨u,k1,k2,_⟩:=hc i j x p hx hp
      have hi:i<tk.xs.length:=(zh.1 hx).1
      have hj:j<tk.t.w:=by have:=(zh.1 hp).1;rwa[enc_len]at this
      have hlt:i*tk.t.w+j<tk.xs.length*tk.t.w:=by
       have:(i+1)*tk.t.w<=tk.xs.length*tk.t.w:=zag _ hi
       rw[zaO]at this;omega
      refine⟨u,k1,fun _=>?_,fun _=>?_⟩
      ·
       cases htr:tk.tr with
       |none=>exact(k2 htr).mono hSo (fun _ _ _=>rfl)
       |some hs=>
        have hs0:hs=[]:=by
         unfold Tok.whole at hwh
         rw[htr]at hwh
         cases hs with
         |nil=>rfl
         |cons _ _=>cases hwh
        subst hs0
        unfold Once at hon
        rw[htr]at hon
        obtain⟨_,_,hFS,hT⟩:=hon
        rcases hT with hT|⟨b',cap',q,e',hq,hd,hcc⟩
        .rw [hT]at e1;cases e1
        .rw [e']at e1;cases e1
         obtain⟨c,hc'⟩:=cells_at (r:=tk.t) x hj
         obtain⟨u',g1,g2,g3⟩:=hcc i j x c hx hc'
         rw[cell_of_row w b _ vs T (0,0) hg]at g1
         have k1:vs[i*tk.t.w+j]? =some u:=k1
         rw[k1]at g1
         cases g1
         obtain⟨t0,x0,p0,h4,h5,h6⟩:=(g3 (Inn.nil _ _)).rep (S:=S') (fun k o hk=>by
          rw[hS']
          refine .inr ⟨(hq i j k hk).1,fun l cap' e2=>?_,.inl (by rw[htr];simp)⟩
          rw[e']at e2;cases e2
          exact absurd rfl (hq i j b hk).2)
         obtain⟨t1,x1,h7,h8⟩:=(cells_enc tk.t x).get' j c p hc' hp
         rw[h7]at h4;cases h4
         rw[h8]at h5;cases h5
         exact h6
      .rw [hS']
       exact .inr ⟨h1,fun l cap' e2=>hlt,.inr ⟨_,_,e1⟩⟩
   .unfold Once
    show(tk.deep=true->Deep w (F n) (τ n) (.pv (.sl tk.t) tk.xs))
    intro hd
    unfold Once at hon
    cases htr:tk.tr with
    |none=>rw[htr]at hon;exact hon hd
    |some hs=>
     have hs0:hs=[]:=by
      unfold Tok.whole at hwh
      rw[htr]at hwh
      cases hs with
      |nil=>rfl
      |cons _ _=>cases hwh
     subst hs0
     rw[htr]at hon
     exact hk0.deepTree htr
  exact⟨S',hM.setTok n tk tk.fz0 htk _ hstep (fun _ h=>h) hTk rfl (fun h=>by rw[hw]at h;cases h) rfl,hSo,hTk⟩
theorem jtk {c:Ctx} {S':Stab} {n:Nat} {tk:Tok} (htk:c.tok n=some (.live tk)) (hpl:tk.wr=false->tk.tr=none):TokLe c ⟨c.w,S',c.live,c.β,updT c.tok n (some (.live tk.fz0)),c.τ⟩:=fun t ht=>by
 by_cases e:t=n
 .subst e
  refine⟨by simp[updT],fun tk' h=>?_⟩
  simp[updT]at h;subst h
  exact⟨tk,htk,rfl,rfl,fun h=>⟨rfl,rfl⟩⟩
 .simp only [updT,e,if_false]
  exact⟨ht,fun tk' h=>⟨tk',h,trivial,rfl,fun h=>⟨h,rfl⟩⟩⟩
theorem Deep.head {w:World} {F:Nat->Prop} {b cap:Nat} {r:Tp} {xs:List r.D} (h:Deep w F (.slice (some ⟨b,0,none⟩) xs.length cap) (.pv (.sl r) xs)) (k:Nat) (hk:k<=xs.length):Deep w F (.slice (some ⟨b,0,none⟩) k cap) (.pv (.sl r) (xs.take k)):=by
 obtain⟨v,hv⟩:∃v,v=Value.slice (some ⟨b,0,none⟩) xs.length cap:=⟨_,rfl⟩
 rw[<-hv]at h
 cases h with
 |lit _ _ _ _ p he hl hv'=>cases he;cases hl
 |nil _ _=>cases hv
 |sl _ cap' _ _ u b' q vs T hb hg hz hc hx hu hq hd hr=>
  cases hv
  have hl:(xs.take k).length=k:=by simp;omega
  have get:∀ {i:Nat} {x:r.D},(xs.take k)[i]? =some x->xs[i]? =some x:=fun {i x} h=>by
   rw[zaH]at h
   split at h
   .exact h
   .cases h
  have:=Deep.sl F cap r (xs.take k) u b q vs T hb hg hz (by omega) hx (fun i j x c h1 h2=>hu i j x c (get h1) h2) hq hd (fun i j x c h1 h2=>hr i j x c (get h1) h2)
  rwa[hl]at this
theorem TokOk.head {Fr:Nat->Prop} {w:World} {S:Stab} {tk:Tok} {v:Value} {F:Nat->Prop} (h:TokOk Fr w S tk v F) (hw:tk.wr=true) (ht:tk.tr=none) (k:Nat) (hk:k<=tk.xs.length) {ad:Option Addr} {cap m:Nat} (hv:v= .slice ad tk.xs.length cap):
  TokOk Fr w S ⟨tk.t,tk.xs.take k,tk.e,true,tk.deep,none⟩ (.slice (cutAddr ad cap 0 m) k (cap-0)) F:=by
 have hdp:=fun hd=>h.deepOf ht hd
 obtain⟨h1,h2,_⟩:=h
 rcases h2 with⟨e1,e2⟩|⟨b,cap',vs,T,e1,hb,hg,hz,hn,hm,hst,hwr,hc⟩
 .rw [e1,show tk.xs.length=0 by rw[e2];rfl]at hv
  cases hv
  have hk0:k=0:=by rw[e2]at hk;simpa using hk
  subst hk0
  refine⟨h1,.inl ⟨?_,by simp⟩,?_⟩
  .simp [cutAddr]
  .show (tk.deep=true->Deep w F _ (.pv (.sl tk.t) (tk.xs.take 0)))
   intro _
   have:(.slice (cutAddr none 0 0 m) 0 (0-0):Value)= .slice none 0 0:=by simp[cutAddr]
   rw[this]
   exact .nil _ _
 .rw [e1]at hv
  cases hv
  have ea:cutAddr (some ⟨b,0,none⟩) cap 0 m=some ⟨b,0,none⟩:=by
   unfold cutAddr
   split
   .rfl
   .simp [add_ptr]
  have get:∀ {i:Nat} {x:tk.t.D},(tk.xs.take k)[i]? =some x->tk.xs[i]? =some x:=fun {i x} h=>by
   rw[zaH]at h
   split at h
   .exact h
   .cases h
  rw[ea,Nat.sub_zero]
  refine⟨h1,.inr ⟨b,cap,vs,T,by simp;omega,hb,hg,hz,by simp;omega,hm,(fun h=>by cases h),fun _=>hwr hw,fun i j x p hx hp=>?_⟩,?_⟩
  .obtain ⟨u,k1,k2,_⟩:=hc i j x p (get hx) hp
   exact⟨u,k1,fun _=>k2 ht,fun h=>by cases h⟩
  .show (tk.deep=true->Deep w F _ (.pv (.sl tk.t) (tk.xs.take k)))
   intro hd
   have:=hdp hd
   rw[e1]at this
   exact this.head k hk
theorem jkb {dst:Option Nat} {lo:Option Operand} {wr:Bool} {d:Nat} (h:keepName E dst lo wr=some d):dst=some d/\lo=none/\E.wr d=true/\wr=true:=by
 unfold keepName at h
 split at h
 .split at h
  .rename_i hc
   cases h
   simp only[zj]at hc
   exact⟨rfl,rfl,hc.1,hc.2⟩
  .cases h
 .cases h
theorem js1 (hE:EnvOk E) (T:TypeId) (x:Operand) (lo hi:Option Operand) (ho:o.op= .slice T x lo hi none) (h:(opRD E o.op o.dst s.ev).R s [] [] e fp):Sim E o s e:=by
 rw[ho]at h
 simp only[opRD]at h
 split at h
 case h_2=>exact h.elim
 rename_i ty hty
 have hTy:=hE.ty T ty hty
 split at h
 .rename_i b hx
  split at h
  case isFalse=>exact h.elim
  rename_i hstr
  obtain⟨l,h,hl⟩:=optInt_R h
  obtain⟨q,h,hq⟩:=optInt_R h
  obtain⟨y,hy,h⟩:=h
  cases val_R h
  obtain⟨h0,h1,h2,rfl⟩:=cut_some hy
  refine sim_val fun c a w hw hev=>?_
  have hv:a.eval x= .string (bytes b):=v3_str (hx▸hev x)
  have hr:=run_bounds (P:=E.P) w a false b.length b.length lo hi l q (hl c a hev) (hq c a hev) h0 h1 h2 (zae _)
  refine⟨.string ((bytes b).extract l.toNat q.toNat),?_,?_⟩
  .simp only [execOp,ho,Instr.sliceAt,Sem.run_bind,run_underlying (hTy.str hstr),Result.andThen_ok,Instr.slice,hv,Option.map_none,Option.isSome_none,za7,if_false,bytes_size,hr,Sem.run_pure]
  .have:(bytes b).extract l.toNat q.toNat=bytes ((b.take q.toNat).drop l.toNat):=by
    apply Go.WideShapes.bytes_inj
    rw[ByteArray.data_extract,Array.toList_extract]
    simp only[bytes,List.extract,List.drop_take]
   rw[this];exact mk_str c _
 .split at h
  case h_2=>exact h.elim
  rename_i e' r by' he
  obtain⟨hu,hpos,ie,z,hie,hsz,_⟩:=hTy.elem _ _ _ he
  split at h
  .rename_i n hx
   simp only[RD.R]at h
   split at h
   case h_2=>exact h.elim
   rename_i tk htk
   split at h
   case isFalse=>exact h.elim
   rename_i et
   obtain⟨et,etr⟩:=et
   subst et
   have hwh:tk.whole=true:=by unfold Tok.whole;rw[etr]
   obtain⟨l,h,hl⟩:=optInt_R h
   obtain⟨q,h,hq⟩:=optInt_R h
   obtain⟨y,hy,h⟩:=h
   obtain⟨h0,h1,h2,hyy⟩:=cut_some hy
   split at h
   .rename_i d hkn
    obtain⟨hdst,hlo,hwrd,hwr⟩:=jkb hkn
    obtain⟨hd,hfr,hres,rfl⟩:=newTok_R h
    rw[hwrd]
    rintro R a w hR0 ⟨β,τ,F,S,hM,hn,hdf,hs⟩ K Q hK
    have hev:=V3_ev hs
    have hxv:=hev x;rw[hx]at hxv
    have ev:=(v3_mtk hxv).2.2 tk htk
    have hl0:l=0:=by
     rcases hl (s.ctx w S β τ) a hev with⟨_,e⟩|⟨y',k,e,_⟩
     .exact e
     .rw [hlo]at e;cases e
    subst hl0
    have hk:=hM.toks n tk htk
    obtain⟨ad,cap,hv,hcap⟩:∃ad cap,τ n= .slice ad tk.xs.length cap/\tk.xs.length<=cap:=by
     rcases hk.2.1 with⟨e1,e2⟩|⟨b,cap,vs,T',e1,_,_,_,hn,_⟩
     .exact ⟨none,0,by rw[e1,e2];rfl,by rw[e2];exact zae _⟩
     .exact ⟨_,cap,e1,hn⟩
    have hrun:=run_cut (E:=E) T x lo hi ho e' ie hu hie a w ad tk.xs.length cap (ev.trans hv) 0 q (hl (s.ctx w S β τ) a hev) (hq (s.ctx w S β τ) a hev) h0 h1 h2 hcap
    have hTk:=hk.head hwr etr q.toNat (by omega) (m:=ie.size) hv
    have hM1:=hM.drop (tok':=spend (lookT s.T) [n]) (fun t ht=>spend_used ht) (fun t tk h=>(spend_live h).2)
    have hTk':TokOk R.fr w S ⟨tk.t,y,tk.e,true,tk.deep,none⟩ (.slice (cutAddr ad cap (0:Int).toNat ie.size) (q.toNat-(0:Int).toNat) (cap-(0:Int).toNat)) (F n):=by
     rw[hyy];exact hTk
    exact wp_value hrun (hK _ _ (rel_newTok (s:=s) [n] hM1 hn hdf hs (fun _ _ _ _ _=>⟨fun _ _ h=>h,fun _ _ _=>rfl⟩) d hd (hR0.tn hres) ⟨tk.t,y,tk.e,true,tk.deep,none⟩ _ (F n) hTk' rfl
     (fun t tk' b htl ht hb hF=>htl (by simp[hM.tdis t n tk' tk b ht htk hF hb])) (fun k b hk hb=>hM.tbox n tk k b htk hk hb) o.dst (fun hin=>by simp only[zaD]at hin;rw[hin,htk]at hd;cases hd) _ rfl))
   cases hle:lends E o.dst with
   |true=>
    rw[hle]at h
    cases val_R h
    rintro R a w hR0 ⟨β,τ,F,S,hM,hn,hdf,hs⟩ K Q hK
    have hev:=V3_ev hs
    have hxv:=hev x;rw[hx]at hxv
    have ev:=(v3_mtk hxv).2.2 tk htk
    have hk:=hM.toks n tk htk
    obtain⟨ad,cap,hv,hcap⟩:∃ad cap,τ n= .slice ad tk.xs.length cap/\tk.xs.length<=cap:=by
     rcases hk.2.1 with⟨e1,e2⟩|⟨b,cap,vs,T',e1,_,_,_,hn,_⟩
     .exact ⟨none,0,by rw[e1,e2];rfl,by rw[e2];exact zae _⟩
     .exact ⟨_,cap,e1,hn⟩
    have hrun:=run_cut (E:=E) T x lo hi ho e' ie hu hie a w ad tk.xs.length cap (ev.trans hv) l q (hl (s.ctx w S β τ) a hev) (hq (s.ctx w S β τ) a hev) h0 h1 h2 hcap
    rw[hsz]at hrun
    refine wp_value hrun (hK _ _ (rel_put (e:=⟨.sub n l.toNat q.toNat,[],[]⟩) hM hn hdf hs o.dst (.inr ?_)))
    exact⟨rfl,by show lookT s.T n≠none;rw[htk];simp,fun tk' htk'=>by
     have e1:tk'=tk:=by
      have:some (TS.live tk')=some (.live tk):=htk'.symm.trans htk
      cases this;rfl
     subst e1
     exact⟨ad,tk'.xs.length,cap,hv,by omega,by omega,hcap,rfl⟩⟩
   |false=>
   rw[hle]at h
   obtain⟨rfl,_⟩:=h
   rintro R a w hR0 ⟨β,τ,F,S,hM,hn,hdf,hs⟩ K Q hK
   have hev:=V3_ev hs
   have hxv:=hev x;rw[hx]at hxv
   have ev:=(v3_mtk hxv).2.2 tk htk
   obtain⟨S',hM',hSS,hTk⟩:=hM.freezeTok n tk htk hwh
   have hrep:Rep w S' (τ n) (.sl (tk.xs.map (enc tk.t))):=hTk.rep rfl
   obtain⟨ad,cap,b,q',m,hv,hcap,_⟩:=hrep.opened
   simp only[zar]at hv hcap
   have hev':a.eval x= .slice ad tk.xs.length cap:=ev.trans hv
   have hrun:=run_cut (E:=E) T x lo hi ho e' ie hu hie a w ad tk.xs.length cap hev' l q (hl (s.ctx w S β τ) a hev) (hq (s.ctx w S β τ) a hev) h0 h1 h2 hcap
   rw[hsz]at hrun
   refine wp_value hrun (hK _ _ (rel_put (e:=⟨.pv (.sl tk.t) y,[],[(n,some (.live tk.fz0))]⟩) hM' hn hdf ?_ o.dst (.inr ⟨_,rfl,?_⟩)))
   .exact lift3 (c:=s.ctx w S β τ) (c':=⟨w,S',fun k=>lookB s.B k≠none,β,updT (lookT s.T) n (some (.live tk.fz0)),τ⟩) ⟨hSS,fun _ _ _=>rfl⟩ (BoxLe.refl rfl rfl) (jtk htk (fun _=>etr)) hs
   .exact cut_rep (by rw[<-hv];exact hrep) l q hy
  .split at h
   case h_2=>exact h.elim
   rename_i xs hxs
   obtain⟨l,h,hl⟩:=optInt_R h
   obtain⟨q,h,hq⟩:=optInt_R h
   obtain⟨y,hy,h⟩:=h
   cases val_R h
   obtain⟨h0,h1,h2,_⟩:=cut_some hy
   refine sim_val fun c a w hw hev=>?_
   have hrep:=as_sl hxs (hev x)
   obtain⟨ad,cap,b,q',m,hv,hcap,_⟩:=hrep.opened
   rw[zar]at hv hcap
   have hrun:=run_cut (E:=E) T x lo hi ho e' ie hu hie a w ad xs.length cap hv l q (hl c a hev) (hq c a hev) h0 h1 h2 hcap
   rw[hsz]at hrun
   exact⟨_,hrun,_,rfl,cut_rep (by rw[<-hv];exact hrep) l q hy⟩
theorem setTok_le {c:Ctx} {w':World} {S':Stab} {n:Nat} {tk tk':Tok} (htk:c.tok n=some (.live tk)) (ht:tk'.t=tk.t) (hc:tk.wr=false->tk'.wr=false/\(⟨tk'.t,tk'.xs⟩:(t:Tp)×List t.D)=⟨tk.t,tk.xs⟩):TokLe c ⟨w',S',c.live,c.β,updT c.tok n (some (.live tk')),c.τ⟩:=fun t ht1=>by
 by_cases e:t=n
 .subst e
  refine⟨by simp[updT],fun tk1 h=>?_⟩
  simp[updT]at h;subst h
  exact⟨tk,htk,rfl,ht,hc⟩
 .simp only [updT,e,if_false]
  exact⟨ht1,fun tk' h=>⟨tk',h,trivial,rfl,fun h=>⟨h,rfl⟩⟩⟩
theorem mkRow_rep {c:Ctx}:∀(t:Tp) (cs:List AV) (y:t.D) (vs:List Value),mkRow t cs=some y->All2 (V1c c) cs vs->All2 (fun v p=>Rep c.w c.S v p) vs (enc t y):=by
 have leaf:∀(t:Tp) (cs:List AV) (y:t.D) (vs:List Value),one t cs=some y->All2 (V1c c) cs vs->All2 (fun v p=>Rep c.w c.S v p) vs (enc t y):=fun t cs y vs h hv=>by
  match cs,vs,h,hv with
  | [a],[v],h,hv=>
   obtain⟨p,e,hr⟩:=as_rep (c:=c) (show a.as t=some y from h) (V3_of_V1 hv.1.1)
   rw[e];exact⟨hr,True.intro⟩
 intro t
 induction t with
 |bool=>exact leaf .bool
 |int k=>exact leaf (.int k)
 |str=>exact leaf .str
 |sl r _=>exact leaf (.sl r)
 |opt r _=>exact leaf (.opt r)
 |unit=>
  intro cs y vs h hv
  match cs,vs,h,hv with
  | [],[],_,_=>exact True.intro
 |pair a b iha ihb=>
  intro cs y vs h hv
  simp only[mkRow]at h
  split at h
  .rename_i x1 x2 h1 h2
   cases h
   have e1:=iha _ _ _ h1 (hv.take a.w)
   have e2:=ihb _ _ _ h2 (hv.drop a.w)
   have:=e1.append e2
   rwa[zaR]at this
  .cases h
 |q=>
  intro cs y vs h hv
  simp only[mkRow]at h
  match cs,vs,h,hv with
  | [k,f,ws,a,b,kids],[v1,v2,v3,v4,v5,v6],h,hv=>
   simp only[mkQ]at h
   split at h
   .rename_i k' f' ws' a' b' kids' g1 g2 g3 g4 g5 g6
    cases h
    obtain⟨i1,i2,i3,i4,i5,i6,_⟩:=hv
    obtain⟨p1,e1,r1⟩:=as_rep (c:=c) g1 (V3_of_V1 i1.1)
    obtain⟨p2,e2,r2⟩:=as_rep (c:=c) g2 (V3_of_V1 i2.1)
    obtain⟨p3,e3,r3⟩:=as_rep (c:=c) g3 (V3_of_V1 i3.1)
    obtain⟨p4,e4,r4⟩:=as_rep (c:=c) g4 (V3_of_V1 i4.1)
    obtain⟨p5,e5,r5⟩:=as_rep (c:=c) g5 (V3_of_V1 i5.1)
    obtain⟨p6,e6,r6⟩:=as_rep (c:=c) g6 (V3_of_V1 i6.1)
    simp only[enc,List.cons.injEq,and_true]at e1 e2 e3 e4 e5 e6
    refine⟨e1▸r1,e2▸r2,?_,e4▸r4,e5▸r5,?_,True.intro⟩
    .rw [<-e3]at r3;exact r3
    .rw [encQs_eq];rw[<-e6]at r6;exact r6
   .cases h
theorem jtR (hE:EnvOk E) (T:TypeId) (x y:Operand) (ho:o.op= .store T x y) (ty:Ty) (hty:E.ty T=some ty) (n i q:Nat) (hx:s.ev x= .mptr n i q) (ys:List AV) (hy:(s.ev y).cells? =some ys) (hn:ys.length=ty.size) (tk:Tok) (htk:lookT s.T n=some (.live tk)) (hwr:tk.wr=true) (etr:tk.tr=none) (hfl':tk.t.flatB=true\/tk.deep=false) (hqw:q+ty.size<=tk.t.w)
  (old:tk.t.D) (hold:tk.xs[i]? =some old) (y':tk.t.D) (hrow:mkRow tk.t ((cellsOf tk.t old).take q++ys++(cellsOf tk.t old).drop (q+ty.size))=some y') (hdst:o.dst=none):
  Sim E o s ⟨.tup [],[],[(n,some (.live {tk with xs:=tk.xs.set i y'}))]⟩:=by
 rintro R a w hR0 ⟨β,τ,F,S,hM,hsz,hdf,hs⟩ K Q hK
 have hev:=V3_ev hs
 have h:=hev x
 rw[hx]at h
 obtain⟨b',l,cap',ev,hil,hp⟩:=(v3_mptr h).2.2 tk htk
 rw[show(s.ctx w S β τ).τ n=τ n from rfl]at ev
 have hc:=cells_of hy (hev y)
 obtain⟨hF,hk,hdp⟩:=hM.toks n tk htk
 rcases hk with⟨e1,e2⟩|⟨b2,cap2,vs,T',e1,hFb,hg,hz,hnc,hm,hst,hw,hcon⟩
 .rw [e2]at hold;simp at hold
 rw[e1]at ev;cases ev
 obtain⟨ti,z,hi,hisz,_⟩:=(hE.ty T ty hty).info
 have hl:=hc.len
 have hixs:i<tk.xs.length:=(zh.1 hold).1
 obtain⟨rv,hrv1,hrv2⟩:=row_vals (c:=s.ctx w S β τ) (b:=b') (q:=i*tk.t.w) old (fun j p hp=>by
  obtain⟨u,k1,k2,_⟩:=hcon i j old p hold hp
  exact⟨u,by show w.cell? _=_;rw[cell_of_row w b' _ vs T' (0,0) hg];exact k1,k2 etr⟩)
 have hrvl:=hrv1.len
 rw[cells_len]at hrvl
 have hlen:=(mkRow_rep (c:=s.ctx w S β τ) tk.t _ y' _ hrow (((hrv1.take q).append hc).append (hrv1.drop (q+ty.size))))
 have hlen2:=hlen.len
 rw[enc_len]at hlen2
 have hcl:(a.eval y).cells.toList.length=ty.size:=by rw[<-hl,hn]
 simp only[zam,zah,zaQ,hcl]at hlen2
 have hbase:i*tk.t.w+tk.t.w<=tk.xs.length*tk.t.w:=by
  have:(i+1)*tk.t.w<=tk.xs.length*tk.t.w:=zag _ hixs
  rwa[zaO,Nat.one_mul]at this
 have hxsz:tk.xs.length*tk.t.w<=vs.size:=by rw[hz];exact zag _ hnc
 have hone:∀v∈(a.eval y).cells.toList,v.oneCell'=true:=fun v hv=>by
  obtain⟨j,hj,rfl⟩:=zav.1 hv
  exact(hc.get' j (ys[j]'(by omega)) _ (by simp) (by simp)).2
 have hst':=run_storeCells_at E.P b' (i*tk.t.w+q) T' (a.eval y).cells.toList 0 vs w hg (by omega) hone
 obtain⟨vs',hvs'⟩:∃vs':Array Value,vs'=(vs.toList.take (i*tk.t.w+q)++(a.eval y).cells.toList++vs.toList.drop (i*tk.t.w+q+(a.eval y).cells.toList.length)).toArray:=⟨_,rfl⟩
 have hr:(execOp a.eval o).run E.P w= .ok .skip (w.setRow b' vs'):=by
  have hz':(a.eval y).cells.size=ti.size:=by rw[hisz,<-hn,hl];simp
  simp only[Nat.add_zero]at hst'
  simp only[execOp,ho,Instr.storeAt,hp,Instr.sureAddr,storeVar,sizeOf,typeInfo,hi,Sem.run_bind,Sem.run_pure,Result.andThen_ok,run_program]
  simp[hi,hz',hst',hvs']
 have hvsl:vs'.toList=vs.toList.take (i*tk.t.w+q)++(a.eval y).cells.toList++vs.toList.drop (i*tk.t.w+q+(a.eval y).cells.toList.length):=by rw[hvs']
 have hget:∀k,vs'[k]? =if i*tk.t.w+q<=k/\k<i*tk.t.w+q+ty.size then(a.eval y).cells.toList[k-(i*tk.t.w+q)]? else vs[k]? :=fun k=>by
  rw[<-zaN,hvsl,splice_get _ _ _ (by rw[hcl,zbd];omega),hcl]
  simp
 have hsize:vs'.size=vs.size:=by
  rw[<-zbd,hvsl]
  simp only[zam,zah,zaQ,hcl,zbd]
  omega
 have hother:∀k,k≠b'->(w.setRow b' vs').heap[k]? =w.heap[k]? :=fun k hk=>setRow_other w b' k _ hk
 have hhs:(w.setRow b' vs').heap.size=w.heap.size:=by simp[World.setRow]
 have hcell:∀b o,S b o->(w.setRow b' vs').cell? ⟨b,o,none⟩=w.cell? ⟨b,o,none⟩:=fun b o hb=>World.cell?_of_block (w:=w) (hother b (fun e=>hw hwr o (e▸hb)))
 have hstep:Step (fun k=>k=b') S S w (w.setRow b' vs'):=⟨⟨rfl,rfl,rfl,by rw[hhs];exact zae _,fun k _ hk=>hother k hk⟩,hcell,fun _ _ h=>h,fun _ _ h=>.inl h,fun b o h=>by rw[hhs];exact hM.lt b o h⟩
 have hheap:(w.setRow b' vs').heap[b']? =some (.cells vs' T' (0,0)):=setRow_heap w b' vs _ T' (0,0) hg
 have hcon':∀(i2 j:Nat) (x:tk.t.D) (p:PV),(tk.xs.set i y')[i2]? =some x->(enc tk.t x)[j]? =some p->∃u,vs'[i2*tk.t.w+j]? =some u/\Rep (w.setRow b' vs') S u p:=fun i2 j x p hx hp=>by
  have hj:j<tk.t.w:=by have:=(zh.1 hp).1;rwa[enc_len]at this
  by_cases e:i2=i
  .subst e
   rw[List.getElem?_set_self hixs]at hx
   cases hx
   have hjl:j<((rv.take q)++(a.eval y).cells.toList++rv.drop (q+ty.size)).length:=by rw[hlen.len];exact(zh.1 hp).1
   have hrep:=hlen.get' j _ p (zc hjl) hp
   have hsp:=splice_get rv (a.eval y).cells.toList q (by rw[<-hrvl,hcl];exact hqw) j
   rw[hcl]at hsp
   refine⟨_,?_,hrep.mono (fun _ _ h=>h) hcell⟩
   rw[hget,<-zc hjl,hsp]
   by_cases hjq:q<=j/\j<q+ty.size
   .rw [zf ⟨by omega,by omega⟩,zf hjq]
    congr 1;omega
   .rw [zu (by omega),zu hjq]
    have hjr:j<rv.length:=by rw[<-hrvl];exact hj
    have h5:=hrv2 j rv[j] (zc hjr)
    rw[show(s.ctx w S β τ).w=w from rfl,cell_of_row w b' _ vs T' (0,0) hg]at h5
    rw[h5,zc hjr]
  .rw [List.getElem?_set_ne (Ne.symm e)]at hx
   obtain⟨u,k1,k2,_⟩:=hcon i2 j x p hx hp
   refine⟨u,?_,(k2 etr).mono (fun _ _ h=>h) hcell⟩
   rw[hget,zu ?_]
   .exact k1
   .rintro ⟨g1,g2⟩
    rcases Nat.lt_or_gt_of_ne e with hlt|hlt
    .have:(i2+1)*tk.t.w<=i*tk.t.w:=zag _ hlt
     rw[zaO]at this;omega
    .have:(i+1)*tk.t.w<=i2*tk.t.w:=zag _ hlt
     rw[zaO]at this;omega
 have hM':=hM.setTok n tk {tk with xs:=tk.xs.set i y'} htk (fun k=>k=b') hstep (fun k hk=>hk▸hFb) ⟨fun b hb=>by rw[hhs];exact hF b hb,.inr ⟨b',cap',vs',T',?_,hFb,hheap,by rw[hsize];exact hz,by simpa using hnc,hm,(fun h=>by simp only at h;rw[hwr]at h;cases h),fun h=>hw h,fun i2 j x p hx hp=>?_⟩,?_⟩ rfl (fun h=>by rw[hwr]at h;cases h) etr
 .refine wp_skip' hr (hK _ _ (rel_put (e:=⟨.tup [],[],[(n,some (.live {tk with xs:=tk.xs.set i y'}))]⟩) hM' hsz hdf ?_ o.dst (.inl hdst)))
  exact lift3 (c:=s.ctx w S β τ) (c':=⟨w.setRow b' vs',S,fun k=>lookB s.B k≠none,β,updT (lookT s.T) n (some (.live {tk with xs:=tk.xs.set i y'})),τ⟩) ⟨fun _ _ h=>h,hcell⟩ (BoxLe.refl rfl rfl) (setTok_le htk rfl (fun h=>by rw[hwr]at h;cases h)) hs
 .rw [e1];simp
 .obtain ⟨u,k1,k2⟩:=hcon' i2 j x p hx hp
  exact⟨u,k1,fun _=>k2,fun h=>by simp only at h;rw[hwr]at h;cases h⟩
 ·
  unfold Once
  simp only[etr]
  intro hdt
  have hfl:tk.t.flatB=true:=hfl'.resolve_right (fun h=>by rw[h]at hdt;cases hdt)
  rw[e1,show tk.xs.length=(tk.xs.set i y').length from by simp]
  have hu:∀(i2 j:Nat) (x:tk.t.D) (c:AV),(tk.xs.set i y')[i2]? =some x->(cellsOf tk.t x)[j]? =some c->∃u,vs'[i2*tk.t.w+j]? =some u/\∀p,(enc tk.t x)[j]? =some p->Rep (w.setRow b' vs') S u p:=fun i2 j x c hx hcc=>by
   obtain⟨p,hp⟩:∃p,(enc tk.t x)[j]? =some p:=⟨_,zc (by rw[enc_len];exact cells_lt hcc)⟩
   obtain⟨u,k1,k2⟩:=hcon' i2 j x p hx hp
   exact⟨u,k1,fun p' hp'=>by rw[hp]at hp';cases hp';exact k2⟩
  refine .sl _ cap' tk.t (tk.xs.set i y') (fun i2 j=>(vs'[i2*tk.t.w+j]?).getD undef) b' (fun _ _ _=>False) vs' T' hFb hheap (by rw[hsize];exact hz) (by simpa using hnc) hm (fun i2 j x c hx hcc=>?_) (fun _ _ _ h=>h.elim) (fun _ _ _ _ _ h=>h.elim) (fun i2 j x c hx hcc=>?_)
  .obtain ⟨u,k1,_⟩:=hu i2 j x c hx hcc
   rw[k1];rfl
  .obtain ⟨u,k1,k2⟩:=hu i2 j x c hx hcc
   simp only[k1,za8]
   exact .leaf hfl hcc k2
theorem jl6 (hE:EnvOk E) (T:TypeId) (x y:Operand) (ho:o.op= .store T x y) (htree:∀ty n i q tk hs ys,E.ty T=some ty->s.ev x= .mptr n i q->lookT s.T n=some (.live tk)->tk.tr=some hs->(s.ev y).cells? =some ys->ys.length=ty.size->o.dst=none->(storeTree n i q ty.size ys tk hs).R s [] [n] e fp->Sim E o s e) (h:(opRD E o.op o.dst s.ev).R s [] [] e fp):Sim E o s e:=by
 rw[ho]at h
 simp only[opRD]at h
 split at h
 case h_2=>exact h.elim
 rename_i ty ys hty hy hdst
 split at h
 case isFalse=>exact h.elim
 rename_i hn
 split at h
 .rename_i k q hx
  split at h
  case isTrue=>exact h.elim
  rename_i hmk
  simp only[RD.R]at h
  split at h
  case h_2=>exact h.elim
  rename_i cs hk
  split at h
  case isFalse=>exact h.elim
  rename_i hq
  obtain⟨rfl,_⟩:=h
  exact sim_storeBox hE T x y ho ty hty k q (by simpa using hmk) hx cs ys hk hy hn hq hdst
 .rename_i n i q hx
  simp only[RD.R]at h
  split at h
  case h_2=>exact h.elim
  rename_i tk htk
  split at h
  case h_2=>exact htree ty n i q tk _ ys hty hx htk ‹_› hy hn hdst h
  rename_i etr
  split at h
  case isFalse=>exact h.elim
  rename_i hw
  obtain⟨old,hold,h⟩:=h
  simp only at h
  split at h
  case h_2=>exact h.elim
  rename_i y' hrow
  obtain⟨rfl,_⟩:=h
  exact jtR hE T x y ho ty hty n i q hx ys hy hn tk htk hw.1 etr hw.2.1 hw.2.2 old hold y' hrow hdst
 .exact h.elim
end
section
variable {E : Env} {o : Oper} {s : LSt} {e : Eff} {fp : FP}
theorem partCells_spec {c:Ctx} {a:Act} (hev:∀y,V3 c (s.ev y) (a.eval y)) (m:Nat):∀(parts:List (Nat×Operand)) (i:Nat) (cs:List AV),partCells m i (parts.map fun q=>(q.1,s.ev q.2))=some cs->
  (parts.map fun q=>(q.1,a.eval q.2))=((parts.map fun q=>a.eval q.2).zipIdx i).map (fun x=>(x.2,x.1))/\(∀v,v∈parts.map (fun q=>a.eval q.2)->v.cells.size=m)/\All2 (V1c c) cs ((parts.map fun q=>(a.eval q.2).cells.toList).flatten)/\cs.length=parts.length*m
 | [],i,cs,h=>by simp[partCells]at h;subst h;exact⟨rfl,fun v h=>by simp at h,True.intro,by simp⟩
 |(j,x)::parts,i,cs,h=>by
  simp only[zv,partCells]at h
  split at h
  case isFalse=>cases h
  case isTrue e=>
  subst e
  cases hx:(s.ev x).cells? with
  |none=>simp[hx]at h
  |some ds=>
   cases hp:partCells m (i+1) (parts.map fun q=>(q.1,s.ev q.2))with
   |none=>simp[hx,hp]at h
   |some es=>
    simp only[hx,hp]at h
    split at h
    case isFalse=>cases h
    case isTrue hl=>
    simp at h
    subst h
    obtain⟨h1,h2,h3,h4⟩:=partCells_spec hev m parts (i+1) es hp
    have hc:=cells_of hx (hev x)
    have hcl:=hc.len
    refine⟨by simp[h1],fun v hv=>?_,?_,?_⟩
    .simp only [zv,zp]at hv
     rcases hv with rfl|hv
     .rw [<-hl,hcl];simp
     .exact h2 v hv
    .simp only [zv,List.flatten_cons];exact hc.append h3
    .simp only [zam,zi,h4,hl,zaO];omega
def AsPV (x:AV) (p:PV):Prop:=∃t y,x.as t=some y/\enc t y=[p]
theorem mkRow_as :∀(t:Tp) (cs:List AV) (y:t.D),mkRow t cs=some y->All2 AsPV cs (enc t y):=by
 have leaf:∀(t:Tp),(∀y:t.D,∃p,enc t y=[p])->∀(cs:List AV) (y:t.D),one t cs=some y->All2 AsPV cs (enc t y):=fun t ht cs y h=>by
  match cs,h with
  | [a],h=>
   obtain⟨p,hp⟩:=ht y
   rw[hp];exact⟨⟨t,y,h,hp⟩,True.intro⟩
 intro t
 induction t with
 |bool=>exact leaf .bool (fun y=>⟨_,rfl⟩)
 |int k=>exact leaf (.int k) (fun y=>⟨_,rfl⟩)
 |str=>exact leaf .str (fun y=>⟨_,rfl⟩)
 |sl r _=>exact leaf (.sl r) (fun y=>⟨_,rfl⟩)
 |opt r _=>exact leaf (.opt r) (fun y=>⟨_,rfl⟩)
 |unit=>
  intro cs y h
  match cs,h with
  | [],_=>exact True.intro
 |pair a b iha ihb=>
  intro cs y h
  simp only[mkRow]at h
  split at h
  .rename_i x1 x2 h1 h2
   cases h
   have:=(iha _ _ h1).append (ihb _ _ h2)
   rwa[zaR]at this
  .cases h
 |q=>
  intro cs y h
  simp only[mkRow]at h
  match cs,h with
  | [k,f,ws,a,b,kids],h=>
   simp only[mkQ]at h
   split at h
   .rename_i k' f' ws' a' b' kids' g1 g2 g3 g4 g5 g6
    cases h
    exact⟨⟨_,_,g1,rfl⟩,⟨_,_,g2,rfl⟩,⟨_,_,g3,rfl⟩,⟨_,_,g4,rfl⟩,⟨_,_,g5,rfl⟩,⟨_,_,g6,by simp only[enc,encQs_eq]⟩,True.intro⟩
   .cases h
theorem jeA (r:Tp):∀(n:Nat) (cs:List AV) (xs:List r.D),mkRows r n cs=some xs->xs.length=n/\∀i x,xs[i]? =some x->All2 AsPV ((cs.drop (i*r.w)).take r.w) (enc r x)
 |0,cs,xs,h=>by cases h;exact⟨rfl,fun i x h=>by simp at h⟩
 |n+1,cs,xs,h=>by
  simp only[mkRows]at h
  split at h
  .rename_i x ys h1 h2
   cases h
   obtain⟨h3,h4⟩:=jeA r n _ _ h2
   refine⟨by simp[h3],fun i y hy=>?_⟩
   cases i with
   |zero=>simp at hy;subst hy;simpa using mkRow_as r _ _ h1
   |succ i=>
    have:=h4 i y (by simpa using hy)
    rw[zcc]at this
    rw[zaO,Nat.one_mul,Nat.add_comm];exact this
  .cases h
def AsAV (x c:AV):Prop:=∃t y,x.as t=some y/\c= .pv t y
theorem mkRow_ty :∀(t:Tp) (cs:List AV) (y:t.D),mkRow t cs=some y->All2 AsAV cs (cellsOf t y):=by
 have leaf:∀(t:Tp),(∀y:t.D,cellsOf t y=[.pv t y])->∀(cs:List AV) (y:t.D),one t cs=some y->All2 AsAV cs (cellsOf t y):=fun t ht cs y h=>by
  match cs,h with
  | [a],h=>
   rw[ht y];exact⟨⟨t,y,h,rfl⟩,True.intro⟩
 intro t
 induction t with
 |bool=>exact leaf .bool (fun y=>rfl)
 |int k=>exact leaf (.int k) (fun y=>rfl)
 |str=>exact leaf .str (fun y=>rfl)
 |sl r _=>exact leaf (.sl r) (fun y=>rfl)
 |opt r _=>exact leaf (.opt r) (fun y=>rfl)
 |unit=>
  intro cs y h
  match cs,h with
  | [],_=>exact True.intro
 |pair a b iha ihb=>
  intro cs y h
  simp only[mkRow]at h
  split at h
  .rename_i x1 x2 h1 h2
   cases h
   have:=(iha _ _ h1).append (ihb _ _ h2)
   rwa[zaR]at this
  .cases h
 |q=>
  intro cs y h
  simp only[mkRow]at h
  match cs,h with
  | [k,f,ws,a,b,kids],h=>
   simp only[mkQ]at h
   split at h
   .rename_i k' f' ws' a' b' kids' g1 g2 g3 g4 g5 g6
    cases h
    exact⟨⟨_,_,g1,rfl⟩,⟨_,_,g2,rfl⟩,⟨_,_,g3,rfl⟩,⟨_,_,g4,rfl⟩,⟨_,_,g5,rfl⟩,⟨_,_,g6,rfl⟩,True.intro⟩
   .cases h
theorem mkRows_ty (r:Tp):∀(n:Nat) (cs:List AV) (xs:List r.D),mkRows r n cs=some xs->xs.length=n/\∀i x,xs[i]? =some x->All2 AsAV ((cs.drop (i*r.w)).take r.w) (cellsOf r x)
 |0,cs,xs,h=>by cases h;exact⟨rfl,fun i x h=>by simp at h⟩
 |n+1,cs,xs,h=>by
  simp only[mkRows]at h
  split at h
  .rename_i x ys h1 h2
   cases h
   obtain⟨h3,h4⟩:=mkRows_ty r n _ _ h2
   refine⟨by simp[h3],fun i y hy=>?_⟩
   cases i with
   |zero=>simp at hy;subst hy;simpa using mkRow_ty r _ _ h1
   |succ i=>
    have:=h4 i y (by simpa using hy)
    rw[zcc]at this
    rw[zaO,Nat.one_mul,Nat.add_comm];exact this
  .cases h
theorem as_rep' {c:Ctx} {x:AV} {v:Value} {p:PV} (hx:AsPV x p) (h:V1 c x v):Rep c.w c.S v p:=by
 obtain⟨t,y,h1,h2⟩:=hx
 obtain⟨p',h3,h4⟩:=as_rep h1 (V3_of_V1 h)
 rw[h2]at h3;cases h3;exact h4
def jgA (s:LSt) (cs:List AV) (l:List Nat) (deep:Bool):Prop:=
 (∀t,t∈l↔∃r xs,AV.own t r xs∈cs)/\
 (deep=true->(∀x,x∈cs->(∃t y,x= .pv t y/\t.flatB=true)\/x= .nils\/ ∃t r xs tk,x= .own t r xs/\lookT s.T t=some (.live tk)/\tk.deep=true)/\∀(k k':Nat) t r r' xs xs',cs[k]? =some (.own t r xs)->cs[k']? =some (.own t r' xs')->k=k')
theorem jed :∀(cs:List AV) (f:List (Nat×Option TS)->Bool->RD) (rb rt:List Nat),(giveToks cs f).R s rb rt e fp->∃l p rt',jgA s cs l p/\(f (l.map fun t=>(t,some TS.spent)) p).R s rb rt' e fp
 | [],f,rb,rt,h=>⟨[],true,rt,⟨fun t=>by simp,fun _=>⟨fun x hx=>by simp at hx,fun k k' t r r' xs xs' h=>by simp at h⟩⟩,h⟩
 |x::cs,f,rb,rt,h=>by
  have other:∀(g:List (Nat×Option TS)->Bool->RD) (pr:Bool),(∀t r xs,x≠ .own t r xs)->(pr=true->(∃t y,x= .pv t y/\t.flatB=true)\/x= .nils)->(giveToks cs g).R s rb rt e fp->(∀es p,g es p=f es (pr&&p))->∃l p rt',jgA s (x::cs) l p/\(f (l.map fun t=>(t,some TS.spent)) p).R s rb rt' e fp:=fun g pr hno hfl hg hgf=>by
   obtain⟨l,p,rt',⟨g2,g3⟩,h'⟩:=jed cs g rb rt hg
   rw[hgf]at h'
   refine⟨l,pr&&p,rt',⟨fun t=>?_,fun hp=>?_⟩,h'⟩
   .rw [g2 t]
    constructor
    .rintro ⟨r,xs,h⟩;exact⟨r,xs,zl _ h⟩
    .rintro ⟨r,xs,h⟩
     rcases zp.1 h with h|h
     .exact absurd h.symm (hno t r xs)
     .exact ⟨r,xs,h⟩
   .simp only [zj]at hp
    refine⟨fun y hy=>?_,fun k k' t r r' xs xs' h1 h2=>?_⟩
    .rcases zp.1 hy with rfl|hy
     .exact (hfl hp.1).imp id .inl
     .exact (g3 hp.2).1 y hy
    .cases k with
     |zero=>simp at h1;exact absurd h1 (hno t r xs)
     |succ k=>cases k' with
      |zero=>simp at h2;exact absurd h2 (hno t r' xs')
      |succ k'=>rw[(g3 hp.2).2 k k' t r r' xs xs' (by simpa using h1) (by simpa using h2)]
  cases x with
  |own t r xs=>
   simp only[giveToks,RD.R]at h
   obtain⟨l,p,rt',⟨g2,g3⟩,h'⟩:=jed cs _ rb _ h
   refine⟨t::l,_,rt',⟨fun t'=>?_,fun hp=>?_⟩,h'⟩
   .constructor
    .intro hy
     rcases zp.1 hy with rfl|hy
     .exact ⟨r,xs,zy⟩
     .obtain ⟨r',xs',hr⟩:=(g2 t').1 hy;exact⟨r',xs',zl _ hr⟩
    .rintro ⟨r',xs',hr⟩
     rcases zp.1 hr with hr|hr
     .cases hr;exact zy
     .exact zl _ ((g2 t').2 ⟨r',xs',hr⟩)
   .simp only [zj]at hp
    obtain⟨⟨hp1,hp2⟩,hp3⟩:=hp
    have hnew:t∉l:=fun hin=>by
     have:=zax.1 hp3 (t,some .spent) (zab.2 ⟨t,hin,rfl⟩)
     simp at this
    refine⟨fun y hy=>?_,fun k k' t' r1 r2 xs1 xs2 h1 h2=>?_⟩
    .rcases zp.1 hy with rfl|hy
     .cases ht:lookT s.T t with
      |none=>rw[ht]at hp1;cases hp1
      |some z=>cases z with
       |spent=>rw[ht]at hp1;cases hp1
       |live tk=>rw[ht]at hp1;exact .inr (.inr ⟨t,r,xs,tk,rfl,ht,hp1⟩)
     .exact (g3 hp2).1 y hy
    .have hno:∀(k:Nat) r xs,cs[k]? =some (.own t r xs)->False:=fun k r xs hk=>hnew ((g2 t).2 ⟨r,xs,zak hk⟩)
     cases k with
     |zero=>
      simp at h1
      cases k' with
      |zero=>rfl
      |succ k'=>simp at h2;rw[<-h1.1]at h2;exact(hno k' _ _ h2).elim
     |succ k=>cases k' with
      |zero=>simp at h2 h1;rw[<-h2.1]at h1;exact(hno k _ _ h1).elim
      |succ k'=>rw[(g3 hp2).2 k k' t' r1 r2 xs1 xs2 (by simpa using h1) (by simpa using h2)]
  |pv t y=>exact other _ t.flatB (fun _ _ _ h=>by cases h) (fun hq=>.inl ⟨t,y,rfl,hq⟩) h (fun es p=>rfl)
  |nils=>exact other _ true (fun _ _ _ h=>by cases h) (fun _=>.inr rfl) h (fun es p=>by simp)
  |dead=>exact other _ false (fun _ _ _ h=>by cases h) (fun h=>by cases h) h (fun es p=>by simp)
  |nilp=>exact other _ false (fun _ _ _ h=>by cases h) (fun h=>by cases h) h (fun es p=>by simp)
  |agg _=>exact other _ false (fun _ _ _ h=>by cases h) (fun h=>by cases h) h (fun es p=>by simp)
  |tup _=>exact other _ false (fun _ _ _ h=>by cases h) (fun h=>by cases h) h (fun es p=>by simp)
  |box _ _=>exact other _ false (fun _ _ _ h=>by cases h) (fun h=>by cases h) h (fun es p=>by simp)
  |ptr _ _ _=>exact other _ false (fun _ _ _ h=>by cases h) (fun h=>by cases h) h (fun es p=>by simp)
  |mtk _=>exact other _ false (fun _ _ _ h=>by cases h) (fun h=>by cases h) h (fun es p=>by simp)
  |mptr _ _ _=>exact other _ false (fun _ _ _ h=>by cases h) (fun h=>by cases h) h (fun es p=>by simp)
  |gmap _=>exact other _ false (fun _ _ _ h=>by cases h) (fun h=>by cases h) h (fun es p=>by simp)
  |sub _ _ _=>exact other _ false (fun _ _ _ h=>by cases h) (fun h=>by cases h) h (fun es p=>by simp)
  |clo _ _=>exact other _ false (fun _ _ _ h=>by cases h) (fun h=>by cases h) h (fun es p=>by simp)
theorem run_lit {P:Program} (w:World) (T e:TypeId) (parts:List (Nat×Value)) (len m:Nat) (ie:TypeInfo) (z:Value) (hu:P.underlying T=some (.slice e)) (hie:P.info? e=some ie) (hz:ie.zero=some z) (hsz:ie.size=m) (hzs:z.cells.size=m) (hm:0<m) (hsmall:len*m<=16777216)
  (vals:List Value) (hp:parts=(vals.zipIdx 0).map (fun x=>(x.2,x.1))) (hlen:vals.length=len) (hv:∀v,v∈vals->v.cells.size=m):
  (Instr.buildSlice T len parts.toArray).run P w= .ok (.slice (some ⟨w.heap.size,0,none⟩) len len) (w.alloc (.cells (vals.map fun v=>v.cells.toList).flatten.toArray e)):=by
 by_cases h0:len=0
 .subst h0
  have:vals=[]:=zbj hlen
  subst this
  subst hp
  simp[Instr.buildSlice,run_underlying hu,sizeOf,typeInfo,hie,Instr.fill,newRow]
  rw[show Array.map (fun _=>default) (Array.range 0)=(#[]:Array Value)from by apply Array.ext';simp]
 .have hpos:¬len*ie.size=0:=by rw[hsz];exact fun h=>(Nat.mul_eq_zero.1 h).elim h0 (by omega)
  obtain⟨r,hf,hrs,hrk⟩:=Go.Great.fill_dense hm vals 0 ((Array.range (len*ie.size)).map (z.cells[· %z.cells.size]!)) hv (by simp[hlen,hsz])
  have hr:r=(vals.map fun v=>v.cells.toList).flatten.toArray:=by
   apply Array.ext'
   apply zbc
   intro t
   have hml:∀cs,cs∈vals.map (fun v=>v.cells.toList)->cs.length=m:=fun cs hcs=>by
    obtain⟨v,hv',rfl⟩:=zab.1 hcs
    simpa using hv v hv'
   have htot:=flatten_len (vals.map fun v=>v.cells.toList) m hml
   simp only[zar,hlen]at htot
   by_cases ht:t<len*m
   .have h1:t/m<len:=(zcj hm).2 ht
    have h2:t%m<m:=Nat.mod_lt _ hm
    have h3:t=t/m*m+t%m:=by rw[zbx];exact(Nat.div_add_mod t m).symm
    have hk:=hrk t
    rw[zf (by simp[hlen,ht]),Nat.sub_zero,zc (by omega),za]at hk
    have hvs:(vals[t/m]'(by omega)).cells.size=m:=hv _ (by simp)
    have hfl:=flatten_at _ m hml (t/m) ((vals[t/m]'(by omega)).cells.toList) (by simp;exact⟨_,zc (by omega),rfl⟩) (t%m) ((vals[t/m]'(by omega)).cells.toList[t%m]'(by simp[hvs,h2])) (by simp)
    rw[<-h3]at hfl
    rw[zaN,hk]
    simp only[hfl]
    rw[zbt (by omega)]
    simp
   .rw [zaM (by simp[hrs,hsz];omega),zaM (by simp only[htot];omega)]
  rw[<-hr]
  exact run_buildSlice w T e len parts.toArray r ie z hu hie hz (by rw[hsz];omega) hpos (by rw[show parts.toArray.toList=parts from by simp,hp];rw[hsz]at hf⊢;exact hf)
theorem joN (hE:EnvOk E) (T:TypeId) (len:Nat) (parts:Array (Nat×Operand)) (ho:o.op= .buildSlice T len parts)
  (htree:∀(d:Nat) (ty:Ty) (e':TypeId) (r:Tp) (by':Nat) (cs:List AV) (xs:List r.D),o.dst=some d->E.ty T=some ty->ty.elem=some (e',r,by')->partCells r.w 0 (parts.toList.map fun q=>(q.1,s.ev q.2))=some cs->mkRows r len cs=some xs->len=parts.toList.length->len*r.w<=16777216->zeroDeep cs=true->(newTree E d r xs e' []).R s [] [] e fp->Sim E o s e)
  (h:(opRD E o.op o.dst s.ev).R s [] [] e fp):Sim E o s e:=by
 rw[ho]at h
 simp only[opRD]at h
 split at h
 case h_2=>exact h.elim
 rename_i d ty hdst hty
 have hT:=hE.ty T ty hty
 split at h
 case h_2=>exact h.elim
 rename_i e' r by' he
 split at h
 case h_2=>exact h.elim
 rename_i cs hcs
 split at h
 case h_2=>exact h.elim
 rename_i xs hxs
 split at h
 case isFalse=>exact h.elim
 rename_i hlen
 obtain⟨hlen,hsmall⟩:=hlen
 split at h
 .rename_i hz
  exact htree d ty e' r _ cs xs hdst hty he hcs hxs hlen hsmall hz.2.2 h
 obtain⟨l,deep,rt',⟨hll,hgd⟩,h⟩:=jed cs _ _ _ h
 obtain⟨hd,hfr,hres,rfl⟩:=newTok_R h
 rintro R a w hR0 ⟨β,τ,F,S,hM,hn,hdf,hsl⟩ K Q hK
 have hev:=V3_ev hsl
 obtain⟨hu,hpos,ie,z,hie,hsz,hby,hz,hzs⟩:=hT.elem _ _ _ he
 obtain⟨p1,p2,p3,p4⟩:=partCells_spec hev r.w parts.toList 0 cs hcs
 obtain⟨hxl,hxr⟩:=jeA r len cs xs hxs
 obtain⟨vals,hvals⟩:∃vals,vals=parts.toList.map fun q=>a.eval q.2:=⟨_,rfl⟩
 have hvl:vals.length=len:=by rw[hvals,hlen];simp
 have hrun0:=run_lit (P:=E.P) w T e' (parts.toList.map fun q=>(q.1,a.eval q.2)) len r.w ie z hu hie hz hsz hzs hpos hsmall vals (by rw[p1,<-hvals]) hvl (by rw[hvals];exact p2)
 obtain⟨us,hus⟩:∃us,us=(vals.map fun v=>v.cells.toList).flatten:=⟨_,rfl⟩
 have hcu:All2 (V1c (s.ctx w S β τ)) cs us:=by
  rw[hus,hvals,List.map_map];exact p3
 have hul:us.length=len*r.w:=by rw[<-hcu.len,p4,<-hlen]
 rw[<-hus]at hrun0
 have hrun:(execOp a.eval o).run E.P w= .ok (.value (.slice (some ⟨w.heap.size,0,none⟩) len len)) (w.alloc (.cells us.toArray e')):=by
  have ep:(parts.map fun(i,x)=>(i,a.eval x))=(parts.toList.map fun q=>(q.1,a.eval q.2)).toArray:=by apply Array.ext';simp
  simp only[execOp,ho,Sem.run_bind,ep,hrun0,Result.andThen_ok,Sem.run_pure]
 have hdl:d∉l:=fun hin=>hfr (d,some .spent) (zab.2 ⟨d,hin,rfl⟩) rfl
 obtain⟨w',hw'⟩:∃w',w'=w.alloc (.cells us.toArray e'):=⟨_,rfl⟩
 rw[<-hw']at hrun
 have hb:Below w.heap.size w w':=by rw[hw'];exact(Below.refl _ _).alloc (zae _) _
 have hnew:w'.heap[w.heap.size]? =some (.cells us.toArray e' (0,0)):=by rw[hw'];exact heap_alloc_new w _
 have hsz':w'.heap.size=w.heap.size+1:=by rw[hw'];simp
 obtain⟨S',hS'⟩:∃S':Stab,S'=stabApp (E.wr d) S w.heap.size (len*r.w):=⟨_,rfl⟩
 have hSo:∀b q,S b q->S' b q:=fun b q h=>by rw[hS'];exact .inl h
 have hSn:∀b q,S' b q->S b q\/w.heap.size<=b:=fun b q h=>by
  rw[hS']at h
  rcases h with h|⟨_,rfl,_⟩
  .exact .inl h
  .exact .inr (zae _)
 have hSl:∀b q,S' b q->b<w'.heap.size:=fun b q h=>by
  rw[hS']at h
  rcases h with h|⟨_,rfl,_⟩
  .have:=hM.lt b q h;omega
  .omega
 have hM1:=(hM.drop (tok':=spend (lookT s.T) l) (fun t ht=>spend_used ht) (fun t tk h=>(spend_live h).2)).grow hb hSo hSn hSl
 have hcell:∀k,w'.cell? ⟨w.heap.size,k,none⟩=us[k]? :=fun k=>cell_box hnew k
 have hrow:∀(i j:Nat) (x:r.D) (c:PV),xs[i]? =some x->(enc r x)[j]? =some c->i<len/\j<r.w/\i*r.w+j<len*r.w/\∃y u,cs[i*r.w+j]? =some y/\AsPV y c/\us[i*r.w+j]? =some u/\V1c (s.ctx w S β τ) y u:=fun i j x c hx hc=>by
  have hi:i<len:=by rw[<-hxl];exact(zh.1 hx).1
  have hj:j<r.w:=by have:=(zh.1 hc).1;rwa[enc_len]at this
  have him:i*r.w+r.w<=len*r.w:=by
   have:(i+1)*r.w<=len*r.w:=zag _ hi
   rw[zaO]at this;omega
  have ha:=hxr i x hx
  have hal:=ha.len
  rw[enc_len]at hal
  obtain⟨y,hy⟩:∃y,((cs.drop (i*r.w)).take r.w)[j]? =some y:=⟨_,zc (by rw[hal];exact hj)⟩
  have hyc:=ha.get' j y c hy hc
  rw[zaH,zf hj,zaL]at hy
  obtain⟨u,hu1,hu2⟩:=hcu.get _ _ hy
  exact⟨hi,hj,by omega,y,u,hy,hyc,hu1,hu2⟩
 have hlm:len<=maxLen:=by
  have:len<=len*r.w:=Nat.le_mul_of_pos_right _ hpos
  simp only[maxLen];omega
 have hTk:TokOk R.fr w' S' ⟨r,xs,e',E.wr d,deep,none⟩ (.slice (some ⟨w.heap.size,0,none⟩) len len) (fun b=>b=w.heap.size\/(deep=true/\∃t tk,t∈l/\lookT s.T t=some (.live tk)/\F t b)):=by
  refine⟨fun b hb'=>?_,.inr ⟨w.heap.size,len,us.toArray,e',by rw[hxl],.inl rfl,hnew,by simpa using hul,by rw[hxl];exact zae _,hlm,fun hw q hq=>?_,fun hw q hq=>?_,fun i j x c hx hc=>?_⟩,?_⟩
  .rcases hb' with rfl|⟨_,t,tk,_,h2,h3⟩
   .exact ⟨.inl hM.size,by omega⟩
   .have:=(hM.toks t tk h2).1 b h3;exact⟨this.1,by omega⟩
  .simp only [hxl]
   rw[hS']at hq
   rcases hq with hq|⟨_,_,hq⟩
   .have:=hM.lt _ _ hq;omega
   .exact hq
  .simp only at hw
   rw[hS']at hq
   rcases hq with hq|⟨hq,_⟩
   .have:=hM.lt _ _ hq;omega
   .rw [hw]at hq;cases hq
  .obtain ⟨h1,h1',h2,y,u,h3,h4,h5,h6⟩:=hrow i j x c hx hc
   exact⟨u,by simpa using h5,fun _=>(as_rep' h4 h6.1).mono hSo (fun b q hq=>(bcell hb).1 b q (hM.lt b q hq)),fun hw=>by rw[hS'];exact .inr ⟨hw,rfl,h2⟩⟩
  .show (deep=true->Deep w' _ (.slice (some ⟨w.heap.size,0,none⟩) len len) (.pv (.sl r) xs))
   intro hp
   obtain⟨g4,g5⟩:=hgd hp
   obtain⟨_,hxt⟩:=mkRows_ty r len cs xs hxs
   have hrow':∀(i j:Nat) (x:r.D) (c:AV),xs[i]? =some x->(cellsOf r x)[j]? =some c->i<len/\j<r.w/\∃y u,cs[i*r.w+j]? =some y/\AsAV y c/\us[i*r.w+j]? =some u/\V1c (s.ctx w S β τ) y u:=fun i j x c hx hc=>by
    have hi:i<len:=by rw[<-hxl];exact(zh.1 hx).1
    have hj:j<r.w:=cells_lt hc
    have ha:=hxt i x hx
    have hal:=ha.len
    rw[cells_len]at hal
    obtain⟨y,hy⟩:∃y,((cs.drop (i*r.w)).take r.w)[j]? =some y:=⟨_,zc (by rw[hal];exact hj)⟩
    have hyc:=ha.get' j y c hy hc
    rw[zaH,zf hj,zaL]at hy
    obtain⟨u,hu1,hu2⟩:=hcu.get _ _ hy
    exact⟨hi,hj,y,u,hy,hyc,hu1,hu2⟩
   have:=Deep.sl (w:=w') (fun b=>b=w.heap.size\/(deep=true/\∃t tk,t∈l/\lookT s.T t=some (.live tk)/\F t b)) len r xs (fun i j=>(us[i*r.w+j]?).getD undef) w.heap.size (fun i j b=>j<r.w/\∃t r' zs tk,cs[i*r.w+j]? =some (.own t r' zs)/\lookT s.T t=some (.live tk)/\F t b) us.toArray e' (.inl rfl) hnew (by simpa using hul) (by rw[hxl];exact zae _) hlm
    (fun i j x c hx hc=>?_) (fun i j k hk=>?_) (fun i j i' j' k hk hk'=>?_) (fun i j x c hx hc=>?_)
   .rwa [hxl]at this
   .obtain ⟨h1,h1',y,u,h3,h4,h5,h6⟩:=hrow' i j x c hx hc
    simp only[List.getElem?_toArray,h5,za8]
   .obtain ⟨hjm,t,r',zs,tk,h1,h2,h3⟩:=hk
    refine⟨.inr ⟨hp,t,tk,(hll t).2 ⟨r',zs,zak h1⟩,h2,h3⟩,fun ek=>?_⟩
    have:=((hM.toks t tk h2).1 k h3).2
    omega
   .obtain ⟨hjm,t,r1,zs,tk,h1,h2,h3⟩:=hk
    obtain⟨hjm',t',r2,zs',tk',h1',h2',h3'⟩:=hk'
    obtain rfl:=hM.tdis t t' tk tk' k h2 h2' h3 h3'
    have hh:=g5 _ _ t r1 r2 zs zs' h1 h1'
    have e1:(i*r.w+j)/r.w=i:=by rw[zbx,Nat.mul_add_div hpos,Nat.div_eq_of_lt hjm];omega
    have e2:(i'*r.w+j')/r.w=i':=by rw[zbx,Nat.mul_add_div hpos,Nat.div_eq_of_lt hjm'];omega
    have e3:i=i':=by rw[<-e1,hh,e2]
    subst e3
    exact⟨rfl,by omega⟩
   .obtain ⟨h1,h1',y,u,h3,h4,h5,h6⟩:=hrow' i j x c hx hc
    simp only[h5,za8]
    obtain⟨t0,y0,ha,rfl⟩:=h4
    rcases g4 y (zak h3)with⟨t1,z1,rfl,hfl⟩|rfl|⟨t1,r1,zs,tk,rfl,h7,h8⟩
    .simp only [AV.as]at ha
     split at ha
     .rename_i et
      subst et
      cases ha
      obtain⟨p,he,hr⟩:=v3_pv (V3_of_V1 h6.1)
      have hl:=flat_isLit _ _ hfl p (by rw[he];simp)
      exact .lit _ u _ _ p he hl (rep_litV hr hl)
     .cases ha
    .cases t0 with
     |sl r0=>
      cases ha
      have e:u= .slice none 0 0:=h6.1
      rw[e]
      exact .nil _ _
     |_=>cases ha
    .simp only [AV.as]at ha
     split at ha
     .rename_i et
      subst et
      cases ha
      obtain⟨_,_,k3⟩:=v3_own (V3_of_V1 h6.1)
      obtain⟨e0,e1,e2⟩:=k3 tk h7
      have hD:=(hM.toks t1 tk h7).deepOf ((hM.toks t1 tk h7).plain e0) h8
      rw[show τ t1=u from e1.symm]at hD
      have hD':=(je3 hD e2).same (w':=w') (fun k hk=>hb.block k ((hM.toks t1 tk h7).1 k hk).2)
      exact hD'.mono (fun k hk=>⟨h1',t1,r1,zs,tk,h3,h7,hk⟩)
     .cases ha
 refine wp_value hrun (hK _ _ (rel_newTok (s:=s) l hM1 hn hdf hsl (fun _ _ _ _ _=>⟨hSo,fun b q hq=>(bcell hb).1 b q (hM.lt b q hq)⟩) d hd (hR0.tn hres) ⟨r,xs,e',E.wr d,deep,none⟩ _ _ hTk rfl (fun t tk' b htl ht hb' hF=>?_) (fun k b hk hb'=>?_) o.dst hdl _ rfl))
 .rcases hb' with rfl|⟨_,t',tk,h1,h2,h3⟩
  .have:=((hM.toks t tk' ht).1 _ hF).2;omega
  .exact htl (hM.tdis t t' tk' tk b ht h2 hF h3▸h1)
 .rcases hb' with h|⟨_,t',tk,h1,h2,h3⟩
  .have:=hM.blt hk;omega
  .exact hM.tbox t' tk k b h2 hk h3
end
structure Ext (a a':Acc):Prop where
 ps:True
 rt:∃l,a'.rt=a.rt++l
 rb:∀k k',lookR a.rb k=some k'->lookR a'.rb k=some k'
 fb:∀k,k∈a.fb->k∈a'.fb
 ft:∀k,k∈a.ft->k∈a'.ft
 mt:∀k,k∈a.mt->k∈a'.mt
 ub:∀k,k∈a.ub->k∈a'.ub
theorem Ext.refl (a:Acc):Ext a a:=⟨True.intro,⟨[],by simp⟩,fun _ _ h=>h,fun _ h=>h,fun _ h=>h,fun _ h=>h,fun _ h=>h⟩
theorem Ext.trans {a b c:Acc} (h:Ext a b) (k:Ext b c):Ext a c:=by
 obtain⟨m1,f1⟩:=h.rt;obtain⟨m2,f2⟩:=k.rt
 exact⟨True.intro,⟨m1++m2,by rw[f2,f1,zao]⟩,fun x y hx=>k.rb x y (h.rb x y hx),fun x hx=>k.fb x (h.fb x hx),fun x hx=>k.ft x (h.ft x hx),fun x hx=>k.mt x (h.mt x hx),fun x hx=>k.ub x (h.ub x hx)⟩
theorem lookR_app {α:Type}:∀(l m:List (Nat×α)) (k:Nat),lookR (l++m) k=match lookR l k with|some x=>some x|none=>lookR m k
 | [],m,k=>rfl
 |(j,x)::l,m,k=>by
  simp only[zbk,lookR]
  split
  .rfl
  .exact lookR_app l m k
theorem lookR_mem {α:Type}:∀ {l:List (Nat×α)} {k:Nat} {x:α},lookR l k=some x->(k,x)∈l
 | [],k,x,h=>by cases h
 |(j,y)::l,k,x,h=>by
  simp only[lookR]at h
  split at h
  .rename_i e;cases h;subst e;exact zy
  .exact zl _ (lookR_mem h)
theorem lookR_none {α:Type}:∀ {l:List (Nat×α)} {k:Nat},lookR l k=none->∀x,(k,x)∉l
 | [],k,h,x,hx=>by cases hx
 |(j,y)::l,k,h,x,hx=>by
  simp only[lookR]at h
  split at h
  .cases h
  .rename_i e
   rcases zp.1 hx with hx|hx
   .cases hx;exact e rfl
   .exact lookR_none h x hx
theorem bindBox_spec {a a':Acc} {k k':Nat} (h:bindBox a k k'=some a'):Ext a a'/\lookR a'.rb k=some k'/\a'.ps=a.ps/\a'.rt=a.rt/\a'.fb=a.fb/\a'.ft=a.ft/\a'.mt=a.mt/\a'.ub=a.ub/\
  ((∀j j' i,lookR a.rb j=some i->lookR a.rb j'=some i->j=j')->∀j j' i,lookR a'.rb j=some i->lookR a'.rb j'=some i->j=j')/\(∀x,x∈a'.rb->x∈a.rb\/x=(k,k')):=by
 unfold bindBox at h
 split at h
 .rename_i j hj
  split at h
  .rename_i e;cases h;subst e;exact⟨Ext.refl _,hj,rfl,rfl,rfl,rfl,rfl,rfl,fun h=>h,fun x hx=>.inl hx⟩
  .cases h
 .rename_i hn
  split at h
  .cases h
  .rename_i hany
   cases h
   have hlook:∀j,lookR (a.rb++ [(k,k')]) j=match lookR a.rb j with|some x=>some x|none=>if j=k then some k' else none:=fun j=>by
    rw[lookR_app]
    cases lookR a.rb j<;>rfl
   refine⟨⟨True.intro,⟨[],by simp⟩,fun j j' hj=>?_,fun _ h=>h,fun _ h=>h,fun _ h=>h,fun _ h=>h⟩,?_,rfl,rfl,rfl,rfl,rfl,rfl,fun hi j j' i hj hj'=>?_,fun x hx=>?_⟩
   .simp only [hlook,hj]
   .simp only [hlook,hn,if_true]
   .simp only [hlook]at hj hj'
    have hno:∀j,lookR a.rb j≠some k':=fun j hj=>hany (List.any_eq_true.2 ⟨(j,k'),lookR_mem hj,by simp⟩)
    cases h1:lookR a.rb j with
    |some x=>
     cases h2:lookR a.rb j' with
     |some y=>rw[h1]at hj;rw[h2]at hj';cases hj;cases hj';exact hi j j' _ h1 h2
     |none=>
      rw[h1]at hj;rw[h2]at hj'
      cases hj
      simp only at hj'
      split at hj'
      .cases hj';exact absurd h1 (hno j)
      .cases hj'
    |none=>
     rw[h1]at hj
     simp only at hj
     split at hj
     .rename_i e1
      cases hj
      cases h2:lookR a.rb j' with
      |some y=>rw[h2]at hj';cases hj';exact absurd h2 (hno j')
      |none=>
       rw[h2]at hj'
       simp only at hj'
       split at hj'
       .rename_i e2;rw[e1,e2]
       .cases hj'
     .cases hj
   .rcases zaB.1 hx with hx|hx
    .exact .inl hx
    .exact .inr (by simpa using hx)
theorem bindTok_spec {a a':Acc} {n:Nat} {n':Option Nat} {p:Pay} (h:bindTok a n n' p=some a'):Ext a a'/\a'.ps=a.ps++ [p]/\a'.rt=a.rt++ [(n,n')]/\a'.rb=a.rb/\a'.fb=a.fb/\a'.ft=a.ft/\a'.mt=a.mt/\a'.ub=a.ub/\n∉a.rt.map (·.1)/\(∀m,n'=some m->∀x,x∈a.rt->x.2≠some m):=by
 unfold bindTok at h
 split at h
 .cases h
 .rename_i hn
  split at h
  .cases h
  .rename_i hany
   cases h
   refine⟨⟨True.intro,⟨_,rfl⟩,fun _ _ h=>h,fun _ h=>h,fun _ h=>h,fun _ h=>h,fun _ h=>h⟩,rfl,rfl,rfl,rfl,rfl,rfl,rfl,fun hin=>?_,fun m hm x hx e=>?_⟩
   .obtain ⟨⟨n1,n2⟩,h1,rfl⟩:=zab.1 hin
    exact lookR_none hn n2 h1
   .subst hm
    refine hany ?_
    simp only[Option.isSome_some,zaj,List.any_eq_true]
    exact⟨x,hx,by simpa using e⟩
def RtOk (l:List (Nat×Option Nat)):Prop:=(l.map (·.1)).Nodup/\∀(i j:Nat) x y m,l[i]? =some x->l[j]? =some y->x.2=some m->y.2=some m->i=j
theorem RtOk.snoc {l:List (Nat×Option Nat)} (h:RtOk l) {n:Nat} {n':Option Nat} (h1:n∉l.map (·.1)) (h2:∀m,n'=some m->∀x,x∈l->x.2≠some m):RtOk (l++ [(n,n')]):=by
 refine⟨?_,fun i j x y m hi hj hx hy=>?_⟩
 .rw [zaK,zv,zck]
  exact List.nodup_append.2 ⟨h.1,by simp,fun a ha b hb e=>h1 (by simp at hb;rw[<-hb,<-e];exact ha)⟩
 .rw [List.getElem?_append]at hi hj
  split at hi<;>split at hj
  .exact h.2 i j x y m hi hj hx hy
  .have:y=(n,n'):=by
    have:=zak hj;simpa using this
   subst this
   exact absurd hx (h2 m hy x (zak hi))
  .have:x=(n,n'):=by
    have:=zak hi;simpa using this
   subst this
   exact absurd hy (h2 m hx y (zak hj))
  .have h3:=(zh.1 hi).1
   have h4:=(zh.1 hj).1
   simp at h3 h4;omega
structure AccInv (a:Acc):Prop where
 rt:RtOk a.rt
 rb:∀j j' i,lookR a.rb j=some i->lookR a.rb j'=some i->j=j'
section
variable (B : List (Nat × BS)) (T : List (Nat × Option TS))
structure Known (fin:Acc) (Fr:Nat->Prop) (c c':Ctx) (F:Nat->Nat->Prop):Prop where
 w:c'.w=c.w
 S:c'.S=c.S
 tok:∀n tk,lookT T n=some (.live tk)->c.tok n=some (.live (if n∈fin.ft then tk.fz else tk))
 toks:∀n tk,c.tok n=some (.live tk)->TokOk Fr c.w c.S tk (c.τ n) (F n)
 box:∀k b o t z,lookB B k=some b->k∈fin.fb->mkRow t ((b.cs.drop o).take t.w)=some z->c.live k->CellsAt c.w c.S (c.β k) o (enc t z)
 mt:∀n,n∈fin.mt->n∉fin.ft
 live:∀k k',lookR fin.rb k=some k'->c'.live k/\c'.β k=c.β k'
 τ:∀n n',(n,n')∈fin.rt->c'.τ n=match n' with|some m=>c.τ m|none=>.slice none 0 0
 nm:∀k k',lookR fin.rb k=some k'->kindN k=kindN k'
 fbm:∀k,k∈fin.fb->mapName k=false
def TR (c:Ctx) (x:Nat×Option Nat) (y:Nat×Option TS):Prop:=
 y.1=x.1/\∃tk,y.2=some (.live tk)/\match x.2 with
  |some m=>∃tk0,c.tok m=some (.live tk0)/\(⟨tk.t,tk.xs⟩:(t:Tp)×List t.D)=⟨tk0.t,tk0.xs⟩/\tk.e=tk0.e/\tk.wr=tk0.wr/\(tk.deep=true->tk0.deep=true)/\tk.tr=tk0.tr/\(tk.tr≠none->tk.deep=true)
  |none=>tk.xs=[]/\(tk.tr=none\/(tk.tr=some []/\tk.wr=true/\tk.deep=true))
def VImp (c c':Ctx) (x x':AV) (v:Value):Prop:=(V0 c x v->V0 c' x' v)/\(V1 c x v->V1 c' x' v)/\(V2 c x v->V2 c' x' v)/\(V3 c x v->V3 c' x' v)
def AV.base :AV->Bool
 | .agg _=>false
 | .tup _=>false
 | .clo _ _=>false
 |_=>true
theorem VImp.of_base {c c':Ctx} {x x':AV} {v:Value} (hb:x.base=true) (h:V3 c x v->V0 c' x' v):VImp c c' x x' v:=
 ⟨fun h0=>h (V3_of_V1 (V1_of_V0 h0)),fun h0=>V1_of_V0 (h (V3_of_V1 h0)),fun h0=>V2_of_V1 (V1_of_V0 (h (V3_of_V2 h0))),fun h0=>V3_of_V1 (V1_of_V0 (h h0))⟩
theorem VImp.dead {c c':Ctx} {x:AV} {v:Value}:VImp c c' x .dead v:=⟨fun _=>True.intro,fun _=>True.intro,fun _=>True.intro,fun _=>True.intro⟩
def ConvOk (c c':Ctx) (v:VS) (x:AV) (a a':Acc) (val:Value):Prop:=
 ∃seg rseg x' ts,a'.ps=a.ps++seg/\a'.rt=a.rt++rseg/\(∀rest,inst v (seg++rest)=(x',rest,ts))/\All2 (TR c) rseg ts/\((∀n z,(n,z)∈ts->c'.tok n=z)->VImp c c' x x' val)
def ConvLOk (c c':Ctx) (Q:Ctx->AV->Value->Prop) (vs:List VS) (xs:List AV) (a a':Acc) (vals:List Value):Prop:=
 ∃seg rseg xs' ts,a'.ps=a.ps++seg/\a'.rt=a.rt++rseg/\(∀rest,instL vs (seg++rest)=(xs',rest,ts))/\All2 (TR c) rseg ts/\((∀n z,(n,z)∈ts->c'.tok n=z)->All2 (Q c') xs' vals)
end
section
variable (B : List (Nat × BS)) (T : List (Nat × Option TS))
mutual
theorem conv_ext :∀(v:VS) (x:AV) (a a':Acc),conv B T v x a=some a'->Ext a a'/\(AccInv a->AccInv a')
 | .dead,x,a,a',h=>by cases h;exact⟨Ext.refl _,id⟩
 | .pv t,x,a,a',h=>by
  simp only[conv]at h
  split at h
  .split at h
   .split at h
    .cases h;exact⟨⟨True.intro,⟨[],by simp⟩,fun _ _ h=>h,fun _ h=>h,fun _ h=>zad _ h,fun _ h=>h,fun _ h=>h⟩,fun hi=>⟨hi.rt,hi.rb⟩⟩
    .cases h
   .cases h
  .split at h
   .cases h;exact⟨⟨True.intro,⟨[],by simp⟩,fun _ _ h=>h,fun _ h=>h,fun _ h=>h,fun _ h=>h,fun _ h=>h⟩,fun hi=>⟨hi.rt,hi.rb⟩⟩
   .cases h
 | .nils,x,a,a',h=>by
  simp only[conv]at h
  split at h
  .cases h;exact⟨Ext.refl _,id⟩
  .cases h
 | .nilp,x,a,a',h=>by
  simp only[conv]at h
  split at h
  .cases h;exact⟨Ext.refl _,id⟩
  .cases h
 | .box k o,x,a,a',h=>by
  simp only[conv]at h
  split at h
  .split at h
   .obtain ⟨h1,_,_,h4,_,_,_,_,h9,_⟩:=bindBox_spec h
    exact⟨h1,fun hi=>⟨by rw[h4];exact hi.rt,h9 hi.rb⟩⟩
   .cases h
  .cases h
 | .ptr t,x,a,a',h=>by
  simp only[conv]at h
  split at h
  .split at h
   .cases h;exact⟨⟨True.intro,⟨[],by simp⟩,fun _ _ h=>h,fun _ h=>h,fun _ h=>h,fun _ h=>h,fun _ h=>h⟩,fun hi=>⟨hi.rt,hi.rb⟩⟩
   .cases h
  .split at h
   .split at h
    .cases h;exact⟨⟨True.intro,⟨[],by simp⟩,fun _ _ h=>h,fun _ h=>zad _ h,fun _ h=>h,fun _ h=>h,fun _ h=>h⟩,fun hi=>⟨hi.rt,hi.rb⟩⟩
    .cases h
   .cases h
  .cases h
 | .own n t e deep,x,a,a',h=>by
  simp only[conv]at h
  have fin:∀ {n' p a1},bindTok a n n' p=some a1->Ext a a1/\(AccInv a->AccInv a1):=fun {n' p a1} h=>by
   obtain⟨h1,_,h3,h4,_,_,_,_,h9,h10⟩:=bindTok_spec h
   exact⟨h1,fun hi=>⟨by rw[h3];exact hi.rt.snoc h9 h10,by rw[h4];exact hi.rb⟩⟩
  split at h
  .split at h
   .split at h
    .exact fin h
    .cases h
   .cases h
  .split at h
   .split at h
    .obtain ⟨a1,h1,rfl⟩:=zaA.1 h
     obtain⟨h2,h3⟩:=fin h1
     exact⟨h2.trans ⟨True.intro,⟨[],by simp⟩,fun _ _ h=>h,fun _ h=>h,fun _ h=>zad _ h,fun _ h=>h,fun _ h=>h⟩,fun hi=>⟨(h3 hi).rt,(h3 hi).rb⟩⟩
    .cases h
   .cases h
  .exact fin h
  .cases h
 | .mtk n t e deep,x,a,a',h=>by
  simp only[conv]at h
  have fin:∀ {n' p a1},bindTok a n n' p=some a1->Ext a a1/\(AccInv a->AccInv a1):=fun {n' p a1} h=>by
   obtain⟨h1,_,h3,h4,_,_,_,_,h9,h10⟩:=bindTok_spec h
   exact⟨h1,fun hi=>⟨by rw[h3];exact hi.rt.snoc h9 h10,by rw[h4];exact hi.rb⟩⟩
  split at h
  .split at h
   .split at h
    .obtain ⟨a1,h1,rfl⟩:=zaA.1 h
     obtain⟨h2,h3⟩:=fin h1
     exact⟨h2.trans ⟨True.intro,⟨[],by simp⟩,fun _ _ h=>h,fun _ h=>h,fun _ h=>h,fun _ h=>zad _ h,fun _ h=>h⟩,fun hi=>⟨(h3 hi).rt,(h3 hi).rb⟩⟩
    .cases h
   .cases h
  .exact fin h
  .cases h
 | .tre n t e,x,a,a',h=>by
  simp only[conv]at h
  have fin:∀ {n' p a1},bindTok a n n' p=some a1->Ext a a1/\(AccInv a->AccInv a1):=fun {n' p a1} h=>by
   obtain⟨h1,_,h3,h4,_,_,_,_,h9,h10⟩:=bindTok_spec h
   exact⟨h1,fun hi=>⟨by rw[h3];exact hi.rt.snoc h9 h10,by rw[h4];exact hi.rb⟩⟩
  split at h
  .split at h
   .split at h
    .obtain ⟨a1,h1,rfl⟩:=zaA.1 h
     obtain⟨h2,h3⟩:=fin h1
     exact⟨h2.trans ⟨True.intro,⟨[],by simp⟩,fun _ _ h=>h,fun _ h=>h,fun _ h=>h,fun _ h=>zad _ h,fun _ h=>h⟩,fun hi=>⟨(h3 hi).rt,(h3 hi).rb⟩⟩
    .cases h
   .cases h
  .exact fin h
  .cases h
 | .trk n t e,x,a,a',h=>by
  simp only[conv]at h
  split at h
  case h_2=>cases h
  split at h
  case h_2=>cases h
  split at h
  case h_2=>cases h
  split at h
  case isFalse=>cases h
  obtain⟨a1,h1,rfl⟩:=zaA.1 h
  obtain⟨g1,_,g3,g4,_,_,_,_,g9,g10⟩:=bindTok_spec h1
  exact⟨g1.trans ⟨True.intro,⟨[],by simp⟩,fun _ _ h=>h,fun _ h=>h,fun _ h=>h,fun _ h=>zad _ h,fun _ h=>h⟩,fun hi=>⟨by rw[g3];exact hi.rt.snoc g9 g10,by rw[g4];exact hi.rb⟩⟩
 | .agg l,x,a,a',h=>by
  simp only[conv]at h
  split at h
  .exact convL_ext l _ _ _ h
  .cases h
 | .tup l,x,a,a',h=>by
  simp only[conv]at h
  split at h
  .exact convL_ext l _ _ _ h
  .cases h
 | .clo f l,x,a,a',h=>by
  simp only[conv]at h
  split at h
  .split at h
   .split at h
    .rename_i a1 h1
     split at h
     .cases h
      obtain⟨e1,e2⟩:=convL_ext l _ _ _ h1
      exact⟨⟨True.intro,e1.rt,e1.rb,e1.fb,e1.ft,e1.mt,e1.ub⟩,fun hi=>⟨(e2 ⟨hi.rt,hi.rb⟩).rt,(e2 ⟨hi.rt,hi.rb⟩).rb⟩⟩
     .cases h
    .cases h
   .cases h
  .cases h
theorem convL_ext :∀(l:List VS) (xs:List AV) (a a':Acc),convL B T l xs a=some a'->Ext a a'/\(AccInv a->AccInv a')
 | [],[],a,a',h=>by simp only[convL]at h;cases h;exact⟨Ext.refl _,id⟩
 |v::l,x::xs,a,a',h=>by
  simp only[convL]at h
  obtain⟨a1,h1,h2⟩:=zaw.1 h
  obtain⟨e1,i1⟩:=conv_ext v x a a1 h1
  obtain⟨e2,i2⟩:=convL_ext l xs a1 a' h2
  exact⟨e1.trans e2,fun hi=>i2 (i1 hi)⟩
 | [],_::_,a,a',h=>by simp only[convL]at h;cases h
 |_::_,[],a,a',h=>by simp only[convL]at h;cases h
end
variable {B T} {fin : Acc} {Fr : Nat -> Prop} {c c' : Ctx} {F : Nat -> Nat -> Prop}
theorem TokOk.tree {Fr:Nat->Prop} {w:World} {S:Stab} {tk:Tok} {v:Value} {F:Nat->Prop} (h:TokOk Fr w S tk v F) {hs:List (Nat×Nat×Nat)} (ht:tk.tr=some hs):tk.wr=true/\tk.deep=true:=by
 have:=h.2.2
 unfold Once at this
 rw[ht]at this
 exact⟨this.1,this.2.1⟩
theorem kOf_some {tr:Option (List (Nat×Nat×Nat))} {k:Nat} (h:kOf tr=some k):tr=some [(k,gone,gone)]:=by
 unfold kOf at h
 split at h
 .split at h
  .rename_i hh
   cases h
   rw[hh.1,hh.2]
  .cases h
 .cases h
theorem bind_ok (hK:Known B T fin Fr c c' F) {a a1 a':Acc} {n:Nat} {n':Option Nat} {t:Tp} {xs:List t.D} {x:AV} {val:Value} {e:TypeId} {deep wr:Bool} {tr:Option (List (Nat×Nat×Nat))} {v:VS} (hx:x.base=true) (h:bindTok a n n' ⟨.sl t,xs⟩=some a1) (hps:a'.ps=a1.ps) (hrt:a'.rt=a1.rt) (hfin:∀y,y∈a'.rt->y∈fin.rt)
  (hv:inst v=fun ps=>match ps with|⟨.sl r,xs⟩::ps=>(if wr then .mtk n else .own n r xs,ps,[(n,some (.live ⟨r,xs,e,wr,deep,tr⟩))])|_=>(.dead,[],[]))
  (hm:match n' with
   |some m=>∃tk0,c.tok m=some (.live tk0)/\(⟨t,xs⟩:(t:Tp)×List t.D)=⟨tk0.t,tk0.xs⟩/\e=tk0.e/\wr=tk0.wr/\(deep=true->tk0.deep=true)/\val=c.τ m/\tr=tk0.tr/\(tr≠none->deep=true)
   |none=>xs=[]/\val= .slice none 0 0/\(tr=none\/(tr=some []/\wr=true/\deep=true))):ConvOk c c' v x a a' val:=by
 obtain⟨h1,h2,h3,_⟩:=bindTok_spec h
 refine⟨[⟨.sl t,xs⟩],[(n,n')],if wr then .mtk n else .own n t xs,[(n,some (.live ⟨t,xs,e,wr,deep,tr⟩))],by rw[hps,h2],by rw[hrt,h3],fun rest=>by rw[hv];rfl,⟨⟨rfl,_,rfl,?_⟩,True.intro⟩,fun hts=>VImp.of_base hx fun _=>?_⟩
 .cases n' with
  |none=>exact⟨hm.1,hm.2.2⟩
  |some m=>obtain⟨tk0,g1,g2,g3,g4,g5,_,g7,g8⟩:=hm;exact⟨tk0,g1,g2,g3,g4,g5,g7,g8⟩
 .have hts:=hts n _ zy
  have hτ:=hK.τ n n' (hfin _ (by rw[hrt,h3];simp))
  have hval:val=c'.τ n:=by
   rw[hτ]
   cases n' with
   |none=>exact hm.2.1
   |some m=>obtain⟨_,_,_,_,_,_,g,_⟩:=hm;exact g
  cases wr with
  |true=>
   refine⟨?_,by rw[hts];simp,fun tk _=>hval⟩
   cases n' with
   |none=>rw[hm.2.1];rfl
   |some m=>obtain⟨tk0,g1,_,_,_,_,g6,_⟩:=hm;rw[g6];exact(hK.toks m tk0 g1).cell
  |false=>
   refine⟨?_,by rw[hts];simp,fun tk htk=>?_⟩
   .rw [hK.w,hK.S]
    cases n' with
    |none=>obtain⟨rfl,rfl,_⟩:=hm;exact rep_nils
    |some m=>
     obtain⟨tk0,g1,g2,_,g4,_,g6,_⟩:=hm
     rw[g6]
     have hrep:=(hK.toks m tk0 g1).rep g4.symm
     have:∀p q:(t:Tp)×List t.D,p=q->Rep c.w c.S (c.τ m) (.sl (q.2.map (enc q.1)))->Rep c.w c.S (c.τ m) (.sl (p.2.map (enc p.1))):=fun p q h=>by subst h;exact id
     exact this _ _ g2 hrep
   .rw [hts]at htk
    cases htk
    exact⟨rfl,hval,rfl⟩
mutual
theorem conv_ok (hK:Known B T fin Fr c c' F):∀(v:VS) (x:AV) (a a':Acc) (val:Value),conv B T v x a=some a'->Ext a' fin->V3 c x val->ConvOk c c' v x a a' val
 | .dead,x,a,a',val,h,hf,hv=>by cases h;exact⟨[],[],.dead,[],by simp,by simp,fun rest=>rfl,True.intro,fun _=>VImp.dead⟩
 | .pv t,x,a,a',val,h,hf,hv=>by
  simp only[conv]at h
  split at h
  .rename_i n
   split at h
   .rename_i tk htk
    split at h
    .rename_i et
     obtain⟨et,ewh⟩:=et
     cases h
     subst et
     refine⟨[⟨.sl tk.t,tk.xs⟩],[],.pv (.sl tk.t) tk.xs,[],rfl,by simp,fun rest=>rfl,True.intro,fun _=>VImp.of_base rfl fun _=>?_⟩
     have hin:n∈fin.ft:=hf.ft n (by simp)
     have h1:=hK.tok n tk htk
     rw[zf hin]at h1
     rw[Tok.fz_eq ewh]at h1
     have h2:=hK.toks n _ h1
     have h3:=(v3_mtk hv).2.2 _ h1
     refine⟨_,rfl,?_⟩
     rw[hK.w,hK.S,h3]
     exact h2.rep rfl
    .cases h
   .cases h
  .split at h
   .rename_i hne y hy
    cases h
    refine⟨[⟨t,y⟩],[],.pv t y,[],rfl,by simp,fun rest=>rfl,True.intro,fun _=>VImp.of_base ?_ fun hv=>?_⟩
    .cases x<;>first|rfl|cases hy
    .obtain ⟨p,h1,h2⟩:=as_rep hy hv
     exact⟨p,h1,by rw[hK.w,hK.S];exact h2⟩
   .cases h
 | .nils,x,a,a',val,h,hf,hv=>by
  simp only[conv]at h
  split at h
  .cases h;exact⟨[],[],.nils,[],by simp,by simp,fun rest=>rfl,True.intro,fun _=>VImp.of_base rfl fun h=>h⟩
  .cases h
 | .nilp,x,a,a',val,h,hf,hv=>by
  simp only[conv]at h
  split at h
  .cases h;exact⟨[],[],.nilp,[],by simp,by simp,fun rest=>rfl,True.intro,fun _=>VImp.of_base rfl fun h=>h⟩
  .cases h
 | .box k o,x,a,a',val,h,hf,hv=>by
  simp only[conv]at h
  split at h
  .rename_i k' o'
   split at h
   .rename_i eo
    subst eo
    obtain⟨h1,h2,h3,h4,_⟩:=bindBox_spec h
    refine⟨[],[],.box k o',[],by simp[h3],by simp[h4],fun rest=>rfl,True.intro,fun _=>VImp.of_base rfl fun hv=>?_⟩
    obtain⟨g1,g2⟩:=v3_boxR hv
    obtain⟨k1,k2⟩:=hK.live k k' (hf.rb _ _ h2)
    have k3:=hK.nm k k' (hf.rb _ _ h2)
    exact⟨k1,by rw[k2];unfold refV at g2⊢;rw[k3];exact g2⟩
   .cases h
  .cases h
 | .ptr t,x,a,a',val,h,hf,hv=>by
  simp only[conv]at h
  split at h
  .rename_i t' y o
   split at h
   .rename_i z hz
    cases h
    refine⟨[⟨t,z⟩],[],.ptr t z 0,[],rfl,by simp,fun rest=>rfl,True.intro,fun _=>VImp.of_base rfl fun hv=>?_⟩
    obtain⟨b,s',e',hc⟩:=v3_ptr hv
    refine⟨b,s'+o,by simpa using e',fun j p hp=>?_⟩
    rw[hK.w,hK.S]
    obtain⟨vs,h1,h2⟩:=row_vals (c:=c) y (b:=b) (q:=s') (fun j p hp=>(hc j p hp).2)
    have h3:=mkRow_rep t _ z _ hz ((h1.drop o).take t.w)
    have hj:j<t.w:=by have:=(zh.1 hp).1;rwa[enc_len]at this
    have hl:=h3.len
    rw[enc_len]at hl
    obtain⟨u,hu⟩:∃u,((vs.drop o).take t.w)[j]? =some u:=⟨_,zc (by rw[hl];exact hj)⟩
    have hr:=h3.get' j u p hu hp
    rw[zaH,zf hj,zaL]at hu
    have hlt:o+j<(enc t' y).length:=by
     rw[enc_len,<-cells_len t' y,h1.len];exact(zh.1 hu).1
    have hst:=(hc (o+j) (enc t' y)[o+j] (zc hlt)).1
    exact⟨by rw[zbv];exact hst,u,by rw[zbv];exact h2 _ _ hu,hr⟩
   .cases h
  .rename_i k o
   split at h
   .rename_i b hb
    split at h
    .rename_i z hz
     cases h
     refine⟨[⟨t,z⟩],[],.ptr t z 0,[],rfl,by simp,fun rest=>rfl,True.intro,fun _=>VImp.of_base rfl fun hv=>?_⟩
     obtain⟨g1,g2⟩:=v3_box (hK.fbm k (hf.fb k (by simp))) hv
     have h1:=hK.box k b o t z hb (hf.fb k (by simp)) hz g1
     exact⟨c.β k,o,by simpa using g2,by rw[hK.w,hK.S];exact h1⟩
    .cases h
   .cases h
  .cases h
 | .own n t e deep,x,a,a',val,h,hf,hv=>by
  simp only[conv]at h
  split at h
  .rename_i n' t' xs
   split at h
   .rename_i tk htk
    split at h
    .rename_i hh
     obtain⟨rfl,h2,h3⟩:=hh
     have h1:=hK.tok n' tk htk
     obtain⟨_,_,g⟩:=v3_own hv
     have hpl:=(hK.toks _ _ h1)
     obtain⟨g1,g2,g3⟩:=g _ h1
     have hpl:=hpl.plain g1
     have e1:(if n'∈fin.ft then tk.fz else tk).e=tk.e:=by split<;>simp[Tok.fz_e]
     have e2:deep=true->(if n'∈fin.ft then tk.fz else tk).deep=true:=fun hd=>by have:=h3 hd;split<;>simp[Tok.fz_deep,this]
     refine bind_ok hK (wr:=false) (e:=e) (deep:=deep) (tr:=none) rfl h rfl rfl (fun y hy=>?_) (by funext ps;cases ps<;>rfl) ⟨_,h1,g3.symm,h2.symm.trans e1.symm,g1.symm,e2,g2,hpl.symm,fun h=>absurd rfl h⟩
     obtain⟨l,hl⟩:=hf.rt;rw[hl];exact zad _ hy
    .cases h
   .cases h
  .rename_i n'
   split at h
   .rename_i tk htk
    split at h
    .rename_i hh
     obtain⟨h1,h2,h3,h4⟩:=hh
     obtain⟨a1,hb,rfl⟩:=zaA.1 h
     have hin:n'∈fin.ft:=hf.ft n' (by simp)
     have g1:=hK.tok n' tk htk
     rw[zf hin,Tok.fz_eq h4]at g1
     have g2:=(v3_mtk hv).2.2 _ g1
     refine bind_ok hK (wr:=false) (e:=e) (deep:=deep) (tr:=none) rfl hb rfl rfl (fun y hy=>?_) (by funext ps;cases ps<;>rfl) ⟨_,g1,rfl,h2.symm,rfl,h3,g2,rfl,fun h=>absurd rfl h⟩
     obtain⟨l,hl⟩:=hf.rt;rw[hl];exact zad _ hy
    .cases h
   .cases h
  .refine bind_ok hK (wr:=false) (e:=e) (deep:=deep) (tr:=none) rfl h rfl rfl (fun y hy=>?_) (by funext ps;cases ps<;>rfl) ⟨rfl,hv,.inl rfl⟩
   obtain⟨l,hl⟩:=hf.rt;rw[hl];exact zad _ hy
  .cases h
 | .mtk n t e deep,x,a,a',val,h,hf,hv=>by
  simp only[conv]at h
  split at h
  .rename_i n'
   split at h
   .rename_i tk htk
    split at h
    .rename_i hh
     obtain⟨h1,h2,h3,h4,h5⟩:=hh
     obtain⟨a1,hb,rfl⟩:=zaA.1 h
     have hnin:n'∉fin.ft:=hK.mt n' (hf.mt n' (by simp))
     have g1:=hK.tok n' tk htk
     rw[zu hnin]at g1
     have g2:=(v3_mtk hv).2.2 _ g1
     refine bind_ok hK (wr:=true) (e:=e) (deep:=deep) (tr:=none) rfl hb rfl rfl (fun y hy=>?_) (by funext ps;cases ps<;>rfl) ⟨_,g1,rfl,h2.symm,h3.symm,h4,g2,h5.symm,fun h=>absurd rfl h⟩
     obtain⟨l,hl⟩:=hf.rt;rw[hl];exact zad _ hy
    .cases h
   .cases h
  .refine bind_ok hK (wr:=true) (e:=e) (deep:=deep) (tr:=none) rfl h rfl rfl (fun y hy=>?_) (by funext ps;cases ps<;>rfl) ⟨rfl,hv,.inl rfl⟩
   obtain⟨l,hl⟩:=hf.rt;rw[hl];exact zad _ hy
  .cases h
 | .tre n t e,x,a,a',val,h,hf,hv=>by
  simp only[conv]at h
  split at h
  .rename_i n'
   split at h
   .rename_i tk htk
    split at h
    .rename_i hh
     obtain⟨h1,h2,h3⟩:=hh
     obtain⟨a1,hb,rfl⟩:=zaA.1 h
     have hnin:n'∉fin.ft:=hK.mt n' (hf.mt n' (by simp))
     have g1:=hK.tok n' tk htk
     rw[zu hnin]at g1
     have g2:=(v3_mtk hv).2.2 _ g1
     have gt:=(hK.toks _ _ g1).tree h3
     refine bind_ok hK (wr:=true) (e:=e) (deep:=true) (tr:=some []) rfl hb rfl rfl (fun y hy=>?_) (by funext ps;cases ps<;>rfl) ⟨_,g1,rfl,h2.symm,gt.1.symm,fun _=>gt.2,g2,h3.symm,fun _=>rfl⟩
     obtain⟨l,hl⟩:=hf.rt;rw[hl];exact zad _ hy
    .cases h
   .cases h
  .refine bind_ok hK (wr:=true) (e:=e) (deep:=true) (tr:=some []) rfl h rfl rfl (fun y hy=>?_) (by funext ps;cases ps<;>rfl) ⟨rfl,hv,.inr ⟨rfl,rfl,rfl⟩⟩
   obtain⟨l,hl⟩:=hf.rt;rw[hl];exact zad _ hy
  .cases h
 | .trk n t e,x,a,a',val,h,hf,hv=>by
  simp only[conv]at h
  split at h
  case h_2=>cases h
  rename_i n'
  split at h
  case h_2=>cases h
  rename_i tk htk
  split at h
  case h_2=>cases h
  rename_i k hk
  split at h
  case isFalse=>cases h
  rename_i hh
  obtain⟨rfl,h2⟩:=hh
  obtain⟨a1,hb,rfl⟩:=zaA.1 h
  obtain⟨h1,h2',h3,_⟩:=bindTok_spec hb
  have htr:=kOf_some hk
  have hnin:n'∉fin.ft:=hK.mt n' (hf.mt n' (by simp))
  have g1:=hK.tok n' tk htk
  rw[zu hnin]at g1
  have g2:=(v3_mtk hv).2.2 _ g1
  have gt:=(hK.toks _ _ g1).tree htr
  refine⟨[⟨.pair (.sl tk.t) (.int .i64),((tk.xs,(k:Int)):List tk.t.D×Int)⟩],[(n,some n')],.mtk n,[(n,some (.live ⟨tk.t,tk.xs,e,true,true,some [(k,gone,gone)]⟩))],h2',h3,fun rest=>rfl,⟨⟨rfl,_,rfl,tk,g1,rfl,h2.symm,gt.1.symm,fun _=>gt.2,htr.symm,fun _=>rfl⟩,True.intro⟩,fun hts=>VImp.of_base rfl fun _=>?_⟩
  have hts:=hts n _ zy
  have hτ:=hK.τ n (some n') (by obtain⟨l,hl⟩:=hf.rt;rw[hl];exact zad _ (by show _∈a1.rt;rw[h3];simp))
  refine⟨?_,by rw[hts];simp,fun tk _=>by rw[hτ];exact g2⟩
  rw[g2]
  exact(hK.toks n' tk g1).cell
 | .agg l,x,a,a',val,h,hf,hv=>by
  simp only[conv]at h
  split at h
  .rename_i cs
   obtain⟨vs,ev,hvs⟩:=hv
   obtain⟨seg,rseg,xs',ts,e1,e2,e3,e4,e5⟩:=convL_ok hK (fun c=>V1c c) (fun x x' v h=>V3_of_V1 h.1) (fun x x' v hi h=>⟨hi.2.1 h.1,h.2⟩) l cs a a' vs h hf hvs
   refine⟨seg,rseg,.agg xs',ts,e1,e2,fun rest=>by simp only[inst,e3],e4,fun hts=>⟨fun h=>h.elim,fun h=>h.elim,fun⟨us,eu,hu⟩=>?_,fun⟨us,eu,hu⟩=>?_⟩⟩
   all_goals
    rw[ev]at eu
    cases eu
    exact⟨vs,ev,e5 hts⟩
  .cases h
 | .tup l,x,a,a',val,h,hf,hv=>by
  simp only[conv]at h
  split at h
  .rename_i cs
   obtain⟨vs,ev,hvs⟩:=hv
   obtain⟨seg,rseg,xs',ts,e1,e2,e3,e4,e5⟩:=convL_ok hK (fun c=>V2 c) (fun x x' v h=>V3_of_V2 h) (fun x x' v hi h=>hi.2.2.1 h) l cs a a' vs h hf hvs
   refine⟨seg,rseg,.tup xs',ts,e1,e2,fun rest=>by simp only[inst,e3],e4,fun hts=>⟨fun h=>h.elim,fun h=>h.elim,fun h=>h.elim,fun⟨us,eu,hu⟩=>?_⟩⟩
   rw[ev]at eu
   cases eu
   exact⟨vs,ev,e5 hts⟩
  .cases h
 | .clo f l,x,a,a',val,h,hf,hv=>by
  simp only[conv]at h
  split at h
  .rename_i g cs
   split at h
   .rename_i eg
    subst eg
    split at h
    case h_2=>cases h
    rename_i a1 h1
    split at h
    case isFalse=>cases h
    rename_i hlen
    cases h
    obtain⟨vs,ev,hvs⟩:=v3_clo hv
    obtain⟨seg,rseg,xs',ts,e1,e2,e3,e4,e5⟩:=convL_ok hK (fun c=>V0 c) (fun x x' v h=>V3_of_V1 (V1_of_V0 h)) (fun x x' v hi h=>hi.1 h) l cs _ a1 vs h1 ⟨True.intro,hf.rt,hf.rb,hf.fb,hf.ft,hf.mt,hf.ub⟩ hvs
    have key:(∀n z,(n,z)∈ts->c'.tok n=z)->V1 c' (.clo g xs') val:=fun hts=>⟨vs,ev,e5 hts⟩
    have e1':a1.ps=seg:=e1
    have e3':instL l seg=(xs',[],ts):=by have:=e3 [];rwa[zat]at this
    exact⟨[packP a1.ps],rseg,.clo g xs',ts,rfl,e2,fun rest=>by
     simp only[inst,zbk,zaW]
     rw[<-hlen,unpack_pack,e1',e3'],e4,fun hts=>⟨fun h=>h.elim,fun h=>key hts,fun h=>V2_of_V1 (key hts),fun h=>V3_of_V1 (key hts)⟩⟩
   .cases h
  .cases h
theorem convL_ok (hK:Known B T fin Fr c c' F) (Q:Ctx->AV->Value->Prop) (hQ3:∀x (x':AV) v,Q c x v->V3 c x v) (hQ:∀x x' v,VImp c c' x x' v->Q c x v->Q c' x' v):∀(l:List VS) (xs:List AV) (a a':Acc) (vals:List Value),convL B T l xs a=some a'->Ext a' fin->All2 (Q c) xs vals->ConvLOk c c' Q l xs a a' vals
 | [],[],a,a',vals,h,hf,hv=>by
  simp only[convL]at h;cases h
  match vals,hv with
  | [],_=>exact⟨[],[],[],[],by simp,by simp,fun rest=>rfl,True.intro,fun _=>True.intro⟩
 |v::l,x::xs,a,a',vals,h,hf,hv=>by
  match vals,hv with
  |val::vals,hv=>
   simp only[convL]at h
   obtain⟨a1,h1,h2⟩:=zaw.1 h
   obtain⟨x1,_⟩:=convL_ext B T l xs a1 a' h2
   obtain⟨s1,r1,y1,t1,p1,p2,p3,p4,p5⟩:=conv_ok hK v x a a1 val h1 (x1.trans hf) (hQ3 x x val hv.1)
   obtain⟨s2,r2,y2,t2,q1,q2,q3,q4,q5⟩:=convL_ok hK Q hQ3 hQ l xs a1 a' vals h2 hf hv.2
   refine⟨s1++s2,r1++r2,y1::y2,t1++t2,by rw[q1,p1,zao],by rw[q2,p2,zao],fun rest=>?_,p4.append q4,fun hts=>⟨hQ x y1 val (p5 fun n z hz=>hts n z (zad _ hz)) hv.1,q5 fun n z hz=>hts n z (zaJ _ hz)⟩⟩
   simp only[instL,zao,p3,q3]
 | [],_::_,a,a',vals,h,hf,hv=>by simp only[convL]at h;cases h
 |_::_,[],a,a',vals,h,hf,hv=>by simp only[convL]at h;cases h
end
end
end Go.Proofs.YtcinmmojlcchfaaGreatDoor
