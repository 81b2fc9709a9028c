import Derived.Test.YtcinmmojlcchfaaGreatDoorKS
import Derived.Laws.MakeOwn
import Derived.MapKept
import Derived.Maps.RangeRun
set_option linter.unusedSimpArgs false
set_option linter.unusedVariables false
namespace Go.Proofs.YtcinmmojlcchfaaGreatDoor
open Go.RowKit
theorem jj8 {p:PV} (h:p.isLit=true):(litOf p).oneCell'=true:=by
 cases p<;>first|rfl|cases h
theorem Deep.one {w:World} {F:Nat->Prop} {v:Value} {c:AV} (h:Deep w F v c):v.oneCell'=true:=by
 cases h with
 |lit _ _ t x p he hl hv=>rw[hv];exact jj8 hl
 |nil _ r=>rfl
 |sl _ cap r xs u b q vs T hb hg hz hc hx hu hq hd hr=>rfl
theorem Deep.tree {w:World} {F:Nat->Prop} {v:Value} {r:Tp} {xs:List r.D} (h:Deep w F v (.pv (.sl r) xs)):Tree w F v r xs []:=by
 cases h with
 |lit _ _ _ _ p he hl hv=>cases he;cases hl
 |nil _ _=>exact .inl rfl
 |sl _ cap _ _ u b q vs T hb hg hz hc hx hu hq hd hr=>
  refine .inr ⟨b,cap,q,rfl,hq,hd,fun i j x c h1 h2=>⟨u i j,?_,(hr i j x c h1 h2).one,fun _=>hr i j x c h1 h2⟩⟩
  rw[cell_of_row w b _ vs T (0,0) hg]
  exact hu i j x c h1 h2
theorem TokOk.toTree {Fr Fr':Nat->Prop} {w:World} {S S':Stab} {tk:Tok} {v:Value} {F:Nat->Prop} (h:TokOk Fr w S' tk v F) (hd:tk.deep=true) (hp:tk.tr=none) (hF:∀b,F b->Fr' b) (hS:∀b,F b->∀o,¬S b o):TokOk Fr' w S (treeTok tk) v F:=by
 have hdp:=h.deepOf hp hd
 obtain⟨h1,h2,_⟩:=h
 refine⟨fun b hb=>⟨hF b hb,(h1 b hb).2⟩,?_,?_⟩
 .rcases h2 with h2|⟨b,cap,vs,T,e,hb,hg,hz,hn,hm,hst,hwr,hc⟩
  .exact .inl h2
  .refine .inr ⟨b,cap,vs,T,e,hb,hg,hz,hn,hm,(fun h=>by cases h),fun _ o=>hS b hb o,fun i j x p hx hp'=>?_⟩
   obtain⟨u,k1,k2,_⟩:=hc i j x p hx hp'
   refine⟨u,k1,fun ht=>?_,fun h=>by cases h⟩
   simp only[treeTok]at ht
   cases hf:tk.t.flatB with
   |false=>rw[hf]at ht;cases ht
   |true=>exact lit_rep (k2 hp) (flat_isLit tk.t x hf p (zak hp'))
 .unfold Once
  simp only[treeTok]
  cases hf:tk.t.flatB with
  |true=>exact fun _=>hdp
  |false=>exact⟨trivial,trivial,hS,hdp.tree⟩
theorem treeTok_whole (tk:Tok):(treeTok tk).whole=true:=by
 unfold treeTok Tok.whole
 cases tk.t.flatB<;>rfl
structure NT where
 n:Nat
 tk:Tok
 v:Value
 G:Nat->Prop
def addT (tok:Nat->Option TS) (l:List NT):Nat->Option TS:=l.foldl (fun f x=>updT f x.n (some (.live x.tk))) tok
theorem Mem.newToks {R:Root} {w:World} {S:Stab} {box:Nat->Option BS} {β:Nat->Nat}:∀(l:List NT) {tok:Nat->Option TS} {τ:Nat->Value} {F:Nat->Nat->Prop} (hM:Mem R box tok β τ F S w) (hn:(l.map (·.n)).Nodup)
  (hl:∀x,x∈l->tok x.n=none/\R.tn x.n=none/\TokOk R.fr w S x.tk x.v x.G/\x.tk.whole=true/\(∀t tk b,tok t=some (.live tk)->x.G b->¬F t b)/\∀k b,box k=some b->¬x.G (β k))
  (hd:∀(i j:Nat) (x y:NT) (b:Nat),l[i]? =some x->l[j]? =some y->x.G b->y.G b->i=j),
  ∃τ' F',Mem R box (addT tok l) β τ' F' S w/\(∀t,tok t≠none->addT tok l t=tok t/\τ' t=τ t)/\∀x,x∈l->addT tok l x.n=some (.live x.tk)/\τ' x.n=x.v
 | [],tok,τ,F,hM,_,_,_=>⟨τ,F,hM,fun _ _=>⟨rfl,rfl⟩,fun x h=>by cases h⟩
 |x::l,tok,τ,F,hM,hn,hl,hd=>by
  obtain⟨g1,g2,g3,g4,g5,g6⟩:=hl x zy
  simp only[zv,zbg]at hn
  have hne:∀y,y∈l->y.n≠x.n:=fun y hy e=>hn.1 (zab.2 ⟨y,hy,e⟩)
  have hM1:=hM.newTok x.n g1 g2 x.tk x.v x.G g3 g4 (fun t tk b ht hb=>g5 t tk b ht hb) g6
  obtain⟨τ',F',h1,h2,h3⟩:=Mem.newToks l hM1 hn.2 (fun y hy=>by
   obtain⟨k1,k2,k3,k4,k5,k6⟩:=hl y (zl _ hy)
   refine⟨by simp only[updT,hne y hy,if_false];exact k1,k2,k3,k4,fun t tk b ht hb=>?_,k6⟩
   by_cases e:t=x.n
   .simp only [e,if_true]
    intro hx
    obtain⟨i,hi⟩:=zbr.1 hy
    have:=hd 0 (i+1) x y b rfl (by simpa using hi) hx hb
    omega
   .simp only [updT,e,if_false]at ht⊢
    exact k5 t tk b ht hb) (fun i j y z b hi hj hy hz=>by
   have:=hd (i+1) (j+1) y z b (by simpa using hi) (by simpa using hj) hy hz
   omega)
  refine⟨τ',F',h1,fun t ht=>?_,fun y hy=>?_⟩
  .have e:t≠x.n:=fun e=>ht (e▸g1)
   obtain⟨k1,k2⟩:=h2 t (by simp only[updT,e,if_false];exact ht)
   simp only[updT,e,if_false]at k1 k2
   exact⟨k1,k2⟩
  .rcases zp.1 hy with rfl|hy
   .obtain ⟨k1,k2⟩:=h2 y.n (by simp[updT])
    simp only[updT,if_true]at k1 k2
    exact⟨k1,k2⟩
   .exact h3 y hy
section
variable {c c' : Ctx} {ρ : Nat -> Nat} (ht : ∀ n, c.tok n ≠ none -> (∃ tk, c.tok n = some (.live tk)) /\ c'.tok (ρ n) ≠ none /\ c'.τ (ρ n) = c.τ n)
include ht
theorem toM0 {x:AV} {v:Value} (hc:x.clean=true) (hb:x.base=true) (hx:V0 c x v):V0 c' (x.toM ρ) v:=by
 cases x with
 |dead=>exact True.intro
 |pv t y=>
  obtain⟨p,h1,h2⟩:=hx
  have hl:=flat_isLit t y hc p (by rw[h1];simp)
  exact⟨p,h1,by rw[rep_litV h2 hl];exact Rep.ofLit hl⟩
 |nils=>exact hx
 |own n t xs=>
  obtain⟨h1,h2,h3⟩:=hx
  obtain⟨⟨tk,g1⟩,g2,g3⟩:=ht n h2
  exact⟨h1.one,g2,fun _ _=>by rw[g3];exact(h3 tk g1).2.1⟩
 |agg _=>cases hb
 |tup _=>cases hb
 |nilp=>cases hc
 |box k o=>cases hc
 |ptr t y o=>cases hc
 |mtk n=>cases hc
 |mptr n i o=>cases hc
 |gmap g=>cases hc
 |sub n l k=>cases hc
 |clo _ _=>cases hc
theorem toM1 {x:AV} {v:Value} (hc:x.clean=true) (hb:x.base=true) (hx:V1 c x v):V1 c' (x.toM ρ) v:=by
 have h0:V0 c x v:=by cases x<;>first|exact hx|cases hb|cases hc
 have:=toM0 (ρ:=ρ) ht hc hb h0
 exact V1_of_V0 this
theorem toML1 :∀ {xs:List AV} {vs:List Value},AV.cleanL xs=true->All2 (V1c c) xs vs->All2 (V1c c') (AV.toML ρ xs) vs
 | [],[],_,_=>True.intro
 |x::xs,_::vs,hc,h=>by
  simp only[AV.cleanL,zj]at hc
  refine⟨⟨?_,h.1.2⟩,toML1 hc.2 h.2⟩
  cases hb:x.base with
  |true=>exact toM1 ht hc.1 hb h.1.1
  |false=>
   cases x with
   |agg _=>exact h.1.1.elim
   |tup _=>exact h.1.1.elim
   |clo _ _=>cases hc.1
   |_=>cases hb
 | [],_::_,_,h=>h.elim
 |_::_,[],_,h=>h.elim
theorem toM2 {x:AV} {v:Value} (hc:x.clean=true) (hx:V2 c x v):V2 c' (x.toM ρ) v:=by
 cases hb:x.base with
 |true=>
  have h1:V1 c x v:=by cases x<;>first|exact hx|cases hb
  exact V2_of_V1 (toM1 ht hc hb h1)
 |false=>
  cases x with
  |agg cs=>obtain⟨us,e,ha⟩:=hx;exact⟨us,e,toML1 ht hc ha⟩
  |tup _=>exact hx.elim
  |clo _ _=>cases hc
  |_=>cases hb
theorem toML2 :∀ {xs:List AV} {vs:List Value},AV.cleanL xs=true->All2 (V2 c) xs vs->All2 (V2 c') (AV.toML ρ xs) vs
 | [],[],_,_=>True.intro
 |x::xs,_::vs,hc,h=>by
  simp only[AV.cleanL,zj]at hc
  exact⟨toM2 ht hc.1 h.1,toML2 hc.2 h.2⟩
 | [],_::_,_,h=>h.elim
 |_::_,[],_,h=>h.elim
theorem toM3 {x:AV} {v:Value} (hc:x.clean=true) (hx:V3 c x v):V3 c' (x.toM ρ) v:=by
 by_cases hb:∃cs,x= .tup cs
 .obtain ⟨cs,rfl⟩:=hb
  obtain⟨us,e,ha⟩:=hx
  exact⟨us,e,toML2 ht hc ha⟩
 .have h2:V2 c x v:=by cases x<;>first|exact hx|exact absurd ⟨_,rfl⟩ hb
  exact V3_of_V2 (toM2 ht hc h2)
end
section
variable {E : Env} {o : Oper} {s : LSt} {e : Eff} {fp : FP}
def tkOf (x:Nat×Option TS):Tok:=match x.2 with
 |some (.live tk)=>tk
 |_=>⟨.unit,[],0,false,false,none⟩
theorem sim_lend (hE:EnvOk E) (c:Call) (ho:o.op= .call c) (g:Operand) (hc:c.callee= .value g) (f:FuncId) (cs:List AV) (hg:s.ev g= .clo f cs) (h:(lendRD E f o.dst (c.args.toList.map s.ev++cs)).R s [] [] e fp):Sim E o s e:=by
 unfold lendRD at h
 obtain⟨B,rb1,hB,h⟩:=readB_R _ _ _ _ _ h (fun k b h=>by cases h)
 obtain⟨T,rt1,hT,h⟩:=readT_R _ _ _ _ _ h (fun k b h=>by cases h)
 obtain⟨m,a0,acc,hm,hcv,h⟩:=pickM_R _ h
 split at h
 case isFalse=>exact h.elim
 rename_i hcond
 obtain⟨hrt,hrb,hbx⟩:=hcond
 obtain⟨r,hr,h⟩:=h
 unfold lendRet at h
 simp only at h
 split at h
 case isFalse=>exact h.elim
 rename_i hok
 obtain⟨cB,cT,cN,cL⟩:=hok
 obtain⟨hfT,rt2,h⟩:=freshT_R _ _ _ _ h
 split at h
 case h_1=>exact h.elim
 rename_i v0 vl hL
 obtain⟨he,_⟩:=h
 obtain⟨s1,hs1⟩:∃s1,s1=m.ret.mk' r:=⟨_,rfl⟩
 rw[<-hs1]at hfT hL he cB cT cN cL
 have hMod:=hE.fn f m hm
 obtain⟨⟨fn,hfn,hname,hbody⟩,hrunm⟩:=hMod
 have hfc:=hrunm a0 r hr
 rw[<-hs1]at hfc
 obtain⟨s0,hs0⟩:∃s0,s0=m.arg.mk' a0:=⟨_,rfl⟩
 rw[<-hs0]at hfc
 rintro R a w hR0 ⟨β,τ,F,S,hM,hn,hdf,hsl⟩ K Q hK
 have hev:=V3_ev hsl
 obtain⟨us,hgv,hus⟩:=v3_clo (hg▸hev g)
 have hvals:All2 (V3 (s.ctx w S β τ)) (c.args.toList.map s.ev++cs) (c.args.toList.map a.eval++us):=(all2_map hev _).append (all2_v0 hus)
 obtain⟨hinv,S',hSS,hM',hcb,hct,hct2,hcb2,hMB,hv0⟩:=conv_mem hM hB hT hcv hvals
 rw[<-hs0]at hcb hct hct2 hcb2 hMB hv0
 have noB:∀k b,lookB s0.B k≠some b:=fun k b hk=>by
  obtain⟨k',b',g1,_⟩:=hcb k b hk
  have:acc.rb=[]:=List.isEmpty_iff.1 hrb
  rw[this]at g1;cases g1
 have noT:∀n tk,lookT s0.T n≠some (.live tk):=fun n tk hk=>by
  obtain⟨n',g1,_⟩:=hct n tk hk
  have:acc.rt=[]:=List.isEmpty_iff.1 hrt
  rw[this]at g1;cases g1
 have hMc:Mem (lentRoot s0 (shβ acc β) (shτ acc τ) (shF acc F) S' w) (lookB s0.B) (lookT s0.T) (shβ acc β) (shτ acc τ) (shF acc F) S' w:=by
  obtain⟨g1,g2,g3,g4,g5⟩:=hMB (lentRoot s0 (shβ acc β) (shτ acc τ) (shF acc F) S' w).fr (fun k b hk=>.inr (.inl ⟨k,b,hk,rfl⟩)) (fun t tk b ht hb=>.inr (.inr ⟨t,tk,ht,hb⟩))
  exact⟨Upd.refl _ _,fun _ _ h=>h,fun _ _ h=>.inl h,fun _ _ _=>rfl,hM'.lt,g1,g2,g3,g4,g5,(fun k b hb hk=>by
   obtain⟨b',hb'⟩:=zaa.1 hk
   exact absurd hb' (noB k b')),fun t v tk hv ht=>absurd ht (noT t tk),fun n tk hs i o d hn htr hin hne=>absurd hn (noT n tk)⟩
 have hgl:GlobOk w (lent s0 (shβ acc β) (shF acc F)) S':=hR0.2.2.later hM hSS fun b hb=>by
  rcases hb with⟨k,x,hk,_⟩|⟨t,tk,ht,_⟩
  .exact absurd hk (noB k x)
  .exact absurd ht (noT t tk)
 have hcall:=hfc w S' (shβ acc β) (shτ acc τ) (shF acc F) _ hgl hMc hv0
 have hrun:(execOp a.eval o).run E.P w= .ok (.enter f (c.args.toList.map a.eval++us).toArray) w:=by
  have hb':¬fn.body=none:=fun e=>by rw[e]at hbody;cases hbody
  have ea:(c.args.toList.map a.eval++us).toArray= #[]++c.args.map a.eval++us.toArray:=by apply Array.ext';simp
  rw[ea]
  simp[execOp,ho,resolve,hc,hgv,Deferred.ofValue,invoke,callFunc,hfn,hname,hb']
 unfold Oper.wp
 rw[hrun,Oper.upon_enter]
 refine hcall.mono fun e' w1 he'=>?_
 obtain⟨v,β1,τ1,F1,S1,rfl,hC,x,hx,hvx⟩:=he'
 rw[hL]at hx
 simp only[List.head?_cons,zaE]at hx
 subst hx
 simp only
 have hlent:∀b,¬lent s0 (shβ acc β) (shF acc F) b:=fun b hb=>by
  rcases hb with⟨k,x,hk,_⟩|⟨t,tk,ht,_⟩
  .exact noB k x hk
  .exact noT t tk ht
 have hup:Upd (fun _=>False) w w1:=⟨hC.upd.os,hC.upd.tape,hC.upd.output,hC.upd.size,fun i hi _=>hC.upd.block i hi (hlent i)⟩
 have hstep:Step (fun _=>False) S S w w1:=⟨hup,fun b o hb=>World.cell?_of_block (w:=w) (hup.block b (hM.lt b o hb) (fun h=>h)),fun _ _ h=>h,fun _ _ h=>.inl h,fun b o hb=>zbi (hM.lt b o hb) hup.size⟩
 have hM1:=hM.step hstep (fun _ h=>h.elim) (fun _ _ _ h=>h) (fun _ _ _ _ _ h=>h)
 obtain⟨ρ,hρ⟩:∃ρ,ρ=tokName (o.dst.getD 0):=⟨_,rfl⟩
 rw[<-hρ]at hfT he
 have live1:∀x,x∈s1.T->∃tk,x.2=some (.live tk)/\tk.deep=true/\tk.wr=false/\tk.tr=none/\lookT s1.T x.1=some (.live tk):=fun x hx=>by
  have h1:=zax.1 cT x hx
  unfold ownDeep at h1
  split at h1
  .rename_i tk htk
   simp only[zj,Bool.not_eq_true',Option.isNone_iff_eq_none]at h1
   refine⟨tk,htk,h1.1.1,h1.1.2,h1.2,?_⟩
   obtain⟨n,z⟩:=x
   simp only at htk
   subst htk
   exact lookT_nodup cN n _ hx
  .cases h1
 obtain⟨l,hl⟩:∃l:List NT,l=s1.T.map fun x=>⟨ρ x.1,treeTok (tkOf x),τ1 x.1,F1 x.1⟩:=⟨_,rfl⟩
 have hmemT:∀n,lookT s1.T n≠none->∃x,x∈s1.T/\x.1=n:=fun n h=>by
  obtain⟨z,hz⟩:=zaa.1 h
  exact⟨(n,some z),lookT_mem hz,rfl⟩
 have hρi:∀ {i j},ρ i=ρ j->i=j:=fun h=>by rw[hρ]at h;exact tokName_inj h
 obtain⟨τ2,F2,hM2,hold,hnew⟩:=hM1.newToks l (by
   rw[hl,List.map_map]
   have:(s1.T.map ((fun x:NT=>x.n)∘fun x=>(⟨ρ x.1,treeTok (tkOf x),τ1 x.1,F1 x.1⟩:NT)))=(s1.T.map (·.1)).map ρ:=by rw[List.map_map];rfl
   rw[this]
   exact nodup_map (fun x y _ _ h=>hρi h) cN) (fun y hy=>by
   rw[hl]at hy
   obtain⟨x,hx,rfl⟩:=zab.1 hy
   obtain⟨tk,e1,e2,e3,e4,e5⟩:=live1 x hx
   have etk:tkOf x=tk:=by unfold tkOf;rw[e1]
   obtain⟨f1,f2⟩:=hfT (ρ x.1) (zab.2 ⟨x,hx,rfl⟩)
   have hk:=hC.toks x.1 tk e5
   have hge:∀b,F1 x.1 b->w.heap.size<=b:=fun b hb=>by
    rcases(hk.1 b hb).1 with h|h
    .exact h
    .exact absurd h (hlent b)
   refine⟨f1,hR0.tn f2,?_,treeTok_whole _,fun t tk' b ht hb hF=>?_,fun k b hk' hb=>?_⟩
   .show TokOk R.fr w1 S (treeTok (tkOf x)) (τ1 x.1) (F1 x.1)
    rw[etk]
    exact hk.toTree e2 e4 (fun b hb=>.inl (zau hM.size (hge b hb))) (fun b hb o hS=>by have:=hM.lt b o hS;have:=hge b hb;omega)
   .have:=((hM.toks t tk' ht).1 b hF).2
    have:=hge b hb
    omega
   .have:=hM.blt hk'
    have:=hge _ hb
    omega) (fun i j x y b hi hj hx hy=>by
   rw[hl,zaF]at hi hj
   obtain⟨x',hx',rfl⟩:=zaA.1 hi
   obtain⟨y',hy',rfl⟩:=zaA.1 hj
   obtain⟨tk,_,_,_,_,e5⟩:=live1 x' (zak hx')
   obtain⟨tk2,_,_,_,_,e6⟩:=live1 y' (zak hy')
   have hnn:=hC.tdis x'.1 y'.1 tk tk2 b e5 e6 hx hy
   rw[List.nodup_iff_pairwise_ne,za2]at cN
   obtain⟨hi1,hi2⟩:=zh.1 hx'
   obtain⟨hj1,hj2⟩:=zh.1 hy'
   rcases zbl i j with h|h|h
   .have:=cN i j (by simpa using hi1) (by simpa using hj1) h
    simp only[List.getElem_map,hi2,hj2]at this
    exact absurd hnn this
   .exact h
   .have:=cN j i (by simpa using hj1) (by simpa using hi1) h
    simp only[List.getElem_map,hi2,hj2]at this
    exact absurd hnn.symm this)
 have htokE:e.updT (lookT s.T)=addT (lookT s.T) l:=by
  rw[he,hl]
  unfold Eff.updT addT
  simp only
  rw[List.foldl_map,List.foldl_map]
  have key:∀(ts:List (Nat×Option TS)) (f:Nat->Option TS),(∀x,x∈ts->∃tk,x.2=some (.live tk))->ts.foldl (fun f x=>updT f (treeOf ρ x).1 (treeOf ρ x).2) f=ts.foldl (fun f x=>updT f (ρ x.1) (some (.live (treeTok (tkOf x))))) f:=fun ts=>by
   induction ts with
   |nil=>intro f _;rfl
   |cons x ts ih=>
    intro f hx
    obtain⟨tk,e1⟩:=hx x zy
    simp only[zaq]
    rw[show treeOf ρ x=(ρ x.1,some (.live (treeTok (tkOf x))))from by unfold treeOf tkOf;rw[e1]]
    exact ih _ fun y hy=>hx y (zl _ hy)
  exact key s1.T _ fun x hx=>by obtain⟨tk,e1,_⟩:=live1 x hx;exact⟨tk,e1⟩
 have hboxE:e.updB (lookB s.B)=lookB s.B:=by rw[he];rfl
 have hs1':∀i,V3 ⟨w1,S,fun k=>e.updB (lookB s.B) k≠none,β,e.updT (lookT s.T),τ2⟩ (getA s.L i) (a.tmps.getD i undef):=fun i=>by
  rw[htokE,hboxE]
  exact V3.mono (c:=s.ctx w S β τ) (c':=⟨w1,S,fun k=>lookB s.B k≠none,β,addT (lookT s.T) l,τ2⟩) ⟨fun _ _ h=>h,hstep.cell⟩ (BoxLe.refl rfl rfl) (fun t ht=>by
   obtain⟨k1,k2⟩:=hold t ht
   exact⟨by show addT _ _ t≠none;rw[k1];exact ht,fun tk' htk=>⟨tk',k1.symm.trans htk,k2,rfl,fun h=>⟨h,rfl⟩⟩⟩) (hsl i)
 refine hK _ _ (rel_put (s:=s) (e:=e) (by rw[hboxE,htokE];exact hM2) hn hdf hs1' o.dst ?_)
 cases hd:o.dst with
 |none=>exact .inl rfl
 |some d=>
  right
  have hv:e.val=v0.toM ρ:=by rw[he];simp[hd]
  rw[hv,htokE,hboxE]
  have hcl:v0.clean=true:=by
   rw[hL]at cL
   simp only[AV.cleanL,zj]at cL
   exact cL.1
  refine toM3 (c:=s1.ctx w1 S1 β1 τ1) (c':=⟨w1,S,fun k=>lookB s.B k≠none,β,addT (lookT s.T) l,τ2⟩) (fun n hn=>?_) hcl hvx
  obtain⟨x,hx,rfl⟩:=hmemT n hn
  obtain⟨tk,_,_,_,_,e5⟩:=live1 x hx
  obtain⟨k1,k2⟩:=hnew ⟨ρ x.1,treeTok (tkOf x),τ1 x.1,F1 x.1⟩ (by rw[hl];exact zab.2 ⟨x,hx,rfl⟩)
  exact⟨⟨tk,e5⟩,by show addT _ _ (ρ x.1)≠none;rw[k1];simp,k2⟩
theorem sim_call (hE:EnvOk E) (c:Call) (ho:o.op= .call c) (g:Operand) (hc:c.callee= .value g) (h:(opRD E o.op o.dst s.ev).R s [] [] e fp):Sim E o s e:=by
 rw[ho]at h
 simp only[opRD,hc]at h
 split at h
 case h_2=>exact h.elim
 rename_i f cs hg
 cases hd:lends E o.dst with
 |true=>rw[hd]at h;exact sim_lend hE c ho g hc f cs hg h
 |false=>rw[hd]at h;exact sim_callN hE c ho g hc f cs hg h
end
theorem TokOk.ofDeep {Fr:Nat->Prop} {w:World} {S:Stab} {r:Tp} {xs:List r.D} {v:Value} {G:Nat->Prop} (h:Deep w G v (.pv (.sl r) xs)) (hF:∀b,G b->Fr b/\b<w.heap.size) (hS:∀b,G b->∀o,¬S b o) (e:TypeId):TokOk Fr w S ⟨r,xs,e,true,true,bif r.flatB then none else some []⟩ v G:=by
 have h0:=h
 refine⟨hF,?_,?_⟩
 .cases h with
  |lit _ _ _ _ p he hl hv=>cases he;cases hl
  |nil _ _=>exact .inl ⟨rfl,rfl⟩
  |sl _ cap _ _ u b q vs T hb hg hz hc hx hu hq hd hr=>
   refine .inr ⟨b,cap,vs,T,rfl,hb,hg,hz,hc,hx,(fun h=>by cases h),fun _ o=>hS b hb o,fun i j x p hx' hp=>?_⟩
   have hj:j<r.w:=by have:=(zh.1 hp).1;rwa[enc_len]at this
   obtain⟨c,hc'⟩:=cells_at x hj
   refine⟨u i j,hu i j x c hx' hc',fun ht=>?_,fun h=>by cases h⟩
   cases hf:r.flatB with
   |false=>rw[hf]at ht;cases ht
   |true=>
    obtain⟨t0,x0,p0,e1,e2,e3⟩:=(hr i j x c hx' hc').rep (S:=fun _ _=>True) (fun _ _ _=>True.intro)
    obtain⟨t1,x1,e4,e5⟩:=(cells_enc r x).get' j c p hc' hp
    rw[e1]at e4;cases e4
    rw[e2]at e5;cases e5
    exact lit_rep e3 (flat_isLit r x hf p (zak hp))
 .unfold Once
  simp only
  cases hf:r.flatB with
  |true=>exact fun _=>h0
  |false=>exact⟨trivial,trivial,hS,h0.tree⟩
def topOf (v:Value) (k:Nat):Prop:=∃l cap,v= .slice (some ⟨k,0,none⟩) l cap
theorem Deep.flatMin {w:World} {F:Nat->Prop} {v:Value} {r:Tp} {xs:List r.D} (h:Deep w F v (.pv (.sl r) xs)) (hf:r.flatB=true):Deep w (topOf v) v (.pv (.sl r) xs):=by
 cases h with
 |lit _ _ _ _ p he hl hv=>cases he;cases hl
 |nil _ _=>exact .nil _ _
 |sl _ cap _ _ u b q vs T hb hg hz hc hx hu hq hd hr=>
  refine .sl _ cap r xs u b (fun _ _ _=>False) vs T ⟨_,_,rfl⟩ hg hz hc hx hu (fun _ _ _ h=>h.elim) (fun _ _ _ _ _ h=>h.elim) (fun i j x c h1 h2=>?_)
  obtain⟨t0,x0,p0,e1,e2,e3⟩:=(hr i j x c h1 h2).rep (S:=fun _ _=>True) (fun _ _ _=>True.intro)
  obtain⟨p,hp,t1,x1,e4,e5⟩:=(cells_enc r x).get j c h2
  rw[e1]at e4;cases e4
  rw[e2]at e5;cases e5
  have hl:=flat_isLit r x hf _ (zak hp)
  rw[e1]
  exact .lit _ _ _ _ _ e2 hl (rep_litV e3 hl)
theorem TokOk.given {Fr:Nat->Prop} {w:World} {S:Stab} {tk:Tok} {v:Value} {F:Nat->Prop} (h:TokOk Fr w S tk v F) (hwh:tk.whole=true) (hwr:tk.wr=true) (hd:tk.deep=true) (hfl:tk.tr=none->tk.t.flatB=true):
  ∃G:Nat->Prop,(∀b,G b->F b)/\(∀b,G b->∀o,¬S b o)/\Deep w G v (.pv (.sl tk.t) tk.xs):=by
 cases htr:tk.tr with
 |none=>
  refine⟨topOf v,fun b ⟨l,cap,e⟩=>h.block e,fun b ⟨l,cap,e⟩=>?_,(h.deepOf htr hd).flatMin (hfl htr)⟩
  rcases h.2.1 with⟨e1,_⟩|⟨b',cap',vs,T,e1,_,_,_,_,_,_,hwr',_⟩
  .rw [e1]at e;cases e
  .rw [e1]at e;cases e;exact hwr' hwr
 |some hs=>
  have:=Tok.whole_nil hwh htr
  subst this
  refine⟨F,fun _ h=>h,?_,h.deepTree htr⟩
  have:=h.2.2
  unfold Once at this
  rw[htr]at this
  exact this.2.2.1
theorem TokOk.noS {Fr:Nat->Prop} {w:World} {S:Stab} {tk:Tok} {v:Value} {F:Nat->Prop} (h:TokOk Fr w S tk v F) {hs:List (Nat×Nat×Nat)} (htr:tk.tr=some hs):∀b,F b->∀o,¬S b o:=by
 have:=h.2.2
 unfold Once at this
 rw[htr]at this
 exact this.2.2.1
theorem TokOk.openTree {Fr:Nat->Prop} {w:World} {S:Stab} {tk:Tok} {v:Value} {F:Nat->Prop} (h:TokOk Fr w S tk v F) {hs:List (Nat×Nat×Nat)} (htr:tk.tr=some hs) {i:Nat} (hi:i<tk.xs.length):
  ∃(b cap:Nat) (vs:Array Value) (T:TypeId) (q:Nat->Nat->Nat->Prop),v= .slice (some ⟨b,0,none⟩) tk.xs.length cap/\F b/\w.heap[b]? =some (.cells vs T (0,0))/\vs.size=cap*tk.t.w/\tk.xs.length<=cap/\cap<=maxLen/\(∀i j k,q i j k->F k/\k≠b)/\(∀i j i' j' k,q i j k->q i' j' k->i=i'/\j=j')/\
   ∀(i j:Nat) (x:tk.t.D) (c:AV),tk.xs[i]? =some x->(cellsOf tk.t x)[j]? =some c->∃u,vs[i*tk.t.w+j]? =some u/\u.oneCell'=true/\(Inn hs i j->Deep w (q i j) u c):=by
 obtain⟨_,h2,h3⟩:=h
 unfold Once at h3
 rw[htr]at h3
 obtain⟨_,_,_,hT⟩:=h3
 rcases h2 with⟨_,e⟩|⟨b,cap,vs,T,e,hb,hg,hz,hn,hm,_⟩
 .rw [e]at hi;simp at hi
 rcases hT with hT|⟨b',cap',q,e',hq,hd,hcc⟩
 .rw [hT]at e;cases e
 rw[e']at e
 cases e
 refine⟨b,cap,vs,T,q,e',hb,hg,hz,hn,hm,hq,hd,fun i j x c hx hc=>?_⟩
 obtain⟨u,k1,k2,k3⟩:=hcc i j x c hx hc
 rw[cell_of_row w b _ vs T (0,0) hg]at k1
 exact⟨u,k1,k2,k3⟩
theorem Mem.split {R:Root} {w:World} {S:Stab} {box:Nat->Option BS} {tok:Nat->Option TS} {β:Nat->Nat} {τ:Nat->Value} {F:Nat->Nat->Prop} (hM:Mem R box tok β τ F S w) (n:Nat) (tk:Tok) (hs:List (Nat×Nat×Nat)) (htk:tok n=some (.live tk)) (htr:tk.tr=some hs)
  (i o:Nat) (y:tk.t.D) (hy:tk.xs[i]? =some y) (r:Tp) (x:List r.D) (hc:(cellsOf tk.t y)[o]? =some (.pv (.sl r) x)) (hno:Inn hs i o) (d:Nat) (hd:tok d=none) (htn:R.tn d=none) (e:TypeId):
  ∃b l cap u,τ n= .slice (some ⟨b,0,none⟩) l cap/\w.cell? ⟨b,i*tk.t.w+o,none⟩=some u/\u.oneCell'=true/\∃F',Mem R box (updT (updT tok n (some (.live {tk with tr:=some ((i,o,d)::hs)}))) d (some (.live ⟨r,x,e,true,true,bif r.flatB then none else some []⟩))) β (fun t=>if t=d then u else τ t) F' S w/\
   TokLe ⟨w,S,fun k=>box k≠none,β,tok,τ⟩ ⟨w,S,fun k=>box k≠none,β,updT (updT tok n (some (.live {tk with tr:=some ((i,o,d)::hs)}))) d (some (.live ⟨r,x,e,true,true,bif r.flatB then none else some []⟩)),fun t=>if t=d then u else τ t⟩:=by
 have hk:=hM.toks n tk htk
 have hdn:d≠n:=fun e=>by rw[e,htk]at hd;cases hd
 have hi:i<tk.xs.length:=(zh.1 hy).1
 obtain⟨b,cap,vs,T,q,ev,hb,hg,hz,hn,hm,hq,hdj,hcc⟩:=hk.openTree htr hi
 obtain⟨u,hu,hu1,hu2⟩:=hcc i o y _ hy hc
 have hD:=hu2 hno
 have hcell:w.cell? ⟨b,i*tk.t.w+o,none⟩=some u:=by rw[cell_of_row w b _ vs T (0,0) hg];exact hu
 obtain⟨tok',htok'⟩:∃tok',tok'=updT (updT tok n (some (.live {tk with tr:=some ((i,o,d)::hs)}))) d (some (.live ⟨r,x,e,true,true,bif r.flatB then none else some []⟩)):=⟨_,rfl⟩
 have td:tok' d=some (.live ⟨r,x,e,true,true,bif r.flatB then none else some []⟩):=by rw[htok'];simp[updT]
 have tn:tok' n=some (.live {tk with tr:=some ((i,o,d)::hs)}):=by rw[htok'];simp[updT,Ne.symm hdn]
 have tt:∀ {t},t≠d->t≠n->tok' t=tok t:=fun {t} h1 h2=>by rw[htok'];simp[updT,h1,h2]
 obtain⟨F',hF'⟩:∃F':Nat->Nat->Prop,F'=fun t k=>if t=d then q i o k else if t=n then F n k/\¬q i o k else F t k:=⟨_,rfl⟩
 have fd:F' d=q i o:=by rw[hF'];funext k;simp
 have fn:F' n=fun k=>F n k/\¬q i o k:=by rw[hF'];funext k;simp[Ne.symm hdn]
 have ft:∀ {t},t≠d->t≠n->F' t=F t:=fun {t} h1 h2=>by rw[hF'];funext k;simp[h1,h2]
 have own:∀ {t tk1},tok' t=some (.live tk1)->∃m tk2,tok m=some (.live tk2)/\(∀k,F' t k->F m k)/\((t=d/\m=n)\/(t≠d/\m=t)):=fun {t tk1} h=>by
  by_cases e1:t=d
  .subst e1;exact⟨n,tk,htk,fun k hk=>by rw[fd]at hk;exact(hq i o k hk).1,.inl ⟨rfl,rfl⟩⟩
  .by_cases e2:t=n
   .subst e2;exact⟨t,tk,htk,fun k hk=>by rw[fn]at hk;exact hk.1,.inr ⟨e1,rfl⟩⟩
   .rw [tt e1 e2]at h
    exact⟨t,tk1,h,fun k hk=>by rw[ft e1 e2]at hk;exact hk,.inr ⟨e1,rfl⟩⟩
 have used:∀ {t},tok t≠none->t≠d/\tok' t≠none:=fun {t} h=>by
  have e1:t≠d:=fun e=>h (e▸hd)
  refine⟨e1,?_⟩
  by_cases e2:t=n
  .rw [e2,tn];simp
  .rw [tt e1 e2];exact h
 have hle:TokLe ⟨w,S,fun k=>box k≠none,β,tok,τ⟩ ⟨w,S,fun k=>box k≠none,β,tok',fun t=>if t=d then u else τ t⟩:=fun t ht=>by
  obtain⟨e1,h1⟩:=used ht
  refine⟨h1,fun tk' h'=>?_⟩
  have h':tok' t=some (.live tk'):=h'
  have eτ:(if t=d then u else τ t)=τ t:=zu e1
  by_cases e2:t=n
  .subst e2
   rw[tn]at h';cases h'
   exact⟨tk,htk,eτ,rfl,fun h=>⟨h,rfl⟩⟩
  .rw [tt e1 e2]at h'
   exact⟨tk',h',eτ,rfl,fun h=>⟨h,rfl⟩⟩
 refine⟨b,_,cap,u,ev,hcell,hu1,F',?_,by rw[<-htok'];exact hle⟩
 rw[<-htok']
 have noS:=hk.noS htr
 refine⟨hM.upd,hM.old,hM.new,hM.keep,hM.lt,fun k bx hbx=>?_,hM.binj,fun t tk1 ht=>?_,fun t t' tk1 tk2 k h1 h2 f1 f2=>?_,fun t tk1 k bx ht hbx hF=>?_,hM.bfix,fun t v tk1 hv ht=>?_,fun m tkm hs1 i1 o1 d1 hm1 htr1 hin hne1=>?_⟩
 .obtain ⟨h1,h2,h2',hBx⟩:=hM.boxes k bx hbx
  exact⟨h1,h2,h2',hBx.imp rfl fun x v hx=>⟨V1.mono (c:=⟨w,S,fun k=>box k≠none,β,tok,τ⟩) (c':=⟨w,S,fun k=>box k≠none,β,tok',fun t=>if t=d then u else τ t⟩) ⟨fun _ _ h=>h,fun _ _ _=>rfl⟩ (BoxLe.refl rfl rfl) hle hx.1,hx.2⟩⟩
 .by_cases e1:t=d
  .subst e1
   rw[td]at ht;cases ht
   rw[fd,zf rfl]
   exact .ofDeep hD (fun b' hb'=>hk.1 b' (hq i o b' hb').1) (fun b' hb'=>noS b' (hq i o b' hb').1) e
  .rw [zu e1]
   by_cases e2:t=n
   .subst e2
    rw[tn]at ht;cases ht
    rw[fn]
    obtain⟨h1,h2,h3⟩:=hk
    refine⟨fun b' hb'=>h1 b' hb'.1,?_,?_⟩
    .rcases h2 with h2|⟨b2,cap2,vs2,T2,e3,h4,h5,h6,h7,h8,h9,h10,h11⟩
     .exact .inl h2
     .have e4:=e3
      rw[ev]at e4
      have e5:b=b2:=by cases e4;rfl
      refine .inr ⟨b2,cap2,vs2,T2,e3,⟨h4,fun hqb=>(hq i o b2 hqb).2 e5.symm⟩,h5,h6,h7,h8,h9,h10,fun i2 j x2 p hx2 hp=>?_⟩
      obtain⟨u2,k1,_,k3⟩:=h11 i2 j x2 p hx2 hp
      exact⟨u2,k1,(fun h=>by cases h),k3⟩
    .unfold Once at h3⊢
     rw[htr]at h3
     obtain⟨g1,g2,g3,_⟩:=h3
     refine⟨g1,g2,fun b' hb'=>g3 b' hb'.1,.inr ⟨b,cap,fun i2 j2 k=>q i2 j2 k/\¬(i2=i/\j2=o),ev,fun i2 j2 k hk=>⟨⟨(hq i2 j2 k hk.1).1,fun hqk=>hk.2 (hdj i2 j2 i o k hk.1 hqk)⟩,(hq i2 j2 k hk.1).2⟩,fun i2 j2 i3 j3 k h4 h5=>hdj i2 j2 i3 j3 k h4.1 h5.1,fun i2 j2 x2 c2 hx2 hc2=>?_⟩⟩
     obtain⟨u2,k1,k2,k3⟩:=hcc i2 j2 x2 c2 hx2 hc2
     refine⟨u2,by rw[cell_of_row w b _ vs T (0,0) hg];exact k1,k2,fun hnot=>?_⟩
     have hnb:¬(i2=i/\j2=o):=fun⟨e3,e4⟩=>hnot.1 d (by rw[e3,e4];exact zy)
     exact(k3 (hnot.of fun _ h=>zl _ h)).mono fun k hqk=>⟨hqk,hnb⟩
   .rw [tt e1 e2]at ht
    rw[ft e1 e2]
    exact hM.toks t tk1 ht
 .obtain ⟨m1,tk3,g1,g2,g3⟩:=own h1
  obtain⟨m2,tk4,g4,g5,g6⟩:=own h2
  have em:=hM.tdis m1 m2 tk3 tk4 k g1 g4 (g2 k f1) (g5 k f2)
  rcases g3 with⟨e1,e2⟩|⟨e1,e2⟩<;>rcases g6 with⟨e3,e4⟩|⟨e3,e4⟩
  .rw [e1,e3]
  .exfalso
   have:t'=n:=by rw[<-e4,<-em,e2]
   rw[e1,fd]at f1
   rw[this,fn]at f2
   exact f2.2 f1
  .exfalso
   have:t=n:=by rw[<-e2,em,e4]
   rw[e3,fd]at f2
   rw[this,fn]at f1
   exact f1.2 f2
  .rw [<-e2,<-e4];exact em
 .obtain ⟨m1,tk3,g1,g2,_⟩:=own ht
  exact hM.tbox m1 tk3 k bx g1 hbx (g2 _ hF)
 .by_cases e1:t=d
  .subst e1;rw[htn]at hv;cases hv
  .rw [zu e1]
   by_cases e2:t=n
   .subst e2;exact hM.tfix t v tk hv htk
   .rw [tt e1 e2]at ht;exact hM.tfix t v tk1 hv ht
 .have old:∀m tkm hs1,m≠d->tok m=some (.live tkm)->tkm.tr=some hs1->(i1,o1,d1)∈hs1->tok' d1≠none/\∀td1,tok' d1=some (.live td1)->∃b l cap,(if m=d then u else τ m)= .slice (some ⟨b,0,none⟩) l cap/\w.cell? ⟨b,i1*tkm.t.w+o1,none⟩=some (if d1=d then u else τ d1):=fun m tkm hs1 hmd h1 h2 h3=>by
   obtain⟨g1,g2⟩:=hM.hol m tkm hs1 i1 o1 d1 h1 h2 h3 hne1
   obtain⟨e1,g3⟩:=used g1
   refine⟨g3,fun td1 h4=>?_⟩
   rw[zu hmd,zu e1]
   by_cases e2:d1=n
   .exact g2 tk (e2▸htk)
   .rw [tt e1 e2]at h4;exact g2 td1 h4
  by_cases e1:m=d
  .subst e1
   rw[td]at hm1;cases hm1
   exfalso
   simp only at htr1
   cases hf:r.flatB with
   |true=>rw[hf]at htr1;cases htr1
   |false=>rw[hf]at htr1;cases htr1;cases hin
  .by_cases e2:m=n
   .subst e2
    rw[tn]at hm1;cases hm1
    simp only[zaE]at htr1
    subst htr1
    rcases zp.1 hin with h1|h1
    .cases h1
     refine⟨by rw[td];simp,fun _ _=>⟨b,_,cap,by rw[zu e1];exact ev,by rw[zf rfl];exact hcell⟩⟩
    .exact old m tk hs e1 htk htr h1
   .rw [tt e1 e2]at hm1
    exact old m tkm hs1 e1 hm1 htr1 hin
section
variable {E : Env} {o : Oper} {s : LSt} {e : Eff} {fp : FP}
theorem load_one (T:TypeId) (x:Operand) (ho:o.op= .load T x) (ty:Ty) (hT:TyOk E.P T ty) (hagg:ty.agg=false) (a:Act) (w:World) (ad:Addr) (hp:a.eval x= .pointer (some ad)) (u:Value) (hu:w.cell? ad=some u):(execOp a.eval o).run E.P w= .ok (.value u) w:=by
 obtain⟨d,hd1,hd2⟩:=hT.desc
 simp only[execOp,ho,Instr.loadAt,hp,Instr.sureAddr,Sem.run_bind,Sem.run_pure,Result.andThen_ok]
 rw[loadVar_one hd1 (hd2.trans hagg) w _ u hu]
 rfl
theorem findHole_mem {o:Nat}:∀ {hs:List (Nat×Nat×Nat)} {i d:Nat},findHole o hs=some (i,d)->(i,o,d)∈hs
 | [],_,_,h=>by cases h
 |(i1,o1,d1)::hs,i,d,h=>by
  simp only[findHole]at h
  cases he:Nat.beq o1 o with
  |true=>
   rw[he]at h
   simp only[cond,zaE,Prod.mk.injEq]at h
   obtain⟨rfl,rfl⟩:=h
   rw[zby he]
   exact zy
  |false=>
   rw[he]at h
   exact zl _ (findHole_mem h)
theorem findHole_none {o:Nat}:∀ {hs:List (Nat×Nat×Nat)},findHole o hs=none->∀i d,(i,o,d)∉hs
 | [],_,i,d,hin=>by cases hin
 |(i1,o1,d1)::hs,h,i,d,hin=>by
  simp only[findHole]at h
  cases he:Nat.beq o1 o with
  |true=>rw[he]at h;cases h
  |false=>
   rw[he]at h
   rcases zp.1 hin with h1|h1
   .cases h1;rw[Nat.beq_refl]at he;cases he
   .exact findHole_none h i d h1
theorem aggTree_R {hs:List (Nat×Nat×Nat)}:∀(m i q:Nat) (f:List AV->RD) (rb rt:List Nat),(aggTree hs i q m f).R s rb rt e fp->∃ds:List Nat,ds.length=m/\(∀(j d:Nat),ds[j]? =some d->(i,q+j,d)∈hs/\d≠gone/\∃td,lookT s.T d=some (.live td))/\∃rt',(f (ds.map AV.mtk)).R s rb rt' e fp
 |0,i,q,f,rb,rt,h=>⟨[],rfl,(fun j d h=>by simp at h),rt,h⟩
 |m+1,i,q,f,rb,rt,h=>by
  unfold aggTree at h
  split at h
  case h_2=>exact h.elim
  rename_i i' d' hfh
  obtain⟨rfl,h⟩:=h
  split at h
  .exact h.elim
  rename_i hg
  simp only[RD.R]at h
  split at h
  case h_2=>exact h.elim
  rename_i td htd
  obtain⟨ds,h1,h2,rt',h3⟩:=aggTree_R m _ (q+1) _ _ _ h
  refine⟨d'::ds,by simp[h1],fun j d hj=>?_,rt',h3⟩
  cases j with
  |zero=>simp at hj;subst hj;exact⟨findHole_mem hfh,hg,td,htd⟩
  |succ j=>have:=h2 j d (by simpa using hj);rwa[show q+(j+1)=q+1+j from by omega]
theorem okK_R {i:Nat}:∀(hs:List (Nat×Nat×Nat)) (f:RD) (rb rt:List Nat),(okK hs i f).R s rb rt e fp->(∀k m,(k,m,gone)∈hs->k<=i)/\f.R s rb rt e fp
 | [],f,rb,rt,h=>⟨(fun k m h=>by cases h),h⟩
 |y::hs,f,rb,rt,h=>by
  unfold okK at h
  cases hb:Nat.beq y.2.2 gone with
  |true=>
   rw[hb]at h
   obtain⟨h1,h⟩:=h
   obtain⟨h2,h3⟩:=okK_R hs f rb rt h
   refine⟨fun k m hm=>?_,h3⟩
   rcases zp.1 hm with e|hm
   .subst e;exact h1
   .exact h2 k m hm
  |false=>
   rw[hb]at h
   obtain⟨h2,h3⟩:=okK_R hs f rb rt h
   refine⟨fun k m hm=>?_,h3⟩
   rcases zp.1 hm with e|hm
   .subst e;rw[Nat.beq_refl]at hb;cases hb
   .exact h2 k m hm
theorem all2_mtk {c:Ctx} {τ:Nat->Value}:∀ds:List Nat,(∀d,d∈ds->V1c c (.mtk d) (τ d))->All2 (V1c c) (ds.map AV.mtk) (ds.map τ)
 | [],_=>True.intro
 |d::ds,h=>⟨h d zy,all2_mtk ds fun x hx=>h x (zl _ hx)⟩
theorem sim_loadTree (hE:EnvOk E) (T:TypeId) (x:Operand) (ho:o.op= .load T x) (ty:Ty) (n i q:Nat) (tk:Tok) (hs:List (Nat×Nat×Nat)) (hty:E.ty T=some ty) (hx:s.ev x= .mptr n i q) (htk:lookT s.T n=some (.live tk)) (htr:tk.tr=some hs)
  (h:(loadTree E o.dst ty n i q tk hs).R s [] [n] e fp):Sim E o s e:=by
 have hT:=hE.ty T ty hty
 unfold loadTree at h
 split at h
 .rename_i hagg
  obtain⟨ds,hl,hd,rt',h⟩:=aggTree_R _ _ _ _ _ _ h
  cases val_R h
  refine sim_look fun R β τ F S a w hM hev=>?_
  have h1:=hev x;rw[hx]at h1
  obtain⟨g1,g2,g3⟩:=v3_mptr h1
  obtain⟨b,l,cap,e1,e2,e3⟩:=g3 tk htk
  refine load_at (c:=s.ctx w S β τ) T x ho ty hT a w b (i*tk.t.w+q) e3 (ds.map AV.mtk) (ds.map τ) (all2_mtk ds fun d hm=>?_) (fun j v hj=>?_) _ (.inl ⟨hagg,by simp[hl],rfl⟩)
  .obtain ⟨j,hj⟩:=zbr.1 hm
   obtain⟨_,_,td,htd⟩:=hd j d hj
   have hc:=(hM.toks d td htd).cell
   exact⟨V1_of_V0 ⟨hc,by show lookT s.T d≠none;rw[htd];simp,fun _ _=>rfl⟩,hc⟩
  .rw [zaF]at hj
   obtain⟨d,hj',rfl⟩:=zaA.1 hj
   obtain⟨hm,hne,td,htd⟩:=hd j d hj'
   obtain⟨_,k2⟩:=hM.hol n tk hs i (q+j) d htk htr hm hne
   obtain⟨b',l',cap',e4,e5⟩:=k2 td htd
   rw[show(s.ctx w S β τ).τ n=τ n from rfl,e4]at e1
   cases e1
   rw[zbv]
   exact e5
 rename_i hagg
 have hagg:ty.agg=false:=by simpa using hagg
 have h0:=okK_R _ _ _ _ h
 clear h
 obtain⟨hkk,h⟩:=h0
 obtain⟨y,hy,h⟩:=h
 have hi:i<tk.xs.length:=(zh.1 hy).1
 simp only at h
 split at h
 .rename_i r xv hcell
  split at h
  .rename_i i' d' hfh
   obtain⟨rfl,h⟩:=h
   split at h
   .exact h.elim
   rename_i hdg
   simp only[RD.R]at h
   split at h
   case h_2=>exact h.elim
   rename_i td htd
   cases val_R h
   refine sim_look fun R β τ F S a w hM hev=>?_
   have h1:=hev x;rw[hx]at h1
   obtain⟨g1,g2,g3⟩:=v3_mptr h1
   obtain⟨b,l,cap,e1,e2,e3⟩:=g3 tk htk
   obtain⟨k1,k2⟩:=hM.hol n tk hs i' q d' htk htr (findHole_mem hfh) hdg
   obtain⟨b',l',cap',e4,e5⟩:=k2 td htd
   rw[show(s.ctx w S β τ).τ n=τ n from rfl,e4]at e1
   cases e1
   refine⟨τ d',load_one T x ho ty hT hagg a w _ e3 _ e5,?_⟩
   refine⟨?_,k1,fun _ _=>rfl⟩
   exact(hM.toks d' td htd).cell
  .rename_i hfh
   split at h
   case h_2=>exact h.elim
   rename_i d e' r0 by0 hdst hel
   simp only[RD.R]at h
   split at h
   case h_2=>exact h.elim
   rename_i hd
   split at h
   .exact h.elim
   rename_i hres
   obtain⟨rfl,_⟩:=h
   rintro R a w hR0 ⟨β,τ,F,S,hM,hn,hdf,hsl⟩ K Q hK
   have hev:=V3_ev hsl
   have h1:=hev x;rw[hx]at h1
   obtain⟨g1,g2,g3⟩:=v3_mptr h1
   obtain⟨b,l,cap,e1,e2,e3⟩:=g3 tk htk
   obtain⟨b',l',cap',u,e4,e5,e6,F',hM',hle⟩:=hM.split n tk hs htk htr i q y hy r xv hcell ⟨findHole_none hfh i,fun k hm=>hkk k gone hm⟩ d hd (hR0.tn (by simpa using hres)) e'
   rw[show(s.ctx w S β τ).τ n=τ n from rfl,e4]at e1
   cases e1
   have hrun:=load_one (E:=E) T x ho ty hT hagg a w _ e3 u e5
   refine wp_value hrun (hK _ _ (rel_put (e:=⟨.mtk d,[],[(n,some (.live {tk with tr:=some ((i,q,d)::hs)})),(d,some (.live ⟨r,xv,e',true,true,bif r.flatB then none else some []⟩))]⟩) hM' hn hdf ?_ o.dst (.inr ?_)))
   .exact lift3 (c:=s.ctx w S β τ) (c':=⟨w,S,fun k=>lookB s.B k≠none,β,updT (updT (lookT s.T) n (some (.live {tk with tr:=some ((i,q,d)::hs)}))) d (some (.live ⟨r,xv,e',true,true,bif r.flatB then none else some []⟩)),fun t=>if t=d then u else τ t⟩) ⟨fun _ _ h=>h,fun _ _ _=>rfl⟩ (BoxLe.refl rfl rfl) hle hsl
   .refine ⟨e6,?_,fun tk' _=>?_⟩
    .show updT _ d _ d≠none
     simp[updT]
    .show u=if d=d then u else τ d
     rw[zf rfl]
 .rename_i t xv hnsl hcell
  split at h
  case isFalse=>exact h.elim
  rename_i hfl
  split at h
  case h_2=>exact h.elim
  rename_i hfh
  cases val_R h
  refine sim_look fun R β τ F S a w hM hev=>?_
  have h1:=hev x;rw[hx]at h1
  obtain⟨g1,g2,g3⟩:=v3_mptr h1
  obtain⟨b,l,cap,e1,e2,e3⟩:=g3 tk htk
  obtain⟨b',cap',vs,T',qf,ev,hb,hg,hz,hnc,hm,hq,hdj,hcc⟩:=(hM.toks n tk htk).openTree htr hi
  rw[show(s.ctx w S β τ).τ n=τ n from rfl,ev]at e1
  cases e1
  obtain⟨u,k1,k2,k3⟩:=hcc i q y _ hy hcell
  have hD:=k3 ⟨findHole_none hfh i,fun k hm=>hkk k gone hm⟩
  refine⟨u,load_one T x ho ty hT hagg a w _ e3 u (by rw[cell_of_row w b _ vs T' (0,0) hg];exact k1),?_⟩
  obtain⟨t0,x0,p0,e4,e5,e6⟩:=hD.rep (S:=fun _ _=>True) (fun _ _ _=>True.intro)
  cases e4
  have hl:=flat_isLit t xv hfl p0 (by rw[e5];simp)
  exact⟨p0,e5,lit_rep e6 hl⟩
 .exact h.elim
end
theorem lt_of_blt {a b:Nat} (h:Nat.blt a b=true):a<b:=Eq.mp Nat.blt_eq h
theorem blt_of_lt {a b:Nat} (h:a<b):Nat.blt a b=true:=Eq.mpr Nat.blt_eq h
theorem setCell_cells :∀(t:Tp) (x:t.D) (o:Nat) (r:Tp) (ys:List r.D),cellTp t o=some (.sl r)->cellsOf t (setCell t x o r ys)=(cellsOf t x).set o (.pv (.sl r) ys)
 | .pair a b,x,o,r,ys,h=>by
  simp only[cellTp]at h
  simp only[setCell,cellsOf]
  cases hb:Nat.blt o a.w with
  |true=>
   rw[hb]at h
   have hlt:o<a.w:=lt_of_blt hb
   simp only[cond]at h⊢
   rw[setCell_cells a x.1 o r ys h,List.set_append_left _ _ (by rw[cells_len];exact hlt)]
  |false=>
   rw[hb]at h
   have hge:a.w<=o:=by
    rcases Nat.lt_or_ge o a.w with h1|h1
    .rw [blt_of_lt h1]at hb;cases hb
    .exact h1
   simp only[cond]at h⊢
   rw[setCell_cells b x.2 (o-a.w) r ys h,List.set_append_right _ _ (by rw[cells_len];exact hge),cells_len]
 | .sl r',x,o,r,ys,h=>by
  match o,h with
  |0,h=>
   simp only[cellTp,zaE,Tp.sl.injEq]at h
   subst h
   simp only[setCell,cellsOf,List.set_cons_zero]
   rfl
  |o+1,h=>simp[cellTp]at h
 | .q,x,o,r,ys,h=>by
  match o,h with
  |0,h=>simp[cellTp]at h
  |1,h=>simp[cellTp]at h
  |2,h=>
   simp only[cellTp,zaE,Tp.sl.injEq]at h
   subst h
   rfl
  |3,h=>simp[cellTp]at h
  |4,h=>simp[cellTp]at h
  |5,h=>
   simp only[cellTp,zaE,Tp.sl.injEq]at h
   subst h
   rfl
  |o+6,h=>simp[cellTp]at h
 | .unit,_,_,_,_,h=>by simp[cellTp]at h
 | .bool,_,o,_,_,h=>by cases o<;>simp[cellTp]at h
 | .int _,_,o,_,_,h=>by cases o<;>simp[cellTp]at h
 | .str,_,o,_,_,h=>by cases o<;>simp[cellTp]at h
 | .opt _,_,o,_,_,h=>by cases o<;>simp[cellTp]at h
theorem spend_one (tok:Nat->Option TS) (d:Nat):spend tok [d]=updT tok d (some .spent):=by
 funext t
 simp only[spend,updT,zaD]
theorem Mem.plug {R:Root} {w:World} {S:Stab} {box:Nat->Option BS} {tok:Nat->Option TS} {β:Nat->Nat} {τ:Nat->Value} {F:Nat->Nat->Prop} (hM:Mem R box tok β τ F S w) (n:Nat) (tk:Tok) (i o d:Nat) (hs:List (Nat×Nat×Nat)) (htk:tok n=some (.live tk)) (htr:tk.tr=some ((i,o,d)::hs))
  (td:Tok) (htd:tok d=some (.live td)) (hwh:td.whole=true) (hwr:td.wr=true) (hdp:td.deep=true) (hfl:td.tr=none->td.t.flatB=true) (hdn:d≠n) (hct:cellTp tk.t o=some (.sl td.t)) (hdg:d≠gone):
  ∃F',Mem R box (updT (updT tok d (some .spent)) n (some (.live {tk with xs:=tk.xs.modify i fun y=>setCell tk.t y o td.t td.xs,tr:=some hs}))) β τ F' S w/\
   TokLe ⟨w,S,fun k=>box k≠none,β,tok,τ⟩ ⟨w,S,fun k=>box k≠none,β,updT (updT tok d (some .spent)) n (some (.live {tk with xs:=tk.xs.modify i fun y=>setCell tk.t y o td.t td.xs,tr:=some hs})),τ⟩:=by
 have hk:=hM.toks n tk htk
 obtain⟨Gd,hG1,hG2,hGD⟩:=(hM.toks d td htd).given hwh hwr hdp hfl
 have hwrn:=(hk.tree htr).1
 obtain⟨tk',htk'⟩:∃tk':Tok,tk'={tk with xs:=tk.xs.modify i fun y=>setCell tk.t y o td.t td.xs,tr:=some hs}:=⟨_,rfl⟩
 have hstep:Step (fun _=>False) S S w w:=⟨Upd.refl _ _,fun _ _ _=>rfl,fun _ _ h=>h,fun _ _ h=>.inl h,hM.lt⟩
 have hlen:(tk.xs.modify i fun y=>setCell tk.t y o td.t td.xs).length=tk.xs.length:=by simp
 have hGd:∀b,Gd b->R.fr b/\b<w.heap.size:=fun b hb=>(hM.toks d td htd).1 b (hG1 b hb)
 have hTk:TokOk R.fr w S tk' (τ n) (fun b=>F n b\/Gd b):=by
  rw[htk']
  refine⟨fun b hb=>hb.elim (hk.1 b) (hGd b),?_,?_⟩
  .rcases hk.2.1 with⟨e1,e2⟩|⟨b,cap,vs,T,e1,h1,hg,hz,hn,hm,hst,hwr',hc⟩
   .exact .inl ⟨e1,by show tk.xs.modify i _=[];rw[e2];simp⟩
   .refine .inr ⟨b,cap,vs,T,by rw[hlen];exact e1,.inl h1,hg,hz,by rw[hlen];exact hn,hm,(fun h=>by rw[show tk.wr=true from hwrn]at h;cases h),hwr',fun i2 j x p hx hp=>?_⟩
    have hi2:i2<tk.xs.length:=by have:=(zh.1 hx).1;simpa using this
    have hj:j<tk.t.w:=by have:=(zh.1 hp).1;rwa[enc_len]at this
    obtain⟨u,k1,_⟩:=hc i2 j tk.xs[i2] ((enc tk.t tk.xs[i2])[j]'(by rw[enc_len];exact hj)) (zc hi2) (zc _)
    exact⟨u,k1,(fun h=>by cases h),fun h=>by rw[hwrn]at h;cases h⟩
  .have h3:=hk.2.2
   unfold Once at h3⊢
   rw[htr]at h3
   obtain⟨g1,g2,g3,hT⟩:=h3
   refine⟨g1,g2,fun b hb=>hb.elim (g3 b) (hG2 b),?_⟩
   rcases hT with hT|⟨b,cap,q,e',hq,hd,hcc⟩
   .exact .inl hT
   .have hbF:F n b:=hk.block e'
    have hGF:∀k,Gd k->¬F n k:=fun k h1 h2=>hdn (hM.tdis d n td tk k htd htk (hG1 k h1) h2)
    refine .inr ⟨b,cap,fun i2 j2 k=>if i2=i/\j2=o then Gd k else q i2 j2 k,by rw[hlen];exact e',fun i2 j2 k hk'=>?_,fun i2 j2 i3 j3 k h1 h2=>?_,fun i2 j2 x c hx hc=>?_⟩
    .simp only at hk'
     split at hk'
     .exact ⟨.inr hk',fun e=>hGF k hk' (e▸hbF)⟩
     .exact ⟨.inl (hq i2 j2 k hk').1,(hq i2 j2 k hk').2⟩
    .simp only at h1 h2
     split at h1<;>split at h2
     .rename_i h3 h4;exact⟨h3.1.trans h4.1.symm,h3.2.trans h4.2.symm⟩
     .exact absurd (hq i3 j3 k h2).1 (hGF k h1)
     .exact absurd (hq i2 j2 k h1).1 (hGF k h2)
     .exact hd i2 j2 i3 j3 k h1 h2
    .have hi2:i2<tk.xs.length:=by have:=(zh.1 hx).1;simpa using this
     have hj:j2<tk.t.w:=cells_lt hc
     obtain⟨c0,hc0⟩:=cells_at tk.xs[i2] hj
     obtain⟨u,k1,k2,k3⟩:=hcc i2 j2 tk.xs[i2] c0 (zc hi2) hc0
     refine⟨u,k1,k2,fun hnot=>?_⟩
     rw[List.getElem?_modify,zc hi2]at hx
     simp only[Option.map_eq_map,zbn,zaE]at hx
     by_cases hio:i2=i/\j2=o
     .have eF:(fun k=>if i2=i/\j2=o then Gd k else q i2 j2 k)=Gd:=by funext k;rw[zf hio]
      show Deep w (fun k=>if i2=i/\j2=o then Gd k else q i2 j2 k) u c
      rw[eF]
      obtain⟨e1,e2⟩:=hio
      subst e1;subst e2
      rw[zf rfl]at hx
      rw[<-hx,setCell_cells tk.t _ j2 td.t td.xs hct,List.getElem?_set_self (by rw[cells_len];exact hj)]at hc
      cases hc
      obtain⟨b2,l2,cap2,e3,e4⟩:=(hM.hol n tk _ i2 j2 d htk htr zy hdg).2 td htd
      rw[e']at e3;cases e3
      rw[k1]at e4
      cases e4
      exact hGD
     .have eF:(fun k=>if i2=i/\j2=o then Gd k else q i2 j2 k)=q i2 j2:=by funext k;rw[zu hio]
      show Deep w (fun k=>if i2=i/\j2=o then Gd k else q i2 j2 k) u c
      rw[eF]
      have hsame:c=c0:=by
       by_cases hi3:i2=i
       .subst hi3
        rw[zf rfl]at hx
        rw[<-hx,setCell_cells tk.t _ o td.t td.xs hct,List.getElem?_set_ne (fun e=>hio ⟨rfl,e.symm⟩),hc0]at hc
        cases hc;rfl
       .rw [zu (Ne.symm hi3)]at hx
        rw[<-hx,hc0]at hc
        cases hc;rfl
      rw[hsame]
      refine k3 ⟨fun d' hin=>?_,fun k hin=>?_⟩
      .rcases zp.1 hin with h1|h1
       .cases h1;exact hio ⟨rfl,rfl⟩
       .exact hnot.1 d' h1
      .rcases zp.1 hin with h1|h1
       .cases h1;exact absurd rfl hdg
       .exact hnot.2 k h1
 obtain⟨h1,h2⟩:=hM.turn n tk tk' htk [d] (by simp[Ne.symm hdn]) (fun _=>False) hstep (fun _ h=>h.elim) (fun b=>F n b\/Gd b) (fun b hb=>hb.imp id fun h=>⟨d,td,by simp,htd,hG1 b h⟩) hTk (by rw[htk']) (fun h=>by rw[hwrn]at h;cases h)
  (fun hs' i' o' d' he hin _=>by
   rw[htk']at he
   simp only[zaE]at he
   subst he
   exact⟨_,htr,zl _ hin,fun _ _ _ _=>rfl⟩)
 rw[spend_one,htk']at h1 h2
 exact⟨_,h1,h2⟩
theorem plugAt_rel {R:Root} {s:LSt} {a:Act} {w:World} (n:Nat) (h:Rel R s a w):Rel R {s with T:=plugAt s.T n} a w:=by
 unfold plugAt
 split
 case h_2=>exact h
 rename_i tk htk
 split
 case h_2=>exact h
 rename_i i o d hs htr
 split
 case h_2=>exact h
 rename_i td htd
 split
 case isFalse=>exact h
 rename_i hc
 obtain⟨c1,c2,c3,c4,c5,c6,c7⟩:=hc
 obtain⟨β,τ,F,S,hM,hn,hdf,hs'⟩:=h
 obtain⟨F',hM',hle⟩:=hM.plug n tk i o d hs htk htr td htd c1 c2 c3 c4 c5 c6 c7
 refine⟨β,τ,F',S,by simp only[lookT_setT];exact hM',hn,hdf,fun k=>?_⟩
 have:=V3.mono (c:=s.ctx w S β τ) (c':=⟨w,S,fun k=>lookB s.B k≠none,β,updT (updT (lookT s.T) d (some .spent)) n (some (.live {tk with xs:=tk.xs.modify i fun y=>setCell tk.t y o td.t td.xs,tr:=some hs})),τ⟩) ⟨fun _ _ h=>h,fun _ _ _=>rfl⟩ (BoxLe.refl rfl rfl) hle (hs' k)
 unfold LSt.ctx
 simp only[lookT_setT]
 exact this
theorem plugs_rel {R:Root} {a:Act} {w:World}:∀(k:Nat) (ns:List Nat) (s:LSt),Rel R s a w->Rel R {s with T:=plugs k ns s.T} a w
 |0,_,s,h=>h
 |k+1,ns,s,h=>by
  have key:∀(l:List Nat) (s:LSt),Rel R s a w->Rel R {s with T:=l.foldl plugAt s.T} a w:=fun l=>by
   induction l with
   |nil=>exact fun s h=>h
   |cons n l ih=>exact fun s h=>ih {s with T:=plugAt s.T n} (plugAt_rel n h)
  exact plugs_rel k ns {s with T:=ns.foldl plugAt s.T} (key ns s h)
theorem plugAll_rel {R:Root} {s:LSt} {a:Act} {w:World} (h:Rel R s a w):Rel R {s with T:=plugAll s.T} a w:=by
 unfold plugAll
 cases s.T.any isOpen with
 |true=>exact plugs_rel 8 _ s h
 |false=>exact h
section
variable {E : Env} {o : Oper} {s : LSt} {e : Eff} {fp : FP}
inductive Gives (s:LSt):AV->AV->List Nat->Prop
 |tok (t:Nat) (tk:Tok) (h:lookT s.T t=some (.live tk)) (h1:tk.whole=true) (h2:tk.wr=true) (h3:tk.deep=true) (h4:tk.tr=none->tk.t.flatB=true):Gives s (.mtk t) (.pv (.sl tk.t) tk.xs) [t]
 |flat (t:Tp) (x:t.D) (h:t.flatB=true):Gives s (.pv t x) (.pv t x) []
 |nil:Gives s .nils .nils []
inductive GivesL (s:LSt):List AV->List AV->List Nat->Prop
 |nil:GivesL s [] [] []
 |cons {c c':AV} {n:List Nat} {l l':List AV} {ns:List Nat} (h:Gives s c c' n) (hl:GivesL s l l' ns) (hd:∀t,t∈n->t∉ns):GivesL s (c::l) (c'::l') (n++ns)
theorem giveTree_R :∀(l:List AV) (f:List AV->List (Nat×Option TS)->RD) (rb rt:List Nat),(giveTree l f).R s rb rt e fp->∃cs ns rt',GivesL s l cs ns/\(f cs (ns.map fun t=>(t,some TS.spent))).R s rb rt' e fp
 | [],f,rb,rt,h=>⟨[],[],rt,.nil,h⟩
 |c::l,f,rb,rt,h=>by
  unfold giveTree at h
  split at h
  .rename_i t
   simp only[RD.R]at h
   split at h
   case h_2=>exact h.elim
   rename_i tk htk
   split at h
   case isFalse=>exact h.elim
   rename_i hc
   obtain⟨c1,c2,c3,c4⟩:=hc
   obtain⟨cs,ns,rt',h1,h2⟩:=giveTree_R l _ _ _ h
   split at h2
   .exact h2.elim
   rename_i hany
   refine⟨_,[t]++ns,rt',.cons (.tok t tk htk c1 c2 c3 c4) h1 (fun t' ht'=>?_),h2⟩
   simp only[zaD]at ht'
   subst ht'
   exact any_spent (Bool.eq_false_iff.2 hany)
  .rename_i t x
   split at h
   case isFalse=>exact h.elim
   rename_i hf
   obtain⟨cs,ns,rt',h1,h2⟩:=giveTree_R l _ _ _ h
   exact⟨_,[]++ns,rt',.cons (.flat t x hf) h1 (fun t' ht'=>by cases ht'),h2⟩
  .obtain ⟨cs,ns,rt',h1,h2⟩:=giveTree_R l _ _ _ h
   exact⟨_,[]++ns,rt',.cons .nil h1 (fun t' ht'=>by cases ht'),h2⟩
  .exact h.elim
theorem GivesL.len {l cs:List AV} {ns:List Nat} (h:GivesL s l cs ns):cs.length=l.length:=by
 induction h with
 |nil=>rfl
 |cons h hl hd ih=>simp[ih]
theorem GivesL.mem {R:Root} {w:World} {S:Stab} {β:Nat->Nat} {τ:Nat->Value} {F:Nat->Nat->Prop} (hM:Mem R (lookB s.B) (lookT s.T) β τ F S w) {l cs:List AV} {ns:List Nat} (h:GivesL s l cs ns):∀(vals:List Value),All2 (V1c (s.ctx w S β τ)) l vals->
  ∃g:Nat->Nat->Prop,(∀k b,g k b->(∃t tk,t∈ns/\lookT s.T t=some (.live tk)/\F t b)/\∀o,¬S b o)/\(∀k k' b,g k b->g k' b->k=k')/\∀(k:Nat) (c c':AV) (v:Value),cs[k]? =some c->AsAV c c'->vals[k]? =some v->Deep w (g k) v c':=by
 induction h with
 |nil=>exact fun vals _=>⟨fun _ _=>False,fun _ _ h=>h.elim,fun _ _ _ h=>h.elim,fun k c c' v h=>by simp at h⟩
 | @cons c0 c1 n l l' ns h hl hd ih=>
  intro vals hv
  match vals,hv with
  |v0::vals,hv=>
  obtain⟨g,k1,k2,k3⟩:=ih vals hv.2
  obtain⟨G,h1,h2⟩:∃G:Nat->Prop,(∀b,G b->(∃t tk,t∈n/\lookT s.T t=some (.live tk)/\F t b)/\∀o,¬S b o)/\∀c',AsAV c1 c'->Deep w G v0 c':=by
   cases h with
   |tok t tk h h1 h2 h3 h4=>
    obtain⟨G,g1,g2,g3⟩:=(hM.toks t tk h).given h1 h2 h3 h4
    refine⟨G,fun b hb=>⟨⟨t,tk,by simp,h,g1 b hb⟩,g2 b hb⟩,fun c' ha=>?_⟩
    obtain⟨t0,y0,e1,rfl⟩:=ha
    simp only[AV.as]at e1
    split at e1
    .rename_i et
     subst et
     cases e1
     have:v0=τ t:=(v3_mtk (V3_of_V1 hv.1.1)).2.2 tk h
     rw[this];exact g3
    .cases e1
   |flat t x h=>
    refine⟨fun _=>False,fun _ h=>h.elim,fun c' ha=>?_⟩
    obtain⟨t0,y0,e1,rfl⟩:=ha
    simp only[AV.as]at e1
    split at e1
    .rename_i et
     subst et
     cases e1
     obtain⟨p,he,hr⟩:=v3_pv (V3_of_V1 hv.1.1)
     have hl:=flat_isLit _ _ h p (by rw[he];simp)
     exact .lit _ _ _ _ p he hl (rep_litV hr hl)
    .cases e1
   |nil=>
    refine⟨fun _=>False,fun _ h=>h.elim,fun c' ha=>?_⟩
    obtain⟨t0,y0,e1,rfl⟩:=ha
    cases t0 with
    |sl r0=>
     cases e1
     have e:v0= .slice none 0 0:=hv.1.1
     rw[e]
     exact .nil _ _
    |_=>cases e1
  refine⟨fun k=>match k with|0=>G|k+1=>g k,fun k b hb=>?_,fun k k' b hb hb'=>?_,fun k c c' v hc ha hv'=>?_⟩
  .match k,hb with
   |0,hb=>
    obtain⟨⟨t,tk,e1,e2,e3⟩,e4⟩:=h1 b hb
    exact⟨⟨t,tk,zad _ e1,e2,e3⟩,e4⟩
   |k+1,hb=>
    obtain⟨⟨t,tk,e1,e2,e3⟩,e4⟩:=k1 k b hb
    exact⟨⟨t,tk,zaJ _ e1,e2,e3⟩,e4⟩
  .have cross:∀k b,G b->g k b->False:=fun k b hb hb'=>by
    obtain⟨⟨t,tk,e1,e2,e3⟩,_⟩:=h1 b hb
    obtain⟨⟨t',tk',f1,f2,f3⟩,_⟩:=k1 k b hb'
    have:=hM.tdis t t' tk tk' b e2 f2 e3 f3
    subst this
    exact hd t e1 f1
   match k,k',hb,hb' with
   |0,0,_,_=>rfl
   |0,k'+1,hb,hb'=>exact(cross k' b hb hb').elim
   |k+1,0,hb,hb'=>exact(cross k b hb' hb).elim
   |k+1,k'+1,hb,hb'=>rw[k2 k k' b hb hb']
  .match k,hc,hv' with
   |0,hc,hv'=>
    simp at hc hv'
    subst hc;subst hv'
    exact h2 c' ha
   |k+1,hc,hv'=>exact k3 k c c' v (by simpa using hc) ha (by simpa using hv')
theorem dropHoles_R {i q size:Nat}:∀(hs:List (Nat×Nat×Nat)) (f:List (Nat×Nat×Nat)->RD) (rb rt:List Nat),(dropHoles i q size hs f).R s rb rt e fp->∃hs',(f hs').R s rb rt e fp/\(∀x,x∈hs'->x∈hs/\¬(q<=x.2.1/\x.2.1<q+size))/\∀x,x∈hs->x∈hs'\/(x.1=i/\q<=x.2.1/\x.2.1<q+size)
 | [],f,rb,rt,h=>⟨[],h,(fun x hx=>by cases hx),(fun x hx=>by cases hx)⟩
 |y::hs,f,rb,rt,h=>by
  simp only[dropHoles]at h
  cases hb:(Nat.ble q y.2.1&&Nat.blt y.2.1 (q+size))with
  |true=>
   rw[hb]at h
   simp only[zj]at hb
   have b1:=Nat.le_of_ble_eq_true hb.1
   have b2:=lt_of_blt hb.2
   obtain⟨hi,h⟩:=h
   obtain⟨hs',h1,h2,h3⟩:=dropHoles_R hs f rb rt h
   refine⟨hs',h1,fun x hx=>⟨zl _ (h2 x hx).1,(h2 x hx).2⟩,fun x hx=>?_⟩
   rcases zp.1 hx with rfl|hx
   .exact .inr ⟨hi,b1,b2⟩
   .exact h3 x hx
  |false=>
   rw[hb]at h
   obtain⟨hs',h1,h2,h3⟩:=dropHoles_R hs _ rb rt h
   refine⟨y::hs',h1,fun x hx=>?_,fun x hx=>?_⟩
   .rcases zp.1 hx with rfl|hx
    .refine ⟨zy,fun⟨c1,c2⟩=>?_⟩
     rw[Bool.and_eq_false_iff]at hb
     rcases hb with hb|hb
     .rw [Nat.ble_eq_true_of_le c1]at hb;cases hb
     .rw [blt_of_lt c2]at hb;cases hb
    .exact ⟨zl _ (h2 x hx).1,(h2 x hx).2⟩
   .rcases zp.1 hx with rfl|hx
    .exact .inl zy
    .exact (h3 x hx).imp (zl _) id
end
section
variable {E : Env} {o : Oper} {s : LSt} {e : Eff} {fp : FP}
theorem asAV_pv {t:Tp} {x:t.D} {c:AV} (h:AsAV (.pv t x) c):c= .pv t x:=by
 obtain⟨t',x',h1,rfl⟩:=h
 simp only[AV.as]at h1
 split at h1
 .rename_i e;subst e;cases h1;rfl
 .cases h1
theorem cells_pv {t:Tp} (x:t.D) {j:Nat} {c:AV} (h:(cellsOf t x)[j]? =some c):∃t' x',c= .pv t' x':=by
 obtain⟨p,_,t',x',h1,_⟩:=(cells_enc t x).get j c h
 exact⟨t',x',h1⟩
theorem sim_storeTree (hE:EnvOk E) (T:TypeId) (x y:Operand) (ho:o.op= .store T x y) (ty:Ty) (n i q:Nat) (tk:Tok) (hs:List (Nat×Nat×Nat)) (ys:List AV) (hty:E.ty T=some ty) (hx:s.ev x= .mptr n i q) (htk:lookT s.T n=some (.live tk)) (htr:tk.tr=some hs) (hy:(s.ev y).cells? =some ys) (hn:ys.length=ty.size) (hdst:o.dst=none)
  (h:(storeTree n i q ty.size ys tk hs).R s [] [n] e fp):Sim E o s e:=by
 unfold storeTree at h
 split at h
 case isFalse=>exact h.elim
 rename_i hqw
 obtain⟨hqw,hwg,hhw⟩:=hqw
 obtain⟨cs,ns,rt',hgl,h⟩:=giveTree_R ys _ _ _ h
 split at h
 .exact h.elim
 rename_i hany
 have hnns:n∉ns:=any_spent (Bool.eq_false_iff.2 hany)
 obtain⟨hs',h,hh1,hh2⟩:=dropHoles_R hs _ _ _ h
 obtain⟨old,hold,h⟩:=h
 simp only at h
 split at h
 case h_2=>exact h.elim
 rename_i y' hrow
 obtain⟨rfl,_⟩:=h
 rintro R a w hR0 ⟨β,τ,F,S,hM,hsz,hdf,hsl⟩ K Q hK
 have hev:=V3_ev hsl
 have h:=hev x
 rw[hx]at h
 obtain⟨b0,l0,cap0,ev,hil,hp⟩:=(v3_mptr h).2.2 tk htk
 rw[show(s.ctx w S β τ).τ n=τ n from rfl]at ev
 have hc:=cells_of hy (hev y)
 have hk:=hM.toks n tk htk
 have hwrn:=(hk.tree htr).1
 have hdpn:=(hk.tree htr).2
 have hixs:i<tk.xs.length:=(zh.1 hold).1
 obtain⟨b,cap,vs,T',qf,ev',hFb,hg,hz,hnc,hm,hq,hdj,hcc⟩:=hk.openTree htr hixs
 have eb:b=b0:=by rw[ev']at ev;cases ev;rfl
 subst eb
 obtain⟨ti,z,hi,hisz,_⟩:=(hE.ty T ty hty).info
 have hl:=hc.len
 have hcl:(a.eval y).cells.toList.length=ty.size:=by rw[<-hl,hn]
 have hbase:i*tk.t.w+tk.t.w<=tk.xs.length*tk.t.w:=by
  have:(i+1)*tk.t.w<=tk.xs.length*tk.t.w:=zag _ hixs
  rwa[zaO,Nat.one_mul]at this
 have hxsz:tk.xs.length*tk.t.w<=vs.size:=by rw[hz];exact zag _ hnc
 have hone:∀v∈(a.eval y).cells.toList,v.oneCell'=true:=fun v hv=>by
  obtain⟨j,hj,rfl⟩:=zav.1 hv
  exact(hc.get' j (ys[j]'(by omega)) _ (by simp) (by simp)).2
 have hst':=run_storeCells_at E.P b (i*tk.t.w+q) T' (a.eval y).cells.toList 0 vs w hg (by omega) hone
 obtain⟨vs',hvs'⟩:∃vs':Array Value,vs'=(vs.toList.take (i*tk.t.w+q)++(a.eval y).cells.toList++vs.toList.drop (i*tk.t.w+q+(a.eval y).cells.toList.length)).toArray:=⟨_,rfl⟩
 have hr:(execOp a.eval o).run E.P w= .ok .skip (w.setRow b vs'):=by
  have hz':(a.eval y).cells.size=ti.size:=by rw[hisz,<-hn,hl];simp
  simp only[Nat.add_zero]at hst'
  simp only[execOp,ho,Instr.storeAt,hp,Instr.sureAddr,storeVar,sizeOf,typeInfo,hi,Sem.run_bind,Sem.run_pure,Result.andThen_ok,run_program]
  simp[hi,hz',hst',hvs']
 have hvsl:vs'.toList=vs.toList.take (i*tk.t.w+q)++(a.eval y).cells.toList++vs.toList.drop (i*tk.t.w+q+(a.eval y).cells.toList.length):=by rw[hvs']
 have hget:∀k,vs'[k]? =if i*tk.t.w+q<=k/\k<i*tk.t.w+q+ty.size then(a.eval y).cells.toList[k-(i*tk.t.w+q)]? else vs[k]? :=fun k=>by
  rw[<-zaN,hvsl,splice_get _ _ _ (by rw[hcl,zbd];omega),hcl]
  simp
 have hsize:vs'.size=vs.size:=by
  rw[<-zbd,hvsl]
  simp only[zam,zah,zaQ,hcl,zbd]
  omega
 have hother:∀k,k≠b->(w.setRow b vs').heap[k]? =w.heap[k]? :=fun k hk=>setRow_other w b k _ hk
 have hhs:(w.setRow b vs').heap.size=w.heap.size:=by simp[World.setRow]
 have hcell:∀b2 o2,S b2 o2->(w.setRow b vs').cell? ⟨b2,o2,none⟩=w.cell? ⟨b2,o2,none⟩:=fun b2 o2 hb=>World.cell?_of_block (w:=w) (hother b2 (fun e=>hk.noS htr b hFb o2 (e▸hb)))
 have hstep:Step (fun k=>k=b) S S w (w.setRow b vs'):=⟨⟨rfl,rfl,rfl,by rw[hhs];exact zae _,fun k _ hk=>hother k hk⟩,hcell,fun _ _ h=>h,fun _ _ h=>.inl h,fun b2 o2 h=>by rw[hhs];exact hM.lt b2 o2 h⟩
 have hheap:(w.setRow b vs').heap[b]? =some (.cells vs' T' (0,0)):=setRow_heap w b vs _ T' (0,0) hg
 obtain⟨g,hg1,hg2,hg3⟩:=hgl.mem hM _ hc
 have hgF:∀k b2,g k b2->¬F n b2:=fun k b2 hb hF=>by
  obtain⟨⟨t,tk1,e1,e2,e3⟩,_⟩:=hg1 k b2 hb
  have:=hM.tdis t n tk1 tk b2 e2 htk e3 hF
  exact hnns (this▸e1)
 have hgb:∀k b2,g k b2->b2≠b:=fun k b2 hb e=>hgF k b2 hb (e▸hFb)
 have hcslen:cs.length=ty.size:=by rw[hgl.len,hn]
 have hrowc:=mkRow_ty tk.t _ y' hrow
 have div:∀i2 j2,j2<tk.t.w->((i*tk.t.w+q<=i2*tk.t.w+j2/\i2*tk.t.w+j2<i*tk.t.w+q+ty.size)↔(i2=i/\q<=j2/\j2<q+ty.size)):=fun i2 j2 hj=>by
  constructor
  .rintro ⟨h1,h2⟩
   rcases zbl i2 i with hlt|he|hlt
   .have:(i2+1)*tk.t.w<=i*tk.t.w:=zag _ hlt
    rw[zaO]at this;omega
   .subst he;omega
   .have:(i+1)*tk.t.w<=i2*tk.t.w:=zag _ hlt
    rw[zaO]at this;omega
  .rintro ⟨rfl,h1,h2⟩;omega
 have hlen:(tk.xs.set i y').length=tk.xs.length:=by simp
 obtain⟨tk',htk'⟩:∃tk':Tok,tk'={tk with xs:=tk.xs.set i y',tr:=some hs'}:=⟨_,rfl⟩
 have cellsEq:∀(i2 j2:Nat) (x2:tk.t.D) (c:AV),(tk.xs.set i y')[i2]? =some x2->(cellsOf tk.t x2)[j2]? =some c->(i2=i/\q<=j2/\j2<q+ty.size/\∃c0,cs[j2-q]? =some c0/\AsAV c0 c)\/(¬(i2=i/\q<=j2/\j2<q+ty.size)/\∃x0,tk.xs[i2]? =some x0/\(cellsOf tk.t x0)[j2]? =some c):=fun i2 j2 x2 c hx2 hc2=>by
  have hj:j2<tk.t.w:=cells_lt hc2
  by_cases he:i2=i
  .subst he
   rw[List.getElem?_set_self hixs]at hx2
   cases hx2
   have hll:((cellsOf tk.t old).take q++cs++(cellsOf tk.t old).drop (q+ty.size)).length=(cellsOf tk.t y').length:=hrowc.len
   have hjl:j2<((cellsOf tk.t old).take q++cs++(cellsOf tk.t old).drop (q+ty.size)).length:=by rw[hll,cells_len];exact hj
   obtain⟨zz,hzz⟩:∃zz,((cellsOf tk.t old).take q++cs++(cellsOf tk.t old).drop (q+ty.size))[j2]? =some zz:=⟨_,zc hjl⟩
   have has:=hrowc.get' j2 _ c hzz hc2
   have hsp:=splice_get (cellsOf tk.t old) cs q (by rw[cells_len,hcslen];exact hqw) j2
   rw[hcslen,hzz]at hsp
   by_cases hjq:q<=j2/\j2<q+ty.size
   .rw [zf hjq]at hsp
    exact .inl ⟨rfl,hjq.1,hjq.2,zz,hsp.symm,has⟩
   .rw [zu hjq]at hsp
    obtain⟨t0,x0,e0⟩:=cells_pv old hsp.symm
    subst e0
    rw[asAV_pv has]
    exact .inr ⟨fun h=>hjq ⟨h.2.1,h.2.2⟩,old,hold,hsp.symm⟩
  .rw [List.getElem?_set_ne (Ne.symm he)]at hx2
   exact .inr ⟨fun h=>he h.1,x2,hx2,hc2⟩
 have hGb:∀b2,(F n b2\/ ∃k,g k b2)->R.fr b2/\b2<w.heap.size:=fun b2 hb=>by
  rcases hb with hb|⟨k,hb⟩
  .exact hk.1 b2 hb
  .obtain ⟨⟨t,tk1,e1,e2,e3⟩,_⟩:=hg1 k b2 hb
   exact(hM.toks t tk1 e2).1 b2 e3
 have hTk:TokOk R.fr (w.setRow b vs') S tk' (τ n) (fun b2=>F n b2\/ ∃k,g k b2):=by
  rw[htk']
  refine⟨fun b2 hb=>by rw[hhs];exact hGb b2 hb,.inr ⟨b,cap,vs',T',by rw[hlen];exact ev',.inl hFb,hheap,by rw[hsize];exact hz,by rw[hlen];exact hnc,hm,(fun h=>by rw[show tk.wr=true from hwrn]at h;cases h),fun _=>hk.noS htr b hFb,fun i2 j x2 p hx2 hp=>?_⟩,?_⟩
  .have hi2:i2<tk.xs.length:=by have:=(zh.1 hx2).1;simpa using this
   have hj:j<tk.t.w:=by have:=(zh.1 hp).1;rwa[enc_len]at this
   have hlt:i2*tk.t.w+j<vs'.size:=by
    rw[hsize]
    have:(i2+1)*tk.t.w<=tk.xs.length*tk.t.w:=zag _ hi2
    rw[zaO]at this;omega
   exact⟨_,zbt hlt,(fun h=>by cases h),fun h=>by rw[show tk.wr=true from hwrn]at h;cases h⟩
  .unfold Once
   simp only
   refine⟨hwrn,hdpn,fun b2 hb=>?_,?_⟩
   .rcases hb with hb|⟨k,hb⟩
    .exact hk.noS htr b2 hb
    .exact (hg1 k b2 hb).2
   .refine .inr ⟨b,cap,fun i2 j2 b2=>if i2=i/\q<=j2/\j2<q+ty.size then g (j2-q) b2 else qf i2 j2 b2,by rw[hlen];exact ev',fun i2 j2 b2 hk'=>?_,fun i2 j2 i3 j3 b2 h1 h2=>?_,fun i2 j2 x2 c hx2 hc2=>?_⟩
    .simp only at hk'
     split at hk'
     .exact ⟨.inr ⟨_,hk'⟩,hgb _ _ hk'⟩
     .exact ⟨.inl (hq i2 j2 b2 hk').1,(hq i2 j2 b2 hk').2⟩
    .simp only at h1 h2
     split at h1<;>split at h2
     .rename_i h3 h4
      have:=hg2 _ _ _ h1 h2
      exact⟨h3.1.trans h4.1.symm,by omega⟩
     .exact absurd (hq i3 j3 b2 h2).1 (hgF _ _ h1)
     .exact absurd (hq i2 j2 b2 h1).1 (hgF _ _ h2)
     .exact hdj i2 j2 i3 j3 b2 h1 h2
    .have hj:j2<tk.t.w:=cells_lt hc2
     have hdv:=div i2 j2 hj
     rcases cellsEq i2 j2 x2 c hx2 hc2 with⟨e1,e2,e3,c0,e4,e5⟩|⟨hno,x0,e1,e2⟩
     .have hjs:j2-q<(a.eval y).cells.toList.length:=by rw[hcl];omega
      have hv:=zc hjs
      have hD:=hg3 (j2-q) c0 c _ e4 e5 hv
      have hvk:vs'[i2*tk.t.w+j2]? =some (a.eval y).cells.toList[j2-q]:=by
       rw[hget,zf (hdv.2 ⟨e1,e2,e3⟩),<-hv]
       subst e1
       congr 1;omega
      refine⟨_,by rw[cell_of_row _ b _ vs' T' (0,0) hheap];exact hvk,hD.one,fun _=>?_⟩
      have eF:(fun b2=>if i2=i/\q<=j2/\j2<q+ty.size then g (j2-q) b2 else qf i2 j2 b2)=g (j2-q):=by funext k;rw[zf ⟨e1,e2,e3⟩]
      show Deep _ (fun b2=>if i2=i/\q<=j2/\j2<q+ty.size then g (j2-q) b2 else qf i2 j2 b2) _ c
      rw[eF]
      exact hD.same fun k hk=>hother k (hgb _ _ hk)
     .obtain ⟨u,k1,k2,k3⟩:=hcc i2 j2 x0 c e1 e2
      have hvk:vs'[i2*tk.t.w+j2]? =some u:=by
       rw[hget,zu (fun h=>hno (hdv.1 h))];exact k1
      refine⟨u,by rw[cell_of_row _ b _ vs' T' (0,0) hheap];exact hvk,k2,fun hnot=>?_⟩
      have eF:(fun b2=>if i2=i/\q<=j2/\j2<q+ty.size then g (j2-q) b2 else qf i2 j2 b2)=qf i2 j2:=by funext k;rw[zu hno]
      show Deep _ (fun b2=>if i2=i/\q<=j2/\j2<q+ty.size then g (j2-q) b2 else qf i2 j2 b2) _ c
      rw[eF]
      refine(k3 ⟨fun d hin=>?_,fun k hin=>?_⟩).same fun k hk=>hother k (hq i2 j2 k hk).2
      .rcases hh2 (i2,j2,d) hin with h1|h1
       .exact hnot.1 d h1
       .exact hno h1
      .rcases hh2 (k,gone,gone) hin with h1|h1
       .exact hnot.2 k h1
       .have h2:gone<q+ty.size:=h1.2.2
        omega
 obtain⟨h1,h2⟩:=hM.turn n tk tk' htk ns hnns (fun k=>k=b) hstep (fun k hk=>hk▸hFb) (fun b2=>F n b2\/ ∃k,g k b2) (fun b2 hb=>hb.imp id fun⟨k,hb⟩=>by
   obtain⟨⟨t,tk1,e1,e2,e3⟩,_⟩:=hg1 k b2 hb
   exact⟨t,tk1,e1,e2,e3⟩) hTk (by rw[htk']) (fun h=>by rw[hwrn]at h;cases h)
  (fun hs1 i' o' d' he hin _=>by
   rw[htk']at he
   simp only[zaE]at he
   subst he
   obtain⟨k1,k2⟩:=hh1 _ hin
   refine⟨hs,htr,k1,fun b2 l2 cap2 e2=>?_⟩
   rw[ev']at e2;cases e2
   rw[cell_of_row _ b _ vs' T' (0,0) hheap,cell_of_row w b _ vs T' (0,0) hg,hget,zu ?_]
   rintro⟨g1,g2⟩
   have hj:o'<tk.t.w:=lt_of_blt (zax.1 hhw _ k1)
   exact k2 ((div i' o' hj).1 ⟨g1,g2⟩).2)
 have hu:(⟨.tup [],[],(ns.map fun t=>(t,some TS.spent))++ [(n,some (.live {tk with xs:=tk.xs.set i y',tr:=some hs'}))]⟩:Eff).updT (lookT s.T)=updT (spend (lookT s.T) ns) n (some (.live tk')):=by
  rw[htk']
  simp only[Eff.updT,zaX,spend_fold,zaq,List.foldl_nil]
 refine wp_skip' hr (hK _ _ (rel_put (s:=s) (e:=⟨.tup [],[],(ns.map fun t=>(t,some TS.spent))++ [(n,some (.live {tk with xs:=tk.xs.set i y',tr:=some hs'}))]⟩) (by rw[hu];exact h1) hsz hdf ?_ o.dst (.inl hdst)))
 rw[hu]
 exact lift3 (c:=s.ctx w S β τ) (c':=⟨w.setRow b vs',S,fun k=>lookB s.B k≠none,β,updT (spend (lookT s.T) ns) n (some (.live tk')),τ⟩) ⟨fun _ _ h=>h,hcell⟩ (BoxLe.refl rfl rfl) h2 hsl
theorem zero_deep {c:Ctx} {w:World} {F:Nat->Prop}:∀(l l':List AV) (vs:List Value),zeroDeep l=true->All2 AsAV l l'->All2 (V1c c) l vs->All2 (fun x v=>Deep w F v x) l' vs
 | [],[],[],_,_,_=>True.intro
 |x::l,x'::l',v::vs,h,ha,hv=>by
  have key:zeroDeep l=true/\Deep w F v x':=by
   obtain⟨t0,y0,e1,e2⟩:=ha.1
   subst e2
   cases x with
   |pv t y=>
    simp only[zeroDeep,zj]at h
    refine⟨h.2,?_⟩
    simp only[AV.as]at e1
    split at e1
    .rename_i et
     subst et
     cases e1
     obtain⟨p,he,hr⟩:=v3_pv (V3_of_V1 hv.1.1)
     have hl:=flat_isLit _ _ h.1 p (by rw[he];simp)
     exact .lit _ _ _ _ p he hl (rep_litV hr hl)
    .cases e1
   |nils=>
    refine⟨h,?_⟩
    cases t0 with
    |sl r0=>
     cases e1
     have e:v= .slice none 0 0:=hv.1.1
     rw[e]
     exact .nil _ _
    |_=>cases e1
   |_=>cases h
  exact⟨key.2,zero_deep l l' vs key.1 ha.2 hv.2⟩
 | [],_::_,_,_,h,_=>h.elim
 |_::_,[],_,_,h,_=>h.elim
 | [],[],_::_,_,_,h=>h.elim
 |_::_,_::_,[],_,_,h=>h.elim
theorem sim_makeSlice (hE:EnvOk E) (T:TypeId) (l c:Operand) (ho:o.op= .makeSlice T l c) (h:(opRD E o.op o.dst s.ev).R s [] [] e fp):Sim E o s e:=by
 rw[ho]at h
 simp only[opRD]at h
 split at h
 case h_2=>exact h.elim
 rename_i d ty hdst hty
 have hT:=hE.ty T ty hty
 split at h
 case h_2=>exact h.elim
 rename_i e' r by' he
 split at h
 case h_2=>exact h.elim
 rename_i te hte
 have hTe:=hE.ty e' te hte
 split at h
 case h_2=>exact h.elim
 rename_i z hz
 split at h
 case isFalse=>exact h.elim
 rename_i hcond
 obtain⟨hzl,hzd⟩:=hcond
 obtain⟨kl,n,hln,h⟩:=withInt_R h
 obtain⟨kc,m,hcm,h⟩:=withInt_R h
 obtain⟨⟨hnm,hn0,hnb,hnx⟩,h⟩:=h
 subst hnm
 simp only[RD.R]at h
 split at h
 .exact h.elim
 rename_i hd
 split at h
 .exact h.elim
 rename_i hres
 obtain⟨hu,hpos,ie,z1,hie,hsz,hby,hz1,hzs⟩:=hT.elem _ _ _ he
 obtain⟨ie2,z2,hie2,hsz2,hz2,hzs2,hV⟩:=hTe.info
 rw[hie]at hie2;cases hie2
 rw[hz1]at hz2;cases hz2
 obtain⟨N,hN⟩:∃N:Nat,n=(N:Int):=⟨n.toNat,(Int.toNat_of_nonneg hn0).symm⟩
 subst hN
 simp only[zai]at h
 have fin:∀(wr:Bool) (tk:Tok),tk.t=r->(hxs:HEq tk.xs (List.replicate N z))->tk.wr=wr->tk.whole=true->
   (∀(R:Root) (w w':World) (S S':Stab),S'=stabApp wr S w.heap.size (N*r.w)->(∀b o,S b o->b<w.heap.size)->R.fr w.heap.size->w'.heap.size=w.heap.size+1->(∃vs T',w'.heap[w.heap.size]? =some (.cells vs T' (0,0))/\vs.size=N*r.w/\∀i j,i<N->j<r.w->∀c',(cellsOf r z)[j]? =some c'->∃u,vs[i*r.w+j]? =some u/\Deep w' (fun _=>False) u c')->TokOk R.fr w' S' tk (.slice (some ⟨w.heap.size,0,none⟩) N N) (fun b=>b=w.heap.size))->
   e=⟨ownAV d tk,[],[(d,some (.live tk))]⟩->Sim E o s e:=fun wr tk ht hxs hw hwh hk he=>by
  subst he
  rintro R a w hR0 ⟨β,τ,F,S,hM,hn,hdf,hsl⟩ K Q hK
  have hev:=V3_ev hsl
  have hl:a.eval l= .int kl (N:Int):=v3_int (hln▸hev l)
  have hc:a.eval c= .int kc (N:Int):=v3_int (hcm▸hev c)
  have hrun0:=run_make (P:=E.P) w T e' ie z1 hu hie hz1 kl kc (N:Int) (N:Int) (by omega) (Int.le_refl _) (by rw[hby,Int.mul_comm];omega) (by omega)
  simp only[zai,hsz]at hrun0
  obtain⟨w',hw'⟩:∃w',w'=w.alloc (.cells (madeCells z1.cells (N*r.w)) e'):=⟨_,rfl⟩
  rw[<-hw']at hrun0
  have hrun:(execOp a.eval o).run E.P w= .ok (.value (.slice (some ⟨w.heap.size,0,none⟩) N N)) w':=by
   simp only[execOp,ho,hl,hc,Sem.run_bind,hrun0,Result.andThen_ok,Sem.run_pure]
  have hb:Below w.heap.size w w':=by rw[hw'];exact(Below.refl _ _).alloc (zae _) _
  have hnew:w'.heap[w.heap.size]? =some (.cells (madeCells z1.cells (N*r.w)) e' (0,0)):=by rw[hw'];exact heap_alloc_new w _
  have hsz':w'.heap.size=w.heap.size+1:=by rw[hw'];simp
  obtain⟨S',hS'⟩:∃S':Stab,S'=stabApp wr S w.heap.size (N*r.w):=⟨_,rfl⟩
  have hSo:∀b q,S b q->S' b q:=fun b q h=>by rw[hS'];exact .inl h
  have hSn:∀b q,S' b q->S b q\/w.heap.size<=b:=fun b q h=>by
   rw[hS']at h
   rcases h with h|⟨_,rfl,_⟩
   .exact .inl h
   .exact .inr (zae _)
  have hSl:∀b q,S' b q->b<w'.heap.size:=fun b q h=>by
   rw[hS']at h
   rcases h with h|⟨_,rfl,_⟩
   .have:=hM.lt b q h;omega
   .omega
  have hM1:=(hM.drop (tok':=spend (lookT s.T) []) (fun t ht=>spend_used ht) (fun t tk h=>(spend_live h).2)).grow hb hSo hSn hSl
  have hzz:=zero_deep (w:=w') (F:=fun _=>False) te.zero (cellsOf r z) z1.cells.toList hzd (mkRow_ty r _ z hz) (hV (s.ctx w S β τ))
  have hTk:=hk R w w' S S' hS' hM.lt (.inl hM.size) hsz' ⟨_,e',hnew,size_madeCells _ _,fun i j hi hj c' hc'=>by
   obtain⟨u,hu1,hu2⟩:=hzz.get j c' hc'
   refine⟨u,?_,hu2⟩
   have hlt:i*r.w+j<N*r.w:=by
    have:(i+1)*r.w<=N*r.w:=zag _ hi
    rw[zaO]at this;omega
   have hmod:(i*r.w+j)%z1.cells.size=j:=by
    rw[hzs,zbx,Nat.mul_add_mod]
    exact Nat.mod_eq_of_lt hj
   have hjz:j<z1.cells.size:=by rw[hzs];exact hj
   have hu3:z1.cells[j]=u:=by
    rw[zaN,zbt hjz]at hu1
    exact Option.some.inj hu1
   simp only[madeCells,Array.getElem?_map,Array.getElem?_range,hlt,if_true,zbn,hmod,getElem!_pos z1.cells j hjz,hu3]⟩
  exact wp_value hrun (hK _ _ (rel_newTok (s:=s) [] hM1 hn hdf hsl (fun _ _ _ _ _=>⟨hSo,fun b q hq=>(bcell hb).1 b q (hM.lt b q hq)⟩) d hd (hR0.tn (by simpa using hres)) tk _ _ hTk hwh
   (fun t tk' b htl ht hb' hF=>by have:=((hM.toks t tk' ht).1 _ hF).2;omega) (fun k b hk hb'=>by have:=hM.blt hk;omega) o.dst (by simp) _ rfl))
 have hmx:N<=maxLen:=by simp only[maxLen];omega
 split at h
 ·
  rename_i hwr
  obtain⟨rfl,_⟩:=h
  refine fin true ⟨r,List.replicate N z,e',true,true,bif r.flatB then none else some []⟩ rfl HEq.rfl rfl (by unfold Tok.whole;cases r.flatB<;>rfl) (fun R w w' S S' hS' hlt hfr hsz' hv=>?_) (by simp[ownAV])
  obtain⟨vs,T',h1,h2,h3⟩:=hv
  have hS:∀q,¬S' w.heap.size q:=fun q hq=>by
   rw[hS']at hq
   rcases hq with hq|⟨hq,_⟩
   .have:=hlt _ _ hq;omega
   .cases hq
  refine .ofDeep ?_ (fun b hb=>by subst hb;exact⟨hfr,by omega⟩) (fun b hb=>by subst hb;exact hS) e'
  have:=Deep.sl (w:=w') (fun b=>b=w.heap.size) N r (List.replicate N z) (fun i j=>(vs[i*r.w+j]?).getD undef) w.heap.size (fun _ _ _=>False) vs T' rfl h1 h2 (by simp) hmx (fun i j x c hx hc=>?_) (fun _ _ _ h=>h.elim) (fun _ _ _ _ _ h=>h.elim) (fun i j x c hx hc=>?_)
  .rwa [List.length_replicate]at this
  all_goals
   obtain⟨hi,hxz⟩:i<N/\x=z:=by
    rw[List.getElem?_replicate]at hx
    split at hx
    .exact ⟨‹_›,(Option.some.inj hx).symm⟩
    .cases hx
   rw[hxz]at hc
   obtain⟨u,k1,k2⟩:=h3 i j hi (cells_lt hc) c hc
   simp only[k1,za8]
  exact k2
 .rename_i hwr
  obtain⟨rfl,_⟩:=h
  refine fin false ⟨r,List.replicate N z,e',false,true,none⟩ rfl HEq.rfl rfl rfl (fun R w w' S S' hS' hlt hfr hsz' hv=>?_) (by simp[ownAV])
  obtain⟨vs,T',h1,h2,h3⟩:=hv
  have get:∀ {i:Nat} {x:r.D},(List.replicate N z)[i]? =some x->i<N/\x=z:=fun {i x} hx=>by
   rw[List.getElem?_replicate]at hx
   split at hx
   .exact ⟨‹_›,(Option.some.inj hx).symm⟩
   .cases hx
  refine⟨fun b hb=>by subst hb;exact⟨hfr,by omega⟩,.inr ⟨w.heap.size,N,vs,T',by simp,rfl,h1,h2,by simp,hmx,fun _ q hq=>?_,(fun h=>by cases h),fun i j x p hx hp=>?_⟩,?_⟩
  .rw [hS']at hq
   simp only[List.length_replicate]
   rcases hq with hq|⟨_,_,hq⟩
   .have:=hlt _ _ hq;omega
   .exact hq
  .obtain ⟨hi,hxz⟩:=get hx
   rw[hxz]at hp
   have hj:j<r.w:=by have:=(zh.1 hp).1;rwa[enc_len]at this
   obtain⟨c,hc⟩:=cells_at z hj
   obtain⟨u,k1,k2⟩:=h3 i j hi hj c hc
   obtain⟨t0,x0,p0,e1,e2,e3⟩:=k2.rep (S:=S') (fun _ _ h=>h.elim)
   obtain⟨t1,x1,e4,e5⟩:=(cells_enc r z).get' j c p hc hp
   rw[e1]at e4;cases e4
   rw[e2]at e5;cases e5
   refine⟨u,k1,fun _=>e3,fun _=>?_⟩
   rw[hS']
   refine .inr ⟨rfl,rfl,?_⟩
   have:(i+1)*r.w<=N*r.w:=zag _ hi
   rw[zaO]at this
   show i*r.w+j<N*r.w
   omega
  .show (true=true->Deep w' _ _ (.pv (.sl r) (List.replicate N z)))
   intro _
   have:=Deep.sl (w:=w') (fun b=>b=w.heap.size) N r (List.replicate N z) (fun i j=>(vs[i*r.w+j]?).getD undef) w.heap.size (fun _ _ _=>False) vs T' rfl h1 h2 (by simp) hmx (fun i j x c hx hc=>?_) (fun _ _ _ h=>h.elim) (fun _ _ _ _ _ h=>h.elim) (fun i j x c hx hc=>?_)
   .rwa [List.length_replicate]at this
   all_goals
    obtain⟨hi,hxz⟩:=get hx
    rw[hxz]at hc
    obtain⟨u,k1,k2⟩:=h3 i j hi (cells_lt hc) c hc
    simp only[k1,za8]
   exact k2
end
theorem ba_beq (x y:ByteArray):(x==y)=(x.data==y.data):=by cases x;cases y;rfl
theorem sameNow_key {P:Program} {K:TypeId} {kt:Tp} (hK:keyTy P K kt):∃d,P.underlying K=some d/\(∀x:kt.D,MapKept.IsKey d (litV kt x))/\∀x y:kt.D,Instr.sameNow d (litV kt x) (litV kt y)=some (kt.eqB x y):=by
 cases kt with
 |int k=>exact⟨_,hK,fun x=>rfl,fun x y=>by show(if k=k then some (x==y)else none)=some (decide (x=y));rw[zf rfl];exact congrArg some (decInt x y)⟩
 |str=>exact⟨_,hK,fun x=>True.intro,fun x y=>by
   show some (bytes x==bytes y)=some (decide (x=y))
   refine congrArg some ?_
   rw[ba_beq]
   by_cases e:x=y
   .subst e;rw[zb rfl];simp
   .rw [zd e]
    cases hb:((bytes x).data==(bytes y).data)with
    |false=>rfl
    |true=>
     have h:=eq_of_beq hb
     have:bytes x=bytes y:=by cases hx:bytes x;cases hy:bytes y;rw[hx,hy]at h;simpa using h
     exact absurd (bytes_inj.1 this) e⟩
 |_=>exact hK.elim
theorem eqB_key {P:Program} {K:TypeId} {kt:Tp} (hK:keyTy P K kt) {x y:kt.D} (h:kt.eqB x y=true):x=y:=by
 cases kt with
 |int k=>exact of_decide_eq_true h
 |str=>exact of_decide_eq_true h
 |_=>exact hK.elim
def mfind (kt vt:Tp) (x:kt.D):List (kt.D×vt.D)->Nat->Option (Nat×vt.D)
 | [],_=>none
 |e::l,i=>bif kt.eqB x e.1 then some (i,e.2)else mfind kt vt x l (i+1)
theorem mfind_get (kt vt:Tp) (x:kt.D):∀(es:List (kt.D×vt.D)) (i:Nat),mget kt vt es x=(mfind kt vt x es i).map (·.2)
 | [],i=>rfl
 |e::l,i=>by
  have ih:=mfind_get kt vt x l (i+1)
  unfold mget at ih⊢
  unfold mfind
  rw[List.find?_cons]
  cases kt.eqB x e.1 with
  |true=>rfl
  |false=>exact ih
theorem mfind_put (kt vt:Tp) (x:kt.D) (v:vt.D):∀(es:List (kt.D×vt.D)) (i:Nat),match mfind kt vt x es i with
  |some p=>∃j,p.1=i+j/\j<es.length/\(∃e,es[j]? =some e/\kt.eqB x e.1=true)/\mput kt vt es x v=es.set j (x,v)
  |none=>mput kt vt es x v=es++ [(x,v)]
 | [],i=>rfl
 |e::l,i=>by
  have ih:=mfind_put kt vt x v l (i+1)
  unfold mfind mput
  cases hq:kt.eqB x e.1 with
  |true=>exact⟨0,rfl,by simp,⟨e,rfl,hq⟩,rfl⟩
  |false=>
   simp only[ze]
   cases hf:mfind kt vt x l (i+1)with
   |none=>rw[hf]at ih;simp only at ih⊢;rw[ih];rfl
   |some p=>
    rw[hf]at ih
    obtain⟨j,h1,h2,⟨e',h3,h4⟩,h5⟩:=ih
    exact⟨j+1,by omega,by simp;omega,⟨e',by simpa using h3,h4⟩,by rw[h5];rfl⟩
theorem findNow_key {kt:Tp} {d:TypeDesc} (hd:∀x y:kt.D,Instr.sameNow d (litV kt x) (litV kt y)=some (kt.eqB x y)) {vt:Tp} (x:kt.D):∀(ents:List MapEntry) (es:List (kt.D×vt.D)) (i:Nat),ents.map (fun e=>(e.key,e.val))=es.map (fun x=>(litV kt x.1,litV vt x.2))->
  Instr.findNow d (litV kt x) ents i=some ((mfind kt vt x es i).map fun p=>(p.1,litV vt p.2))
 | [],[],i,_=>rfl
 | [],_::_,i,h=>by cases h
 |_::_,[],i,h=>by cases h
 |e::ents,y::es,i,h=>by
  simp only[zv,List.cons.injEq,Prod.mk.injEq]at h
  obtain⟨⟨h1,h2⟩,h3⟩:=h
  unfold mfind
  simp only[Instr.findNow,h1,hd]
  cases hq:kt.eqB x y.1 with
  |true=>simp[h2]
  |false=>
   simp only[ze]
   exact findNow_key hd x ents es (i+1) h3
section
variable {E : Env} {o : Oper} {s : LSt} {e : Eff} {fp : FP}
theorem withMap_R {kt vt:Tp} {x:AV} {f:Nat->List (kt.D×vt.D)->RD} (h:(withMap kt vt x f).R s [] [] e fp):∃k q es,x= .box k q/\mapName k=true/\lookB s.B k=some ⟨false,[.pv (.sl (.pair kt vt)) es]⟩/\(f k es).R s [k] [] e fp:=by
 unfold withMap at h
 split at h
 case h_2=>exact h.elim
 rename_i k q
 split at h
 case isFalse=>exact h.elim
 rename_i hk
 simp only[RD.R]at h
 split at h
 case h_2=>exact h.elim
 rename_i t es hb
 split at h
 case isFalse=>exact h.elim
 rename_i ht
 subst ht
 exact⟨k,q,es,rfl,hk,hb,h⟩
theorem map_at {R:Root} {box:Nat->Option BS} {tok:Nat->Option TS} {β:Nat->Nat} {τ:Nat->Value} {F:Nat->Nat->Prop} {S:Stab} {w:World} (hM:Mem R box tok β τ F S w) {k:Nat} (hk:mapName k=true) {kt vt:Tp} {es:List (kt.D×vt.D)} {fz:Bool} (hb:box k=some ⟨fz,[.pv (.sl (.pair kt vt)) es]⟩):
  kindN k=1/\∃ents,w.heap[β k]? =some (.map ents ents.size)/\ents.toList.map (fun e=>(e.key,e.val))=es.map (fun x=>(litV kt x.1,litV vt x.2))/\ents.toList.map (·.born)=List.range ents.size:=by
 rcases(hM.boxes k _ hb).2.2.2 with⟨h,_⟩|⟨hn,kt',vt',es',ents,clk,h1,h2,h3,rfl,h4⟩|⟨_,vs,⟨bm,n,m,seen,rfl,_,_⟩,h5⟩
 .rw [hk]at h;cases h
 .rcases h1 with h1|h1
  .cases h1
   exact⟨hn,ents,h2,h3,h4⟩
  .cases h1
 .exact h5.2.elim
theorem lit_as {c:Ctx} {x:AV} {v:Value} {t:Tp} {y:t.D} (hx:x.as t=some y) (h:V3 c x v) {z:t.D} (ht:zeroT t=some z):v=litV t y/\enc t y=[match enc t y with| [p]=>p|_=>.bool false]/\∀p,enc t y=[p]->p.isLit=true:=by
 obtain⟨p,h1,h2⟩:=as_rep hx h
 have hl:p.isLit=true:=by
  cases t with
  |bool=>cases h1;rfl
  |int _=>cases h1;rfl
  |str=>cases h1;rfl
  |_=>cases ht
 refine⟨?_,by rw[h1],fun q hq=>by rw[h1]at hq;cases hq;exact hl⟩
 unfold litV
 rw[h1]
 exact rep_litV h2 hl
theorem lit_v3 (c:Ctx) {t:Tp} {z:t.D} (ht:zeroT t=some z) (y:t.D):V3 c (.pv t y) (litV t y):=by
 cases t with
 |bool=>exact⟨_,rfl,Rep.ofLit (p:=.bool y) rfl⟩
 |int k=>exact⟨_,rfl,Rep.ofLit (p:=.int k y) rfl⟩
 |str=>exact⟨_,rfl,Rep.ofLit (p:=.str (bytes y)) rfl⟩
 |_=>cases ht
theorem lit_v2 (c:Ctx) {t:Tp} {z:t.D} (ht:zeroT t=some z) (y:t.D):V2 c (.pv t y) (litV t y):=lit_v3 c ht y
theorem lit_key {P:Program} {K:TypeId} {kt:Tp} (hK:keyTy P K kt):∃z,zeroT kt=some z:=by
 cases kt with
 |int _=>exact⟨_,rfl⟩
 |str=>exact⟨_,rfl⟩
 |_=>exact hK.elim
theorem sim_lookup (hE:EnvOk E) (T:TypeId) (x i:Operand) (ok:Bool) (ho:o.op= .lookup T x i ok) (h:(lookupRD E T (s.ev x) (s.ev i) ok).R s [] [] e fp):Sim E o s e:=by
 simp only[lookupRD]at h
 split at h
 case h_2=>exact h.elim
 rename_i ty hty
 split at h
 case h_2=>exact h.elim
 rename_i K V kt vt hmp
 obtain⟨k,q,es,hx,hk,hb,h⟩:=withMap_R h
 obtain⟨key,hkey,z,hz,h⟩:=h
 obtain⟨hu,hK,iV,z',hi,hz',hzero⟩:=(hE.ty T ty hty).mp K V kt vt hmp
 rw[hz]at hz';cases hz'
 obtain⟨d,hd,hisk,hsame⟩:=sameNow_key hK
 obtain⟨zk,hzk⟩:=lit_key hK
 have run:∀R β τ F S (a:Act) w,Mem R (lookB s.B) (lookT s.T) β τ F S w->(∀y,V3 (s.ctx w S β τ) (s.ev y) (a.eval y))->(Instr.lookup T (a.eval x) (a.eval i) ok).run E.P w= .ok (if ok then .tuple #[litV vt ((mget kt vt es key).getD z),.bool (mget kt vt es key).isSome]else litV vt ((mget kt vt es key).getD z)) w:=fun R β τ F S a w hM hev=>by
  have h1:=hev x
  rw[hx]at h1
  obtain⟨hk1,ents,g1,g2,g3⟩:=map_at hM hk hb
  have hp:a.eval x= .map (some (β k)):=h1.2.trans (refV_map hk1)
  have hkv:a.eval i=litV kt key:=(lit_as hkey (hev i) hzk).1
  have hf:=MapKept.run_findKey (w:=w) hd (findNow_key hsame key ents.toList es 0 g2)
  have hc:=MapKept.run_checkKey (w:=w) hd (hisk key) ents.isEmpty 9999
  rw[mfind_get kt vt key es 0]
  cases hm:mfind kt vt key es 0 with
  |none=>
   rw[hm]at hf
   cases ok<;>simp[Instr.lookup,run_underlying hu,hp,hkv,MapKept.run_getObj_map g1,hc,hf,zeroValue,typeInfo,hi,hzero]
  |some p=>
   rw[hm]at hf
   cases ok<;>simp[Instr.lookup,run_underlying hu,hp,hkv,MapKept.run_getObj_map g1,hc,hf]
 cases ok with
 |true=>
  cases val_R h
  refine sim_look fun R β τ F S a w hM hev=>⟨.tuple #[litV vt ((mget kt vt es key).getD z),.bool (mget kt vt es key).isSome],?_,?_⟩
  .have:=run R β τ F S a w hM hev
   simp[execOp,ho,this]
  .exact ⟨[litV vt ((mget kt vt es key).getD z),.bool (mget kt vt es key).isSome],rfl,lit_v2 _ hz _,mk_bool _ _,True.intro⟩
 |false=>
  cases val_R h
  refine sim_look fun R β τ F S a w hM hev=>⟨litV vt ((mget kt vt es key).getD z),?_,lit_v3 _ hz _⟩
  have:=run R β τ F S a w hM hev
  simp[execOp,ho,this]
theorem heap_setIf {w:World} {r r':Nat} {o o':Obj} (h:w.heap[r]? =some o):(w.heap.setIfInBounds r o')[r']? =if r'=r then some o' else w.heap[r']? :=by
 obtain⟨h1,h2⟩:=MapKept.heap_set (o':=o') h
 by_cases e:r'=r
 .subst e;rw[zf rfl];exact h1
 .rw [zu e];exact h2 r' e
theorem Mem.setAny {R:Root} {w w':World} {S:Stab} {box:Nat->Option BS} {tok:Nat->Option TS} {β:Nat->Nat} {τ:Nat->Value} {F:Nat->Nat->Prop} (h:Mem R box tok β τ F S w) (d:Nat) {cs cs':List AV} (hd:box d=some ⟨false,cs⟩) (hos:w'.os=w.os/\w'.tape=w.tape/\w'.output=w.output) (hsize:w'.heap.size=w.heap.size) (hsame:∀k,k≠β d->w'.heap[k]? =w.heap[k]?)
  (hB0:(∀x v,V1c ⟨w,S,fun k=>box k≠none,β,tok,τ⟩ x v->V1c ⟨w',S,fun k=>updB box d ⟨false,cs'⟩ k≠none,β,tok,τ⟩ x v)->BoxAt ⟨w',S,fun k=>updB box d ⟨false,cs'⟩ k≠none,β,tok,τ⟩ d (β d) cs'):
  Mem R (updB box d ⟨false,cs'⟩) tok β τ F S w'/\Ctx.Le ⟨w,S,fun k=>box k≠none,β,tok,τ⟩ ⟨w',S,fun k=>updB box d ⟨false,cs'⟩ k≠none,β,tok,τ⟩:=by
 obtain⟨d1,d2,_,_⟩:=h.boxes d _ hd
 have d2:=d2 rfl
 have hcell:∀b o,S b o->w'.cell? ⟨b,o,none⟩=w.cell? ⟨b,o,none⟩:=fun b o hb=>World.cell?_of_block (w:=w) (hsame b (fun e=>d2 o (by rw[<-e];exact hb)))
 have hle:Ctx.Le ⟨w,S,fun k=>box k≠none,β,tok,τ⟩ ⟨w',S,fun k=>updB box d ⟨false,cs'⟩ k≠none,β,tok,τ⟩:=⟨fun _ _ h=>h,hcell⟩
 have lift:∀x v,V1c ⟨w,S,fun k=>box k≠none,β,tok,τ⟩ x v->V1c ⟨w',S,fun k=>updB box d ⟨false,cs'⟩ k≠none,β,tok,τ⟩ x v:=fun x v hx=>
  ⟨hx.1.mono hle (fun k hk=>⟨by simp only[updB];split<;>first|exact hk|simp,rfl⟩) (TokLe.refl rfl rfl),hx.2⟩
 have conv:∀ {k:Nat} {b:BS},updB box d ⟨false,cs'⟩ k=some b->∃b',box k=some b':=fun {k b} hk=>by
  by_cases e:k=d
  .exact ⟨_,e▸hd⟩
  .simp only [updB,e,if_false]at hk;exact⟨b,hk⟩
 have hu:Upd (fun k=>k=β d) w w':=⟨hos.1,hos.2.1,hos.2.2,by rw[hsize];exact zae _,fun k hk hn=>hsame k hn⟩
 have hstep:Step (fun k=>k=β d) S S w w':=⟨hu,hcell,fun _ _ h=>h,fun _ _ h=>.inl h,fun b o hb=>by rw[hsize];exact h.lt b o hb⟩
 refine⟨⟨?_,h.old,h.new,fun b o h0=>(hcell b o (h.old b o h0)).trans (h.keep b o h0),fun b o hb=>by rw[hsize];exact h.lt b o hb,fun k b hk=>?_,fun k k' b b' hk hk' e=>?_,fun t tk ht=>?_,h.tdis,fun t tk k b ht hk=>?_,fun k b hb hk=>?_,h.tfix,fun n tk hs' i o d hn htr hin hne=>⟨(h.hol n tk hs' i o d hn htr hin hne).1,fun td hd=>?_⟩⟩,hle⟩
 .refine h.upd.on hu (fun k e hk=>?_)
  subst e
  rcases d1 with d1|d1
  .omega
  .exact d1
 .by_cases e:k=d
  .subst e
   simp[updB]at hk;subst hk
   exact⟨d1,fun _=>d2,(fun h=>by cases h),hB0 lift⟩
  .simp only [updB,e,if_false]at hk
   obtain⟨h1,h2,h2',hB⟩:=h.boxes k b hk
   exact⟨h1,h2,h2',hB.imp (hsame _ (fun hh=>e (h.binj k d b _ hk hd hh))) lift⟩
 .obtain ⟨es,hk1⟩:=conv hk
  obtain⟨es',hk2⟩:=conv hk'
  exact h.binj k k' es es' hk1 hk2 e
 .exact (h.toks t tk ht).step hstep fun b hF e=>h.tbox t tk d _ ht hd (e▸hF)
 .obtain ⟨b',hk'⟩:=conv hk
  exact h.tbox t tk k b' ht hk'
 .refine h.bfix k b hb (fun e=>hk ?_)
  by_cases e':k=d
  .rw [e',hd]at e;cases e
  .simp only [updB,e',if_false];exact e
 .obtain ⟨b,l,cap,e1,e2⟩:=(h.hol n tk hs' i o d hn htr hin hne).2 td hd
  have hF:=(h.toks n tk hn).block e1
  exact⟨b,l,cap,e1,(World.cell?_of_block (w:=w) (hsame b (fun e=>h.tbox n tk _ _ hn ‹_› (e▸hF)))).trans e2⟩
theorem Mem.setMap {R:Root} {w:World} {S:Stab} {box:Nat->Option BS} {tok:Nat->Option TS} {β:Nat->Nat} {τ:Nat->Value} {F:Nat->Nat->Prop} (h:Mem R box tok β τ F S w) (d:Nat) (hmd:kindN d=1) {kt vt:Tp} {es es':List (kt.D×vt.D)} (hd:box d=some ⟨false,[.pv (.sl (.pair kt vt)) es]⟩) {o0:Obj} (h0:w.heap[β d]? =some o0) (ents:Array MapEntry) (clk:Nat)
  (he:ents.toList.map (fun e=>(e.key,e.val))=es'.map fun x=>(litV kt x.1,litV vt x.2)) (hclk:clk=ents.size) (hborn:ents.toList.map (·.born)=List.range ents.size):
  Mem R (updB box d ⟨false,[.pv (.sl (.pair kt vt)) es']⟩) tok β τ F S {w with heap:=w.heap.setIfInBounds (β d) (.map ents clk)}/\Ctx.Le ⟨w,S,fun k=>box k≠none,β,tok,τ⟩ ⟨{w with heap:=w.heap.setIfInBounds (β d) (.map ents clk)},S,fun k=>updB box d ⟨false,[.pv (.sl (.pair kt vt)) es']⟩ k≠none,β,tok,τ⟩:=by
 exact h.setAny d hd ⟨rfl,rfl,rfl⟩ (by simp) (fun k hk=>by show(w.heap.setIfInBounds _ _)[k]? =_;rw[heap_setIf h0,zu hk]) fun _=>.inr (.inl ⟨hmd,kt,vt,es',ents,clk,.inl rfl,by show(w.heap.setIfInBounds _ _)[_]? =_;rw[heap_setIf h0,zf rfl],he,hclk,hborn⟩)
theorem sim_mapUpdate (hE:EnvOk E) (T:TypeId) (x i y:Operand) (ho:o.op= .mapUpdate T x i y) (h:(opRD E o.op o.dst s.ev).R s [] [] e fp):Sim E o s e:=by
 rw[ho]at h
 simp only[opRD,mapUpdateRD]at h
 split at h
 case h_2=>exact h.elim
 rename_i ty hty hdst
 split at h
 case h_2=>exact h.elim
 rename_i K V kt vt hmp
 obtain⟨k,q,es,hx,hk,hb,h⟩:=withMap_R h
 obtain⟨key,hkey,v,hv,rfl,_⟩:=h
 obtain⟨hu,hK,iV,z,hi,hz,hzero⟩:=(hE.ty T ty hty).mp K V kt vt hmp
 obtain⟨d,hd,hisk,hsame⟩:=sameNow_key hK
 obtain⟨zk,hzk⟩:=lit_key hK
 rintro R a w hR0 ⟨β,τ,F,S,hM,hn,hdf,hs⟩ Kc Q hKc
 have hev:=V3_ev hs
 have h1:=hev x
 rw[hx]at h1
 obtain⟨hk1,ents,g1,g2,g3⟩:=map_at hM hk hb
 have hp:a.eval x= .map (some (β k)):=h1.2.trans (refV_map hk1)
 have hkv:a.eval i=litV kt key:=(lit_as hkey (hev i) hzk).1
 have hvv:a.eval y=litV vt v:=(lit_as hv (hev y) hz).1
 have hf:=MapKept.run_findKey (w:=w) hd (findNow_key hsame key ents.toList es 0 g2)
 have hc:=MapKept.run_checkKey (w:=w) hd (hisk key) false 9999
 have hput:=mfind_put kt vt key v es 0
 have fin:∀(ents':Array MapEntry) (clk':Nat),ents'.toList.map (fun e=>(e.key,e.val))=(mput kt vt es key v).map (fun x=>(litV kt x.1,litV vt x.2))->clk'=ents'.size->ents'.toList.map (·.born)=List.range ents'.size->(execOp a.eval o).run E.P w= .ok .skip {w with heap:=w.heap.setIfInBounds (β k) (.map ents' clk')}->o.wp E.P a w Kc Q:=fun ents' clk' he hc' hb' hr=>by
  obtain⟨hM',hle⟩:=hM.setMap k hk1 hb g1 ents' clk' he hc' hb'
  refine wp_skip' hr (hKc _ _ (rel_put (e:=⟨.tup [],[(k,⟨false,[.pv (.sl (.pair kt vt)) (mput kt vt es key v)]⟩)],[]⟩) hM' hn hdf (lift3 hle (fun j hj=>⟨?_,rfl⟩) (TokLe.refl rfl rfl) hs) o.dst (.inl hdst)))
  show updB (lookB s.B) k _ j≠none
  simp only[updB]
  split
  .simp
  .exact hj
 cases hm:mfind kt vt key es 0 with
 |none=>
  rw[hm]at hf hput
  simp only at hput
  refine fin (ents.push ⟨litV kt key,litV vt v,ents.size⟩) (ents.size+1) (by simp[g2,hput]) (by simp) (by simp only[Array.toList_push,zaK,g3,Array.size_push,List.range_succ];rfl) ?_
  simp[execOp,ho,Instr.mapUpdate,run_underlying hu,hp,hkv,hvv,MapKept.run_getObj_map g1,hc,hf,MapKept.run_setObj_map _ g1]
 |some p=>
  rw[hm]at hf hput
  obtain⟨j,e1,e2,⟨en,e3,e4⟩,e5⟩:=hput
  have e1:p.1=j:=by omega
  have hlen:ents.toList.length=es.length:=by have:=congrArg List.length g2;simpa using this
  have hjl:j<ents.size:=by simp at hlen;omega
  have hej:ents[j]? =some ents[j]:=zbt hjl
  have hkey':ents[j].key=litV kt key:=by
   have:=congrArg (fun l=>l[j]?) g2
   simp only[zaF,zaN,hej,e3,zbn,zaE,Prod.mk.injEq]at this
   rw[this.1,<-eqB_key hK e4]
  have hst:=MapKept.run_keyThatStays (P:=E.P) (w:=w) (hisk key)
  refine fin (ents.modify j fun e=>{e with key:=litV kt key,val:=litV vt v}) ents.size ?_ (by simp) ?_ ?_
  .rw [e5,List.map_set,<-g2]
   apply zbc
   intro m
   rw[zaF,zaN,Array.getElem?_modify,zbm,zaF,zaN]
   by_cases em:j=m
   .subst em
    simp[hej,hjl,hlen,e2]
   .simp [em]
  .rw [Array.size_modify,<-g3]
   apply zbc
   intro m
   rw[zaF,zaN,Array.getElem?_modify,zaF,zaN]
   by_cases em:j=m
   .subst em
    simp[hej]
   .simp [em]
  .simp [execOp,ho,Instr.mapUpdate,run_underlying hu,hp,hkv,hvv,MapKept.run_getObj_map g1,hc,hf,e1,hej,hkey',hst,MapKept.run_setObj_map _ g1]
theorem Mem.nameBox' {R:Root} {w:World} {S:Stab} {box:Nat->Option BS} {tok:Nat->Option TS} {β:Nat->Nat} {τ:Nat->Value} {F:Nat->Nat->Prop} (h:Mem R box tok β τ F S w) (d:Nat) (hd:box d=none) (hbn:R.bn d=none) (k:Nat) (hk:R.fr k) (hS:∀o,¬S k o) (hne:∀j b,box j=some b->β j≠k) (hnt:∀t tk,tok t=some (.live tk)->¬F t k) (cs:List AV)
  (hB:BoxAt ⟨w,S,fun j=>updB box d ⟨false,cs⟩ j≠none,fun j=>if j=d then k else β j,tok,τ⟩ d k cs):
  Mem R (updB box d ⟨false,cs⟩) tok (fun j=>if j=d then k else β j) τ F S w:=by
 have lift:∀x v,V1c ⟨w,S,fun k=>box k≠none,β,tok,τ⟩ x v->V1c ⟨w,S,fun j=>updB box d ⟨false,cs⟩ j≠none,fun j=>if j=d then k else β j,tok,τ⟩ x v:=fun x v hx=>
  ⟨V1.mono (c:=⟨w,S,fun k=>box k≠none,β,tok,τ⟩) (c':=⟨w,S,fun j=>updB box d ⟨false,cs⟩ j≠none,fun j=>if j=d then k else β j,tok,τ⟩) ⟨fun _ _ h=>h,fun _ _ _=>rfl⟩ (fun j hj=>by
   have hjd:j≠d:=fun e=>hj (e▸hd)
   simp only[updB,hjd,if_false];exact⟨hj,trivial⟩) (TokLe.refl rfl rfl) hx.1,hx.2⟩
 refine⟨h.upd,h.old,h.new,h.keep,h.lt,fun j b hj=>?_,fun j j' b b' hj hj' e=>?_,h.toks,h.tdis,fun t tk j b ht hj=>?_,fun j b hb hj=>?_,h.tfix,h.hol⟩
 .by_cases e:j=d
  .subst e
   simp[updB]at hj;subst hj
   simp only[if_true]
   exact⟨hk,fun _=>hS,(fun h=>by cases h),hB⟩
  .simp only [updB,e,if_false]at hj
   obtain⟨h1,h2,h2',hB⟩:=h.boxes j b hj
   simp only[e,if_false]
   exact⟨h1,h2,h2',hB.imp rfl lift⟩
 .by_cases e1:j=d<;>by_cases e2:j'=d
  .rw [e1,e2]
  .simp only [updB,e1,e2,if_true,if_false]at hj' e
   exact absurd e.symm (hne j' b' hj')
  .simp only [updB,e1,e2,if_true,if_false]at hj e
   exact absurd e (hne j b hj)
  .simp only [updB,e1,e2,if_false]at hj hj' e
   exact h.binj j j' b b' hj hj' e
 .by_cases e1:j=d
  .simp only [e1,if_true];exact hnt t tk ht
  .simp only [updB,e1,if_false]at hj⊢
   exact h.tbox t tk j b ht hj
 .by_cases e1:j=d
  .subst e1;rw[hbn]at hb;cases hb
  .simp only [updB,e1,if_false]at hj⊢
   exact h.bfix j b hb hj
theorem sim_makeMap (T:TypeId) (ho:o.op= .makeMap T none) (h:(opRD E o.op o.dst s.ev).R s [] [] e fp):Sim E o s e:=by
 rw[ho]at h
 simp only[opRD,makeMapRD]at h
 split at h
 case h_2=>exact h.elim
 rename_i d ty hdst hty
 split at h
 case h_2=>exact h.elim
 rename_i K V kt vt hmp
 split at h
 case isFalse=>exact h.elim
 rename_i hmn
 simp only[RD.R]at h
 split at h
 case h_2=>exact h.elim
 rename_i hd
 split at h
 .exact h.elim
 rename_i hres
 obtain⟨rfl,_⟩:=h
 generalize 1000000000+d=dm at*
 rintro R a w hR0 ⟨β,τ,F,S,hM,hn,hdf,hs⟩ Kc Q hKc
 have hb:Below w.heap.size w (w.alloc (.map #[] 0)):=(Below.refl _ _).alloc (zae _) _
 have hg:=hM.grow (S':=S) hb (fun _ _ h=>h) (fun _ _ h=>.inl h) (fun b o h1=>by have:=hM.lt b o h1;simp;omega)
 have hM':=hg.nameBox' dm hd (hR0.bn (by simpa using hres)) w.heap.size (.inl hM.size) (fun o ho=>by have:=hM.lt _ _ ho;omega) (fun j b hj e=>by have:=hM.blt hj;omega) (fun t tk ht hF=>by have:=((hM.toks t tk ht).1 _ hF).2;omega) [.pv (.sl (.pair kt vt)) ([]:List (kt.D×vt.D))]
  (.inr (.inl ⟨hmn,kt,vt,[], #[],0,.inl rfl,heap_alloc_new w _,rfl,rfl,rfl⟩))
 have hr:(execOp a.eval o).run E.P w= .ok (.value (.map (some w.heap.size))) (w.alloc (.map #[] 0)):=by
  simp[execOp,ho,Instr.makeMap,newObj]
  rfl
 refine wp_value hr (hKc _ _ (rel_put (e:=⟨.box dm 0,[(dm,⟨false,[.pv (.sl (.pair kt vt)) ([]:List (kt.D×vt.D))]⟩)],[]⟩) hM' hn hdf (lift3 (same_le hb hM.lt (fun _ _ h=>h) _ _ _ _ _) (fun k hk=>?_) (TokLe.refl rfl rfl) hs) o.dst (.inr ⟨?_,by simp[refV_map hmn]⟩)))
 .have hkd:k≠dm:=fun e=>hk (e▸hd)
  show updB (lookB s.B) dm _ k≠none/\(if k=dm then _ else β k)=β k
  simp only[updB,hkd,if_false]
  exact⟨hk,trivial⟩
 .show updB (lookB s.B) dm _ dm≠none
  simp[updB]
theorem sim_range (hE:EnvOk E) (T:TypeId) (x:Operand) (ho:o.op= .range T x) (h:(opRD E o.op o.dst s.ev).R s [] [] e fp):Sim E o s e:=by
 rw[ho]at h
 simp only[opRD,rangeRD]at h
 split at h
 case h_2=>exact h.elim
 rename_i d ty hdst hty
 split at h
 case h_2=>exact h.elim
 rename_i K V kt vt hmp
 obtain⟨k,q,es,hx,hk,hb,h⟩:=withMap_R h
 split at h
 case isFalse=>exact h.elim
 rename_i hkd
 simp only[RD.R]at h
 split at h
 case h_2=>exact h.elim
 rename_i hd
 split at h
 .exact h.elim
 rename_i hres
 obtain⟨rfl,_⟩:=h
 obtain⟨hu,_⟩:=(hE.ty T ty hty).mp K V kt vt hmp
 generalize 2000000000+d=di at*
 rintro R a w hR0 ⟨β,τ,F,S,hM,hn,hdf,hs⟩ Kc Q hKc
 have hev:=V3_ev hs
 obtain⟨hk1,ents,g1,g2,g3⟩:=map_at hM hk hb
 have h1:=hev x
 rw[hx]at h1
 have hp:a.eval x= .map (some (β k)):=h1.2.trans (refV_map hk1)
 have hlen:ents.size=es.length:=by have:=congrArg List.length g2;simpa using this
 have hbl:Below w.heap.size w (w.alloc (.mapIter (some (β k)) ents.size #[] ents.size)):=(Below.refl _ _).alloc (zae _) _
 have hg:=hM.grow (S':=S) hbl (fun _ _ h=>h) (fun _ _ h=>.inl h) (fun b o h1=>by have:=hM.lt b o h1;simp;omega)
 have hkdi:k≠di:=fun e=>by rw[e,hkd]at hk1;cases hk1
 have hM':=hg.nameBox' di hd (hR0.bn (by simpa using hres)) w.heap.size (.inl hM.size) (fun o ho=>by have:=hM.lt _ _ ho;omega) (fun j b hj e=>by have:=hM.blt hj;omega) (fun t tk ht hF=>by have:=((hM.toks t tk ht).1 _ hF).2;omega) [.box k 0,.pv (.int .i64) (es.length:Int),.pv (.int .i64) (0:Int),.pv (.int .i64) (0:Int)]
  (.inr (.inr ⟨hkd,[.map (some (β k)),.int .i64 (es.length:Int),.int .i64 ((0:Nat):Int),.int .i64 ((0:Nat):Int)],⟨β k,es.length,0, #[],rfl,by rw[<-hlen];exact heap_alloc_new w _,fun i=>by simp⟩,⟨⟨by show updB (lookB s.B) di _ k≠none;simp only[updB,hkdi,if_false];rw[hb];simp,by show _=refV k (if k=di then _ else β k) 0;rw[zu hkdi,refV_map hk1]⟩,rfl⟩,⟨⟨_,rfl,.int _ _⟩,rfl⟩,⟨⟨_,rfl,.int _ _⟩,rfl⟩,⟨⟨_,rfl,.int _ _⟩,rfl⟩,True.intro⟩))
 have hr:(execOp a.eval o).run E.P w= .ok (.value (.pointer (some ⟨w.heap.size,0,none⟩))) (w.alloc (.mapIter (some (β k)) ents.size #[] ents.size)):=by
  have:=run_range_map (P:=E.P) w T K V (β k) ents ents.size hu g1
  simp[execOp,ho,hp,this]
 refine wp_value hr (hKc _ _ (rel_put (e:=⟨.box di 0,[(di,⟨false,[.box k 0,.pv (.int .i64) (es.length:Int),.pv (.int .i64) (0:Int),.pv (.int .i64) (0:Int)]⟩)],[]⟩) hM' hn hdf (lift3 (same_le hbl hM.lt (fun _ _ h=>h) _ _ _ _ _) (fun k hk=>?_) (TokLe.refl rfl rfl) hs) o.dst (.inr ⟨?_,by simp[refV_iter hkd]⟩)))
 .have hkd:k≠di:=fun e=>hk (e▸hd)
  show updB (lookB s.B) di _ k≠none/\(if k=di then _ else β k)=β k
  simp only[updB,hkd,if_false]
  exact⟨hk,trivial⟩
 .show updB (lookB s.B) di _ di≠none
  simp[updB]
theorem intV {c:Ctx} {n n':Int} (h:V1c c (.pv (.int .i64) n) (.int .i64 n')):n'=n:=by
 have:=v3_int (c:=c) (h.1:V3 c (.pv (.int .i64) n) (.int .i64 n'))
 injection this
theorem iter_at {R:Root} {box:Nat->Option BS} {tok:Nat->Option TS} {β:Nat->Nat} {τ:Nat->Value} {F:Nat->Nat->Prop} {S:Stab} {w:World} (hM:Mem R box tok β τ F S w) {k m q:Nat} (hk:kindN k=2) {n b c:Int} {fz fz':Bool} (hb:box k=some ⟨fz,[.box m q,.pv (.int .i64) n,.pv (.int .i64) b,.pv (.int .i64) c]⟩)
  {kt vt:Tp} {es:List (kt.D×vt.D)} (hm:box m=some ⟨fz',[.pv (.sl (.pair kt vt)) es]⟩) (hl:(es.length:Int)=n):
  ∃(ents:Array MapEntry) (seen:Array Nat) (bits:Nat),kindN m=1/\V1c ⟨w,S,fun k=>box k≠none,β,tok,τ⟩ (.box m q) (.map (some (β m)))/\b=(bits:Int)/\c=((seen.toList.getLast?.map (· +1)).getD 0:Nat)/\ents.size=es.length/\w.heap[β m]? =some (.map ents ents.size)/\w.heap[β k]? =some (.mapIter (some (β m)) ents.size seen ents.size)/\
   (∀i,bits.testBit i=true↔i∈seen.toList)/\ents.toList.map (fun e=>(e.key,e.val))=es.map (fun x=>(litV kt x.1,litV vt x.2))/\ents.toList.map (·.born)=List.range ents.size:=by
 rcases(hM.boxes k _ hb).2.2.2 with⟨h,_⟩|⟨hn,_⟩|⟨_,vs,⟨bm,n',m',seen,rfl,i2,i3⟩,h5⟩
 .rw [kindN_0.1 h]at hk;cases hk
 .rw [hn]at hk;cases hk
 .obtain ⟨v1,v2,v3,v4,_⟩:=h5
  have hmn:mapName m=true:=by
   cases hmn:mapName m with
   |true=>rfl
   |false=>have:=v1.1.2;rw[refV_ptr hmn]at this;cases this
  obtain⟨hk1,ents,g1,g2,g3⟩:=map_at hM hmn hm
  have e1:bm=β m:=by have:=v1.1.2;rw[refV_map hk1]at this;cases this;rfl
  have hlen:ents.size=es.length:=by have:=congrArg List.length g2;simpa using this
  have e2:=intV v2
  have e3:=intV v3
  have e4:=intV v4
  have e5:n'=ents.size:=by omega
  subst e1;subst e5
  exact⟨ents,seen,m',hk1,v1,e3.symm,e4.symm,hlen,g1,i2,i3,g2,g3⟩
theorem sim_entry (x:Operand) (ho:o.op= .entry x) (h:(opRD E o.op o.dst s.ev).R s [] [] e fp):Sim E o s e:=by
 rw[ho]at h
 simp only[opRD,entryRD]at h
 split at h
 case h_2=>exact h.elim
 rename_i k hx
 split at h
 case isFalse=>exact h.elim
 rename_i hk
 simp only[RD.R]at h
 split at h
 case h_2=>exact h.elim
 rename_i m q n b c hb
 simp only[RD.R]at h
 split at h
 case h_2=>exact h.elim
 rename_i kt vt es hm
 split at h
 case isFalse=>exact h.elim
 rename_i hc
 obtain⟨hz1,hz2⟩:=hc
 obtain⟨⟨hc0,hl⟩,h⟩:=h
 obtain⟨en,hen,h⟩:=h
 cases val_R h
 obtain⟨z1,hz1⟩:=Option.isSome_iff_exists.1 hz1
 obtain⟨z2,hz2⟩:=Option.isSome_iff_exists.1 hz2
 refine sim_look fun R β τ F S a w hM hev=>⟨.tuple #[litV kt en.1,litV vt en.2],?_,⟨[litV kt en.1,litV vt en.2],rfl,lit_v2 _ hz1 _,lit_v2 _ hz2 _,True.intro⟩⟩
 obtain⟨ents,seen,bits,_,_,e3,e4,hlen,g1,i2,i3,g2,g3⟩:=iter_at hM hk hb hm hl
 have h1:=hev x
 rw[hx]at h1
 have hp:a.eval x= .pointer (some ⟨β k,0,none⟩):=h1.2.trans (refV_iter hk)
 have hc0: @LT.lt Int _ 0 c:=hc0
 have e4: @Eq Int c ((seen.toList.getLast?.map (· +1)).getD 0:Nat):=e4
 cases hg:seen.toList.getLast? with
 |none=>rw[hg]at e4;simp at e4;omega
 |some i=>
  rw[hg]at e4
  have e4: @Eq Int c ((i+1:Nat):Int):=e4
  obtain⟨ys,hys⟩:=List.getLast?_eq_some_iff.1 hg
  have hseen:seen=ys.toArray.push i:=by apply Array.ext';rw[hys];simp
  have hi:Int.toNat c-1=i:=by omega
  rw[hi]at hen
  have hil:i<ents.size:=by rw[hlen];exact(zh.1 hen).1
  have hb':ents[i].born=i:=by
   have:=congrArg (fun l=>l[i]?) g3
   simpa[hil]using this
  have hkv:(ents[i].key,ents[i].val)=(litV kt en.1,litV vt en.2):=by
   have:=congrArg (fun l=>l[i]?) g2
   simp only[zaF,zaN,zbt hil,zbn]at this
   have hen':es[i]? =some en:=hen
   rw[hen']at this
   simpa using this
  have hr:w.heap[β k]? =some (.mapIter (some (β m)) ents.size (ys.toArray.push ents[i].born) ents.size):=by rw[hb',<-hseen];exact i2
  have:=run_entry_at (P:=E.P) w (β k) (β m) ents.size ys.toArray ents ents.size ents[i] hr g1 (by simp) (by rw[g3];exact List.nodup_range)
  simp only[Prod.mk.injEq]at hkv
  rw[hkv.1,hkv.2]at this
  simp[execOp,ho,hp,this]
theorem leftI_mem {n m i:Nat}:i∈leftI n m↔i<n/\m.testBit i=false:=by
 unfold leftI
 simp
theorem next_wp {ρ:Type} (x:Operand) (ho:o.op= .next x false) {K:LSt->Option ρ} {z:ρ} (h:nextRun o.dst (s.ev x) s K=some z) {R:Root} {a:Act} {w:World} (hR0:ROk E R) (hR:Rel R s a w) {Kc:Act->World->Prop} {Q:Exit->Act->World->Prop} (hKc:∀s' a' w',K s'=some z->Rel R s' a' w'->Kc a' w'):o.wp E.P a w Kc Q:=by
 unfold nextRun at h
 split at h
 case h_2=>cases h
 rename_i k hx
 split at h
 case isFalse=>cases h
 rename_i hk
 split at h
 case h_2=>cases h
 rename_i m q n b c hb
 split at h
 case h_2=>cases h
 rename_i kt vt es hm
 split at h
 case isFalse=>cases h
 rename_i hl
 obtain⟨β,τ,F,S,hM,hn,hdf,hs⟩:=hR
 have hev:=V3_ev hs
 obtain⟨ents,seen,bits,hk1,hv1,e3,e4,hlen,g1,i2,i3,g2,g3⟩:=iter_at hM hk hb hm hl
 have e3: @Eq Int b (bits:Int):=e3
 have e3':Int.toNat b=bits:=by omega
 rw[e3']at h
 have h1:=hev x
 rw[hx]at h1
 have hp:a.eval x= .pointer (some ⟨β k,0,none⟩):=h1.2.trans (refV_iter hk)
 have hborn:∀(i:Nat) (hi:i<ents.size),ents[i].born=i:=fun i hi=>by
  have:=congrArg (fun l=>l[i]?) g3
  simpa[hi]using this
 have hold:∀y∈ents.toList,y.born<ents.size:=fun y hy=>by
  have:y.born∈ents.toList.map (·.born):=zca hy
  rw[g3]at this
  exact List.mem_range.1 this
 rcases run_next_at (P:=E.P) w o.type (β k) (β m) ents.size ents.size seen ents ents.size i2 g1 hold (zae _)with⟨h0,hr⟩|⟨en,hen,w1,hw1,hr⟩
 .have hemp:leftI (List.length (α:=kt.D×vt.D) es) bits=[]:=by
   rw[List.eq_nil_iff_forall_not_mem]
   intro i hi
   obtain⟨h2,h3⟩:=leftI_mem.1 hi
   have hi':i<ents.size:=by rw[hlen];exact h2
   have hin:ents[i]∈leftOf ents seen:=by
    unfold leftOf
    rw[Array.mem_filter]
    refine⟨by simp,?_⟩
    rw[hborn i hi']
    have:¬i∈seen.toList:=fun hh=>by rw[(i3 i).2 hh]at h3;cases h3
    simpa using this
   have:=Array.size_pos_of_mem hin
   omega
  rw[hemp]at h
  have h:K (s.app o.dst ⟨.tup [.pv .bool false],[],[]⟩)=some z:=h
  refine wp_value (v:=.tuple #[.bool false]) (w':=w) ?_ (hKc _ _ _ h (rel_put (e:=⟨.tup [.pv .bool false],[],[]⟩) hM hn hdf hs o.dst (.inr ⟨[.bool false],rfl,mk_bool _ _,True.intro⟩)))
  simp[execOp,ho,hp,hr]
 .unfold leftOf at hen
  rw[Array.toList_filter,zaZ]at hen
  obtain⟨hmem,hns⟩:=hen
  obtain⟨i,hi,hei⟩:=zav.1 hmem
  have hi':i<ents.size:=by simpa using hi
  have hei:ents[i]=en:=by simpa using hei
  have hbi:en.born=i:=by rw[<-hei];exact hborn i hi'
  rw[hbi]at hns hr
  have hnot:i∉seen.toList:=by simpa using hns
  have hin:i∈leftI (List.length (α:=kt.D×vt.D) es) bits:=leftI_mem.2 ⟨by rw[<-hlen];exact hi',by
   cases ht:bits.testBit i with
   |false=>rfl
   |true=>exact absurd ((i3 i).1 ht) hnot⟩
  have hne:(leftI (List.length (α:=kt.D×vt.D) es) bits).isEmpty=false:=by
   cases hq:leftI (List.length (α:=kt.D×vt.D) es) bits with
   |nil=>rw[hq]at hin;cases hin
   |cons _ _=>rfl
  rw[hne]at h
  have h:=anyOf_mem h i hin
  have hw':w1.heap=w.heap/\w1.os=w.os/\w1.tape=w.tape/\w1.output=w.output:=by rcases hw1 with rfl|rfl<;>exact⟨rfl,rfl,rfl,rfl⟩
  obtain⟨w2,hw2⟩:∃w2,w2=Go.ChangeMaps.setBlock w1 (β k) (.mapIter (some (β m)) ents.size (seen.push i) ents.size):=⟨_,rfl⟩
  rw[<-hw2]at hr
  have hheap:w2.heap=w.heap.setIfInBounds (β k) (.mapIter (some (β m)) ents.size (seen.push i) ents.size):=by rw[hw2];show w1.heap.setIfInBounds _ _=_;rw[hw'.1]
  have hos:w2.os=w.os/\w2.tape=w.tape/\w2.output=w.output:=by rw[hw2];exact hw'.2
  obtain⟨hM',hle⟩:=hM.setAny (w':=w2) (cs':=[.box m q,.pv (.int .i64) n,.pv (.int .i64) ((bits|||2^i:Nat):Int),.pv (.int .i64) ((i+1:Nat):Int)]) k hb hos (by rw[hheap];simp) (fun j hj=>by rw[hheap,heap_setIf i2,zu hj]) (fun lift=>.inr (.inr ⟨hk,[.map (some (β m)),.int .i64 (ents.size:Int),.int .i64 ((bits|||2^i:Nat):Int),.int .i64 ((i+1:Nat):Int)],
   ⟨β m,ents.size,bits|||2^i,seen.push i,by simp,by show w2.heap[_]? =_;rw[hheap,heap_setIf i2,zf rfl],fun j=>by
    simp only[Nat.testBit_or,za1,Nat.testBit_two_pow,zw,Array.toList_push,zaB,zaD]
    rw[i3 j]
    constructor
    .rintro (h|h)
     .exact .inl h
     .exact .inr h.symm
    .rintro (h|h)
     .exact .inl h
     .exact .inr h.symm⟩,
   lift _ _ hv1,⟨⟨_,rfl,by rw[<-hl,<-hlen];exact .int _ _⟩,rfl⟩,⟨⟨_,rfl,.int _ _⟩,rfl⟩,⟨⟨_,rfl,.int _ _⟩,rfl⟩,True.intro⟩))
  refine wp_value (v:=.tuple #[.bool true,en.key,en.val]) (w':=w2) ?_ (hKc _ _ _ h (rel_put (e:=⟨.tup [.pv .bool true,.dead,.dead],[(k,⟨false,[.box m q,.pv (.int .i64) n,.pv (.int .i64) ((bits|||2^i:Nat):Int),.pv (.int .i64) ((i+1:Nat):Int)]⟩)],[]⟩) hM' hn hdf (lift3 hle (fun j hj=>⟨?_,rfl⟩) (TokLe.refl rfl rfl) hs) o.dst (.inr ⟨[.bool true,en.key,en.val],rfl,mk_bool _ _,True.intro,True.intro,True.intro⟩)))
  .simp [execOp,ho,hp,hr]
  .show updB (lookB s.B) k _ j≠none
   simp only[updB]
   split
   .simp
   .exact hj
end
section
variable {E : Env} {o : Oper} {s : LSt} {e : Eff} {fp : FP}
theorem newTree_R {d:Nat} {r:Tp} {xs:List r.D} {e':TypeId} {es:List (Nat×Option TS)} {rb rt:List Nat} (h:(newTree E d r xs e' es).R s rb rt e fp):
  lookT s.T d=none/\(∀y,y∈es->y.1≠d)/\E.res d=false/\E.wr d=true/\r.flatB=false/\e=⟨ownAV d ⟨r,xs,e',true,true,some []⟩,[],es++ [(d,some (.live ⟨r,xs,e',true,true,some []⟩))]⟩:=by
 unfold newTree at h
 simp only[RD.R]at h
 split at h
 .exact h.elim
 .rename_i hd
  split at h
  .exact h.elim
  .rename_i hc
   simp only[za1,not_or,zci]at hc
   split at h
   case isFalse=>exact h.elim
   rename_i hw
   refine⟨hd,fun y hy e=>?_,hc.2,hw.1,hw.2,h.1⟩
   have:=List.any_eq_false.1 hc.1 y hy
   simp[e]at this
theorem mem_bare {w:World} {S:Stab} (X:Nat->Prop) (hS:∀b o,S b o->b<w.heap.size) (β:Nat->Nat) (τ:Nat->Value) (F:Nat->Nat->Prop):
  Mem ⟨w,X,S,fun _=>none,fun _=>none⟩ (fun _=>none) (fun _=>none) β τ F S w where
 upd:=Upd.refl _ _
 old:=fun _ _ h=>h
 new:=fun _ _ h=>.inl h
 keep:=fun _ _ _=>rfl
 lt:=hS
 boxes:=fun _ _ h=>by cases h
 binj:=fun _ _ _ _ h=>by cases h
 toks:=fun _ _ h=>by cases h
 tdis:=fun _ _ _ _ _ h=>by cases h
 tbox:=fun _ _ _ _ h=>by cases h
 bfix:=fun _ _ h=>by cases h
 tfix:=fun _ _ _ h=>by cases h
 hol:=fun _ _ _ _ _ _ h=>by cases h
theorem sim_appendTree (hE:EnvOk E) (c:Call) (ho:o.op= .call c) (hc:c.callee= .builtin .append) (d:Nat) (x y:Operand) (T:TypeId) (ty:Ty) (e':TypeId) (r:Tp) (by' t:Nat) (tk:Tok)
  (hdst:o.dst=some d) (hx:c.args.toList=[x,y]) (hT:c.argTypes.toList=[T,T]) (hty:E.ty T=some ty) (he:ty.elem=some (e',r,by')) (hxv:s.ev x= .mtk t) (htk:lookT s.T t=some (.live tk)) (er:tk.t=r/\tk.tr=some []) (ee:tk.e=e')
  (h:(appendTree E d e' r by' t (er.1▸tk.xs) (s.ev y)).R s [] [t] e fp):Sim E o s e:=by
 obtain⟨er,etr⟩:=er
 subst er
 unfold appendTree at h
 split at h
 case h_2=>exact h.elim
 rename_i n hy
 simp only[RD.R]at h
 split at h
 case h_2=>exact h.elim
 rename_i tk2 htk2
 split at h
 case isFalse=>exact h.elim
 rename_i e2
 obtain⟨e2,e2r⟩:=e2
 split at h
 .exact h.elim
 rename_i hnt
 have hnt:n≠t:=by simpa using hnt
 obtain⟨⟨hbytes,h63⟩,h⟩:=h
 obtain⟨hd,hfr,hres,hwr,hfl,rfl⟩:=newTree_R h
 rintro R a w hR0 ⟨β,τ,F,S,hM,hn,hdf,hsl⟩ K Q hK
 have hev:=V3_ev hsl
 obtain⟨hu,hpos,ie,z,hie,hsz,hby,hz,hzs⟩:=(hE.ty T ty hty).elem _ _ _ he
 have ea:c.args= #[x,y]:=by apply Array.ext';simpa using hx
 have eT:c.argTypes= #[T,T]:=by apply Array.ext';simpa using hT
 have h1:=hev x;rw[hxv]at h1
 have h2:=hev y;rw[hy]at h2
 have vx:a.eval x=τ t:=(v3_mtk h1).2.2 tk htk
 have vy:a.eval y=τ n:=(v3_mtk h2).2.2 tk2 htk2
 have ok1:=hM.toks t tk htk
 have ok2:=hM.toks n tk2 htk2
 have w1:tk.whole=true:=by unfold Tok.whole;rw[etr]
 have w2:tk2.whole=true:=by unfold Tok.whole;rw[e2r]
 have d1:=(ok1.tree etr).2
 have d2:=(ok2.tree e2r).2
 have D2:=ok2.deepTree e2r
 obtain⟨S1,hM1,hS1,k1⟩:=hM.freezeTok t tk htk w1
 obtain⟨S2,hM2,hS2,k2⟩:=hM1.freezeTok n tk2 (by simp only[updT,zu hnt];exact htk2) w2
 have k1':=hM2.toks t tk.fz0 (by simp only[updT,zu (Ne.symm hnt),if_true])
 obtain⟨X,hX⟩:∃X:Nat->Prop,X=fun b=>F t b\/F n b:=⟨_,rfl⟩
 have hdis:∀b,F n b->¬F t b:=fun b g1 g2=>hnt (hM.tdis n t tk2 tk b htk2 htk g1 g2)
 obtain⟨t2,xs2,et2,wr2,dp2,tr2⟩:=tk2
 simp only at e2 e2r d2
 subst e2
 subst e2r
 subst d2
 have hb:TokOk (Root.fr ⟨w,X,S2,fun _=>none,fun _=>none⟩) w S2 ⟨tk.t,tk.xs,e',false,true,none⟩ (τ t) (F t):=by
  have:=k1'.fr (Fr':=Root.fr ⟨w,X,S2,fun _=>none,fun _=>none⟩) (fun b hb=>.inr (by rw[hX];exact .inl hb))
  have e3:tk.fz0=⟨tk.t,tk.xs,e',false,true,none⟩:=by unfold Tok.fz0;rw[<-ee,<-d1]
  rw[e3]at this
  exact this
 obtain⟨v',w',S',hrun,hM',hle,hTk⟩:=append_core (P:=E.P) (mem_bare (S:=S2) X hM2.lt β τ F) T o.type e' ie z tk.t by' hu hie hz hsz hby hzs hpos (τ t) (τ n) tk.xs xs2 false true true (F t) (F n) hb (Elems.of_tok k2 rfl) (fun _=>.inr ⟨D2,hdis⟩)
  (fun b hb=>⟨.inr (by rw[hX];exact .inr hb),(ok2.1 b hb).2⟩) (fun _ _ _ h=>by cases h) (fun _ _ h=>by cases h) hbytes h63
 have hr:(execOp a.eval o).run E.P w= .ok (.value v') w':=by
  simp only[execOp,ho,resolve,hc,invoke,builtin,Sem.run_bind,Sem.run_pure,Result.andThen_ok,ea,eT,List.map_toArray,zv,zck,vx,vy,hrun]
 have D3:=hTk.deepOf rfl rfl
 have hstep:Step X S S w w':=by
  have hcells:∀b o,S b o->w'.cell? ⟨b,o,none⟩=w.cell? ⟨b,o,none⟩:=fun b o hb=>hM'.keep b o (hS2 b o (hS1 b o hb))
  exact⟨hM'.upd,hcells,fun _ _ h=>h,fun _ _ h=>.inl h,fun b o hb=>zbi (hM.lt b o hb) hM'.size⟩
 have hMs:=(hM.drop (tok':=spend (lookT s.T) [t,n]) (fun t ht=>spend_used ht) (fun t tk h=>(spend_live h).2)).step hstep
  (fun k hk=>by rw[hX]at hk;rcases hk with hk|hk;exact(ok1.1 k hk).1;exact(ok2.1 k hk).1)
  (fun k b hk hb=>by rw[hX]at hb;rcases hb with hb|hb;exact hM.tbox t tk k b htk hk hb;exact hM.tbox n _ k b htk2 hk hb)
  (fun t' tk' ht' k hk hb=>by
   obtain⟨g1,g2⟩:=spend_live ht'
   rw[hX]at hb
   rcases hb with hb|hb
   .exact g1 (by rw[hM.tdis t' t tk' tk k g2 htk hk hb];simp)
   .exact g1 (by rw[hM.tdis t' n tk' _ k g2 htk2 hk hb];simp))
 have hnew:∀b,w.heap.size<=b->R.fr b:=fun b hb=>.inl (zau hM.size hb)
 have hTT:TokOk R.fr w' S ⟨tk.t,tk.xs++xs2,e',true,true,some []⟩ v' (fun b=>(F t b\/F n b\/w.heap.size<=b)/\b<w'.heap.size):=by
  have:=TokOk.ofDeep (Fr:=R.fr) (S:=S) D3 (fun b hb=>⟨by rcases hb.1 with h|h|h;exact(ok1.1 b h).1;exact(ok2.1 b h).1;exact hnew b h,hb.2⟩) (fun b hb o hS=>by
   rcases hb.1 with h|h|h
   .exact ok1.noS etr b h o hS
   .exact ok2.noS rfl b h o hS
   .have:=hM.lt b o hS;omega) e'
  rw[hfl]at this
  exact this
 refine wp_value hr (hK _ _ (rel_newTok (s:=s) [t,n] hMs hn hdf hsl (fun live tok' live' β' τ'=>⟨fun _ _ h=>h,hstep.cell⟩) d hd (hR0.tn hres) ⟨tk.t,tk.xs++xs2,e',true,true,some []⟩ v' _ hTT rfl (fun t' tk' b htl ht hb hF=>?_) (fun k b hk hb=>?_) o.dst (fun hin=>?_) _ rfl))
 .rcases hb.1 with h|h|h
  .exact htl (by rw[hM.tdis t' t tk' tk b ht htk hF h];simp)
  .exact htl (by rw[hM.tdis t' n tk' _ b ht htk2 hF h];simp)
  .have:=((hM.toks t' tk' ht).1 b hF).2;omega
 .rcases hb.1 with h|h|h
  .exact hM.tbox t tk k b htk hk h
  .exact hM.tbox n _ k b htk2 hk h
  .have:=hM.blt hk;omega
 .simp only [zp,List.not_mem_nil,or_false]at hin
  rcases hin with rfl|rfl
  .rw [htk]at hd;cases hd
  .rw [htk2]at hd;cases hd
theorem zeroDeep_mem {y:AV}:∀ {l:List AV},zeroDeep l=true->y∈l->zeroDeep [y]=true
 | [],_,h=>by cases h
 |x::l,hz,h=>by
  have key:zeroDeep [x]=true/\zeroDeep l=true:=by
   cases x with
   |pv t y=>simp only[zeroDeep,zj,and_true]at hz⊢;exact hz
   |nils=>simp only[zeroDeep]at hz⊢;exact⟨trivial,hz⟩
   |_=>cases hz
  rcases zp.1 h with rfl|h
  .exact key.1
  .exact zeroDeep_mem key.2 h
theorem sim_buildTree (hE:EnvOk E) (T:TypeId) (len:Nat) (parts:Array (Nat×Operand)) (ho:o.op= .buildSlice T len parts) (d:Nat) (ty:Ty) (e':TypeId) (r:Tp) (by':Nat) (cs:List AV) (xs:List r.D)
  (hdst:o.dst=some d) (hty:E.ty T=some ty) (he:ty.elem=some (e',r,by')) (hcs:partCells r.w 0 (parts.toList.map fun q=>(q.1,s.ev q.2))=some cs) (hxs:mkRows r len cs=some xs) (hlen:len=parts.toList.length) (hsmall:len*r.w<=16777216) (hzd:zeroDeep cs=true)
  (h:(newTree E d r xs e' []).R s [] [] e fp):Sim E o s e:=by
 have hT:=hE.ty T ty hty
 obtain⟨hd,_,hres,hwr,hfl,rfl⟩:=newTree_R h
 rintro R a w hR0 ⟨β,τ,F,S,hM,hn,hdf,hsl⟩ K Q hK
 have hev:=V3_ev hsl
 obtain⟨hu,hpos,ie,z,hie,hsz,hby,hz,hzs⟩:=hT.elem _ _ _ he
 obtain⟨p1,p2,p3,p4⟩:=partCells_spec hev r.w parts.toList 0 cs hcs
 obtain⟨hxl,hxt⟩:=mkRows_ty r len cs xs hxs
 obtain⟨vals,hvals⟩:∃vals,vals=parts.toList.map fun q=>a.eval q.2:=⟨_,rfl⟩
 have hvl:vals.length=len:=by rw[hvals,hlen];simp
 have hrun0:=run_lit (P:=E.P) w T e' (parts.toList.map fun q=>(q.1,a.eval q.2)) len r.w ie z hu hie hz hsz hzs hpos hsmall vals (by rw[p1,<-hvals]) hvl (by rw[hvals];exact p2)
 obtain⟨us,hus⟩:∃us,us=(vals.map fun v=>v.cells.toList).flatten:=⟨_,rfl⟩
 have hcu:All2 (V1c (s.ctx w S β τ)) cs us:=by
  rw[hus,hvals,List.map_map];exact p3
 have hul:us.length=len*r.w:=by rw[<-hcu.len,p4,<-hlen]
 rw[<-hus]at hrun0
 have hrun:(execOp a.eval o).run E.P w= .ok (.value (.slice (some ⟨w.heap.size,0,none⟩) len len)) (w.alloc (.cells us.toArray e')):=by
  have ep:(parts.map fun(i,x)=>(i,a.eval x))=(parts.toList.map fun q=>(q.1,a.eval q.2)).toArray:=by apply Array.ext';simp
  simp only[execOp,ho,Sem.run_bind,ep,hrun0,Result.andThen_ok,Sem.run_pure]
 obtain⟨w',hw'⟩:∃w',w'=w.alloc (.cells us.toArray e'):=⟨_,rfl⟩
 rw[<-hw']at hrun
 have hb:Below w.heap.size w w':=by rw[hw'];exact(Below.refl _ _).alloc (zae _) _
 have hnew:w'.heap[w.heap.size]? =some (.cells us.toArray e' (0,0)):=by rw[hw'];exact heap_alloc_new w _
 have hsz':w'.heap.size=w.heap.size+1:=by rw[hw'];simp
 have hM1:=(hM.drop (tok':=spend (lookT s.T) []) (fun t ht=>spend_used ht) (fun t tk h=>(spend_live h).2)).grow hb (fun _ _ h=>h) (fun _ _ h=>.inl h) (fun b q hq=>by have:=hM.lt b q hq;omega)
 have hlm:len<=maxLen:=by
  have:len<=len*r.w:=Nat.le_mul_of_pos_right _ hpos
  simp only[maxLen];omega
 have hrow':∀(i j:Nat) (x:r.D) (c:AV),xs[i]? =some x->(cellsOf r x)[j]? =some c->∃u,us[i*r.w+j]? =some u/\Deep w' (fun _=>False) u c:=fun i j x c hx hc=>by
  have hj:j<r.w:=cells_lt hc
  have ha:=hxt i x hx
  have hal:=ha.len
  rw[cells_len]at hal
  obtain⟨y,hy⟩:∃y,((cs.drop (i*r.w)).take r.w)[j]? =some y:=⟨_,zc (by rw[hal];exact hj)⟩
  have hyc:=ha.get' j y c hy hc
  rw[zaH,zf hj,zaL]at hy
  obtain⟨u,hu1,hu2⟩:=hcu.get _ _ hy
  exact⟨u,hu1,(zero_deep [y] [c] [u] (zeroDeep_mem hzd (zak hy)) ⟨hyc,True.intro⟩ ⟨hu2,True.intro⟩).1⟩
 have hD:Deep w' (fun b=>b=w.heap.size) (.slice (some ⟨w.heap.size,0,none⟩) len len) (.pv (.sl r) xs):=by
  have:=Deep.sl (w:=w') (fun b=>b=w.heap.size) len r xs (fun i j=>(us[i*r.w+j]?).getD undef) w.heap.size (fun _ _ _=>False) us.toArray e' rfl hnew (by simpa using hul) (by rw[hxl];exact zae _) hlm
   (fun i j x c hx hc=>?_) (fun _ _ _ h=>h.elim) (fun _ _ _ _ _ h=>h.elim) (fun i j x c hx hc=>?_)
  .rwa [hxl]at this
  .obtain ⟨u,h1,_⟩:=hrow' i j x c hx hc
   simp only[List.getElem?_toArray,h1,za8]
  .obtain ⟨u,h1,h2⟩:=hrow' i j x c hx hc
   simp only[h1,za8]
   exact h2
 have hTk:TokOk R.fr w' S ⟨r,xs,e',true,true,some []⟩ (.slice (some ⟨w.heap.size,0,none⟩) len len) (fun b=>b=w.heap.size):=by
  have:=TokOk.ofDeep (Fr:=R.fr) (S:=S) hD (fun b hb=>by subst hb;exact⟨.inl hM.size,by omega⟩) (fun b hb o hS=>by subst hb;have:=hM.lt _ o hS;omega) e'
  rw[hfl]at this
  exact this
 exact wp_value hrun (hK _ _ (rel_newTok (s:=s) [] hM1 hn hdf hsl (fun _ _ _ _ _=>⟨fun _ _ h=>h,fun b q hq=>(bcell hb).1 b q (hM.lt b q hq)⟩) d hd (hR0.tn hres) ⟨r,xs,e',true,true,some []⟩ _ _ hTk rfl
  (fun t tk' b htl ht hb' hF=>by have:=((hM.toks t tk' ht).1 _ hF).2;omega) (fun k b hk hb'=>by have:=hM.blt hk;omega) o.dst (by simp) _ rfl))
theorem Mem.thaw {R:Root} {w:World} {S:Stab} {box:Nat->Option BS} {tok:Nat->Option TS} {β:Nat->Nat} {τ:Nat->Value} {F:Nat->Nat->Prop} (hM:Mem R box tok β τ F S w) (n:Nat) (tk:Tok) (htk:tok n=some (.live tk)) (htr:tk.tr=some []):
  ∃S',Mem R box (updT tok n (some (.live tk.thaw))) β τ F S' w/\(∀b o,S b o->S' b o):=by
 have hk:=hM.toks n tk htk
 have hns:=hk.noS htr
 obtain⟨hw,_⟩:=hk.tree htr
 obtain⟨hF,hk1,hon⟩:=hk
 obtain⟨S',hS'⟩:∃S':Stab,S'=fun b o=>S b o\/(F n b/\∀l cap,τ n≠ .slice (some ⟨b,0,none⟩) l cap):=⟨_,rfl⟩
 have hSo:∀b o,S b o->S' b o:=fun b o h=>by rw[hS'];exact .inl h
 have hstep:Step (fun b=>F n b) S S' w w:=⟨Upd.refl _ _,fun _ _ _=>rfl,hSo,fun b o h=>by
  rw[hS']at h
  rcases h with h|h
  .exact .inl h
  .exact .inr (.inr h.1),fun b o h=>by
  rw[hS']at h
  rcases h with h|h
  .exact hM.lt b o h
  .exact (hF b h.1).2⟩
 have hTk:TokOk R.fr w S' tk.thaw (τ n) (F n):=by
  refine⟨hF,?_,(fun h=>by cases h)⟩
  rcases hk1 with⟨e1,e2⟩|⟨b,cap,vs,T,e1,h1,hg,hz,hn,hm,hst,hwr,hc⟩
  .exact .inl ⟨e1,e2⟩
  .refine .inr ⟨b,cap,vs,T,e1,h1,hg,hz,hn,hm,(fun h=>by have h:tk.wr=false:=h;rw[hw]at h;cases h),fun _ o ho=>?_,fun i j x p hx hp=>?_⟩
   .rw [hS']at ho
    rcases ho with ho|ho
    .exact hns b h1 o ho
    .exact ho.2 _ _ e1
   .obtain ⟨u,k1,_⟩:=hc i j x p hx hp
    have hj:j<tk.t.w:=by have:=(zh.1 hp).1;rwa[enc_len]at this
    refine⟨u,k1,fun _=>?_,fun h=>by have h:tk.wr=false:=h;rw[hw]at h;cases h⟩
    unfold Once at hon
    rw[htr]at hon
    obtain⟨_,_,hFS,hT⟩:=hon
    rcases hT with hT|⟨b',cap',q,e',hq,hd,hcc⟩
    .rw [hT]at e1;cases e1
    .rw [e']at e1;cases e1
     obtain⟨c,hc'⟩:=cells_at (r:=tk.t) x hj
     obtain⟨u',g1,g2,g3⟩:=hcc i j x c hx hc'
     rw[cell_of_row w b _ vs T (0,0) hg]at g1
     have k1:vs[i*tk.t.w+j]? =some u:=k1
     rw[k1]at g1
     cases g1
     obtain⟨t0,x0,p0,h4,h5,h6⟩:=(g3 (Inn.nil _ _)).rep (S:=S') (fun k o hk=>by
      rw[hS']
      refine .inr ⟨(hq i j k hk).1,fun l cap' e2=>?_⟩
      rw[e']at e2;cases e2
      exact absurd rfl (hq i j b hk).2)
     obtain⟨t1,x1,h7,h8⟩:=(cells_enc tk.t x).get' j c p hc' hp
     rw[h7]at h4;cases h4
     rw[h8]at h5;cases h5
     exact h6
 exact⟨S',hM.setTok n tk tk.thaw htk _ hstep (fun _ h=>h) hTk rfl (fun h=>by rw[hw]at h;cases h) rfl,hSo⟩
theorem sim_thaw (y:AV) (k:Nat) (hs:Sim E o s ⟨y,[],[]⟩) (h:(thawRD y).R s [k] [] e fp):Sim E o s e:=by
 unfold thawRD at h
 split at h
 case h_2=>exact h.elim
 rename_i n
 simp only[RD.R]at h
 split at h
 case h_2=>exact h.elim
 rename_i tk htk
 split at h
 case isFalse=>exact h.elim
 rename_i htr
 obtain⟨rfl,_⟩:=h
 intro R a w hR0 hrel K Q hK
 refine hs R a w hR0 hrel K Q fun a' w' h1=>hK a' w' ?_
 obtain⟨β,τ,F,S,hM,hn,hdf,hv⟩:=h1
 have eT:lookT (s.app o.dst ⟨.mtk n,[],[(n,some (.live tk.thaw))]⟩).T=updT (lookT (s.app o.dst ⟨.mtk n,[],[]⟩).T) n (some (.live tk.thaw)):=by
  rw[app_T,app_T];rfl
 have eL:(s.app o.dst ⟨.mtk n,[],[(n,some (.live tk.thaw))]⟩).L=(s.app o.dst ⟨.mtk n,[],[]⟩).L:=by cases o.dst<;>rfl
 have eB:(s.app o.dst ⟨.mtk n,[],[(n,some (.live tk.thaw))]⟩).B=(s.app o.dst ⟨.mtk n,[],[]⟩).B:=by cases o.dst<;>rfl
 have htk':lookT (s.app o.dst ⟨.mtk n,[],[]⟩).T n=some (.live tk):=by rw[app_T];exact htk
 obtain⟨hw,_⟩:=(hM.toks n tk htk').tree htr
 obtain⟨S',hM',hSo⟩:=hM.thaw n tk htk' htr
 refine⟨β,τ,F,S',by rw[eB,eT];exact hM',by rw[eL];exact hn,hdf,fun i=>?_⟩
 rw[eL]
 unfold LSt.ctx
 rw[eB,eT]
 exact V3.mono (c:=(s.app o.dst ⟨.mtk n,[],[]⟩).ctx w' S β τ) (c':=⟨w',S',fun k=>lookB (s.app o.dst ⟨.mtk n,[],[]⟩).B k≠none,β,updT (lookT (s.app o.dst ⟨.mtk n,[],[]⟩).T) n (some (.live tk.thaw)),τ⟩) ⟨hSo,fun _ _ _=>rfl⟩ (BoxLe.refl rfl rfl) (fun t ht=>by
  by_cases e:t=n
  .subst e
   refine⟨by simp[updT],fun tk' h=>?_⟩
   simp only[updT,if_true,zaE,TS.live.injEq]at h
   subst h
   exact⟨tk,htk',rfl,rfl,fun h=>by rw[hw]at h;cases h⟩
  .refine ⟨by simp only[updT,zu e];exact ht,fun tk' h=>?_⟩
   simp only[updT,zu e]at h
   exact⟨tk',h,rfl,rfl,fun h=>⟨h,rfl⟩⟩) (hv i)
theorem sim_field (hE:EnvOk E) (T:TypeId) (x:Operand) (f:Nat) (ho:o.op= .field T x f) (h:(opRD E o.op o.dst s.ev).R s [] [] e fp):Sim E o s e:=by
 rw[ho]at h
 simp only[opRD]at h
 split at h
 case h_2=>exact h.elim
 rename_i ty hty
 split at h
 case h_2=>exact h.elim
 rename_i ft off hf
 split at h
 case h_2=>exact h.elim
 rename_i tf htf
 split at h
 case h_2=>exact h.elim
 rename_i cs hx
 obtain⟨fields,hu,hfs⟩:=(hE.ty T ty hty).fts (by intro e;rw[e]at hf;cases hf)
 obtain⟨fd,hfd,e1,e2⟩:∃fd,fields[f]? =some fd/\fd.type=ft/\fd.offset=off:=by
  have:(fields.toList.map fun f=>(f.type,f.offset))[f]? =some (ft,off):=by rw[hfs];exact hf
  rw[zaF]at this
  obtain⟨fd,h1,h2⟩:=zaA.1 this
  cases h2
  exact⟨fd,by simpa using h1,rfl,rfl⟩
 subst e1
 subst e2
 obtain⟨dd,hdd,hagg⟩:=(hE.ty _ tf htf).desc
 obtain⟨inf,z,hi,hsz,_⟩:=(hE.ty _ tf htf).info
 have key:∀y,((tf.agg=true/\fd.offset+tf.size<=cs.length/\y= .agg ((cs.drop fd.offset).take tf.size))\/(tf.agg=false/\cs[fd.offset]? =some y))->Sim E o s ⟨y,[],[]⟩:=fun y hy=>sim_val fun c a w hw hev=>by
  have h1:=hev x
  rw[hx]at h1
  obtain⟨vs,ev,ha⟩:=h1
  rcases hy with⟨g1,g2,rfl⟩|⟨g1,g2⟩
  .refine ⟨.agg ((vs.drop fd.offset).take tf.size).toArray,?_,⟨_,rfl,(ha.drop _).take _⟩⟩
   have ex:(vs.toArray.extract fd.offset (fd.offset+tf.size))=((vs.drop fd.offset).take tf.size).toArray:=by
    apply Array.ext'
    simp[List.extract_eq_take_drop]
   simp[execOp,ho,Instr.field,run_underlying hu,hfd,ev,asAgg,Go.part,isAgg_run hdd,hagg,g1,sizeOf,typeInfo,hi,hsz,ex]
  .obtain ⟨v,hv,hcv⟩:=ha.get _ y g2
   refine⟨v,?_,V3_of_V1 hcv.1⟩
   have hv':vs.toArray[fd.offset]? =some v:=by simpa using hv
   simp[execOp,ho,Instr.field,run_underlying hu,hfd,ev,asAgg,Go.part,isAgg_run hdd,hagg,g1,hv]
 split at h
 .rename_i hg
  split at h
  .cases val_R h;exact key _ (.inl ⟨hg, ‹_›,rfl⟩)
  .exact h.elim
 .rename_i hg
  split at h
  .rename_i y hy
   cases val_R h;exact key _ (.inr ⟨by simpa using hg,hy⟩)
  .exact h.elim
end
section
variable {E : Env} {o : Oper} {s : LSt} {e : Eff} {fp : FP}
theorem sim_root {x:AV} (h:∀R β τ F S (a:Act) w,ROk E R->Mem R (lookB s.B) (lookT s.T) β τ F S w->(∀y,V3 (s.ctx w S β τ) (s.ev y) (a.eval y))->∃v,(execOp a.eval o).run E.P w= .ok (.value v) w/\V3 (s.ctx w S β τ) x v):Sim E o s ⟨x,[],[]⟩:=by
 rintro R a w hR0 ⟨β,τ,F,S,hM,hn,hd,hs⟩ K Q hK
 obtain⟨v,hr,hv⟩:=h R β τ F S a w hR0 hM (V3_ev hs)
 exact wp_value hr (hK _ _ (rel_put (e:=⟨x,[],[]⟩) hM hn hd hs o.dst (.inr hv)))
theorem sim_gload (hE:EnvOk E) (T:TypeId) (x:Operand) (ho:o.op= .load T x) (ty:Ty) (g:Nat) (hty:E.ty T=some ty) (hx:x= .global g) (h:(gloadRD ty g).R s [] [] e fp):Sim E o s e:=by
 have hT:=hE.ty T ty hty
 subst hx
 unfold gloadRD at h
 split at h
 .rename_i t y hg
  obtain⟨z,rfl⟩:∃z,e=⟨z,[],[]⟩:=by
   split at h
   .split at h
    .exact ⟨_,val_R h⟩
    .exact h.elim
   .split at h
    .exact ⟨_,val_R h⟩
    .exact h.elim
  refine sim_root fun R β τ F S a w hR0 hM hev=>?_
  have hc:CellsAt w S g 0 (enc t y):=hR0.2.2.later (X':=fun _=>False) hM (fun _ _ h=>h) (fun _ h=>h.elim) g _ hg
  obtain⟨z',e1,v,h2,h3⟩:=load_row (c:=s.ctx w S β τ) T (.global g) ho ty hT a w rfl g 0 t y 0 rfl (fun j p hp=>(hc j p hp).2) h
  cases e1
  exact⟨v,h2,h3⟩
 .rename_i kt vt agg es hg
  split at h
  .exact h.elim
  rename_i hagg
  cases val_R h
  refine sim_root fun R β τ F S a w hR0 hM hev=>?_
  obtain⟨h1,b,ents,clk,es',h2,h3,h4,h5⟩:=hR0.2.2.later (X':=fun _=>False) hM (fun _ _ h=>h) (fun _ h=>h.elim) g _ hg
  exact⟨_,load_one T (.global g) ho ty hT (by simpa using hagg) a w _ rfl _ h2,h1,h2,rfl⟩
 .exact h.elim
theorem rowV_v2 (c:Ctx) {agg:Bool} {t:Tp} (ht:t.flatB=true) (hw:agg=false->t.w=1) (y:t.D):V2 c (rowAV agg t y) (rowV agg t y):=by
 have lits:∀(t:Tp) (y:t.D),t.flatB=true->∀p,p∈enc t y->p.isLit=true:=by
  intro t
  induction t with
  |bool=>intro y _ p hp;simp[enc]at hp;subst hp;rfl
  |int k=>intro y _ p hp;simp[enc]at hp;subst hp;rfl
  |str=>intro y _ p hp;simp[enc]at hp;subst hp;rfl
  |unit=>intro y _ p hp;simp[enc]at hp
  |pair a b iha ihb=>
   intro y h p hp
   simp only[Tp.flatB,zj]at h
   rcases zaB.1 hp with hp|hp
   .exact iha _ h.1 p hp
   .exact ihb _ h.2 p hp
  |sl r=>intro y h;cases h
  |opt r=>intro y h;cases h
  |q=>intro y h;cases h
 cases agg with
 |true=>
  refine⟨(enc t y).map litOf,rfl,?_⟩
  have h1:=cells_enc t y
  have h2:=lits t y ht
  refine All2.of_get (by rw[h1.len,zar]) (fun i a b ha hb=>?_)
  rw[zaF]at hb
  obtain⟨p,hp,rfl⟩:=zaA.1 hb
  obtain⟨t',x',rfl,he⟩:=h1.get' i a p ha hp
  have hl:=h2 p (zak hp)
  exact⟨⟨p,he,Rep.ofLit hl⟩,(Rep.ofLit (w:=c.w) (S:=c.S) hl).one⟩
 |false=>
  have hl:(enc t y).length=1:=by rw[enc_len];exact hw rfl
  obtain⟨p,hp⟩:∃p,enc t y=[p]:=by
   match enc t y,hl with
   | [p],_=>exact⟨p,rfl⟩
  have e:rowV false t y=litOf p:=by show litV t y=_;unfold litV;rw[hp]
  rw[e]
  exact⟨p,hp,Rep.ofLit (lits t y ht p (by rw[hp];simp))⟩
theorem findNow_row {kt:Tp} {d:TypeDesc} (hd:∀x y:kt.D,Instr.sameNow d (litV kt x) (litV kt y)=some (kt.eqB x y)) {vt:Tp} (agg:Bool) (x:kt.D):∀(ents:List MapEntry) (es:List (kt.D×vt.D)) (i:Nat),ents.map (fun e=>(e.key,e.val))=es.map (fun x=>(litV kt x.1,rowV agg vt x.2))->
  Instr.findNow d (litV kt x) ents i=some ((mfind kt vt x es i).map fun p=>(p.1,rowV agg vt p.2))
 | [],[],i,_=>rfl
 | [],_::_,i,h=>by cases h
 |_::_,[],i,h=>by cases h
 |e::ents,y::es,i,h=>by
  simp only[zv,List.cons.injEq,Prod.mk.injEq]at h
  obtain⟨⟨h1,h2⟩,h3⟩:=h
  unfold mfind
  simp only[Instr.findNow,h1,hd]
  cases hq:kt.eqB x y.1 with
  |true=>simp[h2]
  |false=>
   simp only[ze]
   exact findNow_row hd agg x ents es (i+1) h3
theorem gmapOf_eq {x:AV} {g:Nat} (h:gmapOf x=some g):x= .gmap g:=by cases x<;>first|(cases h;rfl)|cases h
theorem sim_glookup (hE:EnvOk E) (T:TypeId) (x i:Operand) (ok:Bool) (ho:o.op= .lookup T x i ok) (g:Nat) (hx:s.ev x= .gmap g) (h:(glookRD E T g (s.ev i) ok).R s [] [] e fp):Sim E o s e:=by
 unfold glookRD at h
 split at h
 case h_2=>exact h.elim
 rename_i ty hty
 split at h
 case h_2=>exact h.elim
 rename_i K V kt vt agg hgm
 split at h
 case h_2=>exact h.elim
 rename_i kt' vt' agg' es hg
 split at h
 case isFalse=>exact h.elim
 rename_i hcast
 obtain⟨rfl,rfl,rfl⟩:=hcast
 obtain⟨key,hkey,z,hz,h⟩:=h
 simp only at h
 obtain⟨hu,hK,hfl,hw1,iV,z',hi,hz',hzero⟩:=(hE.ty T ty hty).gm K V _ _ _ hgm
 rw[hz]at hz';cases hz'
 obtain⟨d,hd,hisk,hsame⟩:=sameNow_key hK
 obtain⟨zk,hzk⟩:=lit_key hK
 have run:∀R β τ F S (a:Act) w,ROk E R->Mem R (lookB s.B) (lookT s.T) β τ F S w->(∀y,V3 (s.ctx w S β τ) (s.ev y) (a.eval y))->(Instr.lookup T (a.eval x) (a.eval i) ok).run E.P w= .ok (if ok then .tuple #[rowV agg' vt' ((mget kt' vt' es key).getD z),.bool (mget kt' vt' es key).isSome]else rowV agg' vt' ((mget kt' vt' es key).getD z)) w:=fun R β τ F S a w hR0 hM hev=>by
  have h1:=hev x
  rw[hx]at h1
  obtain⟨g1,b,ents,clk,es',g2,g3,⟨g4,_,g6⟩,g5⟩:=hR0.2.2.later (X':=fun _=>False) hM (fun _ _ h=>h) (fun _ h=>h.elim) g _ hg
  have hp:a.eval x= .map (some b):=by
   have:=h1.2.1
   rw[show(s.ctx w S β τ).w=w from rfl,g2]at this
   exact(Option.some.inj this).symm
  have hkv:a.eval i=litV kt' key:=(lit_as hkey (hev i) hzk).1
  have hf:=MapKept.run_findKey (w:=w) hd (findNow_row hsame agg' key ents.toList es' 0 g4)
  have hc:=MapKept.run_checkKey (w:=w) hd (hisk key) ents.isEmpty 9999
  rw[<-g6 key,mfind_get kt' vt' key es' 0]
  cases hm:mfind kt' vt' key es' 0 with
  |none=>
   rw[hm]at hf
   cases ok<;>simp[Instr.lookup,run_underlying hu,hp,hkv,MapKept.run_getObj_map g3,hc,hf,zeroValue,typeInfo,hi,hzero]
  |some p=>
   rw[hm]at hf
   cases ok<;>simp[Instr.lookup,run_underlying hu,hp,hkv,MapKept.run_getObj_map g3,hc,hf]
 cases ok with
 |true=>
  cases val_R h
  refine sim_root fun R β τ F S a w hR0 hM hev=>⟨.tuple #[rowV agg' vt' ((mget kt' vt' es key).getD z),.bool (mget kt' vt' es key).isSome],?_,?_⟩
  .have:=run R β τ F S a w hR0 hM hev
   simp[execOp,ho,this]
  .exact ⟨[rowV agg' vt' ((mget kt' vt' es key).getD z),.bool (mget kt' vt' es key).isSome],rfl,rowV_v2 _ hfl hw1 _,mk_bool _ _,True.intro⟩
 |false=>
  cases val_R h
  refine sim_root fun R β τ F S a w hR0 hM hev=>⟨rowV agg' vt' ((mget kt' vt' es key).getD z),?_,V3_of_V2 (rowV_v2 _ hfl hw1 _)⟩
  have:=run R β τ F S a w hR0 hM hev
  simp[execOp,ho,this]
end
theorem forceL_eq {α ρ:Type _}:∀(l:List α) (K:List α->ρ),forceL l K=K l
 | [],K=>rfl
 |x::l,K=>by rw[forceL,forceL_eq l]
theorem tidy_eq {ρ:Type _} (s:LSt) (K:LSt->ρ):s.tidy K=K s:=by
 unfold LSt.tidy
 rw[forceL_eq,forceL_eq,forceL_eq]
def GhostOk (E:Env) (s s':LSt):Prop:=∀R a w,ROk E R->Rel R s a w->Rel R s' a w
theorem GhostOk.refl {E:Env} (s:LSt):GhostOk E s s:=fun _ _ _ _ h=>h
theorem GhostOk.trans {E:Env} {s s' s'':LSt} (h:GhostOk E s s') (k:GhostOk E s' s''):GhostOk E s s'':=fun R a w h0 hr=>k R a w h0 (h R a w h0 hr)
theorem ghost_out {E:Env} {s:LSt} {n i o d e:Nat} {tk:Tok} {hs:List (Nat×Nat×Nat)} (htk:lookT s.T n=some (.live tk)) (htr:tk.tr=some hs) (hfh:findHole o hs=none) (hkk:∀k,(k,gone,gone)∈hs->k<=i) {y:tk.t.D} (hy:tk.xs[i]? =some y) {r:Tp} {x:List r.D} (hc:(cellsOf tk.t y)[o]? =some (.pv (.sl r) x)) (hd:lookT s.T d=none) (hres:E.res d=false):
  GhostOk E s {s with T:=setT (setT s.T n (some (.live {tk with tr:=some ((i,o,d)::hs)}))) d (some (.live ⟨r,x,e,true,true,bif r.flatB then none else some []⟩))}:=by
 rintro R a w hR0 ⟨β,τ,F,S,hM,hn,hdf,hsl⟩
 obtain⟨b',l',cap',u,e4,e5,e6,F',hM',hle⟩:=hM.split n tk hs htk htr i o y hy r x hc ⟨findHole_none hfh i,hkk⟩ d hd (hR0.tn hres) e
 refine⟨β,fun t=>if t=d then u else τ t,F',S,by simp only[lookT_setT];exact hM',hn,hdf,?_⟩
 have:=lift3 (c:=s.ctx w S β τ) (c':=⟨w,S,fun k=>lookB s.B k≠none,β,updT (updT (lookT s.T) n (some (.live {tk with tr:=some ((i,o,d)::hs)}))) d (some (.live ⟨r,x,e,true,true,bif r.flatB then none else some []⟩)),fun t=>if t=d then u else τ t⟩) ⟨fun _ _ h=>h,fun _ _ _=>rfl⟩ (BoxLe.refl rfl rfl) hle hsl
 unfold LSt.ctx
 simp only[lookT_setT]
 exact this
theorem TokOk.setTr {Fr:Nat->Prop} {w:World} {S:Stab} {tk:Tok} {v:Value} {F:Nat->Prop} (h:TokOk Fr w S tk v F) {hs hs':List (Nat×Nat×Nat)} (htr:tk.tr=some hs) (hin:∀i j,Inn hs' i j->Inn hs i j):TokOk Fr w S {tk with tr:=some hs'} v F:=by
 obtain⟨h1,h2,h3⟩:=h
 refine⟨h1,?_,?_⟩
 .rcases h2 with h2|⟨b,cap,vs,T,e,hb,hg,hz,hn,hm,hst,hwr,hc⟩
  .exact .inl h2
  .exact .inr ⟨b,cap,vs,T,e,hb,hg,hz,hn,hm,hst,hwr,fun i j x p hx hp=>by
    obtain⟨u,k1,_,k3⟩:=hc i j x p hx hp
    exact⟨u,k1,(fun h=>by cases h),k3⟩⟩
 .unfold Once at h3⊢
  rw[htr]at h3
  obtain⟨g1,g2,g3,g4⟩:=h3
  refine⟨g1,g2,g3,?_⟩
  rcases g4 with g4|⟨b,cap,q,e,hq,hd,hc⟩
  .exact .inl g4
  .exact .inr ⟨b,cap,q,e,hq,hd,fun i j x c hx hc'=>by
    obtain⟨u,k1,k2,k3⟩:=hc i j x c hx hc'
    exact⟨u,k1,k2,fun hI=>k3 (hin i j hI)⟩⟩
theorem ghost_tr {E:Env} {s:LSt} {n:Nat} {tk:Tok} {hs hs':List (Nat×Nat×Nat)} (htk:lookT s.T n=some (.live tk)) (htr:tk.tr=some hs) (hin:∀i j,Inn hs' i j->Inn hs i j) (hg:∀i o d,(i,o,d)∈hs'->d=gone):GhostOk E s (setTr s n tk hs'):=by
 rintro R a w hR0 ⟨β,τ,F,S,hM,hn,hdf,hsl⟩
 obtain⟨hw,_⟩:=(hM.toks n tk htk).tree htr
 obtain⟨h1,h2⟩:=hM.turn n tk {tk with tr:=some hs'} htk [] (by simp) (fun _=>False) ⟨Upd.refl _ _,fun _ _ _=>rfl,fun _ _ h=>h,fun _ _ h=>.inl h,hM.lt⟩ (fun _ h=>h.elim) (F n) (fun b hb=>.inl hb) ((hM.toks n tk htk).setTr htr hin) rfl (fun h=>by rw[hw]at h;cases h) (fun hs1 i o d he hm hne=>by
  simp only[zaE]at he
  subst he
  exact absurd (hg i o d hm) hne)
 have e1:spend (lookT s.T) []=lookT s.T:=by funext t;simp[spend]
 rw[e1]at h1 h2
 unfold setTr
 refine⟨β,τ,_,S,by simp only[lookT_setT];exact h1,hn,hdf,?_⟩
 have:=lift3 (c:=s.ctx w S β τ) (c':=⟨w,S,fun k=>lookB s.B k≠none,β,updT (lookT s.T) n (some (.live {tk with tr:=some hs'})),τ⟩) ⟨fun _ _ h=>h,fun _ _ _=>rfl⟩ (BoxLe.refl rfl rfl) h2 hsl
 unfold LSt.ctx
 simp only[lookT_setT]
 exact this
theorem allAt_some {ρ:Type} {K:Option ρ} {z:ρ} {i:Nat}:∀hs:List (Nat×Nat×Nat),allAt hs i K=some z->(∀x,x∈hs->x.1=i)/\K=some z
 | [],h=>⟨(fun x hx=>by cases hx),h⟩
 |y::hs,h=>by
  unfold allAt at h
  split at h
  .rename_i e
   obtain⟨h1,h2⟩:=allAt_some hs h
   exact⟨fun x hx=>(zp.1 hx).elim (fun h=>h▸e) (h1 x),h2⟩
  .cases h
theorem okKo_some {ρ:Type} {K:Option ρ} {z:ρ} {i:Nat}:∀hs:List (Nat×Nat×Nat),okKo hs i K=some z->(∀k,(k,gone,gone)∈hs->k<=i)/\K=some z
 | [],h=>⟨(fun x hx=>by cases hx),h⟩
 |y::hs,h=>by
  unfold okKo at h
  cases hb:Nat.beq y.2.2 gone with
  |true=>
   rw[hb]at h
   simp only[zg]at h
   split at h
   .rename_i e
    obtain⟨h1,h2⟩:=okKo_some hs h
    refine⟨fun k hk=>?_,h2⟩
    rcases zp.1 hk with hk|hk
    .subst hk;exact e
    .exact h1 k hk
   .cases h
  |false=>
   rw[hb]at h
   obtain⟨h1,h2⟩:=okKo_some hs h
   refine⟨fun k hk=>?_,h2⟩
   rcases zp.1 hk with hk|hk
   .subst hk;rw[Nat.beq_refl]at hb;cases hb
   .exact h1 k hk
theorem ghost_thaw {E:Env} {s:LSt} {n:Nat} {tk:Tok} (htk:lookT s.T n=some (.live tk)) (htr:tk.tr=some []):GhostOk E s {s with T:=setT s.T n (some (.live tk.thaw))}:=by
 rintro R a w hR0 ⟨β,τ,F,S,hM,hn,hdf,hsl⟩
 obtain⟨hw,_⟩:=(hM.toks n tk htk).tree htr
 obtain⟨S',hM',hSo⟩:=hM.thaw n tk htk htr
 refine⟨β,τ,F,S',by simp only[lookT_setT];exact hM',hn,hdf,?_⟩
 have:=lift3 (c:=s.ctx w S β τ) (c':=⟨w,S',fun k=>lookB s.B k≠none,β,updT (lookT s.T) n (some (.live tk.thaw)),τ⟩) ⟨hSo,fun _ _ _=>rfl⟩ (BoxLe.refl rfl rfl) (fun t ht=>by
  by_cases e:t=n
  .subst e
   refine⟨by simp[updT],fun tk' hk=>?_⟩
   simp[updT]at hk
   subst hk
   exact⟨tk,htk,rfl,rfl,fun h=>by rw[hw]at h;cases h⟩
  .have e2:updT (lookT s.T) n (some (.live tk.thaw)) t=lookT s.T t:=by simp[updT,e]
   exact⟨by show updT _ _ _ t≠none;rw[e2];exact ht,fun tk' hk=>⟨tk',by show lookT s.T t=_;rw[<-e2];exact hk,rfl,rfl,fun h=>⟨h,rfl⟩⟩⟩) hsl
 unfold LSt.ctx
 simp only[lookT_setT]
 exact this
theorem outRun_rel {ρ:Type} {E:Env} {z:ρ}:∀(p:List (Nat×Nat×Nat×Nat)) (n i:Nat) (s:LSt) (K:LSt->Option ρ),outRun E p n i s K=some z->∃s',K s'=some z/\GhostOk E s s'
 | [],n,i,s,K,h=>⟨s,h,GhostOk.refl s⟩
 |(o,d,e,ix)::p,n,i,s,K,h=>by
  unfold outRun at h
  split at h
  case h_2=>cases h
  rename_i tk htk
  split at h
  case h_2=>cases h
  rename_i hs htr
  split at h
  .rename_i i' d' hfh
   split at h
   case isFalse=>cases h
   split at h
   .exact ⟨s,h,GhostOk.refl s⟩
   .split at h
    .exact outRun_rel _ _ _ s K h
    .cases h
  .rename_i hfh
   obtain⟨hkk,h⟩:=okKo_some _ h
   obtain⟨y,hy,h⟩:=zaw.1 h
   split at h
   case h_2=>cases h
   rename_i r x hc
   split at h
   case h_2=>cases h
   rename_i hd
   split at h
   .cases h
   rename_i hres
   have hg:=ghost_out (E:=E) (e:=e) htk htr hfh hkk hy hc hd hres
   split at h
   .exact ⟨_,h,hg⟩
   .split at h
    .obtain ⟨s',h1,h2⟩:=outRun_rel _ _ _ _ K h
     exact⟨s',h1,hg.trans h2⟩
    .cases h
theorem outsRun_rel {ρ:Type} {E:Env} {z:ρ}:∀(l:List (Nat×Nat×Nat)) (n i:Nat) (s:LSt) (K:LSt->Option ρ),outsRun E l n i s K=some z->∃s',K s'=some z/\GhostOk E s s'
 | [],n,i,s,K,h=>⟨s,h,GhostOk.refl s⟩
 |(o,d,e)::l,n,i,s,K,h=>by
  unfold outsRun at h
  obtain⟨s1,h1,h2⟩:=outRun_rel _ _ _ s _ h
  obtain⟨s2,h3,h4⟩:=outsRun_rel l n i s1 K h1
  exact⟨s2,h3,h2.trans h4⟩
theorem ghostRun_rel {ρ:Type} {E:Env} {z:ρ}:∀(gs:List Ghost) (s:LSt) {K:LSt->Option ρ},ghostRun E gs s K=some z->∃s',K s'=some z/\GhostOk E s s'
 | [],s,K,h=>⟨s,h,GhostOk.refl s⟩
 | .out sl p::gs,s,K,h=>by
  unfold ghostRun at h
  split at h
  case h_2=>cases h
  obtain⟨s1,h1,h2⟩:=outRun_rel _ _ _ s _ h
  obtain⟨s2,h3,h4⟩:=ghostRun_rel gs s1 h1
  exact⟨s2,h3,h2.trans h4⟩
 | .thaw k c::gs,s,K,h=>by
  unfold ghostRun at h
  split at h
  case h_2=>cases h
  split at h
  case h_2=>cases h
  split at h
  case h_2=>cases h
  rename_i tk htk
  split at h
  .rename_i htr
   obtain⟨s2,h3,h4⟩:=ghostRun_rel gs _ h
   exact⟨s2,h3,(ghost_thaw htk htr).trans h4⟩
  .cases h
  .exact ghostRun_rel gs s h
 | .opn k c::gs,s,K,h=>by
  unfold ghostRun at h
  split at h
  case h_2=>cases h
  split at h
  case h_2=>cases h
  split at h
  case h_2=>cases h
  rename_i tk htk
  split at h
  case h_2=>cases h
  rename_i htr
  obtain⟨s2,h3,h4⟩:=ghostRun_rel gs _ h
  exact⟨s2,h3,(ghost_tr htk htr (fun i j _=>Inn.nil i j) (fun i o d hm=>by simp at hm;exact hm.2.2)).trans h4⟩
 | .outs sl ix l::gs,s,K,h=>by
  unfold ghostRun at h
  split at h
  case h_2=>cases h
  split at h
  case h_2=>cases h
  obtain⟨s1,h1,h2⟩:=outsRun_rel _ _ _ s _ h
  obtain⟨s2,h3,h4⟩:=ghostRun_rel gs s1 h1
  exact⟨s2,h3,h2.trans h4⟩
 | .adv sl ix::gs,s,K,h=>by
  unfold ghostRun at h
  split at h
  case h_2=>cases h
  split at h
  case h_2=>cases h
  rename_i i _
  split at h
  case h_2=>cases h
  rename_i tk htk
  split at h
  case h_2=>cases h
  rename_i hs htr
  obtain⟨h1,h⟩:=allAt_some _ h
  obtain⟨s2,h3,h4⟩:=ghostRun_rel gs _ h
  refine⟨s2,h3,(ghost_tr htk htr (fun a j hI=>?_) (fun i o d hm=>by simp at hm;exact hm.2.2)).trans h4⟩
  have ha:i+1<=a:=hI.2 _ zy
  refine⟨fun d hm=>?_,fun k hm=>?_⟩
  .have:a=i:=h1 _ hm
   omega
  .have:k=i:=h1 _ hm
   omega
theorem v3_sub {c:Ctx} {v:Value} {n l k:Nat} (h:V3 c (.sub n l k) v):v.oneCell'=true/\c.tok n≠none/\∀tk,c.tok n=some (.live tk)->∃ad len cap,c.τ n= .slice ad len cap/\l<=k/\k<=len/\len<=cap/\v= .slice (cutAddr ad cap l tk.t.w) (k-l) (cap-l):=h
theorem TokOk.flat {Fr:Nat->Prop} {w:World} {S:Stab} {t:Tp} {ys:List t.D} {e:TypeId} {deep:Bool} {F:Nat->Prop} {b cap:Nat} {vs:Array Value} {T:TypeId} (fl:t.flatB=true) (hF:∀b,F b->Fr b/\b<w.heap.size) (hFb:F b) (hg:w.heap[b]? =some (.cells vs T (0,0))) (hz:vs.size=cap*t.w) (hl:ys.length<=cap) (hm:cap<=maxLen) (hS:∀o,¬S b o)
  (hc:∀(i j:Nat) (x:t.D) (p:PV),ys[i]? =some x->(enc t x)[j]? =some p->vs[i*t.w+j]? =some (litOf p)):TokOk Fr w S ⟨t,ys,e,true,deep,none⟩ (.slice (some ⟨b,0,none⟩) ys.length cap) F:=by
 have hrep:∀(i j:Nat) (x:t.D) (p:PV),ys[i]? =some x->(enc t x)[j]? =some p->Rep w S (litOf p) p:=fun i j x p _ hp=>Rep.ofLit (flat_isLit t x fl p (zak hp))
 refine⟨hF,.inr ⟨b,cap,vs,T,rfl,hFb,hg,hz,hl,hm,(fun h=>by cases h),fun _=>hS,fun i j x p hx hp=>⟨_,hc i j x p hx hp,fun _=>hrep i j x p hx hp,fun h=>by cases h⟩⟩,?_⟩
 show(deep=true->Deep w F _ (.pv (.sl t) ys))
 intro _
 have hu:∀(i j:Nat) (x:t.D) (c:AV),ys[i]? =some x->(cellsOf t x)[j]? =some c->∃p,(enc t x)[j]? =some p/\vs[i*t.w+j]? =some (litOf p):=fun i j x c hx hcc=>by
  obtain⟨p,hp⟩:∃p,(enc t x)[j]? =some p:=⟨_,zc (by rw[enc_len];exact cells_lt hcc)⟩
  exact⟨p,hp,hc i j x p hx hp⟩
 refine .sl _ cap t ys (fun i j=>(vs[i*t.w+j]?).getD undef) b (fun _ _ _=>False) vs T hFb hg hz hl hm (fun i j x c hx hcc=>?_) (fun _ _ _ h=>h.elim) (fun _ _ _ _ _ h=>h.elim) (fun i j x c hx hcc=>?_)
 .obtain ⟨p,_,k1⟩:=hu i j x c hx hcc
  rw[k1];rfl
 .obtain ⟨p,hp,k1⟩:=hu i j x c hx hcc
  simp only[k1,za8]
  exact .leaf (S:=S) fl hcc (fun p' hp'=>by rw[hp]at hp';cases hp';exact hrep i j x p hx hp)
theorem TokOk.lits {Fr:Nat->Prop} {w:World} {S:Stab} {tk:Tok} {v:Value} {F:Nat->Prop} (h:TokOk Fr w S tk v F) (fl:tk.t.flatB=true) (hw:tk.wr=true) (ht:tk.tr=none) (hne:tk.xs≠ []):∃b cap vs T,v= .slice (some ⟨b,0,none⟩) tk.xs.length cap/\F b/\w.heap[b]? =some (.cells vs T (0,0))/\vs.size=cap*tk.t.w/\tk.xs.length<=cap/\cap<=maxLen/\(∀o,¬S b o)/\
  ∀(i j:Nat) (x:tk.t.D) (p:PV),tk.xs[i]? =some x->(enc tk.t x)[j]? =some p->vs[i*tk.t.w+j]? =some (litOf p):=by
 rcases h.2.1 with⟨_,h2⟩|⟨b,cap,vs,T,e1,hFb,hg,hz,hnc,hm,hst,hwS,hcon⟩
 .exact absurd h2 hne
 .refine ⟨b,cap,vs,T,e1,hFb,hg,hz,hnc,hm,hwS hw,fun i j x p hx hp=>?_⟩
  obtain⟨u,k1,k2,_⟩:=hcon i j x p hx hp
  rw[k1,rep_litV (k2 ht) (flat_isLit tk.t x fl p (zak hp))]
theorem enc_lt {t:Tp} {x:t.D} {j:Nat} {p:PV} (h:(enc t x)[j]? =some p):j<t.w:=by have:=(zh.1 h).1;rwa[enc_len]at this
section
variable {E : Env} {o : Oper} {s : LSt} {e : Eff} {fp : FP}
theorem sim_appendSub (hE:EnvOk E) (c:Call) (ho:o.op= .call c) (hc:c.callee= .builtin .append) (d:Nat) (x y:Operand) (T:TypeId) (ty:Ty) (e':TypeId) (r:Tp) (by' t k:Nat) (tk:Tok)
  (hdst:o.dst=some d) (hx:c.args.toList=[x,y]) (hT:c.argTypes.toList=[T,T]) (hty:E.ty T=some ty) (he:ty.elem=some (e',r,by')) (hxv:s.ev x= .sub t 0 k) (htk:lookT s.T t=some (.live tk)) (er:tk.t=r) (etr:tk.tr=none) (ewr:tk.wr=true) (fl:tk.t.flatB=true) (hwd:E.wr d=true)
  (h:(appendSub E d t k tk (s.ev y)).R s [] [t] e fp):Sim E o s e:=by
 subst er
 unfold appendSub at h
 split at h
 case h_2=>exact h.elim
 rename_i n lo hi hy
 split at h
 case isFalse=>exact h.elim
 rename_i hnt
 have hnt:n=t:=by simpa using hnt
 subst hnt
 obtain⟨hkl,h⟩:=h
 obtain⟨hd,hfr,hres,rfl⟩:=newTok_R h
 rw[hwd]
 rintro R a w hR0 ⟨β,τ,F,S,hM,hn,hdf,hsl⟩ K Q hK
 have hev:=V3_ev hsl
 obtain⟨hu,hpos,ie,z,hie,hsz,hby,hz,hzs⟩:=(hE.ty T ty hty).elem _ _ _ he
 have ea:c.args= #[x,y]:=by apply Array.ext';simpa using hx
 have eT:c.argTypes= #[T,T]:=by apply Array.ext';simpa using hT
 have h1:=hev x;rw[hxv]at h1
 have h2:=hev y;rw[hy]at h2
 obtain⟨ad,len,cap,ev,_,hk2,hlc,vx⟩:=(v3_sub h1).2.2 tk htk
 obtain⟨ad',len',cap',ev',hlh,hh2,_,vy⟩:=(v3_sub h2).2.2 tk htk
 rw[ev]at ev';cases ev'
 have hk:=hM.toks n tk htk
 rw[show(s.ctx w S β τ).τ n=τ n from rfl]at ev
 have hlen:len=tk.xs.length:=by
  rcases hk.2.1 with⟨e1,e2⟩|⟨b,cap2,vs,T',e1,_⟩
  .rw [e1]at ev;cases ev;rw[e2];rfl
  .rw [e1]at ev;cases ev;rfl
 subst hlen
 have hM1:=hM.drop (tok':=spend (lookT s.T) [n]) (fun t ht=>spend_used ht) (fun t tk h=>(spend_live h).2)
 have hdn:d∉ [n]:=fun hin=>by simp only[zaD]at hin;rw[hin,htk]at hd;cases hd
 by_cases h0:hi-lo=0
 ·
  have hr:(execOp a.eval o).run E.P w= .ok (.value (.slice (cutAddr ad cap 0 tk.t.w) (k-0) (cap-0))) w:=by
   have:=run_append_zero (P:=E.P) w T o.type e' ie hu hie (cutAddr ad cap 0 tk.t.w) (cutAddr ad cap lo tk.t.w) (k-0) (cap-0) (cap-lo) (by omega)
   simp only[execOp,ho,resolve,hc,invoke,builtin,Sem.run_bind,Sem.run_pure,Result.andThen_ok,ea,eT,List.map_toArray,zv,zck,vx,vy,h0,this]
  have hTk:=hk.head ewr etr k (by omega) (m:=tk.t.w) ev
  have e2:tk.xs.take k++(tk.xs.take hi).drop lo=tk.xs.take k:=by
   rw[zbw (by simp;omega),zat]
  rw[e2]at hK
  exact wp_value hr (hK _ _ (rel_newTok (s:=s) [n] hM1 hn hdf hsl (fun _ _ _ _ _=>⟨fun _ _ h=>h,fun _ _ _=>rfl⟩) d hd (hR0.tn hres) ⟨tk.t,tk.xs.take k,tk.e,true,tk.deep,none⟩ _ (F n) hTk rfl
   (fun t tk' b htl ht hb hF=>htl (by simp[hM.tdis t n tk' tk b ht htk hF hb])) (fun k b hk hb=>hM.tbox n tk k b htk hk hb) o.dst hdn _ rfl))
 .have hne:tk.xs≠ []:=fun e=>by rw[e]at hh2;simp at hh2;omega
  obtain⟨b,capq,vs,T',e1,hFb,hg,hz',hnc,hm,hS,hcon⟩:=hk.lits fl ewr etr hne
  have ev':=ev
  rw[e1]at ev'
  obtain⟨rfl,rfl⟩:ad=some ⟨b,0,none⟩/\cap=capq:=by cases ev';exact⟨rfl,rfl⟩
  clear ev'
  have eax:cutAddr (some ⟨b,0,none⟩) cap 0 tk.t.w=some ⟨b,0,none⟩:=by
   unfold cutAddr
   split
   .rfl
   .simp [add_ptr]
  have eay:cutAddr (some ⟨b,0,none⟩) cap lo tk.t.w=some ⟨b,lo*tk.t.w,none⟩:=by
   unfold cutAddr
   rw[zu (by omega)]
   simp[add_ptr]
  have hmul:∀ {p q:Nat},p<=q->p*tk.t.w<=q*tk.t.w:=fun h=>zag _ h
  obtain⟨news,hnews⟩:∃news:List Value,news=(vs.toList.drop (lo*tk.t.w)).take ((hi-lo)*tk.t.w):=⟨_,rfl⟩
  have hfull:(lo+(hi-lo))*tk.t.w<=vs.size:=by rw[hz'];exact hmul (by omega)
  rw[zaO]at hfull
  have hnl:news.length=(hi-lo)*tk.t.w:=by rw[hnews];simp;omega
  have hng:∀j,j<(hi-lo)*tk.t.w->news[j]? =vs[lo*tk.t.w+j]? :=fun j hj=>by
   rw[hnews,zaH,zf hj,zaL,zaN]
  have hlit:∀j u,news[j]? =some u->∃p:PV,u=litOf p/\p.isLit=true:=fun j u hj=>by
   have hjl:j<(hi-lo)*tk.t.w:=by rw[<-hnl];exact(zh.1 hj).1
   have hdm:=Nat.div_add_mod j tk.t.w
   have hmod:=Nat.mod_lt j hpos
   have hdiv:j/tk.t.w<hi-lo:=(zcj hpos).2 hjl
   have hxi:lo+j/tk.t.w<tk.xs.length:=by omega
   have hpi:j%tk.t.w<(enc tk.t tk.xs[lo+j/tk.t.w]).length:=by rw[enc_len];exact hmod
   have h5:=hcon (lo+j/tk.t.w) (j%tk.t.w) _ _ (zc hxi) (zc hpi)
   rw[zaO,zbv,zbx (j/tk.t.w),hdm,<-hng j hjl,hj]at h5
   exact⟨_,Option.some.inj h5,flat_isLit tk.t _ fl _ (zr hpi)⟩
  have hone:∀u∈news,u.oneCell'=true:=fun u hu=>by
   obtain⟨j,hj,rfl⟩:=zav.1 hu
   obtain⟨p,hp,hl⟩:=hlit j _ (zc hj)
   rw[hp]
   exact(Rep.ofLit (w:=w) (S:=S) hl).one
  have hr0:=run_append_room' (P:=E.P) (w:=w) T o.type e' T' ie hu hie b k cap vs hg ⟨b,lo*tk.t.w,none⟩ (hi-lo) (cap-lo) news (by rw[hnl,hsz]) (fun j u hj=>by
   have hjl:j<(hi-lo)*tk.t.w:=by rw[<-hnl];exact(zh.1 hj).1
   rw[add_at,cell_of_row w b _ vs T' (0,0) hg,<-hng j hjl];exact hj) hone (by omega) (by rw[hnl,hsz,<-zaO,hz'];exact hmul (by omega))
  obtain⟨vs',hvs'⟩:∃vs':Array Value,vs'=(vs.toList.take (k*tk.t.w)++news++vs.toList.drop (k*tk.t.w+news.length)).toArray:=⟨_,rfl⟩
  rw[hsz,<-hvs']at hr0
  have hkfull:k*tk.t.w+news.length<=vs.size:=by rw[hnl,hz',<-zaO];exact hmul (by omega)
  have hvsl:vs'.toList=vs.toList.take (k*tk.t.w)++news++vs.toList.drop (k*tk.t.w+news.length):=by rw[hvs']
  have hget:∀m,vs'[m]? =if k*tk.t.w<=m/\m<k*tk.t.w+news.length then news[m-k*tk.t.w]? else vs[m]? :=fun m=>by
   rw[<-zaN,hvsl,splice_get _ _ _ (by rw[zbd];exact hkfull)]
   simp
  have hsize:vs'.size=vs.size:=by
   rw[<-zbd,hvsl]
   simp only[zam,zah,zaQ,zbd]
   omega
  have hr:(execOp a.eval o).run E.P w= .ok (.value (.slice (some ⟨b,0,none⟩) (k+(hi-lo)) cap)) (w.setRow b vs'):=by
   simp only[execOp,ho,resolve,hc,invoke,builtin,Sem.run_bind,Sem.run_pure,Result.andThen_ok,ea,eT,List.map_toArray,zv,zck,vx,vy,eax,eay,Nat.sub_zero,hr0]
  have hother:∀m,m≠b->(w.setRow b vs').heap[m]? =w.heap[m]? :=fun m hm=>setRow_other w b m _ hm
  have hhs:(w.setRow b vs').heap.size=w.heap.size:=by simp[World.setRow]
  have hcell:∀b2 o,S b2 o->(w.setRow b vs').cell? ⟨b2,o,none⟩=w.cell? ⟨b2,o,none⟩:=fun b2 o hb=>World.cell?_of_block (w:=w) (hother b2 (fun e=>hS o (e▸hb)))
  have hstep:Step (fun m=>m=b) S S w (w.setRow b vs'):=⟨⟨rfl,rfl,rfl,by rw[hhs];exact zae _,fun m _ hm=>hother m hm⟩,hcell,fun _ _ h=>h,fun _ _ h=>.inl h,fun b o h=>by rw[hhs];exact hM.lt b o h⟩
  have hheap:(w.setRow b vs').heap[b]? =some (.cells vs' T' (0,0)):=setRow_heap w b vs _ T' (0,0) hg
  have hMs:=hM1.step hstep (fun m hm=>hm▸(hk.1 b hFb).1) (fun k' b' hk' hb=>hM.tbox n tk k' b' htk hk' (hb▸hFb)) (fun t' tk' ht' m hm hb=>by
   obtain⟨g1,g2⟩:=spend_live ht'
   subst hb
   exact g1 (by simp[hM.tdis t' n tk' tk m g2 htk hm hFb]))
  obtain⟨ys,hys⟩:∃ys,ys=tk.xs.take k++(tk.xs.take hi).drop lo:=⟨_,rfl⟩
  have hyl:ys.length=k+(hi-lo):=by rw[hys];simp;omega
  have hyg:∀i y,ys[i]? =some y->(i<k/\tk.xs[i]? =some y)\/(k<=i/\i<k+(hi-lo)/\tk.xs[lo+(i-k)]? =some y):=fun i y hi'=>by
   have hil:i<k+(hi-lo):=by rw[<-hyl];exact(zh.1 hi').1
   rw[hys]at hi'
   by_cases hik:i<k
   .rw [zay (by simp;omega),zaH,zf hik]at hi'
    exact .inl ⟨hik,hi'⟩
   .rw [zaz (by simp;omega),zah,Nat.min_eq_left (by omega),zaL,zaH,zf (by omega)]at hi'
    exact .inr ⟨by omega,hil,hi'⟩
  have hTk:TokOk R.fr (w.setRow b vs') S ⟨tk.t,ys,tk.e,true,tk.deep,none⟩ (.slice (some ⟨b,0,none⟩) ys.length cap) (F n):=by
   refine .flat fl (fun b hb=>⟨(hk.1 b hb).1,by rw[hhs];exact(hk.1 b hb).2⟩) hFb hheap (by rw[hsize];exact hz') (by omega) hm hS (fun i j y p hy' hp=>?_)
   have hj:=enc_lt hp
   rcases hyg i y hy' with⟨hik,hx'⟩|⟨hki,hik,hx'⟩
   .have h5:=hcon i j y p hx' hp
    have:(i+1)*tk.t.w<=k*tk.t.w:=hmul hik
    rw[zaO]at this
    rw[hget,zu (by omega)]
    exact h5
   .have h5:=hcon (lo+(i-k)) j y p hx' hp
    have e3:(lo+(i-k))*tk.t.w=lo*tk.t.w+(i*tk.t.w-k*tk.t.w):=by rw[zaO,Nat.sub_mul]
    have h6:k*tk.t.w<=i*tk.t.w:=hmul hki
    have h7:(i+1)*tk.t.w<=(k+(hi-lo))*tk.t.w:=hmul hik
    rw[zaO,zaO]at h7
    rw[hget,zf ⟨by omega,by omega⟩,hng _ (by omega),<-h5,e3]
    congr 1;omega
  rw[<-hys]at hK
  rw[hyl]at hTk
  exact wp_value hr (hK _ _ (rel_newTok (s:=s) [n] hMs hn hdf hsl (fun _ _ _ _ _=>⟨fun _ _ h=>h,hcell⟩) d hd (hR0.tn hres) ⟨tk.t,ys,tk.e,true,tk.deep,none⟩ _ (F n) hTk rfl
   (fun t tk' b htl ht hb hF=>htl (by simp[hM.tdis t n tk' tk b ht htk hF hb])) (fun k b hk hb=>hM.tbox n tk k b htk hk hb) o.dst hdn _ rfl))
theorem zeroCells_get (z:Array Value) (n m:Nat) (h:m<n*z.size) (j:Nat) (hj:m%z.size=j):(Builtin.zeroCells z n)[m]? =z[j]? :=by
 have hz:0<z.size:=by
  rcases Nat.eq_zero_or_pos z.size with h0|h0
  .rw [h0]at h;simp at h
  .exact h0
 have hjl:j<z.size:=by rw[<-hj];exact Nat.mod_lt _ hz
 unfold Builtin.zeroCells
 rw[Array.getElem?_map,Array.getElem?_range,zf h]
 simp[hj,hjl]
theorem run_clear {P:Program} (w:World) (t ty e:TypeId) (i:TypeInfo) (z:Value) (ht:P.underlying t=some (.slice e)) (hi:P.info? e=some i) (hz:i.zero=some z) (a:Addr) (n c:Nat) (hn:0<n):
  (Builtin.clear_ #[t] ty #[.slice (some a) n c]).run P w=((storeCells a (Builtin.zeroCells z.cells n).toList).run P w).andThen fun _ w'=>.ok (.tuple #[]) w':=by
 obtain⟨n,rfl⟩:∃k,n=k+1:=⟨n-1,by omega⟩
 simp[Builtin.clear_,run_underlying ht,zeroValue,typeInfo,hi,hz]
theorem run_clear_none {P:Program} (w:World) (t ty e:TypeId) (ht:P.underlying t=some (.slice e)) (a:Option Addr) (c:Nat):
  (Builtin.clear_ #[t] ty #[.slice a 0 c]).run P w= .ok (.tuple #[]) w:=by
 cases a<;>simp[Builtin.clear_,run_underlying ht]
theorem sim_clear (hE:EnvOk E) (c:Call) (ho:o.op= .call c) (hc:c.callee= .builtin .clear) (h:(opRD E o.op o.dst s.ev).R s [] [] e fp):Sim E o s e:=by
 rw[ho]at h
 simp only[opRD,hc]at h
 split at h
 case h_2=>exact h.elim
 rename_i x T hx hT
 unfold clearRD at h
 split at h
 case h_2=>exact h.elim
 rename_i n lo hi hxv
 simp only[RD.R]at h
 split at h
 case h_2=>exact h.elim
 rename_i tk htk
 split at h
 case h_2=>exact h.elim
 rename_i ty hty
 split at h
 case h_2=>exact h.elim
 rename_i e' r by' he
 split at h
 case h_2=>exact h.elim
 rename_i te hte
 split at h
 case isFalse=>exact h.elim
 rename_i hcond
 obtain⟨er,etr,ewr,fl,hzl⟩:=hcond
 split at h
 case h_2=>exact h.elim
 rename_i z0 hz0
 obtain⟨rfl,_⟩:=h
 subst er
 rintro R a w hR0 ⟨β,τ,F,S,hM,hn,hdf,hsl⟩ K Q hK
 have hev:=V3_ev hsl
 obtain⟨hu,hpos,ie,z,hie,hsz,hby,hz,hzs⟩:=(hE.ty T ty hty).elem _ _ _ he
 obtain⟨ie2,z2,hie2,hsz2,hz2,hzs2,hV⟩:=(hE.ty e' te hte).info
 rw[hie]at hie2;cases hie2
 rw[hz]at hz2;cases hz2
 have ea:c.args= #[x]:=by apply Array.ext';simpa using hx
 have h1:=hev x;rw[hxv]at h1
 obtain⟨ad,len,cap,ev,hlh,hhl,hlc,vx⟩:=(v3_sub h1).2.2 tk htk
 have hk:=hM.toks n tk htk
 rw[show(s.ctx w S β τ).τ n=τ n from rfl]at ev
 have hlen:len=tk.xs.length:=by
  rcases hk.2.1 with⟨e1,e2⟩|⟨b,cap2,vs,T',e1,_⟩
  .rw [e1]at ev;cases ev;rw[e2];rfl
  .rw [e1]at ev;cases ev;rfl
 subst hlen
 obtain⟨ts,hts⟩:∃ts,c.argTypes=ts:=⟨_,rfl⟩
 rw[hts]at hT
 have hclear:∀v w',(Builtin.clear_ #[T] o.type #[a.eval x]).run E.P w= .ok v w'->(execOp a.eval o).run E.P w= .ok (.value v) w':=fun v w' hv=>by
  have e2:(Builtin.clear_ ts o.type #[a.eval x]).run E.P w=(Builtin.clear_ #[T] o.type #[a.eval x]).run E.P w:=by
   unfold Builtin.clear_
   simp[hT]
  simp only[execOp,ho,resolve,hc,invoke,builtin,Sem.run_bind,Sem.run_pure,Result.andThen_ok,ea,hts,List.map_toArray,zv,zck,e2,hv]
 obtain⟨ys,hys⟩:∃ys,ys=tk.xs.take lo++List.replicate (hi-lo) z0++tk.xs.drop hi:=⟨_,rfl⟩
 rw[<-hys]at hK
 by_cases h0:hi-lo=0
 .have hlo:lo=hi:=by omega
  subst hlo
  have e3:ys=tk.xs:=by rw[hys];simp
  have hr:=hclear _ _ (by rw[vx,h0];exact run_clear_none (P:=E.P) w T o.type e' hu _ _)
  rw[e3]at hK
  have e4:updT (lookT s.T) n (some (.live tk))=lookT s.T:=by
   funext t
   unfold updT
   split
   .rename_i e;rw[e,htk]
   .rfl
  refine wp_value hr (hK _ _ (rel_put (e:=⟨.tup [],[],[(n,some (.live tk))]⟩) (by show Mem R _ (updT _ _ _) _ _ _ _ _;rw[e4];exact hM) hn hdf (by show ∀i,V3 ⟨_,_,_,_,updT _ _ _,_⟩ _ _;rw[e4];exact hsl) o.dst (.inr ⟨[],rfl,True.intro⟩)))
 .have hne:tk.xs≠ []:=fun e=>by rw[e]at hhl;simp at hhl;omega
  obtain⟨b,capq,vs,T',e1,hFb,hg,hz',hnc,hm,hS,hcon⟩:=hk.lits fl ewr etr hne
  have ev':=ev
  rw[e1]at ev'
  obtain⟨rfl,rfl⟩:ad=some ⟨b,0,none⟩/\cap=capq:=by cases ev';exact⟨rfl,rfl⟩
  clear ev'
  have eax:cutAddr (some ⟨b,0,none⟩) cap lo tk.t.w=some ⟨b,lo*tk.t.w,none⟩:=by
   unfold cutAddr
   rw[zu (by omega)]
   simp[add_ptr]
  have hmul:∀ {p q:Nat},p<=q->p*tk.t.w<=q*tk.t.w:=fun h=>zag _ h
  have hfull:(lo+(hi-lo))*tk.t.w<=vs.size:=by rw[hz'];exact hmul (by omega)
  rw[zaO]at hfull
  obtain⟨news,hnews⟩:∃news,news=(Builtin.zeroCells z.cells (hi-lo)).toList:=⟨_,rfl⟩
  have hnl:news.length=(hi-lo)*tk.t.w:=by rw[hnews,zbd,size_zeroCells,hzs]
  have hrow:=mkRow_rep (c:=s.ctx w S β τ) tk.t _ z0 _ hz0 (hV (s.ctx w S β τ))
  have hzc:∀j p,(enc tk.t z0)[j]? =some p->z.cells[j]? =some (litOf p):=fun j p hp=>by
   have hj:j<z.cells.toList.length:=by rw[hrow.len];exact(zh.1 hp).1
   have:=hrow.get' j _ p (zc hj) hp
   rw[<-zaN,zc hj,rep_litV this (flat_isLit tk.t z0 fl p (zak hp))]
  have hng:∀i j p,i<hi-lo->(enc tk.t z0)[j]? =some p->news[i*tk.t.w+j]? =some (litOf p):=fun i j p hi' hp=>by
   have hj:=enc_lt hp
   have h7:(i+1)*tk.t.w<=(hi-lo)*tk.t.w:=hmul hi'
   rw[zaO]at h7
   rw[hnews,zaN,zeroCells_get z.cells (hi-lo) _ (by rw[hzs];omega) j (by rw[hzs,Nat.add_comm,Nat.add_mul_mod_self_right,Nat.mod_eq_of_lt hj])]
   exact hzc j p hp
  have hone:∀u∈news,u.oneCell'=true:=fun u hu=>by
   obtain⟨j,hj,rfl⟩:=zav.1 hu
   have hjl:j<(hi-lo)*tk.t.w:=by rw[<-hnl];exact hj
   have hdm:=Nat.div_add_mod j tk.t.w
   have hmod:=Nat.mod_lt j hpos
   have hdiv:j/tk.t.w<hi-lo:=(zcj hpos).2 hjl
   have hpi:j%tk.t.w<(enc tk.t z0).length:=by rw[enc_len];exact hmod
   have h5:=hng (j/tk.t.w) (j%tk.t.w) _ hdiv (zc hpi)
   rw[zbx (j/tk.t.w),hdm,zc hj]at h5
   rw[Option.some.inj h5]
   exact(Rep.ofLit (w:=w) (S:=S) (flat_isLit tk.t _ fl _ (zr hpi))).one
  have hst':=run_storeCells_at E.P b (lo*tk.t.w) T' news 0 vs w hg (by omega) hone
  obtain⟨vs',hvs'⟩:∃vs':Array Value,vs'=(vs.toList.take (lo*tk.t.w)++news++vs.toList.drop (lo*tk.t.w+news.length)).toArray:=⟨_,rfl⟩
  simp only[Nat.add_zero]at hst'
  rw[<-hvs']at hst'
  have hr:=hclear (.tuple #[]) (w.setRow b vs') (by
   rw[vx,eax,run_clear (P:=E.P) w T o.type e' ie z hu hie hz _ _ _ (by omega),<-hnews,hst']
   rfl)
  have hvsl:vs'.toList=vs.toList.take (lo*tk.t.w)++news++vs.toList.drop (lo*tk.t.w+news.length):=by rw[hvs']
  have hfit:lo*tk.t.w+news.length<=vs.toList.length:=by rw[hnl,zbd];exact hfull
  have hget:∀m,vs'[m]? =if lo*tk.t.w<=m/\m<lo*tk.t.w+news.length then news[m-lo*tk.t.w]? else vs[m]? :=fun m=>by
   rw[<-zaN,hvsl,splice_get vs.toList news (lo*tk.t.w) hfit]
   simp
  have hsize:vs'.size=vs.size:=by
   rw[<-zbd,hvsl]
   simp only[zam,zah,zaQ,zbd]
   omega
  have hother:∀m,m≠b->(w.setRow b vs').heap[m]? =w.heap[m]? :=fun m hm=>setRow_other w b m _ hm
  have hhs:(w.setRow b vs').heap.size=w.heap.size:=by simp[World.setRow]
  have hcell:∀b2 o,S b2 o->(w.setRow b vs').cell? ⟨b2,o,none⟩=w.cell? ⟨b2,o,none⟩:=fun b2 o hb=>World.cell?_of_block (w:=w) (hother b2 (fun e=>hS o (e▸hb)))
  have hstep:Step (fun m=>m=b) S S w (w.setRow b vs'):=⟨⟨rfl,rfl,rfl,by rw[hhs];exact zae _,fun m _ hm=>hother m hm⟩,hcell,fun _ _ h=>h,fun _ _ h=>.inl h,fun b o h=>by rw[hhs];exact hM.lt b o h⟩
  have hheap:(w.setRow b vs').heap[b]? =some (.cells vs' T' (0,0)):=setRow_heap w b vs _ T' (0,0) hg
  have hyl:ys.length=tk.xs.length:=by rw[hys];simp;omega
  have hyg:∀i y,ys[i]? =some y->((i<lo\/hi<=i)/\tk.xs[i]? =some y)\/(lo<=i/\i<hi/\y=z0):=fun i y hi'=>by
   rw[hys]at hi'
   by_cases h3:i<lo
   .rw [zao,zay (by simp;omega),zaH,zf h3]at hi'
    exact .inl ⟨.inl h3,hi'⟩
   .by_cases h4:i<hi
    .rw [zay (by simp;omega),zaz (by simp;omega),zah,Nat.min_eq_left (by omega),List.getElem?_replicate,zf (by omega)]at hi'
     exact .inr ⟨by omega,h4,(Option.some.inj hi').symm⟩
    .rw [zaz (by simp;omega),zam,zah,Nat.min_eq_left (by omega),List.length_replicate,zaL]at hi'
     refine .inl ⟨.inr (by omega),?_⟩
     rw[<-hi']
     congr 1;omega
  have hTk:TokOk R.fr (w.setRow b vs') S {tk with xs:=ys} (τ n) (F n):=by
   have:=TokOk.flat (Fr:=R.fr) (w:=w.setRow b vs') (S:=S) (t:=tk.t) (ys:=ys) (e:=tk.e) (deep:=tk.deep) (F:=F n) fl (fun b hb=>⟨(hk.1 b hb).1,by rw[hhs];exact(hk.1 b hb).2⟩) hFb hheap (by rw[hsize];exact hz') (by omega) hm hS (fun i j y p hy' hp=>by
    have hj:=enc_lt hp
    rcases hyg i y hy' with⟨hik,hx'⟩|⟨hki,hik,rfl⟩
    .have h5:=hcon i j y p hx' hp
     rw[hget,zu ?_]
     .exact h5
     .rintro ⟨g1,g2⟩
      rw[hnl,<-zaO]at g2
      rcases hik with hik|hik
      .have:(i+1)*tk.t.w<=lo*tk.t.w:=hmul hik
       rw[zaO]at this;omega
      .have:(lo+(hi-lo))*tk.t.w<=i*tk.t.w:=hmul (by omega)
       omega
    .have h6:lo*tk.t.w<=i*tk.t.w:=hmul hki
     have h5:=hng (i-lo) j p (by omega) hp
     have h7:(i-lo+1)*tk.t.w<=(hi-lo)*tk.t.w:=hmul (by omega)
     rw[zaO]at h7
     rw[Nat.sub_mul]at h5 h7
     rw[hget,zf ⟨by omega,by omega⟩,<-h5]
     congr 1;omega)
   rw[hyl,<-e1]at this
   obtain⟨t0,xs0,e0,wr0,deep0,tr0⟩:=tk
   simp only at ewr etr
   subst ewr
   subst etr
   exact this
  have hM':=hM.setTok n tk {tk with xs:=ys} htk (fun m=>m=b) hstep (fun m hm=>hm▸hFb) hTk rfl (fun h=>by rw[ewr]at h;cases h) etr
  refine wp_value hr (hK _ _ (rel_put (e:=⟨.tup [],[],[(n,some (.live {tk with xs:=ys}))]⟩) hM' hn hdf ?_ o.dst (.inr ⟨[],rfl,True.intro⟩)))
  exact lift3 (c:=s.ctx w S β τ) (c':=⟨w.setRow b vs',S,fun k=>lookB s.B k≠none,β,updT (lookT s.T) n (some (.live {tk with xs:=ys})),τ⟩) ⟨fun _ _ h=>h,hcell⟩ (BoxLe.refl rfl rfl) (setTok_le htk rfl (fun h=>by rw[ewr]at h;cases h)) hsl
end
end Go.Proofs.YtcinmmojlcchfaaGreatDoor
