import Derived.Test.YtcinmmojlcchfaaGreatDoorKW
set_option linter.unusedSimpArgs false
set_option linter.unusedVariables false
namespace Go.Proofs.YtcinmmojlcchfaaGreatDoor
open Go.RowKit
section
variable {E : Env} {o : Oper} {s : LSt} {e : Eff} {fp : FP}
theorem jpz (hE:EnvOk E) (h:(opRD E o.op o.dst s.ev).R s [] [] e fp):Sim E o s e:=by
 cases hop:o.op with
 |move x=>rw[hop]at h;cases val_R h;exact sim_move x (.inl hop)
 |assign x=>rw[hop]at h;cases val_R h;exact sim_move x (.inr hop)
 |pick c a b=>exact sim_pick c a b hop h
 |alloc T=>exact sim_alloc hE T hop h
 |box T x=>exact sim_box T x hop h
 |build T parts=>exact sim_build hE T parts hop h
 |buildSlice T len parts=>exact joN hE T len parts hop (fun d ty e' r by' cs xs h1 h2 h3 h4 h5 h6 h7 h8 h9=>sim_buildTree hE T len parts hop d ty e' r by' cs xs h1 h2 h3 h4 h5 h6 h7 h8 h9) h
 |load T x=>exact sim_load hE T x hop (fun ty n i q tk hs h1 h2 h3 h4 h5=>sim_loadTree hE T x hop ty n i q tk hs h1 h2 h3 h4 h5) (fun y k h1 h2=>sim_thaw y k h1 h2) (fun ty g h1 h2 h3=>sim_gload hE T x hop ty g h1 h2 h3) h
 |store T x y=>exact jl6 hE T x y hop (fun ty n i q tk hs ys h1 h2 h3 h4 h5 h6 h7 h8=>sim_storeTree hE T x y hop ty n i q tk hs ys h1 h2 h3 h4 h5 h6 h7 h8) h
 |makeSlice T l c=>exact sim_makeSlice hE T l c hop h
 |nilCheck x=>exact sim_nilCheck x hop h
 |binOp op T x y t=>
  have h':=h
  rw[hop]at h'
  simp only[opRD]at h'
  split at h'
  .rename_i xs ys hag
   exact sim_agg hE op T x y t hop xs ys hag h'
  .exact sim_bin hE op T x y t hop h'
 |unOp op T x=>exact sim_un op T x hop h
 |fieldAddr T x f=>exact sim_fieldAddr hE T x f hop h
 |field T x f=>exact sim_field hE T x f hop h
 |indexAddr T x i=>exact sim_indexAddr hE T x i hop h
 |index T x i=>exact sim_index hE T x i hop h
 |extract x i=>exact sim_extract x i hop h
 |makeFunc g first captured=>
  cases g with
  |func f=>exact sim_makeFunc f first captured hop h
  |_=>rw[hop]at h;exact h.elim
 |convert S T x=>exact sim_convert hE S T x hop h
 |slice T x lo hi mx=>
  cases mx with
  |none=>exact js1 hE T x lo hi hop h
  |some _=>rw[hop]at h;exact h.elim
 |call c=>
  cases hc:c.callee with
  |value g=>exact sim_call hE c hop g hc h
  |invoke r m=>rw[hop]at h;simp only[opRD,hc]at h;exact h.elim
  |builtin b=>
   by_cases h1:b= .len
   .exact sim_len hE c hop (by rw[hc,h1]) h
   by_cases h2:b= .min
   .exact sim_minmax c hop false (by rw[hc,h2];rfl) h
   by_cases h3:b= .max
   .exact sim_minmax c hop true (by rw[hc,h3];rfl) h
   by_cases h4:b= .append
   .exact jkN hE c hop (by rw[hc,h4]) (fun d x y T ty e' r by' t tk a1 a2 a3 a4 a5 a6 a7 a8 a9 a10=>sim_appendTree hE c hop (by rw[hc,h4]) d x y T ty e' r by' t tk a1 a2 a3 a4 a5 a6 a7 a8 a9 a10) (fun d x y T ty e' r by' t k tk a1 a2 a3 a4 a5 a6 a7 a8 a9 a10 a11 a12 a13=>sim_appendSub hE c hop (by rw[hc,h4]) d x y T ty e' r by' t k tk a1 a2 a3 a4 a5 a6 a7 a8 a9 a10 a11 a12 a13) h
   by_cases h5:b= .clear
   .exact sim_clear hE c hop (by rw[hc,h5]) h
   rw[hop]at h
   simp only[opRD,hc]at h
   split at h
   .rename_i e;cases e
   .rename_i e;cases e;exact absurd rfl h1
   .rename_i e;cases e;exact absurd rfl h5
   .rename_i e;cases e;exact absurd rfl h2
   .rename_i e;cases e;exact absurd rfl h3
   .rename_i e;cases e;exact absurd rfl h4
   .exact h.elim
 |makeMap T r=>
  cases r with
  |none=>exact sim_makeMap T hop h
  |some _=>rw[hop]at h;exact h.elim
 |lookup T x i ok=>
  have h':=h
  rw[hop]at h'
  simp only[opRD]at h'
  split at h'
  .rename_i g hg
   exact sim_glookup hE T x i ok hop g (gmapOf_eq hg) h'
  .exact sim_lookup hE T x i ok hop h'
 |mapUpdate T x i y=>exact sim_mapUpdate hE T x i y hop h
 |range T x=>exact sim_range hE T x hop h
 |entry x=>exact sim_entry x hop h
 |_=>rw[hop]at h;exact h.elim
end
inductive Seen where
 |go
 |pass
 |ask (b want:Bool)
 |stuck
def seen (all:Array Oper) (s:LSt) (o:Oper):Seen:=
 match o.guard with
 |none=>.go
 |some (j,want)=>match(all[j]?).bind (·.dst)with
  |none=>.pass
  |some t=>match getA s.L t with
   | .pv .bool b=>.ask b want
   | .tup []=>.pass
   |_=>.stuck
def Step1 (E:Env) (all:Array Oper) (s:LSt) (o:Oper) (e:Eff) (fp:FP):Prop:=
 match seen all s o with
 | .go=>(opRD E o.op o.dst s.ev).R s [] [] e fp
 | .pass=>e=skipEff/\fp=⟨[],[],[],[]⟩
 | .ask b want=>if b=want then(opRD E o.op o.dst s.ev).R s [] [] e fp else e=skipEff/\fp=⟨[],[],[],[]⟩
 | .stuck=>False
def Runs (E:Env) (all:Array Oper):List Oper->LSt->LSt->List FP->Prop
 | [],s,s',fps=>s'=s/\fps=[]
 |o::l,s,s',fps=>∃e fp fps',Step1 E all s o e fp/\fps=fp::fps'/\Runs E all l (s.app o.dst e) s' fps'
theorem jm2 {all:Array Oper} {c:Ctx} {s:LSt} {a:Act} (h:∀i,V3 c (getA s.L i) (a.tmps.getD i undef)) (o:Oper):
  (seen all s o= .go->Region.wanted o (yielded all a.tmps)=true)/\(seen all s o= .pass->Region.wanted o (yielded all a.tmps)=false)/\∀b want,seen all s o= .ask b want->Region.wanted o (yielded all a.tmps)=(b==want):=by
 unfold seen Region.wanted
 cases hg:o.guard with
 |none=>exact⟨fun _=>rfl,nofun,nofun⟩
 |some gw=>
  obtain⟨j,want⟩:=gw
  simp only
  cases hd:(all[j]?).bind (·.dst)with
  |none=>
   refine⟨nofun,fun _=>?_,nofun⟩
   simp[yielded,hd]
  |some t=>
   have ht:=h t
   simp only
   cases hsl:getA s.L t with
   |pv tp y=>
    cases tp with
    |bool=>
     rw[hsl]at ht
     have hv:a.tmps.getD t undef= .bool y:=v3_bool ht
     have hv2:a.tmps[t]? =some (.bool y):=by
      by_cases hl:t<a.tmps.size
      .simp [Array.getD,hl]at hv;simp[hl,hv]
      .simp [Array.getD,hl,undef]at hv
     refine⟨nofun,nofun,fun b' want' h=>?_⟩
     cases h
     simp[yielded,hd,hv2]
    |_=>exact⟨nofun,nofun,nofun⟩
   |tup cs=>
    cases cs with
    |nil=>
     rw[hsl]at ht
     obtain⟨vs,hv,ha⟩:=ht
     have hvs:vs=[]:=by cases vs with
      |nil=>rfl
      |cons _ _=>exact ha.elim
     subst hvs
     refine⟨nofun,fun _=>?_,nofun⟩
     have:yielded all a.tmps j=none:=by
      unfold yielded
      rw[hd]
      by_cases hl:t<a.tmps.size
      .simp [Array.getD,hl]at hv;simp[hl,hv]
      .simp [hl]
     simp[this]
    |cons _ _=>exact⟨nofun,nofun,nofun⟩
   |_=>exact⟨nofun,nofun,nofun⟩
theorem step1_wp {E:Env} (hE:EnvOk E) {all:Array Oper} {s:LSt} {o:Oper} {e:Eff} {fp:FP} (h:Step1 E all s o e fp) {i:Nat} (hi:all[i]? =some o) {R:Root} (hR0:ROk E R) {a:Act} {w:World} (hR:Rel R s a w) {Q:Exit->Act->World->Prop} {K:Act->World->Prop}
  (hK:∀a' w',Rel R (s.app o.dst e) a' w'->K a' w'):wpOp E.P all Q i K a w:=by
 have hR':=hR
 obtain⟨β,τ,F,S,hM,hn,hdf,hs⟩:=hR
 obtain⟨y1,y2,y3⟩:=jm2 (all:=all) hs o
 have go:Region.wanted o (yielded all a.tmps)=true->(opRD E o.op o.dst s.ev).R s [] [] e fp->wpOp E.P all Q i K a w:=fun hw hr=>by
  unfold Go.wpOp
  simp only[hi,hw,if_true]
  exact .inl (jpz hE hr R a w hR0 hR' K Q hK)
 have pass:Region.wanted o (yielded all a.tmps)=false->e=skipEff->wpOp E.P all Q i K a w:=fun hw he=>by
  subst he
  unfold Go.wpOp
  simp only[hi,hw,za7,if_false]
  exact hK _ _ (rel_put (s:=s) (e:=skipEff) hM hn hdf hs o.dst (.inr ⟨[],rfl,True.intro⟩))
 unfold Step1 at h
 cases hsn:seen all s o with
 |go=>rw[hsn]at h;exact go (y1 hsn) h
 |pass=>rw[hsn]at h;exact pass (y2 hsn) h.1
 |ask b want=>
  rw[hsn]at h
  have hw:=y3 b want hsn
  simp only at h
  split at h
  .exact go (by rw[hw];simpa using ‹b=want›) h
  .exact pass (by rw[hw];simpa using ‹¬b=want›) h.1
 |stuck=>rw[hsn]at h;exact h.elim
theorem runs_wp {E:Env} (hE:EnvOk E) {all:Array Oper} {Q:Exit->Act->World->Prop} {R:Root} (hR0:ROk E R):∀(l:List Oper) (k:Nat),all.toList.drop k=l->∀(s s':LSt) (fps:List FP),Runs E all l s s' fps->∀a w,Rel R s a w->(∀a' w',Rel R s' a' w'->Q .normal a' w')->
  wpOps E.P all Q ((List.range' k l.length)) a w
 | [],k,_,s,s',fps,h,a,w,hR,hQ=>by rw[h.1]at hQ;exact hQ a w hR
 |o::l,k,hk,s,s',fps,h,a,w,hR,hQ=>by
  obtain⟨e,fp,fps',h1,_,h3⟩:=h
  have hi:all[k]? =some o:=by
   have:(all.toList.drop k)[0]? =some o:=by rw[hk];rfl
   simpa using this
  rw[zi,List.range'_succ,wpOps_cons]
  refine step1_wp hE h1 hi hR0 hR (fun a' w' hR'=>runs_wp hE hR0 l (k+1) ?_ _ s' fps' h3 a' w' hR' hQ)
  rw[<-List.tail_drop,hk];rfl
def jaa (a b:List Nat):Bool:=a.all fun x=> !b.contains x
def FP.apart (p q:FP):Bool:=jaa p.wb q.rb&&jaa p.wb q.wb&&jaa q.wb p.rb&&jaa p.wt q.rt&&jaa p.wt q.wt&&jaa q.wt p.rt
def indepB (all:Array Oper) (x y:Oper) (p q:FP):Bool:=Oper.apart all x y&&p.apart q
theorem disjL_spec {a b:List Nat} (h:jaa a b=true):∀x,x∈a->x∉b:=fun x hx hb=>by
 have:=zax.1 h x hx
 simp at this
 exact this hb
theorem Eff.updB_out (f:Nat->Option BS) (e:Eff) (k:Nat) (h:k∉e.boxes):e.updB f k=f k:=by
 unfold Eff.updB Eff.boxes at*
 revert f
 generalize e.box=l at h
 induction l with
 |nil=>intro f;rfl
 |cons x l ih=>
  intro f
  simp only[zv,zp,not_or]at h
  rw[zaq,ih h.2]
  simp[Go.Proofs.YtcinmmojlcchfaaGreatDoor.updB,h.1]
theorem Eff.updB_same (e:Eff) (k:Nat):∀(f g:Nat->Option BS),f k=g k->e.updB f k=e.updB g k:=by
 unfold Eff.updB
 generalize e.box=l
 induction l with
 |nil=>intro f g h;exact h
 |cons x l ih=>
  intro f g h
  rw[zaq,zaq]
  refine ih _ _ ?_
  simp only[Go.Proofs.YtcinmmojlcchfaaGreatDoor.updB,h]
theorem Eff.updB_in (e:Eff) (k:Nat) (h:k∈e.boxes):∀(f g:Nat->Option BS),e.updB f k=e.updB g k:=by
 unfold Eff.updB Eff.boxes at*
 revert h
 generalize e.box=l
 induction l with
 |nil=>intro h;cases h
 |cons x l ih=>
  intro h f g
  rw[zaq,zaq]
  by_cases e1:k=x.1
  .have:=Eff.updB_same ⟨.dead,l,[]⟩ k (Go.Proofs.YtcinmmojlcchfaaGreatDoor.updB f x.1 x.2) (Go.Proofs.YtcinmmojlcchfaaGreatDoor.updB g x.1 x.2) (by simp[Go.Proofs.YtcinmmojlcchfaaGreatDoor.updB,e1])
   exact this
  .simp only [zv,zp]at h
   exact ih (h.resolve_left e1) _ _
theorem Eff.updT_out (f:Nat->Option TS) (e:Eff) (k:Nat) (h:k∉e.toks):e.updT f k=f k:=by
 unfold Eff.updT Eff.toks at*
 revert f
 generalize e.tok=l at h
 induction l with
 |nil=>intro f;rfl
 |cons x l ih=>
  intro f
  simp only[zv,zp,not_or]at h
  rw[zaq,ih h.2]
  simp[Go.Proofs.YtcinmmojlcchfaaGreatDoor.updT,h.1]
theorem Eff.updT_same (e:Eff) (k:Nat):∀(f g:Nat->Option TS),f k=g k->e.updT f k=e.updT g k:=by
 unfold Eff.updT
 generalize e.tok=l
 induction l with
 |nil=>intro f g h;exact h
 |cons x l ih=>
  intro f g h
  rw[zaq,zaq]
  refine ih _ _ ?_
  simp only[Go.Proofs.YtcinmmojlcchfaaGreatDoor.updT,h]
theorem Eff.updT_in (e:Eff) (k:Nat) (h:k∈e.toks):∀(f g:Nat->Option TS),e.updT f k=e.updT g k:=by
 unfold Eff.updT Eff.toks at*
 revert h
 generalize e.tok=l
 induction l with
 |nil=>intro h;cases h
 |cons x l ih=>
  intro h f g
  rw[zaq,zaq]
  by_cases e1:k=x.1
  .have:=Eff.updT_same ⟨.dead,[],l⟩ k (Go.Proofs.YtcinmmojlcchfaaGreatDoor.updT f x.1 x.2) (Go.Proofs.YtcinmmojlcchfaaGreatDoor.updT g x.1 x.2) (by simp[Go.Proofs.YtcinmmojlcchfaaGreatDoor.updT,e1])
   exact this
  .simp only [zv,zp]at h
   exact ih (h.resolve_left e1) _ _
theorem seen_app {all:Array Oper} {s:LSt} {x y:Oper} {e:Eff} (h:∀d,x.dst=some d->d∉y.looksAt all):seen all (s.app x.dst e) y=seen all s y:=by
 unfold seen
 cases hg:y.guard with
 |none=>rfl
 |some gw=>
  obtain⟨j,want⟩:=gw
  simp only
  cases hd:(all[j]?).bind (·.dst)with
  |none=>rfl
  |some t=>
   have hne:¬(x.dst=some t/\t<s.L.length):=fun hh=>h t hh.1 (by simp[Oper.looksAt,hg,hd])
   simp only[app_L,zu hne]
theorem ev_app {all:Array Oper} {s:LSt} {x y:Oper} {e:Eff} (h:∀d,x.dst=some d->d∉y.looksAt all):∀z,z∈y.op.operands->(s.app x.dst e).ev z=s.ev z:=by
 intro z hz
 cases z with
 |tmp t=>
  have hne:¬(x.dst=some t/\t<s.L.length):=fun hh=>h t hh.1 (zad _ (zbs.2 ⟨.tmp t,by simpa using hz,rfl⟩))
  simp only[LSt.ev,app_L,zu hne]
 |_=>rfl
structure Like (s s':LSt):Prop where
 L:s'.L=s.L
 B:lookB s'.B=lookB s.B
 T:lookT s'.T=lookT s.T
theorem Like.refl (s:LSt):Like s s:=⟨rfl,rfl,rfl⟩
theorem Like.trans {a b c:LSt} (h:Like a b) (k:Like b c):Like a c:=⟨k.L.trans h.L,k.B.trans h.B,k.T.trans h.T⟩
theorem Like.symm {a b:LSt} (h:Like a b):Like b a:=⟨h.L.symm,h.B.symm,h.T.symm⟩
theorem Like.rel {s s':LSt} (h:Like s s') {R:Root} {a:Act} {w:World} (hr:Rel R s a w):Rel R s' a w:=by
 obtain⟨β,τ,F,S,hM,hn,hd,hs⟩:=hr
 refine⟨β,τ,F,S,by rw[h.B,h.T];exact hM,by rw[h.L];exact hn,hd,fun i=>?_⟩
 have:s'.ctx w S β τ=s.ctx w S β τ:=by simp only[LSt.ctx,h.B,h.T]
 rw[this,h.L];exact hs i
theorem Like.app {s s':LSt} (h:Like s s') (d:Option Nat) (e:Eff):Like (s.app d e) (s'.app d e):=
 ⟨by simp only[LSt.app,h.L],by rw[app_B,app_B,h.B],by rw[app_T,app_T,h.T]⟩
theorem Like.ev {s s':LSt} (h:Like s s'):s'.ev=s.ev:=by
 funext z;cases z<;>simp only[LSt.ev,h.L]
theorem getA_ext :∀ {L L':List AV},L.length=L'.length->(∀i,getA L i=getA L' i)->L=L'
 | [],[],_,_=>rfl
 |x::L,y::L',hl,h=>by
  have h0:=h 0
  simp only[getA]at h0
  rw[h0,getA_ext (by simpa using hl) (fun i=>h (i+1))]
 | [],_::_,hl,_=>by simp at hl
 |_::_,[],hl,_=>by simp at hl
theorem opRD_congr (E:Env) (op:Op) (dst:Option Nat) {ρ ρ':Operand->AV} (h:∀x,x∈op.operands->ρ x=ρ' x):opRD E op dst ρ=opRD E op dst ρ':=by
 have pairs:∀ps:Array (Nat×Operand),(∀x,x∈(ps.toList.map (·.2)).toArray->ρ x=ρ' x)->(ps.toList.map fun q=>(q.1,ρ q.2))=(ps.toList.map fun q=>(q.1,ρ' q.2)):=fun ps hp=>
  List.map_congr_left fun q hq=>by
   rw[hp q.2 (by simp;exact⟨q.1,by simpa using hq⟩)]
 cases op
 case call c=>
  have hin:∀x,x∈c.args.toList->ρ x=ρ' x:=fun x hx=>h x (by simp[Op.operands,Call.operands];exact .inr (by simpa using hx))
  have hargs:c.args.toList.map ρ=c.args.toList.map ρ':=List.map_congr_left fun x hx=>hin x hx
  cases hc:c.callee with
  |value g=>
   have hg:ρ g=ρ' g:=h g (by simp[Op.operands,Call.operands,hc])
   simp only[opRD,hc,hg,hargs]
  |invoke r m=>simp only[opRD,hc]
  |builtin b=>
   simp only[opRD,hc]
   rcases hl:c.args.toList with _|⟨x,_|⟨y,_|⟨z,l⟩⟩⟩
   .cases b<;>(first|rfl|(cases dst<;>rfl))
   .have hx:=hin x (by rw[hl];simp)
    generalize c.argTypes[0]? =at0
    cases b<;>(first|rfl|(cases at0<;>first|rfl|simp only[hx])|(cases dst<;>rfl))
   .have hx:=hin x (by rw[hl];simp)
    have hy:=hin y (by rw[hl];simp)
    generalize c.argTypes.toList=at1
    cases b<;>(first|rfl|(simp only[hx,hy];done)|(cases dst<;>rcases at1 with _|⟨t1,_|⟨t2,_|⟨t3,l⟩⟩⟩<;>first|rfl|(simp only[hx,hy];done)))
   .rcases l with _|⟨u,l⟩
    .have hx:=hin x (by rw[hl];simp)
     have hy:=hin y (by rw[hl];simp)
     have hz:=hin z (by rw[hl];simp)
     cases b<;>(first|rfl|(cases dst<;>rfl)|(simp only[hx,hy,hz];done))
    .cases b<;>(first|rfl|(cases dst<;>rfl))
 all_goals simp only[Op.operands]at h
 all_goals simp only[opRD]
 case build t ps=>rw[pairs ps h]
 case buildSlice t n ps=>rw[pairs ps h]
 case makeFunc g first captured=>
  have hc:captured.toList.map ρ=captured.toList.map ρ':=List.map_congr_left fun x hx=>h x (by simp;exact .inr (by simpa using hx))
  cases g with
  |func f=>simp only[hc]
  |_=>rfl
 case slice t x lo hi mx=>cases mx<;>cases lo<;>cases hi<;>simp_all
 all_goals(first|rfl|(simp_all;done))
theorem step1_move {E:Env} {all:Array Oper} {s s':LSt} {o:Oper} {e:Eff} {fp:FP} (h:Step1 E all s o e fp) (hs:seen all s' o=seen all s o) (he:∀z,z∈o.op.operands->s'.ev z=s.ev z) (hb:∀k,k∈fp.rb->lookB s'.B k=lookB s.B k) (ht:∀t,t∈fp.rt->lookT s'.T t=lookT s.T t):Step1 E all s' o e fp:=by
 unfold Step1 at h⊢
 rw[hs]
 have go:(opRD E o.op o.dst s.ev).R s [] [] e fp->(opRD E o.op o.dst s'.ev).R s' [] [] e fp:=fun h=>by
  rw[opRD_congr E o.op o.dst he]
  exact RD.R.move _ _ _ _ _ h hb ht
 cases hsn:seen all s o with
 |go=>rw[hsn]at h;exact go h
 |pass=>rw[hsn]at h;exact h
 |ask b want=>
  rw[hsn]at h
  simp only at h⊢
  split at h
  .rw [zf ‹_›];exact go h
  .rw [zu ‹_›];exact h
 |stuck=>rw[hsn]at h;exact h
theorem step1_writes {E:Env} {all:Array Oper} {s:LSt} {o:Oper} {e:Eff} {fp:FP} (h:Step1 E all s o e fp):fp.wb=e.boxes/\fp.wt=e.toks:=by
 have pass:e=skipEff/\fp=⟨[],[],[],[]⟩->fp.wb=e.boxes/\fp.wt=e.toks:=by rintro⟨rfl,rfl⟩;exact⟨rfl,rfl⟩
 unfold Step1 at h
 cases hsn:seen all s o with
 |go=>rw[hsn]at h;exact RD.R.writes _ _ _ h
 |pass=>rw[hsn]at h;exact pass h
 |ask b want=>
  rw[hsn]at h
  simp only at h
  split at h
  .exact RD.R.writes _ _ _ h
  .exact pass h
 |stuck=>rw[hsn]at h;exact h.elim
structure Indep (all:Array Oper) (x y:Oper) (p q:FP):Prop where
 xy:∀d,x.dst=some d->d∉y.looksAt all
 yx:∀d,y.dst=some d->d∉x.looksAt all
 dd:∀d,x.dst=some d->y.dst≠some d
 b1:∀k,k∈p.wb->k∉q.rb
 b2:∀k,k∈p.wb->k∉q.wb
 b3:∀k,k∈q.wb->k∉p.rb
 t1:∀k,k∈p.wt->k∉q.rt
 t2:∀k,k∈p.wt->k∉q.wt
 t3:∀k,k∈q.wt->k∉p.rt
theorem indep_of {all:Array Oper} {x y:Oper} {p q:FP} (h:indepB all x y p q=true):Indep all x y p q:=by
 simp only[indepB,FP.apart,zj]at h
 obtain⟨ha,⟨⟨⟨⟨h1,h2⟩,h3⟩,h4⟩,h5⟩,h6⟩:=h
 obtain⟨a1,a2,a3⟩:=Oper.apart_spec ha
 exact⟨a1,a3,a2,disjL_spec h1,disjL_spec h2,disjL_spec h3,disjL_spec h4,disjL_spec h5,disjL_spec h6⟩
theorem app_comm {s:LSt} {x y:Option Nat} {e f:Eff} (hd:∀d,x=some d->y≠some d) (hb:∀k,k∈e.boxes->k∉f.boxes) (ht:∀t,t∈e.toks->t∉f.toks):Like ((s.app x e).app y f) ((s.app y f).app x e):=by
 refine⟨getA_ext (by simp only[app_len]) (fun i=>?_),?_,?_⟩
 .simp only [app_L,app_len]
  by_cases h1:x=some i/\i<s.L.length
  .have h2:¬(y=some i/\i<s.L.length):=fun h=>hd i h1.1 h.1
   simp only[zu h2,zf h1]
  .by_cases h2:y=some i/\i<s.L.length
   .simp only [zf h2,zu h1]
   .simp only [zu h2,zu h1]
 .funext k
  simp only[app_B]
  by_cases h1:k∈f.boxes
  .have h2:k∉e.boxes:=fun h=>hb k h h1
   rw[Eff.updB_out _ e k h2]
   exact Eff.updB_in f k h1 _ _
  .rw [Eff.updB_out _ f k h1]
   by_cases h2:k∈e.boxes
   .exact Eff.updB_in e k h2 _ _
   .rw [Eff.updB_out _ e k h2,Eff.updB_out _ e k h2,Eff.updB_out _ f k h1]
 .funext k
  simp only[app_T]
  by_cases h1:k∈f.toks
  .have h2:k∉e.toks:=fun h=>ht k h h1
   rw[Eff.updT_out _ e k h2]
   exact Eff.updT_in f k h1 _ _
  .rw [Eff.updT_out _ f k h1]
   by_cases h2:k∈e.toks
   .exact Eff.updT_in e k h2 _ _
   .rw [Eff.updT_out _ e k h2,Eff.updT_out _ e k h2,Eff.updT_out _ f k h1]
theorem step1_like {E:Env} {all:Array Oper} {s s':LSt} {o:Oper} {e:Eff} {fp:FP} (h:Step1 E all s o e fp) (hl:Like s s'):Step1 E all s' o e fp:=
 step1_move h (by unfold seen;rw[hl.L]) (fun z _=>by rw[hl.ev]) (fun k _=>by rw[hl.B]) (fun t _=>by rw[hl.T])
theorem runs_like {E:Env} {all:Array Oper}:∀(l:List Oper) (s s1 s':LSt) (fps:List FP),Runs E all l s s' fps->Like s s1->∃s2,Runs E all l s1 s2 fps/\Like s' s2
 | [],s,s1,s',fps,h,hl=>⟨s1,⟨rfl,h.2⟩,by rw[h.1];exact hl⟩
 |o::l,s,s1,s',fps,h,hl=>by
  obtain⟨e,fp,fps',h1,h2,h3⟩:=h
  obtain⟨s2,h4,h5⟩:=runs_like l _ _ s' fps' h3 (hl.app o.dst e)
  exact⟨s2,⟨e,fp,fps',step1_like h1 hl,h2,h4⟩,h5⟩
theorem step1_swap {E:Env} {all:Array Oper} {s:LSt} {x y:Oper} {e f:Eff} {p q:FP} (hx:Step1 E all s x e p) (hy:Step1 E all (s.app x.dst e) y f q) (hi:Indep all x y p q):
  Step1 E all s y f q/\Step1 E all (s.app y.dst f) x e p/\Like ((s.app x.dst e).app y.dst f) ((s.app y.dst f).app x.dst e):=by
 obtain⟨wx1,wx2⟩:=step1_writes hx
 obtain⟨wy1,wy2⟩:=step1_writes hy
 refine⟨step1_move hy (seen_app hi.xy).symm (fun z hz=>(ev_app hi.xy z hz).symm) (fun k hk=>?_) (fun t ht=>?_),step1_move hx (seen_app hi.yx) (ev_app hi.yx) (fun k hk=>?_) (fun t ht=>?_),app_comm hi.dd (fun k hk=>?_) (fun t ht=>?_)⟩
 .rw [app_B];exact(Eff.updB_out _ e k (fun h=>hi.b1 k (wx1▸h) hk)).symm
 .rw [app_T];exact(Eff.updT_out _ e t (fun h=>hi.t1 t (wx2▸h) ht)).symm
 .rw [app_B];exact Eff.updB_out _ f k (fun h=>hi.b3 k (wy1▸h) hk)
 .rw [app_T];exact Eff.updT_out _ f t (fun h=>hi.t3 t (wy2▸h) ht)
 .exact wy1▸hi.b2 k (wx1▸hk)
 .exact wy2▸hi.t2 t (wx2▸ht)
theorem runs_front {E:Env} {all:Array Oper} {y:Oper} {q:FP}:∀(l1 l2:List Oper) (f1 f2:List FP) (s s':LSt),f1.length=l1.length->Runs E all (l1++y::l2) s s' (f1++q::f2)->(∀(i:Nat) x p,l1[i]? =some x->f1[i]? =some p->Indep all x y p q)->
  ∃e s'',Step1 E all s y e q/\Runs E all (l1++l2) (s.app y.dst e) s'' (f1++f2)/\Like s'' s'
 | [],l2,f1,f2,s,s',hl,h,_=>by
  have:f1=[]:=zbj hl
  subst this
  obtain⟨e,fp,fps',h1,h2,h3⟩:=h
  simp at h2
  obtain⟨rfl,rfl⟩:=h2
  exact⟨e,s',h1,h3,Like.refl _⟩
 |x::l1,l2,f1,f2,s,s',hl,h,hi=>by
  match f1,hl with
  |p::f1,hl=>
   obtain⟨e,fp,fps',h1,h2,h3⟩:=h
   simp only[zbk,List.cons.injEq]at h2
   obtain⟨rfl,rfl⟩:=h2
   obtain⟨f,s'',g1,g2,g3⟩:=runs_front l1 l2 f1 f2 _ s' (by simpa using hl) h3 (fun i x' p' hx hp=>hi (i+1) x' p' (by simpa using hx) (by simpa using hp))
   obtain⟨k1,k2,k3⟩:=step1_swap h1 g1 (hi 0 x p rfl rfl)
   obtain⟨s3,g4,g5⟩:=runs_like _ _ _ _ _ g2 k3
   exact⟨f,s3,k1,⟨e,p,f1++f2,k2,rfl,g4⟩,g5.symm.trans g3⟩
def masks :List Oper->List Nat->List Nat
 | [],acc=>acc
 |o::l,acc=>masks l (acc++ [o.after.toList.foldl (fun m e=>if Region.binds .any e then m|||(1<<<e.on)|||acc.getD e.on 0 else m) 0])
def pairB (all:Array Oper) (ms:List Nat) (l:List (Oper×FP)) (i j:Nat):Bool:=
 (ms.getD j 0).testBit i||match l[i]?,l[j]? with
  |some (x,p),some (y,q)=>indepB all x y p q
  |_,_=>false
def drawB (all:List Oper) (fps:List FP):Bool:=
 let ms:=masks all []
 let l:=all.zip fps
 (List.range all.length).all fun j=>(List.range j).all fun i=>pairB all.toArray ms l i j
inductive Ahead (all:Array Oper):Nat->Nat->Prop where
 |edge (i j:Nat) (o:Oper) (e:Edge) (hj:all[j]? =some o) (he:e∈o.after) (hb:Region.binds .any e=true) (hi:e.on=i):Ahead all i j
 |step (i k j:Nat) (o:Oper) (e:Edge) (hj:all[j]? =some o) (he:e∈o.after) (hb:Region.binds .any e=true) (hk:e.on=k) (h:Ahead all i k):Ahead all i j
theorem masks_spec (all:List Oper):∀(l:List Oper) (acc:List Nat),all=all.take acc.length++l->(∀j i,(acc.getD j 0).testBit i=true->Ahead all.toArray i j)->∀j i,((masks l acc).getD j 0).testBit i=true->Ahead all.toArray i j
 | [],acc,_,h=>h
 |o::l,acc,hall,h=>by
  have hlen:acc.length<all.length:=by
   have:=congrArg List.length hall
   simp at this;omega
  have ho:all[acc.length]? =some o:=by
   rw[hall]
   rw[zaz (by simp;omega)]
   simp[Nat.min_eq_left (Nat.le_of_lt hlen)]
  refine masks_spec all l _ ?_ (fun j i hb=>?_)
  .simp only [zam,zbE]
   rw[zo hlen]
   have:all[acc.length]=o:=by rw[zc hlen]at ho;exact Option.some.inj ho
   rw[this,zao]
   simpa using hall
  .by_cases hj:j<acc.length
   .rw [List.getD_eq_getElem?_getD,zay hj,<-List.getD_eq_getElem?_getD]at hb
    exact h j i hb
   .by_cases hj2:j=acc.length
    .subst hj2
     have hfold:∀(es:List Edge) (m:Nat),(es.foldl (fun m e=>if Region.binds .any e then m|||(1<<<e.on)|||acc.getD e.on 0 else m) m).testBit i=true->m.testBit i=true\/ ∃e,e∈es/\Region.binds .any e=true/\(e.on=i\/(acc.getD e.on 0).testBit i=true):=by
      intro es
      induction es with
      |nil=>exact fun m hm=>.inl hm
      |cons e es ih=>
       intro m hm
       simp only[zaq]at hm
       rcases ih _ hm with h1|⟨e',h1,h2,h3⟩
       .split at h1
        .rename_i hbd
         simp only[Nat.testBit_or,za1,Nat.one_shiftLeft,Nat.testBit_two_pow]at h1
         rcases h1 with(h1|h1)|h1
         .exact .inl h1
         .exact .inr ⟨e,zy,hbd,.inl (by simpa using h1)⟩
         .exact .inr ⟨e,zy,hbd,.inr h1⟩
        .exact .inl h1
       .exact .inr ⟨e',zl _ h1,h2,h3⟩
     have hb':((o.after.toList.foldl (fun m e=>if Region.binds .any e then m|||(1<<<e.on)|||acc.getD e.on 0 else m) 0)).testBit i=true:=by
      simpa[List.getD]using hb
     rcases hfold _ _ hb' with h1|⟨e,h1,h2,h3⟩
     .simp at h1
     .rcases h3 with h3|h3
      .exact .edge i _ o e (by simpa using ho) (by simpa using h1) h2 h3
      .exact .step i e.on _ o e (by simpa using ho) (by simpa using h1) h2 rfl (h _ _ h3)
    .have:acc.length+1<=j:=by omega
     rw[List.getD_eq_getElem?_getD,zaM (by simp;omega)]at hb
     simp at hb
def Closed (all:Array Oper) (listed:Array Bool):Prop:=∀j o e,listed.getD j false=true->all[j]? =some o->e∈o.after->Region.binds .any e=true->listed.getD e.on false=true
theorem closed_ahead {all:Array Oper} {listed:Array Bool} (hc:Closed all listed) {i j:Nat} (h:Ahead all i j):listed.getD j false=true->listed.getD i false=true:=by
 induction h with
 |edge j o e hj he hb hi=>exact fun hl=>hi▸hc j o e hl hj he hb
 |step k j o e hj he hb hk h ih=>exact fun hl=>ih (hk▸hc j o e hl hj he hb)
theorem ready_ahead {all:Array Oper} {listed:Array Bool} (hc:Closed all listed) {i j:Nat} (h:Ahead all i j) (hr:j∈Region.ready .any all listed):listed.getD i false=true:=by
 obtain⟨_,o,ho,hall⟩:=mem_ready.1 hr
 cases h with
 |edge _ o' e hj he hb hi=>rw[hj]at ho;cases ho;exact hi▸hall e he hb
 |step k _ o' e hj he hb hk h=>rw[hj]at ho;cases ho;exact closed_ahead hc h (hk▸hall e he hb)
def Pairs (all:Array Oper) (rem:List (Nat×Oper×FP)):Prop:=
 ∀(a b:Nat) i j x y p q,a<b->rem[a]? =some (i,x,p)->rem[b]? =some (j,y,q)->Ahead all i j\/Indep all x y p q
theorem any_runs {E:Env} (hE:EnvOk E) {all:Array Oper} {Q:Exit->Act->World->Prop} {R:Root} (hR0:ROk E R):∀(fuel:Nat) (rem:List (Nat×Oper×FP)) (listed:Array Bool) (s s':LSt) (hQ:∀a w,Rel R s' a w->Q .normal a w) (a:Act) (w:World),rem.length=fuel->listed.size=all.size->
  (∀i,listed.getD i true=false↔∃x p,(i,x,p)∈rem)->(∀i x p,(i,x,p)∈rem->all[i]? =some x)->(∀(k k':Nat) i x p x' p',rem[k]? =some (i,x,p)->rem[k']? =some (i,x',p')->k=k')->Pairs all rem->Closed all listed->Runs E all (rem.map (·.2.1)) s s' (rem.map (·.2.2))->Rel R s a w->
  (Region.ready .any all listed=[]->rem=[])->(∀l:Array Bool,l.size=all.size->(∃i,i<all.size/\l.getD i true=false)->Closed all l->Region.ready .any all l≠ [])->wpAny E.P .any all Q fuel listed a w
 |0,rem,listed,s,s',hQ,a,w,hlen,hsz,hrem,hall,hinj,hp,hc,hr,hR,hne,hlive=>by
  have:rem=[]:=zbj hlen
  subst this
  have hnil:Region.ready .any all listed=[]:=by
   rw[List.eq_nil_iff_forall_not_mem]
   intro i hi
   obtain⟨x,p,h⟩:=(hrem i).1 (mem_ready.1 hi).1
   simp at h
  refine⟨hnil,hQ a w ?_⟩
  rw[hr.1];exact hR
 |fuel+1,rem,listed,s,s',hQ,a,w,hlen,hsz,hrem,hall,hinj,hp,hc,hr,hR,hne,hlive=>by
  refine⟨fun h=>?_,fun i hi=>?_⟩
  .rw [hne h]at hlen;simp at hlen
  .obtain ⟨hun,o,ho,hafter⟩:=mem_ready.1 hi
   obtain⟨x,p,hmem⟩:=(hrem i).1 hun
   obtain⟨k,hk,hk2⟩:=zav.1 hmem
   have hk3:rem[k]? =some (i,x,p):=by rw[zc hk,hk2]
   have hxo:all[i]? =some x:=hall i x p hmem
   obtain⟨l1,l2,e1,e2,e3⟩:∃l1 l2:List (Nat×Oper×FP),rem=l1++(i,x,p)::l2/\l1.length=k/\(∀y,y∈l1->y∈rem):=by
    refine⟨rem.take k,rem.drop (k+1),?_,by simp;omega,fun y hy=>zaP hy⟩
    conv=>lhs;rw[<-zaR k rem]
    rw[zan hk,hk2]
   subst e1
   rw[zaK,zv,zaK,zv]at hr
   obtain⟨e,s2,h1,h2,hlk⟩:=runs_front _ _ _ _ _ _ (by simp) hr (fun t y q hy hq=>by
    rw[zaF]at hy hq
    cases ht:l1[t]? with
    |none=>simp[ht]at hy
    |some z=>
     obtain⟨j,y',q'⟩:=z
     simp[ht]at hy hq
     subst hy;subst hq
     have htl:t<l1.length:=(zh.1 ht).1
     rcases hp t k j i y' x q' p (by omega) (by rw[zay htl];exact ht) hk3 with h|h
     .have hl:=ready_ahead hc h hi
      have hju:listed.getD j true=false:=(hrem j).2 ⟨y',q',zad _ (zak ht)⟩
      exfalso
      have hjs:j<listed.size:=by
       rcases Nat.lt_or_ge j listed.size with h'|h'
       .exact h'
       .simp [Array.getD,Nat.not_lt.2 h']at hl
      simp[Array.getD,hjs]at hl hju
      rw[hl]at hju;cases hju
     .exact h)
   have his:i<listed.size:=by rw[hsz];exact(zaU.1 hxo).1
   have hset:∀j d,(listed.setIfInBounds i true).getD j d=if j=i then true else listed.getD j d:=fun j d=>by
    by_cases h:j=i
    .subst h;simp[Array.getD,his]
    .rw [zu h,getD_set_ne d (Ne.symm h)]
   have hclosed:Closed all (listed.setIfInBounds i true):=fun j o' e' hl hj he hb=>by
    rw[hset]at hl⊢
    by_cases h:j=i
    .subst h
     rw[hj]at ho;cases ho
     have:=hafter e' he hb
     rw[this];simp
    .rw [zu h]at hl
     rw[hc j o' e' hl hj he hb];simp
   have hiu:∀y q,(i,y,q)∉l1++l2:=fun y q hin=>by
    rcases zaB.1 hin with hin|hin
    .obtain ⟨t,ht,ht2⟩:=zav.1 hin
     have:=hinj t k i y q x p (by rw[zay ht,zc ht,ht2]) hk3
     omega
    .obtain ⟨t,ht,ht2⟩:=zav.1 hin
     have:=hinj (l1.length+(t+1)) k i y q x p (by rw[zaz (by omega),Nat.add_sub_cancel_left,List.getElem?_cons_succ,zc ht,ht2]) hk3
     omega
   have hsub:∀(t:Nat) z,(l1++l2)[t]? =some z->∃t',(l1++(i,x,p)::l2)[t']? =some z/\t'=if t<l1.length then t else t+1:=fun t z hz=>by
    by_cases ht:t<l1.length
    .rw [zay ht]at hz
     exact⟨t,by rw[zay ht];exact hz,by rw[zf ht]⟩
    .rw [zaz (by omega)]at hz
     refine⟨t+1,?_,by rw[zu ht]⟩
     rw[zaz (by omega),show t+1-l1.length=(t-l1.length)+1 from by omega,List.getElem?_cons_succ];exact hz
   have hrem':∀j,(listed.setIfInBounds i true).getD j true=false↔∃y q,(j,y,q)∈l1++l2:=fun j=>by
    rw[hset]
    by_cases h:j=i
    .subst h
     simp only[if_true]
     exact⟨(fun h=>by cases h),fun⟨y,q,h⟩=>absurd h (hiu y q)⟩
    .rw [zu h,hrem j]
     constructor
     .rintro ⟨y,q,hin⟩
      refine⟨y,q,?_⟩
      rcases zaB.1 hin with hin|hin
      .exact zad _ hin
      .rcases zp.1 hin with hin|hin
       .cases hin;exact absurd rfl h
       .exact zaJ _ hin
     .rintro ⟨y,q,hin⟩
      refine⟨y,q,?_⟩
      rcases zaB.1 hin with hin|hin
      .exact zad _ hin
      .exact zaJ _ (zl _ hin)
   refine step1_wp hE h1 hxo hR0 hR (fun a' w' hR'=>any_runs hE hR0 fuel (l1++l2) _ _ s2 (fun a w h=>hQ a w (hlk.rel h)) a' w' (by simp at hlen⊢;omega) (by simpa using hsz) hrem' (fun j y q hin=>?_) (fun t t' j y q y' q' ht ht'=>?_) (fun t t' j j' y y' q q' hlt ht ht'=>?_) hclosed (by rw[zaK,zaK];exact h2) hR' (fun hnil=>?_) hlive)
   .exact hall j y q (by
     rcases zaB.1 hin with hin|hin
     .exact zad _ hin
     .exact zaJ _ (zl _ hin))
   .obtain ⟨u,hu,eu⟩:=hsub t _ ht
    obtain⟨u',hu',eu'⟩:=hsub t' _ ht'
    have:=hinj u u' j y q y' q' hu hu'
    split at eu<;>split at eu'<;>omega
   .obtain ⟨u,hu,eu⟩:=hsub t _ ht
    obtain⟨u',hu',eu'⟩:=hsub t' _ ht'
    exact hp u u' j j' y y' q q' (by split at eu<;>split at eu'<;>omega) hu hu'
   .rcases List.eq_nil_or_concat (l1++l2)with h|⟨l,z,h⟩
    .exact h
    .exfalso
     obtain⟨j,y,q⟩:=z
     have hin:(j,y,q)∈l1++l2:=by rw[h];simp
     have hju:=(hrem' j).2 ⟨y,q,hin⟩
     have hjs:j<all.size:=by
      have:=hall j y q (by
       rcases zaB.1 hin with hin|hin
       .exact zad _ hin
       .exact zaJ _ (zl _ hin))
      exact(zaU.1 this).1
     exact hlive _ (by simpa using hsz) ⟨j,hjs,hju⟩ hclosed hnil
def backB (all:List Oper):Bool:=(List.range all.length).all fun j=>match all[j]? with
 |some o=>o.after.toList.all fun e=> !Region.binds .any e||decide (e.on<j)
 |none=>true
theorem back_spec {all:Array Oper} (hb:backB all.toList=true) (j:Nat) (o:Oper) (hj:all[j]? =some o) (e:Edge) (he:e∈o.after) (hbd:Region.binds .any e=true):e.on<j:=by
 have hjl:j<all.size:=(zaU.1 hj).1
 have h1:=zax.1 hb j (by simpa using hjl)
 rw[show all.toList[j]? =some o from by simpa using hj]at h1
 have h2:=zax.1 h1 e (by simpa using he)
 rw[hbd]at h2
 simpa using h2
theorem ready_live {all:Array Oper} (hb:backB all.toList=true) (l:Array Bool) (hsz:l.size=all.size) (h:∃i,i<all.size/\l.getD i true=false):Region.ready .any all l≠ []:=by
 obtain⟨i,hi,hu⟩:=h
 have key:∀n i,i<=n->i<all.size->l.getD i true=false->∃j,j∈Region.ready .any all l:=by
  intro n
  induction n with
  |zero=>
   intro i hin hi hu
   obtain rfl:i=0:=by omega
   refine⟨0,mem_ready.2 ⟨hu,all[0],by simp[hi],fun e he hbd=>?_⟩⟩
   have:=back_spec hb 0 all[0] (by simp[hi]) e he hbd
   omega
  |succ n ih=>
   intro i hin hi hu
   by_cases hall:∀e,e∈(all[i]).after->Region.binds .any e=true->l.getD e.on false=true
   .exact ⟨i,mem_ready.2 ⟨hu,all[i],by simp[hi],hall⟩⟩
   .obtain ⟨e,he⟩:=Classical.not_forall.1 hall
    obtain⟨he1,he2⟩:=Classical.not_imp.1 he
    obtain⟨hbd,hnl⟩:=Classical.not_imp.1 he2
    have:=back_spec hb i all[i] (by simp[hi]) e he1 hbd
    have hon:e.on<all.size:=by omega
    refine ih e.on (by omega) hon ?_
    simp[Array.getD,hsz,hon]at hnl⊢
    exact hnl
 obtain⟨j,hj⟩:=key i i (zae _) hi hu
 exact List.ne_nil_of_mem hj
def okDraw (ops:List Oper) (fps:List FP):Bool:=drawB ops fps&&backB ops
theorem setA_same :∀(L:List AV) (t:Nat) (v:AV),getA L t=v->v≠ .dead->setA L t v=L
 | [],t,v,_,_=>rfl
 |x::L,0,v,h,_=>by simp only[getA]at h;subst h;rfl
 |x::L,t+1,v,h,hd=>by simp only[setA,setA_same L t v h hd]
theorem setA_bool {s:LSt} {t:Nat} {b:Bool} (h:getA s.L t= .pv .bool b):({s with L:=setA s.L t (.pv .bool b)}:LSt)=s:=by
 rw[setA_same s.L t _ h (by simp)]
theorem runOps_runs {ρ:Type} (E:Env) (all:Array Oper) {z:ρ}:∀(l:List Oper) (s:LSt) (acc:List FP) (K:LSt->List FP->Option ρ),runOps E all l s acc K=some z->∃s' fps,Runs E all l s s' fps/\K s' (acc.reverse++fps)=some z
 | [],s,acc,K,h=>⟨s,[],⟨rfl,rfl⟩,by rw[zat];exact h⟩
 |o::l,s,acc,K,h=>by
  have go:(opRD E o.op o.dst s.ev).run s [] [] (fun e fp=>runOps E all l (s.app o.dst e) (fp::acc) K)=some z->∃e fp s' fps,(opRD E o.op o.dst s.ev).R s [] [] e fp/\Runs E all l (s.app o.dst e) s' fps/\K s' (acc.reverse++fp::fps)=some z:=fun h=>by
   obtain⟨e,fp,h1,h2⟩:=RD.run_R _ _ _ h
   obtain⟨s',fps,h3,h4⟩:=runOps_runs E all l _ _ K h2
   exact⟨e,fp,s',fps,h1,h3,by simpa using h4⟩
  have pass:runOps E all l (s.app o.dst skipEff) (fp0::acc) K=some z->∃s' fps,Runs E all l (s.app o.dst skipEff) s' fps/\K s' (acc.reverse++fp0::fps)=some z:=fun h=>by
   obtain⟨s',fps,h3,h4⟩:=runOps_runs E all l _ _ K h
   exact⟨s',fps,h3,by simpa using h4⟩
  have goS:(∀e fp,(opRD E o.op o.dst s.ev).R s [] [] e fp->Step1 E all s o e fp)->(opRD E o.op o.dst s.ev).run s [] [] (fun e fp=>runOps E all l (s.app o.dst e) (fp::acc) K)=some z->∃s' fps,Runs E all (o::l) s s' fps/\K s' (acc.reverse++fps)=some z:=fun hs h=>by
   obtain⟨e,fp,s',fps,h1,h2,h3⟩:=go h
   exact⟨s',fp::fps,⟨e,fp,fps,hs e fp h1,rfl,h2⟩,h3⟩
  have passS:Step1 E all s o skipEff fp0->runOps E all l (s.app o.dst skipEff) (fp0::acc) K=some z->∃s' fps,Runs E all (o::l) s s' fps/\K s' (acc.reverse++fps)=some z:=fun hs h=>by
   obtain⟨s',fps,h2,h3⟩:=pass h
   exact⟨s',fp0::fps,⟨skipEff,fp0,fps,hs,rfl,h2⟩,h3⟩
  simp only[runOps]at h
  cases hg:o.guard with
  |none=>
   rw[hg]at h
   exact goS (fun e fp hr=>by simp only[Step1,seen,hg];exact hr) h
  |some jw=>
   obtain⟨j,want⟩:=jw
   rw[hg]at h
   simp only at h
   cases hd:(all[j]?).bind (·.dst)with
   |none=>
    rw[hd]at h
    exact passS (by unfold Step1 seen;rw[hg];simp only[hd];(first|exact⟨rfl,rfl⟩|exact⟨True.intro,rfl⟩|trivial)) h
   |some t=>
    rw[hd]at h
    simp only at h
    split at h
    .rename_i b hb
     cases b with
     |true=>
      simp only at h
      rw[setA_bool hb]at h
      cases want with
      |true=>
       simp only[if_true]at h
       exact goS (fun e fp hr=>by simp only[Step1,seen,hg,hd,hb,if_true];exact hr) h
      |false=>
       simp only[za7,if_false]at h
       exact passS (by simp only[Step1,seen,hg,hd,hb,Bool.true_eq_false,if_false];(first|exact⟨rfl,rfl⟩|exact⟨True.intro,rfl⟩|trivial)) h
     |false=>
      simp only at h
      rw[setA_bool hb]at h
      cases want with
      |true=>
       simp only[if_true]at h
       exact passS (by simp only[Step1,seen,hg,hd,hb,za7,if_false];(first|exact⟨rfl,rfl⟩|exact⟨True.intro,rfl⟩|trivial)) h
      |false=>
       simp only[za7,if_false]at h
       exact goS (fun e fp hr=>by simp only[Step1,seen,hg,hd,hb,if_true];exact hr) h
    .rename_i hb
     exact passS (by simp only[Step1,seen,hg,hd,hb];(first|exact⟨rfl,rfl⟩|exact⟨True.intro,rfl⟩|trivial)) h
    .cases h
theorem Rel.drew {R:Root} {s:LSt} {a:Act} {w:World} (h:Rel R s a w):Rel R s a w.drew:=by
 obtain⟨β,τ,F,S,hM,hn,hdf,hs⟩:=h
 have hb:Below w.heap.size w w.drew:=(Below.refl _ _).drew
 refine⟨β,τ,F,S,hM.grow hb (fun _ _ h=>h) (fun _ _ h=>.inl h) hM.lt,hn,hdf,lift3 (c:=s.ctx w S β τ) (c':=s.ctx w.drew S β τ) (same_le hb hM.lt (fun _ _ h=>h) _ _ _ _ _) (BoxLe.refl rfl rfl) (TokLe.refl rfl rfl) hs⟩
theorem runs_len {E:Env} {all:Array Oper}:∀(l:List Oper) (s s':LSt) (fps:List FP),Runs E all l s s' fps->fps.length=l.length
 | [],s,s',fps,h=>by rw[h.2];rfl
 |o::l,s,s',fps,h=>by
  obtain⟨e,fp,fps',h1,h2,h3⟩:=h
  rw[h2];simp[runs_len l _ _ _ h3]
theorem region_wp {E:Env} (hE:EnvOk E) (id:Nat) (ops:Array Oper) (draw:Bool) {R:Root} (hR0:ROk E R) {s s':LSt} {fps:List FP} (hr:Runs E ops ops.toList s s' fps) (hd:draw=true->drawB ops.toList fps=true/\backB ops.toList=true) {a:Act} {w:World} (hR:Rel R s a w) {K:Exit->Act->World->Prop}
  (hK:∀a' w',Rel R s' a' w'->K .normal a' w'):(Code.region id ops draw).wp E.P K a w:=by
 cases draw with
 |false=>
  refine wp_region ?_
  have:=runs_wp (Q:=K) hE hR0 ops.toList 0 rfl s s' fps hr a w hR (fun a' w' hR'=>hK a' w' hR')
  rw[List.range_eq_range']
  simpa using this
 |true=>
  obtain⟨hd1,hd2⟩:=hd rfl
  have hlen:=runs_len _ _ _ _ hr
  refine wp_region_any hE.mix ?_
  obtain⟨rem,hrem⟩:∃rem:List (Nat×Oper×FP),rem=(List.range ops.size).zip (ops.toList.zip fps):=⟨_,rfl⟩
  have hrl:rem.length=ops.size:=by rw[hrem];simp[hlen]
  have hget:∀(k:Nat) i x p,rem[k]? =some (i,x,p)->i=k/\ops[k]? =some x/\fps[k]? =some p:=fun k i x p h=>by
   rw[hrem,zbB]at h
   obtain⟨h1,h2⟩:=h
   obtain⟨h3,h4⟩:=zbB.1 h2
   obtain⟨h5,h6⟩:=zh.1 h1
   exact⟨by simpa using h6.symm,by simpa using h3,h4⟩
  have hgetx:∀k,k<ops.size->∃x p,rem[k]? =some (k,x,p):=fun k hk=>by
   have hk':k<rem.length:=by omega
   obtain⟨⟨i,x,p⟩,hz⟩:∃z,z=rem[k]:=⟨_,rfl⟩
   have h1:rem[k]? =some (i,x,p):=by rw[zc hk',<-hz]
   obtain⟨rfl,_⟩:=hget k i x p h1
   exact⟨x,p,h1⟩
  refine any_runs hE hR0 ops.size rem _ s s' (fun a' w' hR'=>hK a' w' hR') a w.drew hrl (by simp) (fun i=>?_) (fun i x p hin=>?_) (fun k k' i x p x' p' h1 h2=>?_) (fun i j i' j' x y p q hlt h1 h2=>?_) (fun j o e hl=>?_) ?_ hR.drew (fun hnil=>?_) (fun l hsz hex _=>ready_live hd2 l hsz hex)
  .constructor
   .intro hi
    by_cases h':i<ops.size
    .obtain ⟨x,p,hx⟩:=hgetx i h'
     exact⟨x,p,zak hx⟩
    .simp [Array.getD,h']at hi
   .rintro ⟨x,p,hin⟩
    obtain⟨k,hk,hk2⟩:=zav.1 hin
    obtain⟨rfl,hx,_⟩:=hget k i x p (by rw[zc hk,hk2])
    have:i<ops.size:=(zaU.1 hx).1
    simp[Array.getD,this]
  .obtain ⟨k,hk,hk2⟩:=zav.1 hin
   obtain⟨rfl,hx,_⟩:=hget k i x p (by rw[zc hk,hk2])
   exact hx
  .rw [<-(hget k i x p h1).1,<-(hget k' i x' p' h2).1]
  .obtain ⟨rfl,hx,hp⟩:=hget i _ x p h1
   obtain⟨rfl,hy,hq'⟩:=hget j _ y q h2
   have hj:j'<ops.size:=(zaU.1 hy).1
   have h3:=zax.1 hd1 j' (by simpa using hj)
   have h4:=zax.1 h3 i' (by simpa using hlt)
   unfold pairB at h4
   rw[za1]at h4
   rcases h4 with h5|h5
   .left
    have:=masks_spec ops.toList ops.toList [] (by simp) (fun j i hb=>by simp at hb) j' i' h5
    simpa using this
   .right
    have e1:(ops.toList.zip fps)[i']? =some (x,p):=zbB.2 ⟨by simpa using hx,hp⟩
    have e2:(ops.toList.zip fps)[j']? =some (y,q):=zbB.2 ⟨by simpa using hy,hq'⟩
    rw[e1,e2]at h5
    simp only at h5
    exact indep_of (by simpa using h5)
  .by_cases h':j<ops.size
   .simp [Array.getD,h']at hl
   .simp [Array.getD,h']at hl
  .have e1:rem.map (·.2.1)=ops.toList:=by
    rw[hrem]
    apply zbc
    intro k
    rw[zaF]
    by_cases hk:k<ops.size
    .obtain ⟨x,p,hx⟩:=hgetx k hk
     rw[<-hrem,hx]
     have:=(hget k k x p hx).2.1
     simpa using this.symm
    .rw [zaM (by simp[hlen];omega),zaM (by simpa using hk)];rfl
   have e2:rem.map (·.2.2)=fps:=by
    rw[hrem]
    apply zbc
    intro k
    rw[zaF]
    by_cases hk:k<ops.size
    .obtain ⟨x,p,hx⟩:=hgetx k hk
     rw[<-hrem,hx]
     exact(hget k k x p hx).2.2.symm
    .rw [zaM (by simp[hlen];omega),zaM (by rw[hlen];simpa using hk)];rfl
   rw[e1,e2];exact hr
  .by_cases h0:ops.size=0
   .exact zbj (by omega)
   .exfalso
    exact ready_live hd2 _ (by simp) ⟨0,by omega,by simp[Array.getD,Nat.pos_of_ne_zero h0]⟩ hnil
theorem all2_tmps {c:Ctx} {L:List AV} {a:Act} (hn:a.tmps.size=L.length) (hs:∀i,V3 c (getA L i) (a.tmps.getD i undef)):All2 (V3 c) L a.tmps.toList:=by
 have hget:∀(L:List AV) (i:Nat),getA L i=(L[i]?).getD .dead:=by
  intro L
  induction L with
  |nil=>intro i;rfl
  |cons x L ih=>intro i;cases i with
   |zero=>rfl
   |succ i=>simpa[getA]using ih i
 refine All2.of_get (by simp[hn]) (fun i x v hx hv=>?_)
 have h1:=hs i
 rw[hget,hx,za8]at h1
 have h2:a.tmps.getD i undef=v:=by
  rw[zaN]at hv
  have hi:i<a.tmps.size:=(zaU.1 hv).1
  rw[zbt hi]at hv
  simp[Array.getD,hi,Option.some.inj hv]
 rw[h2]at h1;exact h1
theorem tmps_all2 {c:Ctx} {L:List AV} {t:Array Value} (h:All2 (V3 c) L t.toList):t.size=L.length/\∀i,V3 c (getA L i) (t.getD i undef):=by
 have hl:=h.len
 have hget:∀(L:List AV) (i:Nat),getA L i=(L[i]?).getD .dead:=by
  intro L
  induction L with
  |nil=>intro i;rfl
  |cons x L ih=>intro i;cases i with
   |zero=>rfl
   |succ i=>simpa[getA]using ih i
 refine⟨by simpa using hl.symm,fun i=>?_⟩
 rw[hget]
 by_cases hi:i<L.length
 .have hi':i<t.size:=by simp at hl;omega
  have:=h.get' i L[i] t[i] (by simp[hi]) (by simp[hi'])
  simpa[hi,Array.getD,hi']using this
 .rw [zaM (by omega)]
  exact True.intro
theorem conv_root {E:Env} {R:Root} (hR0:ROk E R) {w:World} {S:Stab} {s:LSt} {β:Nat->Nat} {τ:Nat->Value} {F:Nat->Nat->Prop} (hM:Mem R (lookB s.B) (lookT s.T) β τ F S w)
  {sh:Sh} {xs:List AV} {y:HD sh.codes} {acc:Acc} (hc:sh.conv s.B s.T xs=some (y,acc)) (hok:resOk E acc=true) {vals:List Value} (hv:All2 (V3 (s.ctx w S β τ)) xs vals):
  ∃S',Mem R (lookB (sh.mk' y).B) (lookT (sh.mk' y).T) (shβ acc β) (shτ acc τ) (shF acc F) S' w/\All2 (V3 ((sh.mk' y).ctx w S' (shβ acc β) (shτ acc τ))) (sh.mk' y).L vals:=by
 obtain⟨hinv,S',hSS,hM',hcb,hct,hct2,hcb2,hMB,hv0⟩:=conv_mem hM (fun k b h=>h) (fun n z h=>h) hc hv
 simp only[resOk,zj,zax]at hok
 obtain⟨okB,okT⟩:=hok
 have hβ:∀ {k k'},lookR acc.rb k=some k'->shβ acc β k=β k':=fun {k k'} h=>by unfold shβ;rw[h];rfl
 obtain⟨g1,g2,g3,g4,g5⟩:=hMB R.fr (fun k b hk=>by
   obtain⟨k',b',e1,e2,_⟩:=hcb k b hk
   rw[hβ e1];exact(hM'.boxes k' b' e2).1) (fun t tk b ht hb=>by
   obtain⟨n',e1,e2⟩:=hct t tk ht
   have hl:=lookR_nodup hinv.rt.1 t n' e1
   unfold shF at hb
   rw[hl]at hb
   cases n' with
   |none=>exact hb.elim
   |some m=>
    obtain⟨tk0,e3,_⟩:=e2
    exact((hM'.toks m tk0 e3).1 b hb).1)
 refine⟨S',⟨hM'.upd,hM'.old,hM'.new,hM'.keep,hM'.lt,g1,g2,g3,g4,g5,fun k b hb hk=>?_,fun t v tk hv ht=>?_,fun n tk hs i o d hn htr hin hne=>absurd (mk_whole _ _ n tk hn hs i o d htr hin) hne⟩,hv0⟩
 .obtain ⟨b1,hb1⟩:=zaa.1 hk
  obtain⟨k',b',e1,e2,_⟩:=hcb k b1 hb1
  have hr:=hR0.1 k (by rw[hb];simp)
  have:=okB (k,k') (lookR_mem e1)
  simp[hr]at this
  subst this
  rw[hβ e1]
  exact hM'.bfix k b hb (by rw[e2];simp)
 .obtain ⟨n',e1,e2⟩:=hct t tk ht
  have hr:=hR0.2.1 t (by rw[hv];simp)
  have:=okT (t,n') e1
  cases n' with
  |none=>simp[hr]at this
  |some m=>
   simp[hr]at this
   subst this
   obtain⟨tk0,e3,_⟩:=e2
   have hl:=lookR_nodup hinv.rt.1 t (some t) e1
   unfold shτ
   rw[hl]
   exact hM'.tfix t v tk0 hv e3
theorem to0_rel {E:Env} {R:Root} (hR0:ROk E R) {sh:Sh} {s:LSt} {y:HD sh.codes} (h:sh.to0 E s=some y) {a:Act} {w:World} (hR:Rel R s a w):Rel R (sh.mk' y) a w:=by
 unfold Sh.to0 at h
 split at h
 case h_2=>cases h
 rename_i y' acc hc
 split at h
 case isFalse=>cases h
 rename_i hok
 cases h
 obtain⟨β,τ,F,S,hM,hn,hd,hs⟩:=hR
 obtain⟨S',hM',hv⟩:=conv_root hR0 hM hc hok (all2_tmps hn hs)
 obtain⟨h1,h2⟩:=tmps_all2 hv
 exact⟨_,_,_,S',hM',h1,hd,h2⟩
theorem to_rel {E:Env} {R:Root} (hR0:ROk E R) {sh:Sh} {s:LSt} {y:HD sh.codes} (h:sh.to E s=some y) {a:Act} {w:World} (hR:Rel R s a w):Rel R (sh.mk' y) a w:=to0_rel hR0 h (plugAll_rel hR)
theorem nextOf_spec {ops:List Oper} {draw:Bool} {d:Option Nat} {x:Operand} (h:nextOf ops draw=some (d,x)):∃o l,draw=false/\ops=o::l/\o.op= .next x false/\o.guard=none/\d=o.dst:=by
 unfold nextOf at h
 split at h
 case h_2=>cases h
 rename_i o l
 split at h
 case h_2=>cases h
 rename_i x' h1 h2
 cases h
 exact⟨o,l,rfl,rfl,h1,h2,rfl⟩
theorem opAt_wp {P:Program} {all:Array Oper} {o:Oper} {i:Nat} (hi:all[i]? =some o) (hg:o.guard=none) {a:Act} {w:World} {Kc:Act->World->Prop} {Q:Exit->Act->World->Prop} (h:o.wp P a w Kc Q):Go.wpOp P all Q i Kc a w:=by
 unfold Go.wpOp
 have hw:Region.wanted o (yielded all a.tmps)=true:=by unfold Region.wanted;rw[hg]
 simp only[hi,hw,if_true]
 exact .inl h
def CWp (E:Env) (R:Root) (c:Code) (Q:Exit->LSt->Prop) (s:LSt):Prop:=
 ∀a w,Rel R s a w->c.wp E.P (fun e a' w'=>∃s',Rel R s' a' w'/\Q e s') a w
theorem runC_sound {ρ:Type} {E:Env} (hE:EnvOk E) {R:Root} (hR0:ROk E R) (N:Nat) {z:ρ}:∀(c:Code) (h:Hint) (s:LSt) (K:Exit->LSt->Option ρ),runC N E okDraw c h s K=some z->CWp E R c (fun e s'=>K e s'=some z) s:=by
 intro c
 induction c with
 |skip=>exact fun h s K hr a w hR=>wp_skip ⟨s,hR,hr⟩
 |region id ops draw=>
  intro h s K hr a w hR
  simp only[runC]at hr
  simp only[tidy_eq]at hr
  obtain⟨s,hr,hgh⟩:=ghostRun_rel h.ghosts s hr
  have hR:=hgh R a w hR0 hR
  split at hr
  .rename_i d x hnx
   have hn:=hr
   clear hr
   obtain⟨o,l,hd,hops,hop,hg,hdst⟩:=nextOf_spec hnx
   subst hd
   refine wp_region ?_
   have hlen:ops.size=l.length+1:=by rw[<-zbd,hops];rfl
   rw[List.range_eq_range',hlen,List.range'_succ,wpOps_cons]
   have ho0:ops[0]? =some o:=by rw[<-zaN,hops];rfl
   rw[hdst]at hn
   refine opAt_wp ho0 hg (next_wp x hop hn hR0 hR fun s' a' w' hK hR'=>?_)
   obtain⟨s'',fps,h1,h2⟩:=runOps_runs E ops _ _ _ _ hK
   exact runs_wp (Q:=fun e a w=>∃s',Rel R s' a w/\K e s'=some z) hE hR0 l 1 (by rw[hops];rfl) s' s'' fps (by rw[hops]at h1;exact h1) a' w' hR' (fun a' w' hR'=>⟨s'',hR',h2⟩)
  obtain⟨s',fps,h1,h2⟩:=runOps_runs E ops _ _ _ _ hr
  rw[List.reverse_nil,zaW]at h2
  have h3:(draw=true->drawB ops.toList fps=true/\backB ops.toList=true)/\K .normal s'=some z:=by
   cases draw with
   |false=>exact⟨(fun h=>by cases h),h2⟩
   |true=>
    simp only at h2
    split at h2
    .rename_i hok
     simp only[okDraw,zj]at hok
     exact⟨fun _=>hok,h2⟩
    .cases h2
  exact region_wp hE id ops draw hR0 h1 h3.1 hR (fun a' w' hR'=>⟨s',hR',h3.2⟩)
 |seq x y ihx ihy=>
  intro h s K hr a w hR
  simp only[runC]at hr
  split at hr
  .rename_i hx hy hh
   refine wp_seq (wp_mono (ihx hx s _ hr a w hR) (fun e a' w' he=>?_))
   obtain⟨s',hR',hq⟩:=he
   cases e with
   |normal=>exact ihy hy s' K hq a' w' hR'
   |_=>exact⟨s',hR',hq⟩
  .rename_i sh hx hy hh
   unfold meet at hr
   refine wp_seq (wp_mono (ihx hx s _ hr a w hR) (fun e a' w' he=>?_))
   obtain⟨s',hR',hq⟩:=he
   cases e with
   |normal=>
    simp only at hq
    split at hq
    case h_2=>cases hq
    rename_i g hg
    exact ihy hy _ K hq a' w' (to_rel hR0 hg hR')
   |_=>exact⟨s',hR',hq⟩
 |cond c x y ihx ihy=>
  intro h s K hr a w hR
  simp only[runC]at hr
  split at hr
  case h_2=>cases hr
  rename_i b hb
  have hR':=hR
  obtain⟨β,τ,F,S,hM,hn,hdf,hs⟩:=hR
  have hv:a.eval c= .bool b:=v3_bool (hb▸V3_ev hs c)
  have hset:setOp s c b=s:=by
   cases c with
   |tmp t=>exact setA_bool hb
   |_=>rfl
  refine wp_cond_split hv (fun ht=>?_) (fun hf=>?_)
  .rw [ht]at hr hset
   simp only at hr
   rw[hset]at hr
   exact ihx _ s K hr a w hR'
  .rw [hf]at hr hset
   simp only at hr
   rw[hset]at hr
   exact ihy _ s K hr a w hR'
 |block id b ih=>
  intro h s K hr a w hR
  simp only[runC]at hr
  refine wp_block (wp_mono (ih _ s _ hr a w hR) (fun e a' w' he=>?_))
  obtain⟨s',hR',hq⟩:=he
  cases e with
  |exit j=>
   simp only[Exit.inBlock]
   simp only at hq
   split
   .rename_i e;rw[e,Nat.beq_refl]at hq;exact⟨s',hR',hq⟩
   .rename_i e;rw[show Nat.beq j id=false from by cases hb:Nat.beq j id with|true=>exact absurd (zby hb) e|false=>rfl]at hq;exact⟨s',hR',hq⟩
  |_=>exact⟨s',hR',hq⟩
 |exit id=>exact fun h s K hr a w hR=>wp_exit ⟨s,hR,hr⟩
 |ret=>exact fun h s K hr a w hR=>wp_ret ⟨s,hR,hr⟩
 |label l=>exact fun h s K hr a w hR=>wp_label ⟨s,hR,hr⟩
 |loop b ih=>
  intro h s K hr a w hR
  simp only[runC]at hr
  split at hr
  case h_2=>cases hr
  rename_i sh hb
  split at hr
  case h_2=>cases hr
  rename_i x0 hx0
  refine wp_loop_ghost (fun n a w=>∃x,iter (fun go g=>runC N E okDraw b hb (sh.mk' g) fun e s'=>match e with| .normal=>(match sh.to E s' with|some g=>go g|none=>none)|e=>K e s') n x=some z/\Rel R (sh.mk' x) a w) N ⟨x0,hr,to_rel hR0 hx0 hR⟩ (fun n a w ⟨x,hx,hRx⟩=>?_)
  cases n with
  |zero=>cases hx
  |succ n=>
   simp only[iter]at hx
   refine wp_mono (ih hb _ _ hx a w hRx) (fun e a' w' he=>?_)
   obtain⟨s',hR',hq⟩:=he
   cases e with
   |normal=>
    simp only at hq
    split at hq
    case h_2=>cases hq
    rename_i x' hx'
    exact⟨n,Nat.lt_succ_self n,x',hq,to_rel hR0 hx' hR'⟩
   |_=>exact⟨s',hR',hq⟩
 |_=>exact fun h s K hr=>by simp only[runC]at hr;cases hr
def resStep (tmps:Array Value):ResultVar->Sem Value
 | .tmp t=>pure (tmps.getD t undef)
 | .cell ad t=>do loadVar t (<-asAddr (tmps.getD ad undef))
theorem results_eq (fn:Func) (tmps:Array Value):results fn tmps=(fn.results.mapM (resStep tmps))>>=fun vs=>pure (if h:vs.size=1 then vs[0]else .tuple vs):=by
 unfold results
 congr 1
theorem one_V2 {c:Ctx} {x y:AV} {v:Value} (hx:x.one? =some y) (h:V3 c x v):V2 c y v:=by
 cases x with
 |tup _=>cases hx
 |_=>cases hx;exact h
section
variable {E : Env} (hE : EnvOk E) {s : LSt} {c : Ctx} {a : Act} {w : World} (hs : ∀ i, V3 c (getA s.L i) (a.tmps.getD i undef)) (hcw : c.w = w) (hbox : ∀ k b, lookB s.B k = some b -> BoxAt c k (c.β k) b.cs)
include hE hs hcw hbox
theorem resOne_run (r:ResultVar) (x:AV) (h:resOne E s r=some x):∃v,(resStep a.tmps r).run E.P w= .ok v w/\V2 c x v:=by
 cases r with
 |tmp t=>exact⟨_,rfl,one_V2 h (hs t)⟩
 |cell ad T=>
  simp only[resOne]at h
  have hp0:=hs ad
  split at h
  case h_2=>cases h
  rename_i k q ty hk hT
  rw[hk]at hp0
  have ok:=hE.ty _ _ hT
  obtain⟨d,hu,hd⟩:=ok.desc
  obtain⟨i,z,hi,hsz,_⟩:=ok.info
  split at h
  case isTrue=>cases h
  rename_i hmk
  split at h
  case h_2=>cases h
  rename_i b hcs
  have hp:a.tmps.getD ad undef= .pointer (some ⟨c.β k,q,none⟩):=(v3_box (by simpa using hmk) hp0).2
  obtain⟨vs,T',hv,ha⟩:=(hbox k b hcs).cells (by simpa using hmk)
  rw[hcw]at hv
  have hlen:=ha.len
  split at h
  .rename_i hagg
   split at h
   .rename_i hle
    cases h
    refine⟨.agg ((vs.drop q).take ty.size).toArray,?_,_,rfl,(ha.drop q).take _⟩
    simp only[resStep,hp,asAddr,Sem.run_bind,Sem.run_pure,Result.andThen_ok]
    rw[loadVar_agg hu (hd.trans hagg) hi w _ ((vs.drop q).take ty.size) (by simp[hsz];omega) (fun j v hj=>?_)]
    rw[zaH]at hj
    split at hj
    .rw [zaL]at hj
     rw[add_ptr,cell_box hv];exact hj
    .cases hj
   .cases h
  .rename_i hagg
   obtain⟨v,hv2,hyv⟩:=ha.get q x h
   refine⟨v,?_,V2_of_V1 hyv.1⟩
   simp only[resStep,hp,asAddr,Sem.run_bind,Sem.run_pure,Result.andThen_ok]
   rw[loadVar_one hu (hd.trans (by simpa using hagg)) w _ v (by rw[cell_box hv];exact hv2)]
theorem resL_run :∀(rs:List ResultVar) (xs:List AV),resL E s rs=some xs->∃vs,(rs.mapM (resStep a.tmps)).run E.P w= .ok vs w/\All2 (V2 c) xs vs
 | [],xs,h=>by simp[resL]at h;subst h;exact⟨[],rfl,True.intro⟩
 |r::rs,xs,h=>by
  simp only[resL]at h
  split at h
  .rename_i x ys hx hy
   cases h
   obtain⟨v,h1,h2⟩:=resOne_run hE hs hcw hbox r x hx
   obtain⟨vs,h3,h4⟩:=resL_run rs ys hy
   refine⟨v::vs,?_,h2,h4⟩
   rw[List.mapM_cons,Sem.run_bind,h1,Result.andThen_ok,Sem.run_bind,h3]
   rfl
  .cases h
theorem resA_run (fn:Func) (x:AV) (h:resA E s fn.results.toList=some x):∃v,(results fn a.tmps).run E.P w= .ok v w/\V3 c x v:=by
 unfold resA at h
 have key:∀xs,resL E s fn.results.toList=some xs->∃vs:List Value,(results fn a.tmps).run E.P w= .ok (if h:vs.toArray.size=1 then vs.toArray[0]else .tuple vs.toArray) w/\All2 (V2 c) xs vs:=fun xs hx=>by
  obtain⟨vs,h1,h2⟩:=resL_run hE hs hcw hbox _ xs hx
  refine⟨vs,?_,h2⟩
  rw[results_eq,Array.mapM_eq_mapM_toList,Sem.run_bind,Sem.run_map,h1]
  rfl
 split at h
 .rename_i y hy
  cases h
  obtain⟨vs,h1,h2⟩:=key _ hy
  match vs,h2 with
  | [v],h2=>
   refine⟨v,by rw[h1];simp,?_⟩
   have h3:=h2.1
   cases x with
   |tup ys=>exact h3.elim
   |_=>exact h3
 .rename_i xs hne hxs
  cases h
  obtain⟨vs,h1,h2⟩:=key _ hxs
  have hl:=h2.len
  have hn:¬vs.toArray.size=1:=by
   intro h
   match xs,hl,hne with
   | [y],hl,hne=>exact hne y rfl
   | [],hl,_=>simp at h hl;omega
   |_::_::_,hl,_=>simp at h hl;omega
  refine⟨.tuple vs.toArray,?_,vs,rfl,h2⟩
  rw[h1,dif_neg hn]
 .cases h
end
theorem resA_T {E:Env} {s:LSt} (T:List (Nat×Option TS)) (rs:List ResultVar):resA E {s with T:=T} rs=resA E s rs:=by
 have h1:∀r,resOne E {s with T:=T} r=resOne E s r:=fun r=>by cases r<;>rfl
 have h2:∀l,resL E {s with T:=T} l=resL E s l:=fun l=>by
  induction l with
  |nil=>rfl
  |cons r l ih=>simp only[resL,h1,ih]
 simp only[resA,h2]
mutual
def VS.toks :VS->List Nat
 | .own n _ _ _=>[n]
 | .mtk n _ _ _=>[n]
 | .tre n _ _=>[n]
 | .trk n _ _=>[n]
 | .agg l=>VS.toksL l
 | .tup l=>VS.toksL l
 | .clo _ l=>VS.toksL l
 |_=>[]
def VS.toksL :List VS->List Nat
 | []=>[]
 |v::l=>v.toks++VS.toksL l
end
def boxToksS :List (Nat×Bool×List VS)->List Nat
 | []=>[]
 |b::l=>VS.toksL b.2.2++boxToksS l
def Sh.names (s:Sh):List Nat:=s.boxes.map (·.1)++(VS.toksL s.vals++boxToksS s.boxes)
mutual
theorem inst_toks :∀(v:VS) (ps:List Pay) (x:Nat×Option TS),x∈(inst v ps).2.2->x.1∈v.toks
 | .dead,ps,x,h=>by cases h
 | .pv t,ps,x,h=>by cases ps<;>cases h
 | .nils,ps,x,h=>by cases h
 | .nilp,ps,x,h=>by cases h
 | .box k o,ps,x,h=>by cases h
 | .ptr t,ps,x,h=>by cases ps<;>cases h
 | .own n t e d,ps,x,h=>by
  simp only[inst]at h
  split at h
  .simp at h;subst h;simp[VS.toks]
  .cases h
 | .mtk n t e d,ps,x,h=>by
  simp only[inst]at h
  split at h
  .simp at h;subst h;simp[VS.toks]
  .cases h
 | .tre n t e,ps,x,h=>by
  simp only[inst]at h
  split at h
  .simp at h;subst h;simp[VS.toks]
  .cases h
 | .trk n t e,ps,x,h=>by
  simp only[inst]at h
  split at h
  .simp at h;subst h;simp[VS.toks]
  .cases h
 | .agg l,ps,x,h=>instL_toks l ps x h
 | .tup l,ps,x,h=>instL_toks l ps x h
 | .clo f l,ps,x,h=>by
  cases ps with
  |nil=>cases h
  |cons p ps=>exact instL_toks l _ x h
theorem instL_toks :∀(l:List VS) (ps:List Pay) (x:Nat×Option TS),x∈(instL l ps).2.2->x.1∈VS.toksL l
 | [],ps,x,h=>by cases h
 |v::l,ps,x,h=>by
  simp only[instL]at h
  rcases zaB.1 h with h|h
  .exact zad _ (inst_toks v ps x h)
  .exact zaJ _ (instL_toks l _ x h)
end
theorem instB_toks :∀(l:List (Nat×Bool×List VS)) (ps:List Pay),(∀x,x∈(instB l ps).2->x.1∈boxToksS l)/\∀x,x∈(instB l ps).1->x.1∈l.map (·.1)
 | [],ps=>⟨(fun x h=>by cases h),(fun x h=>by cases h)⟩
 |(k,fz,vs)::l,ps=>by
  obtain⟨h1,h2⟩:=instB_toks l (instL vs ps).2.1
  refine⟨fun x h=>?_,fun x h=>?_⟩
  .simp only [instB]at h
   rcases zaB.1 h with h|h
   .exact zad _ (instL_toks vs ps x h)
   .exact zaJ _ (h1 x h)
  .simp only [instB]at h
   rcases zp.1 h with h|h
   .subst h;simp
   .exact zl _ (h2 x h)
theorem mk_names (sh:Sh) (y:HD sh.codes):(∀k,lookB (sh.mk' y).B k≠none->k∈sh.names)/\∀t,lookT (sh.mk' y).T t≠none->t∈sh.names:=by
 obtain⟨h1,h2⟩:=instB_toks sh.boxes (instL sh.vals (unpack sh.codes y)).2.1
 refine⟨fun k hk=>?_,fun t ht=>?_⟩
 .obtain ⟨b,hb⟩:=zaa.1 hk
  exact zad _ (h2 (k,b) (lookB_mem hb))
 .obtain ⟨z,hz⟩:=zaa.1 ht
  have:=lookT_mem hz
  refine zaJ _ ?_
  rcases zaB.1 this with h|h
  .exact zad _ (instL_toks sh.vals _ (t,some z) h)
  .exact zaJ _ (h1 (t,some z) h)
theorem modelOk_of {E:Env} (hE:EnvOk E) {f:FuncId} {fn:Func} {c:Code} (hf:E.P.funcs[f]? =some fn) (hname:(fn.name== "runtime.NumGoroutine")=false) (hbody:fn.body=some c) (N:Nat) (h:Hint) (m:Model) (hres:m.arg.names.all E.res=true) (hlen:Nat.ble m.arg.vals.length fn.ntmps=true)
  (hrun:∀a,m.run a=runF N E okDraw fn c h m.arg m.ret a):ModelOk E.P f m:=by
 refine⟨⟨fn,hf,by simpa using hname,by rw[hbody];rfl⟩,fun a r hr=>?_⟩
 rw[hrun a]at hr
 unfold runF at hr
 simp only at hr
 obtain⟨s0,hs0⟩:∃s0,s0=m.arg.mk' a:=⟨_,rfl⟩
 rw[<-hs0]at hr⊢
 intro w S β τ F vs hgl hM ha
 have hL:s0.L.length<=fn.ntmps:=by
  have:∀(l:List VS) (ps:List Pay),(instL l ps).1.length=l.length:=by
   intro l
   induction l with
   |nil=>intro ps;rfl
   |cons v l ih=>intro ps;simp only[instL,zi,ih]
  have e:s0.L.length=m.arg.vals.length:=by rw[hs0];exact this _ _
  rw[e];exact Nat.le_of_ble_eq_true hlen
 have hR0:ROk E (lentRoot s0 β τ F S w):=by
  obtain⟨n1,n2⟩:=mk_names m.arg a
  have hall:=zax.1 hres
  refine⟨fun k hk=>hall k (n1 k ?_),fun t ht=>hall t (n2 t ?_),hgl⟩
  .rw [<-hs0]
   intro e
   simp only[lentRoot,e]at hk
   exact hk rfl
  .rw [<-hs0]
   intro e
   simp only[lentRoot,e]at ht
   exact ht rfl
 have hl:=ha.len
 obtain⟨s1,hs1⟩:∃s1:LSt,s1=⟨s0.L++List.replicate (fn.ntmps-s0.L.length) (.tup []),s0.B,s0.T⟩:=⟨_,rfl⟩
 rw[<-hs1]at hr
 have hR:Rel (lentRoot s0 β τ F S w) s1 {tmps:=vs.toArray++Array.replicate (fn.ntmps-vs.toArray.size) undef,defers:=[]} w:=by
  have hall:All2 (V3 (s1.ctx w S β τ)) s1.L (vs.toArray++Array.replicate (fn.ntmps-vs.toArray.size) undef).toList:=by
   rw[hs1]
   simp only[Array.toList_append,Array.toList_replicate]
   refine All2.append (ha) ?_
   simp only[List.size_toArray]
   rw[hl]
   generalize fn.ntmps-vs.length=n
   induction n with
   |zero=>exact True.intro
   |succ n ih=>exact⟨⟨[],rfl,True.intro⟩,ih⟩
  obtain⟨h1,h2⟩:=tmps_all2 hall
  refine⟨β,τ,F,S,by rw[hs1];exact hM,h1,rfl,h2⟩
 refine calls_of_wp hf hbody (wp_mono (runC_sound hE hR0 N c h s1 _ hr _ _ hR) (fun e a' w' he=>?_))
 obtain⟨s',hR',hq⟩:=he
 have fin:(match resA E s' fn.results.toList with|some v=>m.ret.to0 E ⟨v::extras m.ret.vals.tail s'.plug.T,s'.B,s'.plug.T⟩|none=>none)=some r->a'.defers=[]/\∃v,(results fn a'.tmps).run E.P w'= .ok v w'/\∃v' β' τ' F' S',Ending.returned v= .returned v'/\Mem (lentRoot s0 β τ F S w) (lookB (m.ret.mk' r).B) (lookT (m.ret.mk' r).T) β' τ' F' S' w'/\∃x,(m.ret.mk' r).L.head? =some x/\V3 ((m.ret.mk' r).ctx w' S' β' τ') x v':=fun hq=>by
  split at hq
  case h_2=>cases hq
  rename_i x hx
  rw[<-resA_T (plugAll s'.T)]at hx
  obtain⟨sp,hsp⟩:∃sp,sp=s'.plug:=⟨_,rfl⟩
  have hR2:=plugAll_rel hR'
  have hx:resA E s'.plug fn.results.toList=some x:=hx
  have hR2:Rel _ s'.plug a' w':=hR2
  have hB2:s'.B=sp.B:=by rw[hsp];rfl
  rw[hB2,<-hsp]at hq
  rw[<-hsp]at hx hR2
  clear hR'
  obtain⟨β1,τ1,F1,S1,hM1,hn1,hd1,hs1'⟩:=hR2
  obtain⟨v,h1,h2⟩:=resA_run hE (c:=sp.ctx w' S1 β1 τ1) hs1' rfl (fun k b hk=>(hM1.boxes k b hk).2.2.2) fn x hx
  unfold Sh.to0 at hq
  split at hq
  case h_2=>cases hq
  rename_i y acc hc
  split at hq
  case isFalse=>cases hq
  rename_i hok
  cases hq
  have mtkCase:∀(n:Nat) (us:List Value) {l:List AV},All2 (V3 (sp.ctx w' S1 β1 τ1)) l us->∃us',All2 (V3 (sp.ctx w' S1 β1 τ1)) ((if liveB (lookT sp.T n)then AV.mtk n else AV.dead)::l) us':=fun n us {l} hus=>by
   split
   .rename_i hlv
    cases hz:lookT sp.T n with
    |none=>rw[hz]at hlv;cases hlv
    |some z=>cases z with
     |spent=>rw[hz]at hlv;cases hlv
     |live tk=>
      exact⟨τ1 n::us,⟨(hM1.toks n tk hz).cell,by show lookT sp.T n≠none;rw[hz];simp,fun tk' _=>rfl⟩,hus⟩
   .exact ⟨undef::us,True.intro,hus⟩
  have hex:∃us,All2 (V3 (sp.ctx w' S1 β1 τ1)) (extras m.ret.vals.tail sp.T) us:=by
   generalize m.ret.vals.tail=l
   induction l with
   |nil=>exact⟨[],True.intro⟩
   |cons q l ih=>
    obtain⟨us,hus⟩:=ih
    cases q with
    |mtk n t e d=>exact mtkCase n us hus
    |tre n t e=>exact mtkCase n us hus
    |_=>exact⟨undef::us,True.intro,hus⟩
  obtain⟨us,hus⟩:=hex
  obtain⟨S',hM',hv'⟩:=conv_root hR0 hM1 (s:=sp) hc hok (vals:=v::us) ⟨h2,hus⟩
  refine⟨hd1,v,h1,v,_,_,_,S',rfl,hM',?_⟩
  cases hL1:(m.ret.mk' r).L with
  |nil=>rw[hL1]at hv';exact hv'.elim
  |cons z zs=>rw[hL1]at hv';exact⟨z,rfl,hv'.1⟩
 cases e with
 |normal=>exact fin hq
 |ret=>exact fin hq
 |_=>cases hq
theorem modelOk_none {P:Program} {f:FuncId} (h:Enter P f) (m:Model) (hr:∀a,m.run a=none):ModelOk P f m:=
 ⟨h,fun a r h'=>by rw[hr]at h';cases h'⟩
def LitTy (P:Program) (t:TypeId):PV->PV->Prop
 | .int k _,.int k' _=>k=k'/\∃k'',P.underlying t=some (.int k'')
 | .bool _,.bool _=>P.underlying t=some .bool
 | .str _,.str _=>P.underlying t=some .string
 |_,_=>False
def EqFs (P:Program):List (Bool×TypeId×Nat)->Nat->List PV->List PV->Prop
 | [],_,[],[]=>True
 |f::fs,i,p::ps,q::qs=>(f.1=false/\f.2.2=i/\LitTy P f.2.1 p q)/\EqFs P fs (i+1) ps qs
 |_,_,_,_=>False
def eqP :PV->PV->Bool
 | .int _ a,.int _ b=>decide (a=b)
 | .bool a,.bool b=>a==b
 | .str a,.str b=>a.toList==b.toList
 |_,_=>false
def eqL :List PV->List PV->Bool
 | [],[]=>true
 |p::ps,q::qs=>eqP p q&&eqL ps qs
 |_,_=>false
theorem eqF_ok {P:Program} {xs ys:Array Value} (d:Nat) (w:World):∀(fs:List Field) (i:Nat) (ps qs:List PV),EqFs P (fs.map fun f=>(f.name== "_",f.type,f.offset)) i ps qs->
  (∀j p,ps[j]? =some p->xs[i+j]? =some (litOf p))->(∀j p,qs[j]? =some p->ys[i+j]? =some (litOf p))->(Op.eqFields (d+1) xs ys fs).run P w= .ok (eqL ps qs) w
 | [],i,[],[],_,_,_=>rfl
 | [],i,_::_,_,h,_,_=>h.elim
 | [],i,[],_::_,h,_,_=>h.elim
 |f::fs,i,[],_,h,_,_=>by cases h
 |f::fs,i,_::_,[],h,_,_=>by cases h
 |f::fs,i,p::ps,q::qs,h,hx,hy=>by
  obtain⟨⟨h1,h2,h3⟩,h4⟩:=h
  simp only at h1 h2 h3
  have hn:f.name≠ "_" :=by simpa using h1
  have ih:=eqF_ok d w fs (i+1) ps qs h4 (fun j p hp=>by rw[<-hx (j+1) p hp];congr 1;omega) (fun j p hp=>by rw[<-hy (j+1) p hp];congr 1;omega)
  have x0:=hx 0 p rfl
  have y0:=hy 0 q rfl
  rw[Nat.add_zero,<-h2]at x0 y0
  have main:(∃d',P.underlying f.type=some d'/\TypeDesc.isAgg d'=false)->(Op.equalIn (d+1) f.type (litOf p) (litOf q)).run P w= .ok (eqP p q) w->(Op.eqFields (d+1) xs ys (f::fs)).run P w= .ok (eqL (p::ps) (q::qs)) w:=by
   rintro⟨d',hd,hagg⟩ hr
   have part:∀(cs:Array Value) (v:Value),cs[f.offset]? =some v->(part f.type cs f.offset).run P w= .ok v w:=fun cs v hv=>by
    simp only[Go.part,Sem.run_bind,isAgg_run hd,Result.andThen_ok,hagg,za7,if_false,hv,Sem.run_pure]
   simp only[Op.eqFields,zf hn,Sem.run_bind,part xs _ x0,part ys _ y0,Result.andThen_ok,hr]
   cases he:eqP p q with
   |false=>simp[eqL,he]
   |true=>simp[eqL,he,ih]
  cases p<;>cases q<;>simp only[LitTy]at h3
  .exact main ⟨_,h3,rfl⟩ (by simp[litOf,run_equalIn_bool' w d _ _ _ h3,eqP])
  .obtain ⟨rfl,k'',hk⟩:=h3
   exact main ⟨_,hk,rfl⟩ (by simp[litOf,run_equalIn_int w d _ _ k'' _ _ hk,eqP];exact decInt _ _)
  .exact main ⟨_,h3,rfl⟩ (by simp[litOf,run_equalIn_string w d _ _ _ h3,eqP])
theorem eqL_append :∀(a b c d:List PV),a.length=b.length->eqL (a++c) (b++d)=(eqL a b&&eqL c d)
 | [],[],c,d,_=>by simp[eqL]
 |p::a,q::b,c,d,h=>by
  simp only[zbk,eqL,eqL_append a b c d (by simpa using h),Bool.and_assoc]
 | [],_::_,_,_,h=>by cases h
 |_::_,[],_,_,h=>by cases h
theorem eqL_enc :∀(r:Tp) (x y:r.D),r.flatB=true->eqL (enc r x) (enc r y)=r.eqB x y
 | .bool,x,y,_=>by simp[enc,eqL,eqP,Tp.eqB]
 | .int _,x,y,_=>by simp[enc,eqL,eqP,Tp.eqB]
 | .str,x,y,_=>by
  simp only[enc,eqL,eqP,Tp.eqB,bytes_toList,zaV]
  by_cases h:x=y<;>simp[h]
 | .unit,x,y,_=>rfl
 | .pair a b,x,y,h=>by
  simp only[Tp.flatB,zj]at h
  simp only[enc,Tp.eqB]
  rw[eqL_append _ _ _ _ (by rw[enc_len,enc_len]),eqL_enc a _ _ h.1,eqL_enc b _ _ h.2]
 | .sl _,_,_,h=>by cases h
 | .opt _,_,_,h=>by cases h
 | .q,_,_,h=>by cases h
theorem eqs_of {P:Program} {t:TypeId} (r:Tp) (hfl:r.flatB=true) (hg:P.eqGuardType P.depth t=false) (hu:P.underlying t=some (.struct (P.fieldsOf t))) (hp:P.stoodInHeld t=false) (l:List (Bool×TypeId×Nat)) (hl:((P.fieldsOf t).toList.map fun f=>(f.name== "_",f.type,f.offset))=l)
  (h:∀x y:r.D,EqFs P l 0 (enc r x) (enc r y)):r.flatB=true/\P.eqGuardType P.depth t=false/\∀w (x y:r.D),(Op.equalIn 10000 t (.agg ((enc r x).map litOf).toArray) (.agg ((enc r y).map litOf).toArray)).run P w= .ok (r.eqB x y) w:=by
 refine⟨hfl,hg,fun w x y=>?_⟩
 rw[run_equalIn_agg w 9999 t _ _ hu hp,<-eqL_enc r x y hfl]
 refine eqF_ok 9998 w _ 0 _ _ (hl▸h x y) (fun j p hp=>?_) (fun j p hp=>?_)
 .simp [hp]
 .simp [hp]
def partVal (r:Tp) (x:r.D) (agg:Bool):Value:=bif agg then .agg ((enc r x).map litOf).toArray else litV r x
structure FEq (P:Program) (d:Nat) (f:Bool×TypeId×Nat) (i:Nat) (agg:Bool) (r:Tp):Prop where
 name:f.1=false
 off:f.2.2=i
 und:∃desc,P.underlying f.2.1=some desc/\TypeDesc.isAgg desc=agg
 size:agg=true->∃inf,P.info? f.2.1=some inf/\inf.size=r.w
 one:agg=false->∀x:r.D,∃p,enc r x=[p]
 eq:∀w (x y:r.D),(Op.equalIn d f.2.1 (partVal r x agg) (partVal r y agg)).run P w= .ok (r.eqB x y) w
@[reducible] def tpOf : List (Bool × Tp) -> Tp
 | []=>.unit
 | [(_,r)]=>r
 |(_,r)::a::l=>.pair r (tpOf (a::l))
end Go.Proofs.YtcinmmojlcchfaaGreatDoor
