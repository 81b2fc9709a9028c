import Derived.Test.YtcinmmojlcchfaaGreatDoorKP
import Derived.Great.BuildSlice
import Derived.IntWalk
set_option linter.unusedSimpArgs false
set_option linter.unusedVariables false
namespace Go.Proofs.YtcinmmojlcchfaaGreatDoor
open Go.RowKit
def TypeDesc.isAgg :TypeDesc->Bool
 | .struct _| .array _ _=>true
 |_=>false
def keyTy (P:Program) (K:TypeId):Tp->Prop
 | .int k=>P.underlying K=some (.int k)
 | .str=>P.underlying K=some .string
 |_=>False
def MapTy (P:Program) (t K V:TypeId) (kt vt:Tp):Prop:=
 P.underlying t=some (.map K V)/\keyTy P K kt/\∃i z,P.info? V=some i/\zeroT vt=some z/\i.zero=some (litV vt z)
def rowV (agg:Bool) (t:Tp) (x:t.D):Value:=bif agg then .agg ((enc t x).map litOf).toArray else litV t x
def GMapTy (P:Program) (t K V:TypeId) (kt vt:Tp) (agg:Bool):Prop:=
 P.underlying t=some (.map K V)/\keyTy P K kt/\vt.flatB=true/\(agg=false->vt.w=1)/\∃i z,P.info? V=some i/\zeroD vt=some z/\i.zero=some (rowV agg vt z)
def GFOk (W:World) (X:Nat->Prop) (S:Stab) (g:Nat):GF->Prop
 | .row t x=>CellsAt W S g 0 (enc t x)
 | .map kt vt agg es=>S g 0/\∃b ents clk es',W.cell? ⟨g,0,none⟩=some (.map (some b))/\W.heap[b]? =some (.map ents clk)/\(ents.toList.map (fun e=>(e.key,e.val))=es'.map (fun x=>(litV kt x.1,rowV agg vt x.2))/\es'.Perm es/\∀k,mget kt vt es' k=mget kt vt es k)/\¬X b
 | .tab k zs=>(∃a b,W.heap[g]? =some (.cells (zs.map fun z=>Value.int k z).toArray a b))/\¬X g
 | .cell p=>(∃v,W.cell? ⟨g,0,none⟩=some v/\p v)/\g<W.heap.size/\¬X g
def GlobOk (W:World) (X:Nat->Prop) (S:Stab):Prop:=∀g f,lookG gtab g=some f->GFOk W X S g f
theorem GlobOk.sub {W:World} {X X':Nat->Prop} {S:Stab} (h:GlobOk W X S) (hX:∀b,X' b->X b):GlobOk W X' S:=by
 intro g f hf
 have:=h g f hf
 cases f with
 |row t x=>exact this
 |map kt vt agg es=>
  obtain⟨h1,b,ents,clk,es',h2,h3,h4,h5⟩:=this
  exact⟨h1,b,ents,clk,es',h2,h3,h4,fun hx=>h5 (hX b hx)⟩
 |tab k zs=>exact⟨this.1,fun hx=>this.2 (hX g hx)⟩
 |cell p=>exact⟨this.1,this.2.1,fun hx=>this.2.2 (hX g hx)⟩
theorem GlobOk.later {R:Root} {w:World} {S:Stab} {box:Nat->Option BS} {tok:Nat->Option TS} {β:Nat->Nat} {τ:Nat->Value} {F:Nat->Nat->Prop} (h:GlobOk R.W R.X R.S0) (hM:Mem R box tok β τ F S w) {X':Nat->Prop} {S':Stab} (hS:∀b o,S b o->S' b o) (hX:∀b,X' b->R.fr b):GlobOk w X' S':=by
 intro g f hf
 have:=h g f hf
 have hc:∀b o,R.S0 b o->w.cell? ⟨b,o,none⟩=R.W.cell? ⟨b,o,none⟩:=hM.keep
 cases f with
 |row t x=>exact CellsAt.mono (fun b o h=>hS b o (hM.old b o h)) hc this
 |map kt vt agg es=>
  obtain⟨h1,b,ents,clk,es',h2,h3,h4,h5⟩:=this
  have hb:b<R.W.heap.size:=lt_of_at h3
  refine⟨hS _ _ (hM.old _ _ h1),b,ents,clk,es',(hc g 0 h1).trans h2,(hM.upd.block b hb h5).trans h3,h4,fun hx=>?_⟩
  rcases hX b hx with h|h
  .omega
  .exact h5 h
 |tab k zs=>
  obtain⟨⟨a,b,h1⟩,h2⟩:=this
  have hb:g<R.W.heap.size:=lt_of_at h1
  refine⟨⟨a,b,(hM.upd.block g hb h2).trans h1⟩,fun hx=>?_⟩
  rcases hX g hx with h|h
  .omega
  .exact h2 h
 |cell p=>
  obtain⟨⟨v,h1,hp⟩,hb,h2⟩:=this
  refine⟨⟨v,(World.cell?_of_block (w:=R.W) (hM.upd.block g hb h2)).trans h1,hp⟩,zbi hb hM.size,fun hx=>?_⟩
  rcases hX g hx with h|h
  .omega
  .exact h2 h
structure TyOk (P:Program) (t:TypeId) (ty:Ty):Prop where
 desc:∃d,P.underlying t=some d/\TypeDesc.isAgg d=ty.agg
 info:∃i z,P.info? t=some i/\i.size=ty.size/\i.zero=some z/\z.cells.size=ty.size/\∀c,All2 (V1c c) ty.zero z.cells.toList
 elem:∀e r by',ty.elem=some (e,r,by')->P.underlying t=some (.slice e)/\0<r.w/\∃ie z,P.info? e=some ie/\ie.size=r.w/\ie.bytes=by'/\ie.zero=some z/\z.cells.size=r.w
 offs:ty.offs≠ []->∃fields,P.underlying t=some (.struct fields)/\fields.toList.mapM (fun f=>(P.info? f.type).map fun i=>(f.offset,i.size))=some ty.offs
 str:ty.str=true->P.underlying t=some .string
 bool:ty.bool=true->P.underlying t=some .bool
 int:∀k,ty.int=some k->P.underlying t=some (.int k)
 eqs:∀r,ty.eqs=some r->r.flatB=true/\P.eqGuardType P.depth t=false/\∀w (x y:r.D),(Op.equalIn 10000 t (.agg ((enc r x).map litOf).toArray) (.agg ((enc r y).map litOf).toArray)).run P w= .ok (r.eqB x y) w
 mp:∀K V kt vt,ty.mp=some (K,V,kt,vt)->MapTy P t K V kt vt
 ptr:ty.ptr=true->∃u,P.underlying t=some (.pointer u)
 fts:ty.fts≠ []->∃fields,P.underlying t=some (.struct fields)/\fields.toList.map (fun f=>(f.type,f.offset))=ty.fts
 gm:∀K V kt vt agg,ty.gm=some (K,V,kt,vt,agg)->GMapTy P t K V kt vt agg
def Enter (P:Program) (f:FuncId):Prop:=∃fn,P.funcs[f]? =some fn/\fn.name≠ "runtime.NumGoroutine" /\fn.body.isNone=false
def lent (s:LSt) (β:Nat->Nat) (F:Nat->Nat->Prop) (b:Nat):Prop:=(∃k x,lookB s.B k=some x/\β k=b)\/ ∃t tk,lookT s.T t=some (.live tk)/\F t b
def lentRoot (s:LSt) (β:Nat->Nat) (τ:Nat->Value) (F:Nat->Nat->Prop) (S:Stab) (w:World):Root:=
 ⟨w,lent s β F,S,fun k=>if(lookB s.B k).isSome then some (β k)else none,fun t=>match lookT s.T t with|some (.live _)=>some (τ t)|_=>none⟩
def FnC (P:Program) (f:FuncId) (s0 s1:LSt):Prop:=
 ∀w S β τ F vs,GlobOk w (lent s0 β F) S->Mem (lentRoot s0 β τ F S w) (lookB s0.B) (lookT s0.T) β τ F S w->All2 (V3 (s0.ctx w S β τ)) s0.L vs->
  Calls P f vs.toArray w fun e w'=>∃v β' τ' F' S',e= .returned v/\Mem (lentRoot s0 β τ F S w) (lookB s1.B) (lookT s1.T) β' τ' F' S' w'/\∃x,s1.L.head? =some x/\V3 (s1.ctx w' S' β' τ') x v
structure ModelOk (P:Program) (f:FuncId) (m:Model):Prop where
 enter:Enter P f
 run:∀a r,m.run a=some r->FnC P f (m.arg.mk' a) (m.ret.mk' r)
structure EnvOk (E:Env):Prop where
 mix:E.P.follows .mixedOrders=true
 ty:∀t y,E.ty t=some y->TyOk E.P t y
 fn:∀f m,m∈E.fn f->ModelOk E.P f m
def ROk (E:Env) (R:Root):Prop:=(∀k,R.bn k≠none->E.res k=true)/\(∀t,R.tn t≠none->E.res t=true)/\GlobOk R.W R.X R.S0
theorem ROk.bn {E:Env} {R:Root} (h:ROk E R) {k:Nat} (hk:E.res k=false):R.bn k=none:=by
 cases hb:R.bn k with
 |none=>rfl
 |some b=>have:=h.1 k (by rw[hb];simp);rw[hk]at this;cases this
theorem ROk.tn {E:Env} {R:Root} (h:ROk E R) {k:Nat} (hk:E.res k=false):R.tn k=none:=by
 cases hb:R.tn k with
 |none=>rfl
 |some b=>have:=h.2.1 k (by rw[hb];simp);rw[hk]at this;cases this
def RD.R :RD->LSt->List Nat->List Nat->Eff->FP->Prop
 | .ret e0,_,rb,rt,e,fp=>e=e0/\fp=⟨rb,e0.boxes,rt,e0.toks⟩
 | .box k f,s,rb,rt,e,fp=>(f (lookB s.B k)).R s (k::rb) rt e fp
 | .tok t f,s,rb,rt,e,fp=>(f (lookT s.T t)).R s rb (t::rt) e fp
 | .need p _ f,s,rb,rt,e,fp=>p/\f.R s rb rt e fp
 | .get o f,s,rb,rt,e,fp=>∃x,o=some x/\(f x).R s rb rt e fp
 | .br b f g,s,rb,rt,e,fp=>(b=true/\f.R s rb rt e fp)\/(b=false/\g.R s rb rt e fp)
 | .fail,_,_,_,_,_=>False
theorem RD.run_R {ρ:Type} {K:Eff->FP->Option ρ} {s:LSt} {z:ρ}:∀(r:RD) (rb rt:List Nat),r.run s rb rt K=some z->∃e fp,r.R s rb rt e fp/\K e fp=some z:=by
 intro r
 induction r with
 |ret e=>exact fun rb rt h=>⟨e,_,⟨rfl,rfl⟩,h⟩
 |box k f ih=>exact fun rb rt h=>ih _ _ _ h
 |tok t f ih=>exact fun rb rt h=>ih _ _ _ h
 |need p d f ih=>
  intro rb rt h
  simp only[RD.run]at h
  by_cases hp:p
  .rw [zf hp]at h
   obtain⟨e,fp,h1,h2⟩:=ih _ _ h
   exact⟨e,fp,⟨hp,h1⟩,h2⟩
  .rw [zu hp]at h;cases h
 |get o f ih=>
  intro rb rt h
  simp only[RD.run]at h
  cases o with
  |none=>cases h
  |some x=>
   obtain⟨e,fp,h1,h2⟩:=ih x _ _ h
   exact⟨e,fp,⟨x,rfl,h1⟩,h2⟩
 |br b f g ihf ihg=>
  intro rb rt h
  cases b with
  |true=>obtain⟨e,fp,h1,h2⟩:=ihf _ _ h;exact⟨e,fp,.inl ⟨rfl,h1⟩,h2⟩
  |false=>obtain⟨e,fp,h1,h2⟩:=ihg _ _ h;exact⟨e,fp,.inr ⟨rfl,h1⟩,h2⟩
 |fail=>exact fun rb rt h=>by cases h
theorem RD.R.reads {s:LSt}:∀(r:RD) (rb rt:List Nat) (e:Eff) (fp:FP),r.R s rb rt e fp->(∀k,k∈rb->k∈fp.rb)/\(∀t,t∈rt->t∈fp.rt):=by
 intro r
 induction r with
 |ret e0=>rintro rb rt e fp ⟨rfl,rfl⟩;exact⟨fun _ h=>h,fun _ h=>h⟩
 |box k f ih=>intro rb rt e fp h;have:=ih _ _ _ _ _ h;exact⟨fun j hj=>this.1 j (zl _ hj),this.2⟩
 |tok t f ih=>intro rb rt e fp h;have:=ih _ _ _ _ _ h;exact⟨this.1,fun j hj=>this.2 j (zl _ hj)⟩
 |need p d f ih=>intro rb rt e fp h;exact ih _ _ _ _ h.2
 |get o f ih=>rintro rb rt e fp ⟨i,_,h⟩;exact ih i _ _ _ _ h
 |br b f g ihf ihg=>
  intro rb rt e fp h
  rcases h with⟨_,h⟩|⟨_,h⟩
  .exact ihf _ _ _ _ h
  .exact ihg _ _ _ _ h
 |fail=>exact fun rb rt e fp h=>h.elim
theorem RD.R.move {s s':LSt}:∀(r:RD) (rb rt:List Nat) (e:Eff) (fp:FP),r.R s rb rt e fp->(∀k,k∈fp.rb->lookB s'.B k=lookB s.B k)->(∀t,t∈fp.rt->lookT s'.T t=lookT s.T t)->r.R s' rb rt e fp:=by
 intro r
 induction r with
 |ret e0=>exact fun rb rt e fp h _ _=>h
 |box k f ih=>
  intro rb rt e fp h hb ht
  have hk:=(RD.R.reads (f (lookB s.B k)) _ _ _ _ h).1 k zy
  simp only[RD.R]at h⊢
  rw[hb k hk];exact ih _ _ _ _ _ h hb ht
 |tok t f ih=>
  intro rb rt e fp h hb ht
  have hk:=(RD.R.reads (f (lookT s.T t)) _ _ _ _ h).2 t zy
  simp only[RD.R]at h⊢
  rw[ht t hk];exact ih _ _ _ _ _ h hb ht
 |need p d f ih=>exact fun rb rt e fp h hb ht=>⟨h.1,ih _ _ _ _ h.2 hb ht⟩
 |get o f ih=>rintro rb rt e fp ⟨i,ho,h⟩ hb ht;exact⟨i,ho,ih i _ _ _ _ h hb ht⟩
 |br b f g ihf ihg=>exact fun rb rt e fp h hb ht=>h.imp (fun h=>⟨h.1,ihf _ _ _ _ h.2 hb ht⟩) (fun h=>⟨h.1,ihg _ _ _ _ h.2 hb ht⟩)
 |fail=>exact fun rb rt e fp h=>h.elim
theorem RD.R.writes {s:LSt} {e:Eff} {fp:FP}:∀(r:RD) (rb rt:List Nat),r.R s rb rt e fp->fp.wb=e.boxes/\fp.wt=e.toks:=by
 intro r
 induction r with
 |ret e0=>rintro rb rt ⟨rfl,rfl⟩;exact⟨rfl,rfl⟩
 |box k f ih=>intro rb rt h;exact ih _ _ _ h
 |tok t f ih=>intro rb rt h;exact ih _ _ _ h
 |need p d f ih=>intro rb rt h;exact ih _ _ h.2
 |get o f ih=>rintro rb rt ⟨i,_,h⟩;exact ih i _ _ h
 |br b f g ihf ihg=>
  intro rb rt h
  rcases h with⟨_,h⟩|⟨_,h⟩
  .exact ihf _ _ h
  .exact ihg _ _ h
 |fail=>intro rb rt h;exact h.elim
def Sim (E:Env) (o:Oper) (s:LSt) (e:Eff):Prop:=
 ∀R a w,ROk E R->Rel R s a w->∀(K:Act->World->Prop) Q,(∀a' w',Rel R (s.app o.dst e) a' w'->K a' w')->o.wp E.P a w K Q
theorem V1.one {c:Ctx} {x:AV} {v:Value} (hx:x≠ .dead) (h:V1 c x v):v.oneCell'=true:=by
 cases x with
 |dead=>exact absurd rfl hx
 |pv t y=>obtain⟨p,_,h⟩:=h;exact h.one
 |nils=>rw[show v= .slice none 0 0 from h];rfl
 |nilp=>rw[show v= .pointer none from h];rfl
 |box k o=>rw[h.2];exact refV_one _ _ _
 |ptr t y o=>obtain⟨b,s,e,_⟩:=h;rw[e];rfl
 |own n t xs=>exact Rep.one h.1
 |mtk n=>exact h.1
 |mptr n i o=>exact h.1
 |gmap g=>exact h.2.2
 |sub n l k=>exact h.1
 |clo f cs=>obtain⟨us,e,_⟩:=h;rw[e];rfl
 |agg cs=>exact h.elim
 |tup cs=>exact h.elim
theorem cells_one {v:Value} (h:v.oneCell'=true):v.cells= #[v]:=by
 cases v<;>first|rfl|(simp[Value.oneCell']at h)
theorem cells_of {c:Ctx} {x:AV} {v:Value} {cs:List AV} (hx:x.cells? =some cs) (h:V3 c x v):All2 (V1c c) cs v.cells.toList:=by
 have one:∀ {x:AV},x≠ .dead->V1 c x v->All2 (V1c c) [x] v.cells.toList:=fun {x} hd h1=>by
  have ho:=V1.one hd h1
  rw[cells_one ho];exact⟨⟨h1,ho⟩,True.intro⟩
 cases x with
 |dead=>cases hx
 |tup cs=>cases hx
 |agg ds=>cases hx;obtain⟨vs,e,ha⟩:=h;rw[e];simpa[Value.cells]using ha
 |pv t y=>cases hx;exact one (x:=.pv t y) (by simp) h
 |nils=>cases hx;exact one (x:=.nils) (by simp) h
 |nilp=>cases hx;exact one (x:=.nilp) (by simp) h
 |box k o=>cases hx;exact one (x:=.box k o) (by simp) h
 |ptr t y o=>cases hx;exact one (x:=.ptr t y o) (by simp) h
 |own n t xs=>cases hx;exact one (x:=.own n t xs) (by simp) h
 |mtk n=>cases hx;exact one (x:=.mtk n) (by simp) h
 |mptr n i o=>cases hx;exact one (x:=.mptr n i o) (by simp) h
 |gmap g=>cases hx;exact one (x:=.gmap g) (by simp) h
 |sub n l k=>cases hx;exact one (x:=.sub n l k) (by simp) h
 |clo f cs=>cases hx;exact one (x:=.clo f cs) (by simp) h
theorem bytes_data (b:ByteArray):bytes b.data.toList=b:=by cases b;simp[bytes]
theorem bytes_size (l:List UInt8):(bytes l).size=l.length:=by simp[bytes,ByteArray.size]
theorem V3_const (c:Ctx) (v:Value):V3 c (constAV v) v:=by
 cases v with
 |bool b=>exact⟨_,rfl,.bool b⟩
 |int k n=>exact⟨_,rfl,.int k n⟩
 |string s=>exact⟨_,rfl,by rw[bytes_data];exact .str s⟩
 |slice a n k=>
  cases a with
  |some a=>exact True.intro
  |none=>
   cases n with
   |zero=>cases k with
    |zero=>exact rfl
    |succ k=>exact True.intro
   |succ n=>exact True.intro
 |pointer a=>cases a with
  |none=>exact rfl
  |some a=>exact True.intro
 |_=>exact True.intro
theorem V3_ev {c:Ctx} {s:LSt} {a:Act} (h:∀i,V3 c (getA s.L i) (a.tmps.getD i undef)):∀x,V3 c (s.ev x) (a.eval x)
 | .tmp t=>h t
 | .const v=>V3_const c v
 | .global _=>True.intro
 | .func f=>⟨[],rfl,True.intro⟩
theorem rel_put {R:Root} {w':World} {S':Stab} {s:LSt} {a:Act} {e:Eff} {β':Nat->Nat} {τ':Nat->Value} {F':Nat->Nat->Prop}
  (hM:Mem R (e.updB (lookB s.B)) (e.updT (lookT s.T)) β' τ' F' S' w') (hn:a.tmps.size=s.L.length) (hd:a.defers=[]) (hs:∀i,V3 ⟨w',S',fun k=>e.updB (lookB s.B) k≠none,β',e.updT (lookT s.T),τ'⟩ (getA s.L i) (a.tmps.getD i undef)) (d:Option Nat) {v:Value} (hx:d=none\/V3 ⟨w',S',fun k=>e.updB (lookB s.B) k≠none,β',e.updT (lookT s.T),τ'⟩ e.val v):
  Rel R (s.app d e) (a.put d v) w':=by
 refine⟨β',τ',F',S',by rw[app_B,app_T];exact hM,?_,?_,fun i=>?_⟩
 .rw [app_len];cases d<;>simp[Act.put,hn]
 .cases d<;>exact hd
 .have hc:(s.app d e).ctx w' S' β' τ'=⟨w',S',fun k=>e.updB (lookB s.B) k≠none,β',e.updT (lookT s.T),τ'⟩:=by
   simp only[LSt.ctx,app_B,app_T]
  rw[hc,app_L]
  cases d with
  |none=>simpa[Act.put]using hs i
  |some d=>
   have hx:=hx.resolve_left (by simp)
   simp only[Act.put,zaE]
   by_cases h:d=i/\i<s.L.length
   .obtain ⟨rfl,hi⟩:=h
    rw[zf ⟨rfl,hi⟩]
    rw[<-hn]at hi
    have:(a.tmps.setIfInBounds d v).getD d undef=v:=by simp[Array.getD,hi]
    rw[this];exact hx
   .rw [zu h]
    have:(a.tmps.setIfInBounds d v).getD i undef=a.tmps.getD i undef:=by
     by_cases e:d=i
     .subst e
      have hlt:¬d<a.tmps.size:=fun hl=>h ⟨rfl,hn▸hl⟩
      simp[Array.getD,hlt]
     .simp [Array.getElem?_setIfInBounds_ne e]
    rw[this];exact hs i
theorem wp_value {P:Program} {o:Oper} {a:Act} {w w':World} {v:Value} {K:Act->World->Prop} {Q:Exit->Act->World->Prop} (h:(execOp a.eval o).run P w= .ok (.value v) w') (hk:K (a.put o.dst v) w'):o.wp P a w K Q:=by
 unfold Oper.wp;rw[h];exact hk
theorem wp_skip' {P:Program} {o:Oper} {a:Act} {w w':World} {K:Act->World->Prop} {Q:Exit->Act->World->Prop} (h:(execOp a.eval o).run P w= .ok .skip w') (hk:K (a.put o.dst undef) w'):o.wp P a w K Q:=by
 unfold Oper.wp;rw[h];exact hk
theorem sim_val {E:Env} {o:Oper} {s:LSt} {x:AV} (h:∀c (a:Act) w,c.w=w->(∀y,V3 c (s.ev y) (a.eval y))->∃v,(execOp a.eval o).run E.P w= .ok (.value v) w/\V3 c x v):Sim E o s ⟨x,[],[]⟩:=by
 rintro R a w hR0 ⟨β,τ,F,S,hM,hn,hd,hs⟩ K Q hK
 obtain⟨v,hr,hv⟩:=h (s.ctx w S β τ) a w rfl (V3_ev hs)
 exact wp_value hr (hK _ _ (rel_put (e:=⟨x,[],[]⟩) hM hn hd hs o.dst (.inr hv)))
theorem sim_look {E:Env} {o:Oper} {s:LSt} {x:AV} (h:∀R β τ F S (a:Act) w,Mem R (lookB s.B) (lookT s.T) β τ F S w->(∀y,V3 (s.ctx w S β τ) (s.ev y) (a.eval y))->∃v,(execOp a.eval o).run E.P w= .ok (.value v) w/\V3 (s.ctx w S β τ) x v):Sim E o s ⟨x,[],[]⟩:=by
 rintro R a w hR0 ⟨β,τ,F,S,hM,hn,hd,hs⟩ K Q hK
 obtain⟨v,hr,hv⟩:=h R β τ F S a w hM (V3_ev hs)
 exact wp_value hr (hK _ _ (rel_put (e:=⟨x,[],[]⟩) hM hn hd hs o.dst (.inr hv)))
section
variable {E : Env} {o : Oper} {s : LSt} {e : Eff} {fp : FP}
theorem val_R {x:AV} {rb rt:List Nat} (h:(RD.val x).R s rb rt e fp):e=⟨x,[],[]⟩:=h.1
theorem sim_move (x:Operand) (ho:o.op= .move x\/o.op= .assign x):Sim E o s ⟨s.ev x,[],[]⟩:=
 sim_val fun c a w _ hev=>⟨a.eval x,by rcases ho with ho|ho<;>simp[execOp,ho],hev x⟩
theorem rep_bool {w:World} {S:Stab} {v:Value} {b:Bool} (h:Rep w S v (.bool b)):v= .bool b:=by cases h;rfl
theorem rep_int {w:World} {S:Stab} {v:Value} {k:IntKind} {n:Int} (h:Rep w S v (.int k n)):v= .int k n:=by cases h;rfl
theorem rep_str {w:World} {S:Stab} {v:Value} {x:ByteArray} (h:Rep w S v (.str x)):v= .string x:=by cases h;rfl
theorem v3_bool {c:Ctx} {v:Value} {b:Bool} (h:V3 c (.pv .bool b) v):v= .bool b:=by
 obtain⟨p,e,hr⟩:=(h:V0 c (.pv .bool b) v)
 cases e;exact rep_bool (w:=c.w) hr
theorem v3_int {c:Ctx} {v:Value} {k:IntKind} {n:Int} (h:V3 c (.pv (.int k) n) v):v= .int k n:=by
 obtain⟨p,e,hr⟩:=(h:V0 c (.pv (.int k) n) v)
 cases e;exact rep_int (w:=c.w) hr
theorem v3_str {c:Ctx} {v:Value} {x:List UInt8} (h:V3 c (.pv .str x) v):v= .string (bytes x):=by
 obtain⟨p,e,hr⟩:=(h:V0 c (.pv .str x) v)
 cases e;exact rep_str (w:=c.w) hr
theorem v3_pv {c:Ctx} {v:Value} {t:Tp} {x:t.D} (h:V3 c (.pv t x) v):∃p,enc t x=[p]/\Rep c.w c.S v p:=h
theorem v3_boxR {c:Ctx} {v:Value} {k o:Nat} (h:V3 c (.box k o) v):c.live k/\v=refV k (c.β k) o:=h
theorem v3_box {c:Ctx} {v:Value} {k o:Nat} (hk:mapName k=false) (h:V3 c (.box k o) v):c.live k/\v= .pointer (some ⟨c.β k,o,none⟩):=⟨h.1,h.2.trans (refV_ptr hk)⟩
theorem v3_ptr {c:Ctx} {v:Value} {t:Tp} {x:t.D} {o:Nat} (h:V3 c (.ptr t x o) v):∃b s,v= .pointer (some ⟨b,s+o,none⟩)/\CellsAt c.w c.S b s (enc t x):=h
theorem v3_own {c:Ctx} {v:Value} {n:Nat} {t:Tp} {xs:List t.D} (h:V3 c (.own n t xs) v):Rep c.w c.S v (.sl (xs.map (enc t)))/\c.tok n≠none/\∀tk,c.tok n=some (.live tk)->tk.wr=false/\v=c.τ n/\(⟨tk.t,tk.xs⟩:(t:Tp)×List t.D)=⟨t,xs⟩:=h
theorem v3_mtk {c:Ctx} {v:Value} {n:Nat} (h:V3 c (.mtk n) v):v.oneCell'=true/\c.tok n≠none/\∀tk,c.tok n=some (.live tk)->v=c.τ n:=h
theorem v3_mptr {c:Ctx} {v:Value} {n i o:Nat} (h:V3 c (.mptr n i o) v):v.oneCell'=true/\c.tok n≠none/\∀tk,c.tok n=some (.live tk)->∃b l cap,c.τ n= .slice (some ⟨b,0,none⟩) l cap/\i<l/\v= .pointer (some ⟨b,i*tk.t.w+o,none⟩):=h
theorem v3_clo {c:Ctx} {v:Value} {f:FuncId} {cs:List AV} (h:V3 c (.clo f cs) v):∃us:List Value,v= .func (.func f) #[] us.toArray/\All2 (V0 c) cs us:=h
theorem mk_bool (c:Ctx) (b:Bool):V3 c (.pv .bool b) (.bool b):=⟨_,rfl,.bool b⟩
theorem mk_int (c:Ctx) (k:IntKind) (n:Int):V3 c (.pv (.int k) n) (.int k n):=⟨_,rfl,.int k n⟩
theorem mk_str (c:Ctx) (x:List UInt8):V3 c (.pv .str x) (.string (bytes x)):=⟨_,rfl,.str _⟩
theorem sim_pick (c a b:Operand) (ho:o.op= .pick c a b) (h:(opRD E o.op o.dst s.ev).R s [] [] e fp):Sim E o s e:=by
 rw[ho]at h
 simp only[opRD]at h
 split at h
 .rename_i t hc
  have base:Sim E o s ⟨if t then s.ev a else s.ev b,[],[]⟩:=sim_val fun cx ac w _ hev=>by
   have hb:ac.eval c= .bool t:=v3_bool (hc▸hev c)
   refine⟨if t then ac.eval a else ac.eval b,by cases t<;>simp[execOp,ho,hb,asBool],?_⟩
   cases t
   .exact hev b
   .exact hev a
  rcases h with⟨rfl,h⟩|⟨rfl,h⟩
  .cases val_R h;exact base
  .cases val_R h;exact base
 .exact h.elim
theorem arith_R {k:IntKind} {n:Int} {rb rt:List Nat} (h:(arithRD k n).R s rb rt e fp):e=⟨.pv (.int k) (k.wrap n),[],[]⟩:=by
 cases k<;>simp only[arithRD,RD.R,RD.val,need]at h<;>first|exact h.1|skip
 rw[IntWalk.i64_in n ⟨h.1.1,h.1.2⟩];exact h.2.1
theorem bytes_inj {a b:List UInt8}:bytes a=bytes b↔a=b:=by
 constructor
 .intro h
  have:=congrArg (fun x:ByteArray=>x.data.toList) h
  simpa[bytes]using this
 .exact congrArg bytes
theorem bytes_toList (l:List UInt8):(bytes l).toList=l:=by
 rw[ByteArray.toList_eq];simp[bytes]
end
section
variable {E : Env} {o : Oper} {s : LSt} {e : Eff} {fp : FP}
theorem decStr (a b:List UInt8):(a==b)=decide (a=b):=by
 by_cases h:a=b
 .simp [h]
 .simp [h]
theorem decInt (a b:Int):(a==b)=decide (a=b):=by
 by_cases h:a=b
 .simp [h]
 .simp [h]
theorem decIntN (a b:Int):(a !=b)= !decide (a=b):=by rw[bne,decInt]
theorem run_equal_nil {P:Program} (w:World) (T u:TypeId) (p:Option Addr) (hT:P.underlying T=some (.pointer u)):(Op.equal T (.pointer p) (.pointer none)).run P w= .ok p.isNone w:=by
 have h:∀d:Nat,(Op.equalIn (d+1) T (.pointer p) (.pointer none)).run P w= .ok p.isNone w:=fun d=>by
  cases p<;>simp[Op.equalIn,run_underlying hT]
 exact h 9999
theorem v3_nilp {c:Ctx} {v:Value} (h:V3 c .nilp v):v= .pointer none:=h
theorem isNil_val {c:Ctx} {x:AV} {v:Value} {nb:Bool} (hn:isNil x=some nb) (h:V3 c x v):∃p,v= .pointer p/\p.isNone=nb:=by
 unfold isNil at hn
 split at hn
 .cases hn;exact⟨none,h,rfl⟩
 .cases hn
  obtain⟨b,s',e',hc⟩:=h
  exact⟨_,e',rfl⟩
 .rename_i y
  cases hn
  obtain⟨p,e',hr⟩:=v3_pv h
  cases y with
  |none=>
   simp only[enc,Option.map_none,List.cons.injEq,and_true]at e'
   subst e'
   cases hr
   exact⟨none,rfl,rfl⟩
  |some r=>
   simp only[enc,zbn,List.cons.injEq,and_true]at e'
   subst e'
   obtain⟨b,q,e2,hc⟩:=hr.optOpen
   exact⟨_,e2,rfl⟩
 .cases hn
theorem sim_bin (hE:EnvOk E) (op:BinOp) (T:TypeId) (x y:Operand) (t:TypeId) (ho:o.op= .binOp op T x y t) (h:(binRD (match E.ty T with|some ty=>ty.bool|none=>false) (match E.ty T with|some ty=>ty.ptr|none=>false) op (s.ev x) (s.ev y)).R s [] [] e fp):Sim E o s e:=by
 have key:∀(z:Value) (zt:Tp) (zx:zt.D),(∀(c:Ctx) (a:Act) w,c.w=w->(∀y,V3 c (s.ev y) (a.eval y))->(do eqGuard op T x y (a.eval x) (a.eval y);binOp op T (a.eval x) (a.eval y):Sem Value).run E.P w= .ok z w/\V3 c (.pv zt zx) z)->Sim E o s ⟨.pv zt zx,[],[]⟩:=by
  intro z zt zx hrun
  refine sim_val fun c a w hw hev=>?_
  obtain⟨h1,h2⟩:=hrun c a w hw hev
  exact⟨z,by simp only[execOp,ho,Sem.run_bind];rw[<-Sem.run_bind,h1];rfl,h2⟩
 simp only[binRD]at h
 split at h
 .rename_i k m hx
  split at h
  .rename_i k' n hy
   have vx:∀(c:Ctx) (a:Act),(∀y,V3 c (s.ev y) (a.eval y))->a.eval x= .int k m:=fun c a hev=>v3_int (hx▸hev x)
   have vy:∀(c:Ctx) (a:Act),(∀y,V3 c (s.ev y) (a.eval y))->a.eval y= .int k' n:=fun c a hev=>v3_int (hy▸hev y)
   have main:∀op',op=op'->k=k'->(binInt op' k m n).R s [] [] e fp->op'≠ .shl->op'≠ .shr->Sim E o s e:=fun op' e1 e2 h n1 n2=>by
    subst e1;subst e2
    cases op
    all_goals first
     |exact absurd rfl n1
     |exact absurd rfl n2
     |(cases arith_R h;exact key (.int k _) (.int k) _ (fun c a w hw hev=>⟨by rw[vx c a hev,vy c a hev];simp[eqGuard,binOp,Op.intArith],mk_int c _ _⟩))
     |(cases val_R h;exact key (.bool _) .bool _ (fun c a w hw hev=>⟨by rw[vx c a hev,vy c a hev];first|(simp[eqGuard,binOp,Op.intCmp,decInt,decIntN];done)|(simp[eqGuard,binOp,Op.intCmp];exact decInt m n)|(simp[eqGuard,binOp,Op.intCmp];exact decIntN m n),mk_bool c _⟩))
     |(cases val_R h;exact key (.int k _) (.int k) _ (fun c a w hw hev=>⟨by rw[vx c a hev,vy c a hev];simp[eqGuard,binOp,Op.intBits,bitsI],mk_int c _ _⟩))
     |(obtain⟨h0,h⟩:=h;first
       |(cases arith_R h;exact key (.int k _) (.int k) _ (fun c a w hw hev=>⟨by rw[vx c a hev,vy c a hev];simp[eqGuard,binOp,Op.intDiv,h0],mk_int c _ _⟩))
       |(cases val_R h;exact key (.int k _) (.int k) _ (fun c a w hw hev=>⟨by rw[vx c a hev,vy c a hev];simp[eqGuard,binOp,Op.intDiv,h0],mk_int c _ _⟩)))
   split at h
   .obtain ⟨h0,h⟩:=h
    cases arith_R h
    exact key (.int k _) (.int k) _ (fun c a w hw hev=>⟨by rw[vx c a hev,vy c a hev];simp[eqGuard,binOp,Op.shift,Int.not_lt.2 h0],mk_int c _ _⟩)
   .obtain ⟨h0,h⟩:=h
    cases val_R h
    exact key (.int k _) (.int k) _ (fun c a w hw hev=>⟨by rw[vx c a hev,vy c a hev];simp[eqGuard,binOp,Op.shift,Int.not_lt.2 h0],mk_int c _ _⟩)
   .rename_i n1 n2
    split at h
    .rename_i e2
     exact main op rfl e2 h (fun e=>n1 e) (fun e=>n2 e)
    .exact h.elim
  .exact h.elim
 .rename_i m hx
  split at h
  .rename_i n hy
   have vx:∀(c:Ctx) (a:Act),(∀y,V3 c (s.ev y) (a.eval y))->a.eval x= .string (bytes m):=fun c a hev=>v3_str (hx▸hev x)
   have vy:∀(c:Ctx) (a:Act),(∀y,V3 c (s.ev y) (a.eval y))->a.eval y= .string (bytes n):=fun c a hev=>v3_str (hy▸hev y)
   cases op
   all_goals first
    |exact h.elim
    |(cases val_R h;exact key (.bool _) .bool _ (fun c a w hw hev=>⟨by rw[vx c a hev,vy c a hev];simp[eqGuard,binOp,Op.stringOp,bytes_toList,decStr],mk_bool c _⟩))
    |(obtain⟨h0,h⟩:=h;cases val_R h;exact key (.string (bytes (m++n))) .str _ (fun c a w hw hev=>⟨by
      rw[vx c a hev,vy c a hev]
      have hm:¬(((bytes m).size+(bytes n).size:Nat):Int)>IntKind.i64.max:=by simp[IntKind.max,IntKind.signed,IntKind.bits,bytes_size];omega
      have e1:bytes m++bytes n=bytes (m++n):=by apply Go.WideShapes.bytes_inj;simp[bytes]
      simp only[eqGuard,binOp,Op.stringOp]
      rw[zu hm,e1];rfl,mk_str c _⟩))
  .exact h.elim
 .rename_i m hx
  split at h
  .rename_i n hy
   have vx:∀(c:Ctx) (a:Act),(∀y,V3 c (s.ev y) (a.eval y))->a.eval x= .bool m:=fun c a hev=>v3_bool (hx▸hev x)
   have vy:∀(c:Ctx) (a:Act),(∀y,V3 c (s.ev y) (a.eval y))->a.eval y= .bool n:=fun c a hev=>v3_bool (hy▸hev y)
   cases hty:E.ty T with
   |none=>rw[hty]at h;exact h.elim
   |some ty=>
    rw[hty]at h
    cases htb:ty.bool with
    |false=>simp only[htb]at h;exact h.elim
    |true=>
    simp only[htb,if_true]at h
    have hT:E.P.underlying T=some .bool:=(hE.ty T ty hty).bool htb
    cases op
    all_goals first
     |exact h.elim
     |(cases val_R h;exact key (.bool _) .bool _ (fun c a w hw hev=>⟨by rw[vx c a hev,vy c a hev];simp[eqGuard,binOp,run_equal_bool (P:=E.P) w T m n hT],mk_bool c _⟩))
  .exact h.elim
 .unfold ptrRD at h
  split at h
  case h_2=>exact h.elim
  rename_i hy
  split at h
  case h_2=>exact h.elim
  rename_i nb hn
  cases hty:E.ty T with
  |none=>rw[hty]at h;exact h.elim
  |some ty=>
   rw[hty]at h
   cases htp:ty.ptr with
   |false=>simp only[htp]at h;exact h.elim
   |true=>
   simp only[htp,if_true]at h
   obtain⟨u,hT⟩:=(hE.ty T ty hty).ptr htp
   have vy:∀(c:Ctx) (a:Act),(∀y,V3 c (s.ev y) (a.eval y))->a.eval y= .pointer none:=fun c a hev=>v3_nilp (hy▸hev y)
   have vx:∀(c:Ctx) (a:Act),(∀y,V3 c (s.ev y) (a.eval y))->∃p,a.eval x= .pointer p/\p.isNone=nb:=fun c a hev=>isNil_val hn (hev x)
   cases op
   all_goals first
    |exact h.elim
    |(cases val_R h;exact key (.bool _) .bool _ (fun c a w hw hev=>⟨by obtain⟨p,hp,hb⟩:=vx c a hev;rw[hp,vy c a hev,<-hb];simp[eqGuard,binOp,run_equal_nil (P:=E.P) w T u p hT],mk_bool c _⟩))
theorem sim_un (op:UnOp) (T:TypeId) (x:Operand) (ho:o.op= .unOp op T x) (h:(opRD E o.op o.dst s.ev).R s [] [] e fp):Sim E o s e:=by
 rw[ho]at h
 simp only[opRD,unRD]at h
 split at h
 .rename_i b hx
  cases op with
  |not=>
   cases val_R h
   exact sim_val fun c a w hw hev=>⟨.bool (!b),by simp[execOp,ho,v3_bool (hx▸hev x),Op.unary],mk_bool c _⟩
  |_=>exact h.elim
 .rename_i k n hx
  cases op with
  |neg=>
   cases arith_R h
   exact sim_val fun c a w hw hev=>⟨.int k (k.wrap (0-n)),by simp[execOp,ho,v3_int (hx▸hev x),Op.unary,Op.intArith],mk_int c _ _⟩
  |xor=>
   cases val_R h
   exact sim_val fun c a w hw hev=>⟨.int k (bitsI .xor k (if k.signed then-1 else k.max) n),by simp[execOp,ho,v3_int (hx▸hev x),Op.unary,Op.intBits,bitsI],mk_int c _ _⟩
  |_=>exact h.elim
 .exact h.elim
theorem sim_nilCheck (x:Operand) (ho:o.op= .nilCheck x) (h:(opRD E o.op o.dst s.ev).R s [] [] e fp):Sim E o s e:=by
 have key:∀y,(∀c (a:Act),(∀y,V3 c (s.ev y) (a.eval y))->(∃b,a.eval x= .pointer (some b))/\V3 c y (a.eval x))->Sim E o s ⟨y,[],[]⟩:=fun y hy=>
  sim_val fun c a w hw hev=>by
   obtain⟨⟨b,hb⟩,hv⟩:=hy c a hev
   exact⟨a.eval x,by simp[execOp,ho,hb],hv⟩
 rw[ho]at h
 simp only[opRD]at h
 split at h
 .rename_i k q hx
  split at h
  case isTrue=>exact h.elim
  rename_i hmk
  cases val_R h
  exact key _ fun c a hev=>by have:=hev x;rw[hx]at this;exact⟨⟨_,(v3_box (by simpa using hmk) this).2⟩,this⟩
 .rename_i t r q hx
  cases val_R h
  exact key _ fun c a hev=>by have:=hev x;rw[hx]at this;obtain⟨b,s',e',hc⟩:=this;exact⟨⟨_,e'⟩,b,s',e',hc⟩
 .rename_i n i q hx
  simp only[RD.R]at h
  split at h
  .rename_i tk htk
   cases val_R h
   refine sim_look fun R β τ F S a w hM hev=>?_
   have:=hev x;rw[hx]at this
   obtain⟨h1,h2,h3⟩:=v3_mptr this
   obtain⟨b,l,cap,e1,e2,e3⟩:=h3 tk htk
   exact⟨a.eval x,by simp[execOp,ho,e3],this⟩
  .exact h.elim
 .rename_i t y hx
  obtain⟨r,rfl,h⟩:=h
  cases val_R h
  exact key _ fun c a hev=>by
   have:=hev x;rw[hx]at this
   obtain⟨p,e',hr⟩:=v3_pv this
   simp only[enc,zbn,List.cons.injEq,and_true]at e'
   subst e'
   obtain⟨b,q,e2,hc⟩:=hr.optOpen
   exact⟨⟨_,e2⟩,b,q,e2,hc⟩
 .exact h.elim
theorem sim_extract (x:Operand) (i:Nat) (ho:o.op= .extract x i) (h:(opRD E o.op o.dst s.ev).R s [] [] e fp):Sim E o s e:=by
 rw[ho]at h
 simp only[opRD]at h
 split at h
 .rename_i cs hx
  split at h
  .rename_i c hc
   cases val_R h
   exact sim_val fun cx a w hw hev=>by
    have h:=hev x
    rw[hx]at h
    obtain⟨vs,e,ha⟩:=h
    obtain⟨v,hv,hcv⟩:=ha.get i c hc
    exact⟨v,by simp[execOp,ho,e,Instr.extract,hv],V3_of_V2 hcv⟩
  .exact h.elim
 .exact h.elim
theorem add_ptr (b q n:Nat):(⟨b,q,none⟩:Addr).add n=⟨b,q+n,none⟩:=add_at b q n
theorem sim_fieldAddr (hE:EnvOk E) (T:TypeId) (x:Operand) (f:Nat) (ho:o.op= .fieldAddr T x f) (h:(opRD E o.op o.dst s.ev).R s [] [] e fp):Sim E o s e:=by
 rw[ho]at h
 simp only[opRD]at h
 split at h
 case h_2=>exact h.elim
 rename_i ty hty
 split at h
 case h_2=>exact h.elim
 rename_i off size hf
 split at h
 case isFalse=>exact h.elim
 rename_i h0
 have hT:=hE.ty T ty hty
 obtain⟨fields,hu,hp⟩:=hT.offs (by rintro e;rw[e]at hf;cases hf)
 obtain⟨fd,i,h1,h2,h3,h4⟩:∃(fd:Field) (i:TypeInfo),fields[f]? =some fd/\E.P.info? fd.type=some i/\fd.offset=off/\i.size=size:=by
  have hgen:∀(l:List Field) (r:List (Nat×Nat)),l.mapM (fun f=>(E.P.info? f.type).map fun i=>(f.offset,i.size))=some r->∀(n:Nat) p,r[n]? =some p->∃(fd:Field) (i:TypeInfo),l[n]? =some fd/\E.P.info? fd.type=some i/\(fd.offset,i.size)=p:=by
   intro l
   induction l with
   |nil=>intro r hr n p hn;simp at hr;subst hr;simp at hn
   |cons g l ih=>
    intro r hr n p hn
    simp only[List.mapM_cons,Option.bind_eq_bind,Option.pure_def]at hr
    cases hi:E.P.info? g.type with
    |none=>simp[hi]at hr
    |some i=>
     cases hl:l.mapM (fun f=>(E.P.info? f.type).map fun i=>(f.offset,i.size))with
     |none=>simp[hi,hl]at hr
     |some r'=>
      simp[hi,hl]at hr
      subst hr
      cases n with
      |zero=>simp at hn;exact⟨g,i,rfl,hi,hn⟩
      |succ n=>simpa using ih r' hl n p (by simpa using hn)
  obtain⟨fd,i,h1,h2,h3⟩:=hgen _ _ hp f _ hf
  simp only[Prod.mk.injEq]at h3
  exact⟨fd,i,by simpa using h1,h2,h3.1,h3.2⟩
 have run:∀(a:Act) (w:World) b q,a.eval x= .pointer (some ⟨b,q,none⟩)->(execOp a.eval o).run E.P w= .ok (.value (.pointer (some ⟨b,q+off,none⟩))) w:=fun a w b q e=>by
  have hsz:(sizeOf fd.type).run E.P w= .ok size w:=by simp[sizeOf,typeInfo,h2,h4]
  have hne:¬size=0:=by omega
  simp[execOp,ho,Instr.fieldAt,run_underlying hu,h1,e,Instr.sureAddr,fieldPlace,hsz,hne,h3,add_ptr]
 split at h
 .rename_i k q hx
  split at h
  case isTrue=>exact h.elim
  rename_i hmk
  have hmk:mapName k=false:=by simpa using hmk
  cases val_R h
  exact sim_val fun c a w hw hev=>by
   have h:=hev x;rw[hx]at h
   obtain⟨g1,g2⟩:=v3_box hmk h
   exact⟨_,run a w _ _ g2,g1,(refV_ptr hmk).symm⟩
 .rename_i t y q hx
  cases val_R h
  exact sim_val fun c a w hw hev=>by
   have h:=hev x;rw[hx]at h
   obtain⟨b,t',e',hc⟩:=v3_ptr h
   exact⟨_,run a w _ _ e',b,t',by rw[zbv],hc⟩
 .rename_i n i' q hx
  simp only[RD.R]at h
  split at h
  .rename_i tk htk
   cases val_R h
   refine sim_look fun R β τ F S a w hM hev=>?_
   have h:=hev x;rw[hx]at h
   obtain⟨g1,g2,g3⟩:=v3_mptr h
   obtain⟨b,l,cap,e1,e2,e3⟩:=g3 tk htk
   refine⟨_,run a w _ _ e3,rfl,g2,fun tk' htk'=>?_⟩
   rw[show(s.ctx w S β τ).tok n=lookT s.T n from rfl,htk]at htk'
   cases htk'
   exact⟨b,l,cap,e1,e2,by rw[zbv]⟩
  .exact h.elim
 .exact h.elim
theorem as_rep {c:Ctx} {x:AV} {v:Value} {t:Tp} {y:t.D} (hx:x.as t=some y) (h:V3 c x v):∃p,enc t y=[p]/\Rep c.w c.S v p:=by
 cases x with
 |pv t' z=>
  simp only[AV.as]at hx
  split at hx
  .rename_i e;subst e;cases hx;exact h
  .cases hx
 |own n r xs=>
  simp only[AV.as]at hx
  split at hx
  .rename_i e;subst e;cases hx;exact⟨_,rfl,h.1⟩
  .cases hx
 |nils=>
  cases t with
  |sl r=>cases hx;rw[show v= .slice none 0 0 from h];exact⟨_,rfl,rep_nils⟩
  |_=>cases hx
 |nilp=>
  cases t with
  |opt r=>cases hx;rw[show v= .pointer none from h];exact⟨_,rfl,.nil⟩
  |_=>cases hx
 |ptr r z q=>
  simp only[AV.as]at hx
  split at hx
  .rename_i e
   obtain⟨e1,e2⟩:=e
   subst e1;subst e2;cases hx
   obtain⟨b,t',e',hc⟩:=v3_ptr h
   exact⟨_,rfl,by rw[e'];exact Rep.optMk hc⟩
  .cases hx
 |_=>cases hx
theorem as_sl {c:Ctx} {x:AV} {v:Value} {r:Tp} {xs:List r.D} (hx:x.as (.sl r)=some xs) (h:V3 c x v):Rep c.w c.S v (.sl (xs.map (enc r))):=by
 obtain⟨p,e,hr⟩:=as_rep hx h
 cases e;exact hr
theorem int_val {c:Ctx} {a:Act} {x:Operand} {k:IntKind} {n:Int} (hx:s.ev x= .pv (.int k) n) (hev:∀y,V3 c (s.ev y) (a.eval y)):a.eval x= .int k n:=v3_int (hx▸hev x)
theorem withInt_R {x:AV} {f:Int->RD} {rb rt:List Nat} (h:(withInt x f).R s rb rt e fp):∃k n,x= .pv (.int k) n/\(f n).R s rb rt e fp:=by
 unfold withInt at h
 split at h
 .exact ⟨_,_,rfl,h⟩
 .exact h.elim
structure Elems (w:World) (S:Stab) (v:Value) (r:Tp) (xs:List r.D):Prop where
 ex:∃a cap b o,v= .slice a xs.length cap/\xs.length<=cap/\(xs≠ []->a=some ⟨b,o,none⟩)/\∀(i j:Nat) (x:r.D) (p:PV),xs[i]? =some x->(enc r x)[j]? =some p->∃u,w.cell? ⟨b,o+i*r.w+j,none⟩=some u/\Rep w S u p
theorem Elems.of_rep {w:World} {S:Stab} {v:Value} {r:Tp} {xs:List r.D} (h:Rep w S v (.sl (xs.map (enc r)))):Elems w S v r xs:=by
 obtain⟨a,cap,b,o,m,hv,hc,ha,hm,hr⟩:=h.opened
 refine⟨a,cap,b,o,by simpa using hv,by simpa using hc,fun hne=>ha (by simpa using hne),fun i j x p hx hp=>?_⟩
 have hrow:(xs.map (enc r))[i]? =some (enc r x):=by simp[hx]
 have hmw:m=r.w:=by rw[<-hm i _ hrow,enc_len]
 obtain⟨_,u,h1,h2⟩:=hr i _ hrow j p hp
 exact⟨u,by rw[<-hmw];exact h1,h2⟩
theorem Elems.of_tok {Fr:Nat->Prop} {w:World} {S:Stab} {tk:Tok} {v:Value} {F:Nat->Prop} (h:TokOk Fr w S tk v F) (htr:tk.tr=none):Elems w S v tk.t tk.xs:=by
 obtain⟨_,h,_⟩:=h
 rcases h with⟨rfl,h⟩|⟨b,cap,vs,T,e,hF,hg,hz,hn,hm,hst,hwr,hc⟩
 .exact ⟨none,0,0,0,by rw[h];rfl,by rw[h];exact zae _,fun hne=>absurd h hne,fun i j x p hx=>by rw[h]at hx;simp at hx⟩
 .refine ⟨_,cap,b,0,e,hn,fun _=>rfl,fun i j x p hx hp=>?_⟩
  obtain⟨u,h1,h2,_⟩:=hc i j x p hx hp
  exact⟨u,by rw[zaY,cell_of_row w b _ vs T (0,0) hg];exact h1,h2 htr⟩
theorem withRows_R {x:Operand} {r:Tp} {f:List r.D->RD} {rb rt:List Nat} (h:(withRows r (s.ev x) f).R s rb rt e fp):∃xs rt',(f xs).R s rb rt' e fp/\∀R β τ F S (a:Act) w,Mem R (lookB s.B) (lookT s.T) β τ F S w->(∀y,V3 (s.ctx w S β τ) (s.ev y) (a.eval y))->Elems w S (a.eval x) r xs:=by
 unfold withRows at h
 split at h
 .rename_i n hx
  simp only[RD.R]at h
  split at h
  .rename_i tk htk
   split at h
   .rename_i e1
    obtain⟨e1,htr⟩:=e1
    subst e1
    refine⟨_,_,h,fun R β τ F S a w hM hev=>?_⟩
    have h1:=hev x;rw[hx]at h1
    obtain⟨g1,g2,g3⟩:=v3_mtk h1
    rw[g3 tk htk]
    exact Elems.of_tok (hM.toks n tk htk) htr
   .exact h.elim
  .exact h.elim
 .split at h
  .rename_i xs hx
   exact⟨xs,rt,h,fun R β τ F S a w hM hev=>Elems.of_rep (as_sl (c:=s.ctx w S β τ) hx (hev x))⟩
  .exact h.elim
theorem isAgg_run {P:Program} {T:TypeId} {d:TypeDesc} (h:P.underlying T=some d) (w:World):(isAgg T).run P w= .ok (TypeDesc.isAgg d) w:=by
 cases d<;>simp[Go.isAgg,run_underlying h,TypeDesc.isAgg]
theorem loadVar_agg {P:Program} {T:TypeId} {d:TypeDesc} {i:TypeInfo} (h:P.underlying T=some d) (ha:TypeDesc.isAgg d=true) (hi:P.info? T=some i) (w:World) (ad:Addr) (cs:List Value) (hn:cs.length=i.size) (hc:∀j v,cs[j]? =some v->w.cell? (ad.add j)=some v):(loadVar T ad).run P w= .ok (.agg cs.toArray) w:=by
 simp[loadVar,isAgg_run h,ha,sizeOf,typeInfo,hi,<-hn,run_loadCells_list w ad cs hc]
theorem loadVar_one {P:Program} {T:TypeId} {d:TypeDesc} (h:P.underlying T=some d) (ha:TypeDesc.isAgg d=false) (w:World) (ad:Addr) (v:Value) (hc:w.cell? ad=some v):(loadVar T ad).run P w= .ok v w:=by
 simp[loadVar,isAgg_run h,ha,hc]
theorem cell_box {w:World} {b:Nat} {vs:List Value} {T:TypeId} (h:w.heap[b]? =some (.cells vs.toArray T (0,0))) (j:Nat):w.cell? ⟨b,j,none⟩=vs[j]? :=by
 simp[World.cell?,h]
theorem load_at {c:Ctx} (T:TypeId) (x:Operand) (ho:o.op= .load T x) (ty:Ty) (hT:TyOk E.P T ty) (a:Act) (w:World) (b q:Nat) (hp:a.eval x= .pointer (some ⟨b,q,none⟩)) (cs:List AV) (vs:List Value) (hl:All2 (V1c c) cs vs) (hc:∀j v,vs[j]? =some v->w.cell? ⟨b,q+j,none⟩=some v) (y:AV)
  (hy:(ty.agg=true/\cs.length=ty.size/\y= .agg cs)\/(ty.agg=false/\cs[0]? =some y)):∃v,(execOp a.eval o).run E.P w= .ok (.value v) w/\V3 c y v:=by
 obtain⟨d,hu,hd⟩:=hT.desc
 obtain⟨i,z,hi,hsz,_⟩:=hT.info
 rcases hy with⟨h1,h2,rfl⟩|⟨h1,h2⟩
 .refine ⟨.agg vs.toArray,?_,vs,rfl,hl⟩
  simp only[execOp,ho,Instr.loadAt,hp,Instr.sureAddr,Sem.run_bind,Sem.run_pure,Result.andThen_ok]
  rw[loadVar_agg hu (hd.trans h1) hi w _ vs (by rw[<-hl.len,h2,hsz]) (fun j v hj=>by rw[add_ptr];exact hc j v hj)]
  rfl
 .obtain ⟨v,hv,hyv⟩:=hl.get 0 y h2
  refine⟨v,?_,V3_of_V1 hyv.1⟩
  simp only[execOp,ho,Instr.loadAt,hp,Instr.sureAddr,Sem.run_bind,Sem.run_pure,Result.andThen_ok]
  rw[loadVar_one hu (hd.trans h1) w _ v (by simpa using hc 0 v hv)]
  rfl
theorem row_vals {c:Ctx} {t:Tp} (y:t.D) {b q:Nat} (h:∀j p,(enc t y)[j]? =some p->∃u,c.w.cell? ⟨b,q+j,none⟩=some u/\Rep c.w c.S u p):∃vs:List Value,All2 (V1c c) (cellsOf t y) vs/\∀j v,vs[j]? =some v->c.w.cell? ⟨b,q+j,none⟩=some v:=by
 obtain⟨vs,hn,hf⟩:=choose_list (fun j (u:Value)=>∀p,(enc t y)[j]? =some p->c.w.cell? ⟨b,q+j,none⟩=some u/\Rep c.w c.S u p) t.w (fun j hj=>by
  have hj':j<(enc t y).length:=by rw[enc_len];exact hj
  obtain⟨u,h1,h2⟩:=h j (enc t y)[j] (by simp[hj'])
  exact⟨u,fun p hp=>by rw[zc hj']at hp;cases hp;exact⟨h1,h2⟩⟩)
 refine⟨vs,All2.of_get (by rw[cells_len,hn]) (fun j x v hx hv=>?_),fun j v hv=>?_⟩
 .obtain ⟨p,hp,t',z,rfl,he⟩:=(cells_enc t y).get j x hx
  obtain⟨h1,h2⟩:=hf j v hv p hp
  exact⟨⟨p,he,h2⟩,h2.one⟩
 .have hj:j<(enc t y).length:=by rw[enc_len,<-hn];exact(zh.1 hv).1
  exact(hf j v hv (enc t y)[j] (by simp[hj])).1
theorem load_row {c:Ctx} (T:TypeId) (x:Operand) (ho:o.op= .load T x) (ty:Ty) (hT:TyOk E.P T ty) (a:Act) (w:World) (hw:c.w=w) (b q:Nat) (t:Tp) (y:t.D) (off:Nat) (hp:a.eval x= .pointer (some ⟨b,q+off,none⟩)) (hc:∀j p,(enc t y)[j]? =some p->∃u,w.cell? ⟨b,q+j,none⟩=some u/\Rep w c.S u p) {rb rt:List Nat}
  (h:(if ty.agg then(if off+ty.size<=(cellsOf t y).length then .val (.agg (((cellsOf t y).drop off).take ty.size))else .fail)else match(cellsOf t y)[off]? with|some c=>.val c|none=>.fail:RD).R s rb rt e fp):∃z,e=⟨z,[],[]⟩/\∃v,(execOp a.eval o).run E.P w= .ok (.value v) w/\V3 c z v:=by
 subst hw
 obtain⟨vs,h1,h2⟩:=row_vals (c:=c) y hc
 have h3:∀j v,(vs.drop off)[j]? =some v->c.w.cell? ⟨b,(q+off)+j,none⟩=some v:=fun j v hj=>by
  rw[zaL]at hj
  rw[zbv];exact h2 _ _ hj
 split at h
 .rename_i hagg
  split at h
  .rename_i hle
   cases val_R h
   refine⟨_,rfl,load_at (c:=c) T x ho ty hT a c.w b (q+off) hp (((cellsOf t y).drop off).take ty.size) ((vs.drop off).take ty.size) ((h1.drop off).take _) (fun j v hj=>?_) _ (.inl ⟨hagg,by simp;omega,rfl⟩)⟩
   rw[zaH]at hj
   split at hj
   .exact h3 j v hj
   .cases hj
  .exact h.elim
 .rename_i hagg
  split at h
  .rename_i z hz
   cases val_R h
   exact⟨_,rfl,load_at (c:=c) T x ho ty hT a c.w b (q+off) hp ((cellsOf t y).drop off) (vs.drop off) (h1.drop off) h3 _ (.inr ⟨by simpa using hagg,by simpa using hz⟩)⟩
  .exact h.elim
theorem sim_load (hE:EnvOk E) (T:TypeId) (x:Operand) (ho:o.op= .load T x) (htree:∀ty n i q tk hs,E.ty T=some ty->s.ev x= .mptr n i q->lookT s.T n=some (.live tk)->tk.tr=some hs->(loadTree E o.dst ty n i q tk hs).R s [] [n] e fp->Sim E o s e)
  (hthaw:∀(y:AV) (k:Nat),Sim E o s ⟨y,[],[]⟩->(thawRD y).R s [k] [] e fp->Sim E o s e)
  (hglob:∀ty g,E.ty T=some ty->x= .global g->(gloadRD ty g).R s [] [] e fp->Sim E o s e)
  (h:(opRD E o.op o.dst s.ev).R s [] [] e fp):Sim E o s e:=by
 rw[ho]at h
 simp only[opRD]at h
 split at h
 case h_1=>exact h.elim
 rename_i ty hty
 have hT:=hE.ty T ty hty
 split at h
 .rename_i g hg
  exact hglob ty g hty (by cases x<;>first|(cases hg;rfl)|cases hg) h
 split at h
 .rename_i k q hx
  split at h
  case isTrue=>exact h.elim
  rename_i hmk
  have hmk:mapName k=false:=by simpa using hmk
  simp only[RD.R]at h
  split at h
  case h_1=>exact h.elim
  rename_i b hk
  have key:∀y,((ty.agg=true/\q+ty.size<=b.cs.length/\y= .agg ((b.cs.drop q).take ty.size))\/(ty.agg=false/\b.cs[q]? =some y))->Sim E o s ⟨y,[],[]⟩:=fun y hy=>by
   refine sim_look fun R β τ F S a w hM hev=>?_
   obtain⟨vs,T',hv,ha⟩:=(hM.boxes k b hk).2.2.2.cells hmk
   have h1:=hev x;rw[hx]at h1
   have hp:a.eval x= .pointer (some ⟨β k,q,none⟩):=(v3_box hmk h1).2
   have h3:∀j v,(vs.drop q)[j]? =some v->w.cell? ⟨β k,q+j,none⟩=some v:=fun j v hj=>by
    rw[zaL]at hj
    rw[cell_box hv];exact hj
   rcases hy with⟨g1,g2,rfl⟩|⟨g1,g2⟩
   .refine load_at (c:=s.ctx w S β τ) T x ho ty hT a w (β k) q hp ((b.cs.drop q).take ty.size) ((vs.drop q).take ty.size) ((ha.drop q).take _) (fun j v hj=>?_) _ (.inl ⟨g1,by simp;omega,rfl⟩)
    rw[zaH]at hj
    split at hj
    .exact h3 j v hj
    .cases hj
   .exact load_at (c:=s.ctx w S β τ) T x ho ty hT a w (β k) q hp (b.cs.drop q) (vs.drop q) (ha.drop q) h3 _ (.inr ⟨g1,by simpa using g2⟩)
  split at h
  .rename_i hagg
   split at h
   .cases val_R h;exact key _ (.inl ⟨hagg, ‹_›,rfl⟩)
   .exact h.elim
  .rename_i hagg
   split at h
   .rename_i y hy
    split at h
    .exact hthaw y k (key _ (.inr ⟨by simpa using hagg,hy⟩)) h
    .cases val_R h;exact key _ (.inr ⟨by simpa using hagg,hy⟩)
   .exact h.elim
 .rename_i t y q hx
  obtain⟨z,rfl⟩:∃z,e=⟨z,[],[]⟩:=by
   split at h
   .split at h
    .exact ⟨_,val_R h⟩
    .exact h.elim
   .split at h
    .exact ⟨_,val_R h⟩
    .exact h.elim
  refine sim_val fun c a w hw hev=>?_
  have h1:=hev x;rw[hx]at h1
  obtain⟨b,q',e',hc⟩:=v3_ptr h1
  obtain⟨z',e1,v,h2,h3⟩:=load_row (c:=c) T x ho ty hT a w hw b q' t y q e' (fun j p hp=>by obtain⟨_,u,g1,g2⟩:=hc j p hp;rw[hw]at g1 g2;exact⟨u,g1,g2⟩) h
  cases e1
  exact⟨v,h2,h3⟩
 .rename_i n i q hx
  simp only[RD.R]at h
  split at h
  case h_2=>exact h.elim
  rename_i tk htk
  split at h
  case h_2=>exact htree ty n i q tk _ hty hx htk ‹_› h
  rename_i htr
  obtain⟨y,hy,h⟩:=h
  simp only at h
  obtain⟨z,rfl⟩:∃z,e=⟨z,[],[]⟩:=by
   split at h
   .split at h
    .exact ⟨_,val_R h⟩
    .exact h.elim
   .split at h
    .exact ⟨_,val_R h⟩
    .exact h.elim
  refine sim_look fun R β τ F S a w hM hev=>?_
  have h1:=hev x;rw[hx]at h1
  obtain⟨g1,g2,g3⟩:=v3_mptr h1
  obtain⟨b,l,cap,e1,e2,e3⟩:=g3 tk htk
  obtain⟨_,hk,_⟩:=hM.toks n tk htk
  rcases hk with⟨ev,_⟩|⟨b',cap',vs,T',ev,hF,hg,hz,hn,hm,hst,hwr,hc⟩
  .rw [show(s.ctx w S β τ).τ n=τ n from rfl,ev]at e1;cases e1
  .rw [show(s.ctx w S β τ).τ n=τ n from rfl,ev]at e1
   cases e1
   obtain⟨z',e1,v,h2,h3⟩:=load_row (c:=s.ctx w S β τ) T x ho ty hT a w rfl b (i*tk.t.w) tk.t y q e3 (fun j p hp=>by
    obtain⟨u,k1,k2,_⟩:=hc i j y p hy hp
    exact⟨u,by rw[cell_of_row w b _ vs T' (0,0) hg];exact k1,k2 htr⟩) h
   cases e1
   exact⟨v,h2,h3⟩
 .exact h.elim
end
section
variable {E : Env} {o : Oper} {s : LSt} {e : Eff} {fp : FP}
theorem idx_some {α:Type} {xs:List α} {n:Int} {x:α} (h:idx xs n=some x):0<=n/\xs[n.toNat]? =some x:=by
 unfold idx at h
 split at h
 .exact ⟨‹_›,h⟩
 .cases h
theorem run_indexAt {T e':TypeId} {x i:Operand} (ho:o.op= .indexAddr T x i) {m:Nat} {ie:TypeInfo} (hu:E.P.underlying T=some (.slice e')) (hie:E.P.info? e'=some ie) (hsz:ie.size=m) {a:Act} {w:World} {b q len cap:Nat} {k:IntKind} {n:Int} (hv:a.eval x= .slice (some ⟨b,q,none⟩) len cap) (hk:a.eval i= .int k n) (h0:0<=n) (hn:n<len):
  (execOp a.eval o).run E.P w= .ok (.value (.pointer (some ⟨b,q+n.toNat*m,none⟩))) w:=by
 have hszr:(sizeOf e').run E.P w= .ok m w:=by simp[sizeOf,typeInfo,hie,hsz]
 simp[execOp,ho,Instr.indexAt,run_underlying hu,hv,hk,asIntOf,h0,hn,hszr,add_ptr]
theorem sim_indexAddr (hE:EnvOk E) (T:TypeId) (x i:Operand) (ho:o.op= .indexAddr T x i) (h:(opRD E o.op o.dst s.ev).R s [] [] e fp):Sim E o s e:=by
 rw[ho]at h
 simp only[opRD]at h
 split at h
 case h_2=>exact h.elim
 rename_i ty hty
 have hT:=hE.ty T ty hty
 split at h
 case h_2=>exact h.elim
 rename_i e' r by' he
 obtain⟨hu,hpos,ie,z,hie,hsz,_⟩:=hT.elem _ _ _ he
 obtain⟨k,n,hi,h⟩:=withInt_R h
 split at h
 .rename_i t hx
  simp only[RD.R]at h
  split at h
  case h_2=>exact h.elim
  rename_i tk htk
  obtain⟨⟨h0,hn⟩,h⟩:=h
  split at h
  case isFalse=>exact h.elim
  rename_i et
  cases val_R h
  refine sim_look fun R β τ F S a w hM hev=>?_
  have h1:=hev x;rw[hx]at h1
  obtain⟨g1,g2,g3⟩:=v3_mtk h1
  have g3:=g3 tk htk
  obtain⟨_,hk,_⟩:=hM.toks t tk htk
  rcases hk with⟨ev,exs⟩|⟨b,cap,vs,_,ev,hF,hg,hz,hnc,hm,hst,hwr,hc⟩
  .rw [exs]at hn;simp at hn;omega
  .rw [show(s.ctx w S β τ).τ t=τ t from rfl,ev]at g3
   refine⟨_,run_indexAt ho hu hie hsz g3 (int_val hi hev) h0 (by omega),rfl,g2,fun tk' htk'=>?_⟩
   rw[show(s.ctx w S β τ).tok t=lookT s.T t from rfl,htk]at htk'
   cases htk'
   refine⟨b,_,cap,ev,by omega,?_⟩
   rw[et];simp
 .rename_i hne
  unfold withRows at h
  split at h
  .rename_i n' hx2;exact absurd hx2 (hne n')
  .split at h
   case h_2=>exact h.elim
   rename_i xs hxs
   obtain⟨y,hy,h⟩:=h
   cases val_R h
   obtain⟨h0,hy⟩:=idx_some hy
   refine sim_val fun c a w hw hev=>?_
   have hr:=as_sl hxs (hev x)
   obtain⟨ad,cap,b,q,m,hv,hcap,had,hm,hcells⟩:=hr.opened
   have hlt:n.toNat<xs.length:=(zh.1 hy).1
   have hrow:(xs.map (enc r))[n.toNat]? =some (enc r y):=by simp[hy]
   have ead:=had (by intro e;rw[List.map_eq_nil_iff]at e;rw[e]at hlt;simp at hlt)
   have em:m=r.w:=by rw[<-hm _ _ hrow,enc_len]
   rw[ead,zar]at hv
   refine⟨_,run_indexAt ho hu hie hsz hv (int_val hi hev) h0 (by omega),b,q+n.toNat*r.w,rfl,?_⟩
   rw[<-em];exact hcells _ _ hrow
theorem sim_index (hE:EnvOk E) (T:TypeId) (x i:Operand) (ho:o.op= .index T x i) (h:(opRD E o.op o.dst s.ev).R s [] [] e fp):Sim E o s e:=by
 rw[ho]at h
 simp only[opRD]at h
 split at h
 case h_2=>exact h.elim
 rename_i ty hty
 have hT:=hE.ty T ty hty
 obtain⟨k,n,hi,h⟩:=withInt_R h
 split at h
 case h_2=>exact h.elim
 rename_i b hx
 split at h
 case isFalse=>exact h.elim
 rename_i hs
 obtain⟨u,hu,h⟩:=h
 cases val_R h
 obtain⟨h0,hu⟩:=idx_some hu
 refine sim_val fun c a w hw hev=>⟨.int .u8 u.toNat,?_,mk_int c _ _⟩
 have hb:a.eval x= .string (bytes b):=v3_str (hx▸hev x)
 have hk:a.eval i= .int k n:=int_val hi hev
 have hb':(bytes b)[n.toNat]? =some u:=by
  have hlt:n.toNat<b.length:=(zh.1 hu).1
  rw[getElem?_pos (bytes b) n.toNat (by rw[bytes_size];exact hlt)]
  rw[zc hlt]at hu
  rw[<-Option.some.inj hu];rfl
 simp[execOp,ho,Instr.index,run_underlying (hT.str hs),hb,hk,asIntOf,h0,hb']
theorem fold_push (xs:List Int):xs.foldl (fun r n=>r.push (UInt8.ofNat n.toNat)) ByteArray.empty=bytes (bytesOf xs):=by
 have key:∀(xs:List Int) (s:ByteArray),xs.foldl (fun r n=>r.push (UInt8.ofNat n.toNat)) s=⟨s.data++(bytesOf xs).toArray⟩:=by
  intro xs
  induction xs with
  |nil=>intro s;simp[bytesOf]
  |cons x xs ih=>
   intro s
   rw[zaq,ih]
   congr 1
   simp[bytesOf,ByteArray.push]
 rw[key]
 simp[bytes]
theorem sim_convert (hE:EnvOk E) (S_1 T:TypeId) (x:Operand) (ho:o.op= .convert S_1 T x) (h:(opRD E o.op o.dst s.ev).R s [] [] e fp):Sim E o s e:=by
 rw[ho]at h
 simp only[opRD]at h
 split at h
 case h_2=>exact h.elim
 rename_i tyS ty hS hT
 obtain⟨dS,hdS,_⟩:=(hE.ty S_1 tyS hS).desc
 have hTy:=hE.ty T ty hT
 split at h
 .rename_i k n hx
  split at h
  case h_2=>exact h.elim
  rename_i k' hk
  cases val_R h
  refine sim_val fun cx a w hw hev=>⟨.int k' (k'.wrap n),?_,mk_int cx _ _⟩
  have hv:a.eval x= .int k n:=v3_int (hx▸hev x)
  simp[execOp,ho,Go.convert,run_underlying hdS,run_underlying (hTy.int _ hk),hv,Conv.intToInt]
 .rename_i b hx
  split at h
  case isFalse=>exact h.elim
  rename_i hs
  cases val_R h
  refine sim_val fun cx a w hw hev=>?_
  have hv:a.eval x= .string (bytes b):=v3_str (hx▸hev x)
  refine⟨.string (bytes b),?_,by have h1:=hev x;rw[hx,hv]at h1;exact h1⟩
  simp[execOp,ho,Go.convert,run_underlying hdS,run_underlying (hTy.str hs),hv]
 .split at h
  case h_2=>exact h.elim
  rename_i e' by' he
  split at h
  case h_2=>exact h.elim
  rename_i hu8
  split at h
  case isFalse=>exact h.elim
  rename_i hs
  obtain⟨tye,htye,hint⟩:=zaw.1 hu8
  have hue:=(hE.ty e' tye htye).int _ hint
  obtain⟨huS,_⟩:=(hE.ty S_1 tyS hS).elem _ _ _ he
  obtain⟨xs,rt',h,hel⟩:=withRows_R h
  cases val_R h
  refine sim_look fun R β τ F S a w hM hev=>⟨.string (bytes (bytesOf xs)),?_,mk_str _ _⟩
  obtain⟨ad,cap,b,q,hv,hcap,had,hcell⟩:=(hel R β τ F S a w hM hev).ex
  have main:(Conv.bytesToString (.slice ad xs.length cap)).run E.P w= .ok (.string (bytes (bytesOf xs))) w:=by
   cases ad with
   |none=>
    have:xs=[]:=by
     cases xs with
     |nil=>rfl
     |cons y ys=>exact absurd (had (by simp)) (by simp)
    subst this
    rfl
   |some ad=>
    rw[run_bytesToString w ad xs.length cap xs ?_]
    .exact congrArg (fun z=>Result.ok (Value.string z) w) (fold_push xs)
    .have hl:xs.length=(xs.map (Value.int .u8)).length:=by simp
     rw[hl]
     refine run_loadCells_list w ad _ (fun j v hj=>?_)
     rw[zaF]at hj
     obtain⟨y,hy,rfl⟩:=zaA.1 hj
     have hne:xs≠ []:=by intro e;rw[e]at hy;simp at hy
     cases had hne
     obtain⟨u,h1,h2⟩:=hcell j 0 y (.int .u8 y) hy rfl
     cases h2
     rw[add_ptr,show q+j=q+j*Tp.w (.int .u8)+0 from by simp[Tp.w]]
     exact h1
  simp only[execOp,ho,hv,Sem.run_bind,run_convert_bytes_string w S_1 T e' ad xs.length cap huS hue (hTy.str hs),main,Result.andThen_ok,Sem.run_pure]
theorem leaf_V0 {c:Ctx} {x:AV} {v:Value} (hx:x.leaf=true) (h:V3 c x v):V0 c x v:=by
 cases x<;>first|exact h|cases hx
theorem sim_makeFunc (f:FuncId) (first captured:Array Operand) (ho:o.op= .makeFunc (.func f) first captured) (h:(opRD E o.op o.dst s.ev).R s [] [] e fp):Sim E o s e:=by
 rw[ho]at h
 simp only[opRD]at h
 split at h
 case h_2=>exact h.elim
 rename_i hf
 split at h
 case isFalse=>exact h.elim
 rename_i hl
 cases val_R h
 refine sim_val fun cx a w hw hev=>⟨.func (.func f) #[] (captured.toList.map a.eval).toArray,?_,captured.toList.map a.eval,rfl,?_⟩
 .have e1:first= #[]:=by apply Array.ext';simpa using hf
  have e2:captured.map a.eval=(captured.toList.map a.eval).toArray:=by apply Array.ext';simp
  simp[execOp,ho,Instr.makeFunc,e1]
  exact e2
 .generalize captured.toList=l at hl
  induction l with
  |nil=>exact True.intro
  |cons y l ih=>
   simp only[zv,List.all_cons,zj]at hl
   exact⟨leaf_V0 hl.1 (hev y),ih hl.2⟩
theorem TokOk.len {Fr:Nat->Prop} {w:World} {S:Stab} {tk:Tok} {v:Value} {F:Nat->Prop} (h:TokOk Fr w S tk v F):∃ad cap,v= .slice ad tk.xs.length cap:=by
 rcases h.2.1 with⟨e1,e2⟩|⟨b,cap,vs,T,e,_⟩
 .exact ⟨none,0,by rw[e1,e2];rfl⟩
 .exact ⟨_,cap,e⟩
theorem lenRD_R {x:Operand} {r:Tp} {rb rt:List Nat} (h:(lenRD r (s.ev x)).R s rb rt e fp):∃n:Nat,e=⟨.pv (.int .i64) (n:Int),[],[]⟩/\∀R β τ F S (a:Act) w,Mem R (lookB s.B) (lookT s.T) β τ F S w->(∀y,V3 (s.ctx w S β τ) (s.ev y) (a.eval y))->∃ad cap,a.eval x= .slice ad n cap:=by
 unfold lenRD at h
 split at h
 .rename_i n hx
  simp only[RD.R]at h
  split at h
  .rename_i tk htk
   split at h
   .rename_i e1
    refine⟨tk.xs.length,val_R h,fun R β τ F S a w hM hev=>?_⟩
    have h1:=hev x;rw[hx]at h1
    obtain⟨g1,g2,g3⟩:=v3_mtk h1
    rw[g3 tk htk]
    exact(hM.toks n tk htk).len
   .exact h.elim
  .exact h.elim
 .obtain ⟨xs,rt',h,hel⟩:=withRows_R h
  refine⟨xs.length,val_R h,fun R β τ F S a w hM hev=>?_⟩
  obtain⟨ad,cap,b,q,hv,_⟩:=(hel R β τ F S a w hM hev).ex
  exact⟨ad,cap,hv⟩
theorem sim_len (hE:EnvOk E) (c:Call) (ho:o.op= .call c) (hc:c.callee= .builtin .len) (h:(opRD E o.op o.dst s.ev).R s [] [] e fp):Sim E o s e:=by
 rw[ho]at h
 simp only[opRD,hc]at h
 split at h
 case h_2=>exact h.elim
 rename_i x T hx hT
 split at h
 case h_2=>exact h.elim
 rename_i ty hty
 have hTy:=hE.ty T ty hty
 have ea:c.args= #[x]:=by apply Array.ext';simpa using hx
 split at h
 .rename_i b hb
  split at h
  case isFalse=>exact h.elim
  rename_i hs
  cases val_R h
  refine sim_val fun cx a w hw hev=>⟨.int .i64 b.length,?_,mk_int cx _ _⟩
  have hv:a.eval x= .string (bytes b):=v3_str (hb▸hev x)
  simp[execOp,ho,resolve,hc,invoke,builtin,Builtin.len_,hT,ea,run_underlying (hTy.str hs),hv,goInt,bytes_size]
 .split at h
  case h_2=>exact h.elim
  rename_i e' r by' he
  obtain⟨hu,_⟩:=hTy.elem _ _ _ he
  obtain⟨n,rfl,hel⟩:=lenRD_R h
  refine sim_look fun R β τ F S a w hM hev=>⟨.int .i64 n,?_,mk_int _ _ _⟩
  obtain⟨ad,cap,hv⟩:=hel R β τ F S a w hM hev
  simp[execOp,ho,resolve,hc,invoke,builtin,Builtin.len_,hT,ea,run_underlying hu,hv,goInt]
theorem sim_minmax (c:Call) (ho:o.op= .call c) (mx:Bool) (hc:c.callee= .builtin (if mx then .max else .min)) (h:(opRD E o.op o.dst s.ev).R s [] [] e fp):Sim E o s e:=by
 rw[ho]at h
 have key:∀x y k k' p q,c.args.toList=[x,y]->s.ev x= .pv (.int k) p->s.ev y= .pv (.int k') q->Sim E o s ⟨.pv (.int k) (if mx then(if q>p then q else p)else(if q<p then q else p)),[],[]⟩:=fun x y k k' p q hx h1 h2=>
  sim_val fun cx a w hw hev=>by
   have ea:c.args= #[x,y]:=by apply Array.ext';simpa using hx
   have v1:a.eval x= .int k p:=v3_int (h1▸hev x)
   have v2:a.eval y= .int k' q:=v3_int (h2▸hev y)
   refine⟨_,?_,mk_int cx _ _⟩
   cases mx<;>simp at hc<;>simp[execOp,ho,resolve,hc,invoke,builtin,Builtin.min_,Builtin.max_,Builtin.min2,Builtin.max2,ea,v1,v2]
 cases mx with
 |false=>
  simp only[opRD,show c.callee= .builtin .min from hc]at h
  split at h
  case h_3=>exact h.elim
  .rename_i x y hx
   split at h
   case h_2=>exact h.elim
   rename_i k p h1
   split at h
   case h_2=>exact h.elim
   rename_i k' q h2
   cases val_R h
   exact key x y k k' p q hx h1 h2
  .rename_i x y z hx
   split at h
   case h_2=>exact h.elim
   rename_i k p h1
   split at h
   case h_2=>exact h.elim
   rename_i k' q h2
   split at h
   case h_2=>exact h.elim
   rename_i k2 r h3
   cases val_R h
   refine sim_val fun cx a w hw hev=>?_
   have ea:c.args= #[x,y,z]:=by apply Array.ext';simpa using hx
   have v1:a.eval x= .int k p:=v3_int (h1▸hev x)
   have v2:a.eval y= .int k' q:=v3_int (h2▸hev y)
   have v3:a.eval z= .int k2 r:=v3_int (h3▸hev z)
   refine⟨_,?_,mk_int cx _ _⟩
   simp at hc
   simp[execOp,ho,resolve,hc,invoke,builtin,Builtin.min_,Builtin.min2,ea,v1,v2,v3]
 |true=>
  simp only[opRD,show c.callee= .builtin .max from hc]at h
  split at h
  case h_2=>exact h.elim
  rename_i x y hx
  split at h
  case h_2=>exact h.elim
  rename_i k p h1
  split at h
  case h_2=>exact h.elim
  rename_i k' q h2
  cases val_R h
  exact key x y k k' p q hx h1 h2
def BoundIs (a:Act) (d:Int) (x:Option Operand) (n:Int):Prop:=(x=none/\n=d)\/ ∃y k,x=some y/\a.eval y= .int k n
theorem optInt_R {d:Int} {x:Option Operand} {f:Int->RD} {rb rt:List Nat} (h:(optInt d (x.map s.ev) f).R s rb rt e fp):∃n,(f n).R s rb rt e fp/\∀c (a:Act),(∀y,V3 c (s.ev y) (a.eval y))->BoundIs a d x n:=by
 cases x with
 |none=>exact⟨d,h,fun c a hev=>.inl ⟨rfl,rfl⟩⟩
 |some y=>
  obtain⟨k,n,hy,h⟩:=withInt_R (show(withInt (s.ev y) f).R s rb rt e fp from h)
  exact⟨n,h,fun c a hev=>.inr ⟨y,k,rfl,v3_int (hy▸hev y)⟩⟩
theorem run_bounds {P:Program} (w:World) (a:Act) (isSlice:Bool) (len cap:Nat) (lo hi:Option Operand) (l h:Int) (hl:BoundIs a 0 lo l) (hh:BoundIs a len hi h) (h0:0<=l) (h1:l<=h) (h2:h<=(len:Int)) (h3:len<=cap):
  (Instr.sliceBounds isSlice len cap (lo.map a.eval) (hi.map a.eval) none).run P w= .ok (l.toNat,h.toNat,cap) w:=by
 have hc:h<=(cap:Int):=by omega
 have e:((h.toNat:Nat):Int)=h:=by omega
 have hb:∀code,(match(hi.map a.eval)with|some v=>Instr.sliceBound v cap code|none=>pure len:Sem Nat).run P w= .ok h.toNat w:=fun code=>by
  rcases hh with⟨rfl,rfl⟩|⟨y,k,rfl,hy⟩
  .simp
  .simp [hy,run_sliceBound (P:=P) w k h cap code (by omega) hc]
 have hb2:∀code,(match(lo.map a.eval)with|some v=>Instr.sliceBound v h.toNat code|none=>pure 0:Sem Nat).run P w= .ok l.toNat w:=fun code=>by
  rcases hl with⟨rfl,rfl⟩|⟨y,k,rfl,hy⟩
  .simp
  .simp [hy,run_sliceBound (P:=P) w k l h.toNat code h0 (by omega)]
 unfold Instr.sliceBounds
 simp only[Sem.run_bind,Sem.run_pure,Result.andThen_ok,Option.isSome_none,za7,if_false]
 rcases hh with⟨rfl,rfl⟩|⟨y,k,rfl,hy⟩
 .have:=hb2 .sliceB
  simp only[Option.map_none,Sem.run_pure,Result.andThen_ok,zai]at this⊢
  rcases hl with⟨rfl,rfl⟩|⟨y,k,rfl,hy⟩<;>simp_all
 .have h4:=hb (if isSlice then .sliceAcap else .sliceAlen)
  have:=hb2 .sliceB
  simp only[zbn]at h4
  simp only[zbn,h4,Result.andThen_ok]
  rcases hl with⟨rfl,rfl⟩|⟨y,k,rfl,hy⟩<;>simp_all
theorem cut_some {α:Type} {xs ys:List α} {l h:Int} (hc:cut xs l h=some ys):0<=l/\l<=h/\h<=xs.length/\ys=(xs.take h.toNat).drop l.toNat:=by
 unfold cut at hc
 split at hc
 .rename_i hh;cases hc;exact⟨hh.1,hh.2.1,hh.2.2,rfl⟩
 .cases hc
def cutAddr (a:Option Addr) (cap l m:Nat):Option Addr:=if cap=l then a else a.map (·.add (l*m))
theorem run_cut (T:TypeId) (x:Operand) (lo hi:Option Operand) (ho:o.op= .slice T x lo hi none) (e':TypeId) (i:TypeInfo) (hT:E.P.underlying T=some (.slice e')) (hi':E.P.info? e'=some i) (a:Act) (w:World) (ad:Option Addr) (len cap:Nat) (hv:a.eval x= .slice ad len cap) (l h:Int)
  (hl:BoundIs a 0 lo l) (hh:BoundIs a len hi h) (h0:0<=l) (h1:l<=h) (h2:h<=(len:Int)) (h3:len<=cap):(execOp a.eval o).run E.P w= .ok (.value (.slice (cutAddr ad cap l.toNat i.size) (h.toNat-l.toNat) (cap-l.toNat))) w:=by
 have hr:=run_bounds (P:=E.P) w a true len cap lo hi l h hl hh h0 h1 h2 h3
 simp only[execOp,ho,Instr.sliceAt,Sem.run_bind,run_underlying hT,Result.andThen_ok,Instr.slice,hv,Option.map_none,hr,sizeOf,typeInfo,run_program,hi',Sem.run_pure,cutAddr]
theorem cut_rep {w:World} {S:Stab} {ad:Option Addr} {cap:Nat} {r:Tp} {xs ys:List r.D} (hr:Rep w S (.slice ad xs.length cap) (.sl (xs.map (enc r)))) (l h:Int) (hc:cut xs l h=some ys):Rep w S (.slice (cutAddr ad cap l.toNat r.w) (h.toNat-l.toNat) (cap-l.toNat)) (.sl (ys.map (enc r))):=by
 obtain⟨h0,h1,h2,rfl⟩:=cut_some hc
 obtain⟨a,cap',b,q,m',hv,hcap,ha,hm',hcells⟩:=hr.opened
 rw[zar]at hv
 cases hv
 have hlen:(((xs.take h.toNat).drop l.toNat).map (enc r)).length=h.toNat-l.toNat:=by simp;omega
 rw[<-hlen]
 rw[zar]at hcap
 have getrow:∀ {i:Nat} {row:List PV},(((xs.take h.toNat).drop l.toNat).map (enc r))[i]? =some row->(xs.map (enc r))[l.toNat+i]? =some row/\l.toNat+i<h.toNat:=fun {i row} hi=>by
  rw[zaF,zaL,zaH]at hi
  split at hi
  .rw [zaF];exact⟨hi, ‹_›⟩
  .simp at hi
 refine Rep.mk (b:=b) (o:=q+l.toNat*r.w) (m:=r.w) (by rw[hlen];omega) (fun hne=>?_) (fun i row hi=>?_) (fun i row hi=>?_)
 .have hlt:l.toNat<h.toNat:=by
   rw[<-List.length_pos_iff,hlen]at hne;omega
  have:=ha (by intro e;rw[List.map_eq_nil_iff]at e;rw[e]at h2;simp at h2;omega)
  rw[this]
  unfold cutAddr
  rw[zu (by omega)]
  simp[add_ptr]
 .obtain ⟨g1,_⟩:=getrow hi
  obtain⟨y,_,rfl⟩:=zab.1 (zak g1)
  rw[enc_len]
 .obtain ⟨g1,_⟩:=getrow hi
  have em:m'=r.w:=by
   rw[<-hm' _ _ g1]
   obtain⟨y,_,rfl⟩:=zab.1 (zak g1)
   rw[enc_len]
  have:=hcells _ _ g1
  rw[em]at this
  rw[show q+l.toNat*r.w+i*r.w=q+(l.toNat+i)*r.w from by rw[zaO];omega]
  exact this
end
def tab (m n:Nat) (u:Nat->Nat->Value):List Value:=(List.range (n*m)).map fun t=>u (t/m) (t%m)
theorem tab_len (m n:Nat) (u:Nat->Nat->Value):(tab m n u).length=n*m:=by simp[tab]
theorem tab_at (m n:Nat) (u:Nat->Nat->Value) (i j:Nat) (hi:i<n) (hj:j<m):(tab m n u)[i*m+j]? =some (u i j):=by
 have h1:i*m+j<n*m:=by
  have:(i+1)*m<=n*m:=zag _ hi
  rw[zaO]at this;omega
 have h2:(i*m+j)/m=i:=by rw[zbx,Nat.mul_add_div (by omega),Nat.div_eq_of_lt hj];omega
 have h3:(i*m+j)%m=j:=by rw[zbx,Nat.mul_add_mod,Nat.mod_eq_of_lt hj]
 simp[tab,h1,h2,h3]
theorem tab_get (m n:Nat) (hm:0<m) (u:Nat->Nat->Value) (t:Nat) (v:Value) (h:(tab m n u)[t]? =some v):t/m<n/\t%m<m/\v=u (t/m) (t%m)/\t=t/m*m+t%m:=by
 have ht:t<n*m:=by have:=(zh.1 h).1;rwa[tab_len]at this
 have h1:t/m<n:=(zcj hm).2 ht
 have h2:t%m<m:=Nat.mod_lt _ hm
 have h3:t=t/m*m+t%m:=by rw[zbx];exact(Nat.div_add_mod t m).symm
 refine⟨h1,h2,?_,h3⟩
 have:=tab_at m n u _ _ h1 h2
 rw[<-h3,h]at this
 exact Option.some.inj this
structure Tab (w:World) (S:Stab) (b o:Nat) (r:Tp) (xs:List r.D) (u:Nat->Nat->Value):Prop where
 cell:∀i j,i<xs.length->j<r.w->w.cell? ⟨b,o+i*r.w+j,none⟩=some (u i j)
 rep:∀(i j:Nat) (x:r.D) (p:PV),xs[i]? =some x->(enc r x)[j]? =some p->Rep w S (u i j) p
theorem Elems.tab {w:World} {S:Stab} {v:Value} {r:Tp} {xs:List r.D} (h:Elems w S v r xs):∃a cap b o u,v= .slice a xs.length cap/\xs.length<=cap/\(xs≠ []->a=some ⟨b,o,none⟩)/\Tab w S b o r xs u:=by
 obtain⟨a,cap,b,o,hv,hc,ha,hr⟩:=h.ex
 refine⟨a,cap,b,o,fun i j=>(w.cell? ⟨b,o+i*r.w+j,none⟩).getD undef,hv,hc,ha,fun i j hi hj=>?_,fun i j x p hx hp=>?_⟩
 .have hj':j<(enc r xs[i]).length:=by rw[enc_len];exact hj
  obtain⟨u,h1,_⟩:=hr i j xs[i] (enc r xs[i])[j] (by simp[hi]) (by simp[hj'])
  simp[h1]
 .obtain ⟨u,h1,h2⟩:=hr i j x p hx hp
  simpa[h1]using h2
theorem Tab.one {w:World} {S:Stab} {b o:Nat} {r:Tp} {xs:List r.D} {u:Nat->Nat->Value} (h:Tab w S b o r xs u) (hm:0<r.w):∀v,v∈tab r.w xs.length u->v.oneCell'=true:=by
 intro v hv
 obtain⟨t,ht,hv⟩:=zav.1 hv
 obtain⟨h1,h2,rfl,_⟩:=tab_get r.w xs.length hm u t v (by rw[zc ht,hv])
 have hl:t%r.w<(enc r xs[t/r.w]).length:=by rw[enc_len];exact h2
 exact(h.rep (t/r.w) (t%r.w) xs[t/r.w] ((enc r xs[t/r.w])[t%r.w]) (zc h1) (by simp[hl])).one
structure Appended (w w':World) (e:TypeId) (m n k:Nat) (cells:List Value) (v v':Value) (b' cap':Nat) (vs':Array Value):Prop where
 val:v'= .slice (some ⟨b',0,none⟩) (n+k) cap'
 heap:w'.heap[b']? =some (.cells vs' e (0,0))
 size:vs'.size=cap'*m
 fits:n+k<=cap'
 capm:cap'<=maxLen
 take:vs'.toList.take ((n+k)*m)=cells
 os:w'.os=w.os
 tape:w'.tape=w.tape
 output:w'.output=w.output
 grow:w.heap.size<=w'.heap.size
 same:∀i,i<w.heap.size->i≠b'->w'.heap[i]? =w.heap[i]?
 place:b'=w.heap.size\/ ∃c,v= .slice (some ⟨b',0,none⟩) n c
theorem run_append_zero {P:Program} (w:World) (t ty e:TypeId) (i:TypeInfo) (ht:P.underlying t=some (.slice e)) (hi:P.info? e=some i) (a a':Option Addr) (n c c':Nat) (hc:n<=c):
  (Builtin.append_ #[t,t] ty #[.slice a n c,.slice a' 0 c']).run P w= .ok (.slice a n c) w:=by
 have hf:(Builtin.firstCells i.size 0 (.slice a' 0 c')).run P w= .ok #[] w:=by
  cases a'<;>simp[Builtin.firstCells,loadCells,loadCellsFrom]
 cases a<;>simp[Builtin.append_,run_underlying ht,sizeOf,typeInfo,hi,Builtin.lenOf,hc,hf,storeCells]
theorem run_append_room' {P:Program} {w:World} (t ty e T:TypeId) (i:TypeInfo) (ht:P.underlying t=some (.slice e)) (hi:P.info? e=some i) (g n cap:Nat) (cur:Array Value) (hg:w.heap[g]? =some (.cells cur T (0,0)))
  (a:Addr) (k c:Nat) (news:List Value) (hl:news.length=k*i.size) (hnews:∀j u,news[j]? =some u->w.cell? (a.add j)=some u) (h1:∀u∈news,u.oneCell'=true) (hroom:n+k<=cap) (hfit:n*i.size+news.length<=cur.size):
  (Builtin.append_ #[t,t] ty #[.slice (some ⟨g,0,none⟩) n cap,.slice (some a) k c]).run P w=
   .ok (.slice (some ⟨g,0,none⟩) (n+k) cap) (w.setRow g (cur.toList.take (n*i.size)++news++cur.toList.drop (n*i.size+news.length)).toArray):=by
 have hf:=run_firstCells_some (P:=P) w i.size k a k c news hl hnews
 have hst:=run_storeCells_at P g (n*i.size) T news 0 cur w hg (by simpa using hfit) h1
 simp only[Nat.add_zero]at hst
 simp[Builtin.append_,run_underlying ht,sizeOf,typeInfo,hi,Builtin.lenOf,hroom,hf,Addr.add_lit,hst]
theorem run_append_more {P:Program} (w:World) (t ty e:TypeId) (i:TypeInfo) (z:Value) (m bytes:Nat) (ht:P.underlying t=some (.slice e)) (hi:P.info? e=some i) (hz:i.zero=some z)
  (hsize:i.size=m) (hby:i.bytes=bytes) (hzs:z.cells.size=m) (v:Value) (n:Nat) (xs:List Value)
  (hv:(v= .slice none 0 0/\n=0)\/ ∃b cap vs T,v= .slice (some ⟨b,0,none⟩) n cap/\w.heap[b]? =some (.cells vs T (0,0))/\vs.size=cap*m/\n<=cap/\cap<=maxLen/\vs.toList.take (n*m)=xs) (hxs:xs.length=n*m)
  (a:Addr) (k c:Nat) (news:List Value) (hk:0<k) (hl:news.length=k*m) (hnews:∀j u,news[j]? =some u->w.cell? (a.add j)=some u) (h1:∀u∈news,u.oneCell'=true)
  (h63:n+k<=9223372036854775807) (hbytes:(n+k)*bytes<=140737488355328):
  ∃v' w' e' b' cap' vs',(Builtin.append_ #[t,t] ty #[v,.slice (some a) k c]).run P w= .ok v' w'/\Appended w w' e' m n k (xs++news) v v' b' cap' vs':=by
 subst hsize
 subst hby
 have hmx:n+k<=maxLen:=by simp only[maxLen];omega
 have hlen:(xs++news).length=(n+k)*i.size:=by rw[zam,hxs,hl,zaO]
 have grown:∀old,old<n+k->Appended w (w.drew.alloc (.cells (xs.toArray++news.toArray++Builtin.zeroCells z.cells (grownCap w (n+k) old e-(n+k))) e)) e i.size n k (xs++news) v
   (.slice (some ⟨w.heap.size,0,none⟩) (n+k) (grownCap w (n+k) old e)) w.heap.size (grownCap w (n+k) old e) (xs.toArray++news.toArray++Builtin.zeroCells z.cells (grownCap w (n+k) old e-(n+k))):=fun old ho=>by
  have hge:=grownCap_ge w (n+k) old e
  refine⟨rfl,heap_alloc_new w.drew _,?_,hge,grownCap_le_maxLen w (n+k) old e hmx,?_,rfl,rfl,rfl,by simp,fun i hi _=>heap_alloc_old w.drew _ hi,.inl rfl⟩
  .simp only [Array.size_append,List.size_toArray,size_zeroCells,hzs,hxs,hl,<-zaO]
   congr 1;omega
  .simp only [Array.toList_append,zao]
   rw[<-zao,<-hlen]
   exact List.take_left
 rcases hv with⟨rfl,rfl⟩|⟨g,cap,cur,T,rfl,hg,hcs,hnc,hcm,htake⟩
 .have hx:xs=[]:=zbj (by simpa using hxs)
  subst hx
  have hr:=run_append_nil (P:=P) w t ty e i z ht hi hz a k c news hl hnews hk (by omega) (by have hb:=hbytes;simp only[zaY]at hb;omega)
  have hgr:=grown 0 (by omega)
  simp only[zaY,zaW,Array.empty_append]at hgr hr⊢
  exact⟨_,_,_,_,_,_,hr,hgr⟩
 .by_cases hroom:n+k<=cap
  .have hfit:n*i.size+news.length<=cur.size:=by rw[hl,hcs,<-zaO];exact zag _ hroom
   have hr:=run_append_room' (P:=P) (w:=w) t ty e T i ht hi g n cap cur hg a k c news hl hnews h1 hroom hfit
   refine⟨_,_,T,g,cap,_,hr,rfl,setRow_heap w g cur _ T _ hg,?_,hroom,hcm,?_,rfl,rfl,rfl,by simp[World.setRow],fun j _ hj=>setRow_other w g j _ hj,.inr ⟨cap,rfl⟩⟩
   .simp only [List.size_toArray,zam,zah,zaQ,zbd]
    omega
   .rw [htake,<-hlen]
    exact List.take_left
  .have holds:∀j u,xs[j]? =some u->w.cell? ((⟨g,0,none⟩:Addr).add j)=some u:=fun j u hj=>by
    rw[add_at,zaY,cell_of_row w g j cur T (0,0) hg]
    rw[<-htake,zaH]at hj
    split at hj
    .simpa using hj
    .cases hj
   have hr:=run_append_grow (P:=P) w t ty e i z ht hi hz ⟨g,0,none⟩ n cap xs hxs holds a k c news hl hnews (by omega) (by omega) (growslice_fits (by omega) hbytes)
   exact⟨_,_,_,_,_,_,hr,grown cap (by omega)⟩
theorem Appended.cell {w w':World} {e:TypeId} {m n k:Nat} {u1 u2:Nat->Nat->Value} {v v':Value} {b' cap':Nat} {vs':Array Value} (h:Appended w w' e m n k (tab m n u1++tab m k u2) v v' b' cap' vs') (i j:Nat) (hi:i<n+k) (hj:j<m):
  w'.cell? ⟨b',i*m+j,none⟩=some (if i<n then u1 i j else u2 (i-n) j):=by
 have hlt:i*m+j<(n+k)*m:=by
  have:(i+1)*m<=(n+k)*m:=zag _ hi
  rw[zaO]at this;omega
 have hx:(tab m n u1++tab m k u2)[i*m+j]? =some (if i<n then u1 i j else u2 (i-n) j):=by
  by_cases hin:i<n
  .rw [zf hin,zay (by
    rw[tab_len]
    have:(i+1)*m<=n*m:=zag _ hin
    rw[zaO]at this;omega)]
   exact tab_at m n u1 i j hin hj
  .rw [zu hin,zaz (by
    rw[tab_len]
    have:n*m<=i*m:=zag _ (by omega)
    omega),tab_len]
   rw[show i*m+j-n*m=(i-n)*m+j from by
    have:n*m<=i*m:=zag _ (by omega)
    rw[Nat.sub_mul];omega]
   exact tab_at m k u2 _ j (by omega) hj
 rw[cell_of_row w' b' _ vs' e (0,0) h.heap,<-zaN]
 rw[<-h.take,zaH,zf hlt]at hx
 exact hx
def stabApp (wr:Bool) (S:Stab) (b' r:Nat):Stab:=fun b o=>S b o\/(wr=false/\b=b'/\o<r)
theorem Appended.step {w w':World} {S:Stab} {e:TypeId} {m n k:Nat} {u1 u2:Nat->Nat->Value} {v v':Value} {b' cap':Nat} {vs':Array Value} (wr:Bool) (h:Appended w w' e m n k (tab m n u1++tab m k u2) v v' b' cap' vs') (hm:0<m)
  (hl:∀b o,S b o->b<w.heap.size) (hS:∀o,S b' o->b'<w.heap.size->o<n*m) (hold:b'<w.heap.size->∀i j,i<n->j<m->w.cell? ⟨b',i*m+j,none⟩=some (u1 i j)):
  Step (fun x=>x=b'/\x<w.heap.size) S (stabApp wr S b' ((n+k)*m)) w w':=by
 have hb':b'<w'.heap.size:=lt_of_at h.heap
 refine⟨⟨h.os,h.tape,h.output,h.grow,fun i hi hx=>h.same i hi (fun e=>hx ⟨e,hi⟩)⟩,fun b o hb=>?_,fun b o hb=>.inl hb,fun b o hb=>?_,fun b o hb=>?_⟩
 .by_cases e:b=b'
  .subst e
   have hlt:=hl b o hb
   have ho:=hS o hb hlt
   have h1:o/m<n:=(zcj hm).2 ho
   have h2:o%m<m:=Nat.mod_lt _ hm
   have h3:o=o/m*m+o%m:=by rw[zbx];exact(Nat.div_add_mod o m).symm
   rw[h3,h.cell (o/m) (o%m) (by omega) h2,zf h1,hold hlt _ _ h1 h2]
  .exact World.cell?_of_block (w:=w) (h.same b (hl b o hb) e)
 .rcases hb with hb|⟨_,rfl,hb⟩
  .exact .inl hb
  .by_cases hlt:b<w.heap.size
   .exact .inr (.inr ⟨rfl,hlt⟩)
   .exact .inr (.inl (by omega))
 .rcases hb with hb|⟨_,rfl,hb⟩
  .exact zbi (hl b o hb) h.grow
  .exact hb'
theorem cells_at {r:Tp} (x:r.D) {j:Nat} (h:j<r.w):∃c,(cellsOf r x)[j]? =some c:=⟨_,zc (by rw[cells_len];exact h)⟩
theorem cells_lt {r:Tp} {x:r.D} {j:Nat} {c:AV} (h:(cellsOf r x)[j]? =some c):j<r.w:=by have:=(zh.1 h).1;rwa[cells_len]at this
theorem Deep.openU {w:World} {F:Nat->Prop} {v:Value} {r:Tp} {xs:List r.D} (h:Deep w F v (.pv (.sl r) xs)):
  xs=[]\/ ∃(b cap:Nat) (u:Nat->Nat->Value) (q:Nat->Nat->Nat->Prop),v= .slice (some ⟨b,0,none⟩) xs.length cap/\F b/\(∀i j,i<xs.length->j<r.w->w.cell? ⟨b,i*r.w+j,none⟩=some (u i j))/\
   (∀i j k,q i j k->F k/\k≠b)/\(∀i j i' j' k,q i j k->q i' j' k->i=i'/\j=j')/\∀(i j:Nat) (x:r.D) (c:AV),xs[i]? =some x->(cellsOf r x)[j]? =some c->Deep w (q i j) (u i j) c:=by
 cases h with
 |lit _ _ _ _ p he hl hv=>cases he;cases hl
 |nil _ _=>exact .inl rfl
 |sl _ cap _ _ u b q vs T hb hg hz hc hx hu hq hd hr=>
  refine .inr ⟨b,cap,u,q,rfl,hb,fun i j hi hj=>?_,hq,hd,hr⟩
  obtain⟨c,hc'⟩:=cells_at xs[i] hj
  rw[cell_of_row w b _ vs T (0,0) hg]
  exact hu i j xs[i] c (zc hi) hc'
theorem rep_litV {w:World} {S:Stab} {v:Value} {p:PV} (h:Rep w S v p) (hp:p.isLit=true):v=litOf p:=by
 cases h<;>first|rfl|cases hp
theorem flat_isLit :∀(t:Tp) (x:t.D),t.flatB=true->∀p,p∈enc t x->p.isLit=true
 | .bool,x,_,p,hp=>by simp[enc]at hp;subst hp;rfl
 | .int _,x,_,p,hp=>by simp[enc]at hp;subst hp;rfl
 | .str,x,_,p,hp=>by simp[enc]at hp;subst hp;rfl
 | .unit,_,_,p,hp=>by simp[enc]at hp
 | .pair a b,x,h,p,hp=>by
  simp only[Tp.flatB,zj]at h
  rcases zaB.1 hp with hp|hp
  .exact flat_isLit a x.1 h.1 p hp
  .exact flat_isLit b x.2 h.2 p hp
 | .sl _,_,h,_,_=>by cases h
 | .opt _,_,h,_,_=>by cases h
 | .q,_,h,_,_=>by cases h
theorem Deep.leaf {w:World} {S:Stab} {F:Nat->Prop} {r:Tp} {x:r.D} (hf:r.flatB=true) {j:Nat} {c:AV} (hc:(cellsOf r x)[j]? =some c) {u:Value} (hu:∀p,(enc r x)[j]? =some p->Rep w S u p):Deep w F u c:=by
 have hall:=cells_enc r x
 obtain⟨p,hp,t,y,rfl,he⟩:=hall.get j c hc
 have hl:=flat_isLit r x hf p (zak hp)
 exact .lit F u t y p he hl (rep_litV (hu p hp) hl)
theorem rows_w {r:Tp} (xs:List r.D):∀row,row∈xs.map (enc r)->row.length=r.w:=fun row hr=>by obtain⟨x,_,rfl⟩:=zab.1 hr;exact enc_len r x
theorem TokOk.plain {Fr:Nat->Prop} {w:World} {S:Stab} {tk:Tok} {v:Value} {F:Nat->Prop} (h:TokOk Fr w S tk v F) (hw:tk.wr=false):tk.tr=none:=by
 have:=h.2.2
 unfold Once at this
 split at this
 .assumption
 .rw [this.1]at hw;cases hw
theorem TokOk.deepOf {Fr:Nat->Prop} {w:World} {S:Stab} {tk:Tok} {v:Value} {F:Nat->Prop} (h:TokOk Fr w S tk v F) (ht:tk.tr=none) (hd:tk.deep=true):Deep w F v (.pv (.sl tk.t) tk.xs):=by
 have:=h.2.2
 unfold Once at this
 rw[ht]at this
 exact this hd
theorem TokOk.rep {Fr:Nat->Prop} {w:World} {S:Stab} {tk:Tok} {v:Value} {F:Nat->Prop} (h:TokOk Fr w S tk v F) (hw:tk.wr=false):Rep w S v (.sl (tk.xs.map (enc tk.t))):=by
 have htr:=h.plain hw
 obtain⟨_,h,_⟩:=h
 rcases h with⟨rfl,h⟩|⟨b,cap,vs,T,e,hF,hg,hz,hn,hm,hst,hwr,hc⟩
 .rw [h];exact rep_nils
 .rw [e,show tk.xs.length=(tk.xs.map (enc tk.t)).length from by simp]
  refine Rep.mk (b:=b) (o:=0) (m:=tk.t.w) (by simpa using hn) (fun _=>rfl) (fun i row hi=>rows_w tk.xs row (zak hi)) (fun i row hi j c hj=>?_)
  rw[zaF]at hi
  obtain⟨x,hx,rfl⟩:=zaA.1 hi
  obtain⟨u,h1,h2,h3⟩:=hc i j x c hx hj
  exact⟨by rw[zaY];exact h3 hw,u,by rw[zaY,cell_of_row w b _ vs T (0,0) hg];exact h1,h2 htr⟩
theorem append_core {P:Program} {R:Root} {w:World} {S:Stab} {box:Nat->Option BS} {tok:Nat->Option TS} {β:Nat->Nat} {τ:Nat->Value} {F:Nat->Nat->Prop} (hM:Mem R box tok β τ F S w)
  (T ty e:TypeId) (i:TypeInfo) (z:Value) (r:Tp) (bytes:Nat) (ht:P.underlying T=some (.slice e)) (hi:P.info? e=some i) (hz:i.zero=some z) (hsize:i.size=r.w) (hby:i.bytes=bytes) (hzs:z.cells.size=r.w) (hm:0<r.w)
  (v vs:Value) (xs ys:List r.D) (wr bdeep sdeep:Bool) (Fb Fs:Nat->Prop)
  (hb:TokOk R.fr w S ⟨r,xs,e,wr,bdeep,none⟩ v Fb) (hs:Elems w S vs r ys)
  (hsd:sdeep=true->r.flatB=true\/(Deep w Fs vs (.pv (.sl r) ys)/\∀b,Fs b->¬Fb b)) (hsB:∀b,Fs b->R.fr b/\b<w.heap.size)
  (hbt:∀t tk b,tok t=some (.live tk)->Fb b->¬F t b) (hbb:∀k b,box k=some b->¬Fb (β k))
  (hbytes:(xs.length+ys.length)*bytes<=140737488355328) (h63:xs.length+ys.length<=9223372036854775807):
  ∃v' w' S',(Builtin.append_ #[T,T] ty #[v,vs]).run P w= .ok v' w'/\Mem R box tok β τ F S' w'/\(∀live tok' live' β' τ',Ctx.Le ⟨w,S,live,β,tok',τ⟩ ⟨w',S',live',β',tok',τ'⟩)/\
   TokOk R.fr w' S' ⟨r,xs++ys,e,wr,bdeep&&sdeep,none⟩ v' (fun b=>(Fb b\/Fs b\/w.heap.size<=b)/\b<w'.heap.size):=by
 have hb0:=hb
 obtain⟨hb1,hb3,hb4⟩:=hb
 simp only at hb3 hb4
 obtain⟨a2,cap2,b2,o2,u2,rfl,_,ha2,hU2⟩:=hs.tab
 obtain⟨a1,cap1,b1,o1,u1,ev,hc1,ha1,hU1⟩:=(Elems.of_tok hb0 rfl).tab
 simp only at ev hc1 ha1 hU1
 by_cases hne:ys=[]
 ·
  subst hne
  refine⟨_,w,S,by rw[ev];exact run_append_zero w T ty e i ht hi a1 a2 xs.length cap1 cap2 hc1,hM,fun _ _ _ _ _=>⟨fun _ _ h=>h,fun _ _ _=>rfl⟩,fun b h=>⟨?_,h.2⟩,?_,fun hd=>?_⟩
  .rcases h.1 with h1|h1|h1
   .exact (hb1 b h1).1
   .exact (hsB b h1).1
   .exact .inl (zau hM.size h1)
  .rw [<-ev]
   rcases hb3 with h|⟨b,cap,us,T',e1,hF,q⟩
   .exact .inl (by simpa using h)
   .exact .inr ⟨b,cap,us,T',by simpa using e1,⟨.inl hF,(hb1 b hF).2⟩,by simpa using q⟩
  .rw [<-ev]
   simp only[zj]at hd
   have:=(hb4 hd.1).mono (G:=fun b=>(Fb b\/Fs b\/w.heap.size<=b)/\b<w.heap.size) (fun b h=>⟨.inl h,(hb1 b h).2⟩)
   simpa using this
 .have ea2:=ha2 hne
  subst ea2
  have hk:0<ys.length:=List.length_pos_iff.2 hne
  have hhead:∀b cap us T',v= .slice (some ⟨b,0,none⟩) xs.length cap->w.heap[b]? =some (.cells us T' (0,0))->us.size=cap*r.w->xs.length<=cap->us.toList.take (xs.length*r.w)=tab r.w xs.length u1/\(xs≠ []->b1=b/\o1=0):=fun b cap us T' e1 hg hz hn=>by
   have hh:xs≠ []->b1=b/\o1=0:=fun hr=>by
    have:=ha1 hr
    rw[ev]at e1
    cases e1
    rw[zaE,Addr.mk.injEq]at this
    exact⟨this.1.symm,this.2.1.symm⟩
   refine⟨zbc (fun t=>?_),hh⟩
   by_cases ht':t<xs.length*r.w
   .have h1:t/r.w<xs.length:=(zcj hm).2 ht'
    have h2:t%r.w<r.w:=Nat.mod_lt _ hm
    have h3:t=t/r.w*r.w+t%r.w:=by rw[zbx];exact(Nat.div_add_mod t r.w).symm
    rw[zaH,zf ht']
    have h4:=tab_at r.w xs.length u1 _ _ h1 h2
    rw[<-h3]at h4
    rw[h4]
    obtain⟨hb,ho⟩:=hh (by intro hr;rw[hr]at h1;simp at h1)
    have h5:=hU1.cell _ _ h1 h2
    rw[hb,ho,zaY,<-h3,cell_of_row w b t us T' (0,0) hg,<-zaN]at h5
    exact h5
   .rw [zaM (by simp;omega),zaM (by rw[tab_len];omega)]
  have hv:(v= .slice none 0 0/\xs.length=0)\/ ∃b cap vs T',v= .slice (some ⟨b,0,none⟩) xs.length cap/\w.heap[b]? =some (.cells vs T' (0,0))/\vs.size=cap*r.w/\xs.length<=cap/\cap<=maxLen/\vs.toList.take (xs.length*r.w)=tab r.w xs.length u1:=by
   rcases hb3 with⟨h1,h2⟩|⟨b,cap,us,T',e1,hF,hg,hz,hn,hmx,hst⟩
   .exact .inl ⟨h1,by rw[h2];rfl⟩
   .exact .inr ⟨b,cap,us,T',e1,hg,hz,hn,hmx,(hhead b cap us T' e1 hg hz hn).1⟩
  have hnews:∀j u,(tab r.w ys.length u2)[j]? =some u->w.cell? ((⟨b2,o2,none⟩:Addr).add j)=some u:=fun j u hj=>by
   obtain⟨h1,h2,rfl,h3⟩:=tab_get r.w ys.length hm u2 j u hj
   rw[add_at]
   have:=hU2.cell _ _ h1 h2
   rw[zbv,<-h3]at this
   exact this
  obtain⟨v',w',e',b',cap',vs',hrun,hA⟩:=run_append_more (P:=P) w T ty e i z r.w bytes ht hi hz hsize hby hzs v xs.length (tab r.w xs.length u1) hv (tab_len _ _ _) ⟨b2,o2,none⟩ ys.length cap2 (tab r.w ys.length u2) hk (tab_len _ _ _) hnews (hU2.one hm) h63 hbytes
  have hplace:(b'=w.heap.size)\/(b'<w.heap.size/\Fb b'/\(∀o,S b' o->wr=false/\o<xs.length*r.w)/\(xs≠ []->b1=b'/\o1=0)):=by
   rcases hA.place with h|⟨c,h⟩
   .exact .inl h
   .right
    rcases hb3 with⟨h1,_⟩|⟨b,cap,us,T',e1,hF,hg,hz,hn,hmx,hst,hwr,_⟩
    .rw [h1]at h;cases h
    .rw [e1]at h
     cases h
     refine⟨(hb1 _ hF).2,hF,fun o ho=>?_,(hhead _ _ us T' e1 hg hz hn).2⟩
     cases wr with
     |false=>exact⟨rfl,hst rfl o ho⟩
     |true=>exact absurd ho (hwr rfl o)
  have hb'B:R.fr b':=by
   rcases hplace with h|h
   .rw [h];exact .inl hM.size
   .exact (hb1 _ h.2.1).1
  have hb'lt:b'<w'.heap.size:=lt_of_at hA.heap
  have hstep:=hA.step (S:=S) wr hm hM.lt (fun o ho hlt=>by
    rcases hplace with h|h
    .omega
    .exact (h.2.2.1 o ho).2) (fun hlt i j hi hj=>by
    rcases hplace with h|h
    .omega
    .have hne1:xs≠ []:=by intro hr;rw[hr]at hi;simp at hi
     have:=hU1.cell i j hi hj
     rw[(h.2.2.2 hne1).1,(h.2.2.2 hne1).2,zaY]at this
     exact this)
  have hcont:∀(i j:Nat) (x:r.D) (p:PV),(xs++ys)[i]? =some x->(enc r x)[j]? =some p->∃u,vs'[i*r.w+j]? =some u/\Rep w' (stabApp wr S b' ((xs.length+ys.length)*r.w)) u p/\u=(if i<xs.length then u1 i j else u2 (i-xs.length) j)/\i*r.w+j<(xs.length+ys.length)*r.w:=fun i j x p hx hp=>by
   have hil:i<xs.length+ys.length:=by have:=(zh.1 hx).1;simpa using this
   have hjm:j<r.w:=by have:=(zh.1 hp).1;rwa[enc_len]at this
   have hcell:=hA.cell i j hil hjm
   rw[cell_of_row w' b' _ vs' e' (0,0) hA.heap]at hcell
   refine⟨_,hcell,?_,rfl,?_⟩
   .by_cases hin:i<xs.length
    .rw [zf hin]
     rw[zay hin]at hx
     exact(hU1.rep i j x p hx hp).mono hstep.old hstep.cell
    .rw [zu hin]
     rw[zaz (by omega)]at hx
     exact(hU2.rep _ j x p hx hp).mono hstep.old hstep.cell
   .have:(i+1)*r.w<=(xs.length+ys.length)*r.w:=zag _ hil
    rw[zaO]at this;omega
  refine⟨v',w',stabApp wr S b' ((xs.length+ys.length)*r.w),hrun,hM.step hstep (fun k hk=>hk.1▸hb'B) (fun k b hk hx=>?_) (fun t tk ht' k hF hx=>?_),fun live tok' live' β' τ'=>⟨hstep.old,hstep.cell⟩,fun b h=>⟨?_,h.2⟩,.inr ⟨b',cap',vs',e',?_,⟨?_,hb'lt⟩,hA.heap,hA.size,?_,hA.capm,fun hw o ho=>?_,fun hw o ho=>?_,fun i j x p hx hp=>?_⟩,fun hd=>?_⟩
  .rcases hplace with h|h
   .have:=hx.2;omega
   .exact hbb k b hk (hx.1▸h.2.1)
  .rcases hplace with h|h
   .have:=hx.2;omega
   .exact hbt t tk k ht' (hx.1▸h.2.1) hF
  .rcases h.1 with h1|h1|h1
   .exact (hb1 b h1).1
   .exact (hsB b h1).1
   .exact .inl (zau hM.size h1)
  .rw [hA.val];simp
  .rcases hplace with h|h
   .exact .inr (.inr (by omega))
   .exact .inl h.2.1
  .simpa using hA.fits
  .simp only [zam]
   rcases ho with ho|⟨_,_,ho⟩
   .rcases hplace with h|h
    .have:=hM.lt _ _ ho;omega
    .have h1:=(h.2.2.1 o ho).2
     have:xs.length*r.w<=(xs.length+ys.length)*r.w:=zag _ (by omega)
     omega
   .exact ho
  .simp only at hw
   rcases ho with ho|⟨h,_,_⟩
   .rcases hplace with h|h
    .have:=hM.lt _ _ ho;omega
    .have:=(h.2.2.1 o ho).1;rw[hw]at this;cases this
   .rw [hw]at h;cases h
  .obtain ⟨u,h1,h2,_,h4⟩:=hcont i j x p hx hp
   exact⟨u,h1,fun _=>h2,fun hw=>.inr ⟨hw,rfl,h4⟩⟩
  ·
   simp only[zj]at hd
   obtain⟨hd1,hd2⟩:=hd
   have hD:=hb4 hd1
   have hD:Deep w Fb v (.pv (.sl r) xs):=hD
   obtain⟨q1,hq1F,hq1d,hq1⟩:∃q:Nat->Nat->Nat->Prop,(∀i j k,q i j k->Fb k/\k<w.heap.size/\k≠b')/\(∀i j i' j' k,q i j k->q i' j' k->i=i'/\j=j')/\
     ∀(i j:Nat) (x:r.D) (c:AV),xs[i]? =some x->(cellsOf r x)[j]? =some c->Deep w (q i j) (u1 i j) c:=by
    rcases hD.openU with he|⟨b,cap,u,q,e1,hFb,hcell,hqF,hqd,hqD⟩
    .exact ⟨fun _ _ _=>False,fun _ _ _ h=>h.elim,fun _ _ _ _ _ h=>h.elim,fun i j x c hr _=>by rw[he]at hr;simp at hr⟩
    .refine ⟨q,fun i j k hk=>⟨(hqF i j k hk).1,(hb1 _ (hqF i j k hk).1).2,fun ek=>?_⟩,hqd,fun i j x c hr hc=>?_⟩
     .rcases hplace with h|h
      .have:=(hb1 _ (hqF i j k hk).1).2;omega
      .have hne1:b=b':=by
        by_cases hr:xs=[]
        .rcases hA.place with h'|⟨c',h'⟩
         .omega
         .rw [e1]at h';cases h';rfl
        .have:=ha1 hr
         rw[e1]at ev
         cases ev
         rw[zaE,Addr.mk.injEq]at this
         rw[this.1];exact(h.2.2.2 hr).1
       exact(hqF i j k hk).2 (by rw[hne1];exact ek)
     .have hi':i<xs.length:=(zh.1 hr).1
      have hj':j<r.w:=cells_lt hc
      have h1:=hcell i j hi' hj'
      have h2:=hU1.cell i j hi' hj'
      have hne1:xs≠ []:=by intro h;rw[h]at hi';simp at hi'
      have:=ha1 hne1
      rw[e1]at ev
      cases ev
      rw[zaE,Addr.mk.injEq]at this
      rw[<-this.1,<-this.2.1,zaY]at h2
      rw[h2]at h1
      rw[Option.some.inj h1]
      exact hqD i j x c hr hc
   obtain⟨q2,hq2F,hq2d,hq2⟩:∃q:Nat->Nat->Nat->Prop,(∀i j k,q i j k->Fs k/\¬Fb k/\k<w.heap.size/\k≠b')/\(∀i j i' j' k,q i j k->q i' j' k->i=i'/\j=j')/\
     ∀(i j:Nat) (x:r.D) (c:AV),ys[i]? =some x->(cellsOf r x)[j]? =some c->Deep w (q i j) (u2 i j) c:=by
    rcases hsd hd2 with hd2|⟨hd2,hdis⟩
    .exact ⟨fun _ _ _=>False,fun _ _ _ h=>h.elim,fun _ _ _ _ _ h=>h.elim,fun i j x c hr hc=>.leaf (S:=S) hd2 hc (fun p hp=>hU2.rep i j x p hr hp)⟩
    .rcases hd2.openU with he|⟨b,cap,u,q,e1,hFb,hcell,hqF,hqd,hqD⟩
     .exact absurd he hne
     .cases e1
      refine⟨q,fun i j k hk=>⟨(hqF i j k hk).1,hdis _ (hqF i j k hk).1,(hsB _ (hqF i j k hk).1).2,fun ek=>?_⟩,hqd,fun i j x c hr hc=>?_⟩
      .rcases hplace with h|h
       .have:=(hsB _ (hqF i j k hk).1).2;omega
       .exact hdis _ (hqF i j k hk).1 (ek▸h.2.1)
      .have hi':i<ys.length:=(zh.1 hr).1
       have hj':j<r.w:=cells_lt hc
       have h1:=hcell i j hi' hj'
       have h2:=hU2.cell i j hi' hj'
       rw[zaY]at h2
       rw[h2]at h1
       rw[Option.some.inj h1]
       exact hqD i j x c hr hc
   rw[hA.val,show xs.length+ys.length=(xs++ys).length from by simp]
   refine .sl _ cap' r (xs++ys) (fun i j=>if i<xs.length then u1 i j else u2 (i-xs.length) j) b' (fun i j k=>if i<xs.length then q1 i j k else q2 (i-xs.length) j k) vs' e' ⟨?_,hb'lt⟩ hA.heap hA.size (by simpa using hA.fits) hA.capm
    (fun i j x c hx hc=>?_) (fun i j k hk=>?_) (fun i j i' j' k hk hk'=>?_) (fun i j x c hx hc=>?_)
   .rcases hplace with h|h
    .exact .inr (.inr (by omega))
    .exact .inl h.2.1
   .obtain ⟨p,hp⟩:∃p,(enc r x)[j]? =some p:=⟨_,zc (by rw[enc_len];exact cells_lt hc)⟩
    obtain⟨u,h1,_,h3,_⟩:=hcont i j x p hx hp
    rw[h1,h3]
   .split at hk
    .have:=hq1F i j k hk;exact⟨⟨.inl this.1,zbi this.2.1 hA.grow⟩,this.2.2⟩
    .have:=hq2F _ j k hk;exact⟨⟨.inr (.inl this.1),zbi this.2.2.1 hA.grow⟩,this.2.2.2⟩
   .split at hk<;>split at hk'
    .exact hq1d i j i' j' k hk hk'
    .exact absurd (hq1F i j k hk).1 (hq2F _ j' k hk').2.1
    .exact absurd (hq1F i' j' k hk').1 (hq2F _ j k hk).2.1
    .have:=hq2d _ j _ j' k hk hk';exact⟨by omega,this.2⟩
   .by_cases hin:i<xs.length
    .simp only [hin,if_true]
     rw[zay hin]at hx
     exact(hq1 i j x c hx hc).same (fun k hk=>hA.same k (hq1F i j k hk).2.1 (hq1F i j k hk).2.2)
    .simp only [hin,if_false]
     rw[zaz (by omega)]at hx
     exact(hq2 _ j x c hx hc).same (fun k hk=>hA.same k (hq2F _ j k hk).2.2.1 (hq2F _ j k hk).2.2.2)
section
variable {E : Env} {o : Oper} {s : LSt} {e : Eff} {fp : FP}
theorem splice_get {α:Type} (l m:List α) (off:Nat) (h:off+m.length<=l.length) (k:Nat):(l.take off++m++l.drop (off+m.length))[k]? =if off<=k/\k<off+m.length then m[k-off]? else l[k]? :=by
 by_cases h1:k<off
 .rw [zu (by omega),zao,zay (by simp;omega),zaH,zf h1]
 .by_cases h2:k<off+m.length
  .rw [zf ⟨by omega,h2⟩,zay (by simp;omega),zaz (by simp;omega)]
   simp;congr 1;omega
  .rw [zu (by omega),zaz (by simp;omega),zaL]
   simp;congr 1;omega
theorem foldl_splice (off:Nat) (l:List Value) (cs:Array Value) (h:off+l.length<=cs.size):
  ((l.zipIdx 0).foldl (fun cs (x:Value×Nat)=>cs.setIfInBounds (off+x.2) x.1) cs).toList=cs.toList.take off++l++cs.toList.drop (off+l.length):=by
 obtain⟨h1,h2⟩:=Go.Great.foldl_set off l 0 cs
 apply zbc
 intro k
 rw[splice_get _ _ _ (by simpa using h)]
 have:=h2 k
 rw[<-zaN]at this
 rw[this]
 by_cases hk:off<=k/\k<off+l.length
 .rw [zf ⟨by omega,by omega,by omega⟩,zf hk];rfl
 .rw [zu hk,zu (by omega)];simp
theorem All2.splice {α β:Type} {P:α->β->Prop} {xs:List α} {ys:List β} (h:All2 P xs ys) {zs:List α} {us:List β} (h':All2 P zs us) (off:Nat):All2 P (xs.take off++zs++xs.drop (off+zs.length)) (ys.take off++us++ys.drop (off+us.length)):=by
 rw[h'.len]
 exact((h.take off).append h').append (h.drop _)
theorem fill_sim {c:Ctx} {a:Act} (hev:∀y,V3 c (s.ev y) (a.eval y)) (offs:List (Nat×Nat)):∀(parts:List (Nat×Operand)) (cells:List AV) (vc:Array Value) (cs:List AV),All2 (V1c c) cells vc.toList->fillA offs cells (parts.map fun q=>(q.1,s.ev q.2))=some cs->
  ∃vs,Instr.fill (offs.toArray[·]?) vc (parts.map fun q=>(q.1,a.eval q.2))=some vs/\All2 (V1c c) cs vs.toList
 | [],cells,vc,cs,hc,h=>by simp[fillA]at h;subst h;exact⟨vc,by simp[Instr.fill],hc⟩
 |(i,x)::rest,cells,vc,cs,hc,h=>by
  simp only[zv,fillA]at h
  cases ho:offs[i]? with
  |none=>simp[ho]at h
  |some os=>
   obtain⟨off,size⟩:=os
   cases hx:(s.ev x).cells? with
   |none=>simp[ho,hx]at h
   |some ds=>
    simp only[ho,hx]at h
    split at h
    case isFalse=>cases h
    case isTrue hif=>
    obtain⟨hlen,hle⟩:=hif
    have hv:=cells_of hx (hev x)
    have hvl:=hv.len
    have hcl:=hc.len
    have hs:(a.eval x).cells.size=size:=by rw[<-hlen,hvl];simp
    have hin:off+(a.eval x).cells.toList.length<=vc.size:=by simp at hcl⊢;omega
    have hsp:=foldl_splice off (a.eval x).cells.toList vc hin
    obtain⟨vs,hf,hvs⟩:=fill_sim hev offs rest _ ((a.eval x).cells.zipIdx.foldl (fun cs (x:Value×Nat)=>cs.setIfInBounds (off+x.2) x.1) vc) cs (by
     rw[<-Array.foldl_toList,Array.toList_zipIdx,hsp,<-hlen]
     exact hc.splice hv off) h
    refine⟨vs,?_,hvs⟩
    simp only[zv,Instr.fill]
    have ho':offs.toArray[i]? =some (off,size):=by simpa using ho
    rw[ho']
    simp only[]
    rw[zu (by simp at hin⊢;omega)]
    exact hf
theorem sim_build (hE:EnvOk E) (T:TypeId) (parts:Array (Nat×Operand)) (ho:o.op= .build T parts) (h:(opRD E o.op o.dst s.ev).R s [] [] e fp):Sim E o s e:=by
 rw[ho]at h
 simp only[opRD]at h
 split at h
 case h_2=>exact h.elim
 rename_i ty hty
 have hT:=hE.ty T ty hty
 split at h
 case h_2=>exact h.elim
 rename_i o1 ol cs hoffs hf
 cases val_R h
 refine sim_val fun c a w hw hev=>?_
 obtain⟨i,z,hi,hsz,hz,hzs,hzr⟩:=hT.info
 obtain⟨fields,hu,hp⟩:=hT.offs (by rw[hoffs];simp)
 obtain⟨vs,hvf,hvs⟩:=fill_sim hev ty.offs parts.toList ty.zero z.cells cs (hzr c) hf
 have hb:E.P.built T (parts.map fun q=>(q.1,a.eval q.2)).toList=some vs:=by
  simp only[Program.built,hi,hu,hz,hp,Array.toList_map]
  exact hvf
 refine⟨.agg vs,?_,vs.toList,by simp,hvs⟩
 have hr:=run_build (P:=E.P) w T (parts.map fun q=>(q.1,a.eval q.2)) vs hb
 simp only[execOp,ho,Sem.run_bind]
 rw[hr];rfl
theorem lift3 {c c':Ctx} (h:c.Le c') (hb:BoxLe c c') (ht:TokLe c c') {a:Act} (hs:∀i,V3 c (getA s.L i) (a.tmps.getD i undef)):∀i,V3 c' (getA s.L i) (a.tmps.getD i undef):=fun i=>(hs i).mono h hb ht
theorem same_le {w w':World} {S S':Stab} {tok:Nat->Option TS} {β:Nat->Nat} {τ:Nat->Value} (hb:Below w.heap.size w w') (hl:∀b o,S b o->b<w.heap.size) (hS:∀b o,S b o->S' b o) (live:Nat->Prop) (tok':Nat->Option TS) (live':Nat->Prop) (β':Nat->Nat) (τ':Nat->Value):
  Ctx.Le ⟨w,S,live,β,tok,τ⟩ ⟨w',S',live',β',tok',τ'⟩:=⟨hS,fun b o h=>(bcell hb).1 b o (hl b o h)⟩
theorem sim_newBox (d:Nat) (hmd:mapName d=false) (hdst:o.dst=some d) (hd:lookB s.B d=none) (hres:E.res d=false) (cs:List AV) (T:TypeId)
  (h:∀c (a:Act) w,c.w=w->(∀y,V3 c (s.ev y) (a.eval y))->∃vs:List Value,(execOp a.eval o).run E.P w= .ok (.value (.pointer (some ⟨w.heap.size,0,none⟩))) (w.alloc (.cells vs.toArray T))/\All2 (V1c c) cs vs):Sim E o s ⟨.box d 0,[(d,⟨false,cs⟩)],[]⟩:=by
 rintro R a w hR0 ⟨β,τ,F,S,hM,hn,hdf,hs⟩ K Q hK
 obtain⟨vs,hr,hc⟩:=h (s.ctx w S β τ) a w rfl (V3_ev hs)
 have hM':=hM.newBox d hmd hd (hR0.bn hres) T vs cs hc
 have hb:Below w.heap.size w (w.alloc (.cells vs.toArray T)):=(Below.refl _ _).alloc (zae _) _
 refine wp_value hr (hK _ _ (rel_put (e:=⟨.box d 0,[(d,⟨false,cs⟩)],[]⟩) hM' hn hdf (lift3 (same_le hb hM.lt (fun _ _ h=>h) _ _ _ _ _) (fun k hk=>?_) (TokLe.refl rfl rfl) hs) o.dst (.inr ⟨?_,by simp[refV_ptr hmd]⟩)))
 .have hkd:k≠d:=fun e=>hk (e▸hd)
  show updB (lookB s.B) d _ k≠none/\(if k=d then _ else β k)=β k
  simp only[updB,hkd,if_false]
  exact⟨hk,trivial⟩
 .show updB (lookB s.B) d _ d≠none
  simp[updB]
theorem sim_alloc (hE:EnvOk E) (T:TypeId) (ho:o.op= .alloc T) (h:(opRD E o.op o.dst s.ev).R s [] [] e fp):Sim E o s e:=by
 rw[ho]at h
 simp only[opRD]at h
 split at h
 case h_2=>exact h.elim
 rename_i d ty hdst hty
 simp only[RD.R]at h
 split at h
 case h_2=>exact h.elim
 rename_i hd
 split at h
 case isTrue=>exact h.elim
 rename_i hres
 obtain⟨rfl,_⟩:=h
 simp only[za1,not_or,zci]at hres
 exact sim_newBox d hres.2 hdst hd hres.1 ty.zero T fun c a w hw hev=>by
  obtain⟨i,z,hi,hsz,hz,hzs,hzr⟩:=(hE.ty T ty hty).info
  refine⟨z.cells.toList,?_,hzr c⟩
  simp[execOp,ho,Instr.alloc,zeroValue,typeInfo,hi,hz,newVar,newRow]
theorem sim_box (T:TypeId) (x:Operand) (ho:o.op= .box T x) (h:(opRD E o.op o.dst s.ev).R s [] [] e fp):Sim E o s e:=by
 rw[ho]at h
 simp only[opRD]at h
 split at h
 case h_2=>exact h.elim
 rename_i d ty cs hdst hty hx
 simp only[RD.R]at h
 split at h
 case h_2=>exact h.elim
 rename_i hd
 split at h
 case isFalse=>exact h.elim
 rename_i hl
 obtain⟨rfl,_⟩:=h
 exact sim_newBox d hl.2.2 hdst hd hl.2.1 cs T fun c a w hw hev=>by
  refine⟨(a.eval x).cells.toList,?_,cells_of hx (hev x)⟩
  simp[execOp,ho,Instr.box,newVar,newRow]
theorem sim_storeBox (hE:EnvOk E) (T:TypeId) (x y:Operand) (ho:o.op= .store T x y) (ty:Ty) (hty:E.ty T=some ty) (k q:Nat) (hmk:mapName k=false) (hx:s.ev x= .box k q) (cs ys:List AV) (hk:lookB s.B k=some ⟨false,cs⟩) (hy:(s.ev y).cells? =some ys) (hn:ys.length=ty.size) (hq:q+ty.size<=cs.length) (hdst:o.dst=none):
  Sim E o s ⟨.tup [],[(k,⟨false,cs.take q++ys++cs.drop (q+ty.size)⟩)],[]⟩:=by
 rintro R a w hR0 ⟨β,τ,F,S,hM,hsz,hdf,hs⟩ K Q hK
 have hev:=V3_ev hs
 have h:=hev x
 rw[hx]at h
 have hp:a.eval x= .pointer (some ⟨β k,q,none⟩):=(v3_box hmk h).2
 have hc:=cells_of hy (hev y)
 obtain⟨h1,h2,_,hB⟩:=hM.boxes k _ hk
 obtain⟨vs,T',h3,h4⟩:=hB.cells hmk
 obtain⟨i,z,hi,hisz,_⟩:=(hE.ty T ty hty).info
 have hl:=hc.len
 have hl4:=h4.len
 simp only at h4 hl4
 have hsp:All2 (V1c (s.ctx w S β τ)) (cs.take q++ys++cs.drop (q+ty.size)) (vs.take q++(a.eval y).cells.toList++vs.drop (q+(a.eval y).cells.toList.length)):=by
  rw[<-hn];exact h4.splice hc q
 obtain⟨hM',hle⟩:=hM.setBox k hmk cs _ hk _ hsp
 have hone:∀v∈(a.eval y).cells.toList,v.oneCell'=true:=fun v hv=>by
  obtain⟨j,hj,rfl⟩:=zav.1 hv
  exact(hc.get' j (ys[j]'(by omega)) _ (by simp) (by simp)).2
 have hst:=run_storeCells_at E.P (β k) q T' (a.eval y).cells.toList 0 vs.toArray w h3 (by simp at hl⊢;omega) hone
 have hr:(execOp a.eval o).run E.P w= .ok .skip (w.setRow (β k) (vs.take q++(a.eval y).cells.toList++vs.drop (q+(a.eval y).cells.toList.length)).toArray):=by
  have hz:(a.eval y).cells.size=i.size:=by rw[hisz,<-hn,hl];simp
  simp only[Nat.add_zero]at hst
  simp only[execOp,ho,Instr.storeAt,hp,Instr.sureAddr,storeVar,sizeOf,typeInfo,hi,Sem.run_bind,Sem.run_pure,Result.andThen_ok,run_program]
  simp[hi,hz,hst]
 refine wp_skip' hr (hK _ _ (rel_put (e:=⟨.tup [],[(k,⟨false,cs.take q++ys++cs.drop (q+ty.size)⟩)],[]⟩) hM' hsz hdf (lift3 hle (fun j hj=>⟨?_,rfl⟩) (TokLe.refl rfl rfl) hs) o.dst (.inl hdst)))
 show updB (lookB s.B) k _ j≠none
 simp only[updB]
 split
 .simp
 .exact hj
def spend (tok:Nat->Option TS) (l:List Nat):Nat->Option TS:=fun t=>if t∈l then some .spent else tok t
theorem spend_live {tok:Nat->Option TS} {l:List Nat} {t:Nat} {tk:Tok} (h:spend tok l t=some (.live tk)):t∉l/\tok t=some (.live tk):=by
 unfold spend at h
 split at h
 .cases h
 .exact ⟨‹_›,h⟩
theorem spend_used {tok:Nat->Option TS} {l:List Nat} {t:Nat} (h:tok t≠none):spend tok l t≠none:=by
 unfold spend;split
 .simp
 .exact h
theorem spend_fold :∀(l:List Nat) (tok:Nat->Option TS),(l.map fun t=>(t,some TS.spent)).foldl (fun f x=>updT f x.1 x.2) tok=spend tok l
 | [],tok=>by funext t;simp[spend]
 |t::l,tok=>by
  simp only[zv,zaq,spend_fold l]
  funext j
  simp only[spend,updT,zp]
  by_cases h1:j∈l<;>by_cases h2:j=t<;>simp_all
def ownAV (d:Nat) (tk:Tok):AV:=if tk.wr then .mtk d else .own d tk.t tk.xs
theorem TokOk.cell {Fr:Nat->Prop} {w:World} {S:Stab} {tk:Tok} {v:Value} {F:Nat->Prop} (h:TokOk Fr w S tk v F):v.oneCell'=true:=by
 rcases h.2.1 with⟨rfl,_⟩|⟨_,_,_,_,rfl,_⟩<;>rfl
theorem ownAV_ok {c:Ctx} {Fr:Nat->Prop} {d:Nat} {tk:Tok} {v:Value} {G:Nat->Prop} (h:TokOk Fr c.w c.S tk v G) (ht:c.tok d=some (.live tk)) (hτ:c.τ d=v):V3 c (ownAV d tk) v:=by
 unfold ownAV
 cases hw:tk.wr with
 |true=>exact⟨h.cell,by rw[ht];simp,fun tk' _=>hτ.symm⟩
 |false=>
  refine⟨h.rep hw,by rw[ht];simp,fun tk' h'=>?_⟩
  rw[ht]at h'
  cases h'
  exact⟨hw,hτ.symm,rfl⟩
theorem rel_newTok {R:Root} {w w':World} {S S':Stab} {a:Act} {β:Nat->Nat} {τ:Nat->Value} {F:Nat->Nat->Prop} (l:List Nat) (hM:Mem R (lookB s.B) (spend (lookT s.T) l) β τ F S' w') (hn:a.tmps.size=s.L.length) (hdf:a.defers=[]) (hs:∀i,V3 (s.ctx w S β τ) (getA s.L i) (a.tmps.getD i undef))
  (hle:∀live tok' live' β' τ',Ctx.Le ⟨w,S,live,β,tok',τ⟩ ⟨w',S',live',β',tok',τ'⟩) (d:Nat) (hd:lookT s.T d=none) (htn:R.tn d=none) (tk:Tok) (v':Value) (G:Nat->Prop) (hk:TokOk R.fr w' S' tk v' G) (hwh:tk.whole=true) (hG:∀t tk' b,t∉l->lookT s.T t=some (.live tk')->G b->¬F t b) (hGb:∀k b,lookB s.B k=some b->¬G (β k)) (dst:Option Nat)
  (hdl:d∉l) (es:List (Nat×Option TS)) (hes:es=l.map fun t=>(t,some TS.spent)):Rel R (s.app dst ⟨ownAV d tk,[],es++ [(d,some (.live tk))]⟩) (a.put dst v') w':=by
 subst hes
 have hd':spend (lookT s.T) l d=none:=by unfold spend;rw[zu hdl];exact hd
 have hM':=hM.newTok d hd' htn tk v' G hk hwh (fun t tk' b ht hg=>hG t tk' b (spend_live ht).1 (spend_live ht).2 hg) hGb
 have hu:(⟨ownAV d tk,[],(l.map fun t=>(t,some TS.spent))++ [(d,some (.live tk))]⟩:Eff).updT (lookT s.T)=updT (spend (lookT s.T) l) d (some (.live tk)):=by
  simp only[Eff.updT,zaX,spend_fold,zaq,List.foldl_nil]
 have h1:=hle (fun _=>True) (lookT s.T) (fun _=>True) β τ
 have hs':∀i,V3 ⟨w',S',fun k=>lookB s.B k≠none,β,updT (spend (lookT s.T) l) d (some (.live tk)),fun t=>if t=d then v' else τ t⟩ (getA s.L i) (a.tmps.getD i undef):=
  lift3 (c:=s.ctx w S β τ) (c':=⟨w',S',fun k=>lookB s.B k≠none,β,updT (spend (lookT s.T) l) d (some (.live tk)),fun t=>if t=d then v' else τ t⟩) ⟨h1.S,h1.w⟩ (BoxLe.refl rfl rfl) (fun t ht=>by
   have e:t≠d:=fun e=>ht (e▸hd)
   simp only[updT,e,if_false]
   exact⟨spend_used ht,fun tk' h=>⟨tk',(spend_live h).2,rfl,rfl,fun hw=>⟨hw,rfl⟩⟩⟩) hs
 exact rel_put (e:=⟨ownAV d tk,[],(l.map fun t=>(t,some TS.spent))++ [(d,some (.live tk))]⟩) (by rw[hu];exact hM') hn hdf (by rw[hu];exact hs') dst (.inr (ownAV_ok (Fr:=R.fr) (G:=G) hk (by simp only[hu,updT,if_true]) (by simp)))
theorem newTok_R {d:Nat} {r:Tp} {xs:List r.D} {e':TypeId} {deep:Bool} {es:List (Nat×Option TS)} {rb rt:List Nat} (h:(newTok E d r xs e' deep es).R s rb rt e fp):
  lookT s.T d=none/\(∀y,y∈es->y.1≠d)/\E.res d=false/\e=⟨ownAV d ⟨r,xs,e',E.wr d,deep,none⟩,[],es++ [(d,some (.live ⟨r,xs,e',E.wr d,deep,none⟩))]⟩:=by
 unfold newTok at h
 simp only[RD.R]at h
 split at h
 .exact h.elim
 .rename_i hd
  split at h
  .exact h.elim
  .rename_i hc
   simp only[za1,not_or,zci]at hc
   refine⟨hd,fun y hy e=>?_,hc.2,?_⟩
   .have:=List.any_eq_false.1 hc.1 y hy
    simp[e]at this
   .unfold ownAV
    split at h
    .rename_i hw;simp only[hw,if_true];exact h.1
    .rename_i hw;simp only[zci]at hw;rw[hw];exact h.1
end
end Go.Proofs.YtcinmmojlcchfaaGreatDoor
