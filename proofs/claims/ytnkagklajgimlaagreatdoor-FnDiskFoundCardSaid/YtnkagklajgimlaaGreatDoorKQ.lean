
import Derived.Test.YtnkagklajgimlaaGreatDoorKP
import Derived.Great.BuildSlice
import Derived.IntWalk
set_option linter.unusedSimpArgs false
set_option linter.unusedVariables false
namespace Go.Proofs.YtnkagklajgimlaaGreatDoor
open Go.RowKit
def TypeDesc.isAgg :TypeDesc->Bool
 | .struct _| .array _ _=>true
 |_=>false
def BP (P:Program) (K:TypeId):aH->Prop
 | .int k=>P.underlying K=some (.int k)
 | .str=>P.underlying K=some .string
 |_=>False
def TB (P:Program) (t K V:TypeId) (eb dD:aH):Prop:=
 P.underlying t=some (.map K V)/\BP P K eb/\∃i z,P.info? V=some i/\DC dD=some z/\i.zero=some (ix dD z)
def lx (agg:Bool) (t:aH) (x:t.D):Value:=bif agg then .agg ((enc t x).map fq).toArray else ix t x
def Tx (P:Program) (t K V:TypeId) (eb dD:aH) (agg:Bool):Prop:=
 P.underlying t=some (.map K V)/\BP P K eb/\dD.cj=true/\(agg=false->dD.w=1)/\∃i z,P.info? V=some i/\DB dD=some z/\i.zero=some (lx agg dD z)
def oC (W:World) (X:Nat->Prop) (S:bW) (g:Nat):s5->Prop
 | .row t x=>j1 W S g 0 (enc t x)
 | .map eb dD agg es=>S g 0/\∃b fg l h,W.cell? ⟨g,0,none⟩=some (.map (some b))/\W.heap[b]? =some (.map fg l)/\(fg.toList.map (fun e=>(e.key,e.val))=h.map (fun x=>(ix eb x.1,lx agg dD x.2))/\h.Perm es/\∀k,eJ eb dD h k=eJ eb dD es k)/\¬X b
 | .gh k zs=>(∃a b,W.heap[g]? =some (.cells (zs.map fun z=>Value.int k z).toArray a b))/\¬X g
 | .cell p=>(∃v,W.cell? ⟨g,0,none⟩=some v/\p v)/\g<W.heap.size/\¬X g
def k2 (W:World) (X:Nat->Prop) (S:bW):Prop:=∀g f,kL nK g=some f->oC W X S g f
theorem k2.sub {W:World} {X X':Nat->Prop} {S:bW} (h:k2 W X S) (A:∀b,X' b->X b):k2 W X' S:=by
 intro g f F
 have:=h g f F
 cases f with
 |row t x=>exact this
 |map eb dD agg es=>
  obtain⟨G,b,fg,B,C,H,I,J,L⟩:=this
  exact⟨G,b,fg,B,C,H,I,J,fun l=>L (A b l)⟩
 |gh k zs=>exact⟨this.1,fun l=>this.2 (A g l)⟩
 |cell p=>exact⟨this.1,this.2.1,fun l=>this.2.2 (A g l)⟩
theorem k2.later {R:ed} {w:World} {S:bW} {box:Nat->Option cf} {tok:Nat->Option bb} {β:Nat->Nat} {τ:Nat->Value} {F:Nat->Nat->Prop} (h:k2 R.W R.X R.s9) (l:Mem R box tok β τ F S w) {X':Nat->Prop} {S':bW} (L:∀b o,S b o->S' b o) (H:∀b,X' b->R.dm b):k2 w X' S':=by
 intro g f T
 have:=h g f T
 have M:∀b o,R.s9 b o->w.cell? ⟨b,o,none⟩=R.W.cell? ⟨b,o,none⟩:=l.iP
 cases f with
 |row t x=>exact j1.mono (fun b o h=>L b o (l.cq b o h)) M this
 |map eb dD agg es=>
  obtain⟨A,b,fg,I,J,B,O,U,Q⟩:=this
  have C:b<R.W.heap.size:=qv O
  refine⟨L _ _ (l.cq _ _ A),b,fg,I,J,(M g 0 A).trans B,(l.ew.block b C Q).trans O,U,fun G=>?_⟩
  rcases H b G with h|h
  .omega
  .exact Q h
 |gh k zs=>
  obtain⟨⟨a,b,A⟩,B⟩:=this
  have C:g<R.W.heap.size:=qv A
  refine⟨⟨a,b,(l.ew.block g C B).trans A⟩,fun G=>?_⟩
  rcases H g G with h|h
  .omega
  .exact B h
 |cell p=>
  obtain⟨⟨v,A,Y⟩,C,B⟩:=this
  refine⟨⟨v,(World.cell?_of_block (w:=R.W) (l.ew.block g C B)).trans A,Y⟩,kZ C l.size,fun G=>?_⟩
  rcases H g G with h|h
  .omega
  .exact B h
structure bU (P:Program) (t:TypeId) (ty:bw):Prop where
 desc:∃d,P.underlying t=some d/\TypeDesc.isAgg d=ty.agg
 info:∃i z,P.info? t=some i/\i.size=ty.size/\i.zero=some z/\z.cells.size=ty.size/\∀c,bs (ee c) ty.zero z.cells.toList
 elem:∀e r j8,ty.elem=some (e,r,j8)->P.underlying t=some (.slice e)/\0<r.w/\∃fy z,P.info? e=some fy/\fy.size=r.w/\fy.bytes=j8/\fy.zero=some z/\z.cells.size=r.w
 iR:ty.iR≠ []->∃fields,P.underlying t=some (.struct fields)/\fields.toList.mapM (fun f=>(P.info? f.type).map fun i=>(f.offset,i.size))=some ty.iR
 str:ty.str=true->P.underlying t=some .string
 bool:ty.bool=true->P.underlying t=some .bool
 int:∀k,ty.int=some k->P.underlying t=some (.int k)
 eqs:∀r,ty.eqs=some r->r.cj=true/\P.eqGuardType P.depth t=false/\∀w (x y:r.D),(Op.equalIn 10000 t (.agg ((enc r x).map fq).toArray) (.agg ((enc r y).map fq).toArray)).run P w= .ok (r.hO x y) w
 mp:∀K V eb dD,ty.mp=some (K,V,eb,dD)->TB P t K V eb dD
 ptr:ty.ptr=true->∃u,P.underlying t=some (.pointer u)
 vW:ty.vW≠ []->∃fields,P.underlying t=some (.struct fields)/\fields.toList.map (fun f=>(f.type,f.offset))=ty.vW
 zk:∀K V eb dD agg,ty.zk=some (K,V,eb,dD,agg)->Tx P t K V eb dD agg
def qY (P:Program) (f:FuncId):Prop:=∃fn,P.funcs[f]? =some fn/\fn.name≠ "runtime.NumGoroutine" /\fn.body.isNone=false
def kj (s:aX) (β:Nat->Nat) (F:Nat->Nat->Prop) (b:Nat):Prop:=(∃k x,aY s.B k=some x/\β k=b)\/ ∃t aa,aF s.T t=some (.live aa)/\F t b
def jh (s:aX) (β:Nat->Nat) (τ:Nat->Value) (F:Nat->Nat->Prop) (S:bW) (w:World):ed:=
 ⟨w,kj s β F,S,fun k=>if(aY s.B k).isSome then some (β k)else none,fun t=>match aF s.T t with|some (.live _)=>some (τ t)|_=>none⟩
def DH (P:Program) (f:FuncId) (g s1:aX):Prop:=
 ∀w S β τ F A,k2 w (kj g β F) S->Mem (jh g β τ F S w) (aY g.B) (aF g.T) β τ F S w->bs (bo (g.ctx w S β τ)) g.L A->
  Calls P f A.toArray w fun e w'=>∃v h l C S',e= .returned v/\Mem (jh g β τ F S w) (aY s1.B) (aF s1.T) h l C S' w'/\∃x,s1.L.head? =some x/\bo (s1.ctx w' S' h l) x v
structure hW (P:Program) (f:FuncId) (m:Model):Prop where
 enter:qY P f
 run:∀a r,m.run a=some r->DH P f (m.arg.mk' a) (m.ret.mk' r)
structure eA (E:Env):Prop where
 mix:E.P.follows .mixedOrders=true
 ty:∀t y,E.ty t=some y->bU E.P t y
 fn:∀f m,m∈E.fn f->hW E.P f m
def ja (E:Env) (R:ed):Prop:=(∀k,R.ny k≠none->E.res k=true)/\(∀t,R.gi t≠none->E.res t=true)/\k2 R.W R.X R.s9
theorem ja.ny {E:Env} {R:ed} (h:ja E R) {k:Nat} (g:E.res k=false):R.ny k=none:=by
 cases l:R.ny k with
 |none=>rfl
 |some b=>have:=h.1 k (by rw[l];simp);rw[g]at this;cases this
theorem ja.gi {E:Env} {R:ed} (h:ja E R) {k:Nat} (g:E.res k=false):R.gi k=none:=by
 cases l:R.gi k with
 |none=>rfl
 |some b=>have:=h.2.1 k (by rw[l];simp);rw[g]at this;cases this
def bh.R :bh->aX->List Nat->List Nat->bO->c6->Prop
 | .ret h,_,az,rt,e,aK=>e=h/\aK=⟨az,h.boxes,rt,h.bG⟩
 | .box k f,s,az,rt,e,aK=>(f (aY s.B k)).R s (k::az) rt e aK
 | .tok t f,s,az,rt,e,aK=>(f (aF s.T t)).R s az (t::rt) e aK
 | .gE p _ f,s,az,rt,e,aK=>p/\f.R s az rt e aK
 | .get o f,s,az,rt,e,aK=>∃x,o=some x/\(f x).R s az rt e aK
 | .q7 b f g,s,az,rt,e,aK=>(b=true/\f.R s az rt e aK)\/(b=false/\g.R s az rt e aK)
 | .fail,_,_,_,_,_=>False
theorem bh.al5 {ρ:Type} {K:bO->c6->Option ρ} {s:aX} {z:ρ}:∀(r:bh) (az rt:List Nat),r.run s az rt K=some z->∃e aK,r.R s az rt e aK/\K e aK=some z:=by
 intro r
 induction r with
 |ret e=>exact fun az rt h=>⟨e,_,⟨rfl,rfl⟩,h⟩
 |box k f l=>exact fun az rt h=>l _ _ _ h
 |tok t f l=>exact fun az rt h=>l _ _ _ h
 |gE p d f l=>
  intro az rt h
  simp only[bh.run]at h
  by_cases C:p
  .rw [ai C]at h
   obtain⟨e,aK,A,B⟩:=l _ _ h
   exact⟨e,aK,⟨C,A⟩,B⟩
  .rw [aA C]at h;cases h
 |get o f l=>
  intro az rt h
  simp only[bh.run]at h
  cases o with
  |none=>cases h
  |some x=>
   obtain⟨e,aK,A,B⟩:=l x _ _ h
   exact⟨e,aK,⟨x,rfl,A⟩,B⟩
 |q7 b f g F G=>
  intro az rt h
  cases b with
  |true=>obtain⟨e,aK,A,B⟩:=F _ _ h;exact⟨e,aK,.inl ⟨rfl,A⟩,B⟩
  |false=>obtain⟨e,aK,A,B⟩:=G _ _ h;exact⟨e,aK,.inr ⟨rfl,A⟩,B⟩
 |fail=>exact fun az rt h=>by cases h
theorem bh.R.reads {s:aX}:∀(r:bh) (az rt:List Nat) (e:bO) (aK:c6),r.R s az rt e aK->(∀k,k∈az->k∈aK.az)/\(∀t,t∈rt->t∈aK.rt):=by
 intro r
 induction r with
 |ret F=>rintro az rt e aK ⟨rfl,rfl⟩;exact⟨fun _ h=>h,fun _ h=>h⟩
 |box k f l=>intro az rt e aK h;have:=l _ _ _ _ _ h;exact⟨fun j A=>this.1 j (b7 _ A),this.2⟩
 |tok t f l=>intro az rt e aK h;have:=l _ _ _ _ _ h;exact⟨this.1,fun j A=>this.2 j (b7 _ A)⟩
 |gE p d f l=>intro az rt e aK h;exact l _ _ _ _ h.2
 |get o f l=>rintro az rt e aK ⟨i,_,h⟩;exact l i _ _ _ _ h
 |q7 b f g B C=>
  intro az rt e aK h
  rcases h with⟨_,h⟩|⟨_,h⟩
  .exact B _ _ _ _ h
  .exact C _ _ _ _ h
 |fail=>exact fun az rt e aK h=>h.elim
theorem bh.R.move {s F:aX}:∀(r:bh) (az rt:List Nat) (e:bO) (aK:c6),r.R s az rt e aK->(∀k,k∈aK.az->aY F.B k=aY s.B k)->(∀t,t∈aK.rt->aF F.T t=aF s.T t)->r.R F az rt e aK:=by
 intro r
 induction r with
 |ret L=>exact fun az rt e aK h _ _=>h
 |box k f C=>
  intro az rt e aK h l A
  have G:=(bh.R.reads (f (aY s.B k)) _ _ _ _ h).1 k b6
  simp only[bh.R]at h⊢
  rw[l k G];exact C _ _ _ _ _ h l A
 |tok t f C=>
  intro az rt e aK h l A
  have G:=(bh.R.reads (f (aF s.T t)) _ _ _ _ h).2 t b6
  simp only[bh.R]at h⊢
  rw[A t G];exact C _ _ _ _ _ h l A
 |gE p d f C=>exact fun az rt e aK h l A=>⟨h.1,C _ _ _ _ h.2 l A⟩
 |get o f C=>rintro az rt e aK ⟨i,J,h⟩ l A;exact⟨i,J,C i _ _ _ _ h l A⟩
 |q7 b f g H I=>exact fun az rt e aK h l A=>h.imp (fun h=>⟨h.1,H _ _ _ _ h.2 l A⟩) (fun h=>⟨h.1,I _ _ _ _ h.2 l A⟩)
 |fail=>exact fun az rt e aK h=>h.elim
theorem bh.R.writes {s:aX} {e:bO} {aK:c6}:∀(r:bh) (az rt:List Nat),r.R s az rt e aK->aK.hH=e.boxes/\aK.wt=e.bG:=by
 intro r
 induction r with
 |ret C=>rintro az rt ⟨rfl,rfl⟩;exact⟨rfl,rfl⟩
 |box k f l=>intro az rt h;exact l _ _ _ h
 |tok t f l=>intro az rt h;exact l _ _ _ h
 |gE p d f l=>intro az rt h;exact l _ _ h.2
 |get o f l=>rintro az rt ⟨i,_,h⟩;exact l i _ _ h
 |q7 b f g A B=>
  intro az rt h
  rcases h with⟨_,h⟩|⟨_,h⟩
  .exact A _ _ h
  .exact B _ _ h
 |fail=>intro az rt h;exact h.elim
def cR (E:Env) (o:Oper) (s:aX) (e:bO):Prop:=
 ∀R a w,ja E R->Rel R s a w->∀(K:Act->World->Prop) Q,(∀g w',Rel R (s.app o.dst e) g w'->K g w')->o.wp E.P a w K Q
theorem e9.one {c:Ctx} {x:ar} {v:Value} (A:x≠ .dead) (h:e9 c x v):v.oneCell'=true:=by
 cases x with
 |dead=>exact absurd rfl A
 |ag t y=>obtain⟨p,_,h⟩:=h;exact h.one
 |aQ=>rw[show v= .slice none 0 0 from h];rfl
 |eK=>rw[show v= .pointer none from h];rfl
 |box k o=>rw[h.2];exact alM _ _ _
 |ptr t y o=>obtain⟨b,s,e,_⟩:=h;rw[e];rfl
 |own n t xs=>exact bq.one h.1
 |aw n=>exact h.1
 |fr n i o=>exact h.1
 |iJ g=>exact h.2.2
 |sub n l k=>exact h.1
 |aU f cs=>obtain⟨us,e,_⟩:=h;rw[e];rfl
 |agg cs=>exact h.elim
 |bM cs=>exact h.elim
theorem Uv {v:Value} (h:v.oneCell'=true):v.cells= #[v]:=by
 cases v<;>first|rfl|(simp[Value.oneCell']at h)
theorem ti {c:Ctx} {x:ar} {v:Value} {cs:List ar} (A:x.cells? =some cs) (h:bo c x v):bs (ee c) cs v.cells.toList:=by
 have one:∀ {x:ar},x≠ .dead->e9 c x v->bs (ee c) [x] v.cells.toList:=fun {x} F B=>by
  have C:=e9.one F B
  rw[Uv C];exact⟨⟨B,C⟩,True.intro⟩
 cases x with
 |dead=>cases A
 |bM cs=>cases A
 |agg ds=>cases A;obtain⟨H,e,G⟩:=h;rw[e];simpa[Value.cells]using G
 |ag t y=>cases A;exact one (x:=.ag t y) (by simp) h
 |aQ=>cases A;exact one (x:=.aQ) (by simp) h
 |eK=>cases A;exact one (x:=.eK) (by simp) h
 |box k o=>cases A;exact one (x:=.box k o) (by simp) h
 |ptr t y o=>cases A;exact one (x:=.ptr t y o) (by simp) h
 |own n t xs=>cases A;exact one (x:=.own n t xs) (by simp) h
 |aw n=>cases A;exact one (x:=.aw n) (by simp) h
 |fr n i o=>cases A;exact one (x:=.fr n i o) (by simp) h
 |iJ g=>cases A;exact one (x:=.iJ g) (by simp) h
 |sub n l k=>cases A;exact one (x:=.sub n l k) (by simp) h
 |aU f cs=>cases A;exact one (x:=.aU f cs) (by simp) h
theorem Un (b:ByteArray):bytes b.data.toList=b:=by cases b;simp[bytes]
theorem yO (l:List UInt8):(bytes l).size=l.length:=by simp[bytes,ByteArray.size]
theorem TJ (c:Ctx) (v:Value):bo c (Kq v) v:=by
 cases v with
 |bool b=>exact⟨_,rfl,.bool b⟩
 |int k n=>exact⟨_,rfl,.int k n⟩
 |string s=>exact⟨_,rfl,by rw[Un];exact .str s⟩
 |slice a n k=>
  cases a with
  |some a=>exact True.intro
  |none=>
   cases n with
   |zero=>cases k with
    |zero=>exact rfl
    |succ k=>exact True.intro
   |succ n=>exact True.intro
 |pointer a=>cases a with
  |none=>exact rfl
  |some a=>exact True.intro
 |_=>exact True.intro
theorem hL {c:Ctx} {s:aX} {a:Act} (h:∀i,bo c (dT s.L i) (a.tmps.getD i undef)):∀x,bo c (s.aP x) (a.eval x)
 | .tmp t=>h t
 | .const v=>TJ c v
 | .global _=>True.intro
 | .func f=>⟨[],rfl,True.intro⟩
theorem jT {R:ed} {w':World} {S':bW} {s:aX} {a:Act} {e:bO} {g:Nat->Nat} {l:Nat->Value} {G:Nat->Nat->Prop}
  (I:Mem R (e.updB (aY s.B)) (e.updT (aF s.T)) g l G S' w') (A:a.tmps.size=s.L.length) (J:a.defers=[]) (H:∀i,bo ⟨w',S',fun k=>e.updB (aY s.B) k≠none,g,e.updT (aF s.T),l⟩ (dT s.L i) (a.tmps.getD i undef)) (d:Option Nat) {v:Value} (C:d=none\/bo ⟨w',S',fun k=>e.updB (aY s.B) k≠none,g,e.updT (aF s.T),l⟩ e.val v):
  Rel R (s.app d e) (a.put d v) w':=by
 refine⟨g,l,G,S',by rw[q2,nx];exact I,?_,?_,fun i=>?_⟩
 .rw [DS];cases d<;>simp[Act.put,A]
 .cases d<;>exact J
 .have M:(s.app d e).ctx w' S' g l=⟨w',S',fun k=>e.updB (aY s.B) k≠none,g,e.updT (aF s.T),l⟩:=by
   simp only[aX.ctx,q2,nx]
  rw[M,yE]
  cases d with
  |none=>simpa[Act.put]using H i
  |some d=>
   have C:=C.resolve_left (by simp)
   simp only[Act.put,ic]
   by_cases h:d=i/\i<s.L.length
   .obtain ⟨rfl,hi⟩:=h
    rw[ai ⟨rfl,hi⟩]
    rw[<-A]at hi
    have:(a.tmps.setIfInBounds d v).getD d undef=v:=by simp[Array.getD,hi]
    rw[this];exact C
   .rw [aA h]
    have:(a.tmps.setIfInBounds d v).getD i undef=a.tmps.getD i undef:=by
     by_cases e:d=i
     .subst e
      have F:¬d<a.tmps.size:=fun O=>h ⟨rfl,A▸O⟩
      simp[Array.getD,F]
     .simp [Array.getElem?_setIfInBounds_ne e]
    rw[this];exact H i
theorem jt {P:Program} {o:Oper} {a:Act} {w w':World} {v:Value} {K:Act->World->Prop} {Q:Exit->Act->World->Prop} (h:(execOp a.eval o).run P w= .ok (.value v) w') (g:K (a.put o.dst v) w'):o.wp P a w K Q:=by
 unfold Oper.wp;rw[h];exact g
theorem Jx {P:Program} {o:Oper} {a:Act} {w w':World} {K:Act->World->Prop} {Q:Exit->Act->World->Prop} (h:(execOp a.eval o).run P w= .ok .skip w') (g:K (a.put o.dst undef) w'):o.wp P a w K Q:=by
 unfold Oper.wp;rw[h];exact g
theorem gI {E:Env} {o:Oper} {s:aX} {x:ar} (h:∀c (a:Act) w,c.w=w->(∀y,bo c (s.aP y) (a.eval y))->∃v,(execOp a.eval o).run E.P w= .ok (.value v) w/\bo c x v):cR E o s ⟨x,[],[]⟩:=by
 rintro R a w l ⟨β,τ,F,S,A,B,C,g⟩ K Q G
 obtain⟨v,H,I⟩:=h (s.ctx w S β τ) a w rfl (hL g)
 exact jt H (G _ _ (jT (e:=⟨x,[],[]⟩) A B C g o.dst (.inr I)))
theorem oh {E:Env} {o:Oper} {s:aX} {x:ar} (h:∀R β τ F S (a:Act) w,Mem R (aY s.B) (aF s.T) β τ F S w->(∀y,bo (s.ctx w S β τ) (s.aP y) (a.eval y))->∃v,(execOp a.eval o).run E.P w= .ok (.value v) w/\bo (s.ctx w S β τ) x v):cR E o s ⟨x,[],[]⟩:=by
 rintro R a w A ⟨β,τ,F,S,g,C,G,l⟩ K Q H
 obtain⟨v,I,J⟩:=h R β τ F S a w g (hL l)
 exact jt I (H _ _ (jT (e:=⟨x,[],[]⟩) g C G l o.dst (.inr J)))
section
variable {E : Env} {o : Oper} {s : aX} {e : bO} {aK : c6}
theorem cY {x:ar} {az rt:List Nat} (h:(bh.val x).R s az rt e aK):e=⟨x,[],[]⟩:=h.1
theorem RS (x:Operand) (g:o.op= .move x\/o.op= .assign x):cR E o s ⟨s.aP x,[],[]⟩:=
 gI fun c a w _ h=>⟨a.eval x,by rcases g with g|g<;>simp[execOp,g],h x⟩
theorem alP {w:World} {S:bW} {v:Value} {b:Bool} (h:bq w S v (.bool b)):v= .bool b:=by cases h;rfl
theorem alQ {w:World} {S:bW} {v:Value} {k:IntKind} {n:Int} (h:bq w S v (.int k n)):v= .int k n:=by cases h;rfl
theorem alS {w:World} {S:bW} {v:Value} {x:ByteArray} (h:bq w S v (.str x)):v= .string x:=by cases h;rfl
theorem sJ {c:Ctx} {v:Value} {b:Bool} (h:bo c (.ag .bool b) v):v= .bool b:=by
 obtain⟨p,e,g⟩:=(h:gw c (.ag .bool b) v)
 cases e;exact alP (w:=c.w) g
theorem kT {c:Ctx} {v:Value} {k:IntKind} {n:Int} (h:bo c (.ag (.int k) n) v):v= .int k n:=by
 obtain⟨p,e,g⟩:=(h:gw c (.ag (.int k) n) v)
 cases e;exact alQ (w:=c.w) g
theorem vg {c:Ctx} {v:Value} {x:List UInt8} (h:bo c (.ag .str x) v):v= .string (bytes x):=by
 obtain⟨p,e,g⟩:=(h:gw c (.ag .str x) v)
 cases e;exact alS (w:=c.w) g
theorem ye {c:Ctx} {v:Value} {t:aH} {x:t.D} (h:bo c (.ag t x) v):∃p,enc t x=[p]/\bq c.w c.S v p:=h
theorem anw {c:Ctx} {v:Value} {k o:Nat} (h:bo c (.box k o) v):c.live k/\v=qJ k (c.β k) o:=h
theorem vf {c:Ctx} {v:Value} {k o:Nat} (g:gq k=false) (h:bo c (.box k o) v):c.live k/\v= .pointer (some ⟨c.β k,o,none⟩):=⟨h.1,h.2.trans (IM g)⟩
theorem Dr {c:Ctx} {v:Value} {t:aH} {x:t.D} {o:Nat} (h:bo c (.ptr t x o) v):∃b s,v= .pointer (some ⟨b,s+o,none⟩)/\j1 c.w c.S b s (enc t x):=h
theorem Dq {c:Ctx} {v:Value} {n:Nat} {t:aH} {xs:List t.D} (h:bo c (.own n t xs) v):bq c.w c.S v (.av (xs.map (enc t)))/\c.tok n≠none/\∀aa,c.tok n=some (.live aa)->aa.wr=false/\v=c.τ n/\(⟨aa.t,aa.xs⟩:(t:aH)×List t.D)=⟨t,xs⟩:=h
theorem jX {c:Ctx} {v:Value} {n:Nat} (h:bo c (.aw n) v):v.oneCell'=true/\c.tok n≠none/\∀aa,c.tok n=some (.live aa)->v=c.τ n:=h
theorem pA {c:Ctx} {v:Value} {n i o:Nat} (h:bo c (.fr n i o) v):v.oneCell'=true/\c.tok n≠none/\∀aa,c.tok n=some (.live aa)->∃b l cap,c.τ n= .slice (some ⟨b,0,none⟩) l cap/\i<l/\v= .pointer (some ⟨b,i*aa.t.w+o,none⟩):=h
theorem Jp {c:Ctx} {v:Value} {f:FuncId} {cs:List ar} (h:bo c (.aU f cs) v):∃us:List Value,v= .func (.func f) #[] us.toArray/\bs (gw c) cs us:=h
theorem qy (c:Ctx) (b:Bool):bo c (.ag .bool b) (.bool b):=⟨_,rfl,.bool b⟩
theorem kM (c:Ctx) (k:IntKind) (n:Int):bo c (.ag (.int k) n) (.int k n):=⟨_,rfl,.int k n⟩
theorem HY (c:Ctx) (x:List UInt8):bo c (.ag .str x) (.string (bytes x)):=⟨_,rfl,.str _⟩
theorem amN (c a b:Operand) (l:o.op= .pick c a b) (h:(cF E o.op o.dst s.aP).R s [] [] e aK):cR E o s e:=by
 rw[l]at h
 simp only[cF]at h
 split at h
 .rename_i t A
  have base:cR E o s ⟨if t then s.aP a else s.aP b,[],[]⟩:=gI fun C ac w _ g=>by
   have B:ac.eval c= .bool t:=sJ (A▸g c)
   refine⟨if t then ac.eval a else ac.eval b,by cases t<;>simp[execOp,l,B,asBool],?_⟩
   cases t
   .exact g b
   .exact g a
  rcases h with⟨rfl,h⟩|⟨rfl,h⟩
  .cases cY h;exact base
  .cases cY h;exact base
 .exact h.elim
theorem yH {k:IntKind} {n:Int} {az rt:List Nat} (h:(pR k n).R s az rt e aK):e=⟨.ag (.int k) (k.wrap n),[],[]⟩:=by
 cases k<;>simp only[pR,bh.R,bh.val,gE]at h<;>first|exact h.1|skip
 rw[IntWalk.i64_in n ⟨h.1.1,h.1.2⟩];exact h.2.1
theorem bytes_inj {a b:List UInt8}:bytes a=bytes b↔a=b:=by
 constructor
 .intro h
  have:=congrArg (fun x:ByteArray=>x.data.toList) h
  simpa[bytes]using this
 .exact congrArg bytes
theorem Kc (l:List UInt8):(bytes l).toList=l:=by
 rw[ByteArray.toList_eq];simp[bytes]
end
section
variable {E : Env} {o : Oper} {s : aX} {e : bO} {aK : c6}
theorem UY (a b:List UInt8):(a==b)=decide (a=b):=by
 by_cases h:a=b
 .simp [h]
 .simp [h]
theorem vN (a b:Int):(a==b)=decide (a=b):=by
 by_cases h:a=b
 .simp [h]
 .simp [h]
theorem KD (a b:Int):(a !=b)= !decide (a=b):=by rw[bne,vN]
theorem al9 {P:Program} (w:World) (T u:TypeId) (p:Option Addr) (g:P.underlying T=some (.pointer u)):(Op.equal T (.pointer p) (.pointer none)).run P w= .ok p.isNone w:=by
 have h:∀d:Nat,(Op.equalIn (d+1) T (.pointer p) (.pointer none)).run P w= .ok p.isNone w:=fun d=>by
  cases p<;>simp[Op.equalIn,run_underlying g]
 exact h 9999
theorem anx {c:Ctx} {v:Value} (h:bo c .eK v):v= .pointer none:=h
theorem YG {c:Ctx} {x:ar} {v:Value} {o7:Bool} (g:isNil x=some o7) (h:bo c x v):∃p,v= .pointer p/\p.isNone=o7:=by
 unfold isNil at g
 split at g
 .cases g;exact⟨none,h,rfl⟩
 .cases g
  obtain⟨b,F,l,B⟩:=h
  exact⟨_,l,rfl⟩
 .rename_i y
  cases g
  obtain⟨p,l,A⟩:=ye h
  cases y with
  |none=>
   simp only[enc,Option.map_none,List.cons.injEq,and_true]at l
   subst l
   cases A
   exact⟨none,rfl,rfl⟩
  |some r=>
   simp only[enc,ou,List.cons.injEq,and_true]at l
   subst l
   obtain⟨b,q,C,B⟩:=A.QG
   exact⟨_,C,rfl⟩
 .cases g
theorem amr (Y:eA E) (op:BinOp) (T:TypeId) (x y:Operand) (t:TypeId) (cx:o.op= .binOp op T x y t) (h:(DX (match E.ty T with|some ty=>ty.bool|none=>false) (match E.ty T with|some ty=>ty.ptr|none=>false) op (s.aP x) (s.aP y)).R s [] [] e aK):cR E o s e:=by
 have key:∀(z:Value) (L:aH) (M:L.D),(∀(c:Ctx) (a:Act) w,c.w=w->(∀y,bo c (s.aP y) (a.eval y))->(do eqGuard op T x y (a.eval x) (a.eval y);binOp op T (a.eval x) (a.eval y):Sem Value).run E.P w= .ok z w/\bo c (.ag L M) z)->cR E o s ⟨.ag L M,[],[]⟩:=by
  intro z L M I
  refine gI fun c a w hw g=>?_
  obtain⟨aD,aV⟩:=I c a w hw g
  exact⟨z,by simp only[execOp,cx,Sem.run_bind];rw[<-Sem.run_bind,aD];rfl,aV⟩
 simp only[DX]at h
 split at h
 .rename_i k m J
  split at h
  .rename_i Z n hy
   have A:∀(c:Ctx) (a:Act),(∀y,bo c (s.aP y) (a.eval y))->a.eval x= .int k m:=fun c a g=>kT (J▸g x)
   have B:∀(c:Ctx) (a:Act),(∀y,bo c (s.aP y) (a.eval y))->a.eval y= .int Z n:=fun c a g=>kT (hy▸g y)
   have main:∀C,op=C->k=Z->(yK C k m n).R s [] [] e aK->C≠ .shl->C≠ .shr->cR E o s e:=fun C O Q h U W=>by
    subst O;subst Q
    cases op
    all_goals first
     |exact absurd rfl U
     |exact absurd rfl W
     |(cases yH h;exact key (.int k _) (.int k) _ (fun c a w hw g=>⟨by rw[A c a g,B c a g];simp[eqGuard,binOp,Op.intArith],kM c _ _⟩))
     |(cases cY h;exact key (.bool _) .bool _ (fun c a w hw g=>⟨by rw[A c a g,B c a g];first|(simp[eqGuard,binOp,Op.intCmp,vN,KD];done)|(simp[eqGuard,binOp,Op.intCmp];exact vN m n)|(simp[eqGuard,binOp,Op.intCmp];exact KD m n),qy c _⟩))
     |(cases cY h;exact key (.int k _) (.int k) _ (fun c a w hw g=>⟨by rw[A c a g,B c a g];simp[eqGuard,binOp,Op.intBits,dS],kM c _ _⟩))
     |(obtain⟨F,h⟩:=h;first
       |(cases yH h;exact key (.int k _) (.int k) _ (fun c a w hw g=>⟨by rw[A c a g,B c a g];simp[eqGuard,binOp,Op.intDiv,F],kM c _ _⟩))
       |(cases cY h;exact key (.int k _) (.int k) _ (fun c a w hw g=>⟨by rw[A c a g,B c a g];simp[eqGuard,binOp,Op.intDiv,F],kM c _ _⟩)))
   split at h
   .obtain ⟨F,h⟩:=h
    cases yH h
    exact key (.int k _) (.int k) _ (fun c a w hw g=>⟨by rw[A c a g,B c a g];simp[eqGuard,binOp,Op.shift,Int.not_lt.2 F],kM c _ _⟩)
   .obtain ⟨F,h⟩:=h
    cases cY h
    exact key (.int k _) (.int k) _ (fun c a w hw g=>⟨by rw[A c a g,B c a g];simp[eqGuard,binOp,Op.shift,Int.not_lt.2 F],kM c _ _⟩)
   .rename_i U W
    split at h
    .rename_i Q
     exact main op rfl Q h (fun e=>U e) (fun e=>W e)
    .exact h.elim
  .exact h.elim
 .rename_i m J
  split at h
  .rename_i n hy
   have A:∀(c:Ctx) (a:Act),(∀y,bo c (s.aP y) (a.eval y))->a.eval x= .string (bytes m):=fun c a g=>vg (J▸g x)
   have B:∀(c:Ctx) (a:Act),(∀y,bo c (s.aP y) (a.eval y))->a.eval y= .string (bytes n):=fun c a g=>vg (hy▸g y)
   cases op
   all_goals first
    |exact h.elim
    |(cases cY h;exact key (.bool _) .bool _ (fun c a w hw g=>⟨by rw[A c a g,B c a g];simp[eqGuard,binOp,Op.stringOp,Kc,UY],qy c _⟩))
    |(obtain⟨F,h⟩:=h;cases cY h;exact key (.string (bytes (m++n))) .str _ (fun c a w hw g=>⟨by
      rw[A c a g,B c a g]
      have hm:¬(((bytes m).size+(bytes n).size:Nat):Int)>IntKind.i64.max:=by simp[IntKind.max,IntKind.signed,IntKind.bits,yO];omega
      have O:bytes m++bytes n=bytes (m++n):=by apply Go.WideShapes.bytes_inj;simp[bytes]
      simp only[eqGuard,binOp,Op.stringOp]
      rw[aA hm,O];rfl,HY c _⟩))
  .exact h.elim
 .rename_i m J
  split at h
  .rename_i n hy
   have A:∀(c:Ctx) (a:Act),(∀y,bo c (s.aP y) (a.eval y))->a.eval x= .bool m:=fun c a g=>sJ (J▸g x)
   have B:∀(c:Ctx) (a:Act),(∀y,bo c (s.aP y) (a.eval y))->a.eval y= .bool n:=fun c a g=>sJ (hy▸g y)
   cases l:E.ty T with
   |none=>rw[l]at h;exact h.elim
   |some ty=>
    rw[l]at h
    cases G:ty.bool with
    |false=>simp only[G]at h;exact h.elim
    |true=>
    simp only[G,if_true]at h
    have X:E.P.underlying T=some .bool:=(Y.ty T ty l).bool G
    cases op
    all_goals first
     |exact h.elim
     |(cases cY h;exact key (.bool _) .bool _ (fun c a w hw g=>⟨by rw[A c a g,B c a g];simp[eqGuard,binOp,run_equal_bool (P:=E.P) w T m n X],qy c _⟩))
  .exact h.elim
 .unfold QZ at h
  split at h
  case h_2=>exact h.elim
  rename_i hy
  split at h
  case h_2=>exact h.elim
  rename_i o7 cD
  cases l:E.ty T with
  |none=>rw[l]at h;exact h.elim
  |some ty=>
   rw[l]at h
   cases H:ty.ptr with
   |false=>simp only[H]at h;exact h.elim
   |true=>
   simp only[H,if_true]at h
   obtain⟨u,X⟩:=(Y.ty T ty l).ptr H
   have B:∀(c:Ctx) (a:Act),(∀y,bo c (s.aP y) (a.eval y))->a.eval y= .pointer none:=fun c a g=>anx (hy▸g y)
   have A:∀(c:Ctx) (a:Act),(∀y,bo c (s.aP y) (a.eval y))->∃p,a.eval x= .pointer p/\p.isNone=o7:=fun c a g=>YG cD (g x)
   cases op
   all_goals first
    |exact h.elim
    |(cases cY h;exact key (.bool _) .bool _ (fun c a w hw g=>⟨by obtain⟨p,cU,au⟩:=A c a g;rw[cU,B c a g,<-au];simp[eqGuard,binOp,al9 (P:=E.P) w T u p X],qy c _⟩))
theorem amR (op:UnOp) (T:TypeId) (x:Operand) (l:o.op= .unOp op T x) (h:(cF E o.op o.dst s.aP).R s [] [] e aK):cR E o s e:=by
 rw[l]at h
 simp only[cF,Tc]at h
 split at h
 .rename_i b A
  cases op with
  |not=>
   cases cY h
   exact gI fun c a w hw g=>⟨.bool (!b),by simp[execOp,l,sJ (A▸g x),Op.unary],qy c _⟩
  |_=>exact h.elim
 .rename_i k n A
  cases op with
  |neg=>
   cases yH h
   exact gI fun c a w hw g=>⟨.int k (k.wrap (0-n)),by simp[execOp,l,kT (A▸g x),Op.unary,Op.intArith],kM c _ _⟩
  |xor=>
   cases cY h
   exact gI fun c a w hw g=>⟨.int k (dS .xor k (if k.signed then-1 else k.max) n),by simp[execOp,l,kT (A▸g x),Op.unary,Op.intBits,dS],kM c _ _⟩
  |_=>exact h.elim
 .exact h.elim
theorem amM (x:Operand) (C:o.op= .nilCheck x) (h:(cF E o.op o.dst s.aP).R s [] [] e aK):cR E o s e:=by
 have key:∀y,(∀c (a:Act),(∀y,bo c (s.aP y) (a.eval y))->(∃b,a.eval x= .pointer (some b))/\bo c y (a.eval x))->cR E o s ⟨y,[],[]⟩:=fun y hy=>
  gI fun c a w hw g=>by
   obtain⟨⟨b,L⟩,M⟩:=hy c a g
   exact⟨a.eval x,by simp[execOp,C,L],M⟩
 rw[C]at h
 simp only[cF]at h
 split at h
 .rename_i k q A
  split at h
  case isTrue=>exact h.elim
  rename_i G
  cases cY h
  exact key _ fun c a g=>by have:=g x;rw[A]at this;exact⟨⟨_,(vf (by simpa using G) this).2⟩,this⟩
 .rename_i t r q A
  cases cY h
  exact key _ fun c a g=>by have:=g x;rw[A]at this;obtain⟨b,O,B,H⟩:=this;exact⟨⟨_,B⟩,b,O,B,H⟩
 .rename_i n i q A
  simp only[bh.R]at h
  split at h
  .rename_i aa I
   cases cY h
   refine oh fun R β τ F S a w W g=>?_
   have:=g x;rw[A]at this
   obtain⟨X,Y,Q⟩:=pA this
   obtain⟨b,l,cap,Z,J,T⟩:=Q aa I
   exact⟨a.eval x,by simp[execOp,C,T],this⟩
  .exact h.elim
 .rename_i t y A
  obtain⟨r,rfl,h⟩:=h
  cases cY h
  exact key _ fun c a g=>by
   have:=g x;rw[A]at this
   obtain⟨p,B,U⟩:=ye this
   simp only[enc,ou,List.cons.injEq,and_true]at B
   subst B
   obtain⟨b,q,J,H⟩:=U.QG
   exact⟨⟨_,J⟩,b,q,J,H⟩
 .exact h.elim
theorem amz (x:Operand) (i:Nat) (A:o.op= .extract x i) (h:(cF E o.op o.dst s.aP).R s [] [] e aK):cR E o s e:=by
 rw[A]at h
 simp only[cF]at h
 split at h
 .rename_i cs B
  split at h
  .rename_i c C
   cases cY h
   exact gI fun H a w hw g=>by
    have h:=g x
    rw[B]at h
    obtain⟨I,e,F⟩:=h
    obtain⟨v,G,l⟩:=F.get i c C
    exact⟨v,by simp[execOp,A,e,Instr.extract,G],jz l⟩
  .exact h.elim
 .exact h.elim
theorem nv (b q n:Nat):(⟨b,q,none⟩:Addr).add n=⟨b,q+n,none⟩:=tb b q n
theorem amB (b9:eA E) (T:TypeId) (x:Operand) (f:Nat) (cx:o.op= .fieldAddr T x f) (h:(cF E o.op o.dst s.aP).R s [] [] e aK):cR E o s e:=by
 rw[cx]at h
 simp only[cF]at h
 split at h
 case h_2=>exact h.elim
 rename_i ty O
 split at h
 case h_2=>exact h.elim
 rename_i off size Q
 split at h
 case isFalse=>exact h.elim
 rename_i hc
 have dH:=b9.ty T ty O
 obtain⟨fields,hu,cU⟩:=dH.iR (by rintro e;rw[e]at Q;cases Q)
 obtain⟨fd,i,U,W,H,cN⟩:∃(fd:Field) (i:TypeInfo),fields[f]? =some fd/\E.P.info? fd.type=some i/\fd.offset=off/\i.size=size:=by
  have I:∀(l:List Field) (r:List (Nat×Nat)),l.mapM (fun f=>(E.P.info? f.type).map fun i=>(f.offset,i.size))=some r->∀(n:Nat) p,r[n]? =some p->∃(fd:Field) (i:TypeInfo),l[n]? =some fd/\E.P.info? fd.type=some i/\(fd.offset,i.size)=p:=by
   intro l
   induction l with
   |nil=>intro r C n p J;simp at C;subst C;simp at J
   |cons g l lh=>
    intro r C n p J
    simp only[List.mapM_cons,Option.bind_eq_bind,Option.pure_def]at C
    cases hi:E.P.info? g.type with
    |none=>simp[hi]at C
    |some i=>
     cases X:l.mapM (fun f=>(E.P.info? f.type).map fun i=>(f.offset,i.size))with
     |none=>simp[hi,X]at C
     |some iA=>
      simp[hi,X]at C
      subst C
      cases n with
      |zero=>simp at J;exact⟨g,i,rfl,hi,J⟩
      |succ n=>simpa using lh iA X n p (by simpa using J)
  obtain⟨fd,i,U,W,H⟩:=I _ _ cU f _ Q
  simp only[Prod.mk.injEq]at H
  exact⟨fd,i,by simpa using U,W,H.1,H.2⟩
 have run:∀(a:Act) (w:World) b q,a.eval x= .pointer (some ⟨b,q,none⟩)->(execOp a.eval o).run E.P w= .ok (.value (.pointer (some ⟨b,q+off,none⟩))) w:=fun a w b q e=>by
  have Y:(sizeOf fd.type).run E.P w= .ok size w:=by simp[sizeOf,typeInfo,W,cN]
  have Z:¬size=0:=by omega
  simp[execOp,cx,Instr.fieldAt,run_underlying hu,U,e,Instr.sureAddr,fieldPlace,Y,Z,H,nv]
 split at h
 .rename_i k q L
  split at h
  case isTrue=>exact h.elim
  rename_i B
  have B:gq k=false:=by simpa using B
  cases cY h
  exact gI fun c a w hw A=>by
   have h:=A x;rw[L]at h
   obtain⟨g1,g2⟩:=vf B h
   exact⟨_,run a w _ _ g2,g1,(IM B).symm⟩
 .rename_i t y q L
  cases cY h
  exact gI fun c a w hw A=>by
   have h:=A x;rw[L]at h
   obtain⟨b,dc,de,bB⟩:=Dr h
   exact⟨_,run a w _ _ de,b,dc,by rw[mm],bB⟩
 .rename_i n eI q L
  simp only[bh.R]at h
  split at h
  .rename_i aa M
   cases cY h
   refine oh fun R β τ F S a w dG A=>?_
   have h:=A x;rw[L]at h
   obtain⟨g1,g2,g3⟩:=pA h
   obtain⟨b,l,cap,cy,cb,di⟩:=g3 aa M
   refine⟨_,run a w _ _ di,rfl,g2,fun bY G=>?_⟩
   rw[show(s.ctx w S β τ).tok n=aF s.T n from rfl,M]at G
   cases G
   exact⟨b,l,cap,cy,cb,by rw[mm]⟩
  .exact h.elim
 .exact h.elim
theorem mx {c:Ctx} {x:ar} {v:Value} {t:aH} {y:t.D} (g:x.as t=some y) (h:bo c x v):∃p,enc t y=[p]/\bq c.w c.S v p:=by
 cases x with
 |ag l z=>
  simp only[ar.as]at g
  split at g
  .rename_i e;subst e;cases g;exact h
  .cases g
 |own n r xs=>
  simp only[ar.as]at g
  split at g
  .rename_i e;subst e;cases g;exact⟨_,rfl,h.1⟩
  .cases g
 |aQ=>
  cases t with
  |av r=>cases g;rw[show v= .slice none 0 0 from h];exact⟨_,rfl,Cy⟩
  |_=>cases g
 |eK=>
  cases t with
  |opt r=>cases g;rw[show v= .pointer none from h];exact⟨_,rfl,.nil⟩
  |_=>cases g
 |ptr r z q=>
  simp only[ar.as]at g
  split at g
  .rename_i e
   obtain⟨A,B⟩:=e
   subst A;subst B;cases g
   obtain⟨b,l,C,F⟩:=Dr h
   exact⟨_,rfl,by rw[C];exact bq.ak4 F⟩
  .cases g
 |_=>cases g
theorem yI {c:Ctx} {x:ar} {v:Value} {r:aH} {xs:List r.D} (g:x.as (.av r)=some xs) (h:bo c x v):bq c.w c.S v (.av (xs.map (enc r))):=by
 obtain⟨p,e,l⟩:=mx g h
 cases e;exact l
theorem F1 {c:Ctx} {a:Act} {x:Operand} {k:IntKind} {n:Int} (h:s.aP x= .ag (.int k) n) (g:∀y,bo c (s.aP y) (a.eval y)):a.eval x= .int k n:=kT (h▸g x)
theorem yh {x:ar} {f:Int->bh} {az rt:List Nat} (h:(qR x f).R s az rt e aK):∃k n,x= .ag (.int k) n/\(f n).R s az rt e aK:=by
 unfold qR at h
 split at h
 .exact ⟨_,_,rfl,h⟩
 .exact h.elim
structure ih (w:World) (S:bW) (v:Value) (r:aH) (xs:List r.D):Prop where
 ex:∃a cap b o,v= .slice a xs.length cap/\xs.length<=cap/\(xs≠ []->a=some ⟨b,o,none⟩)/\∀(i j:Nat) (x:r.D) (p:b3),xs[i]? =some x->(enc r x)[j]? =some p->∃u,w.cell? ⟨b,o+i*r.w+j,none⟩=some u/\bq w S u p
theorem ih.H6 {w:World} {S:bW} {v:Value} {r:aH} {xs:List r.D} (h:bq w S v (.av (xs.map (enc r)))):ih w S v r xs:=by
 obtain⟨a,cap,b,o,m,B,C,F,hm,G⟩:=h.opened
 refine⟨a,cap,b,o,by simpa using B,by simpa using C,fun l=>F (by simpa using l),fun i j x p H I=>?_⟩
 have g:(xs.map (enc r))[i]? =some (enc r x):=by simp[H]
 have A:m=r.w:=by rw[<-hm i _ g,en]
 obtain⟨_,u,J,L⟩:=G i _ g j p I
 exact⟨u,by rw[<-A];exact J,L⟩
theorem ih.xy {Fr:Nat->Prop} {w:World} {S:bW} {aa:Tok} {v:Value} {F:Nat->Prop} (h:cg Fr w S aa v F) (l:aa.tr=none):ih w S v aa.t aa.xs:=by
 obtain⟨_,h,_⟩:=h
 rcases h with⟨rfl,h⟩|⟨b,cap,B,T,e,Q,C,U,G,hm,H,I,J⟩
 .exact ⟨none,0,0,0,by rw[h];rfl,by rw[h];exact bC _,fun A=>absurd h A,fun i j x p g=>by rw[h]at g;simp at g⟩
 .refine ⟨_,cap,b,0,e,G,fun _=>rfl,fun i j x p g L=>?_⟩
  obtain⟨u,M,O,_⟩:=J i j x p g L
  exact⟨u,by rw[gK,cell_of_row w b _ B T (0,0) C];exact M,O l⟩
theorem Tj {x:Operand} {r:aH} {f:List r.D->bh} {az rt:List Nat} (h:(vh r (s.aP x) f).R s az rt e aK):∃xs A,(f xs).R s az A e aK/\∀R β τ F S (a:Act) w,Mem R (aY s.B) (aF s.T) β τ F S w->(∀y,bo (s.ctx w S β τ) (s.aP y) (a.eval y))->ih w S (a.eval x) r xs:=by
 unfold vh at h
 split at h
 .rename_i n C
  simp only[bh.R]at h
  split at h
  .rename_i aa l
   split at h
   .rename_i G
    obtain⟨G,H⟩:=G
    subst G
    refine⟨_,_,h,fun R β τ F S a w I g=>?_⟩
    have J:=g x;rw[C]at J
    obtain⟨g1,g2,g3⟩:=jX J
    rw[g3 aa l]
    exact ih.xy (I.bG n aa l) H
   .exact h.elim
  .exact h.elim
 .split at h
  .rename_i xs C
   exact⟨xs,rt,h,fun R β τ F S a w I g=>ih.H6 (yI (c:=s.ctx w S β τ) C (g x))⟩
  .exact h.elim
theorem wP {P:Program} {T:TypeId} {d:TypeDesc} (h:P.underlying T=some d) (w:World):(isAgg T).run P w= .ok (TypeDesc.isAgg d) w:=by
 cases d<;>simp[Go.isAgg,run_underlying h,TypeDesc.isAgg]
theorem P4 {P:Program} {T:TypeId} {d:TypeDesc} {i:TypeInfo} (h:P.underlying T=some d) (l:TypeDesc.isAgg d=true) (hi:P.info? T=some i) (w:World) (g:Addr) (cs:List Value) (A:cs.length=i.size) (B:∀j v,cs[j]? =some v->w.cell? (g.add j)=some v):(loadVar T g).run P w= .ok (.agg cs.toArray) w:=by
 simp[loadVar,wP h,l,sizeOf,typeInfo,hi,<-A,run_loadCells_list w g cs B]
theorem HK {P:Program} {T:TypeId} {d:TypeDesc} (h:P.underlying T=some d) (l:TypeDesc.isAgg d=false) (w:World) (g:Addr) (v:Value) (A:w.cell? g=some v):(loadVar T g).run P w= .ok v w:=by
 simp[loadVar,wP h,l,A]
theorem vH {w:World} {b:Nat} {g:List Value} {T:TypeId} (h:w.heap[b]? =some (.cells g.toArray T (0,0))) (j:Nat):w.cell? ⟨b,j,none⟩=g[j]? :=by
 simp[World.cell?,h]
theorem xr {c:Ctx} (T:TypeId) (x:Operand) (F:o.op= .load T x) (ty:bw) (G:bU E.P T ty) (a:Act) (w:World) (b q:Nat) (H:a.eval x= .pointer (some ⟨b,q,none⟩)) (cs:List ar) (g:List Value) (h:bs (ee c) cs g) (I:∀j v,g[j]? =some v->w.cell? ⟨b,q+j,none⟩=some v) (y:ar)
  (hy:(ty.agg=true/\cs.length=ty.size/\y= .agg cs)\/(ty.agg=false/\cs[0]? =some y)):∃v,(execOp a.eval o).run E.P w= .ok (.value v) w/\bo c y v:=by
 obtain⟨d,hu,J⟩:=G.desc
 obtain⟨i,z,hi,l,_⟩:=G.info
 rcases hy with⟨A,B,rfl⟩|⟨A,B⟩
 .refine ⟨.agg g.toArray,?_,g,rfl,h⟩
  simp only[execOp,F,Instr.loadAt,H,Instr.sureAddr,Sem.run_bind,Sem.run_pure,Result.andThen_ok]
  rw[P4 hu (J.trans A) hi w _ g (by rw[<-h.len,B,l]) (fun j v L=>by rw[nv];exact I j v L)]
  rfl
 .obtain ⟨v,M,C⟩:=h.get 0 y B
  refine⟨v,?_,gQ C.1⟩
  simp only[execOp,F,Instr.loadAt,H,Instr.sureAddr,Sem.run_bind,Sem.run_pure,Result.andThen_ok]
  rw[HK hu (J.trans A) w _ v (by simpa using I 0 v M)]
  rfl
theorem IU {c:Ctx} {t:aH} (y:t.D) {b q:Nat} (h:∀j p,(enc t y)[j]? =some p->∃u,c.w.cell? ⟨b,q+j,none⟩=some u/\bq c.w c.S u p):∃l:List Value,bs (ee c) (cellsOf t y) l/\∀j v,l[j]? =some v->c.w.cell? ⟨b,q+j,none⟩=some v:=by
 obtain⟨l,G,H⟩:=D6 (fun j (u:Value)=>∀p,(enc t y)[j]? =some p->c.w.cell? ⟨b,q+j,none⟩=some u/\bq c.w c.S u p) t.w (fun j F=>by
  have g:j<(enc t y).length:=by rw[en];exact F
  obtain⟨u,I,A⟩:=h j (enc t y)[j] (by simp[g])
  exact⟨u,fun p B=>by rw[bH g]at B;cases B;exact⟨I,A⟩⟩)
 refine⟨l,bs.uJ (by rw[k8,G]) (fun j x v J C=>?_),fun j v C=>?_⟩
 .obtain ⟨p,B,L,z,rfl,he⟩:=(k7 t y).get j x J
  obtain⟨I,A⟩:=H j v C p B
  exact⟨⟨p,he,A⟩,A.one⟩
 .have F:j<(enc t y).length:=by rw[en,<-G];exact(dx.1 C).1
  exact(H j v C (enc t y)[j] (by simp[F])).1
theorem HL {c:Ctx} (T:TypeId) (x:Operand) (B:o.op= .load T x) (ty:bw) (C:bU E.P T ty) (a:Act) (w:World) (hw:c.w=w) (b q:Nat) (t:aH) (y:t.D) (off:Nat) (F:a.eval x= .pointer (some ⟨b,q+off,none⟩)) (I:∀j p,(enc t y)[j]? =some p->∃u,w.cell? ⟨b,q+j,none⟩=some u/\bq w c.S u p) {az rt:List Nat}
  (h:(if ty.agg then(if off+ty.size<=(cellsOf t y).length then .val (.agg (((cellsOf t y).drop off).take ty.size))else .fail)else match(cellsOf t y)[off]? with|some c=>.val c|none=>.fail:bh).R s az rt e aK):∃z,e=⟨z,[],[]⟩/\∃v,(execOp a.eval o).run E.P w= .ok (.value v) w/\bo c z v:=by
 subst hw
 obtain⟨A,G,J⟩:=IU (c:=c) y I
 have H:∀j v,(A.drop off)[j]? =some v->c.w.cell? ⟨b,(q+off)+j,none⟩=some v:=fun j v l=>by
  rw[hT]at l
  rw[mm];exact J _ _ l
 split at h
 .rename_i g
  split at h
  .rename_i hle
   cases cY h
   refine⟨_,rfl,xr (c:=c) T x B ty C a c.w b (q+off) F (((cellsOf t y).drop off).take ty.size) ((A.drop off).take ty.size) ((G.drop off).take _) (fun j v l=>?_) _ (.inl ⟨g,by simp;omega,rfl⟩)⟩
   rw[ho]at l
   split at l
   .exact H j v l
   .cases l
  .exact h.elim
 .rename_i g
  split at h
  .rename_i z L
   cases cY h
   exact⟨_,rfl,xr (c:=c) T x B ty C a c.w b (q+off) F ((cellsOf t y).drop off) (A.drop off) (G.drop off) H _ (.inr ⟨by simpa using g,by simpa using L⟩)⟩
  .exact h.elim
theorem amI (b9:eA E) (T:TypeId) (x:Operand) (Y:o.op= .load T x) (I:∀ty n i q aa aS,E.ty T=some ty->s.aP x= .fr n i q->aF s.T n=some (.live aa)->aa.tr=some aS->(BX E o.dst ty n i q aa aS).R s [] [n] e aK->cR E o s e)
  (J:∀(y:ar) (k:Nat),cR E o s ⟨y,[],[]⟩->(Dj y).R s [k] [] e aK->cR E o s e)
  (L:∀ty g,E.ty T=some ty->x= .global g->(zj ty g).R s [] [] e aK->cR E o s e)
  (h:(cF E o.op o.dst s.aP).R s [] [] e aK):cR E o s e:=by
 rw[Y]at h
 simp only[cF]at h
 split at h
 case h_1=>exact h.elim
 rename_i ty M
 have dH:=b9.ty T ty M
 split at h
 .rename_i g cr
  exact L ty g M (by cases x<;>first|(cases cr;rfl)|cases cr) h
 split at h
 .rename_i k q U
  split at h
  case isTrue=>exact h.elim
  rename_i C
  have C:gq k=false:=by simpa using C
  simp only[bh.R]at h
  split at h
  case h_1=>exact h.elim
  rename_i b bx
  have key:∀y,((ty.agg=true/\q+ty.size<=b.cs.length/\y= .agg ((b.cs.drop q).take ty.size))\/(ty.agg=false/\b.cs[q]? =some y))->cR E o s ⟨y,[],[]⟩:=fun y hy=>by
   refine oh fun R β τ F S a w dG B=>?_
   obtain⟨Z,c7,cO,dU⟩:=(dG.boxes k b bx).2.2.2.cells C
   have G:=B x;rw[U]at G
   have W:a.eval x= .pointer (some ⟨β k,q,none⟩):=(vf C G).2
   have X:∀j v,(Z.drop q)[j]? =some v->w.cell? ⟨β k,q+j,none⟩=some v:=fun j v O=>by
    rw[hT]at O
    rw[vH cO];exact O
   rcases hy with⟨g1,g2,rfl⟩|⟨g1,g2⟩
   .refine xr (c:=s.ctx w S β τ) T x Y ty dH a w (β k) q W ((b.cs.drop q).take ty.size) ((Z.drop q).take ty.size) ((dU.drop q).take _) (fun j v O=>?_) _ (.inl ⟨g1,by simp;omega,rfl⟩)
    rw[ho]at O
    split at O
    .exact X j v O
    .cases O
   .exact xr (c:=s.ctx w S β τ) T x Y ty dH a w (β k) q W (b.cs.drop q) (Z.drop q) (dU.drop q) X _ (.inr ⟨g1,by simpa using g2⟩)
  split at h
  .rename_i A
   split at h
   .cases cY h;exact key _ (.inl ⟨A, ‹_›,rfl⟩)
   .exact h.elim
  .rename_i A
   split at h
   .rename_i y hy
    split at h
    .exact J y k (key _ (.inr ⟨by simpa using A,hy⟩)) h
    .cases cY h;exact key _ (.inr ⟨by simpa using A,hy⟩)
   .exact h.elim
 .rename_i t y q U
  obtain⟨z,rfl⟩:∃z,e=⟨z,[],[]⟩:=by
   split at h
   .split at h
    .exact ⟨_,cY h⟩
    .exact h.elim
   .split at h
    .exact ⟨_,cY h⟩
    .exact h.elim
  refine gI fun c a w hw B=>?_
  have G:=B x;rw[U]at G
  obtain⟨b,ob,de,bB⟩:=Dr G
  obtain⟨Tq,H,v,aV,X⟩:=HL (c:=c) T x Y ty dH a w hw b ob t y q de (fun j p W=>by obtain⟨_,u,g1,g2⟩:=bB j p W;rw[hw]at g1 g2;exact⟨u,g1,g2⟩) h
  cases H
  exact⟨v,aV,X⟩
 .rename_i n i q U
  simp only[bh.R]at h
  split at h
  case h_2=>exact h.elim
  rename_i aa Q
  split at h
  case h_2=>exact I ty n i q aa _ M U Q ‹_› h
  rename_i lg
  obtain⟨y,hy,h⟩:=h
  simp only at h
  obtain⟨z,rfl⟩:∃z,e=⟨z,[],[]⟩:=by
   split at h
   .split at h
    .exact ⟨_,cY h⟩
    .exact h.elim
   .split at h
    .exact ⟨_,cY h⟩
    .exact h.elim
  refine oh fun R β τ F S a w dG B=>?_
  have G:=B x;rw[U]at G
  obtain⟨g1,g2,g3⟩:=pA G
  obtain⟨b,l,cap,H,cb,di⟩:=g3 aa Q
  obtain⟨_,bx,_⟩:=dG.bG n aa Q
  rcases bx with⟨aP,_⟩|⟨bt,il,Z,c7,aP,cM,cr,bI,cD,hm,nO,kJ,bB⟩
  .rw [show(s.ctx w S β τ).τ n=τ n from rfl,aP]at H;cases H
  .rw [show(s.ctx w S β τ).τ n=τ n from rfl,aP]at H
   cases H
   obtain⟨Tq,H,v,aV,X⟩:=HL (c:=s.ctx w S β τ) T x Y ty dH a w rfl b (i*aa.t.w) aa.t y q di (fun j p W=>by
    obtain⟨u,cP,cI,_⟩:=bB i j y p hy W
    exact⟨u,by rw[cell_of_row w b _ Z c7 (0,0) cr];exact cP,cI lg⟩) h
   cases H
   exact⟨v,aV,X⟩
 .exact h.elim
end
section
variable {E : Env} {o : Oper} {s : aX} {e : bO} {aK : c6}
theorem Mk {α:Type} {xs:List α} {n:Int} {x:α} (h:idx xs n=some x):0<=n/\xs[n.toNat]? =some x:=by
 unfold idx at h
 split at h
 .exact ⟨‹_›,h⟩
 .cases h
theorem Rv {T h:TypeId} {x i:Operand} (B:o.op= .indexAddr T x i) {m:Nat} {fy:TypeInfo} (hu:E.P.underlying T=some (.slice h)) (l:E.P.info? h=some fy) (A:fy.size=m) {a:Act} {w:World} {b q len cap:Nat} {k:IntKind} {n:Int} (C:a.eval x= .slice (some ⟨b,q,none⟩) len cap) (F:a.eval i= .int k n) (G:0<=n) (H:n<len):
  (execOp a.eval o).run E.P w= .ok (.value (.pointer (some ⟨b,q+n.toNat*m,none⟩))) w:=by
 have g:(sizeOf h).run E.P w= .ok m w:=by simp[sizeOf,typeInfo,l,A]
 simp[execOp,B,Instr.indexAt,run_underlying hu,C,F,asIntOf,G,H,g,nv]
theorem amF (b9:eA E) (T:TypeId) (x i:Operand) (J:o.op= .indexAddr T x i) (h:(cF E o.op o.dst s.aP).R s [] [] e aK):cR E o s e:=by
 rw[J]at h
 simp only[cF]at h
 split at h
 case h_2=>exact h.elim
 rename_i ty L
 have dH:=b9.ty T ty L
 split at h
 case h_2=>exact h.elim
 rename_i de r j8 he
 obtain⟨hu,Z,fy,z,G,H,_⟩:=dH.elem _ _ _ he
 obtain⟨k,n,hi,h⟩:=yh h
 split at h
 .rename_i t bd
  simp only[bh.R]at h
  split at h
  case h_2=>exact h.elim
  rename_i aa C
  obtain⟨⟨M,cD⟩,h⟩:=h
  split at h
  case isFalse=>exact h.elim
  rename_i la
  cases cY h
  refine oh fun R β τ F S a w dG g=>?_
  have aD:=g x;rw[bd]at aD
  obtain⟨g1,g2,g3⟩:=jX aD
  have g3:=g3 aa C
  obtain⟨_,bx,_⟩:=dG.bG t aa C
  rcases bx with⟨aP,O⟩|⟨b,cap,bQ,_,aP,cM,cr,bI,mH,hm,nO,kJ,bB⟩
  .rw [O]at cD;simp at cD;omega
  .rw [show(s.ctx w S β τ).τ t=τ t from rfl,aP]at g3
   refine⟨_,Rv J hu G H g3 (F1 hi g) M (by omega),rfl,g2,fun bY A=>?_⟩
   rw[show(s.ctx w S β τ).tok t=aF s.T t from rfl,C]at A
   cases A
   refine⟨b,_,cap,aP,by omega,?_⟩
   rw[la];simp
 .rename_i Q
  unfold vh at h
  split at h
  .rename_i b4 U;exact absurd U (Q b4)
  .split at h
   case h_2=>exact h.elim
   rename_i xs W
   obtain⟨y,hy,h⟩:=h
   cases cY h
   obtain⟨M,hy⟩:=Mk hy
   refine gI fun c a w hw g=>?_
   have cE:=yI W (g x)
   obtain⟨q1,cap,b,q,m,cO,WR,X,hm,l⟩:=cE.opened
   have I:n.toNat<xs.length:=(dx.1 hy).1
   have B:(xs.map (enc r))[n.toNat]? =some (enc r y):=by simp[hy]
   have Y:=X (by intro e;rw[List.map_eq_nil_iff]at e;rw[e]at I;simp at I)
   have em:m=r.w:=by rw[<-hm _ _ B,en]
   rw[Y,dX]at cO
   refine⟨_,Rv J hu G H cO (F1 hi g) M (by omega),b,q+n.toNat*r.w,rfl,?_⟩
   rw[<-em];exact l _ _ B
theorem amE (F:eA E) (T:TypeId) (x i:Operand) (C:o.op= .index T x i) (h:(cF E o.op o.dst s.aP).R s [] [] e aK):cR E o s e:=by
 rw[C]at h
 simp only[cF]at h
 split at h
 case h_2=>exact h.elim
 rename_i ty A
 have G:=F.ty T ty A
 obtain⟨k,n,hi,h⟩:=yh h
 split at h
 case h_2=>exact h.elim
 rename_i b H
 split at h
 case isFalse=>exact h.elim
 rename_i I
 obtain⟨u,hu,h⟩:=h
 cases cY h
 obtain⟨J,hu⟩:=Mk hu
 refine gI fun c a w hw g=>⟨.int .u8 u.toNat,?_,kM c _ _⟩
 have L:a.eval x= .string (bytes b):=vg (H▸g x)
 have M:a.eval i= .int k n:=F1 hi g
 have B:(bytes b)[n.toNat]? =some u:=by
  have l:n.toNat<b.length:=(dx.1 hu).1
  rw[getElem?_pos (bytes b) n.toNat (by rw[yO];exact l)]
  rw[bH l]at hu
  rw[<-Option.some.inj hu];rfl
 simp[execOp,C,Instr.index,run_underlying (G.str I),L,M,asIntOf,J,B]
theorem fold_push (xs:List Int):xs.foldl (fun r n=>r.push (UInt8.ofNat n.toNat)) ByteArray.empty=bytes (bytesOf xs):=by
 have key:∀(xs:List Int) (s:ByteArray),xs.foldl (fun r n=>r.push (UInt8.ofNat n.toNat)) s=⟨s.data++(bytesOf xs).toArray⟩:=by
  intro xs
  induction xs with
  |nil=>intro s;simp[bytesOf]
  |cons x xs g=>
   intro s
   rw[eR,g]
   congr 1
   simp[bytesOf,ByteArray.push]
 rw[key]
 simp[bytes]
theorem amy (M:eA E) (l T:TypeId) (x:Operand) (O:o.op= .convert l T x) (h:(cF E o.op o.dst s.aP).R s [] [] e aK):cR E o s e:=by
 rw[O]at h
 simp only[cF]at h
 split at h
 case h_2=>exact h.elim
 rename_i H ty da dH
 obtain⟨an2,I,_⟩:=(M.ty l H da).desc
 have A:=M.ty T ty dH
 split at h
 .rename_i k n Q
  split at h
  case h_2=>exact h.elim
  rename_i aJ bx
  cases cY h
  refine gI fun KA a w hw g=>⟨.int aJ (aJ.wrap n),?_,kM KA _ _⟩
  have C:a.eval x= .int k n:=kT (Q▸g x)
  simp[execOp,O,Go.convert,run_underlying I,run_underlying (A.int _ bx),C,Conv.intToInt]
 .rename_i b Q
  split at h
  case isFalse=>exact h.elim
  rename_i W
  cases cY h
  refine gI fun KA a w hw g=>?_
  have C:a.eval x= .string (bytes b):=vg (Q▸g x)
  refine⟨.string (bytes b),?_,by have U:=g x;rw[Q,C]at U;exact U⟩
  simp[execOp,O,Go.convert,run_underlying I,run_underlying (A.str W),C]
 .split at h
  case h_2=>exact h.elim
  rename_i de j8 he
  split at h
  case h_2=>exact h.elim
  rename_i X
  split at h
  case isFalse=>exact h.elim
  rename_i W
  obtain⟨Y,J,hint⟩:=ju.1 X
  have Z:=(M.ty de Y J).int _ hint
  obtain⟨X8,_⟩:=(M.ty l H da).elem _ _ _ he
  obtain⟨xs,IV,h,wg⟩:=Tj h
  cases cY h
  refine oh fun R β τ F S a w dG g=>⟨.string (bytes (bytesOf xs)),?_,HY _ _⟩
  obtain⟨G,cap,b,q,C,WR,L,B⟩:=(wg R β τ F S a w dG g).ex
  have main:(Conv.bytesToString (.slice G xs.length cap)).run E.P w= .ok (.string (bytes (bytesOf xs))) w:=by
   cases G with
   |none=>
    have:xs=[]:=by
     cases xs with
     |nil=>rfl
     |cons y ys=>exact absurd (L (by simp)) (by simp)
    subst this
    rfl
   |some G=>
    rw[run_bytesToString w G xs.length cap xs ?_]
    .exact congrArg (fun z=>Result.ok (Value.string z) w) (fold_push xs)
    .have bK:xs.length=(xs.map (Value.int .u8)).length:=by simp
     rw[bK]
     refine run_loadCells_list w G _ (fun j v bR=>?_)
     rw[ie]at bR
     obtain⟨y,hy,rfl⟩:=hJ.1 bR
     have gS:xs≠ []:=by intro e;rw[e]at hy;simp at hy
     cases L gS
     obtain⟨u,U,aV⟩:=B j 0 y (.int .u8 y) hy rfl
     cases aV
     rw[nv,show q+j=q+j*aH.w (.int .u8)+0 from by simp[aH.w]]
     exact U
  simp only[execOp,O,C,Sem.run_bind,run_convert_bytes_string w l T de G xs.length cap X8 Z (A.str W),main,Result.andThen_ok,Sem.run_pure]
theorem aj8 {c:Ctx} {x:ar} {v:Value} (g:x.leaf=true) (h:bo c x v):gw c x v:=by
 cases x<;>first|exact h|cases g
theorem amK (f:FuncId) (first captured:Array Operand) (B:o.op= .makeFunc (.func f) first captured) (h:(cF E o.op o.dst s.aP).R s [] [] e aK):cR E o s e:=by
 rw[B]at h
 simp only[cF]at h
 split at h
 case h_2=>exact h.elim
 rename_i C
 split at h
 case isFalse=>exact h.elim
 rename_i g
 cases cY h
 refine gI fun I a w hw A=>⟨.func (.func f) #[] (captured.toList.map a.eval).toArray,?_,captured.toList.map a.eval,rfl,?_⟩
 .have F:first= #[]:=by apply Array.ext';simpa using C
  have G:captured.map a.eval=(captured.toList.map a.eval).toArray:=by apply Array.ext';simp
  simp[execOp,B,Instr.makeFunc,F]
  exact G
 .generalize captured.toList=l at g
  induction l with
  |nil=>exact True.intro
  |cons y l H=>
   simp only[cv,List.all_cons,bk]at g
   exact⟨aj8 g.1 (A y),H g.2⟩
theorem cg.len {Fr:Nat->Prop} {w:World} {S:bW} {aa:Tok} {v:Value} {F:Nat->Prop} (h:cg Fr w S aa v F):∃g cap,v= .slice g aa.xs.length cap:=by
 rcases h.2.1 with⟨l,A⟩|⟨b,cap,B,T,e,_⟩
 .exact ⟨none,0,by rw[l,A];rfl⟩
 .exact ⟨_,cap,e⟩
theorem akc {x:Operand} {r:aH} {az rt:List Nat} (h:(HD r (s.aP x)).R s az rt e aK):∃n:Nat,e=⟨.ag (.int .i64) (n:Int),[],[]⟩/\∀R β τ F S (a:Act) w,Mem R (aY s.B) (aF s.T) β τ F S w->(∀y,bo (s.ctx w S β τ) (s.aP y) (a.eval y))->∃A cap,a.eval x= .slice A n cap:=by
 unfold HD at h
 split at h
 .rename_i n I
  simp only[bh.R]at h
  split at h
  .rename_i aa l
   split at h
   .rename_i M
    refine⟨aa.xs.length,cY h,fun R β τ F S a w C g=>?_⟩
    have H:=g x;rw[I]at H
    obtain⟨g1,g2,g3⟩:=jX H
    rw[g3 aa l]
    exact(C.bG n aa l).len
   .exact h.elim
  .exact h.elim
 .obtain ⟨xs,J,h,G⟩:=Tj h
  refine⟨xs.length,cY h,fun R β τ F S a w C g=>?_⟩
  obtain⟨A,cap,b,q,L,_⟩:=(G R β τ F S a w C g).ex
  exact⟨A,cap,L⟩
theorem amG (L:eA E) (c:Call) (A:o.op= .call c) (B:c.callee= .builtin .len) (h:(cF E o.op o.dst s.aP).R s [] [] e aK):cR E o s e:=by
 rw[A]at h
 simp only[cF,B]at h
 split at h
 case h_2=>exact h.elim
 rename_i x T M I
 split at h
 case h_2=>exact h.elim
 rename_i ty C
 have l:=L.ty T ty C
 have J:c.args= #[x]:=by apply Array.ext';simpa using M
 split at h
 .rename_i b O
  split at h
  case isFalse=>exact h.elim
  rename_i Q
  cases cY h
  refine gI fun U a w hw g=>⟨.int .i64 b.length,?_,kM U _ _⟩
  have G:a.eval x= .string (bytes b):=vg (O▸g x)
  simp[execOp,A,resolve,B,invoke,builtin,Builtin.len_,I,J,run_underlying (l.str Q),G,goInt,yO]
 .split at h
  case h_2=>exact h.elim
  rename_i X r j8 he
  obtain⟨hu,_⟩:=l.elem _ _ _ he
  obtain⟨n,rfl,H⟩:=akc h
  refine oh fun R β τ F S a w W g=>⟨.int .i64 n,?_,kM _ _ _⟩
  obtain⟨Y,cap,G⟩:=H R β τ F S a w W g
  simp[execOp,A,resolve,B,invoke,builtin,Builtin.len_,I,J,run_underlying hu,G,goInt]
theorem RR (c:Call) (H:o.op= .call c) (G:Bool) (F:c.callee= .builtin (if G then .max else .min)) (h:(cF E o.op o.dst s.aP).R s [] [] e aK):cR E o s e:=by
 rw[H]at h
 have key:∀x y k l p q,c.args.toList=[x,y]->s.aP x= .ag (.int k) p->s.aP y= .ag (.int l) q->cR E o s ⟨.ag (.int k) (if G then(if q>p then q else p)else(if q<p then q else p)),[],[]⟩:=fun x y k l p q A B C=>
  gI fun I a w hw g=>by
   have J:c.args= #[x,y]:=by apply Array.ext';simpa using A
   have v1:a.eval x= .int k p:=kT (B▸g x)
   have v2:a.eval y= .int l q:=kT (C▸g y)
   refine⟨_,?_,kM I _ _⟩
   cases G<;>simp at F<;>simp[execOp,H,resolve,F,invoke,builtin,Builtin.min_,Builtin.max_,Builtin.min2,Builtin.max2,J,v1,v2]
 cases G with
 |false=>
  simp only[cF,show c.callee= .builtin .min from F]at h
  split at h
  case h_3=>exact h.elim
  .rename_i x y A
   split at h
   case h_2=>exact h.elim
   rename_i k p B
   split at h
   case h_2=>exact h.elim
   rename_i l q C
   cases cY h
   exact key x y k l p q A B C
  .rename_i x y z A
   split at h
   case h_2=>exact h.elim
   rename_i k p B
   split at h
   case h_2=>exact h.elim
   rename_i l q C
   split at h
   case h_2=>exact h.elim
   rename_i L r M
   cases cY h
   refine gI fun I a w hw g=>?_
   have J:c.args= #[x,y,z]:=by apply Array.ext';simpa using A
   have v1:a.eval x= .int k p:=kT (B▸g x)
   have v2:a.eval y= .int l q:=kT (C▸g y)
   have v3:a.eval z= .int L r:=kT (M▸g z)
   refine⟨_,?_,kM I _ _⟩
   simp at F
   simp[execOp,H,resolve,F,invoke,builtin,Builtin.min_,Builtin.min2,J,v1,v2,v3]
 |true=>
  simp only[cF,show c.callee= .builtin .max from F]at h
  split at h
  case h_2=>exact h.elim
  rename_i x y A
  split at h
  case h_2=>exact h.elim
  rename_i k p B
  split at h
  case h_2=>exact h.elim
  rename_i l q C
  cases cY h
  exact key x y k l p q A B C
def vr (a:Act) (d:Int) (x:Option Operand) (n:Int):Prop:=(x=none/\n=d)\/ ∃y k,x=some y/\a.eval y= .int k n
theorem uN {d:Int} {x:Option Operand} {f:Int->bh} {az rt:List Nat} (h:(se d (x.map s.aP) f).R s az rt e aK):∃n,(f n).R s az rt e aK/\∀c (a:Act),(∀y,bo c (s.aP y) (a.eval y))->vr a d x n:=by
 cases x with
 |none=>exact⟨d,h,fun c a g=>.inl ⟨rfl,rfl⟩⟩
 |some y=>
  obtain⟨k,n,hy,h⟩:=yh (show(qR (s.aP y) f).R s az rt e aK from h)
  exact⟨n,h,fun c a g=>.inr ⟨y,k,rfl,kT (hy▸g y)⟩⟩
theorem Ru {P:Program} (w:World) (a:Act) (isSlice:Bool) (len cap:Nat) (lo hi:Option Operand) (l h:Int) (A:vr a 0 lo l) (B:vr a len hi h) (F:0<=l) (I:l<=h) (J:h<=(len:Int)) (L:len<=cap):
  (Instr.sliceBounds isSlice len cap (lo.map a.eval) (hi.map a.eval) none).run P w= .ok (l.toNat,h.toNat,cap) w:=by
 have G:h<=(cap:Int):=by omega
 have e:((h.toNat:Nat):Int)=h:=by omega
 have H:∀code,(match(hi.map a.eval)with|some v=>Instr.sliceBound v cap code|none=>pure len:Sem Nat).run P w= .ok h.toNat w:=fun code=>by
  rcases B with⟨rfl,rfl⟩|⟨y,k,rfl,hy⟩
  .simp
  .simp [hy,run_sliceBound (P:=P) w k h cap code (by omega) G]
 have g:∀code,(match(lo.map a.eval)with|some v=>Instr.sliceBound v h.toNat code|none=>pure 0:Sem Nat).run P w= .ok l.toNat w:=fun code=>by
  rcases A with⟨rfl,rfl⟩|⟨y,k,rfl,hy⟩
  .simp
  .simp [hy,run_sliceBound (P:=P) w k l h.toNat code F (by omega)]
 unfold Instr.sliceBounds
 simp only[Sem.run_bind,Sem.run_pure,Result.andThen_ok,Option.isSome_none,nk,if_false]
 rcases B with⟨rfl,rfl⟩|⟨y,k,rfl,hy⟩
 .have:=g .sliceB
  simp only[Option.map_none,Sem.run_pure,Result.andThen_ok,er]at this⊢
  rcases A with⟨rfl,rfl⟩|⟨y,k,rfl,hy⟩<;>simp_all
 .have C:=H (if isSlice then .sliceAcap else .sliceAlen)
  have:=g .sliceB
  simp only[ou]at C
  simp only[ou,C,Result.andThen_ok]
  rcases A with⟨rfl,rfl⟩|⟨y,k,rfl,hy⟩<;>simp_all
theorem yY {α:Type} {xs ys:List α} {l h:Int} (g:cut xs l h=some ys):0<=l/\l<=h/\h<=xs.length/\ys=(xs.take h.toNat).drop l.toNat:=by
 unfold cut at g
 split at g
 .rename_i A;cases g;exact⟨A.1,A.2.1,A.2.2,rfl⟩
 .cases g
def hN (a:Option Addr) (cap l m:Nat):Option Addr:=if cap=l then a else a.map (·.add (l*m))
theorem Cz (T:TypeId) (x:Operand) (lo hi:Option Operand) (C:o.op= .slice T x lo hi none) (A:TypeId) (i:TypeInfo) (F:E.P.underlying T=some (.slice A)) (g:E.P.info? A=some i) (a:Act) (w:World) (B:Option Addr) (len cap:Nat) (G:a.eval x= .slice B len cap) (l h:Int)
  (H:vr a 0 lo l) (I:vr a len hi h) (J:0<=l) (L:l<=h) (M:h<=(len:Int)) (O:len<=cap):(execOp a.eval o).run E.P w= .ok (.value (.slice (hN B cap l.toNat i.size) (h.toNat-l.toNat) (cap-l.toNat))) w:=by
 have Q:=Ru (P:=E.P) w a true len cap lo hi l h H I J L M O
 simp only[execOp,C,Instr.sliceAt,Sem.run_bind,run_underlying F,Result.andThen_ok,Instr.slice,G,Option.map_none,Q,sizeOf,typeInfo,run_program,g,Sem.run_pure,hN]
theorem Kz {w:World} {S:bW} {G:Option Addr} {cap:Nat} {r:aH} {xs ys:List r.D} (J:bq w S (.slice G xs.length cap) (.av (xs.map (enc r)))) (l h:Int) (L:cut xs l h=some ys):bq w S (.slice (hN G cap l.toNat r.w) (h.toNat-l.toNat) (cap-l.toNat)) (.av (ys.map (enc r))):=by
 obtain⟨T,U,H,rfl⟩:=yY L
 obtain⟨a,il,b,q,M,I,B,O,C,A⟩:=J.opened
 rw[dX]at I
 cases I
 have hlen:(((xs.take h.toNat).drop l.toNat).map (enc r)).length=h.toNat-l.toNat:=by simp;omega
 rw[<-hlen]
 rw[dX]at B
 have g:∀ {i:Nat} {row:List b3},(((xs.take h.toNat).drop l.toNat).map (enc r))[i]? =some row->(xs.map (enc r))[l.toNat+i]? =some row/\l.toNat+i<h.toNat:=fun {i row} hi=>by
  rw[ie,hT,ho]at hi
  split at hi
  .rw [ie];exact⟨hi, ‹_›⟩
  .simp at hi
 refine bq.mk (b:=b) (o:=q+l.toNat*r.w) (m:=r.w) (by rw[hlen];omega) (fun F=>?_) (fun i row hi=>?_) (fun i row hi=>?_)
 .have Q:l.toNat<h.toNat:=by
   rw[<-List.length_pos_iff,hlen]at F;omega
  have:=O (by intro e;rw[List.map_eq_nil_iff]at e;rw[e]at H;simp at H;omega)
  rw[this]
  unfold hN
  rw[aA (by omega)]
  simp[nv]
 .obtain ⟨g1,_⟩:=g hi
  obtain⟨y,_,rfl⟩:=cd.1 (fc g1)
  rw[en]
 .obtain ⟨g1,_⟩:=g hi
  have em:M=r.w:=by
   rw[<-C _ _ g1]
   obtain⟨y,_,rfl⟩:=cd.1 (fc g1)
   rw[en]
  have:=A _ _ g1
  rw[em]at this
  rw[show q+l.toNat*r.w+i*r.w=q+(l.toNat+i)*r.w from by rw[ey];omega]
  exact this
end
def gh (m n:Nat) (u:Nat->Nat->Value):List Value:=(List.range (n*m)).map fun t=>u (t/m) (t%m)
theorem sC (m n:Nat) (u:Nat->Nat->Value):(gh m n u).length=n*m:=by simp[gh]
theorem Dd (m n:Nat) (u:Nat->Nat->Value) (i j:Nat) (hi:i<n) (g:j<m):(gh m n u)[i*m+j]? =some (u i j):=by
 have h:i*m+j<n*m:=by
  have:(i+1)*m<=n*m:=eh _ hi
  rw[ey]at this;omega
 have l:(i*m+j)/m=i:=by rw[k0,Nat.mul_add_div (by omega),Nat.div_eq_of_lt g];omega
 have A:(i*m+j)%m=j:=by rw[k0,Nat.mul_add_mod,Nat.mod_eq_of_lt g]
 simp[gh,h,l,A]
theorem Se (m n:Nat) (hm:0<m) (u:Nat->Nat->Value) (t:Nat) (v:Value) (h:(gh m n u)[t]? =some v):t/m<n/\t%m<m/\v=u (t/m) (t%m)/\t=t/m*m+t%m:=by
 have B:t<n*m:=by have:=(dx.1 h).1;rwa[sC]at this
 have g:t/m<n:=(vm hm).2 B
 have l:t%m<m:=mn _ hm
 have A:t=t/m*m+t%m:=by rw[k0];exact(Nat.div_add_mod t m).symm
 refine⟨g,l,?_,A⟩
 have:=Dd m n u _ _ g l
 rw[<-A,h]at this
 exact Option.some.inj this
structure DL (w:World) (S:bW) (b o:Nat) (r:aH) (xs:List r.D) (u:Nat->Nat->Value):Prop where
 cell:∀i j,i<xs.length->j<r.w->w.cell? ⟨b,o+i*r.w+j,none⟩=some (u i j)
 rep:∀(i j:Nat) (x:r.D) (p:b3),xs[i]? =some x->(enc r x)[j]? =some p->bq w S (u i j) p
theorem ih.gh {w:World} {S:bW} {v:Value} {r:aH} {xs:List r.D} (h:ih w S v r xs):∃a cap b o u,v= .slice a xs.length cap/\xs.length<=cap/\(xs≠ []->a=some ⟨b,o,none⟩)/\DL w S b o r xs u:=by
 obtain⟨a,cap,b,o,B,C,F,A⟩:=h.ex
 refine⟨a,cap,b,o,fun i j=>(w.cell? ⟨b,o+i*r.w+j,none⟩).getD undef,B,C,F,fun i j hi G=>?_,fun i j x p H I=>?_⟩
 .have g:j<(enc r xs[i]).length:=by rw[en];exact G
  obtain⟨u,l,_⟩:=A i j xs[i] (enc r xs[i])[j] (by simp[hi]) (by simp[g])
  simp[l]
 .obtain ⟨u,l,J⟩:=A i j x p H I
  simpa[l]using J
theorem DL.one {w:World} {S:bW} {b o:Nat} {r:aH} {xs:List r.D} {u:Nat->Nat->Value} (h:DL w S b o r xs u) (hm:0<r.w):∀v,v∈gh r.w xs.length u->v.oneCell'=true:=by
 intro v g
 obtain⟨t,l,g⟩:=fe.1 g
 obtain⟨A,B,rfl,_⟩:=Se r.w xs.length hm u t v (by rw[bH l,g])
 have C:t%r.w<(enc r xs[t/r.w]).length:=by rw[en];exact B
 exact(h.rep (t/r.w) (t%r.w) xs[t/r.w] ((enc r xs[t/r.w])[t%r.w]) (bH A) (by simp[C])).one
structure sX (w w':World) (e:TypeId) (m n k:Nat) (cells:List Value) (v fi:Value) (bt il:Nat) (kp:Array Value):Prop where
 val:fi= .slice (some ⟨bt,0,none⟩) (n+k) il
 heap:w'.heap[bt]? =some (.cells kp e (0,0))
 size:kp.size=il*m
 fits:n+k<=il
 Ki:il<=maxLen
 take:kp.toList.take ((n+k)*m)=cells
 os:w'.os=w.os
 tape:w'.tape=w.tape
 output:w'.output=w.output
 grow:w.heap.size<=w'.heap.size
 same:∀i,i<w.heap.size->i≠bt->w'.heap[i]? =w.heap[i]?
 place:bt=w.heap.size\/ ∃c,v= .slice (some ⟨bt,0,none⟩) n c
theorem Rt {P:Program} (w:World) (t ty e:TypeId) (i:TypeInfo) (h:P.underlying t=some (.slice e)) (hi:P.info? e=some i) (a g:Option Addr) (n c c':Nat) (l:n<=c):
  (Builtin.append_ #[t,t] ty #[.slice a n c,.slice g 0 c']).run P w= .ok (.slice a n c) w:=by
 have A:(Builtin.firstCells i.size 0 (.slice g 0 c')).run P w= .ok #[] w:=by
  cases g<;>simp[Builtin.firstCells,loadCells,loadCellsFrom]
 cases a<;>simp[Builtin.append_,run_underlying h,sizeOf,typeInfo,hi,Builtin.lenOf,l,A,storeCells]
theorem Rs {P:Program} {w:World} (t ty e T:TypeId) (i:TypeInfo) (C:P.underlying t=some (.slice e)) (hi:P.info? e=some i) (g n cap:Nat) (cur:Array Value) (F:w.heap[g]? =some (.cells cur T (0,0)))
  (a:Addr) (k c:Nat) (news:List Value) (G:news.length=k*i.size) (h:∀j u,news[j]? =some u->w.cell? (a.add j)=some u) (H:∀u∈news,u.oneCell'=true) (l:n+k<=cap) (A:n*i.size+news.length<=cur.size):
  (Builtin.append_ #[t,t] ty #[.slice (some ⟨g,0,none⟩) n cap,.slice (some a) k c]).run P w=
   .ok (.slice (some ⟨g,0,none⟩) (n+k) cap) (w.setRow g (cur.toList.take (n*i.size)++news++cur.toList.drop (n*i.size+news.length)).toArray):=by
 have I:=run_firstCells_some (P:=P) w i.size k a k c news G h
 have B:=run_storeCells_at P g (n*i.size) T news 0 cur w F (by simpa using A) H
 simp only[lH]at B
 simp[Builtin.append_,run_underlying C,sizeOf,typeInfo,hi,Builtin.lenOf,l,I,Addr.add_lit,B]
theorem al6 {P:Program} (w:World) (t ty e:TypeId) (i:TypeInfo) (z:Value) (m bytes:Nat) (M:P.underlying t=some (.slice e)) (hi:P.info? e=some i) (bI:i.zero=some z)
  (F:i.size=m) (O:i.bytes=bytes) (Q:z.cells.size=m) (v:Value) (n:Nat) (xs:List Value)
  (cO:(v= .slice none 0 0/\n=0)\/ ∃b cap U T,v= .slice (some ⟨b,0,none⟩) n cap/\w.heap[b]? =some (.cells U T (0,0))/\U.size=cap*m/\n<=cap/\cap<=maxLen/\U.toList.take (n*m)=xs) (C:xs.length=n*m)
  (a:Addr) (k c:Nat) (news:List Value) (bx:0<k) (G:news.length=k*m) (h:∀j u,news[j]? =some u->w.cell? (a.add j)=some u) (aD:∀u∈news,u.oneCell'=true)
  (tx:n+k<=9223372036854775807) (A:(n+k)*bytes<=140737488355328):
  ∃fi w' de bt il kp,(Builtin.append_ #[t,t] ty #[v,.slice (some a) k c]).run P w= .ok fi w'/\sX w w' de m n k (xs++news) v fi bt il kp:=by
 subst F
 subst O
 have W:n+k<=maxLen:=by simp only[maxLen];omega
 have hlen:(xs++news).length=(n+k)*i.size:=by rw[a1,C,G,ey]
 have grown:∀cq,cq<n+k->sX w (w.drew.alloc (.cells (xs.toArray++news.toArray++Builtin.zeroCells z.cells (grownCap w (n+k) cq e-(n+k))) e)) e i.size n k (xs++news) v
   (.slice (some ⟨w.heap.size,0,none⟩) (n+k) (grownCap w (n+k) cq e)) w.heap.size (grownCap w (n+k) cq e) (xs.toArray++news.toArray++Builtin.zeroCells z.cells (grownCap w (n+k) cq e-(n+k))):=fun cq cx=>by
  have X:=grownCap_ge w (n+k) cq e
  refine⟨rfl,heap_alloc_new w.drew _,?_,X,grownCap_le_maxLen w (n+k) cq e W,?_,rfl,rfl,rfl,by simp,fun i hi _=>heap_alloc_old w.drew _ hi,.inl rfl⟩
  .simp only [Array.size_append,List.size_toArray,size_zeroCells,Q,C,G,<-ey]
   congr 1;omega
  .simp only [Array.toList_append,dJ]
   rw[<-dJ,<-hlen]
   exact List.take_left
 rcases cO with⟨rfl,rfl⟩|⟨g,cap,cur,T,rfl,Y,Z,mH,Fg,B⟩
 .have bd:xs=[]:=yk (by simpa using C)
  subst bd
  have H:=run_append_nil (P:=P) w t ty e i z M hi bI a k c news G h bx (by omega) (by have au:=A;simp only[gK]at au;omega)
  have J:=grown 0 (by omega)
  simp only[gK,fj,Array.empty_append]at J H⊢
  exact⟨_,_,_,_,_,_,H,J⟩
 .by_cases l:n+k<=cap
  .have L:n*i.size+news.length<=cur.size:=by rw[G,Z,<-ey];exact eh _ l
   have H:=Rs (P:=P) (w:=w) t ty e T i M hi g n cap cur Y a k c news G h aD l L
   refine⟨_,_,T,g,cap,_,H,rfl,setRow_heap w g cur _ T _ Y,?_,l,Fg,?_,rfl,rfl,rfl,by simp[World.setRow],fun j _ I=>setRow_other w g j _ I,.inr ⟨cap,rfl⟩⟩
   .simp only [List.size_toArray,a1,bX,eY,kY]
    omega
   .rw [B,<-hlen]
    exact List.take_left
  .have holds:∀j u,xs[j]? =some u->w.cell? ((⟨g,0,none⟩:Addr).add j)=some u:=fun j u I=>by
    rw[tb,gK,cell_of_row w g j cur T (0,0) Y]
    rw[<-B,ho]at I
    split at I
    .simpa using I
    .cases I
   have H:=run_append_grow (P:=P) w t ty e i z M hi bI ⟨g,0,none⟩ n cap xs C holds a k c news G h (by omega) (by omega) (growslice_fits (by omega) A)
   exact⟨_,_,_,_,_,_,H,grown cap (by omega)⟩
theorem sX.cell {w w':World} {e:TypeId} {m n k:Nat} {l A:Nat->Nat->Value} {v fi:Value} {bt il:Nat} {kp:Array Value} (h:sX w w' e m n k (gh m n l++gh m k A) v fi bt il kp) (i j:Nat) (hi:i<n+k) (C:j<m):
  w'.cell? ⟨bt,i*m+j,none⟩=some (if i<n then l i j else A (i-n) j):=by
 have B:i*m+j<(n+k)*m:=by
  have:(i+1)*m<=(n+k)*m:=eh _ hi
  rw[ey]at this;omega
 have F:(gh m n l++gh m k A)[i*m+j]? =some (if i<n then l i j else A (i-n) j):=by
  by_cases g:i<n
  .rw [ai g,hV (by
    rw[sC]
    have:(i+1)*m<=n*m:=eh _ g
    rw[ey]at this;omega)]
   exact Dd m n l i j g C
  .rw [aA g,iE (by
    rw[sC]
    have:n*m<=i*m:=eh _ (by omega)
    omega),sC]
   rw[show i*m+j-n*m=(i-n)*m+j from by
    have:n*m<=i*m:=eh _ (by omega)
    rw[Nat.sub_mul];omega]
   exact Dd m k A _ j (by omega) C
 rw[cell_of_row w' bt _ kp e (0,0) h.heap,<-jY]
 rw[<-h.take,ho,ai B]at F
 exact F
def u3 (wr:Bool) (S:bW) (bt r:Nat):bW:=fun b o=>S b o\/(wr=false/\b=bt/\o<r)
theorem sX.step {w w':World} {S:bW} {e:TypeId} {m n k:Nat} {C H:Nat->Nat->Value} {v fi:Value} {bt il:Nat} {kp:Array Value} (wr:Bool) (h:sX w w' e m n k (gh m n C++gh m k H) v fi bt il kp) (hm:0<m)
  (A:∀b o,S b o->b<w.heap.size) (I:∀o,S bt o->bt<w.heap.size->o<n*m) (hold:bt<w.heap.size->∀i j,i<n->j<m->w.cell? ⟨bt,i*m+j,none⟩=some (C i j)):
  Step (fun x=>x=bt/\x<w.heap.size) S (u3 wr S bt ((n+k)*m)) w w':=by
 have B:bt<w'.heap.size:=qv h.heap
 refine⟨⟨h.os,h.tape,h.output,h.grow,fun i hi J=>h.same i hi (fun e=>J ⟨e,hi⟩)⟩,fun b o g=>?_,fun b o g=>.inl g,fun b o g=>?_,fun b o g=>?_⟩
 .by_cases e:b=bt
  .subst e
   have l:=A b o g
   have L:=I o g l
   have F:o/m<n:=(vm hm).2 L
   have G:o%m<m:=mn _ hm
   have M:o=o/m*m+o%m:=by rw[k0];exact(Nat.div_add_mod o m).symm
   rw[M,h.cell (o/m) (o%m) (by omega) G,ai F,hold l _ _ F G]
  .exact World.cell?_of_block (w:=w) (h.same b (A b o g) e)
 .rcases g with g|⟨_,rfl,g⟩
  .exact .inl g
  .by_cases l:b<w.heap.size
   .exact .inr (.inr ⟨rfl,l⟩)
   .exact .inr (.inl (by omega))
 .rcases g with g|⟨_,rfl,g⟩
  .exact kZ (A b o g) h.grow
  .exact B
theorem th {r:aH} (x:r.D) {j:Nat} (h:j<r.w):∃c,(cellsOf r x)[j]? =some c:=⟨_,bH (by rw[k8];exact h)⟩
theorem lR {r:aH} {x:r.D} {j:Nat} {c:ar} (h:(cellsOf r x)[j]? =some c):j<r.w:=by have:=(dx.1 h).1;rwa[k8]at this
theorem Deep.QD {w:World} {F:Nat->Prop} {v:Value} {r:aH} {xs:List r.D} (h:Deep w F v (.ag (.av r) xs)):
  xs=[]\/ ∃(b cap:Nat) (u:Nat->Nat->Value) (q:Nat->Nat->Nat->Prop),v= .slice (some ⟨b,0,none⟩) xs.length cap/\F b/\(∀i j,i<xs.length->j<r.w->w.cell? ⟨b,i*r.w+j,none⟩=some (u i j))/\
   (∀i j k,q i j k->F k/\k≠b)/\(∀i j l A k,q i j k->q l A k->i=l/\j=A)/\∀(i j:Nat) (x:r.D) (c:ar),xs[i]? =some x->(cellsOf r x)[j]? =some c->Deep w (q i j) (u i j) c:=by
 cases h with
 |lit _ _ _ _ p he B O=>cases he;cases B
 |nil _ _=>exact .inl rfl
 |av _ cap _ _ u b q C T G H Q U W hu I J L=>
  refine .inr ⟨b,cap,u,q,rfl,G,fun i j hi M=>?_,I,J,L⟩
  obtain⟨c,g⟩:=th xs[i] M
  rw[cell_of_row w b _ C T (0,0) H]
  exact hu i j xs[i] c (bH hi) g
theorem og {w:World} {S:bW} {v:Value} {p:b3} (h:bq w S v p) (g:p.isLit=true):v=fq p:=by
 cases h<;>first|rfl|cases g
theorem jI :∀(t:aH) (x:t.D),t.cj=true->∀p,p∈enc t x->p.isLit=true
 | .bool,x,_,p,g=>by simp[enc]at g;subst g;rfl
 | .int _,x,_,p,g=>by simp[enc]at g;subst g;rfl
 | .str,x,_,p,g=>by simp[enc]at g;subst g;rfl
 | .unit,_,_,p,g=>by simp[enc]at g
 | .pair a b,x,h,p,g=>by
  simp only[aH.cj,bk]at h
  rcases cp.1 g with g|g
  .exact jI a x.1 h.1 p g
  .exact jI b x.2 h.2 p g
 | .av _,_,h,_,_=>by cases h
 | .opt _,_,h,_,_=>by cases h
 | .q,_,h,_,_=>by cases h
theorem Deep.leaf {w:World} {S:bW} {F:Nat->Prop} {r:aH} {x:r.D} (A:r.cj=true) {j:Nat} {c:ar} (B:(cellsOf r x)[j]? =some c) {u:Value} (hu:∀p,(enc r x)[j]? =some p->bq w S u p):Deep w F u c:=by
 have g:=k7 r x
 obtain⟨p,h,t,y,rfl,he⟩:=g.get j c B
 have l:=jI r x A p (fc h)
 exact .lit F u t y p he l (og (hu p h) l)
theorem alZ {r:aH} (xs:List r.D):∀row,row∈xs.map (enc r)->row.length=r.w:=fun row g=>by obtain⟨x,_,rfl⟩:=cd.1 g;exact en r x
theorem cg.plain {Fr:Nat->Prop} {w:World} {S:bW} {aa:Tok} {v:Value} {F:Nat->Prop} (h:cg Fr w S aa v F) (hw:aa.wr=false):aa.tr=none:=by
 have:=h.2.2
 unfold hq at this
 split at this
 .assumption
 .rw [this.1]at hw;cases hw
theorem cg.nC {Fr:Nat->Prop} {w:World} {S:bW} {aa:Tok} {v:Value} {F:Nat->Prop} (h:cg Fr w S aa v F) (g:aa.tr=none) (l:aa.deep=true):Deep w F v (.ag (.av aa.t) aa.xs):=by
 have:=h.2.2
 unfold hq at this
 rw[g]at this
 exact this l
theorem cg.rep {Fr:Nat->Prop} {w:World} {S:bW} {aa:Tok} {v:Value} {F:Nat->Prop} (h:cg Fr w S aa v F) (hw:aa.wr=false):bq w S v (.av (aa.xs.map (enc aa.t))):=by
 have g:=h.plain hw
 obtain⟨_,h,_⟩:=h
 rcases h with⟨rfl,h⟩|⟨b,cap,l,T,e,Q,A,U,B,hm,C,G,H⟩
 .rw [h];exact Cy
 .rw [e,show aa.xs.length=(aa.xs.map (enc aa.t)).length from by simp]
  refine bq.mk (b:=b) (o:=0) (m:=aa.t.w) (by simpa using B) (fun _=>rfl) (fun i row hi=>alZ aa.xs row (fc hi)) (fun i row hi j c I=>?_)
  rw[ie]at hi
  obtain⟨x,J,rfl⟩:=hJ.1 hi
  obtain⟨u,L,M,O⟩:=H i j x c J I
  exact⟨by rw[gK];exact O hw,u,by rw[gK,cell_of_row w b _ l T (0,0) A];exact L,M g⟩
theorem J1 {P:Program} {R:ed} {w:World} {S:bW} {box:Nat->Option cf} {tok:Nat->Option bb} {β:Nat->Nat} {τ:Nat->Value} {F:Nat->Nat->Prop} (dG:Mem R box tok β τ F S w)
  (T ty e:TypeId) (i:TypeInfo) (z:Value) (r:aH) (bytes:Nat) (ax:P.underlying T=some (.slice e)) (hi:P.info? e=some i) (bI:i.zero=some z) (qh:i.size=r.w) (mF:i.bytes=bytes) (jg:z.cells.size=r.w) (hm:0<r.w)
  (v bQ:Value) (xs ys:List r.D) (wr J5 RE:Bool) (k1 kx:Nat->Prop)
  (au:cg R.dm w S ⟨r,xs,e,wr,J5,none⟩ v k1) (aS:ih w S bQ r ys)
  (FG:RE=true->r.cj=true\/(Deep w kx bQ (.ag (.av r) ys)/\∀b,kx b->¬k1 b)) (tK:∀b,kx b->R.dm b/\b<w.heap.size)
  (WL:∀t aa b,tok t=some (.live aa)->k1 b->¬F t b) (Fc:∀k b,box k=some b->¬k1 (β k))
  (WN:(xs.length+ys.length)*bytes<=140737488355328) (tx:xs.length+ys.length<=9223372036854775807):
  ∃fi w' S',(Builtin.append_ #[T,T] ty #[v,bQ]).run P w= .ok fi w'/\Mem R box tok β τ F S' w'/\(∀live tok' HJ vo vp,Ctx.nt ⟨w,S,live,β,tok',τ⟩ ⟨w',S',HJ,vo,tok',vp⟩)/\
   cg R.dm w' S' ⟨r,xs++ys,e,wr,J5&&RE,none⟩ fi (fun b=>(k1 b\/kx b\/w.heap.size<=b)/\b<w'.heap.size):=by
 have WG:=au
 obtain⟨Q,zx,Fb⟩:=au
 simp only at zx Fb
 obtain⟨a2,oJ,ba,n2,oo,rfl,_,WB,wa⟩:=aS.gh
 obtain⟨oF,Us,ej,pa,sE,aP,LC,zw,v8⟩:=(ih.xy WG rfl).gh
 simp only at aP LC zw v8
 by_cases gS:ys=[]
 ·
  subst gS
  refine⟨_,w,S,by rw[aP];exact Rt w T ty e i ax hi oF a2 xs.length Us oJ LC,dG,fun _ _ _ _ _=>⟨fun _ _ h=>h,fun _ _ _=>rfl⟩,fun b h=>⟨?_,h.2⟩,?_,fun bc=>?_⟩
  .rcases h.1 with l|l|l
   .exact (Q b l).1
   .exact (tK b l).1
   .exact .inl (dK dG.size l)
  .rw [<-aP]
   rcases zx with h|⟨b,cap,us,c7,X,cM,q⟩
   .exact .inl (by simpa using h)
   .exact .inr ⟨b,cap,us,c7,by simpa using X,⟨.inl cM,(Q b cM).2⟩,by simpa using q⟩
  .rw [<-aP]
   simp only[bk]at bc
   have:=(Fb bc.1).mono (G:=fun b=>(k1 b\/kx b\/w.heap.size<=b)/\b<w.heap.size) (fun b h=>⟨.inl h,(Q b h).2⟩)
   simpa using this
 .have Vl:=WB gS
  subst Vl
  have A:0<ys.length:=List.length_pos_iff.2 gS
  have LM:∀b cap us c7,v= .slice (some ⟨b,0,none⟩) xs.length cap->w.heap[b]? =some (.cells us c7 (0,0))->us.size=cap*r.w->xs.length<=cap->us.toList.take (xs.length*r.w)=gh r.w xs.length sE/\(xs≠ []->ej=b/\pa=0):=fun b cap us c7 X cr bI cD=>by
   have lY:xs≠ []->ej=b/\pa=0:=fun M=>by
    have:=zw M
    rw[aP]at X
    cases X
    rw[ic,Addr.mk.injEq]at this
    exact⟨this.1.symm,this.2.1.symm⟩
   refine⟨sS (fun t=>?_),lY⟩
   by_cases hP:t<xs.length*r.w
   .have l:t/r.w<xs.length:=(vm hm).2 hP
    have aV:t%r.w<r.w:=mn _ hm
    have bD:t=t/r.w*r.w+t%r.w:=by rw[k0];exact(Nat.div_add_mod t r.w).symm
    rw[ho,ai hP]
    have cN:=Dd r.w xs.length sE _ _ l aV
    rw[<-bD]at cN
    rw[cN]
    obtain⟨au,O⟩:=lY (by intro M;rw[M]at l;simp at l)
    have dO:=v8.cell _ _ l aV
    rw[au,O,gK,<-bD,cell_of_row w b t us c7 (0,0) cr,<-jY]at dO
    exact dO
   .rw [kr (by simp;omega),kr (by rw[sC];omega)]
  have cO:(v= .slice none 0 0/\xs.length=0)\/ ∃b cap bQ c7,v= .slice (some ⟨b,0,none⟩) xs.length cap/\w.heap[b]? =some (.cells bQ c7 (0,0))/\bQ.size=cap*r.w/\xs.length<=cap/\cap<=maxLen/\bQ.toList.take (xs.length*r.w)=gh r.w xs.length sE:=by
   rcases zx with⟨l,aV⟩|⟨b,cap,us,c7,X,cM,cr,bI,cD,L2,nO⟩
   .exact .inl ⟨l,by rw[aV];rfl⟩
   .exact .inr ⟨b,cap,us,c7,X,cr,bI,cD,L2,(LM b cap us c7 X cr bI cD).1⟩
  have XC:∀j u,(gh r.w ys.length oo)[j]? =some u->w.cell? ((⟨ba,n2,none⟩:Addr).add j)=some u:=fun j u bR=>by
   obtain⟨l,aV,rfl,bD⟩:=Se r.w ys.length hm oo j u bR
   rw[tb]
   have:=wa.cell _ _ l aV
   rw[mm,<-bD]at this
   exact this
  obtain⟨fi,w',de,bt,il,kp,iL,I⟩:=al6 (P:=P) w T ty e i z r.w bytes ax hi bI qh mF jg v xs.length (gh r.w xs.length sE) cO (sC _ _ _) ⟨ba,n2,none⟩ ys.length oJ (gh r.w ys.length oo) A (sC _ _ _) XC (wa.one hm) tx WN
  have g:(bt=w.heap.size)\/(bt<w.heap.size/\k1 bt/\(∀o,S bt o->wr=false/\o<xs.length*r.w)/\(xs≠ []->ej=bt/\pa=0)):=by
   rcases I.place with h|⟨c,h⟩
   .exact .inl h
   .right
    rcases zx with⟨l,_⟩|⟨b,cap,us,c7,X,cM,cr,bI,cD,L2,nO,kJ,_⟩
    .rw [l]at h;cases h
    .rw [X]at h
     cases h
     refine⟨(Q _ cM).2,cM,fun o O=>?_,(LM _ _ us c7 X cr bI cD).2⟩
     cases wr with
     |false=>exact⟨rfl,nO rfl o O⟩
     |true=>exact absurd O (kJ rfl o)
  have WE:R.dm bt:=by
   rcases g with h|h
   .rw [h];exact .inl dG.size
   .exact (Q _ h.2.1).1
  have Ly:bt<w'.heap.size:=qv I.heap
  have B:=I.step (S:=S) wr hm dG.lt (fun o O gf=>by
    rcases g with h|h
    .omega
    .exact (h.2.2.1 o O).2) (fun gf i j hi bR=>by
    rcases g with h|h
    .omega
    .have J:xs≠ []:=by intro M;rw[M]at hi;simp at hi
     have:=v8.cell i j hi bR
     rw[(h.2.2.2 J).1,(h.2.2.2 J).2,gK]at this
     exact this)
  have LD:∀(i j:Nat) (x:r.D) (p:b3),(xs++ys)[i]? =some x->(enc r x)[j]? =some p->∃u,kp[i*r.w+j]? =some u/\bq w' (u3 wr S bt ((xs.length+ys.length)*r.w)) u p/\u=(if i<xs.length then sE i j else oo (i-xs.length) j)/\i*r.w+j<(xs.length+ys.length)*r.w:=fun i j x p L cU=>by
   have tG:i<xs.length+ys.length:=by have:=(dx.1 L).1;simpa using this
   have zI:j<r.w:=by have:=(dx.1 cU).1;rwa[en]at this
   have C:=I.cell i j tG zI
   rw[cell_of_row w' bt _ kp de (0,0) I.heap]at C
   refine⟨_,C,?_,rfl,?_⟩
   .by_cases Y:i<xs.length
    .rw [ai Y]
     rw[hV Y]at L
     exact(v8.rep i j x p L cU).mono B.cq B.cell
    .rw [aA Y]
     rw[iE (by omega)]at L
     exact(wa.rep _ j x p L cU).mono B.cq B.cell
   .have:(i+1)*r.w<=(xs.length+ys.length)*r.w:=eh _ tG
    rw[ey]at this;omega
  refine⟨fi,w',u3 wr S bt ((xs.length+ys.length)*r.w),iL,dG.step B (fun k A=>A.1▸WE) (fun k b A L=>?_) (fun t aa hP k cM L=>?_),fun live tok' HJ vo vp=>⟨B.cq,B.cell⟩,fun b h=>⟨?_,h.2⟩,.inr ⟨bt,il,kp,de,?_,⟨?_,Ly⟩,I.heap,I.size,?_,I.Ki,fun hw o O=>?_,fun hw o O=>?_,fun i j x p L cU=>?_⟩,fun bc=>?_⟩
  .rcases g with h|h
   .have:=L.2;omega
   .exact Fc k b A (L.1▸h.2.1)
  .rcases g with h|h
   .have:=L.2;omega
   .exact WL t aa k hP (L.1▸h.2.1) cM
  .rcases h.1 with l|l|l
   .exact (Q b l).1
   .exact (tK b l).1
   .exact .inl (dK dG.size l)
  .rw [I.val];simp
  .rcases g with h|h
   .exact .inr (.inr (by omega))
   .exact .inl h.2.1
  .simpa using I.fits
  .simp only [a1]
   rcases O with O|⟨_,_,O⟩
   .rcases g with h|h
    .have:=dG.lt _ _ O;omega
    .have l:=(h.2.2.1 o O).2
     have:xs.length*r.w<=(xs.length+ys.length)*r.w:=eh _ (by omega)
     omega
   .exact O
  .simp only at hw
   rcases O with O|⟨h,_,_⟩
   .rcases g with h|h
    .have:=dG.lt _ _ O;omega
    .have:=(h.2.2.1 o O).1;rw[hw]at this;cases this
   .rw [hw]at h;cases h
  .obtain ⟨u,l,aV,_,cN⟩:=LD i j x p L cU
   exact⟨u,l,fun _=>aV,fun hw=>.inr ⟨hw,rfl,cN⟩⟩
  ·
   simp only[bk]at bc
   obtain⟨Fk,oR⟩:=bc
   have jJ:=Fb Fk
   have jJ:Deep w k1 v (.ag (.av r) xs):=jJ
   obtain⟨mX,U,XJ,XI⟩:∃q:Nat->Nat->Nat->Prop,(∀i j k,q i j k->k1 k/\k<w.heap.size/\k≠bt)/\(∀i j eI cZ k,q i j k->q eI cZ k->i=eI/\j=cZ)/\
     ∀(i j:Nat) (x:r.D) (c:ar),xs[i]? =some x->(cellsOf r x)[j]? =some c->Deep w (q i j) (sE i j) c:=by
    rcases jJ.QD with he|⟨b,cap,u,q,X,hd,C,H,FC,FB⟩
    .exact ⟨fun _ _ _=>False,fun _ _ _ h=>h.elim,fun _ _ _ _ _ h=>h.elim,fun i j x c M _=>by rw[he]at M;simp at M⟩
    .refine ⟨q,fun i j k A=>⟨(H i j k A).1,(Q _ (H i j k A).1).2,fun tq=>?_⟩,FC,fun i j x c M bB=>?_⟩
     .rcases g with h|h
      .have:=(Q _ (H i j k A).1).2;omega
      .have J:b=bt:=by
        by_cases M:xs=[]
        .rcases I.place with kF|⟨c',kF⟩
         .omega
         .rw [X]at kF;cases kF;rfl
        .have:=zw M
         rw[X]at aP
         cases aP
         rw[ic,Addr.mk.injEq]at this
         rw[this.1];exact(h.2.2.2 M).1
       exact(H i j k A).2 (by rw[J];exact tq)
     .have Z:i<xs.length:=(dx.1 M).1
      have l1:j<r.w:=lR bB
      have l:=C i j Z l1
      have aV:=v8.cell i j Z l1
      have J:xs≠ []:=by intro h;rw[h]at Z;simp at Z
      have:=zw J
      rw[X]at aP
      cases aP
      rw[ic,Addr.mk.injEq]at this
      rw[<-this.1,<-this.2.1,gK]at aV
      rw[aV]at l
      rw[Option.some.inj l]
      exact FB i j x c M bB
   obtain⟨pk,W,XL,XK⟩:∃q:Nat->Nat->Nat->Prop,(∀i j k,q i j k->kx k/\¬k1 k/\k<w.heap.size/\k≠bt)/\(∀i j eI cZ k,q i j k->q eI cZ k->i=eI/\j=cZ)/\
     ∀(i j:Nat) (x:r.D) (c:ar),ys[i]? =some x->(cellsOf r x)[j]? =some c->Deep w (q i j) (oo i j) c:=by
    rcases FG oR with oR|⟨oR,zE⟩
    .exact ⟨fun _ _ _=>False,fun _ _ _ h=>h.elim,fun _ _ _ _ _ h=>h.elim,fun i j x c M bB=>.leaf (S:=S) oR bB (fun p cU=>wa.rep i j x p M cU)⟩
    .rcases oR.QD with he|⟨b,cap,u,q,X,hd,C,H,FC,FB⟩
     .exact absurd he gS
     .cases X
      refine⟨q,fun i j k A=>⟨(H i j k A).1,zE _ (H i j k A).1,(tK _ (H i j k A).1).2,fun tq=>?_⟩,FC,fun i j x c M bB=>?_⟩
      .rcases g with h|h
       .have:=(tK _ (H i j k A).1).2;omega
       .exact zE _ (H i j k A).1 (tq▸h.2.1)
      .have Z:i<ys.length:=(dx.1 M).1
       have l1:j<r.w:=lR bB
       have l:=C i j Z l1
       have aV:=wa.cell i j Z l1
       rw[gK]at aV
       rw[aV]at l
       rw[Option.some.inj l]
       exact FB i j x c M bB
   rw[I.val,show xs.length+ys.length=(xs++ys).length from by simp]
   refine .av _ il r (xs++ys) (fun i j=>if i<xs.length then sE i j else oo (i-xs.length) j) bt (fun i j k=>if i<xs.length then mX i j k else pk (i-xs.length) j k) kp de ⟨?_,Ly⟩ I.heap I.size (by simpa using I.fits) I.Ki
    (fun i j x c L bB=>?_) (fun i j k A=>?_) (fun i j eI cZ k A kf=>?_) (fun i j x c L bB=>?_)
   .rcases g with h|h
    .exact .inr (.inr (by omega))
    .exact .inl h.2.1
   .obtain ⟨p,cU⟩:∃p,(enc r x)[j]? =some p:=⟨_,bH (by rw[en];exact lR bB)⟩
    obtain⟨u,l,_,bD,_⟩:=LD i j x p L cU
    rw[l,bD]
   .split at A
    .have:=U i j k A;exact⟨⟨.inl this.1,kZ this.2.1 I.grow⟩,this.2.2⟩
    .have:=W _ j k A;exact⟨⟨.inr (.inl this.1),kZ this.2.2.1 I.grow⟩,this.2.2.2⟩
   .split at A<;>split at kf
    .exact XJ i j eI cZ k A kf
    .exact absurd (U i j k A).1 (W _ cZ k kf).2.1
    .exact absurd (U eI cZ k kf).1 (W _ j k A).2.1
    .have:=XL _ j _ cZ k A kf;exact⟨by omega,this.2⟩
   .by_cases Y:i<xs.length
    .simp only [Y,if_true]
     rw[hV Y]at L
     exact(XI i j x c L bB).same (fun k A=>I.same k (U i j k A).2.1 (U i j k A).2.2)
    .simp only [Y,if_false]
     rw[iE (by omega)]at L
     exact(XK _ j x c L bB).same (fun k A=>I.same k (W _ j k A).2.2.1 (W _ j k A).2.2.2)
section
variable {E : Env} {o : Oper} {s : aX} {e : bO} {aK : c6}
theorem sz {α:Type} (l m:List α) (off:Nat) (h:off+m.length<=l.length) (k:Nat):(l.take off++m++l.drop (off+m.length))[k]? =if off<=k/\k<off+m.length then m[k-off]? else l[k]? :=by
 by_cases g:k<off
 .rw [aA (by omega),dJ,hV (by simp;omega),ho,ai g]
 .by_cases A:k<off+m.length
  .rw [ai ⟨by omega,A⟩,hV (by simp;omega),iE (by simp;omega)]
   simp;congr 1;omega
  .rw [aA (by omega),iE (by simp;omega),hT]
   simp;congr 1;omega
theorem VS (off:Nat) (l:List Value) (cs:Array Value) (h:off+l.length<=cs.size):
  ((l.zipIdx 0).foldl (fun cs (x:Value×Nat)=>cs.setIfInBounds (off+x.2) x.1) cs).toList=cs.toList.take off++l++cs.toList.drop (off+l.length):=by
 obtain⟨B,A⟩:=Go.Great.foldl_set off l 0 cs
 apply sS
 intro k
 rw[sz _ _ _ (by simpa using h)]
 have:=A k
 rw[<-jY]at this
 rw[this]
 by_cases g:off<=k/\k<off+l.length
 .rw [ai ⟨by omega,by omega,by omega⟩,ai g];rfl
 .rw [aA g,aA (by omega)];simp
theorem bs.R1 {α β:Type} {P:α->β->Prop} {xs:List α} {ys:List β} (h:bs P xs ys) {zs:List α} {us:List β} (g:bs P zs us) (off:Nat):bs P (xs.take off++zs++xs.drop (off+zs.length)) (ys.take off++us++ys.drop (off+us.length)):=by
 rw[g.len]
 exact((h.take off).append g).append (h.drop _)
theorem KZ {c:Ctx} {a:Act} (l:∀y,bo c (s.aP y) (a.eval y)) (iR:List (Nat×Nat)):∀(parts:List (Nat×Operand)) (cells:List ar) (g:Array Value) (cs:List ar),bs (ee c) cells g.toList->vT iR cells (parts.map fun q=>(q.1,s.aP q.2))=some cs->
  ∃B,Instr.fill (iR.toArray[·]?) g (parts.map fun q=>(q.1,a.eval q.2))=some B/\bs (ee c) cs B.toList
 | [],cells,g,cs,C,h=>by simp[vT]at h;subst h;exact⟨g,by simp[Instr.fill],C⟩
 |(i,x)::rest,cells,g,cs,C,h=>by
  simp only[cv,vT]at h
  cases F:iR[i]? with
  |none=>simp[F]at h
  |some os=>
   obtain⟨off,size⟩:=os
   cases G:(s.aP x).cells? with
   |none=>simp[F,G]at h
   |some ds=>
    simp only[F,G]at h
    split at h
    case isFalse=>cases h
    case isTrue H=>
    obtain⟨hlen,hle⟩:=H
    have Q:=ti G (l x)
    have I:=Q.len
    have J:=C.len
    have U:(a.eval x).cells.size=size:=by rw[<-hlen,I];simp
    have A:off+(a.eval x).cells.toList.length<=g.size:=by simp at J⊢;omega
    have L:=VS off (a.eval x).cells.toList g A
    obtain⟨B,T,M⟩:=KZ l iR rest _ ((a.eval x).cells.zipIdx.foldl (fun cs (x:Value×Nat)=>cs.setIfInBounds (off+x.2) x.1) g) cs (by
     rw[<-Array.foldl_toList,Array.toList_zipIdx,L,<-hlen]
     exact C.R1 Q off) h
    refine⟨B,?_,M⟩
    simp only[cv,Instr.fill]
    have O:iR.toArray[i]? =some (off,size):=by simpa using F
    rw[O]
    simp only[]
    rw[aA (by simp at A⊢;omega)]
    exact T
theorem amt (J:eA E) (T:TypeId) (parts:Array (Nat×Operand)) (H:o.op= .build T parts) (h:(cF E o.op o.dst s.aP).R s [] [] e aK):cR E o s e:=by
 rw[H]at h
 simp only[cF]at h
 split at h
 case h_2=>exact h.elim
 rename_i ty A
 have I:=J.ty T ty A
 split at h
 case h_2=>exact h.elim
 rename_i Y ol cs g L
 cases cY h
 refine gI fun c a w hw B=>?_
 obtain⟨i,z,hi,M,O,Q,C⟩:=I.info
 obtain⟨fields,hu,U⟩:=I.iR (by rw[g];simp)
 obtain⟨l,F,G⟩:=KZ B ty.iR parts.toList ty.zero z.cells cs (C c) L
 have W:E.P.built T (parts.map fun q=>(q.1,a.eval q.2)).toList=some l:=by
  simp only[Program.built,hi,hu,O,U,Array.toList_map]
  exact F
 refine⟨.agg l,?_,l.toList,by simp,G⟩
 have X:=run_build (P:=E.P) w T (parts.map fun q=>(q.1,a.eval q.2)) l W
 simp only[execOp,H,Sem.run_bind]
 rw[X];rfl
theorem l7 {c c':Ctx} (h:c.nt c') (g:fY c c') (l:ha c c') {a:Act} (A:∀i,bo c (dT s.L i) (a.tmps.getD i undef)):∀i,bo c' (dT s.L i) (a.tmps.getD i undef):=fun i=>(A i).mono h g l
theorem RB {w w':World} {S S':bW} {tok:Nat->Option bb} {β:Nat->Nat} {τ:Nat->Value} (B:Below w.heap.size w w') (C:∀b o,S b o->b<w.heap.size) (F:∀b o,S b o->S' b o) (live:Nat->Prop) (tok':Nat->Option bb) (g:Nat->Prop) (l:Nat->Nat) (A:Nat->Value):
  Ctx.nt ⟨w,S,live,β,tok,τ⟩ ⟨w',S',g,l,tok',A⟩:=⟨F,fun b o h=>(q4 B).1 b o (C b o h)⟩
theorem RT (d:Nat) (g:gq d=false) (J:o.dst=some d) (L:aY s.B d=none) (l:E.res d=false) (cs:List ar) (T:TypeId)
  (h:∀c (a:Act) w,c.w=w->(∀y,bo c (s.aP y) (a.eval y))->∃A:List Value,(execOp a.eval o).run E.P w= .ok (.value (.pointer (some ⟨w.heap.size,0,none⟩))) (w.alloc (.cells A.toArray T))/\bs (ee c) cs A):cR E o s ⟨.box d 0,[(d,⟨false,cs⟩)],[]⟩:=by
 rintro R a w C ⟨β,τ,F,S,M,W,G,O⟩ K Q X
 obtain⟨A,Y,Z⟩:=h (s.ctx w S β τ) a w rfl (hL O)
 have H:=M.akL d g L (C.ny l) T A cs Z
 have au:Below w.heap.size w (w.alloc (.cells A.toArray T)):=(Below.refl _ _).alloc (bC _) _
 refine jt Y (X _ _ (jT (e:=⟨.box d 0,[(d,⟨false,cs⟩)],[]⟩) H W G (l7 (RB au M.lt (fun _ _ h=>h) _ _ _ _ _) (fun k U=>?_) (ha.refl rfl rfl) O) o.dst (.inr ⟨?_,by simp[IM g]⟩)))
 .have I:k≠d:=fun e=>U (e▸L)
  show updB (aY s.B) d _ k≠none/\(if k=d then _ else β k)=β k
  simp only[updB,I,if_false]
  exact⟨U,trivial⟩
 .show updB (aY s.B) d _ d≠none
  simp[updB]
theorem amo (F:eA E) (T:TypeId) (C:o.op= .alloc T) (h:(cF E o.op o.dst s.aP).R s [] [] e aK):cR E o s e:=by
 rw[C]at h
 simp only[cF]at h
 split at h
 case h_2=>exact h.elim
 rename_i d ty l A
 simp only[bh.R]at h
 split at h
 case h_2=>exact h.elim
 rename_i G
 split at h
 case isTrue=>exact h.elim
 rename_i g
 obtain⟨rfl,_⟩:=h
 simp only[lB,not_or,Bool.not_eq_true]at g
 exact RT d g.2 l G g.1 ty.zero T fun c a w hw H=>by
  obtain⟨i,z,hi,I,J,L,B⟩:=(F.ty T ty A).info
  refine⟨z.cells.toList,?_,B c⟩
  simp[execOp,C,Instr.alloc,zeroValue,typeInfo,hi,J,newVar,newRow]
theorem ams (T:TypeId) (x:Operand) (A:o.op= .box T x) (h:(cF E o.op o.dst s.aP).R s [] [] e aK):cR E o s e:=by
 rw[A]at h
 simp only[cF]at h
 split at h
 case h_2=>exact h.elim
 rename_i d ty cs g C F
 simp only[bh.R]at h
 split at h
 case h_2=>exact h.elim
 rename_i G
 split at h
 case isFalse=>exact h.elim
 rename_i B
 obtain⟨rfl,_⟩:=h
 exact RT d B.2.2 g G B.2.1 cs T fun c a w hw l=>by
  refine⟨(a.eval x).cells.toList,?_,ti F (l x)⟩
  simp[execOp,A,Instr.box,newVar,newRow]
theorem amO (b9:eA E) (T:TypeId) (x y:Operand) (cx:o.op= .store T x y) (ty:bw) (J:E.ty T=some ty) (k q:Nat) (g:gq k=false) (bd:s.aP x= .box k q) (cs ys:List ar) (Z:aY s.B k=some ⟨false,cs⟩) (hy:(s.aP y).cells? =some ys) (cD:ys.length=ty.size) (dr:q+ty.size<=cs.length) (l:o.dst=none):
  cR E o s ⟨.bM [],[(k,⟨false,cs.take q++ys++cs.drop (q+ty.size)⟩)],[]⟩:=by
 rintro R a w e3 ⟨β,τ,F,S,dG,L,M,aS⟩ K Q dP
 have A:=hL aS
 have h:=A x
 rw[bd]at h
 have cU:a.eval x= .pointer (some ⟨β k,q,none⟩):=(vf g h).2
 have O:=ti hy (A y)
 obtain⟨aD,aV,_,h2⟩:=dG.boxes k _ Z
 obtain⟨C,c7,bD,U⟩:=h2.cells g
 obtain⟨i,z,hi,G,_⟩:=(b9.ty T ty J).info
 have bK:=O.len
 have W:=U.len
 simp only at U W
 have X:bs (ee (s.ctx w S β τ)) (cs.take q++ys++cs.drop (q+ty.size)) (C.take q++(a.eval y).cells.toList++C.drop (q+(a.eval y).cells.toList.length)):=by
  rw[<-cD];exact U.R1 O q
 obtain⟨Y,hle⟩:=dG.amj k g cs _ Z _ X
 have H:∀v∈(a.eval y).cells.toList,v.oneCell'=true:=fun v cO=>by
  obtain⟨j,bR,rfl⟩:=fe.1 cO
  exact(O.get' j (ys[j]'(by omega)) _ (by simp) (by simp)).2
 have I:=run_storeCells_at E.P (β k) q c7 (a.eval y).cells.toList 0 C.toArray w bD (by simp at bK⊢;omega) H
 have cE:(execOp a.eval o).run E.P w= .ok .skip (w.setRow (β k) (C.take q++(a.eval y).cells.toList++C.drop (q+(a.eval y).cells.toList.length)).toArray):=by
  have bI:(a.eval y).cells.size=i.size:=by rw[G,<-cD,bK];simp
  simp only[lH]at I
  simp only[execOp,cx,Instr.storeAt,cU,Instr.sureAddr,storeVar,sizeOf,typeInfo,hi,Sem.run_bind,Sem.run_pure,Result.andThen_ok,run_program]
  simp[hi,bI,I]
 refine Jx cE (dP _ _ (jT (e:=⟨.bM [],[(k,⟨false,cs.take q++ys++cs.drop (q+ty.size)⟩)],[]⟩) Y L M (l7 hle (fun j bR=>⟨?_,rfl⟩) (ha.refl rfl rfl) aS) o.dst (.inl l)))
 show updB (aY s.B) k _ j≠none
 simp only[updB]
 split
 .simp
 .exact bR
def eO (tok:Nat->Option bb) (l:List Nat):Nat->Option bb:=fun t=>if t∈l then some .eg else tok t
theorem iV {tok:Nat->Option bb} {l:List Nat} {t:Nat} {aa:Tok} (h:eO tok l t=some (.live aa)):t∉l/\tok t=some (.live aa):=by
 unfold eO at h
 split at h
 .cases h
 .exact ⟨‹_›,h⟩
theorem oi {tok:Nat->Option bb} {l:List Nat} {t:Nat} (h:tok t≠none):eO tok l t≠none:=by
 unfold eO;split
 .simp
 .exact h
theorem C5 :∀(l:List Nat) (tok:Nat->Option bb),(l.map fun t=>(t,some bb.eg)).foldl (fun f x=>updT f x.1 x.2) tok=eO tok l
 | [],tok=>by funext t;simp[eO]
 |t::l,tok=>by
  simp only[cv,eR,C5 l]
  funext j
  simp only[eO,updT,bm]
  by_cases g:j∈l<;>by_cases h:j=t<;>simp_all
def mT (d:Nat) (aa:Tok):ar:=if aa.wr then .aw d else .own d aa.t aa.xs
theorem cg.cell {Fr:Nat->Prop} {w:World} {S:bW} {aa:Tok} {v:Value} {F:Nat->Prop} (h:cg Fr w S aa v F):v.oneCell'=true:=by
 rcases h.2.1 with⟨rfl,_⟩|⟨_,_,_,_,rfl,_⟩<;>rfl
theorem ak5 {c:Ctx} {Fr:Nat->Prop} {d:Nat} {aa:Tok} {v:Value} {G:Nat->Prop} (h:cg Fr c.w c.S aa v G) (l:c.tok d=some (.live aa)) (g:c.τ d=v):bo c (mT d aa) v:=by
 unfold mT
 cases hw:aa.wr with
 |true=>exact⟨h.cell,by rw[l];simp,fun A _=>g.symm⟩
 |false=>
  refine⟨h.rep hw,by rw[l];simp,fun A B=>?_⟩
  rw[l]at B
  cases B
  exact⟨hw,g.symm,rfl⟩
theorem qK {R:ed} {w w':World} {S S':bW} {a:Act} {β:Nat->Nat} {τ:Nat->Value} {F:Nat->Nat->Prop} (l:List Nat) (dG:Mem R (aY s.B) (eO (aF s.T) l) β τ F S' w') (cD:a.tmps.size=s.L.length) (H:a.defers=[]) (aS:∀i,bo (s.ctx w S β τ) (dT s.L i) (a.tmps.getD i undef))
  (hle:∀live tok' A I J,Ctx.nt ⟨w,S,live,β,tok',τ⟩ ⟨w',S',A,I,tok',J⟩) (d:Nat) (bc:aF s.T d=none) (M:R.gi d=none) (aa:Tok) (fi:Value) (G:Nat->Prop) (bx:cg R.dm w' S' aa fi G) (O:aa.whole=true) (p9:∀t g b,t∉l->aF s.T t=some (.live g)->G b->¬F t b) (Q:∀k b,aY s.B k=some b->¬G (β k)) (dst:Option Nat)
  (U:d∉l) (es:List (Nat×Option bb)) (W:es=l.map fun t=>(t,some bb.eg)):Rel R (s.app dst ⟨mT d aa,[],es++ [(d,some (.live aa))]⟩) (a.put dst fi) w':=by
 subst W
 have X:eO (aF s.T) l d=none:=by unfold eO;rw[aA U];exact bc
 have Y:=dG.mR d X M aa fi G bx O (fun t g b C cr=>p9 t g b (iV C).1 (iV C).2 cr) Q
 have hu:(⟨mT d aa,[],(l.map fun t=>(t,some bb.eg))++ [(d,some (.live aa))]⟩:bO).updT (aF s.T)=updT (eO (aF s.T) l) d (some (.live aa)):=by
  simp only[bO.updT,hU,C5,eR,List.foldl_nil]
 have aD:=hle (fun _=>True) (aF s.T) (fun _=>True) β τ
 have Z:∀i,bo ⟨w',S',fun k=>aY s.B k≠none,β,updT (eO (aF s.T) l) d (some (.live aa)),fun t=>if t=d then fi else τ t⟩ (dT s.L i) (a.tmps.getD i undef):=
  l7 (c:=s.ctx w S β τ) (c':=⟨w',S',fun k=>aY s.B k≠none,β,updT (eO (aF s.T) l) d (some (.live aa)),fun t=>if t=d then fi else τ t⟩) ⟨aD.S,aD.w⟩ (fY.refl rfl rfl) (fun t C=>by
   have e:t≠d:=fun e=>C (e▸bc)
   simp only[updT,e,if_false]
   exact⟨oi C,fun g h=>⟨g,(iV h).2,rfl,rfl,fun hw=>⟨hw,rfl⟩⟩⟩) aS
 exact jT (e:=⟨mT d aa,[],(l.map fun t=>(t,some bb.eg))++ [(d,some (.live aa))]⟩) (by rw[hu];exact Y) cD H (by rw[hu];exact Z) dst (.inr (ak5 (Fr:=R.dm) (G:=G) bx (by simp only[hu,updT,if_true]) (by simp)))
theorem B5 {d:Nat} {r:aH} {xs:List r.D} {g:TypeId} {deep:Bool} {es:List (Nat×Option bb)} {az rt:List Nat} (h:(mR E d r xs g deep es).R s az rt e aK):
  aF s.T d=none/\(∀y,y∈es->y.1≠d)/\E.res d=false/\e=⟨mT d ⟨r,xs,g,E.wr d,deep,none⟩,[],es++ [(d,some (.live ⟨r,xs,g,E.wr d,deep,none⟩))]⟩:=by
 unfold mR at h
 simp only[bh.R]at h
 split at h
 .exact h.elim
 .rename_i A
  split at h
  .exact h.elim
  .rename_i l
   simp only[lB,not_or,Bool.not_eq_true]at l
   refine⟨A,fun y hy e=>?_,l.2,?_⟩
   .have:=List.any_eq_false.1 l.1 y hy
    simp[e]at this
   .unfold mT
    split at h
    .rename_i hw;simp only[hw,if_true];exact h.1
    .rename_i hw;simp only[Bool.not_eq_true]at hw;rw[hw];exact h.1
end
end Go.Proofs.YtnkagklajgimlaaGreatDoor
