
import Derived.Test.YtnkagklajgimlaaGreatDoorKP
import Derived.Great.BuildSlice
import Derived.IntWalk
set_option linter.unusedSimpArgs false
set_option linter.unusedVariables false
namespace Go.Proofs.YtnkagklajgimlaaGreatDoor
open Go.RowKit
def TypeDesc.isAgg :TypeDesc->Bool
 | .struct _| .array _ _=>true
 |_=>false
def Dc (P:Program) (K:TypeId):aJ->Prop
 | .int k=>P.underlying K=some (.int k)
 | .str=>P.underlying K=some .string
 |_=>False
def V5 (P:Program) (t K V:TypeId) (dZ dG:aJ):Prop:=
 P.underlying t=some (.map K V)/\Dc P K dZ/\∃i z,P.info? V=some i/\E7 dG=some z/\i.zero=some (iu dG z)
def kH (agg:Bool) (t:aJ) (x:t.D):Value:=bif agg then .agg ((enc t x).map fw).toArray else iu t x
def V0 (P:Program) (t K V:TypeId) (dZ dG:aJ) (agg:Bool):Prop:=
 P.underlying t=some (.map K V)/\Dc P K dZ/\dG.ct=true/\(agg=false->dG.w=1)/\∃i z,P.info? V=some i/\E6 dG=some z/\i.zero=some (kH agg dG z)
def n5 (W:World) (X:Nat->Prop) (S:b0) (g:Nat):tZ->Prop
 | .row t x=>kr W S g 0 (enc t x)
 | .map dZ dG agg es=>S g 0/\∃b fo l h,W.cell? ⟨g,0,none⟩=some (.map (some b))/\W.heap[b]? =some (.map fo l)/\(fo.toList.map (fun e=>(e.key,e.val))=h.map (fun x=>(iu dZ x.1,kH agg dG x.2))/\h.Perm es/\∀k,ea dZ dG h k=ea dZ dG es k)/\¬X b
 | .gv k zs=>(∃a b,W.heap[g]? =some (.cells (zs.map fun z=>Value.int k z).toArray a b))/\¬X g
 | .cell p=>(∃v,W.cell? ⟨g,0,none⟩=some v/\p v)/\g<W.heap.size/\¬X g
def lE (W:World) (X:Nat->Prop) (S:b0):Prop:=∀g f,ld ov g=some f->n5 W X S g f
theorem lE.sub {W:World} {X X':Nat->Prop} {S:b0} (h:lE W X S) (A:∀b,X' b->X b):lE W X' S:=by
 intro g f F
 have:=h g f F
 cases f with
 |row t x=>exact this
 |map dZ dG agg es=>
  obtain⟨G,b,fo,B,C,H,I,J,L⟩:=this
  exact⟨G,b,fo,B,C,H,I,J,fun l=>L (A b l)⟩
 |gv k zs=>exact⟨this.1,fun l=>this.2 (A g l)⟩
 |cell p=>exact⟨this.1,this.2.1,fun l=>this.2.2 (A g l)⟩
theorem lE.later {R:ec} {w:World} {S:b0} {box:Nat->Option cm} {tok:Nat->Option bc} {β:Nat->Nat} {τ:Nat->Value} {F:Nat->Nat->Prop} (h:lE R.W R.X R.uc) (l:Mem R box tok β τ F S w) {X':Nat->Prop} {S':b0} (L:∀b o,S b o->S' b o) (H:∀b,X' b->R.dt b):lE w X' S':=by
 intro g f T
 have:=h g f T
 have M:∀b o,R.uc b o->w.cell? ⟨b,o,none⟩=R.W.cell? ⟨b,o,none⟩:=l.la
 cases f with
 |row t x=>exact kr.mono (fun b o h=>L b o (l.cv b o h)) M this
 |map dZ dG agg es=>
  obtain⟨A,b,fo,I,J,B,O,U,Q⟩:=this
  have C:b<R.W.heap.size:=rj O
  refine⟨L _ _ (l.cv _ _ A),b,fo,I,J,(M g 0 A).trans B,(l.eD.block b C Q).trans O,U,fun G=>?_⟩
  rcases H b G with h|h
  .omega
  .exact Q h
 |gv k zs=>
  obtain⟨⟨a,b,A⟩,B⟩:=this
  have C:g<R.W.heap.size:=rj A
  refine⟨⟨a,b,(l.eD.block g C B).trans A⟩,fun G=>?_⟩
  rcases H g G with h|h
  .omega
  .exact B h
 |cell p=>
  obtain⟨⟨v,A,Y⟩,C,B⟩:=this
  refine⟨⟨v,(World.cell?_of_block (w:=R.W) (l.eD.block g C B)).trans A,Y⟩,mc C l.size,fun G=>?_⟩
  rcases H g G with h|h
  .omega
  .exact B h
structure bQ (P:Program) (t:TypeId) (ty:bt):Prop where
 desc:∃d,P.underlying t=some d/\TypeDesc.isAgg d=ty.agg
 info:∃i z,P.info? t=some i/\i.size=ty.size/\i.zero=some z/\z.cells.size=ty.size/\∀c,bx (ed c) ty.zero z.cells.toList
 elem:∀e r ku,ty.elem=some (e,r,ku)->P.underlying t=some (.slice e)/\0<r.w/\∃fG z,P.info? e=some fG/\fG.size=r.w/\fG.bytes=ku/\fG.zero=some z/\z.cells.size=r.w
 jk:ty.jk≠ []->∃fields,P.underlying t=some (.struct fields)/\fields.toList.mapM (fun f=>(P.info? f.type).map fun i=>(f.offset,i.size))=some ty.jk
 str:ty.str=true->P.underlying t=some .string
 bool:ty.bool=true->P.underlying t=some .bool
 int:∀k,ty.int=some k->P.underlying t=some (.int k)
 eqs:∀r,ty.eqs=some r->r.ct=true/\P.eqGuardType P.depth t=false/\∀w (x y:r.D),(Op.equalIn 10000 t (.agg ((enc r x).map fw).toArray) (.agg ((enc r y).map fw).toArray)).run P w= .ok (r.h2 x y) w
 mp:∀K V dZ dG,ty.mp=some (K,V,dZ,dG)->V5 P t K V dZ dG
 ptr:ty.ptr=true->∃u,P.underlying t=some (.pointer u)
 xb:ty.xb≠ []->∃fields,P.underlying t=some (.struct fields)/\fields.toList.map (fun f=>(f.type,f.offset))=ty.xb
 AB:∀K V dZ dG agg,ty.AB=some (K,V,dZ,dG,agg)->V0 P t K V dZ dG agg
def rT (P:Program) (f:FuncId):Prop:=∃fn,P.funcs[f]? =some fn/\fn.name≠ "runtime.NumGoroutine" /\fn.body.isNone=false
def kF (s:aY) (β:Nat->Nat) (F:Nat->Nat->Prop) (b:Nat):Prop:=(∃k x,aZ s.B k=some x/\β k=b)\/ ∃t aa,aH s.T t=some (.live aa)/\F t b
def jE (s:aY) (β:Nat->Nat) (τ:Nat->Value) (F:Nat->Nat->Prop) (S:b0) (w:World):ec:=
 ⟨w,kF s β F,S,fun k=>if(aZ s.B k).isSome then some (β k)else none,fun t=>match aH s.T t with|some (.live _)=>some (τ t)|_=>none⟩
def Fb (P:Program) (f:FuncId) (g s1:aY):Prop:=
 ∀w S β τ F A,lE w (kF g β F) S->Mem (jE g β τ F S w) (aZ g.B) (aH g.T) β τ F S w->bx (bp (g.ctx w S β τ)) g.L A->
  Calls P f A.toArray w fun e w'=>∃v h l C S',e= .returned v/\Mem (jE g β τ F S w) (aZ s1.B) (aH s1.T) h l C S' w'/\∃x,s1.L.head? =some x/\bp (s1.ctx w' S' h l) x v
structure ig (P:Program) (f:FuncId) (m:Model):Prop where
 enter:rT P f
 run:∀a r,m.run a=some r->Fb P f (m.arg.mk' a) (m.ret.mk' r)
structure eG (E:Env):Prop where
 mix:E.P.follows .mixedOrders=true
 ty:∀t y,E.ty t=some y->bQ E.P t y
 fn:∀f m,m∈E.fn f->ig E.P f m
def jv (E:Env) (R:ec):Prop:=(∀k,R.oc k≠none->E.res k=true)/\(∀t,R.gw t≠none->E.res t=true)/\lE R.W R.X R.uc
theorem jv.oc {E:Env} {R:ec} (h:jv E R) {k:Nat} (g:E.res k=false):R.oc k=none:=by
 cases l:R.oc k with
 |none=>rfl
 |some b=>have:=h.1 k (by rw[l];simp);rw[g]at this;cases this
theorem jv.gw {E:Env} {R:ec} (h:jv E R) {k:Nat} (g:E.res k=false):R.gw k=none:=by
 cases l:R.gw k with
 |none=>rfl
 |some b=>have:=h.2.1 k (by rw[l];simp);rw[g]at this;cases this
def bk.R :bk->aY->List Nat->List Nat->bP->dc->Prop
 | .ret h,_,aE,rt,e,aM=>e=h/\aM=⟨aE,h.boxes,rt,h.bI⟩
 | .box k f,s,aE,rt,e,aM=>(f (aZ s.B k)).R s (k::aE) rt e aM
 | .tok t f,s,aE,rt,e,aM=>(f (aH s.T t)).R s aE (t::rt) e aM
 | .gR p _ f,s,aE,rt,e,aM=>p/\f.R s aE rt e aM
 | .get o f,s,aE,rt,e,aM=>∃x,o=some x/\(f x).R s aE rt e aM
 | .r2 b f g,s,aE,rt,e,aM=>(b=true/\f.R s aE rt e aM)\/(b=false/\g.R s aE rt e aM)
 | .fail,_,_,_,_,_=>False
theorem bk.aqy {ρ:Type} {K:bP->dc->Option ρ} {s:aY} {z:ρ}:∀(r:bk) (aE rt:List Nat),r.run s aE rt K=some z->∃e aM,r.R s aE rt e aM/\K e aM=some z:=by
 intro r
 induction r with
 |ret e=>exact fun aE rt h=>⟨e,_,⟨rfl,rfl⟩,h⟩
 |box k f l=>exact fun aE rt h=>l _ _ _ h
 |tok t f l=>exact fun aE rt h=>l _ _ _ h
 |gR p d f l=>
  intro aE rt h
  simp only[bk.run]at h
  by_cases C:p
  .rw [ai C]at h
   obtain⟨e,aM,A,B⟩:=l _ _ h
   exact⟨e,aM,⟨C,A⟩,B⟩
  .rw [aC C]at h;cases h
 |get o f l=>
  intro aE rt h
  simp only[bk.run]at h
  cases o with
  |none=>cases h
  |some x=>
   obtain⟨e,aM,A,B⟩:=l x _ _ h
   exact⟨e,aM,⟨x,rfl,A⟩,B⟩
 |r2 b f g F G=>
  intro aE rt h
  cases b with
  |true=>obtain⟨e,aM,A,B⟩:=F _ _ h;exact⟨e,aM,.inl ⟨rfl,A⟩,B⟩
  |false=>obtain⟨e,aM,A,B⟩:=G _ _ h;exact⟨e,aM,.inr ⟨rfl,A⟩,B⟩
 |fail=>exact fun aE rt h=>by cases h
theorem bk.R.reads {s:aY}:∀(r:bk) (aE rt:List Nat) (e:bP) (aM:dc),r.R s aE rt e aM->(∀k,k∈aE->k∈aM.aE)/\(∀t,t∈rt->t∈aM.rt):=by
 intro r
 induction r with
 |ret F=>rintro aE rt e aM ⟨rfl,rfl⟩;exact⟨fun _ h=>h,fun _ h=>h⟩
 |box k f l=>intro aE rt e aM h;have:=l _ _ _ _ _ h;exact⟨fun j A=>this.1 j (ch _ A),this.2⟩
 |tok t f l=>intro aE rt e aM h;have:=l _ _ _ _ _ h;exact⟨this.1,fun j A=>this.2 j (ch _ A)⟩
 |gR p d f l=>intro aE rt e aM h;exact l _ _ _ _ h.2
 |get o f l=>rintro aE rt e aM ⟨i,_,h⟩;exact l i _ _ _ _ h
 |r2 b f g B C=>
  intro aE rt e aM h
  rcases h with⟨_,h⟩|⟨_,h⟩
  .exact B _ _ _ _ h
  .exact C _ _ _ _ h
 |fail=>exact fun aE rt e aM h=>h.elim
theorem bk.R.move {s F:aY}:∀(r:bk) (aE rt:List Nat) (e:bP) (aM:dc),r.R s aE rt e aM->(∀k,k∈aM.aE->aZ F.B k=aZ s.B k)->(∀t,t∈aM.rt->aH F.T t=aH s.T t)->r.R F aE rt e aM:=by
 intro r
 induction r with
 |ret L=>exact fun aE rt e aM h _ _=>h
 |box k f C=>
  intro aE rt e aM h l A
  have G:=(bk.R.reads (f (aZ s.B k)) _ _ _ _ h).1 k cb
  simp only[bk.R]at h⊢
  rw[l k G];exact C _ _ _ _ _ h l A
 |tok t f C=>
  intro aE rt e aM h l A
  have G:=(bk.R.reads (f (aH s.T t)) _ _ _ _ h).2 t cb
  simp only[bk.R]at h⊢
  rw[A t G];exact C _ _ _ _ _ h l A
 |gR p d f C=>exact fun aE rt e aM h l A=>⟨h.1,C _ _ _ _ h.2 l A⟩
 |get o f C=>rintro aE rt e aM ⟨i,J,h⟩ l A;exact⟨i,J,C i _ _ _ _ h l A⟩
 |r2 b f g H I=>exact fun aE rt e aM h l A=>h.imp (fun h=>⟨h.1,H _ _ _ _ h.2 l A⟩) (fun h=>⟨h.1,I _ _ _ _ h.2 l A⟩)
 |fail=>exact fun aE rt e aM h=>h.elim
theorem bk.R.writes {s:aY} {e:bP} {aM:dc}:∀(r:bk) (aE rt:List Nat),r.R s aE rt e aM->aM.hQ=e.boxes/\aM.wt=e.bI:=by
 intro r
 induction r with
 |ret C=>rintro aE rt ⟨rfl,rfl⟩;exact⟨rfl,rfl⟩
 |box k f l=>intro aE rt h;exact l _ _ _ h
 |tok t f l=>intro aE rt h;exact l _ _ _ h
 |gR p d f l=>intro aE rt h;exact l _ _ h.2
 |get o f l=>rintro aE rt ⟨i,_,h⟩;exact l i _ _ h
 |r2 b f g A B=>
  intro aE rt h
  rcases h with⟨_,h⟩|⟨_,h⟩
  .exact A _ _ h
  .exact B _ _ h
 |fail=>intro aE rt h;exact h.elim
def cX (E:Env) (o:Oper) (s:aY) (e:bP):Prop:=
 ∀R a w,jv E R->Rel R s a w->∀(K:Act->World->Prop) Q,(∀g w',Rel R (s.app o.dst e) g w'->K g w')->o.wp E.P a w K Q
theorem ff.one {c:Ctx} {x:au} {v:Value} (A:x≠ .dead) (h:ff c x v):v.oneCell'=true:=by
 cases x with
 |dead=>exact absurd rfl A
 |af t y=>obtain⟨p,_,h⟩:=h;exact h.one
 |aT=>rw[show v= .slice none 0 0 from h];rfl
 |eQ=>rw[show v= .pointer none from h];rfl
 |box k o=>rw[h.2];exact aqf _ _ _
 |ptr t y o=>obtain⟨b,s,e,_⟩:=h;rw[e];rfl
 |own n t xs=>exact bs.one h.1
 |ay n=>exact h.1
 |fx n i o=>exact h.1
 |jd g=>exact h.2.2
 |sub n l k=>exact h.1
 |aV f cs=>obtain⟨us,e,_⟩:=h;rw[e];rfl
 |agg cs=>exact h.elim
 |bR cs=>exact h.elim
theorem W4 {v:Value} (h:v.oneCell'=true):v.cells= #[v]:=by
 cases v<;>first|rfl|(simp[Value.oneCell']at h)
theorem ur {c:Ctx} {x:au} {v:Value} {cs:List au} (A:x.cells? =some cs) (h:bp c x v):bx (ed c) cs v.cells.toList:=by
 have one:∀ {x:au},x≠ .dead->ff c x v->bx (ed c) [x] v.cells.toList:=fun {x} F B=>by
  have C:=ff.one F B
  rw[W4 C];exact⟨⟨B,C⟩,True.intro⟩
 cases x with
 |dead=>cases A
 |bR cs=>cases A
 |agg ds=>cases A;obtain⟨H,e,G⟩:=h;rw[e];simpa[Value.cells]using G
 |af t y=>cases A;exact one (x:=.af t y) (by simp) h
 |aT=>cases A;exact one (x:=.aT) (by simp) h
 |eQ=>cases A;exact one (x:=.eQ) (by simp) h
 |box k o=>cases A;exact one (x:=.box k o) (by simp) h
 |ptr t y o=>cases A;exact one (x:=.ptr t y o) (by simp) h
 |own n t xs=>cases A;exact one (x:=.own n t xs) (by simp) h
 |ay n=>cases A;exact one (x:=.ay n) (by simp) h
 |fx n i o=>cases A;exact one (x:=.fx n i o) (by simp) h
 |jd g=>cases A;exact one (x:=.jd g) (by simp) h
 |sub n l k=>cases A;exact one (x:=.sub n l k) (by simp) h
 |aV f cs=>cases A;exact one (x:=.aV f cs) (by simp) h
theorem WU (b:ByteArray):bytes b.data.toList=b:=by cases b;simp[bytes]
theorem z6 (l:List UInt8):(bytes l).size=l.length:=by simp[bytes,ByteArray.size]
theorem We (c:Ctx) (v:Value):bp c (L1 v) v:=by
 cases v with
 |bool b=>exact⟨_,rfl,.bool b⟩
 |int k n=>exact⟨_,rfl,.int k n⟩
 |string s=>exact⟨_,rfl,by rw[WU];exact .str s⟩
 |slice a n k=>
  cases a with
  |some a=>exact True.intro
  |none=>
   cases n with
   |zero=>cases k with
    |zero=>exact rfl
    |succ k=>exact True.intro
   |succ n=>exact True.intro
 |pointer a=>cases a with
  |none=>exact rfl
  |some a=>exact True.intro
 |_=>exact True.intro
theorem hZ {c:Ctx} {s:aY} {a:Act} (h:∀i,bp c (dU s.L i) (a.tmps.getD i undef)):∀x,bp c (s.aQ x) (a.eval x)
 | .tmp t=>h t
 | .const v=>We c v
 | .global _=>True.intro
 | .func f=>⟨[],rfl,True.intro⟩
theorem ki {R:ec} {w':World} {S':b0} {s:aY} {a:Act} {e:bP} {g:Nat->Nat} {l:Nat->Value} {G:Nat->Nat->Prop}
  (I:Mem R (e.updB (aZ s.B)) (e.updT (aH s.T)) g l G S' w') (A:a.tmps.size=s.L.length) (J:a.defers=[]) (H:∀i,bp ⟨w',S',fun k=>e.updB (aZ s.B) k≠none,g,e.updT (aH s.T),l⟩ (dU s.L i) (a.tmps.getD i undef)) (d:Option Nat) {v:Value} (C:d=none\/bp ⟨w',S',fun k=>e.updB (aZ s.B) k≠none,g,e.updT (aH s.T),l⟩ e.val v):
  Rel R (s.app d e) (a.put d v) w':=by
 refine⟨g,l,G,S',by rw[rY,ob];exact I,?_,?_,fun i=>?_⟩
 .rw [Fq];cases d<;>simp[Act.put,A]
 .cases d<;>exact J
 .have M:(s.app d e).ctx w' S' g l=⟨w',S',fun k=>e.updB (aZ s.B) k≠none,g,e.updT (aH s.T),l⟩:=by
   simp only[aY.ctx,rY,ob]
  rw[M,zR]
  cases d with
  |none=>simpa[Act.put]using H i
  |some d=>
   have C:=C.resolve_left (by simp)
   simp only[Act.put,iB]
   by_cases h:d=i/\i<s.L.length
   .obtain ⟨rfl,hi⟩:=h
    rw[ai ⟨rfl,hi⟩]
    rw[<-A]at hi
    have:(a.tmps.setIfInBounds d v).getD d undef=v:=by simp[Array.getD,hi]
    rw[this];exact C
   .rw [aC h]
    have:(a.tmps.setIfInBounds d v).getD i undef=a.tmps.getD i undef:=by
     by_cases e:d=i
     .subst e
      have F:¬d<a.tmps.size:=fun O=>h ⟨rfl,A▸O⟩
      simp[Array.getD,F]
     .simp [Array.getElem?_setIfInBounds_ne e]
    rw[this];exact H i
theorem jO {P:Program} {o:Oper} {a:Act} {w w':World} {v:Value} {K:Act->World->Prop} {Q:Exit->Act->World->Prop} (h:(execOp a.eval o).run P w= .ok (.value v) w') (g:K (a.put o.dst v) w'):o.wp P a w K Q:=by
 unfold Oper.wp;rw[h];exact g
theorem K5 {P:Program} {o:Oper} {a:Act} {w w':World} {K:Act->World->Prop} {Q:Exit->Act->World->Prop} (h:(execOp a.eval o).run P w= .ok .skip w') (g:K (a.put o.dst undef) w'):o.wp P a w K Q:=by
 unfold Oper.wp;rw[h];exact g
theorem gT {E:Env} {o:Oper} {s:aY} {x:au} (h:∀c (a:Act) w,c.w=w->(∀y,bp c (s.aQ y) (a.eval y))->∃v,(execOp a.eval o).run E.P w= .ok (.value v) w/\bp c x v):cX E o s ⟨x,[],[]⟩:=by
 rintro R a w l ⟨β,τ,F,S,A,B,C,g⟩ K Q G
 obtain⟨v,H,I⟩:=h (s.ctx w S β τ) a w rfl (hZ g)
 exact jO H (G _ _ (ki (e:=⟨x,[],[]⟩) A B C g o.dst (.inr I)))
theorem o6 {E:Env} {o:Oper} {s:aY} {x:au} (h:∀R β τ F S (a:Act) w,Mem R (aZ s.B) (aH s.T) β τ F S w->(∀y,bp (s.ctx w S β τ) (s.aQ y) (a.eval y))->∃v,(execOp a.eval o).run E.P w= .ok (.value v) w/\bp (s.ctx w S β τ) x v):cX E o s ⟨x,[],[]⟩:=by
 rintro R a w A ⟨β,τ,F,S,g,C,G,l⟩ K Q H
 obtain⟨v,I,J⟩:=h R β τ F S a w g (hZ l)
 exact jO I (H _ _ (ki (e:=⟨x,[],[]⟩) g C G l o.dst (.inr J)))
section
variable {E : Env} {o : Oper} {s : aY} {e : bP} {aM : dc}
theorem da {x:au} {aE rt:List Nat} (h:(bk.val x).R s aE rt e aM):e=⟨x,[],[]⟩:=h.1
theorem Ue (x:Operand) (g:o.op= .move x\/o.op= .assign x):cX E o s ⟨s.aQ x,[],[]⟩:=
 gT fun c a w _ h=>⟨a.eval x,by rcases g with g|g<;>simp[execOp,g],h x⟩
theorem aqi {w:World} {S:b0} {v:Value} {b:Bool} (h:bs w S v (.bool b)):v= .bool b:=by cases h;rfl
theorem aqj {w:World} {S:b0} {v:Value} {k:IntKind} {n:Int} (h:bs w S v (.int k n)):v= .int k n:=by cases h;rfl
theorem aql {w:World} {S:b0} {v:Value} {x:ByteArray} (h:bs w S v (.str x)):v= .string x:=by cases h;rfl
theorem tG {c:Ctx} {v:Value} {b:Bool} (h:bp c (.af .bool b) v):v= .bool b:=by
 obtain⟨p,e,g⟩:=(h:gK c (.af .bool b) v)
 cases e;exact aqi (w:=c.w) g
theorem lr {c:Ctx} {v:Value} {k:IntKind} {n:Int} (h:bp c (.af (.int k) n) v):v= .int k n:=by
 obtain⟨p,e,g⟩:=(h:gK c (.af (.int k) n) v)
 cases e;exact aqj (w:=c.w) g
theorem wm {c:Ctx} {v:Value} {x:List UInt8} (h:bp c (.af .str x) v):v= .string (bytes x):=by
 obtain⟨p,e,g⟩:=(h:gK c (.af .str x) v)
 cases e;exact aql (w:=c.w) g
theorem zn {c:Ctx} {v:Value} {t:aJ} {x:t.D} (h:bp c (.af t x) v):∃p,enc t x=[p]/\bs c.w c.S v p:=h
theorem ar7 {c:Ctx} {v:Value} {k o:Nat} (h:bp c (.box k o) v):c.live k/\v=rB k (c.β k) o:=h
theorem wk {c:Ctx} {v:Value} {k o:Nat} (g:gC k=false) (h:bp c (.box k o) v):c.live k/\v= .pointer (some ⟨c.β k,o,none⟩):=⟨h.1,h.2.trans (Kr g)⟩
theorem ET {c:Ctx} {v:Value} {t:aJ} {x:t.D} {o:Nat} (h:bp c (.ptr t x o) v):∃b s,v= .pointer (some ⟨b,s+o,none⟩)/\kr c.w c.S b s (enc t x):=h
theorem ES {c:Ctx} {v:Value} {n:Nat} {t:aJ} {xs:List t.D} (h:bp c (.own n t xs) v):bs c.w c.S v (.ar (xs.map (enc t)))/\c.tok n≠none/\∀aa,c.tok n=some (.live aa)->aa.wr=false/\v=c.τ n/\(⟨aa.t,aa.xs⟩:(t:aJ)×List t.D)=⟨t,xs⟩:=h
theorem kn {c:Ctx} {v:Value} {n:Nat} (h:bp c (.ay n) v):v.oneCell'=true/\c.tok n≠none/\∀aa,c.tok n=some (.live aa)->v=c.τ n:=h
theorem qd {c:Ctx} {v:Value} {n i o:Nat} (h:bp c (.fx n i o) v):v.oneCell'=true/\c.tok n≠none/\∀aa,c.tok n=some (.live aa)->∃b l cap,c.τ n= .slice (some ⟨b,0,none⟩) l cap/\i<l/\v= .pointer (some ⟨b,i*aa.t.w+o,none⟩):=h
theorem KW {c:Ctx} {v:Value} {f:FuncId} {cs:List au} (h:bp c (.aV f cs) v):∃us:List Value,v= .func (.func f) #[] us.toArray/\bx (gK c) cs us:=h
theorem rn (c:Ctx) (b:Bool):bp c (.af .bool b) (.bool b):=⟨_,rfl,.bool b⟩
theorem lf (c:Ctx) (k:IntKind) (n:Int):bp c (.af (.int k) n) (.int k n):=⟨_,rfl,.int k n⟩
theorem JC (c:Ctx) (x:List UInt8):bp c (.af .str x) (.string (bytes x)):=⟨_,rfl,.str _⟩
theorem ari (c a b:Operand) (l:o.op= .pick c a b) (h:(cK E o.op o.dst s.aQ).R s [] [] e aM):cX E o s e:=by
 rw[l]at h
 simp only[cK]at h
 split at h
 .rename_i t A
  have base:cX E o s ⟨if t then s.aQ a else s.aQ b,[],[]⟩:=gT fun C ac w _ g=>by
   have B:ac.eval c= .bool t:=tG (A▸g c)
   refine⟨if t then ac.eval a else ac.eval b,by cases t<;>simp[execOp,l,B,asBool],?_⟩
   cases t
   .exact g b
   .exact g a
  rcases h with⟨rfl,h⟩|⟨rfl,h⟩
  .cases da h;exact base
  .cases da h;exact base
 .exact h.elim
theorem zU {k:IntKind} {n:Int} {aE rt:List Nat} (h:(qB k n).R s aE rt e aM):e=⟨.af (.int k) (k.wrap n),[],[]⟩:=by
 cases k<;>simp only[qB,bk.R,bk.val,gR]at h<;>first|exact h.1|skip
 rw[IntWalk.i64_in n ⟨h.1.1,h.1.2⟩];exact h.2.1
theorem bytes_inj {a b:List UInt8}:bytes a=bytes b↔a=b:=by
 constructor
 .intro h
  have:=congrArg (fun x:ByteArray=>x.data.toList) h
  simpa[bytes]using this
 .exact congrArg bytes
theorem LK (l:List UInt8):(bytes l).toList=l:=by
 rw[ByteArray.toList_eq];simp[bytes]
end
section
variable {E : Env} {o : Oper} {s : aY} {e : bP} {aM : dc}
theorem Xu (a b:List UInt8):(a==b)=decide (a=b):=by
 by_cases h:a=b
 .simp [h]
 .simp [h]
theorem w1 (a b:Int):(a==b)=decide (a=b):=by
 by_cases h:a=b
 .simp [h]
 .simp [h]
theorem Mg (a b:Int):(a !=b)= !decide (a=b):=by rw[bne,w1]
theorem aqC {P:Program} (w:World) (T u:TypeId) (p:Option Addr) (g:P.underlying T=some (.pointer u)):(Op.equal T (.pointer p) (.pointer none)).run P w= .ok p.isNone w:=by
 have h:∀d:Nat,(Op.equalIn (d+1) T (.pointer p) (.pointer none)).run P w= .ok p.isNone w:=fun d=>by
  cases p<;>simp[Op.equalIn,run_underlying g]
 exact h 9999
theorem ar8 {c:Ctx} {v:Value} (h:bp c .eQ v):v= .pointer none:=h
theorem abe {c:Ctx} {x:au} {v:Value} {pS:Bool} (g:isNil x=some pS) (h:bp c x v):∃p,v= .pointer p/\p.isNone=pS:=by
 unfold isNil at g
 split at g
 .cases g;exact⟨none,h,rfl⟩
 .cases g
  obtain⟨b,F,l,B⟩:=h
  exact⟨_,l,rfl⟩
 .rename_i y
  cases g
  obtain⟨p,l,A⟩:=zn h
  cases y with
  |none=>
   simp only[enc,Option.map_none,List.cons.injEq,and_true]at l
   subst l
   cases A
   exact⟨none,rfl,rfl⟩
  |some r=>
   simp only[enc,pe,List.cons.injEq,and_true]at l
   subst l
   obtain⟨b,q,C,B⟩:=A.SN
   exact⟨_,C,rfl⟩
 .cases g
theorem aqU (Y:eG E) (op:BinOp) (T:TypeId) (x y:Operand) (t:TypeId) (cC:o.op= .binOp op T x y t) (h:(Fw (match E.ty T with|some ty=>ty.bool|none=>false) (match E.ty T with|some ty=>ty.ptr|none=>false) op (s.aQ x) (s.aQ y)).R s [] [] e aM):cX E o s e:=by
 have key:∀(z:Value) (L:aJ) (M:L.D),(∀(c:Ctx) (a:Act) w,c.w=w->(∀y,bp c (s.aQ y) (a.eval y))->(do eqGuard op T x y (a.eval x) (a.eval y);binOp op T (a.eval x) (a.eval y):Sem Value).run E.P w= .ok z w/\bp c (.af L M) z)->cX E o s ⟨.af L M,[],[]⟩:=by
  intro z L M I
  refine gT fun c a w hw g=>?_
  obtain⟨aG,aX⟩:=I c a w hw g
  exact⟨z,by simp only[execOp,cC,Sem.run_bind];rw[<-Sem.run_bind,aG];rfl,aX⟩
 simp only[Fw]at h
 split at h
 .rename_i k m J
  split at h
  .rename_i Z n hy
   have A:∀(c:Ctx) (a:Act),(∀y,bp c (s.aQ y) (a.eval y))->a.eval x= .int k m:=fun c a g=>lr (J▸g x)
   have B:∀(c:Ctx) (a:Act),(∀y,bp c (s.aQ y) (a.eval y))->a.eval y= .int Z n:=fun c a g=>lr (hy▸g y)
   have main:∀C,op=C->k=Z->(zX C k m n).R s [] [] e aM->C≠ .shl->C≠ .shr->cX E o s e:=fun C O Q h U W=>by
    subst O;subst Q
    cases op
    all_goals first
     |exact absurd rfl U
     |exact absurd rfl W
     |(cases zU h;exact key (.int k _) (.int k) _ (fun c a w hw g=>⟨by rw[A c a g,B c a g];simp[eqGuard,binOp,Op.intArith],lf c _ _⟩))
     |(cases da h;exact key (.bool _) .bool _ (fun c a w hw g=>⟨by rw[A c a g,B c a g];first|(simp[eqGuard,binOp,Op.intCmp,w1,Mg];done)|(simp[eqGuard,binOp,Op.intCmp];exact w1 m n)|(simp[eqGuard,binOp,Op.intCmp];exact Mg m n),rn c _⟩))
     |(cases da h;exact key (.int k _) (.int k) _ (fun c a w hw g=>⟨by rw[A c a g,B c a g];simp[eqGuard,binOp,Op.intBits,ey],lf c _ _⟩))
     |(obtain⟨F,h⟩:=h;first
       |(cases zU h;exact key (.int k _) (.int k) _ (fun c a w hw g=>⟨by rw[A c a g,B c a g];simp[eqGuard,binOp,Op.intDiv,F],lf c _ _⟩))
       |(cases da h;exact key (.int k _) (.int k) _ (fun c a w hw g=>⟨by rw[A c a g,B c a g];simp[eqGuard,binOp,Op.intDiv,F],lf c _ _⟩)))
   split at h
   .obtain ⟨F,h⟩:=h
    cases zU h
    exact key (.int k _) (.int k) _ (fun c a w hw g=>⟨by rw[A c a g,B c a g];simp[eqGuard,binOp,Op.shift,Int.not_lt.2 F],lf c _ _⟩)
   .obtain ⟨F,h⟩:=h
    cases da h
    exact key (.int k _) (.int k) _ (fun c a w hw g=>⟨by rw[A c a g,B c a g];simp[eqGuard,binOp,Op.shift,Int.not_lt.2 F],lf c _ _⟩)
   .rename_i U W
    split at h
    .rename_i Q
     exact main op rfl Q h (fun e=>U e) (fun e=>W e)
    .exact h.elim
  .exact h.elim
 .rename_i m J
  split at h
  .rename_i n hy
   have A:∀(c:Ctx) (a:Act),(∀y,bp c (s.aQ y) (a.eval y))->a.eval x= .string (bytes m):=fun c a g=>wm (J▸g x)
   have B:∀(c:Ctx) (a:Act),(∀y,bp c (s.aQ y) (a.eval y))->a.eval y= .string (bytes n):=fun c a g=>wm (hy▸g y)
   cases op
   all_goals first
    |exact h.elim
    |(cases da h;exact key (.bool _) .bool _ (fun c a w hw g=>⟨by rw[A c a g,B c a g];simp[eqGuard,binOp,Op.stringOp,LK,Xu],rn c _⟩))
    |(obtain⟨F,h⟩:=h;cases da h;exact key (.string (bytes (m++n))) .str _ (fun c a w hw g=>⟨by
      rw[A c a g,B c a g]
      have hm:¬(((bytes m).size+(bytes n).size:Nat):Int)>IntKind.i64.max:=by simp[IntKind.max,IntKind.signed,IntKind.bits,z6];omega
      have O:bytes m++bytes n=bytes (m++n):=by apply Go.WideShapes.bytes_inj;simp[bytes]
      simp only[eqGuard,binOp,Op.stringOp]
      rw[aC hm,O];rfl,JC c _⟩))
  .exact h.elim
 .rename_i m J
  split at h
  .rename_i n hy
   have A:∀(c:Ctx) (a:Act),(∀y,bp c (s.aQ y) (a.eval y))->a.eval x= .bool m:=fun c a g=>tG (J▸g x)
   have B:∀(c:Ctx) (a:Act),(∀y,bp c (s.aQ y) (a.eval y))->a.eval y= .bool n:=fun c a g=>tG (hy▸g y)
   cases l:E.ty T with
   |none=>rw[l]at h;exact h.elim
   |some ty=>
    rw[l]at h
    cases G:ty.bool with
    |false=>simp only[G]at h;exact h.elim
    |true=>
    simp only[G,if_true]at h
    have X:E.P.underlying T=some .bool:=(Y.ty T ty l).bool G
    cases op
    all_goals first
     |exact h.elim
     |(cases da h;exact key (.bool _) .bool _ (fun c a w hw g=>⟨by rw[A c a g,B c a g];simp[eqGuard,binOp,run_equal_bool (P:=E.P) w T m n X],rn c _⟩))
  .exact h.elim
 .unfold S7 at h
  split at h
  case h_2=>exact h.elim
  rename_i hy
  split at h
  case h_2=>exact h.elim
  rename_i pS bj
  cases l:E.ty T with
  |none=>rw[l]at h;exact h.elim
  |some ty=>
   rw[l]at h
   cases H:ty.ptr with
   |false=>simp only[H]at h;exact h.elim
   |true=>
   simp only[H,if_true]at h
   obtain⟨u,X⟩:=(Y.ty T ty l).ptr H
   have B:∀(c:Ctx) (a:Act),(∀y,bp c (s.aQ y) (a.eval y))->a.eval y= .pointer none:=fun c a g=>ar8 (hy▸g y)
   have A:∀(c:Ctx) (a:Act),(∀y,bp c (s.aQ y) (a.eval y))->∃p,a.eval x= .pointer p/\p.isNone=pS:=fun c a g=>abe bj (g x)
   cases op
   all_goals first
    |exact h.elim
    |(cases da h;exact key (.bool _) .bool _ (fun c a w hw g=>⟨by obtain⟨p,cp,av⟩:=A c a g;rw[cp,B c a g,<-av];simp[eqGuard,binOp,aqC (P:=E.P) w T u p X],rn c _⟩))
theorem arn (op:UnOp) (T:TypeId) (x:Operand) (l:o.op= .unOp op T x) (h:(cK E o.op o.dst s.aQ).R s [] [] e aM):cX E o s e:=by
 rw[l]at h
 simp only[cK,VA]at h
 split at h
 .rename_i b A
  cases op with
  |not=>
   cases da h
   exact gT fun c a w hw g=>⟨.bool (!b),by simp[execOp,l,tG (A▸g x),Op.unary],rn c _⟩
  |_=>exact h.elim
 .rename_i k n A
  cases op with
  |neg=>
   cases zU h
   exact gT fun c a w hw g=>⟨.int k (k.wrap (0-n)),by simp[execOp,l,lr (A▸g x),Op.unary,Op.intArith],lf c _ _⟩
  |xor=>
   cases da h
   exact gT fun c a w hw g=>⟨.int k (ey .xor k (if k.signed then-1 else k.max) n),by simp[execOp,l,lr (A▸g x),Op.unary,Op.intBits,ey],lf c _ _⟩
  |_=>exact h.elim
 .exact h.elim
theorem arh (x:Operand) (C:o.op= .nilCheck x) (h:(cK E o.op o.dst s.aQ).R s [] [] e aM):cX E o s e:=by
 have key:∀y,(∀c (a:Act),(∀y,bp c (s.aQ y) (a.eval y))->(∃b,a.eval x= .pointer (some b))/\bp c y (a.eval x))->cX E o s ⟨y,[],[]⟩:=fun y hy=>
  gT fun c a w hw g=>by
   obtain⟨⟨b,L⟩,M⟩:=hy c a g
   exact⟨a.eval x,by simp[execOp,C,L],M⟩
 rw[C]at h
 simp only[cK]at h
 split at h
 .rename_i k q A
  split at h
  case isTrue=>exact h.elim
  rename_i G
  cases da h
  exact key _ fun c a g=>by have:=g x;rw[A]at this;exact⟨⟨_,(wk (by simpa using G) this).2⟩,this⟩
 .rename_i t r q A
  cases da h
  exact key _ fun c a g=>by have:=g x;rw[A]at this;obtain⟨b,O,B,H⟩:=this;exact⟨⟨_,B⟩,b,O,B,H⟩
 .rename_i n i q A
  simp only[bk.R]at h
  split at h
  .rename_i aa I
   cases da h
   refine o6 fun R β τ F S a w W g=>?_
   have:=g x;rw[A]at this
   obtain⟨X,Y,Q⟩:=qd this
   obtain⟨b,l,cap,Z,J,T⟩:=Q aa I
   exact⟨a.eval x,by simp[execOp,C,T],this⟩
  .exact h.elim
 .rename_i t y A
  obtain⟨r,rfl,h⟩:=h
  cases da h
  exact key _ fun c a g=>by
   have:=g x;rw[A]at this
   obtain⟨p,B,U⟩:=zn this
   simp only[enc,pe,List.cons.injEq,and_true]at B
   subst B
   obtain⟨b,q,J,H⟩:=U.SN
   exact⟨⟨_,J⟩,b,q,J,H⟩
 .exact h.elim
theorem aq2 (x:Operand) (i:Nat) (A:o.op= .extract x i) (h:(cK E o.op o.dst s.aQ).R s [] [] e aM):cX E o s e:=by
 rw[A]at h
 simp only[cK]at h
 split at h
 .rename_i cs B
  split at h
  .rename_i c C
   cases da h
   exact gT fun H a w hw g=>by
    have h:=g x
    rw[B]at h
    obtain⟨I,e,F⟩:=h
    obtain⟨v,G,l⟩:=F.get i c C
    exact⟨v,by simp[execOp,A,e,Instr.extract,G],jX l⟩
  .exact h.elim
 .exact h.elim
theorem n9 (b q n:Nat):(⟨b,q,none⟩:Addr).add n=⟨b,q+n,none⟩:=uf b q n
theorem aq4 (cd:eG E) (T:TypeId) (x:Operand) (f:Nat) (cC:o.op= .fieldAddr T x f) (h:(cK E o.op o.dst s.aQ).R s [] [] e aM):cX E o s e:=by
 rw[cC]at h
 simp only[cK]at h
 split at h
 case h_2=>exact h.elim
 rename_i ty O
 split at h
 case h_2=>exact h.elim
 rename_i off size Q
 split at h
 case isFalse=>exact h.elim
 rename_i hv
 have dJ:=cd.ty T ty O
 obtain⟨fields,hu,cp⟩:=dJ.jk (by rintro e;rw[e]at Q;cases Q)
 obtain⟨fd,i,U,W,H,cN⟩:∃(fd:Field) (i:TypeInfo),fields[f]? =some fd/\E.P.info? fd.type=some i/\fd.offset=off/\i.size=size:=by
  have I:∀(l:List Field) (r:List (Nat×Nat)),l.mapM (fun f=>(E.P.info? f.type).map fun i=>(f.offset,i.size))=some r->∀(n:Nat) p,r[n]? =some p->∃(fd:Field) (i:TypeInfo),l[n]? =some fd/\E.P.info? fd.type=some i/\(fd.offset,i.size)=p:=by
   intro l
   induction l with
   |nil=>intro r C n p J;simp at C;subst C;simp at J
   |cons g l lU=>
    intro r C n p J
    simp only[List.mapM_cons,Option.bind_eq_bind,Option.pure_def]at C
    cases hi:E.P.info? g.type with
    |none=>simp[hi]at C
    |some i=>
     cases X:l.mapM (fun f=>(E.P.info? f.type).map fun i=>(f.offset,i.size))with
     |none=>simp[hi,X]at C
     |some iT=>
      simp[hi,X]at C
      subst C
      cases n with
      |zero=>simp at J;exact⟨g,i,rfl,hi,J⟩
      |succ n=>simpa using lU iT X n p (by simpa using J)
  obtain⟨fd,i,U,W,H⟩:=I _ _ cp f _ Q
  simp only[Prod.mk.injEq]at H
  exact⟨fd,i,by simpa using U,W,H.1,H.2⟩
 have run:∀(a:Act) (w:World) b q,a.eval x= .pointer (some ⟨b,q,none⟩)->(execOp a.eval o).run E.P w= .ok (.value (.pointer (some ⟨b,q+off,none⟩))) w:=fun a w b q e=>by
  have Y:(sizeOf fd.type).run E.P w= .ok size w:=by simp[sizeOf,typeInfo,W,cN]
  have Z:¬size=0:=by omega
  simp[execOp,cC,Instr.fieldAt,run_underlying hu,U,e,Instr.sureAddr,fieldPlace,Y,Z,H,n9]
 split at h
 .rename_i k q L
  split at h
  case isTrue=>exact h.elim
  rename_i B
  have B:gC k=false:=by simpa using B
  cases da h
  exact gT fun c a w hw A=>by
   have h:=A x;rw[L]at h
   obtain⟨g1,g2⟩:=wk B h
   exact⟨_,run a w _ _ g2,g1,(Kr B).symm⟩
 .rename_i t y q L
  cases da h
  exact gT fun c a w hw A=>by
   have h:=A x;rw[L]at h
   obtain⟨b,dj,dn,bF⟩:=ET h
   exact⟨_,run a w _ _ dn,b,dj,by rw[mY],bF⟩
 .rename_i n eO q L
  simp only[bk.R]at h
  split at h
  .rename_i aa M
   cases da h
   refine o6 fun R β τ F S a w dI A=>?_
   have h:=A x;rw[L]at h
   obtain⟨g1,g2,g3⟩:=qd h
   obtain⟨b,l,cap,cB,ck,dr⟩:=g3 aa M
   refine⟨_,run a w _ _ dr,rfl,g2,fun b2 G=>?_⟩
   rw[show(s.ctx w S β τ).tok n=aH s.T n from rfl,M]at G
   cases G
   exact⟨b,l,cap,cB,ck,by rw[mY]⟩
  .exact h.elim
 .exact h.elim
theorem nc {c:Ctx} {x:au} {v:Value} {t:aJ} {y:t.D} (g:x.as t=some y) (h:bp c x v):∃p,enc t y=[p]/\bs c.w c.S v p:=by
 cases x with
 |af l z=>
  simp only[au.as]at g
  split at g
  .rename_i e;subst e;cases g;exact h
  .cases g
 |own n r xs=>
  simp only[au.as]at g
  split at g
  .rename_i e;subst e;cases g;exact⟨_,rfl,h.1⟩
  .cases g
 |aT=>
  cases t with
  |ar r=>cases g;rw[show v= .slice none 0 0 from h];exact⟨_,rfl,DY⟩
  |_=>cases g
 |eQ=>
  cases t with
  |opt r=>cases g;rw[show v= .pointer none from h];exact⟨_,rfl,.nil⟩
  |_=>cases g
 |ptr r z q=>
  simp only[au.as]at g
  split at g
  .rename_i e
   obtain⟨A,B⟩:=e
   subst A;subst B;cases g
   obtain⟨b,l,C,F⟩:=ET h
   exact⟨_,rfl,by rw[C];exact bs.ao2 F⟩
  .cases g
 |_=>cases g
theorem zV {c:Ctx} {x:au} {v:Value} {r:aJ} {xs:List r.D} (g:x.as (.ar r)=some xs) (h:bp c x v):bs c.w c.S v (.ar (xs.map (enc r))):=by
 obtain⟨p,e,l⟩:=nc g h
 cases e;exact l
theorem HC {c:Ctx} {a:Act} {x:Operand} {k:IntKind} {n:Int} (h:s.aQ x= .af (.int k) n) (g:∀y,bp c (s.aQ y) (a.eval y)):a.eval x= .int k n:=lr (h▸g x)
theorem zq {x:au} {f:Int->bk} {aE rt:List Nat} (h:(rL x f).R s aE rt e aM):∃k n,x= .af (.int k) n/\(f n).R s aE rt e aM:=by
 unfold rL at h
 split at h
 .exact ⟨_,_,rfl,h⟩
 .exact h.elim
structure iD (w:World) (S:b0) (v:Value) (r:aJ) (xs:List r.D):Prop where
 ex:∃a cap b o,v= .slice a xs.length cap/\xs.length<=cap/\(xs≠ []->a=some ⟨b,o,none⟩)/\∀(i j:Nat) (x:r.D) (p:b6),xs[i]? =some x->(enc r x)[j]? =some p->∃u,w.cell? ⟨b,o+i*r.w+j,none⟩=some u/\bs w S u p
theorem iD.JJ {w:World} {S:b0} {v:Value} {r:aJ} {xs:List r.D} (h:bs w S v (.ar (xs.map (enc r)))):iD w S v r xs:=by
 obtain⟨a,cap,b,o,m,B,C,F,hm,G⟩:=h.opened
 refine⟨a,cap,b,o,by simpa using B,by simpa using C,fun l=>F (by simpa using l),fun i j x p H I=>?_⟩
 have g:(xs.map (enc r))[i]? =some (enc r x):=by simp[H]
 have A:m=r.w:=by rw[<-hm i _ g,et]
 obtain⟨_,u,J,L⟩:=G i _ g j p I
 exact⟨u,by rw[<-A];exact J,L⟩
theorem iD.yF {Fr:Nat->Prop} {w:World} {S:b0} {aa:Tok} {v:Value} {F:Nat->Prop} (h:cn Fr w S aa v F) (l:aa.tr=none):iD w S v aa.t aa.xs:=by
 obtain⟨_,h,_⟩:=h
 rcases h with⟨rfl,h⟩|⟨b,cap,B,T,e,Q,C,U,G,hm,H,I,J⟩
 .exact ⟨none,0,0,0,by rw[h];rfl,by rw[h];exact bE _,fun A=>absurd h A,fun i j x p g=>by rw[h]at g;simp at g⟩
 .refine ⟨_,cap,b,0,e,G,fun _=>rfl,fun i j x p g L=>?_⟩
  obtain⟨u,M,O,_⟩:=J i j x p g L
  exact⟨u,by rw[gV,cell_of_row w b _ B T (0,0) C];exact M,O l⟩
theorem VH {x:Operand} {r:aJ} {f:List r.D->bk} {aE rt:List Nat} (h:(wo r (s.aQ x) f).R s aE rt e aM):∃xs A,(f xs).R s aE A e aM/\∀R β τ F S (a:Act) w,Mem R (aZ s.B) (aH s.T) β τ F S w->(∀y,bp (s.ctx w S β τ) (s.aQ y) (a.eval y))->iD w S (a.eval x) r xs:=by
 unfold wo at h
 split at h
 .rename_i n C
  simp only[bk.R]at h
  split at h
  .rename_i aa l
   split at h
   .rename_i G
    obtain⟨G,H⟩:=G
    subst G
    refine⟨_,_,h,fun R β τ F S a w I g=>?_⟩
    have J:=g x;rw[C]at J
    obtain⟨g1,g2,g3⟩:=kn J
    rw[g3 aa l]
    exact iD.yF (I.bI n aa l) H
   .exact h.elim
  .exact h.elim
 .split at h
  .rename_i xs C
   exact⟨xs,rt,h,fun R β τ F S a w I g=>iD.JJ (zV (c:=s.ctx w S β τ) C (g x))⟩
  .exact h.elim
theorem xT {P:Program} {T:TypeId} {d:TypeDesc} (h:P.underlying T=some d) (w:World):(isAgg T).run P w= .ok (TypeDesc.isAgg d) w:=by
 cases d<;>simp[Go.isAgg,run_underlying h,TypeDesc.isAgg]
theorem Sa {P:Program} {T:TypeId} {d:TypeDesc} {i:TypeInfo} (h:P.underlying T=some d) (l:TypeDesc.isAgg d=true) (hi:P.info? T=some i) (w:World) (g:Addr) (cs:List Value) (A:cs.length=i.size) (B:∀j v,cs[j]? =some v->w.cell? (g.add j)=some v):(loadVar T g).run P w= .ok (.agg cs.toArray) w:=by
 simp[loadVar,xT h,l,sizeOf,typeInfo,hi,<-A,run_loadCells_list w g cs B]
theorem Jp {P:Program} {T:TypeId} {d:TypeDesc} (h:P.underlying T=some d) (l:TypeDesc.isAgg d=false) (w:World) (g:Addr) (v:Value) (A:w.cell? g=some v):(loadVar T g).run P w= .ok v w:=by
 simp[loadVar,xT h,l,A]
theorem wV {w:World} {b:Nat} {g:List Value} {T:TypeId} (h:w.heap[b]? =some (.cells g.toArray T (0,0))) (j:Nat):w.cell? ⟨b,j,none⟩=g[j]? :=by
 simp[World.cell?,h]
theorem yy {c:Ctx} (T:TypeId) (x:Operand) (F:o.op= .load T x) (ty:bt) (G:bQ E.P T ty) (a:Act) (w:World) (b q:Nat) (H:a.eval x= .pointer (some ⟨b,q,none⟩)) (cs:List au) (g:List Value) (h:bx (ed c) cs g) (I:∀j v,g[j]? =some v->w.cell? ⟨b,q+j,none⟩=some v) (y:au)
  (hy:(ty.agg=true/\cs.length=ty.size/\y= .agg cs)\/(ty.agg=false/\cs[0]? =some y)):∃v,(execOp a.eval o).run E.P w= .ok (.value v) w/\bp c y v:=by
 obtain⟨d,hu,J⟩:=G.desc
 obtain⟨i,z,hi,l,_⟩:=G.info
 rcases hy with⟨A,B,rfl⟩|⟨A,B⟩
 .refine ⟨.agg g.toArray,?_,g,rfl,h⟩
  simp only[execOp,F,Instr.loadAt,H,Instr.sureAddr,Sem.run_bind,Sem.run_pure,Result.andThen_ok]
  rw[Sa hu (J.trans A) hi w _ g (by rw[<-h.len,B,l]) (fun j v L=>by rw[n9];exact I j v L)]
  rfl
 .obtain ⟨v,M,C⟩:=h.get 0 y B
  refine⟨v,?_,hb C.1⟩
  simp only[execOp,F,Instr.loadAt,H,Instr.sureAddr,Sem.run_bind,Sem.run_pure,Result.andThen_ok]
  rw[Jp hu (J.trans A) w _ v (by simpa using I 0 v M)]
  rfl
theorem Kv {c:Ctx} {t:aJ} (y:t.D) {b q:Nat} (h:∀j p,(enc t y)[j]? =some p->∃u,c.w.cell? ⟨b,q+j,none⟩=some u/\bs c.w c.S u p):∃l:List Value,bx (ed c) (cellsOf t y) l/\∀j v,l[j]? =some v->c.w.cell? ⟨b,q+j,none⟩=some v:=by
 obtain⟨l,G,H⟩:=FG (fun j (u:Value)=>∀p,(enc t y)[j]? =some p->c.w.cell? ⟨b,q+j,none⟩=some u/\bs c.w c.S u p) t.w (fun j F=>by
  have g:j<(enc t y).length:=by rw[et];exact F
  obtain⟨u,I,A⟩:=h j (enc t y)[j] (by simp[g])
  exact⟨u,fun p B=>by rw[bG g]at B;cases B;exact⟨I,A⟩⟩)
 refine⟨l,bx.vI (by rw[lN,G]) (fun j x v J C=>?_),fun j v C=>?_⟩
 .obtain ⟨p,B,L,z,rfl,he⟩:=(lM t y).get j x J
  obtain⟨I,A⟩:=H j v C p B
  exact⟨⟨p,he,A⟩,A.one⟩
 .have F:j<(enc t y).length:=by rw[et,<-G];exact(dB.1 C).1
  exact(H j v C (enc t y)[j] (by simp[F])).1
theorem Jq {c:Ctx} (T:TypeId) (x:Operand) (B:o.op= .load T x) (ty:bt) (C:bQ E.P T ty) (a:Act) (w:World) (hw:c.w=w) (b q:Nat) (t:aJ) (y:t.D) (off:Nat) (F:a.eval x= .pointer (some ⟨b,q+off,none⟩)) (I:∀j p,(enc t y)[j]? =some p->∃u,w.cell? ⟨b,q+j,none⟩=some u/\bs w c.S u p) {aE rt:List Nat}
  (h:(if ty.agg then(if off+ty.size<=(cellsOf t y).length then .val (.agg (((cellsOf t y).drop off).take ty.size))else .fail)else match(cellsOf t y)[off]? with|some c=>.val c|none=>.fail:bk).R s aE rt e aM):∃z,e=⟨z,[],[]⟩/\∃v,(execOp a.eval o).run E.P w= .ok (.value v) w/\bp c z v:=by
 subst hw
 obtain⟨A,G,J⟩:=Kv (c:=c) y I
 have H:∀j v,(A.drop off)[j]? =some v->c.w.cell? ⟨b,(q+off)+j,none⟩=some v:=fun j v l=>by
  rw[hV]at l
  rw[mY];exact J _ _ l
 split at h
 .rename_i g
  split at h
  .rename_i hle
   cases da h
   refine⟨_,rfl,yy (c:=c) T x B ty C a c.w b (q+off) F (((cellsOf t y).drop off).take ty.size) ((A.drop off).take ty.size) ((G.drop off).take _) (fun j v l=>?_) _ (.inl ⟨g,by simp;omega,rfl⟩)⟩
   rw[hU]at l
   split at l
   .exact H j v l
   .cases l
  .exact h.elim
 .rename_i g
  split at h
  .rename_i z L
   cases da h
   exact⟨_,rfl,yy (c:=c) T x B ty C a c.w b (q+off) F ((cellsOf t y).drop off) (A.drop off) (G.drop off) H _ (.inr ⟨by simpa using g,by simpa using L⟩)⟩
  .exact h.elim
theorem arb (cd:eG E) (T:TypeId) (x:Operand) (Y:o.op= .load T x) (I:∀ty n i q aa aU,E.ty T=some ty->s.aQ x= .fx n i q->aH s.T n=some (.live aa)->aa.tr=some aU->(Dj E o.dst ty n i q aa aU).R s [] [n] e aM->cX E o s e)
  (J:∀(y:au) (k:Nat),cX E o s ⟨y,[],[]⟩->(EL y).R s [k] [] e aM->cX E o s e)
  (L:∀ty g,E.ty T=some ty->x= .global g->(AA ty g).R s [] [] e aM->cX E o s e)
  (h:(cK E o.op o.dst s.aQ).R s [] [] e aM):cX E o s e:=by
 rw[Y]at h
 simp only[cK]at h
 split at h
 case h_1=>exact h.elim
 rename_i ty M
 have dJ:=cd.ty T ty M
 split at h
 .rename_i g bU
  exact L ty g M (by cases x<;>first|(cases bU;rfl)|cases bU) h
 split at h
 .rename_i k q U
  split at h
  case isTrue=>exact h.elim
  rename_i C
  have C:gC k=false:=by simpa using C
  simp only[bk.R]at h
  split at h
  case h_1=>exact h.elim
  rename_i b bB
  have key:∀y,((ty.agg=true/\q+ty.size<=b.cs.length/\y= .agg ((b.cs.drop q).take ty.size))\/(ty.agg=false/\b.cs[q]? =some y))->cX E o s ⟨y,[],[]⟩:=fun y hy=>by
   refine o6 fun R β τ F S a w dI B=>?_
   obtain⟨Z,dd,cV,cJ⟩:=(dI.boxes k b bB).2.2.2.cells C
   have G:=B x;rw[U]at G
   have W:a.eval x= .pointer (some ⟨β k,q,none⟩):=(wk C G).2
   have X:∀j v,(Z.drop q)[j]? =some v->w.cell? ⟨β k,q+j,none⟩=some v:=fun j v O=>by
    rw[hV]at O
    rw[wV cV];exact O
   rcases hy with⟨g1,g2,rfl⟩|⟨g1,g2⟩
   .refine yy (c:=s.ctx w S β τ) T x Y ty dJ a w (β k) q W ((b.cs.drop q).take ty.size) ((Z.drop q).take ty.size) ((cJ.drop q).take _) (fun j v O=>?_) _ (.inl ⟨g1,by simp;omega,rfl⟩)
    rw[hU]at O
    split at O
    .exact X j v O
    .cases O
   .exact yy (c:=s.ctx w S β τ) T x Y ty dJ a w (β k) q W (b.cs.drop q) (Z.drop q) (cJ.drop q) X _ (.inr ⟨g1,by simpa using g2⟩)
  split at h
  .rename_i A
   split at h
   .cases da h;exact key _ (.inl ⟨A, ‹_›,rfl⟩)
   .exact h.elim
  .rename_i A
   split at h
   .rename_i y hy
    split at h
    .exact J y k (key _ (.inr ⟨by simpa using A,hy⟩)) h
    .cases da h;exact key _ (.inr ⟨by simpa using A,hy⟩)
   .exact h.elim
 .rename_i t y q U
  obtain⟨z,rfl⟩:∃z,e=⟨z,[],[]⟩:=by
   split at h
   .split at h
    .exact ⟨_,da h⟩
    .exact h.elim
   .split at h
    .exact ⟨_,da h⟩
    .exact h.elim
  refine gT fun c a w hw B=>?_
  have G:=B x;rw[U]at G
  obtain⟨b,oZ,dn,bF⟩:=ET G
  obtain⟨VT,H,v,aX,X⟩:=Jq (c:=c) T x Y ty dJ a w hw b oZ t y q dn (fun j p W=>by obtain⟨_,u,g1,g2⟩:=bF j p W;rw[hw]at g1 g2;exact⟨u,g1,g2⟩) h
  cases H
  exact⟨v,aX,X⟩
 .rename_i n i q U
  simp only[bk.R]at h
  split at h
  case h_2=>exact h.elim
  rename_i aa Q
  split at h
  case h_2=>exact I ty n i q aa _ M U Q ‹_› h
  rename_i lT
  obtain⟨y,hy,h⟩:=h
  simp only at h
  obtain⟨z,rfl⟩:∃z,e=⟨z,[],[]⟩:=by
   split at h
   .split at h
    .exact ⟨_,da h⟩
    .exact h.elim
   .split at h
    .exact ⟨_,da h⟩
    .exact h.elim
  refine o6 fun R β τ F S a w dI B=>?_
  have G:=B x;rw[U]at G
  obtain⟨g1,g2,g3⟩:=qd G
  obtain⟨b,l,cap,H,ck,dr⟩:=g3 aa Q
  obtain⟨_,bB,_⟩:=dI.bI n aa Q
  rcases bB with⟨aQ,_⟩|⟨bz,iG,Z,dd,aQ,cT,bU,bL,bj,hm,oA,k7,bF⟩
  .rw [show(s.ctx w S β τ).τ n=τ n from rfl,aQ]at H;cases H
  .rw [show(s.ctx w S β τ).τ n=τ n from rfl,aQ]at H
   cases H
   obtain⟨VT,H,v,aX,X⟩:=Jq (c:=s.ctx w S β τ) T x Y ty dJ a w rfl b (i*aa.t.w) aa.t y q dr (fun j p W=>by
    obtain⟨u,cW,cO,_⟩:=bF i j y p hy W
    exact⟨u,by rw[cell_of_row w b _ Z dd (0,0) bU];exact cW,cO lT⟩) h
   cases H
   exact⟨v,aX,X⟩
 .exact h.elim
end
section
variable {E : Env} {o : Oper} {s : aY} {e : bP} {aM : dc}
theorem N6 {α:Type} {xs:List α} {n:Int} {x:α} (h:idx xs n=some x):0<=n/\xs[n.toNat]? =some x:=by
 unfold idx at h
 split at h
 .exact ⟨‹_›,h⟩
 .cases h
theorem TR {T h:TypeId} {x i:Operand} (B:o.op= .indexAddr T x i) {m:Nat} {fG:TypeInfo} (hu:E.P.underlying T=some (.slice h)) (l:E.P.info? h=some fG) (A:fG.size=m) {a:Act} {w:World} {b q len cap:Nat} {k:IntKind} {n:Int} (C:a.eval x= .slice (some ⟨b,q,none⟩) len cap) (F:a.eval i= .int k n) (G:0<=n) (H:n<len):
  (execOp a.eval o).run E.P w= .ok (.value (.pointer (some ⟨b,q+n.toNat*m,none⟩))) w:=by
 have g:(sizeOf h).run E.P w= .ok m w:=by simp[sizeOf,typeInfo,l,A]
 simp[execOp,B,Instr.indexAt,run_underlying hu,C,F,asIntOf,G,H,g,n9]
theorem aq8 (cd:eG E) (T:TypeId) (x i:Operand) (J:o.op= .indexAddr T x i) (h:(cK E o.op o.dst s.aQ).R s [] [] e aM):cX E o s e:=by
 rw[J]at h
 simp only[cK]at h
 split at h
 case h_2=>exact h.elim
 rename_i ty L
 have dJ:=cd.ty T ty L
 split at h
 case h_2=>exact h.elim
 rename_i dn r ku he
 obtain⟨hu,Y,fG,z,G,H,_⟩:=dJ.elem _ _ _ he
 obtain⟨k,n,hi,h⟩:=zq h
 split at h
 .rename_i t bb
  simp only[bk.R]at h
  split at h
  case h_2=>exact h.elim
  rename_i aa C
  obtain⟨⟨M,Z⟩,h⟩:=h
  split at h
  case isFalse=>exact h.elim
  rename_i lQ
  cases da h
  refine o6 fun R β τ F S a w dI g=>?_
  have aG:=g x;rw[bb]at aG
  obtain⟨g1,g2,g3⟩:=kn aG
  have g3:=g3 aa C
  obtain⟨_,bB,_⟩:=dI.bI t aa C
  rcases bB with⟨aQ,O⟩|⟨b,cap,bT,_,aQ,cT,bU,bL,nq,hm,oA,k7,bF⟩
  .rw [O]at Z;simp at Z;omega
  .rw [show(s.ctx w S β τ).τ t=τ t from rfl,aQ]at g3
   refine⟨_,TR J hu G H g3 (HC hi g) M (by omega),rfl,g2,fun b2 A=>?_⟩
   rw[show(s.ctx w S β τ).tok t=aH s.T t from rfl,C]at A
   cases A
   refine⟨b,_,cap,aQ,by omega,?_⟩
   rw[lQ];simp
 .rename_i Q
  unfold wo at h
  split at h
  .rename_i b7 U;exact absurd U (Q b7)
  .split at h
   case h_2=>exact h.elim
   rename_i xs W
   obtain⟨y,hy,h⟩:=h
   cases da h
   obtain⟨M,hy⟩:=N6 hy
   refine gT fun c a w hw g=>?_
   have cG:=zV W (g x)
   obtain⟨qz,cap,b,q,m,cV,Zl,k3,hm,l⟩:=cG.opened
   have I:n.toNat<xs.length:=(dB.1 hy).1
   have B:(xs.map (enc r))[n.toNat]? =some (enc r y):=by simp[hy]
   have X:=k3 (by intro e;rw[List.map_eq_nil_iff]at e;rw[e]at I;simp at I)
   have em:m=r.w:=by rw[<-hm _ _ B,et]
   rw[X,dE]at cV
   refine⟨_,TR J hu G H cV (HC hi g) M (by omega),b,q+n.toNat*r.w,rfl,?_⟩
   rw[<-em];exact l _ _ B
theorem aq7 (F:eG E) (T:TypeId) (x i:Operand) (C:o.op= .index T x i) (h:(cK E o.op o.dst s.aQ).R s [] [] e aM):cX E o s e:=by
 rw[C]at h
 simp only[cK]at h
 split at h
 case h_2=>exact h.elim
 rename_i ty A
 have G:=F.ty T ty A
 obtain⟨k,n,hi,h⟩:=zq h
 split at h
 case h_2=>exact h.elim
 rename_i b H
 split at h
 case isFalse=>exact h.elim
 rename_i I
 obtain⟨u,hu,h⟩:=h
 cases da h
 obtain⟨J,hu⟩:=N6 hu
 refine gT fun c a w hw g=>⟨.int .u8 u.toNat,?_,lf c _ _⟩
 have L:a.eval x= .string (bytes b):=wm (H▸g x)
 have M:a.eval i= .int k n:=HC hi g
 have B:(bytes b)[n.toNat]? =some u:=by
  have l:n.toNat<b.length:=(dB.1 hu).1
  rw[getElem?_pos (bytes b) n.toNat (by rw[z6];exact l)]
  rw[bG l]at hu
  rw[<-Option.some.inj hu];rfl
 simp[execOp,C,Instr.index,run_underlying (G.str I),L,M,asIntOf,J,B]
theorem fold_push (xs:List Int):xs.foldl (fun r n=>r.push (UInt8.ofNat n.toNat)) ByteArray.empty=bytes (bytesOf xs):=by
 have key:∀(xs:List Int) (s:ByteArray),xs.foldl (fun r n=>r.push (UInt8.ofNat n.toNat)) s=⟨s.data++(bytesOf xs).toArray⟩:=by
  intro xs
  induction xs with
  |nil=>intro s;simp[bytesOf]
  |cons x xs g=>
   intro s
   rw[eZ,g]
   congr 1
   simp[bytesOf,ByteArray.push]
 rw[key]
 simp[bytes]
theorem aq1 (L:eG E) (l T:TypeId) (x:Operand) (M:o.op= .convert l T x) (h:(cK E o.op o.dst s.aQ).R s [] [] e aM):cX E o s e:=by
 rw[M]at h
 simp only[cK]at h
 split at h
 case h_2=>exact h.elim
 rename_i H ty df dJ
 obtain⟨asL,I,_⟩:=(L.ty l H df).desc
 have A:=L.ty T ty dJ
 split at h
 .rename_i k n O
  split at h
  case h_2=>exact h.elim
  rename_i aL bB
  cases da h
  refine gT fun Mb a w hw g=>⟨.int aL (aL.wrap n),?_,lf Mb _ _⟩
  have C:a.eval x= .int k n:=lr (O▸g x)
  simp[execOp,M,Go.convert,run_underlying I,run_underlying (A.int _ bB),C,Conv.intToInt]
 .rename_i b O
  split at h
  case isFalse=>exact h.elim
  rename_i U
  cases da h
  refine gT fun Mb a w hw g=>?_
  have C:a.eval x= .string (bytes b):=wm (O▸g x)
  refine⟨.string (bytes b),?_,by have Q:=g x;rw[O,C]at Q;exact Q⟩
  simp[execOp,M,Go.convert,run_underlying I,run_underlying (A.str U),C]
 .split at h
  case h_2=>exact h.elim
  rename_i dn ku he
  split at h
  case h_2=>exact h.elim
  rename_i W
  split at h
  case isFalse=>exact h.elim
  rename_i U
  obtain⟨X,J,hint⟩:=jR.1 W
  have Y:=(L.ty dn X J).int _ hint
  obtain⟨Z,_⟩:=(L.ty l H df).elem _ _ _ he
  obtain⟨xs,Kw,h,sr⟩:=VH h
  cases da h
  refine o6 fun R β τ F S a w dI g=>⟨.string (bytes (bytesOf xs)),?_,JC _ _⟩
  obtain⟨G,cap,b,q,C,Zl,k3,B⟩:=(sr R β τ F S a w dI g).ex
  have main:(Conv.bytesToString (.slice G xs.length cap)).run E.P w= .ok (.string (bytes (bytesOf xs))) w:=by
   cases G with
   |none=>
    have:xs=[]:=by
     cases xs with
     |nil=>rfl
     |cons y ys=>exact absurd (k3 (by simp)) (by simp)
    subst this
    rfl
   |some G=>
    rw[run_bytesToString w G xs.length cap xs ?_]
    .exact congrArg (fun z=>Result.ok (Value.string z) w) (fold_push xs)
    .have bK:xs.length=(xs.map (Value.int .u8)).length:=by simp
     rw[bK]
     refine run_loadCells_list w G _ (fun j v bV=>?_)
     rw[iC]at bV
     obtain⟨y,hy,rfl⟩:=hT.1 bV
     have hd:xs≠ []:=by intro e;rw[e]at hy;simp at hy
     cases k3 hd
     obtain⟨u,Q,aX⟩:=B j 0 y (.int .u8 y) hy rfl
     cases aX
     rw[n9,show q+j=q+j*aJ.w (.int .u8)+0 from by simp[aJ.w]]
     exact Q
  simp only[execOp,M,C,Sem.run_bind,run_convert_bytes_string w l T dn G xs.length cap Z Y (A.str U),main,Result.andThen_ok,Sem.run_pure]
theorem anX {c:Ctx} {x:au} {v:Value} (g:x.leaf=true) (h:bp c x v):gK c x v:=by
 cases x<;>first|exact h|cases g
theorem ard (f:FuncId) (first captured:Array Operand) (B:o.op= .makeFunc (.func f) first captured) (h:(cK E o.op o.dst s.aQ).R s [] [] e aM):cX E o s e:=by
 rw[B]at h
 simp only[cK]at h
 split at h
 case h_2=>exact h.elim
 rename_i C
 split at h
 case isFalse=>exact h.elim
 rename_i g
 cases da h
 refine gT fun I a w hw A=>⟨.func (.func f) #[] (captured.toList.map a.eval).toArray,?_,captured.toList.map a.eval,rfl,?_⟩
 .have F:first= #[]:=by apply Array.ext';simpa using C
  have G:captured.map a.eval=(captured.toList.map a.eval).toArray:=by apply Array.ext';simp
  simp[execOp,B,Instr.makeFunc,F]
  exact G
 .generalize captured.toList=l at g
  induction l with
  |nil=>exact True.intro
  |cons y l H=>
   simp only[cw,List.all_cons,a6]at g
   exact⟨anX g.1 (A y),H g.2⟩
theorem cn.len {Fr:Nat->Prop} {w:World} {S:b0} {aa:Tok} {v:Value} {F:Nat->Prop} (h:cn Fr w S aa v F):∃g cap,v= .slice g aa.xs.length cap:=by
 rcases h.2.1 with⟨l,A⟩|⟨b,cap,B,T,e,_⟩
 .exact ⟨none,0,by rw[l,A];rfl⟩
 .exact ⟨_,cap,e⟩
theorem an1 {x:Operand} {r:aJ} {aE rt:List Nat} (h:(Ji r (s.aQ x)).R s aE rt e aM):∃n:Nat,e=⟨.af (.int .i64) (n:Int),[],[]⟩/\∀R β τ F S (a:Act) w,Mem R (aZ s.B) (aH s.T) β τ F S w->(∀y,bp (s.ctx w S β τ) (s.aQ y) (a.eval y))->∃A cap,a.eval x= .slice A n cap:=by
 unfold Ji at h
 split at h
 .rename_i n I
  simp only[bk.R]at h
  split at h
  .rename_i aa l
   split at h
   .rename_i M
    refine⟨aa.xs.length,da h,fun R β τ F S a w C g=>?_⟩
    have H:=g x;rw[I]at H
    obtain⟨g1,g2,g3⟩:=kn H
    rw[g3 aa l]
    exact(C.bI n aa l).len
   .exact h.elim
  .exact h.elim
 .obtain ⟨xs,J,h,G⟩:=VH h
  refine⟨xs.length,da h,fun R β τ F S a w C g=>?_⟩
  obtain⟨A,cap,b,q,L,_⟩:=(G R β τ F S a w C g).ex
  exact⟨A,cap,L⟩
theorem aq9 (L:eG E) (c:Call) (A:o.op= .call c) (B:c.callee= .builtin .len) (h:(cK E o.op o.dst s.aQ).R s [] [] e aM):cX E o s e:=by
 rw[A]at h
 simp only[cK,B]at h
 split at h
 case h_2=>exact h.elim
 rename_i x T M I
 split at h
 case h_2=>exact h.elim
 rename_i ty C
 have l:=L.ty T ty C
 have J:c.args= #[x]:=by apply Array.ext';simpa using M
 split at h
 .rename_i b O
  split at h
  case isFalse=>exact h.elim
  rename_i Q
  cases da h
  refine gT fun U a w hw g=>⟨.int .i64 b.length,?_,lf U _ _⟩
  have G:a.eval x= .string (bytes b):=wm (O▸g x)
  simp[execOp,A,resolve,B,invoke,builtin,Builtin.len_,I,J,run_underlying (l.str Q),G,goInt,z6]
 .split at h
  case h_2=>exact h.elim
  rename_i X r ku he
  obtain⟨hu,_⟩:=l.elem _ _ _ he
  obtain⟨n,rfl,H⟩:=an1 h
  refine o6 fun R β τ F S a w W g=>⟨.int .i64 n,?_,lf _ _ _⟩
  obtain⟨Y,cap,G⟩:=H R β τ F S a w W g
  simp[execOp,A,resolve,B,invoke,builtin,Builtin.len_,I,J,run_underlying hu,G,goInt]
theorem Ud (c:Call) (H:o.op= .call c) (G:Bool) (F:c.callee= .builtin (if G then .max else .min)) (h:(cK E o.op o.dst s.aQ).R s [] [] e aM):cX E o s e:=by
 rw[H]at h
 have key:∀x y k l p q,c.args.toList=[x,y]->s.aQ x= .af (.int k) p->s.aQ y= .af (.int l) q->cX E o s ⟨.af (.int k) (if G then(if q>p then q else p)else(if q<p then q else p)),[],[]⟩:=fun x y k l p q A B C=>
  gT fun I a w hw g=>by
   have J:c.args= #[x,y]:=by apply Array.ext';simpa using A
   have v1:a.eval x= .int k p:=lr (B▸g x)
   have v2:a.eval y= .int l q:=lr (C▸g y)
   refine⟨_,?_,lf I _ _⟩
   cases G<;>simp at F<;>simp[execOp,H,resolve,F,invoke,builtin,Builtin.min_,Builtin.max_,Builtin.min2,Builtin.max2,J,v1,v2]
 cases G with
 |false=>
  simp only[cK,show c.callee= .builtin .min from F]at h
  split at h
  case h_3=>exact h.elim
  .rename_i x y A
   split at h
   case h_2=>exact h.elim
   rename_i k p B
   split at h
   case h_2=>exact h.elim
   rename_i l q C
   cases da h
   exact key x y k l p q A B C
  .rename_i x y z A
   split at h
   case h_2=>exact h.elim
   rename_i k p B
   split at h
   case h_2=>exact h.elim
   rename_i l q C
   split at h
   case h_2=>exact h.elim
   rename_i L r M
   cases da h
   refine gT fun I a w hw g=>?_
   have J:c.args= #[x,y,z]:=by apply Array.ext';simpa using A
   have v1:a.eval x= .int k p:=lr (B▸g x)
   have v2:a.eval y= .int l q:=lr (C▸g y)
   have v3:a.eval z= .int L r:=lr (M▸g z)
   refine⟨_,?_,lf I _ _⟩
   simp at F
   simp[execOp,H,resolve,F,invoke,builtin,Builtin.min_,Builtin.min2,J,v1,v2,v3]
 |true=>
  simp only[cK,show c.callee= .builtin .max from F]at h
  split at h
  case h_2=>exact h.elim
  rename_i x y A
  split at h
  case h_2=>exact h.elim
  rename_i k p B
  split at h
  case h_2=>exact h.elim
  rename_i l q C
  cases da h
  exact key x y k l p q A B C
def wE (a:Act) (d:Int) (x:Option Operand) (n:Int):Prop:=(x=none/\n=d)\/ ∃y k,x=some y/\a.eval y= .int k n
theorem vL {d:Int} {x:Option Operand} {f:Int->bk} {aE rt:List Nat} (h:(te d (x.map s.aQ) f).R s aE rt e aM):∃n,(f n).R s aE rt e aM/\∀c (a:Act),(∀y,bp c (s.aQ y) (a.eval y))->wE a d x n:=by
 cases x with
 |none=>exact⟨d,h,fun c a g=>.inl ⟨rfl,rfl⟩⟩
 |some y=>
  obtain⟨k,n,hy,h⟩:=zq (show(rL (s.aQ y) f).R s aE rt e aM from h)
  exact⟨n,h,fun c a g=>.inr ⟨y,k,rfl,lr (hy▸g y)⟩⟩
theorem TQ {P:Program} (w:World) (a:Act) (isSlice:Bool) (len cap:Nat) (lo hi:Option Operand) (l h:Int) (A:wE a 0 lo l) (B:wE a len hi h) (F:0<=l) (I:l<=h) (J:h<=(len:Int)) (L:len<=cap):
  (Instr.sliceBounds isSlice len cap (lo.map a.eval) (hi.map a.eval) none).run P w= .ok (l.toNat,h.toNat,cap) w:=by
 have G:h<=(cap:Int):=by omega
 have e:((h.toNat:Nat):Int)=h:=by omega
 have H:∀code,(match(hi.map a.eval)with|some v=>Instr.sliceBound v cap code|none=>pure len:Sem Nat).run P w= .ok h.toNat w:=fun code=>by
  rcases B with⟨rfl,rfl⟩|⟨y,k,rfl,hy⟩
  .simp
  .simp [hy,run_sliceBound (P:=P) w k h cap code (by omega) G]
 have g:∀code,(match(lo.map a.eval)with|some v=>Instr.sliceBound v h.toNat code|none=>pure 0:Sem Nat).run P w= .ok l.toNat w:=fun code=>by
  rcases A with⟨rfl,rfl⟩|⟨y,k,rfl,hy⟩
  .simp
  .simp [hy,run_sliceBound (P:=P) w k l h.toNat code F (by omega)]
 unfold Instr.sliceBounds
 simp only[Sem.run_bind,Sem.run_pure,Result.andThen_ok,Option.isSome_none,nY,if_false]
 rcases B with⟨rfl,rfl⟩|⟨y,k,rfl,hy⟩
 .have:=g .sliceB
  simp only[Option.map_none,Sem.run_pure,Result.andThen_ok,eg]at this⊢
  rcases A with⟨rfl,rfl⟩|⟨y,k,rfl,hy⟩<;>simp_all
 .have C:=H (if isSlice then .sliceAcap else .sliceAlen)
  have:=g .sliceB
  simp only[pe]at C
  simp only[pe,C,Result.andThen_ok]
  rcases A with⟨rfl,rfl⟩|⟨y,k,rfl,hy⟩<;>simp_all
theorem Ae {α:Type} {xs ys:List α} {l h:Int} (g:cut xs l h=some ys):0<=l/\l<=h/\h<=xs.length/\ys=(xs.take h.toNat).drop l.toNat:=by
 unfold cut at g
 split at g
 .rename_i A;cases g;exact⟨A.1,A.2.1,A.2.2,rfl⟩
 .cases g
def h1 (a:Option Addr) (cap l m:Nat):Option Addr:=if cap=l then a else a.map (·.add (l*m))
theorem DZ (T:TypeId) (x:Operand) (lo hi:Option Operand) (C:o.op= .slice T x lo hi none) (A:TypeId) (i:TypeInfo) (F:E.P.underlying T=some (.slice A)) (g:E.P.info? A=some i) (a:Act) (w:World) (B:Option Addr) (len cap:Nat) (G:a.eval x= .slice B len cap) (l h:Int)
  (H:wE a 0 lo l) (I:wE a len hi h) (J:0<=l) (L:l<=h) (M:h<=(len:Int)) (O:len<=cap):(execOp a.eval o).run E.P w= .ok (.value (.slice (h1 B cap l.toNat i.size) (h.toNat-l.toNat) (cap-l.toNat))) w:=by
 have Q:=TQ (P:=E.P) w a true len cap lo hi l h H I J L M O
 simp only[execOp,C,Instr.sliceAt,Sem.run_bind,run_underlying F,Result.andThen_ok,Instr.slice,G,Option.map_none,Q,sizeOf,typeInfo,run_program,g,Sem.run_pure,h1]
theorem L9 {w:World} {S:b0} {G:Option Addr} {cap:Nat} {r:aJ} {xs ys:List r.D} (J:bs w S (.slice G xs.length cap) (.ar (xs.map (enc r)))) (l h:Int) (L:cut xs l h=some ys):bs w S (.slice (h1 G cap l.toNat r.w) (h.toNat-l.toNat) (cap-l.toNat)) (.ar (ys.map (enc r))):=by
 obtain⟨T,U,H,rfl⟩:=Ae L
 obtain⟨a,iG,b,q,M,I,B,O,C,A⟩:=J.opened
 rw[dE]at I
 cases I
 have hlen:(((xs.take h.toNat).drop l.toNat).map (enc r)).length=h.toNat-l.toNat:=by simp;omega
 rw[<-hlen]
 rw[dE]at B
 have g:∀ {i:Nat} {row:List b6},(((xs.take h.toNat).drop l.toNat).map (enc r))[i]? =some row->(xs.map (enc r))[l.toNat+i]? =some row/\l.toNat+i<h.toNat:=fun {i row} hi=>by
  rw[iC,hV,hU]at hi
  split at hi
  .rw [iC];exact⟨hi, ‹_›⟩
  .simp at hi
 refine bs.mk (b:=b) (o:=q+l.toNat*r.w) (m:=r.w) (by rw[hlen];omega) (fun F=>?_) (fun i row hi=>?_) (fun i row hi=>?_)
 .have Q:l.toNat<h.toNat:=by
   rw[<-List.length_pos_iff,hlen]at F;omega
  have:=O (by intro e;rw[List.map_eq_nil_iff]at e;rw[e]at H;simp at H;omega)
  rw[this]
  unfold h1
  rw[aC (by omega)]
  simp[n9]
 .obtain ⟨g1,_⟩:=g hi
  obtain⟨y,_,rfl⟩:=cg.1 (fY g1)
  rw[et]
 .obtain ⟨g1,_⟩:=g hi
  have em:M=r.w:=by
   rw[<-C _ _ g1]
   obtain⟨y,_,rfl⟩:=cg.1 (fY g1)
   rw[et]
  have:=A _ _ g1
  rw[em]at this
  rw[show q+l.toNat*r.w+i*r.w=q+(l.toNat+i)*r.w from by rw[eE];omega]
  exact this
end
def gv (m n:Nat) (u:Nat->Nat->Value):List Value:=(List.range (n*m)).map fun t=>u (t/m) (t%m)
theorem tB (m n:Nat) (u:Nat->Nat->Value):(gv m n u).length=n*m:=by simp[gv]
theorem EF (m n:Nat) (u:Nat->Nat->Value) (i j:Nat) (hi:i<n) (g:j<m):(gv m n u)[i*m+j]? =some (u i j):=by
 have h:i*m+j<n*m:=by
  have:(i+1)*m<=n*m:=ek _ hi
  rw[eE]at this;omega
 have l:(i*m+j)/m=i:=by rw[lB,Nat.mul_add_div (by omega),Nat.div_eq_of_lt g];omega
 have A:(i*m+j)%m=j:=by rw[lB,Nat.mul_add_mod,Nat.mod_eq_of_lt g]
 simp[gv,h,l,A]
theorem Uy (m n:Nat) (hm:0<m) (u:Nat->Nat->Value) (t:Nat) (v:Value) (h:(gv m n u)[t]? =some v):t/m<n/\t%m<m/\v=u (t/m) (t%m)/\t=t/m*m+t%m:=by
 have B:t<n*m:=by have:=(dB.1 h).1;rwa[tB]at this
 have g:t/m<n:=(wx hm).2 B
 have l:t%m<m:=mg _ hm
 have A:t=t/m*m+t%m:=by rw[lB];exact(tR t m).symm
 refine⟨g,l,?_,A⟩
 have:=EF m n u _ _ g l
 rw[<-A,h]at this
 exact Option.some.inj this
structure Fh (w:World) (S:b0) (b o:Nat) (r:aJ) (xs:List r.D) (u:Nat->Nat->Value):Prop where
 cell:∀i j,i<xs.length->j<r.w->w.cell? ⟨b,o+i*r.w+j,none⟩=some (u i j)
 rep:∀(i j:Nat) (x:r.D) (p:b6),xs[i]? =some x->(enc r x)[j]? =some p->bs w S (u i j) p
theorem iD.gv {w:World} {S:b0} {v:Value} {r:aJ} {xs:List r.D} (h:iD w S v r xs):∃a cap b o u,v= .slice a xs.length cap/\xs.length<=cap/\(xs≠ []->a=some ⟨b,o,none⟩)/\Fh w S b o r xs u:=by
 obtain⟨a,cap,b,o,B,C,F,A⟩:=h.ex
 refine⟨a,cap,b,o,fun i j=>(w.cell? ⟨b,o+i*r.w+j,none⟩).getD undef,B,C,F,fun i j hi G=>?_,fun i j x p H I=>?_⟩
 .have g:j<(enc r xs[i]).length:=by rw[et];exact G
  obtain⟨u,l,_⟩:=A i j xs[i] (enc r xs[i])[j] (by simp[hi]) (by simp[g])
  simp[l]
 .obtain ⟨u,l,J⟩:=A i j x p H I
  simpa[l]using J
theorem Fh.one {w:World} {S:b0} {b o:Nat} {r:aJ} {xs:List r.D} {u:Nat->Nat->Value} (h:Fh w S b o r xs u) (hm:0<r.w):∀v,v∈gv r.w xs.length u->v.oneCell'=true:=by
 intro v g
 obtain⟨t,l,g⟩:=eb.1 g
 obtain⟨A,B,rfl,_⟩:=Uy r.w xs.length hm u t v (by rw[bG l,g])
 have C:t%r.w<(enc r xs[t/r.w]).length:=by rw[et];exact B
 exact(h.rep (t/r.w) (t%r.w) xs[t/r.w] ((enc r xs[t/r.w])[t%r.w]) (bG A) (by simp[C])).one
structure tS (w w':World) (e:TypeId) (m n k:Nat) (cells:List Value) (v fr:Value) (bz iG:Nat) (kK:Array Value):Prop where
 val:fr= .slice (some ⟨bz,0,none⟩) (n+k) iG
 heap:w'.heap[bz]? =some (.cells kK e (0,0))
 size:kK.size=iG*m
 fits:n+k<=iG
 LS:iG<=maxLen
 take:kK.toList.take ((n+k)*m)=cells
 os:w'.os=w.os
 tape:w'.tape=w.tape
 output:w'.output=w.output
 grow:w.heap.size<=w'.heap.size
 same:∀i,i<w.heap.size->i≠bz->w'.heap[i]? =w.heap[i]?
 place:bz=w.heap.size\/ ∃c,v= .slice (some ⟨bz,0,none⟩) n c
theorem TP {P:Program} (w:World) (t ty e:TypeId) (i:TypeInfo) (h:P.underlying t=some (.slice e)) (hi:P.info? e=some i) (a g:Option Addr) (n c c':Nat) (l:n<=c):
  (Builtin.append_ #[t,t] ty #[.slice a n c,.slice g 0 c']).run P w= .ok (.slice a n c) w:=by
 have A:(Builtin.firstCells i.size 0 (.slice g 0 c')).run P w= .ok #[] w:=by
  cases g<;>simp[Builtin.firstCells,loadCells,loadCellsFrom]
 cases a<;>simp[Builtin.append_,run_underlying h,sizeOf,typeInfo,hi,Builtin.lenOf,l,A,storeCells]
theorem TO {P:Program} {w:World} (t ty e T:TypeId) (i:TypeInfo) (C:P.underlying t=some (.slice e)) (hi:P.info? e=some i) (g n cap:Nat) (cur:Array Value) (F:w.heap[g]? =some (.cells cur T (0,0)))
  (a:Addr) (k c:Nat) (news:List Value) (G:news.length=k*i.size) (h:∀j u,news[j]? =some u->w.cell? (a.add j)=some u) (H:∀u∈news,u.oneCell'=true) (l:n+k<=cap) (A:n*i.size+news.length<=cur.size):
  (Builtin.append_ #[t,t] ty #[.slice (some ⟨g,0,none⟩) n cap,.slice (some a) k c]).run P w=
   .ok (.slice (some ⟨g,0,none⟩) (n+k) cap) (w.setRow g (cur.toList.take (n*i.size)++news++cur.toList.drop (n*i.size+news.length)).toArray):=by
 have I:=run_firstCells_some (P:=P) w i.size k a k c news G h
 have B:=run_storeCells_at P g (n*i.size) T news 0 cur w F (by simpa using A) H
 simp only[lC]at B
 simp[Builtin.append_,run_underlying C,sizeOf,typeInfo,hi,Builtin.lenOf,l,I,Addr.add_lit,B]
theorem aqz {P:Program} (w:World) (t ty e:TypeId) (i:TypeInfo) (z:Value) (m bytes:Nat) (M:P.underlying t=some (.slice e)) (hi:P.info? e=some i) (bL:i.zero=some z)
  (F:i.size=m) (O:i.bytes=bytes) (Q:z.cells.size=m) (v:Value) (n:Nat) (xs:List Value)
  (cV:(v= .slice none 0 0/\n=0)\/ ∃b cap U T,v= .slice (some ⟨b,0,none⟩) n cap/\w.heap[b]? =some (.cells U T (0,0))/\U.size=cap*m/\n<=cap/\cap<=maxLen/\U.toList.take (n*m)=xs) (C:xs.length=n*m)
  (a:Addr) (k c:Nat) (news:List Value) (bB:0<k) (G:news.length=k*m) (h:∀j u,news[j]? =some u->w.cell? (a.add j)=some u) (aG:∀u∈news,u.oneCell'=true)
  (uJ:n+k<=9223372036854775807) (A:(n+k)*bytes<=140737488355328):
  ∃fr w' dn bz iG kK,(Builtin.append_ #[t,t] ty #[v,.slice (some a) k c]).run P w= .ok fr w'/\tS w w' dn m n k (xs++news) v fr bz iG kK:=by
 subst F
 subst O
 have W:n+k<=maxLen:=by simp only[maxLen];omega
 have hlen:(xs++news).length=(n+k)*i.size:=by rw[bh,C,G,eE]
 have grown:∀cv,cv<n+k->tS w (w.drew.alloc (.cells (xs.toArray++news.toArray++Builtin.zeroCells z.cells (grownCap w (n+k) cv e-(n+k))) e)) e i.size n k (xs++news) v
   (.slice (some ⟨w.heap.size,0,none⟩) (n+k) (grownCap w (n+k) cv e)) w.heap.size (grownCap w (n+k) cv e) (xs.toArray++news.toArray++Builtin.zeroCells z.cells (grownCap w (n+k) cv e-(n+k))):=fun cv cC=>by
  have X:=grownCap_ge w (n+k) cv e
  refine⟨rfl,heap_alloc_new w.drew _,?_,X,grownCap_le_maxLen w (n+k) cv e W,?_,rfl,rfl,rfl,by simp,fun i hi _=>heap_alloc_old w.drew _ hi,.inl rfl⟩
  .simp only [Array.size_append,List.size_toArray,size_zeroCells,Q,C,G,<-eE]
   congr 1;omega
  .simp only [Array.toList_append,e5]
   rw[<-e5,<-hlen]
   exact List.take_left
 rcases cV with⟨rfl,rfl⟩|⟨g,cap,cur,T,rfl,Y,Z,nq,GQ,B⟩
 .have bb:xs=[]:=zt (by simpa using C)
  subst bb
  have H:=run_append_nil (P:=P) w t ty e i z M hi bL a k c news G h bB (by omega) (by have av:=A;simp only[gV]at av;omega)
  have J:=grown 0 (by omega)
  simp only[gV,fE,Array.empty_append]at J H⊢
  exact⟨_,_,_,_,_,_,H,J⟩
 .by_cases l:n+k<=cap
  .have L:n*i.size+news.length<=cur.size:=by rw[G,Z,<-eE];exact ek _ l
   have H:=TO (P:=P) (w:=w) t ty e T i M hi g n cap cur Y a k c news G h aG l L
   refine⟨_,_,T,g,cap,_,H,rfl,setRow_heap w g cur _ T _ Y,?_,l,GQ,?_,rfl,rfl,rfl,by simp[World.setRow],fun j _ I=>setRow_other w g j _ I,.inr ⟨cap,rfl⟩⟩
   .simp only [List.size_toArray,bh,bN,eF,lz]
    omega
   .rw [B,<-hlen]
    exact List.take_left
  .have holds:∀j u,xs[j]? =some u->w.cell? ((⟨g,0,none⟩:Addr).add j)=some u:=fun j u I=>by
    rw[uf,gV,cell_of_row w g j cur T (0,0) Y]
    rw[<-B,hU]at I
    split at I
    .simpa using I
    .cases I
   have H:=run_append_grow (P:=P) w t ty e i z M hi bL ⟨g,0,none⟩ n cap xs C holds a k c news G h (by omega) (by omega) (growslice_fits (by omega) A)
   exact⟨_,_,_,_,_,_,H,grown cap (by omega)⟩
theorem tS.cell {w w':World} {e:TypeId} {m n k:Nat} {l A:Nat->Nat->Value} {v fr:Value} {bz iG:Nat} {kK:Array Value} (h:tS w w' e m n k (gv m n l++gv m k A) v fr bz iG kK) (i j:Nat) (hi:i<n+k) (C:j<m):
  w'.cell? ⟨bz,i*m+j,none⟩=some (if i<n then l i j else A (i-n) j):=by
 have B:i*m+j<(n+k)*m:=by
  have:(i+1)*m<=(n+k)*m:=ek _ hi
  rw[eE]at this;omega
 have F:(gv m n l++gv m k A)[i*m+j]? =some (if i<n then l i j else A (i-n) j):=by
  by_cases g:i<n
  .rw [ai g,kN (by
    rw[tB]
    have:(i+1)*m<=n*m:=ek _ g
    rw[eE]at this;omega)]
   exact EF m n l i j g C
  .rw [aC g,lx (by
    rw[tB]
    have:n*m<=i*m:=ek _ (by omega)
    omega),tB]
   rw[show i*m+j-n*m=(i-n)*m+j from by
    have:n*m<=i*m:=ek _ (by omega)
    rw[Nat.sub_mul];omega]
   exact EF m k A _ j (by omega) C
 rw[cell_of_row w' bz _ kK e (0,0) h.heap,<-jQ]
 rw[<-h.take,hU,ai B]at F
 exact F
def vZ (wr:Bool) (S:b0) (bz r:Nat):b0:=fun b o=>S b o\/(wr=false/\b=bz/\o<r)
theorem tS.step {w w':World} {S:b0} {e:TypeId} {m n k:Nat} {C H:Nat->Nat->Value} {v fr:Value} {bz iG:Nat} {kK:Array Value} (wr:Bool) (h:tS w w' e m n k (gv m n C++gv m k H) v fr bz iG kK) (hm:0<m)
  (A:∀b o,S b o->b<w.heap.size) (I:∀o,S bz o->bz<w.heap.size->o<n*m) (hold:bz<w.heap.size->∀i j,i<n->j<m->w.cell? ⟨bz,i*m+j,none⟩=some (C i j)):
  Step (fun x=>x=bz/\x<w.heap.size) S (vZ wr S bz ((n+k)*m)) w w':=by
 have B:bz<w'.heap.size:=rj h.heap
 refine⟨⟨h.os,h.tape,h.output,h.grow,fun i hi J=>h.same i hi (fun e=>J ⟨e,hi⟩)⟩,fun b o g=>?_,fun b o g=>.inl g,fun b o g=>?_,fun b o g=>?_⟩
 .by_cases e:b=bz
  .subst e
   have l:=A b o g
   have L:=I o g l
   have F:o/m<n:=(wx hm).2 L
   have G:o%m<m:=mg _ hm
   have M:o=o/m*m+o%m:=by rw[lB];exact(tR o m).symm
   rw[M,h.cell (o/m) (o%m) (by omega) G,ai F,hold l _ _ F G]
  .exact World.cell?_of_block (w:=w) (h.same b (A b o g) e)
 .rcases g with g|⟨_,rfl,g⟩
  .exact .inl g
  .by_cases l:b<w.heap.size
   .exact .inr (.inr ⟨rfl,l⟩)
   .exact .inr (.inl (by omega))
 .rcases g with g|⟨_,rfl,g⟩
  .exact mc (A b o g) h.grow
  .exact B
theorem uq {r:aJ} (x:r.D) {j:Nat} (h:j<r.w):∃c,(cellsOf r x)[j]? =some c:=⟨_,bG (by rw[lN];exact h)⟩
theorem mq {r:aJ} {x:r.D} {j:Nat} {c:au} (h:(cellsOf r x)[j]? =some c):j<r.w:=by have:=(dB.1 h).1;rwa[lN]at this
theorem Deep.SL {w:World} {F:Nat->Prop} {v:Value} {r:aJ} {xs:List r.D} (h:Deep w F v (.af (.ar r) xs)):
  xs=[]\/ ∃(b cap:Nat) (u:Nat->Nat->Value) (q:Nat->Nat->Nat->Prop),v= .slice (some ⟨b,0,none⟩) xs.length cap/\F b/\(∀i j,i<xs.length->j<r.w->w.cell? ⟨b,i*r.w+j,none⟩=some (u i j))/\
   (∀i j k,q i j k->F k/\k≠b)/\(∀i j l A k,q i j k->q l A k->i=l/\j=A)/\∀(i j:Nat) (x:r.D) (c:au),xs[i]? =some x->(cellsOf r x)[j]? =some c->Deep w (q i j) (u i j) c:=by
 cases h with
 |lit _ _ _ _ p he B O=>cases he;cases B
 |nil _ _=>exact .inl rfl
 |ar _ cap _ _ u b q C T G H Q U W hu I J L=>
  refine .inr ⟨b,cap,u,q,rfl,G,fun i j hi M=>?_,I,J,L⟩
  obtain⟨c,g⟩:=uq xs[i] M
  rw[cell_of_row w b _ C T (0,0) H]
  exact hu i j xs[i] c (bG hi) g
theorem o5 {w:World} {S:b0} {v:Value} {p:b6} (h:bs w S v p) (g:p.isLit=true):v=fw p:=by
 cases h<;>first|rfl|cases g
theorem j7 :∀(t:aJ) (x:t.D),t.ct=true->∀p,p∈enc t x->p.isLit=true
 | .bool,x,_,p,g=>by simp[enc]at g;subst g;rfl
 | .int _,x,_,p,g=>by simp[enc]at g;subst g;rfl
 | .str,x,_,p,g=>by simp[enc]at g;subst g;rfl
 | .unit,_,_,p,g=>by simp[enc]at g
 | .pair a b,x,h,p,g=>by
  simp only[aJ.ct,a6]at h
  rcases cE.1 g with g|g
  .exact j7 a x.1 h.1 p g
  .exact j7 b x.2 h.2 p g
 | .ar _,_,h,_,_=>by cases h
 | .opt _,_,h,_,_=>by cases h
 | .q,_,h,_,_=>by cases h
theorem Deep.leaf {w:World} {S:b0} {F:Nat->Prop} {r:aJ} {x:r.D} (A:r.ct=true) {j:Nat} {c:au} (B:(cellsOf r x)[j]? =some c) {u:Value} (hu:∀p,(enc r x)[j]? =some p->bs w S u p):Deep w F u c:=by
 have g:=lM r x
 obtain⟨p,h,t,y,rfl,he⟩:=g.get j c B
 have l:=j7 r x A p (fY h)
 exact .lit F u t y p he l (o5 (hu p h) l)
theorem aqs {r:aJ} (xs:List r.D):∀row,row∈xs.map (enc r)->row.length=r.w:=fun row g=>by obtain⟨x,_,rfl⟩:=cg.1 g;exact et r x
theorem cn.plain {Fr:Nat->Prop} {w:World} {S:b0} {aa:Tok} {v:Value} {F:Nat->Prop} (h:cn Fr w S aa v F) (hw:aa.wr=false):aa.tr=none:=by
 have:=h.2.2
 unfold hE at this
 split at this
 .assumption
 .rw [this.1]at hw;cases hw
theorem cn.oi {Fr:Nat->Prop} {w:World} {S:b0} {aa:Tok} {v:Value} {F:Nat->Prop} (h:cn Fr w S aa v F) (g:aa.tr=none) (l:aa.deep=true):Deep w F v (.af (.ar aa.t) aa.xs):=by
 have:=h.2.2
 unfold hE at this
 rw[g]at this
 exact this l
theorem cn.rep {Fr:Nat->Prop} {w:World} {S:b0} {aa:Tok} {v:Value} {F:Nat->Prop} (h:cn Fr w S aa v F) (hw:aa.wr=false):bs w S v (.ar (aa.xs.map (enc aa.t))):=by
 have g:=h.plain hw
 obtain⟨_,h,_⟩:=h
 rcases h with⟨rfl,h⟩|⟨b,cap,l,T,e,Q,A,U,B,hm,C,G,H⟩
 .rw [h];exact DY
 .rw [e,show aa.xs.length=(aa.xs.map (enc aa.t)).length from by simp]
  refine bs.mk (b:=b) (o:=0) (m:=aa.t.w) (by simpa using B) (fun _=>rfl) (fun i row hi=>aqs aa.xs row (fY hi)) (fun i row hi j c I=>?_)
  rw[iC]at hi
  obtain⟨x,J,rfl⟩:=hT.1 hi
  obtain⟨u,L,M,O⟩:=H i j x c J I
  exact⟨by rw[gV];exact O hw,u,by rw[gV,cell_of_row w b _ l T (0,0) A];exact L,M g⟩
theorem Lx {P:Program} {R:ec} {w:World} {S:b0} {box:Nat->Option cm} {tok:Nat->Option bc} {β:Nat->Nat} {τ:Nat->Value} {F:Nat->Nat->Prop} (dI:Mem R box tok β τ F S w)
  (T ty e:TypeId) (i:TypeInfo) (z:Value) (r:aJ) (bytes:Nat) (az:P.underlying T=some (.slice e)) (hi:P.info? e=some i) (bL:i.zero=some z) (qZ:i.size=r.w) (nm:i.bytes=bytes) (jB:z.cells.size=r.w) (hm:0<r.w)
  (v bT:Value) (xs ys:List r.D) (wr LB TZ:Bool) (lD kR:Nat->Prop)
  (av:cn R.dt w S ⟨r,xs,e,wr,LB,none⟩ v lD) (aU:iD w S bT r ys)
  (Hg:TZ=true->r.ct=true\/(Deep w kR bT (.af (.ar r) ys)/\∀b,kR b->¬lD b)) (uW:∀b,kR b->R.dt b/\b<w.heap.size)
  (Zg:∀t aa b,tok t=some (.live aa)->lD b->¬F t b) (GN:∀k b,box k=some b->¬lD (β k))
  (Zi:(xs.length+ys.length)*bytes<=140737488355328) (uJ:xs.length+ys.length<=9223372036854775807):
  ∃fr w' S',(Builtin.append_ #[T,T] ty #[v,bT]).run P w= .ok fr w'/\Mem R box tok β τ F S' w'/\(∀live tok' Jo wB wC,Ctx.n6 ⟨w,S,live,β,tok',τ⟩ ⟨w',S',Jo,wB,tok',wC⟩)/\
   cn R.dt w' S' ⟨r,xs++ys,e,wr,LB&&TZ,none⟩ fr (fun b=>(lD b\/kR b\/w.heap.size<=b)/\b<w'.heap.size):=by
 have Zb:=av
 obtain⟨Q,AP,GM⟩:=av
 simp only at AP GM
 obtain⟨a2,px,a8,oR,pa,rfl,_,Y6,xg⟩:=aU.gv
 obtain⟨mn,W1,ew,pV,tD,aQ,Nj,AO,xf⟩:=(iD.yF Zb rfl).gv
 simp only at aQ Nj AO xf
 by_cases hd:ys=[]
 ·
  subst hd
  refine⟨_,w,S,by rw[aQ];exact TP w T ty e i az hi mn a2 xs.length W1 px Nj,dI,fun _ _ _ _ _=>⟨fun _ _ h=>h,fun _ _ _=>rfl⟩,fun b h=>⟨?_,h.2⟩,?_,fun bd=>?_⟩
  .rcases h.1 with l|l|l
   .exact (Q b l).1
   .exact (uW b l).1
   .exact .inl (dS dI.size l)
  .rw [<-aQ]
   rcases AP with h|⟨b,cap,us,dd,X,cT,q⟩
   .exact .inl (by simpa using h)
   .exact .inr ⟨b,cap,us,dd,by simpa using X,⟨.inl cT,(Q b cT).2⟩,by simpa using q⟩
  .rw [<-aQ]
   simp only[a6]at bd
   have:=(GM bd.1).mono (G:=fun b=>(lD b\/kR b\/w.heap.size<=b)/\b<w.heap.size) (fun b h=>⟨.inl h,(Q b h).2⟩)
   simpa using this
 .have XV:=Y6 hd
  subst XV
  have A:0<ys.length:=List.length_pos_iff.2 hd
  have Nu:∀b cap us dd,v= .slice (some ⟨b,0,none⟩) xs.length cap->w.heap[b]? =some (.cells us dd (0,0))->us.size=cap*r.w->xs.length<=cap->us.toList.take (xs.length*r.w)=gv r.w xs.length tD/\(xs≠ []->ew=b/\pV=0):=fun b cap us dd X bU bL bj=>by
   have mB:xs≠ []->ew=b/\pV=0:=fun M=>by
    have:=AO M
    rw[aQ]at X
    cases X
    rw[iB,Addr.mk.injEq]at this
    exact⟨this.1.symm,this.2.1.symm⟩
   refine⟨tO (fun t=>?_),mB⟩
   by_cases h4:t<xs.length*r.w
   .have l:t/r.w<xs.length:=(wx hm).2 h4
    have aX:t%r.w<r.w:=mg _ hm
    have bD:t=t/r.w*r.w+t%r.w:=by rw[lB];exact(tR t r.w).symm
    rw[hU,ai h4]
    have cN:=EF r.w xs.length tD _ _ l aX
    rw[<-bD]at cN
    rw[cN]
    obtain⟨av,O⟩:=mB (by intro M;rw[M]at l;simp at l)
    have dO:=xf.cell _ _ l aX
    rw[av,O,gV,<-bD,cell_of_row w b t us dd (0,0) bU,<-jQ]at dO
    exact dO
   .rw [kM (by simp;omega),kM (by rw[tB];omega)]
  have cV:(v= .slice none 0 0/\xs.length=0)\/ ∃b cap bT dd,v= .slice (some ⟨b,0,none⟩) xs.length cap/\w.heap[b]? =some (.cells bT dd (0,0))/\bT.size=cap*r.w/\xs.length<=cap/\cap<=maxLen/\bT.toList.take (xs.length*r.w)=gv r.w xs.length tD:=by
   rcases AP with⟨l,aX⟩|⟨b,cap,us,dd,X,cT,bU,bL,bj,NO,oA⟩
   .exact .inl ⟨l,by rw[aX];rfl⟩
   .exact .inr ⟨b,cap,us,dd,X,bU,bL,bj,NO,(Nu b cap us dd X bU bL bj).1⟩
  have Z8:∀j u,(gv r.w ys.length pa)[j]? =some u->w.cell? ((⟨a8,oR,none⟩:Addr).add j)=some u:=fun j u bV=>by
   obtain⟨l,aX,rfl,bD⟩:=Uy r.w ys.length hm pa j u bV
   rw[uf]
   have:=xg.cell _ _ l aX
   rw[mY,<-bD]at this
   exact this
  obtain⟨fr,w',dn,bz,iG,kK,jf,I⟩:=aqz (P:=P) w T ty e i z r.w bytes az hi bL qZ nm jB v xs.length (gv r.w xs.length tD) cV (tB _ _ _) ⟨a8,oR,none⟩ ys.length px (gv r.w ys.length pa) A (tB _ _ _) Z8 (xg.one hm) uJ Zi
  have g:(bz=w.heap.size)\/(bz<w.heap.size/\lD bz/\(∀o,S bz o->wr=false/\o<xs.length*r.w)/\(xs≠ []->ew=bz/\pV=0)):=by
   rcases I.place with h|⟨c,h⟩
   .exact .inl h
   .right
    rcases AP with⟨l,_⟩|⟨b,cap,us,dd,X,cT,bU,bL,bj,NO,oA,k7,_⟩
    .rw [l]at h;cases h
    .rw [X]at h
     cases h
     refine⟨(Q _ cT).2,cT,fun o O=>?_,(Nu _ _ us dd X bU bL bj).2⟩
     cases wr with
     |false=>exact⟨rfl,oA rfl o O⟩
     |true=>exact absurd O (k7 rfl o)
  have Za:R.dt bz:=by
   rcases g with h|h
   .rw [h];exact .inl dI.size
   .exact (Q _ h.2.1).1
  have Nf:bz<w'.heap.size:=rj I.heap
  have B:=I.step (S:=S) wr hm dI.lt (fun o O gr=>by
    rcases g with h|h
    .omega
    .exact (h.2.2.1 o O).2) (fun gr i j hi bV=>by
    rcases g with h|h
    .omega
    .have J:xs≠ []:=by intro M;rw[M]at hi;simp at hi
     have:=xf.cell i j hi bV
     rw[(h.2.2.2 J).1,(h.2.2.2 J).2,gV]at this
     exact this)
  have Nk:∀(i j:Nat) (x:r.D) (p:b6),(xs++ys)[i]? =some x->(enc r x)[j]? =some p->∃u,kK[i*r.w+j]? =some u/\bs w' (vZ wr S bz ((xs.length+ys.length)*r.w)) u p/\u=(if i<xs.length then tD i j else pa (i-xs.length) j)/\i*r.w+j<(xs.length+ys.length)*r.w:=fun i j x p L cp=>by
   have uR:i<xs.length+ys.length:=by have:=(dB.1 L).1;simpa using this
   have A4:j<r.w:=by have:=(dB.1 cp).1;rwa[et]at this
   have C:=I.cell i j uR A4
   rw[cell_of_row w' bz _ kK dn (0,0) I.heap]at C
   refine⟨_,C,?_,rfl,?_⟩
   .by_cases Y:i<xs.length
    .rw [ai Y]
     rw[kN Y]at L
     exact(xf.rep i j x p L cp).mono B.cv B.cell
    .rw [aC Y]
     rw[lx (by omega)]at L
     exact(xg.rep _ j x p L cp).mono B.cv B.cell
   .have:(i+1)*r.w<=(xs.length+ys.length)*r.w:=ek _ uR
    rw[eE]at this;omega
  refine⟨fr,w',vZ wr S bz ((xs.length+ys.length)*r.w),jf,dI.step B (fun k A=>A.1▸Za) (fun k b A L=>?_) (fun t aa h4 k cT L=>?_),fun live tok' Jo wB wC=>⟨B.cv,B.cell⟩,fun b h=>⟨?_,h.2⟩,.inr ⟨bz,iG,kK,dn,?_,⟨?_,Nf⟩,I.heap,I.size,?_,I.LS,fun hw o O=>?_,fun hw o O=>?_,fun i j x p L cp=>?_⟩,fun bd=>?_⟩
  .rcases g with h|h
   .have:=L.2;omega
   .exact GN k b A (L.1▸h.2.1)
  .rcases g with h|h
   .have:=L.2;omega
   .exact Zg t aa k h4 (L.1▸h.2.1) cT
  .rcases h.1 with l|l|l
   .exact (Q b l).1
   .exact (uW b l).1
   .exact .inl (dS dI.size l)
  .rw [I.val];simp
  .rcases g with h|h
   .exact .inr (.inr (by omega))
   .exact .inl h.2.1
  .simpa using I.fits
  .simp only [bh]
   rcases O with O|⟨_,_,O⟩
   .rcases g with h|h
    .have:=dI.lt _ _ O;omega
    .have l:=(h.2.2.1 o O).2
     have:xs.length*r.w<=(xs.length+ys.length)*r.w:=ek _ (by omega)
     omega
   .exact O
  .simp only at hw
   rcases O with O|⟨h,_,_⟩
   .rcases g with h|h
    .have:=dI.lt _ _ O;omega
    .have:=(h.2.2.1 o O).1;rw[hw]at this;cases this
   .rw [hw]at h;cases h
  .obtain ⟨u,l,aX,_,cN⟩:=Nk i j x p L cp
   exact⟨u,l,fun _=>aX,fun hw=>.inr ⟨hw,rfl,cN⟩⟩
  ·
   simp only[a6]at bd
   obtain⟨GV,nn⟩:=bd
   have j8:=GM GV
   have j8:Deep w lD v (.af (.ar r) xs):=j8
   obtain⟨l4,U,aaf,aae⟩:∃q:Nat->Nat->Nat->Prop,(∀i j k,q i j k->lD k/\k<w.heap.size/\k≠bz)/\(∀i j eO db k,q i j k->q eO db k->i=eO/\j=db)/\
     ∀(i j:Nat) (x:r.D) (c:au),xs[i]? =some x->(cellsOf r x)[j]? =some c->Deep w (q i j) (tD i j) c:=by
    rcases j8.SL with he|⟨b,cap,u,q,X,hx,C,H,Hc,Hb⟩
    .exact ⟨fun _ _ _=>False,fun _ _ _ h=>h.elim,fun _ _ _ _ _ h=>h.elim,fun i j x c M _=>by rw[he]at M;simp at M⟩
    .refine ⟨q,fun i j k A=>⟨(H i j k A).1,(Q _ (H i j k A).1).2,fun uB=>?_⟩,Hc,fun i j x c M bF=>?_⟩
     .rcases g with h|h
      .have:=(Q _ (H i j k A).1).2;omega
      .have J:b=bz:=by
        by_cases M:xs=[]
        .rcases I.place with k2|⟨c',k2⟩
         .omega
         .rw [X]at k2;cases k2;rfl
        .have:=AO M
         rw[X]at aQ
         cases aQ
         rw[iB,Addr.mk.injEq]at this
         rw[this.1];exact(h.2.2.2 M).1
       exact(H i j k A).2 (by rw[J];exact uB)
     .have Z:i<xs.length:=(dB.1 M).1
      have mC:j<r.w:=mq bF
      have l:=C i j Z mC
      have aX:=xf.cell i j Z mC
      have J:xs≠ []:=by intro h;rw[h]at Z;simp at Z
      have:=AO J
      rw[X]at aQ
      cases aQ
      rw[iB,Addr.mk.injEq]at this
      rw[<-this.1,<-this.2.1,gV]at aX
      rw[aX]at l
      rw[Option.some.inj l]
      exact Hb i j x c M bF
   obtain⟨jH,W,aah,aag⟩:∃q:Nat->Nat->Nat->Prop,(∀i j k,q i j k->kR k/\¬lD k/\k<w.heap.size/\k≠bz)/\(∀i j eO db k,q i j k->q eO db k->i=eO/\j=db)/\
     ∀(i j:Nat) (x:r.D) (c:au),ys[i]? =some x->(cellsOf r x)[j]? =some c->Deep w (q i j) (pa i j) c:=by
    rcases Hg nn with nn|⟨nn,AY⟩
    .exact ⟨fun _ _ _=>False,fun _ _ _ h=>h.elim,fun _ _ _ _ _ h=>h.elim,fun i j x c M bF=>.leaf (S:=S) nn bF (fun p cp=>xg.rep i j x p M cp)⟩
    .rcases nn.SL with he|⟨b,cap,u,q,X,hx,C,H,Hc,Hb⟩
     .exact absurd he hd
     .cases X
      refine⟨q,fun i j k A=>⟨(H i j k A).1,AY _ (H i j k A).1,(uW _ (H i j k A).1).2,fun uB=>?_⟩,Hc,fun i j x c M bF=>?_⟩
      .rcases g with h|h
       .have:=(uW _ (H i j k A).1).2;omega
       .exact AY _ (H i j k A).1 (uB▸h.2.1)
      .have Z:i<ys.length:=(dB.1 M).1
       have mC:j<r.w:=mq bF
       have l:=C i j Z mC
       have aX:=xg.cell i j Z mC
       rw[gV]at aX
       rw[aX]at l
       rw[Option.some.inj l]
       exact Hb i j x c M bF
   rw[I.val,show xs.length+ys.length=(xs++ys).length from by simp]
   refine .ar _ iG r (xs++ys) (fun i j=>if i<xs.length then tD i j else pa (i-xs.length) j) bz (fun i j k=>if i<xs.length then l4 i j k else jH (i-xs.length) j k) kK dn ⟨?_,Nf⟩ I.heap I.size (by simpa using I.fits) I.LS
    (fun i j x c L bF=>?_) (fun i j k A=>?_) (fun i j eO db k A kD=>?_) (fun i j x c L bF=>?_)
   .rcases g with h|h
    .exact .inr (.inr (by omega))
    .exact .inl h.2.1
   .obtain ⟨p,cp⟩:∃p,(enc r x)[j]? =some p:=⟨_,bG (by rw[et];exact mq bF)⟩
    obtain⟨u,l,_,bD,_⟩:=Nk i j x p L cp
    rw[l,bD]
   .split at A
    .have:=U i j k A;exact⟨⟨.inl this.1,mc this.2.1 I.grow⟩,this.2.2⟩
    .have:=W _ j k A;exact⟨⟨.inr (.inl this.1),mc this.2.2.1 I.grow⟩,this.2.2.2⟩
   .split at A<;>split at kD
    .exact aaf i j eO db k A kD
    .exact absurd (U i j k A).1 (W _ db k kD).2.1
    .exact absurd (U eO db k kD).1 (W _ j k A).2.1
    .have:=aah _ j _ db k A kD;exact⟨by omega,this.2⟩
   .by_cases Y:i<xs.length
    .simp only [Y,if_true]
     rw[kN Y]at L
     exact(aae i j x c L bF).same (fun k A=>I.same k (U i j k A).2.1 (U i j k A).2.2)
    .simp only [Y,if_false]
     rw[lx (by omega)]at L
     exact(aag _ j x c L bF).same (fun k A=>I.same k (W _ j k A).2.2.1 (W _ j k A).2.2.2)
section
variable {E : Env} {o : Oper} {s : aY} {e : bP} {aM : dc}
theorem tx {α:Type} (l m:List α) (off:Nat) (h:off+m.length<=l.length) (k:Nat):(l.take off++m++l.drop (off+m.length))[k]? =if off<=k/\k<off+m.length then m[k-off]? else l[k]? :=by
 by_cases g:k<off
 .rw [aC (by omega),e5,kN (by simp;omega),hU,ai g]
 .by_cases A:k<off+m.length
  .rw [ai ⟨by omega,A⟩,kN (by simp;omega),lx (by simp;omega)]
   simp;congr 1;omega
  .rw [aC (by omega),lx (by simp;omega),hV]
   simp;congr 1;omega
theorem Yn (off:Nat) (l:List Value) (cs:Array Value) (h:off+l.length<=cs.size):
  ((l.zipIdx 0).foldl (fun cs (x:Value×Nat)=>cs.setIfInBounds (off+x.2) x.1) cs).toList=cs.toList.take off++l++cs.toList.drop (off+l.length):=by
 obtain⟨B,A⟩:=Go.Great.foldl_set off l 0 cs
 apply tO
 intro k
 rw[tx _ _ _ (by simpa using h)]
 have:=A k
 rw[<-jQ]at this
 rw[this]
 by_cases g:off<=k/\k<off+l.length
 .rw [ai ⟨by omega,by omega,by omega⟩,ai g];rfl
 .rw [aC g,aC (by omega)];simp
theorem bx.Uk {α β:Type} {P:α->β->Prop} {xs:List α} {ys:List β} (h:bx P xs ys) {zs:List α} {us:List β} (g:bx P zs us) (off:Nat):bx P (xs.take off++zs++xs.drop (off+zs.length)) (ys.take off++us++ys.drop (off+us.length)):=by
 rw[g.len]
 exact((h.take off).append g).append (h.drop _)
theorem Mz {c:Ctx} {a:Act} (l:∀y,bp c (s.aQ y) (a.eval y)) (jk:List (Nat×Nat)):∀(parts:List (Nat×Operand)) (cells:List au) (g:Array Value) (cs:List au),bx (ed c) cells g.toList->w8 jk cells (parts.map fun q=>(q.1,s.aQ q.2))=some cs->
  ∃B,Instr.fill (jk.toArray[·]?) g (parts.map fun q=>(q.1,a.eval q.2))=some B/\bx (ed c) cs B.toList
 | [],cells,g,cs,C,h=>by simp[w8]at h;subst h;exact⟨g,by simp[Instr.fill],C⟩
 |(i,x)::rest,cells,g,cs,C,h=>by
  simp only[cw,w8]at h
  cases F:jk[i]? with
  |none=>simp[F]at h
  |some os=>
   obtain⟨off,size⟩:=os
   cases G:(s.aQ x).cells? with
   |none=>simp[F,G]at h
   |some ds=>
    simp only[F,G]at h
    split at h
    case isFalse=>cases h
    case isTrue H=>
    obtain⟨hlen,hle⟩:=H
    have Q:=ur G (l x)
    have I:=Q.len
    have J:=C.len
    have U:(a.eval x).cells.size=size:=by rw[<-hlen,I];simp
    have A:off+(a.eval x).cells.toList.length<=g.size:=by simp at J⊢;omega
    have L:=Yn off (a.eval x).cells.toList g A
    obtain⟨B,T,M⟩:=Mz l jk rest _ ((a.eval x).cells.zipIdx.foldl (fun cs (x:Value×Nat)=>cs.setIfInBounds (off+x.2) x.1) g) cs (by
     rw[<-Array.foldl_toList,Array.toList_zipIdx,L,<-hlen]
     exact C.Uk Q off) h
    refine⟨B,?_,M⟩
    simp only[cw,Instr.fill]
    have O:jk.toArray[i]? =some (off,size):=by simpa using F
    rw[O]
    simp only[]
    rw[aC (by simp at A⊢;omega)]
    exact T
theorem aqW (J:eG E) (T:TypeId) (parts:Array (Nat×Operand)) (H:o.op= .build T parts) (h:(cK E o.op o.dst s.aQ).R s [] [] e aM):cX E o s e:=by
 rw[H]at h
 simp only[cK]at h
 split at h
 case h_2=>exact h.elim
 rename_i ty A
 have I:=J.ty T ty A
 split at h
 case h_2=>exact h.elim
 rename_i Y ol cs g L
 cases da h
 refine gT fun c a w hw B=>?_
 obtain⟨i,z,hi,M,O,Q,C⟩:=I.info
 obtain⟨fields,hu,U⟩:=I.jk (by rw[g];simp)
 obtain⟨l,F,G⟩:=Mz B ty.jk parts.toList ty.zero z.cells cs (C c) L
 have W:E.P.built T (parts.map fun q=>(q.1,a.eval q.2)).toList=some l:=by
  simp only[Program.built,hi,hu,O,U,Array.toList_map]
  exact F
 refine⟨.agg l,?_,l.toList,by simp,G⟩
 have X:=run_build (P:=E.P) w T (parts.map fun q=>(q.1,a.eval q.2)) l W
 simp only[execOp,H,Sem.run_bind]
 rw[X];rfl
theorem mK {c c':Ctx} (h:c.n6 c') (g:gn c c') (l:hq c c') {a:Act} (A:∀i,bp c (dU s.L i) (a.tmps.getD i undef)):∀i,bp c' (dU s.L i) (a.tmps.getD i undef):=fun i=>(A i).mono h g l
theorem TX {w w':World} {S S':b0} {tok:Nat->Option bc} {β:Nat->Nat} {τ:Nat->Value} (B:Below w.heap.size w w') (C:∀b o,S b o->b<w.heap.size) (F:∀b o,S b o->S' b o) (live:Nat->Prop) (tok':Nat->Option bc) (g:Nat->Prop) (l:Nat->Nat) (A:Nat->Value):
  Ctx.n6 ⟨w,S,live,β,tok,τ⟩ ⟨w',S',g,l,tok',A⟩:=⟨F,fun b o h=>(r0 B).1 b o (C b o h)⟩
theorem Uf (d:Nat) (g:gC d=false) (J:o.dst=some d) (L:aZ s.B d=none) (l:E.res d=false) (cs:List au) (T:TypeId)
  (h:∀c (a:Act) w,c.w=w->(∀y,bp c (s.aQ y) (a.eval y))->∃A:List Value,(execOp a.eval o).run E.P w= .ok (.value (.pointer (some ⟨w.heap.size,0,none⟩))) (w.alloc (.cells A.toArray T))/\bx (ed c) cs A):cX E o s ⟨.box d 0,[(d,⟨false,cs⟩)],[]⟩:=by
 rintro R a w C ⟨β,τ,F,S,M,W,G,O⟩ K Q X
 obtain⟨A,Y,Z⟩:=h (s.ctx w S β τ) a w rfl (hZ O)
 have H:=M.aoF d g L (C.oc l) T A cs Z
 have av:Below w.heap.size w (w.alloc (.cells A.toArray T)):=(Below.refl _ _).alloc (bE _) _
 refine jO Y (X _ _ (ki (e:=⟨.box d 0,[(d,⟨false,cs⟩)],[]⟩) H W G (mK (TX av M.lt (fun _ _ h=>h) _ _ _ _ _) (fun k U=>?_) (hq.refl rfl rfl) O) o.dst (.inr ⟨?_,by simp[Kr g]⟩)))
 .have I:k≠d:=fun e=>U (e▸L)
  show updB (aZ s.B) d _ k≠none/\(if k=d then _ else β k)=β k
  simp only[updB,I,if_false]
  exact⟨U,trivial⟩
 .show updB (aZ s.B) d _ d≠none
  simp[updB]
theorem aqR (F:eG E) (T:TypeId) (C:o.op= .alloc T) (h:(cK E o.op o.dst s.aQ).R s [] [] e aM):cX E o s e:=by
 rw[C]at h
 simp only[cK]at h
 split at h
 case h_2=>exact h.elim
 rename_i d ty l A
 simp only[bk.R]at h
 split at h
 case h_2=>exact h.elim
 rename_i G
 split at h
 case isTrue=>exact h.elim
 rename_i g
 obtain⟨rfl,_⟩:=h
 simp only[lu,not_or,Bool.not_eq_true]at g
 exact Uf d g.2 l G g.1 ty.zero T fun c a w hw H=>by
  obtain⟨i,z,hi,I,J,L,B⟩:=(F.ty T ty A).info
  refine⟨z.cells.toList,?_,B c⟩
  simp[execOp,C,Instr.alloc,zeroValue,typeInfo,hi,J,newVar,newRow]
theorem aqV (T:TypeId) (x:Operand) (A:o.op= .box T x) (h:(cK E o.op o.dst s.aQ).R s [] [] e aM):cX E o s e:=by
 rw[A]at h
 simp only[cK]at h
 split at h
 case h_2=>exact h.elim
 rename_i d ty cs g C F
 simp only[bk.R]at h
 split at h
 case h_2=>exact h.elim
 rename_i G
 split at h
 case isFalse=>exact h.elim
 rename_i B
 obtain⟨rfl,_⟩:=h
 exact Uf d B.2.2 g G B.2.1 cs T fun c a w hw l=>by
  refine⟨(a.eval x).cells.toList,?_,ur F (l x)⟩
  simp[execOp,A,Instr.box,newVar,newRow]
theorem arj (cd:eG E) (T:TypeId) (x y:Operand) (cC:o.op= .store T x y) (ty:bt) (J:E.ty T=some ty) (k q:Nat) (g:gC k=false) (bb:s.aQ x= .box k q) (cs ys:List au) (Z:aZ s.B k=some ⟨false,cs⟩) (hy:(s.aQ y).cells? =some ys) (bj:ys.length=ty.size) (dy:q+ty.size<=cs.length) (l:o.dst=none):
  cX E o s ⟨.bR [],[(k,⟨false,cs.take q++ys++cs.drop (q+ty.size)⟩)],[]⟩:=by
 rintro R a w e3 ⟨β,τ,F,S,dI,L,M,aU⟩ K Q dP
 have A:=hZ aU
 have h:=A x
 rw[bb]at h
 have cp:a.eval x= .pointer (some ⟨β k,q,none⟩):=(wk g h).2
 have O:=ur hy (A y)
 obtain⟨aG,aX,_,il⟩:=dI.boxes k _ Z
 obtain⟨C,dd,bD,U⟩:=il.cells g
 obtain⟨i,z,hi,G,_⟩:=(cd.ty T ty J).info
 have bK:=O.len
 have W:=U.len
 simp only at U W
 have X:bx (ed (s.ctx w S β τ)) (cs.take q++ys++cs.drop (q+ty.size)) (C.take q++(a.eval y).cells.toList++C.drop (q+(a.eval y).cells.toList.length)):=by
  rw[<-bj];exact U.Uk O q
 obtain⟨Y,hle⟩:=dI.aqK k g cs _ Z _ X
 have H:∀v∈(a.eval y).cells.toList,v.oneCell'=true:=fun v cV=>by
  obtain⟨j,bV,rfl⟩:=eb.1 cV
  exact(O.get' j (ys[j]'(by omega)) _ (by simp) (by simp)).2
 have I:=run_storeCells_at E.P (β k) q dd (a.eval y).cells.toList 0 C.toArray w bD (by simp at bK⊢;omega) H
 have cG:(execOp a.eval o).run E.P w= .ok .skip (w.setRow (β k) (C.take q++(a.eval y).cells.toList++C.drop (q+(a.eval y).cells.toList.length)).toArray):=by
  have bL:(a.eval y).cells.size=i.size:=by rw[G,<-bj,bK];simp
  simp only[lC]at I
  simp only[execOp,cC,Instr.storeAt,cp,Instr.sureAddr,storeVar,sizeOf,typeInfo,hi,Sem.run_bind,Sem.run_pure,Result.andThen_ok,run_program]
  simp[hi,bL,I]
 refine K5 cG (dP _ _ (ki (e:=⟨.bR [],[(k,⟨false,cs.take q++ys++cs.drop (q+ty.size)⟩)],[]⟩) Y L M (mK hle (fun j bV=>⟨?_,rfl⟩) (hq.refl rfl rfl) aU) o.dst (.inl l)))
 show updB (aZ s.B) k _ j≠none
 simp only[updB]
 split
 .simp
 .exact bV
def eS (tok:Nat->Option bc) (l:List Nat):Nat->Option bc:=fun t=>if t∈l then some .ej else tok t
theorem jo {tok:Nat->Option bc} {l:List Nat} {t:Nat} {aa:Tok} (h:eS tok l t=some (.live aa)):t∉l/\tok t=some (.live aa):=by
 unfold eS at h
 split at h
 .cases h
 .exact ⟨‹_›,h⟩
theorem o7 {tok:Nat->Option bc} {l:List Nat} {t:Nat} (h:tok t≠none):eS tok l t≠none:=by
 unfold eS;split
 .simp
 .exact h
theorem Ex :∀(l:List Nat) (tok:Nat->Option bc),(l.map fun t=>(t,some bc.ej)).foldl (fun f x=>updT f x.1 x.2) tok=eS tok l
 | [],tok=>by funext t;simp[eS]
 |t::l,tok=>by
  simp only[cw,eZ,Ex l]
  funext j
  simp only[eS,updT,bn]
  by_cases g:j∈l<;>by_cases h:j=t<;>simp_all
def nG (d:Nat) (aa:Tok):au:=if aa.wr then .ay d else .own d aa.t aa.xs
theorem cn.cell {Fr:Nat->Prop} {w:World} {S:b0} {aa:Tok} {v:Value} {F:Nat->Prop} (h:cn Fr w S aa v F):v.oneCell'=true:=by
 rcases h.2.1 with⟨rfl,_⟩|⟨_,_,_,_,rfl,_⟩<;>rfl
theorem ao8 {c:Ctx} {Fr:Nat->Prop} {d:Nat} {aa:Tok} {v:Value} {G:Nat->Prop} (h:cn Fr c.w c.S aa v G) (l:c.tok d=some (.live aa)) (g:c.τ d=v):bp c (nG d aa) v:=by
 unfold nG
 cases hw:aa.wr with
 |true=>exact⟨h.cell,by rw[l];simp,fun A _=>g.symm⟩
 |false=>
  refine⟨h.rep hw,by rw[l];simp,fun A B=>?_⟩
  rw[l]at B
  cases B
  exact⟨hw,g.symm,rfl⟩
theorem rC {R:ec} {w w':World} {S S':b0} {a:Act} {β:Nat->Nat} {τ:Nat->Value} {F:Nat->Nat->Prop} (l:List Nat) (dI:Mem R (aZ s.B) (eS (aH s.T) l) β τ F S' w') (bj:a.tmps.size=s.L.length) (H:a.defers=[]) (aU:∀i,bp (s.ctx w S β τ) (dU s.L i) (a.tmps.getD i undef))
  (hle:∀live tok' A I J,Ctx.n6 ⟨w,S,live,β,tok',τ⟩ ⟨w',S',A,I,tok',J⟩) (d:Nat) (bd:aH s.T d=none) (M:R.gw d=none) (aa:Tok) (fr:Value) (G:Nat->Prop) (bB:cn R.dt w' S' aa fr G) (O:aa.whole=true) (qR:∀t g b,t∉l->aH s.T t=some (.live g)->G b->¬F t b) (Q:∀k b,aZ s.B k=some b->¬G (β k)) (dst:Option Nat)
  (U:d∉l) (es:List (Nat×Option bc)) (W:es=l.map fun t=>(t,some bc.ej)):Rel R (s.app dst ⟨nG d aa,[],es++ [(d,some (.live aa))]⟩) (a.put dst fr) w':=by
 subst W
 have X:eS (aH s.T) l d=none:=by unfold eS;rw[aC U];exact bd
 have Y:=dI.nC d X M aa fr G bB O (fun t g b C bU=>qR t g b (jo C).1 (jo C).2 bU) Q
 have hu:(⟨nG d aa,[],(l.map fun t=>(t,some bc.ej))++ [(d,some (.live aa))]⟩:bP).updT (aH s.T)=updT (eS (aH s.T) l) d (some (.live aa)):=by
  simp only[bP.updT,hW,Ex,eZ,List.foldl_nil]
 have aG:=hle (fun _=>True) (aH s.T) (fun _=>True) β τ
 have Z:∀i,bp ⟨w',S',fun k=>aZ s.B k≠none,β,updT (eS (aH s.T) l) d (some (.live aa)),fun t=>if t=d then fr else τ t⟩ (dU s.L i) (a.tmps.getD i undef):=
  mK (c:=s.ctx w S β τ) (c':=⟨w',S',fun k=>aZ s.B k≠none,β,updT (eS (aH s.T) l) d (some (.live aa)),fun t=>if t=d then fr else τ t⟩) ⟨aG.S,aG.w⟩ (gn.refl rfl rfl) (fun t C=>by
   have e:t≠d:=fun e=>C (e▸bd)
   simp only[updT,e,if_false]
   exact⟨o7 C,fun g h=>⟨g,(jo h).2,rfl,rfl,fun hw=>⟨hw,rfl⟩⟩⟩) aU
 exact ki (e:=⟨nG d aa,[],(l.map fun t=>(t,some bc.ej))++ [(d,some (.live aa))]⟩) (by rw[hu];exact Y) bj H (by rw[hu];exact Z) dst (.inr (ao8 (Fr:=R.dt) (G:=G) bB (by simp only[hu,updT,if_true]) (by simp)))
theorem Du {d:Nat} {r:aJ} {xs:List r.D} {g:TypeId} {deep:Bool} {es:List (Nat×Option bc)} {aE rt:List Nat} (h:(nC E d r xs g deep es).R s aE rt e aM):
  aH s.T d=none/\(∀y,y∈es->y.1≠d)/\E.res d=false/\e=⟨nG d ⟨r,xs,g,E.wr d,deep,none⟩,[],es++ [(d,some (.live ⟨r,xs,g,E.wr d,deep,none⟩))]⟩:=by
 unfold nC at h
 simp only[bk.R]at h
 split at h
 .exact h.elim
 .rename_i A
  split at h
  .exact h.elim
  .rename_i l
   simp only[lu,not_or,Bool.not_eq_true]at l
   refine⟨A,fun y hy e=>?_,l.2,?_⟩
   .have:=qg.1 l.1 y hy
    simp[e]at this
   .unfold nG
    split at h
    .rename_i hw;simp only[hw,if_true];exact h.1
    .rename_i hw;simp only[Bool.not_eq_true]at hw;rw[hw];exact h.1
end
end Go.Proofs.YtnkagklajgimlaaGreatDoor
