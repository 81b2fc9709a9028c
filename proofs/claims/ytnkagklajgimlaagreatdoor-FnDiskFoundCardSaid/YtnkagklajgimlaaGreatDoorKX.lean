
import Derived.Test.YtnkagklajgimlaaGreatDoorKW
set_option linter.unusedSimpArgs false
set_option linter.unusedVariables false
namespace Go.Proofs.YtnkagklajgimlaaGreatDoor
open Go.RowKit
section
variable {E : Env} {o : Oper} {s : aX} {e : bO} {aK : c6}
theorem ahq (b9:eA E) (h:(cF E o.op o.dst s.aP).R s [] [] e aK):cR E o s e:=by
 cases u:o.op with
 |move x=>rw[u]at h;cases cY h;exact RS x (.inl u)
 |assign x=>rw[u]at h;cases cY h;exact RS x (.inr u)
 |pick c a b=>exact amN c a b u h
 |alloc T=>exact amo b9 T u h
 |box T x=>exact ams T x u h
 |build T parts=>exact amt b9 T parts u h
 |buildSlice T len parts=>exact agX b9 T len parts u (fun d ty K r A cs xs v z F G I M O Q EZ=>amu b9 T len parts u d ty K r A cs xs v z F G I M O Q EZ) h
 |load T x=>exact amI b9 T x u (fun ty n i q aa aS v z F G I=>amJ b9 T x u ty n i q aa aS v z F G I) (fun y k v z=>amQ y k v z) (fun ty g v z F=>amC b9 T x u ty g v z F) h
 |store T x y=>exact afD b9 T x y u (fun ty n i q aa aS ys v z F G I M O Q=>amP b9 T x y u ty n i q aa aS ys v z F G I M O Q) h
 |makeSlice T l c=>exact amL b9 T l c u h
 |nilCheck x=>exact amM x u h
 |binOp op T x y t=>
  have C:=h
  rw[u]at C
  simp only[cF]at C
  split at C
  .rename_i xs ys U
   exact amn b9 op T x y t u xs ys U C
  .exact amr b9 op T x y t u C
 |unOp op T x=>exact amR op T x u h
 |fieldAddr T x f=>exact amB b9 T x f u h
 |field T x f=>exact amA b9 T x f u h
 |indexAddr T x i=>exact amF b9 T x i u h
 |index T x i=>exact amE b9 T x i u h
 |extract x i=>exact amz x i u h
 |makeFunc g first captured=>
  cases g with
  |func f=>exact amK f first captured u h
  |_=>rw[u]at h;exact h.elim
 |convert S T x=>exact amy b9 S T x u h
 |slice T x lo hi akD=>
  cases akD with
  |none=>exact ah9 b9 T x lo hi u h
  |some _=>rw[u]at h;exact h.elim
 |call c=>
  cases H:c.callee with
  |value g=>exact amv b9 c u g H h
  |invoke r m=>rw[u]at h;simp only[cF,H]at h;exact h.elim
  |builtin b=>
   by_cases v:b= .len
   .exact amG b9 c u (by rw[H,v]) h
   by_cases z:b= .min
   .exact RR c u false (by rw[H,z];rfl) h
   by_cases F:b= .max
   .exact RR c u true (by rw[H,F];rfl) h
   by_cases G:b= .append
   .exact afl b9 c u (by rw[H,G]) (fun d x y T ty K r A t aa V a2 a3 a4 a5 W X Y a9 J=>amq b9 c u (by rw[H,G]) d x y T ty K r A t aa V a2 a3 a4 a5 W X Y a9 J) (fun d x y T ty K r A t k aa V a2 a3 a4 a5 W X Y a9 J Z a12 TK=>amp b9 c u (by rw[H,G]) d x y T ty K r A t k aa V a2 a3 a4 a5 W X Y a9 J Z a12 TK) h
   by_cases I:b= .clear
   .exact amx b9 c u (by rw[H,I]) h
   rw[u]at h
   simp only[cF,H]at h
   split at h
   .rename_i e;cases e
   .rename_i e;cases e;exact absurd rfl v
   .rename_i e;cases e;exact absurd rfl I
   .rename_i e;cases e;exact absurd rfl z
   .rename_i e;cases e;exact absurd rfl F
   .rename_i e;cases e;exact absurd rfl G
   .exact h.elim
 |makeMap T r=>rw[u]at h;exact h.elim
 |lookup T x i ok=>
  have C:=h
  rw[u]at C
  simp only[cF]at C
  split at C
  .rename_i g cr
   exact amD b9 T x i ok u g (V8 cr) C
  .exact C.elim
 |mapUpdate T x i y=>rw[u]at h;exact h.elim
 |_=>rw[u]at h;exact h.elim
end
inductive Seen where
 |go
 |pass
 |ask (b want:Bool)
 |stuck
def seen (all:Array Oper) (s:aX) (o:Oper):Seen:=
 match o.guard with
 |none=>.go
 |some (j,want)=>match(all[j]?).bind (·.dst)with
  |none=>.pass
  |some t=>match dT s.L t with
   | .ag .bool b=>.ask b want
   | .bM []=>.pass
   |_=>.stuck
def gP (E:Env) (all:Array Oper) (s:aX) (o:Oper) (e:bO) (aK:c6):Prop:=
 match seen all s o with
 | .go=>(cF E o.op o.dst s.aP).R s [] [] e aK
 | .pass=>e=nb/\aK=⟨[],[],[],[]⟩
 | .ask b want=>if b=want then(cF E o.op o.dst s.aP).R s [] [] e aK else e=nb/\aK=⟨[],[],[],[]⟩
 | .stuck=>False
def ky (E:Env) (all:Array Oper):List Oper->aX->aX->List c6->Prop
 | [],s,bu,t=>bu=s/\t=[]
 |o::l,s,bu,t=>∃e aK g,gP E all s o e aK/\t=aK::g/\ky E all l (s.app o.dst e) bu g
theorem af1 {all:Array Oper} {c:Ctx} {s:aX} {a:Act} (h:∀i,bo c (dT s.L i) (a.tmps.getD i undef)) (o:Oper):
  (seen all s o= .go->Region.wanted o (yielded all a.tmps)=true)/\(seen all s o= .pass->Region.wanted o (yielded all a.tmps)=false)/\∀b want,seen all s o= .ask b want->Region.wanted o (yielded all a.tmps)=(b==want):=by
 unfold seen Region.wanted
 cases K:o.guard with
 |none=>exact⟨fun _=>rfl,nofun,nofun⟩
 |some H=>
  obtain⟨j,want⟩:=H
  simp only
  cases z:(all[j]?).bind (·.dst)with
  |none=>
   refine⟨nofun,fun _=>?_,nofun⟩
   simp[yielded,z]
  |some t=>
   have v:=h t
   simp only
   cases u:dT s.L t with
   |ag I y=>
    cases I with
    |bool=>
     rw[u]at v
     have l:a.tmps.getD t undef= .bool y:=sJ v
     have A:a.tmps[t]? =some (.bool y):=by
      by_cases g:t<a.tmps.size
      .simp [Array.getD,g]at l;simp[g,l]
      .simp [Array.getD,g,undef]at l
     refine⟨nofun,nofun,fun M C h=>?_⟩
     cases h
     simp[yielded,z,A]
    |_=>exact⟨nofun,nofun,nofun⟩
   |bM cs=>
    cases cs with
    |nil=>
     rw[u]at v
     obtain⟨G,l,J⟩:=v
     have F:G=[]:=by cases G with
      |nil=>rfl
      |cons _ _=>exact J.elim
     subst F
     refine⟨nofun,fun _=>?_,nofun⟩
     have:yielded all a.tmps j=none:=by
      unfold yielded
      rw[z]
      by_cases g:t<a.tmps.size
      .simp [Array.getD,g]at l;simp[g,l]
      .simp [g]
     simp[this]
    |cons _ _=>exact⟨nofun,nofun,nofun⟩
   |_=>exact⟨nofun,nofun,nofun⟩
theorem R3 {E:Env} (b9:eA E) {all:Array Oper} {s:aX} {o:Oper} {e:bO} {aK:c6} (h:gP E all s o e aK) {i:Nat} (hi:all[i]? =some o) {R:ed} (l:ja E R) {a:Act} {w:World} (v:Rel R s a w) {Q:Exit->Act->World->Prop} {K:Act->World->Prop}
  (z:∀A w',Rel R (s.app o.dst e) A w'->K A w'):wpOp E.P all Q i K a w:=by
 have t:=v
 obtain⟨β,τ,F,S,C,G,u,aS⟩:=v
 obtain⟨H,I,J⟩:=af1 (all:=all) aS o
 have go:Region.wanted o (yielded all a.tmps)=true->(cF E o.op o.dst s.aP).R s [] [] e aK->wpOp E.P all Q i K a w:=fun hw M=>by
  unfold Go.wpOp
  simp only[hi,hw,if_true]
  exact .inl (ahq b9 M R a w l t K Q z)
 have pass:Region.wanted o (yielded all a.tmps)=false->e=nb->wpOp E.P all Q i K a w:=fun hw he=>by
  subst he
  unfold Go.wpOp
  simp only[hi,hw,nk,if_false]
  exact z _ _ (jT (s:=s) (e:=nb) C G u aS o.dst (.inr ⟨[],rfl,True.intro⟩))
 unfold gP at h
 cases g:seen all s o with
 |go=>rw[g]at h;exact go (H g) h
 |pass=>rw[g]at h;exact pass (I g) h.1
 |ask b want=>
  rw[g]at h
  have hw:=J b want g
  simp only at h
  split at h
  .exact go (by rw[hw];simpa using ‹b=want›) h
  .exact pass (by rw[hw];simpa using ‹¬b=want›) h.1
 |stuck=>rw[g]at h;exact h.elim
theorem RA {E:Env} (b9:eA E) {all:Array Oper} {Q:Exit->Act->World->Prop} {R:ed} (t:ja E R):∀(l:List Oper) (k:Nat),all.toList.drop k=l->∀(s bu:aX) (g:List c6),ky E all l s bu g->∀a w,Rel R s a w->(∀v w',Rel R bu v w'->Q .normal v w')->
  wpOps E.P all Q ((List.range' k l.length)) a w
 | [],k,_,s,bu,g,h,a,w,A,z=>by rw[h.1]at z;exact z a w A
 |o::l,k,bx,s,bu,g,h,a,w,A,z=>by
  obtain⟨e,aK,u,F,_,G⟩:=h
  have hi:all[k]? =some o:=by
   have:(all.toList.drop k)[0]? =some o:=by rw[bx];rfl
   simpa using this
  rw[aZ,List.range'_succ,wpOps_cons]
  refine R3 b9 F hi t A (fun v w' C=>RA b9 t l (k+1) ?_ _ bu u G v w' C z)
  rw[<-List.tail_drop,bx];rfl
def rS (a b:List Nat):Bool:=a.all fun x=> !b.contains x
def c6.apart (p q:c6):Bool:=rS p.hH q.az&&rS p.hH q.hH&&rS q.hH p.az&&rS p.wt q.rt&&rS p.wt q.wt&&rS q.wt p.rt
def FX (all:Array Oper) (x y:Oper) (p q:c6):Bool:=Oper.apart all x y&&p.apart q
theorem tm {a b:List Nat} (h:rS a b=true):∀x,x∈a->x∉b:=fun x g au=>by
 have:=cA.1 h x g
 simp at this
 exact this au
theorem bO.sF (f:Nat->Option cf) (e:bO) (k:Nat) (h:k∉e.boxes):e.updB f k=f k:=by
 unfold bO.updB bO.boxes at*
 revert f
 generalize e.box=l at h
 induction l with
 |nil=>intro f;rfl
 |cons x l g=>
  intro f
  simp only[cv,bm,not_or]at h
  rw[eR,g h.2]
  simp[Go.Proofs.YtnkagklajgimlaaGreatDoor.updB,h.1]
theorem bO.ant (e:bO) (k:Nat):∀(f g:Nat->Option cf),f k=g k->e.updB f k=e.updB g k:=by
 unfold bO.updB
 generalize e.box=l
 induction l with
 |nil=>intro f g h;exact h
 |cons x l t=>
  intro f g h
  rw[eR,eR]
  refine t _ _ ?_
  simp only[Go.Proofs.YtnkagklajgimlaaGreatDoor.updB,h]
theorem bO.Te (e:bO) (k:Nat) (h:k∈e.boxes):∀(f g:Nat->Option cf),e.updB f k=e.updB g k:=by
 unfold bO.updB bO.boxes at*
 revert h
 generalize e.box=l
 induction l with
 |nil=>intro h;cases h
 |cons x l u=>
  intro h f g
  rw[eR,eR]
  by_cases t:k=x.1
  .have:=bO.ant ⟨.dead,l,[]⟩ k (Go.Proofs.YtnkagklajgimlaaGreatDoor.updB f x.1 x.2) (Go.Proofs.YtnkagklajgimlaaGreatDoor.updB g x.1 x.2) (by simp[Go.Proofs.YtnkagklajgimlaaGreatDoor.updB,t])
   exact this
  .simp only [cv,bm]at h
   exact u (h.resolve_left t) _ _
theorem bO.sG (f:Nat->Option bb) (e:bO) (k:Nat) (h:k∉e.bG):e.updT f k=f k:=by
 unfold bO.updT bO.bG at*
 revert f
 generalize e.tok=l at h
 induction l with
 |nil=>intro f;rfl
 |cons x l g=>
  intro f
  simp only[cv,bm,not_or]at h
  rw[eR,g h.2]
  simp[Go.Proofs.YtnkagklajgimlaaGreatDoor.updT,h.1]
theorem bO.anu (e:bO) (k:Nat):∀(f g:Nat->Option bb),f k=g k->e.updT f k=e.updT g k:=by
 unfold bO.updT
 generalize e.tok=l
 induction l with
 |nil=>intro f g h;exact h
 |cons x l t=>
  intro f g h
  rw[eR,eR]
  refine t _ _ ?_
  simp only[Go.Proofs.YtnkagklajgimlaaGreatDoor.updT,h]
theorem bO.Tf (e:bO) (k:Nat) (h:k∈e.bG):∀(f g:Nat->Option bb),e.updT f k=e.updT g k:=by
 unfold bO.updT bO.bG at*
 revert h
 generalize e.tok=l
 induction l with
 |nil=>intro h;cases h
 |cons x l u=>
  intro h f g
  rw[eR,eR]
  by_cases t:k=x.1
  .have:=bO.anu ⟨.dead,[],l⟩ k (Go.Proofs.YtnkagklajgimlaaGreatDoor.updT f x.1 x.2) (Go.Proofs.YtnkagklajgimlaaGreatDoor.updT g x.1 x.2) (by simp[Go.Proofs.YtnkagklajgimlaaGreatDoor.updT,t])
   exact this
  .simp only [cv,bm]at h
   exact u (h.resolve_left t) _ _
theorem RF {all:Array Oper} {s:aX} {x y:Oper} {e:bO} (h:∀d,x.dst=some d->d∉y.looksAt all):seen all (s.app x.dst e) y=seen all s y:=by
 unfold seen
 cases l:y.guard with
 |none=>rfl
 |some u=>
  obtain⟨j,want⟩:=u
  simp only
  cases v:(all[j]?).bind (·.dst)with
  |none=>rfl
  |some t=>
   have g:¬(x.dst=some t/\t<s.L.length):=fun z=>h t z.1 (by simp[Oper.looksAt,l,v])
   simp only[yE,aA g]
theorem KS {all:Array Oper} {s:aX} {x y:Oper} {e:bO} (h:∀d,x.dst=some d->d∉y.looksAt all):∀z,z∈y.op.operands->(s.app x.dst e).aP z=s.aP z:=by
 intro z l
 cases z with
 |tmp t=>
  have g:¬(x.dst=some t/\t<s.L.length):=fun u=>h t u.1 (e8 _ (qV.2 ⟨.tmp t,by simpa using l,rfl⟩))
  simp only[aX.aP,yE,aA g]
 |_=>rfl
structure gZ (s bu:aX):Prop where
 L:bu.L=s.L
 B:aY bu.B=aY s.B
 T:aF bu.T=aF s.T
theorem gZ.refl (s:aX):gZ s s:=⟨rfl,rfl,rfl⟩
theorem gZ.trans {a b c:aX} (h:gZ a b) (k:gZ b c):gZ a c:=⟨k.L.trans h.L,k.B.trans h.B,k.T.trans h.T⟩
theorem gZ.symm {a b:aX} (h:gZ a b):gZ b a:=⟨h.L.symm,h.B.symm,h.T.symm⟩
theorem gZ.rel {s bu:aX} (h:gZ s bu) {R:ed} {a:Act} {w:World} (g:Rel R s a w):Rel R bu a w:=by
 obtain⟨β,τ,F,S,l,t,u,aS⟩:=g
 refine⟨β,τ,F,S,by rw[h.B,h.T];exact l,by rw[h.L];exact t,u,fun i=>?_⟩
 have:bu.ctx w S β τ=s.ctx w S β τ:=by simp only[aX.ctx,h.B,h.T]
 rw[this,h.L];exact aS i
theorem gZ.app {s bu:aX} (h:gZ s bu) (d:Option Nat) (e:bO):gZ (s.app d e) (bu.app d e):=
 ⟨by simp only[aX.app,h.L],by rw[q2,q2,h.B],by rw[nx,nx,h.T]⟩
theorem gZ.aP {s bu:aX} (h:gZ s bu):bu.aP=s.aP:=by
 funext z;cases z<;>simp only[aX.aP,h.L]
theorem Lk :∀ {L l:List ar},L.length=l.length->(∀i,dT L i=dT l i)->L=l
 | [],[],_,_=>rfl
 |x::L,y::l,g,h=>by
  have t:=h 0
  simp only[dT]at t
  rw[t,Lk (by simpa using g) (fun i=>h (i+1))]
 | [],_::_,g,_=>by simp at g
 |_::_,[],g,_=>by simp at g
theorem ak1 (E:Env) (op:Op) (dst:Option Nat) {ρ v:Operand->ar} (h:∀x,x∈op.operands->ρ x=v x):cF E op dst ρ=cF E op dst v:=by
 have F:∀ps:Array (Nat×Operand),(∀x,x∈(ps.toList.map (·.2)).toArray->ρ x=v x)->(ps.toList.map fun q=>(q.1,ρ q.2))=(ps.toList.map fun q=>(q.1,v q.2)):=fun ps M=>
  mg fun q O=>by
   rw[M q.2 (by simp;exact⟨q.1,by simpa using O⟩)]
 cases op
 case call c=>
  have A:∀x,x∈c.args.toList->ρ x=v x:=fun x C=>h x (by simp[Op.operands,Call.operands];exact .inr (by simpa using C))
  have G:c.args.toList.map ρ=c.args.toList.map v:=mg fun x C=>A x C
  cases H:c.callee with
  |value g=>
   have Q:ρ g=v g:=h g (by simp[Op.operands,Call.operands,H])
   simp only[cF,H,Q,G]
  |invoke r m=>simp only[cF,H]
  |builtin b=>
   simp only[cF,H]
   rcases I:c.args.toList with _|⟨x,_|⟨y,_|⟨z,l⟩⟩⟩
   .cases b<;>(first|rfl|(cases dst<;>rfl))
   .have C:=A x (by rw[I];simp)
    generalize c.argTypes[0]? =J
    cases b<;>(first|rfl|(cases J<;>first|rfl|simp only[C])|(cases dst<;>rfl))
   .have C:=A x (by rw[I];simp)
    have hy:=A y (by rw[I];simp)
    generalize c.argTypes.toList=K
    cases b<;>(first|rfl|(simp only[C,hy];done)|(cases dst<;>rcases K with _|⟨t1,_|⟨t2,_|⟨t3,l⟩⟩⟩<;>first|rfl|(simp only[C,hy];done)))
   .rcases l with _|⟨u,l⟩
    .have C:=A x (by rw[I];simp)
     have hy:=A y (by rw[I];simp)
     have S:=A z (by rw[I];simp)
     cases b<;>(first|rfl|(cases dst<;>rfl)|(simp only[C,hy,S];done))
    .cases b<;>(first|rfl|(cases dst<;>rfl))
 all_goals simp only[Op.operands]at h
 all_goals simp only[cF]
 case build t ps=>rw[F ps h]
 case buildSlice t n ps=>rw[F ps h]
 case makeFunc g first captured=>
  have H:captured.toList.map ρ=captured.toList.map v:=mg fun x C=>h x (by simp;exact .inr (by simpa using C))
  cases g with
  |func f=>simp only[H]
  |_=>rfl
 case slice t x lo hi U=>cases U<;>cases lo<;>cases hi<;>simp_all
 all_goals(first|rfl|(simp_all;done))
theorem Jd {E:Env} {all:Array Oper} {s bu:aX} {o:Oper} {e:bO} {aK:c6} (h:gP E all s o e aK) (aS:seen all bu o=seen all s o) (he:∀z,z∈o.op.operands->bu.aP z=s.aP z) (au:∀k,k∈aK.az->aY bu.B k=aY s.B k) (l:∀t,t∈aK.rt->aF bu.T t=aF s.T t):gP E all bu o e aK:=by
 unfold gP at h⊢
 rw[aS]
 have go:(cF E o.op o.dst s.aP).R s [] [] e aK->(cF E o.op o.dst bu.aP).R bu [] [] e aK:=fun h=>by
  rw[ak1 E o.op o.dst he]
  exact bh.R.move _ _ _ _ _ h au l
 cases g:seen all s o with
 |go=>rw[g]at h;exact go h
 |pass=>rw[g]at h;exact h
 |ask b want=>
  rw[g]at h
  simp only at h⊢
  split at h
  .rw [ai ‹_›];exact go h
  .rw [aA ‹_›];exact h
 |stuck=>rw[g]at h;exact h
theorem R4 {E:Env} {all:Array Oper} {s:aX} {o:Oper} {e:bO} {aK:c6} (h:gP E all s o e aK):aK.hH=e.boxes/\aK.wt=e.bG:=by
 have pass:e=nb/\aK=⟨[],[],[],[]⟩->aK.hH=e.boxes/\aK.wt=e.bG:=by rintro⟨rfl,rfl⟩;exact⟨rfl,rfl⟩
 unfold gP at h
 cases g:seen all s o with
 |go=>rw[g]at h;exact bh.R.writes _ _ _ h
 |pass=>rw[g]at h;exact pass h
 |ask b want=>
  rw[g]at h
  simp only at h
  split at h
  .exact bh.R.writes _ _ _ h
  .exact pass h
 |stuck=>rw[g]at h;exact h.elim
structure yt (all:Array Oper) (x y:Oper) (p q:c6):Prop where
 To:∀d,x.dst=some d->d∉y.looksAt all
 Tp:∀d,y.dst=some d->d∉x.looksAt all
 vM:∀d,x.dst=some d->y.dst≠some d
 ej:∀k,k∈p.hH->k∉q.az
 ba:∀k,k∈p.hH->k∉q.hH
 e0:∀k,k∈q.hH->k∉p.az
 t1:∀k,k∈p.wt->k∉q.rt
 t2:∀k,k∈p.wt->k∉q.wt
 t3:∀k,k∈q.wt->k∉p.rt
theorem Yv {all:Array Oper} {x y:Oper} {p q:c6} (h:FX all x y p q=true):yt all x y p q:=by
 simp only[FX,c6.apart,bk]at h
 obtain⟨g,⟨⟨⟨⟨l,t⟩,u⟩,v⟩,z⟩,A⟩:=h
 obtain⟨C,a2,a3⟩:=Oper.apart_spec g
 exact⟨C,a3,a2,tm l,tm t,tm u,tm v,tm z,tm A⟩
theorem T0 {s:aX} {x y:Option Nat} {e f:bO} (u:∀d,x=some d->y≠some d) (au:∀k,k∈e.boxes->k∉f.boxes) (v:∀t,t∈e.bG->t∉f.bG):gZ ((s.app x e).app y f) ((s.app y f).app x e):=by
 refine⟨Lk (by simp only[DS]) (fun i=>?_),?_,?_⟩
 .simp only [yE,DS]
  by_cases l:x=some i/\i<s.L.length
  .have g:¬(y=some i/\i<s.L.length):=fun h=>u i l.1 h.1
   simp only[aA g,ai l]
  .by_cases g:y=some i/\i<s.L.length
   .simp only [ai g,aA l]
   .simp only [aA g,aA l]
 .funext k
  simp only[q2]
  by_cases l:k∈f.boxes
  .have g:k∉e.boxes:=fun h=>au k h l
   rw[bO.sF _ e k g]
   exact bO.Te f k l _ _
  .rw [bO.sF _ f k l]
   by_cases g:k∈e.boxes
   .exact bO.Te e k g _ _
   .rw [bO.sF _ e k g,bO.sF _ e k g,bO.sF _ f k l]
 .funext k
  simp only[nx]
  by_cases l:k∈f.bG
  .have g:k∉e.bG:=fun h=>v k h l
   rw[bO.sG _ e k g]
   exact bO.Tf f k l _ _
  .rw [bO.sG _ f k l]
   by_cases g:k∈e.bG
   .exact bO.Tf e k g _ _
   .rw [bO.sG _ e k g,bO.sG _ e k g,bO.sG _ f k l]
theorem am1 {E:Env} {all:Array Oper} {s bu:aX} {o:Oper} {e:bO} {aK:c6} (h:gP E all s o e aK) (g:gZ s bu):gP E all bu o e aK:=
 Jd h (by unfold seen;rw[g.L]) (fun z _=>by rw[g.aP]) (fun k _=>by rw[g.B]) (fun t _=>by rw[g.T])
theorem Rz {E:Env} {all:Array Oper}:∀(l:List Oper) (s s1 bu:aX) (g:List c6),ky E all l s bu g->gZ s s1->∃s2,ky E all l s1 s2 g/\gZ bu s2
 | [],s,s1,bu,g,h,u=>⟨s1,⟨rfl,h.2⟩,by rw[h.1];exact u⟩
 |o::l,s,s1,bu,g,h,u=>by
  obtain⟨e,aK,t,v,z,A⟩:=h
  obtain⟨s2,C,F⟩:=Rz l _ _ bu t A (u.app o.dst e)
  exact⟨s2,⟨e,aK,t,am1 v u,z,C⟩,F⟩
theorem am2 {E:Env} {all:Array Oper} {s:aX} {x y:Oper} {e f:bO} {p q:c6} (C:gP E all s x e p) (hy:gP E all (s.app x.dst e) y f q) (hi:yt all x y p q):
  gP E all s y f q/\gP E all (s.app y.dst f) x e p/\gZ ((s.app x.dst e).app y.dst f) ((s.app y.dst f).app x.dst e):=by
 obtain⟨g,l⟩:=R4 C
 obtain⟨u,v⟩:=R4 hy
 refine⟨Jd hy (RF hi.To).symm (fun z F=>(KS hi.To z F).symm) (fun k bx=>?_) (fun t A=>?_),Jd C (RF hi.Tp) (KS hi.Tp) (fun k bx=>?_) (fun t A=>?_),T0 hi.vM (fun k bx=>?_) (fun t A=>?_)⟩
 .rw [q2];exact(bO.sF _ e k (fun h=>hi.ej k (g▸h) bx)).symm
 .rw [nx];exact(bO.sG _ e t (fun h=>hi.t1 t (l▸h) A)).symm
 .rw [q2];exact bO.sF _ f k (fun h=>hi.e0 k (u▸h) bx)
 .rw [nx];exact bO.sG _ f t (fun h=>hi.t3 t (v▸h) A)
 .exact u▸hi.ba k (g▸bx)
 .exact v▸hi.t2 t (l▸A)
theorem Rx {E:Env} {all:Array Oper} {y:Oper} {q:c6}:∀(l t:List Oper) (f1 f2:List c6) (s bu:aX),f1.length=l.length->ky E all (l++y::t) s bu (f1++q::f2)->(∀(i:Nat) x p,l[i]? =some x->f1[i]? =some p->yt all x y p q)->
  ∃e g,gP E all s y e q/\ky E all (l++t) (s.app y.dst e) g (f1++f2)/\gZ g bu
 | [],t,f1,f2,s,bu,u,h,_=>by
  have:f1=[]:=yk u
  subst this
  obtain⟨e,aK,v,A,z,C⟩:=h
  simp at z
  obtain⟨rfl,rfl⟩:=z
  exact⟨e,bu,A,C,gZ.refl _⟩
 |x::l,t,f1,f2,s,bu,u,h,hi=>by
  match f1,u with
  |p::f1,u=>
   obtain⟨e,aK,v,A,z,C⟩:=h
   simp only[jZ,List.cons.injEq]at z
   obtain⟨rfl,rfl⟩:=z
   obtain⟨f,g,g1,g2,g3⟩:=Rx l t f1 f2 _ bu (by simpa using u) C (fun i F G H I=>hi (i+1) F G (by simpa using H) (by simpa using I))
   obtain⟨J,K,M⟩:=am2 A g1 (hi 0 x p rfl rfl)
   obtain⟨O,g4,g5⟩:=Rz _ _ _ _ _ g2 M
   exact⟨f,O,J,⟨e,p,f1++f2,K,rfl,g4⟩,g5.symm.trans g3⟩
def HT :List Oper->List Nat->List Nat
 | [],acc=>acc
 |o::l,acc=>HT l (acc++ [o.after.toList.foldl (fun m e=>if Region.binds .any e then m|||(1<<<e.on)|||acc.getD e.on 0 else m) 0])
def QM (all:Array Oper) (ms:List Nat) (l:List (Oper×c6)) (i j:Nat):Bool:=
 (ms.getD j 0).testBit i||match l[i]?,l[j]? with
  |some (x,p),some (y,q)=>FX all x y p q
  |_,_=>false
def Eo (all:List Oper) (g:List c6):Bool:=
 let ms:=HT all []
 let l:=all.zip g
 (List.range all.length).all fun j=>(List.range j).all fun i=>QM all.toArray ms l i j
inductive pI (all:Array Oper):Nat->Nat->Prop where
 |Et (i j:Nat) (o:Oper) (e:Edge) (bR:all[j]? =some o) (he:e∈o.after) (au:Region.binds .any e=true) (hi:e.on=i):pI all i j
 |step (i k j:Nat) (o:Oper) (e:Edge) (bR:all[j]? =some o) (he:e∈o.after) (au:Region.binds .any e=true) (bx:e.on=k) (h:pI all i k):pI all i j
theorem Qe (all:List Oper):∀(l:List Oper) (acc:List Nat),all=all.take acc.length++l->(∀j i,(acc.getD j 0).testBit i=true->pI all.toArray i j)->∀j i,((HT l acc).getD j 0).testBit i=true->pI all.toArray i j
 | [],acc,_,h=>h
 |o::l,acc,t,h=>by
  have hlen:acc.length<all.length:=by
   have:=congrArg List.length t
   simp at this;omega
  have A:all[acc.length]? =some o:=by
   rw[t]
   rw[iE (by simp;omega)]
   simp[ow (Nat.le_of_lt hlen)]
  refine Qe all l _ ?_ (fun j i au=>?_)
  .simp only [a1,bS]
   rw[ec hlen]
   have:all[acc.length]=o:=by rw[bH hlen]at A;exact Option.some.inj A
   rw[this,dJ]
   simpa using t
  .by_cases bR:j<acc.length
   .rw [nn,hV bR,<-nn]at au
    exact h j i au
   .by_cases F:j=acc.length
    .subst F
     have u:∀(es:List Edge) (m:Nat),(es.foldl (fun m e=>if Region.binds .any e then m|||(1<<<e.on)|||acc.getD e.on 0 else m) m).testBit i=true->m.testBit i=true\/ ∃e,e∈es/\Region.binds .any e=true/\(e.on=i\/(acc.getD e.on 0).testBit i=true):=by
      intro es
      induction es with
      |nil=>exact fun m hm=>.inl hm
      |cons e es H=>
       intro m hm
       simp only[eR]at hm
       rcases H _ hm with g|⟨I,g,C,v⟩
       .split at g
        .rename_i z
         simp only[Nat.testBit_or,lB,Nat.one_shiftLeft,Nat.testBit_two_pow]at g
         rcases g with(g|g)|g
         .exact .inl g
         .exact .inr ⟨e,b6,z,.inl (by simpa using g)⟩
         .exact .inr ⟨e,b6,z,.inr g⟩
        .exact .inl g
       .exact .inr ⟨I,b7 _ g,C,v⟩
     have G:((o.after.toList.foldl (fun m e=>if Region.binds .any e then m|||(1<<<e.on)|||acc.getD e.on 0 else m) 0)).testBit i=true:=by
      simpa[List.getD]using au
     rcases u _ _ G with g|⟨e,g,C,v⟩
     .simp at g
     .rcases v with v|v
      .exact .Et i _ o e (by simpa using A) (by simpa using g) C v
      .exact .step i e.on _ o e (by simpa using A) (by simpa using g) C rfl (h _ _ v)
    .have:acc.length+1<=j:=by omega
     rw[nn,kr (by simp;omega)]at au
     simp at au
def vs (all:Array Oper) (listed:Array Bool):Prop:=∀j o e,listed.getD j false=true->all[j]? =some o->e∈o.after->Region.binds .any e=true->listed.getD e.on false=true
theorem Uy {all:Array Oper} {listed:Array Bool} (l:vs all listed) {i j:Nat} (h:pI all i j):listed.getD j false=true->listed.getD i false=true:=by
 induction h with
 |Et j o e bR he au hi=>exact fun g=>hi▸l j o e g bR he au
 |step k j o e bR he au bx h t=>exact fun g=>t (bx▸l j o e g bR he au)
theorem alL {all:Array Oper} {listed:Array Bool} (t:vs all listed) {i j:Nat} (h:pI all i j) (u:j∈Region.ready .any all listed):listed.getD i false=true:=by
 obtain⟨_,o,l,g⟩:=mem_ready.1 u
 cases h with
 |Et _ v e bR he au hi=>rw[bR]at l;cases l;exact hi▸g e he au
 |step k _ v e bR he au bx h=>rw[bR]at l;cases l;exact Uy t h (bx▸g e he au)
def TD (all:Array Oper) (rem:List (Nat×Oper×c6)):Prop:=
 ∀(a b:Nat) i j x y p q,a<b->rem[a]? =some (i,x,p)->rem[b]? =some (j,y,q)->pI all i j\/yt all x y p q
theorem J0 {E:Env} (b9:eA E) {all:Array Oper} {Q:Exit->Act->World->Prop} {R:ed} (e3:ja E R):∀(fuel:Nat) (rem:List (Nat×Oper×c6)) (listed:Array Bool) (s bu:aX) (zt:∀a w,Rel R bu a w->Q .normal a w) (a:Act) (w:World),rem.length=fuel->listed.size=all.size->
  (∀i,listed.getD i true=false↔∃x p,(i,x,p)∈rem)->(∀i x p,(i,x,p)∈rem->all[i]? =some x)->(∀(k aJ:Nat) i x p fW Cg,rem[k]? =some (i,x,p)->rem[aJ]? =some (i,fW,Cg)->k=aJ)->TD all rem->vs all listed->ky E all (rem.map (·.2.1)) s bu (rem.map (·.2.2))->Rel R s a w->
  (Region.ready .any all listed=[]->rem=[])->(∀l:Array Bool,l.size=all.size->(∃i,i<all.size/\l.getD i true=false)->vs all l->Region.ready .any all l≠ [])->wpAny E.P .any all Q fuel listed a w
 |0,rem,listed,s,bu,zt,a,w,hlen,S,C,H,I,cU,bB,cE,qb,gS,G=>by
  have:rem=[]:=yk hlen
  subst this
  have K:Region.ready .any all listed=[]:=by
   rw[List.eq_nil_iff_forall_not_mem]
   intro i hi
   obtain⟨x,p,h⟩:=(C i).1 (mem_ready.1 hi).1
   simp at h
  refine⟨K,zt a w ?_⟩
  rw[cE.1];exact qb
 |fuel+1,rem,listed,s,bu,zt,a,w,hlen,S,C,H,I,cU,bB,cE,qb,gS,G=>by
  refine⟨fun h=>?_,fun i hi=>?_⟩
  .rw [gS h]at hlen;simp at hlen
  .obtain ⟨Ya,o,cx,U⟩:=mem_ready.1 hi
   obtain⟨x,p,W⟩:=(C i).1 Ya
   obtain⟨k,bx,wm⟩:=fe.1 W
   have Y:rem[k]? =some (i,x,p):=by rw[bH bx,wm]
   have Mf:all[i]? =some x:=H i x p W
   obtain⟨A,V,cy,cb,di⟩:∃A V:List (Nat×Oper×c6),rem=A++(i,x,p)::V/\A.length=k/\(∀y,y∈A->y∈rem):=by
    refine⟨rem.take k,rem.drop (k+1),?_,by simp;omega,fun y hy=>fK hy⟩
    conv=>lhs;rw[<-lD k rem]
    rw[fC bx,wm]
   subst cy
   rw[iD,cv,iD,cv]at cE
   obtain⟨e,s2,aD,aV,Xs⟩:=Rx _ _ _ _ _ _ (by simp) cE (fun t y q hy dr=>by
    rw[ie]at hy dr
    cases v:A[t]? with
    |none=>simp[v]at hy
    |some z=>
     obtain⟨j,hn,ob⟩:=z
     simp[v]at hy dr
     subst hy;subst dr
     have kI:t<A.length:=(dx.1 v).1
     rcases cU t k j i hn x ob p (by omega) (by rw[hV kI];exact v) Y with h|h
     .have Z:=alL bB h hi
      have M:listed.getD j true=false:=(C j).2 ⟨hn,ob,e8 _ (fc v)⟩
      exfalso
      have wj:j<listed.size:=by
       rcases Nat.lt_or_ge j listed.size with kF|kF
       .exact kF
       .simp [Array.getD,Nat.not_lt.2 kF]at Z
      simp[Array.getD,wj]at Z M
      rw[Z]at M;cases M
     .exact h)
   have Xd:i<listed.size:=by rw[S];exact(qS.1 Mf).1
   have X:∀j d,(listed.setIfInBounds i true).getD j d=if j=i then true else listed.getD j d:=fun j d=>by
    by_cases h:j=i
    .subst h;simp[Array.getD,Xd]
    .rw [aA h,getD_set_ne d (Ne.symm h)]
   have F:vs all (listed.setIfInBounds i true):=fun j sa de Z bR he au=>by
    rw[X]at Z⊢
    by_cases h:j=i
    .subst h
     rw[bR]at cx;cases cx
     have:=U de he au
     rw[this];simp
    .rw [aA h]at Z
     rw[bB j sa de Z bR he au];simp
   have Xh:∀y q,(i,y,q)∉A++V:=fun y q g=>by
    rcases cp.1 g with g|g
    .obtain ⟨t,v,FH⟩:=fe.1 g
     have:=I t k i y q x p (by rw[hV v,bH v,FH]) Y
     omega
    .obtain ⟨t,v,FH⟩:=fe.1 g
     have:=I (A.length+(t+1)) k i y q x p (by rw[iE (by omega),Nat.add_sub_cancel_left,List.getElem?_cons_succ,bH v,FH]) Y
     omega
   have J:∀(t:Nat) z,(A++V)[t]? =some z->∃dc,(A++(i,x,p)::V)[dc]? =some z/\dc=if t<A.length then t else t+1:=fun t z bI=>by
    by_cases v:t<A.length
    .rw [hV v]at bI
     exact⟨t,by rw[hV v];exact bI,by rw[ai v]⟩
    .rw [iE (by omega)]at bI
     refine⟨t+1,?_,by rw[aA v]⟩
     rw[iE (by omega),show t+1-A.length=(t-A.length)+1 from by omega,List.getElem?_cons_succ];exact bI
   have O:∀j,(listed.setIfInBounds i true).getD j true=false↔∃y q,(j,y,q)∈A++V:=fun j=>by
    rw[X]
    by_cases h:j=i
    .subst h
     simp only[if_true]
     exact⟨(fun h=>by cases h),fun⟨y,q,h⟩=>absurd h (Xh y q)⟩
    .rw [aA h,C j]
     constructor
     .rintro ⟨y,q,g⟩
      refine⟨y,q,?_⟩
      rcases cp.1 g with g|g
      .exact e8 _ g
      .rcases bm.1 g with g|g
       .cases g;exact absurd rfl h
       .exact kW _ g
     .rintro ⟨y,q,g⟩
      refine⟨y,q,?_⟩
      rcases cp.1 g with g|g
      .exact e8 _ g
      .exact kW _ (b7 _ g)
   refine R3 b9 aD Mf e3 qb (fun bN w' zu=>J0 b9 e3 fuel (A++V) _ _ s2 (fun a w h=>zt a w (Xs.rel h)) bN w' (by simp at hlen⊢;omega) (by simpa using S) O (fun j y q g=>?_) (fun t dc j y q hn ob v hP=>?_) (fun t dc j cZ y hn q ob gf v hP=>?_) F (by rw[iD,iD];exact aV) zu (fun K=>?_) G)
   .exact H j y q (by
     rcases cp.1 g with g|g
     .exact e8 _ g
     .exact kW _ (b7 _ g))
   .obtain ⟨u,hu,nF⟩:=J t _ v
    obtain⟨yc,FL,EA⟩:=J dc _ hP
    have:=I u yc j y q hn ob hu FL
    split at nF<;>split at EA<;>omega
   .obtain ⟨u,hu,nF⟩:=J t _ v
    obtain⟨yc,FL,EA⟩:=J dc _ hP
    exact cU u yc j cZ y hn q ob (by split at nF<;>split at EA<;>omega) hu FL
   .rcases List.eq_nil_or_concat (A++V)with h|⟨l,z,h⟩
    .exact h
    .exfalso
     obtain⟨j,y,q⟩:=z
     have g:(j,y,q)∈A++V:=by rw[h];simp
     have M:=(O j).2 ⟨y,q,g⟩
     have wj:j<all.size:=by
      have:=H j y q (by
       rcases cp.1 g with g|g
       .exact e8 _ g
       .exact kW _ (b7 _ g))
      exact(qS.1 this).1
     exact G _ (by simpa using S) ⟨j,wj,M⟩ F K
def vE (all:List Oper):Bool:=(List.range all.length).all fun j=>match all[j]? with
 |some o=>o.after.toList.all fun e=> !Region.binds .any e||decide (e.on<j)
 |none=>true
theorem J4 {all:Array Oper} (au:vE all.toList=true) (j:Nat) (o:Oper) (bR:all[j]? =some o) (e:Edge) (he:e∈o.after) (g:Region.binds .any e=true):e.on<j:=by
 have l:j<all.size:=(qS.1 bR).1
 have t:=cA.1 au j (by simpa using l)
 rw[show all.toList[j]? =some o from by simpa using bR]at t
 have u:=cA.1 t e (by simpa using he)
 rw[g]at u
 simpa using u
theorem Rl {all:Array Oper} (au:vE all.toList=true) (l:Array Bool) (z:l.size=all.size) (h:∃i,i<all.size/\l.getD i true=false):Region.ready .any all l≠ []:=by
 obtain⟨i,hi,hu⟩:=h
 have key:∀n i,i<=n->i<all.size->l.getD i true=false->∃j,j∈Region.ready .any all l:=by
  intro n
  induction n with
  |zero=>
   intro i A hi hu
   obtain rfl:i=0:=by omega
   refine⟨0,mem_ready.2 ⟨hu,all[0],by simp[hi],fun e he t=>?_⟩⟩
   have:=J4 au 0 all[0] (by simp[hi]) e he t
   omega
  |succ n G=>
   intro i A hi hu
   by_cases g:∀e,e∈(all[i]).after->Region.binds .any e=true->l.getD e.on false=true
   .exact ⟨i,mem_ready.2 ⟨hu,all[i],by simp[hi],g⟩⟩
   .obtain ⟨e,he⟩:=Classical.not_forall.1 g
    obtain⟨C,F⟩:=Classical.not_imp.1 he
    obtain⟨t,u⟩:=Classical.not_imp.1 F
    have:=J4 au i all[i] (by simp[hi]) e C t
    have v:e.on<all.size:=by omega
    refine G e.on (by omega) v ?_
    simp[Array.getD,z,v]at u⊢
    exact u
 obtain⟨j,bR⟩:=key i i (bC _) hi hu
 exact List.ne_nil_of_mem bR
def xz (ops:List Oper) (g:List c6):Bool:=Eo ops g&&vE ops
theorem RN :∀(L:List ar) (t:Nat) (v:ar),dT L t=v->v≠ .dead->jV L t v=L
 | [],t,v,_,_=>rfl
 |x::L,0,v,h,_=>by simp only[dT]at h;subst h;rfl
 |x::L,t+1,v,h,g=>by simp only[jV,RN L t v h g]
theorem I6 {s:aX} {t:Nat} {b:Bool} (h:dT s.L t= .ag .bool b):({s with L:=jV s.L t (.ag .bool b)}:aX)=s:=by
 rw[RN s.L t _ h (by simp)]
theorem IX {ρ:Type} (E:Env) (all:Array Oper) {z:ρ}:∀(l:List Oper) (s:aX) (acc:List c6) (K:aX->List c6->Option ρ),pr E all l s acc K=some z->∃bu g,ky E all l s bu g/\K bu (acc.reverse++g)=some z
 | [],s,acc,K,h=>⟨s,[],⟨rfl,rfl⟩,by rw[e5];exact h⟩
 |o::l,s,acc,K,h=>by
  have go:(cF E o.op o.dst s.aP).run s [] [] (fun e aK=>pr E all l (s.app o.dst e) (aK::acc) K)=some z->∃e aK bu g,(cF E o.op o.dst s.aP).R s [] [] e aK/\ky E all l (s.app o.dst e) bu g/\K bu (acc.reverse++aK::g)=some z:=fun h=>by
   obtain⟨e,aK,I,G⟩:=bh.al5 _ _ _ h
   obtain⟨bu,g,C,J⟩:=IX E all l _ _ K G
   exact⟨e,aK,bu,g,I,C,by simpa using J⟩
  have pass:pr E all l (s.app o.dst nb) (rn::acc) K=some z->∃bu g,ky E all l (s.app o.dst nb) bu g/\K bu (acc.reverse++rn::g)=some z:=fun h=>by
   obtain⟨bu,g,C,J⟩:=IX E all l _ _ K h
   exact⟨bu,g,C,by simpa using J⟩
  have F:(∀e aK,(cF E o.op o.dst s.aP).R s [] [] e aK->gP E all s o e aK)->(cF E o.op o.dst s.aP).run s [] [] (fun e aK=>pr E all l (s.app o.dst e) (aK::acc) K)=some z->∃bu g,ky E all (o::l) s bu g/\K bu (acc.reverse++g)=some z:=fun aS h=>by
   obtain⟨e,aK,bu,g,I,G,C⟩:=go h
   exact⟨bu,aK::g,⟨e,aK,g,aS e aK I,rfl,G⟩,C⟩
  have u:gP E all s o nb rn->pr E all l (s.app o.dst nb) (rn::acc) K=some z->∃bu g,ky E all (o::l) s bu g/\K bu (acc.reverse++g)=some z:=fun aS h=>by
   obtain⟨bu,g,G,C⟩:=pass h
   exact⟨bu,rn::g,⟨nb,rn,g,aS,rfl,G⟩,C⟩
  simp only[pr]at h
  cases v:o.guard with
  |none=>
   rw[v]at h
   exact F (fun e aK H=>by simp only[gP,seen,v];exact H) h
  |some M=>
   obtain⟨j,want⟩:=M
   rw[v]at h
   simp only at h
   cases A:(all[j]?).bind (·.dst)with
   |none=>
    rw[A]at h
    exact u (by unfold gP seen;rw[v];simp only[A];(first|exact⟨rfl,rfl⟩|exact⟨True.intro,rfl⟩|trivial)) h
   |some t=>
    rw[A]at h
    simp only at h
    split at h
    .rename_i b au
     cases b with
     |true=>
      simp only at h
      rw[I6 au]at h
      cases want with
      |true=>
       simp only[if_true]at h
       exact F (fun e aK H=>by simp only[gP,seen,v,A,au,if_true];exact H) h
      |false=>
       simp only[nk,if_false]at h
       exact u (by simp only[gP,seen,v,A,au,Bool.true_eq_false,if_false];(first|exact⟨rfl,rfl⟩|exact⟨True.intro,rfl⟩|trivial)) h
     |false=>
      simp only at h
      rw[I6 au]at h
      cases want with
      |true=>
       simp only[if_true]at h
       exact u (by simp only[gP,seen,v,A,au,nk,if_false];(first|exact⟨rfl,rfl⟩|exact⟨True.intro,rfl⟩|trivial)) h
      |false=>
       simp only[nk,if_false]at h
       exact F (fun e aK H=>by simp only[gP,seen,v,A,au,if_true];exact H) h
    .rename_i au
     exact u (by simp only[gP,seen,v,A,au];(first|exact⟨rfl,rfl⟩|exact⟨True.intro,rfl⟩|trivial)) h
    .cases h
theorem Rel.drew {R:ed} {s:aX} {a:Act} {w:World} (h:Rel R s a w):Rel R s a w.drew:=by
 obtain⟨β,τ,F,S,g,t,l,aS⟩:=h
 have au:Below w.heap.size w w.drew:=(Below.refl _ _).drew
 refine⟨β,τ,F,S,g.grow au (fun _ _ h=>h) (fun _ _ h=>.inl h) g.lt,t,l,l7 (c:=s.ctx w S β τ) (c':=s.ctx w.drew S β τ) (RB au g.lt (fun _ _ h=>h) _ _ _ _ _) (fY.refl rfl rfl) (ha.refl rfl rfl) aS⟩
theorem Ry {E:Env} {all:Array Oper}:∀(l:List Oper) (s bu:aX) (g:List c6),ky E all l s bu g->g.length=l.length
 | [],s,bu,g,h=>by rw[h.2];rfl
 |o::l,s,bu,g,h=>by
  obtain⟨e,aK,t,z,u,v⟩:=h
  rw[u];simp[Ry l _ _ _ v]
theorem alN {E:Env} (b9:eA E) (id:Nat) (ops:Array Oper) (draw:Bool) {R:ed} (M:ja E R) {s bu:aX} {u:List c6} (Y:ky E ops ops.toList s bu u) (bc:draw=true->Eo ops.toList u=true/\vE ops.toList=true) {a:Act} {w:World} (qb:Rel R s a w) {K:Exit->Act->World->Prop}
  (dP:∀I w',Rel R bu I w'->K .normal I w'):(Code.region id ops draw).wp E.P K a w:=by
 cases draw with
 |false=>
  refine wp_region ?_
  have:=RA (Q:=K) b9 M ops.toList 0 rfl s bu u Y a w qb (fun I w' F=>dP I w' F)
  rw[List.range_eq_range']
  simpa using this
 |true=>
  obtain⟨Z,O⟩:=bc rfl
  have hlen:=Ry _ _ _ _ Y
  refine wp_region_any b9.mix ?_
  obtain⟨rem,t⟩:∃rem:List (Nat×Oper×c6),rem=(List.range ops.size).zip (ops.toList.zip u):=⟨_,rfl⟩
  have XU:rem.length=ops.size:=by rw[t];simp[hlen]
  have g:∀(k:Nat) i x p,rem[k]? =some (i,x,p)->i=k/\ops[k]? =some x/\u[k]? =some p:=fun k i x p h=>by
   rw[t,Dw]at h
   obtain⟨C,S⟩:=h
   obtain⟨bD,U⟩:=Dw.1 S
   obtain⟨J,iu⟩:=dx.1 C
   exact⟨by simpa using iu.symm,by simpa using bD,U⟩
  have v:∀k,k<ops.size->∃x p,rem[k]? =some (k,x,p):=fun k bx=>by
   have kf:k<rem.length:=by omega
   obtain⟨⟨i,x,p⟩,bI⟩:∃z,z=rem[k]:=⟨_,rfl⟩
   have C:rem[k]? =some (i,x,p):=by rw[bH kf,<-bI]
   obtain⟨rfl,_⟩:=g k i x p C
   exact⟨x,p,C⟩
  refine J0 b9 M ops.size rem _ s bu (fun I w' F=>dP I w' F) a w.drew XU (by simp) (fun i=>?_) (fun i x p G=>?_) (fun k aJ i x p fW Cg C S=>?_) (fun i j eI X x y p q gf C S=>?_) (fun j o e bK=>?_) ?_ qb.drew (fun V=>?_) (fun l gT hex _=>Rl O l gT hex)
  .constructor
   .intro hi
    by_cases W:i<ops.size
    .obtain ⟨x,p,A⟩:=v i W
     exact⟨x,p,fc A⟩
    .simp [Array.getD,W]at hi
   .rintro ⟨x,p,G⟩
    obtain⟨k,bx,H⟩:=fe.1 G
    obtain⟨rfl,A,_⟩:=g k i x p (by rw[bH bx,H])
    have:i<ops.size:=(qS.1 A).1
    simp[Array.getD,this]
  .obtain ⟨k,bx,H⟩:=fe.1 G
   obtain⟨rfl,A,_⟩:=g k i x p (by rw[bH bx,H])
   exact A
  .rw [<-(g k i x p C).1,<-(g aJ i fW Cg S).1]
  .obtain ⟨rfl,A,cU⟩:=g i _ x p C
   obtain⟨rfl,hy,XH⟩:=g j _ y q S
   have bR:X<ops.size:=(qS.1 hy).1
   have bD:=cA.1 Z X (by simpa using bR)
   have U:=cA.1 bD eI (by simpa using gf)
   unfold QM at U
   rw[lB]at U
   rcases U with J|J
   .left
    have:=Qe ops.toList ops.toList [] (by simp) (fun j i au=>by simp at au) X eI J
    simpa using this
   .right
    have cy:(ops.toList.zip u)[eI]? =some (x,p):=Dw.2 ⟨by simpa using A,cU⟩
    have cb:(ops.toList.zip u)[X]? =some (y,q):=Dw.2 ⟨by simpa using hy,XH⟩
    rw[cy,cb]at J
    simp only at J
    exact Yv (by simpa using J)
  .by_cases W:j<ops.size
   .simp [Array.getD,W]at bK
   .simp [Array.getD,W]at bK
  .have cy:rem.map (·.2.1)=ops.toList:=by
    rw[t]
    apply sS
    intro k
    rw[ie]
    by_cases bx:k<ops.size
    .obtain ⟨x,p,A⟩:=v k bx
     rw[<-t,A]
     have:=(g k k x p A).2.1
     simpa using this.symm
    .rw [kr (by simp[hlen];omega),kr (by simpa using bx)];rfl
   have cb:rem.map (·.2.2)=u:=by
    rw[t]
    apply sS
    intro k
    rw[ie]
    by_cases bx:k<ops.size
    .obtain ⟨x,p,A⟩:=v k bx
     rw[<-t,A]
     exact(g k k x p A).2.2.symm
    .rw [kr (by simp[hlen];omega),kr (by rw[hlen];simpa using bx)];rfl
   rw[cy,cb];exact Y
  .by_cases hc:ops.size=0
   .exact yk (by omega)
   .exfalso
    exact Rl O _ (by simp) ⟨0,by omega,by simp[Array.getD,Nat.pos_of_ne_zero hc]⟩ V
theorem TQ {c:Ctx} {L:List ar} {a:Act} (u:a.tmps.size=L.length) (aS:∀i,bo c (dT L i) (a.tmps.getD i undef)):bs (bo c) L a.tmps.toList:=by
 have g:∀(L:List ar) (i:Nat),dT L i=(L[i]?).getD .dead:=by
  intro L
  induction L with
  |nil=>intro i;rfl
  |cons x L z=>intro i;cases i with
   |zero=>rfl
   |succ i=>simpa[dT]using z i
 refine bs.uJ (by simp[u]) (fun i x v A l=>?_)
 have t:=aS i
 rw[g,A,mi]at t
 have C:a.tmps.getD i undef=v:=by
  rw[jY]at l
  have hi:i<a.tmps.size:=(qS.1 l).1
  rw[Dy hi]at l
  simp[Array.getD,hi,Option.some.inj l]
 rw[C]at t;exact t
theorem Sl {c:Ctx} {L:List ar} {t:Array Value} (h:bs (bo c) L t.toList):t.size=L.length/\∀i,bo c (dT L i) (t.getD i undef):=by
 have u:=h.len
 have g:∀(L:List ar) (i:Nat),dT L i=(L[i]?).getD .dead:=by
  intro L
  induction L with
  |nil=>intro i;rfl
  |cons x L v=>intro i;cases i with
   |zero=>rfl
   |succ i=>simpa[dT]using v i
 refine⟨by simpa using u.symm,fun i=>?_⟩
 rw[g]
 by_cases hi:i<L.length
 .have l:i<t.size:=by simp at u;omega
  have:=h.get' i L[i] t[i] (by simp[hi]) (by simp[l])
  simpa[hi,Array.getD,l]using this
 .rw [kr (by omega)]
  exact True.intro
theorem Ks {E:Env} {R:ed} (G:ja E R) {w:World} {S:bW} {s:aX} {β:Nat->Nat} {τ:Nat->Value} {F:Nat->Nat->Prop} (dG:Mem R (aY s.B) (aF s.T) β τ F S w)
  {sh:ay} {xs:List ar} {y:fZ sh.fm} {acc:Acc} (bB:sh.conv s.B s.T xs=some (y,acc)) (H:IP E acc=true) {vals:List Value} (O:bs (bo (s.ctx w S β τ)) xs vals):
  ∃S',Mem R (aY (sh.mk' y).B) (aF (sh.mk' y).T) (dR acc β) (gW acc τ) (fs acc F) S' w/\bs (bo ((sh.mk' y).ctx w S' (dR acc β) (gW acc τ))) (sh.mk' y).L vals:=by
 obtain⟨hinv,S',nL,g,I,J,wb,tD,U,V⟩:=D9 dG (fun k b h=>h) (fun n z h=>h) bB O
 simp only[IP,bk,cA]at H
 obtain⟨okB,fz⟩:=H
 have K:∀ {k u},bV acc.az k=some u->dR acc β k=β u:=fun {k u} h=>by unfold dR;rw[h];rfl
 obtain⟨g1,g2,g3,g4,g5⟩:=U R.dm (fun k b bx=>by
   obtain⟨u,bt,l,A,_⟩:=I k b bx
   rw[K l];exact(g.boxes u bt A).1) (fun t aa b W au=>by
   obtain⟨M,l,A⟩:=J t aa W
   have X:=qt hinv.rt.1 t M l
   unfold fs at au
   rw[X]at au
   cases M with
   |none=>exact au.elim
   |some m=>
    obtain⟨C,Y,_⟩:=A
    exact((g.bG m C Y).1 b au).1)
 refine⟨S',⟨g.ew,g.cq,g.new,g.iP,g.lt,g1,g2,g3,g4,g5,fun k b au bx=>?_,fun t v aa O W=>?_,fun n aa aS i o d cD Z fo gS=>absurd (HZ _ _ n aa cD aS i o d Z fo) gS⟩,V⟩
 .obtain ⟨ej,kH⟩:=gk.1 bx
  obtain⟨u,bt,l,A,_⟩:=I k ej kH
  have Q:=G.1 k (by rw[au];simp)
  have:=okB (k,u) (l8 l)
  simp[Q]at this
  subst this
  rw[K l]
  exact g.k6 k b au (by rw[A];simp)
 .obtain ⟨M,l,A⟩:=J t aa W
  have Q:=G.2.1 t (by rw[O];simp)
  have:=fz (t,M) l
  cases M with
  |none=>simp[Q]at this
  |some m=>
   simp[Q]at this
   subst this
   obtain⟨C,Y,_⟩:=A
   have X:=qt hinv.rt.1 t (some t) l
   unfold gW
   rw[X]
   exact g.kS t v C O Y
theorem ani {E:Env} {R:ed} (g:ja E R) {sh:ay} {s:aX} {y:fZ sh.fm} (h:sh.vb E s=some y) {a:Act} {w:World} (u:Rel R s a w):Rel R (sh.mk' y) a w:=by
 unfold ay.vb at h
 split at h
 case h_2=>cases h
 rename_i J acc v
 split at h
 case isFalse=>cases h
 rename_i l
 cases h
 obtain⟨β,τ,F,S,z,A,C,aS⟩:=u
 obtain⟨S',t,G⟩:=Ks g z v l (TQ A aS)
 obtain⟨H,I⟩:=Sl G
 exact⟨_,_,_,S',t,H,C,I⟩
theorem Jn {E:Env} {R:ed} (g:ja E R) {sh:ay} {s:aX} {y:fZ sh.fm} (h:sh.to E s=some y) {a:Act} {w:World} (l:Rel R s a w):Rel R (sh.mk' y) a w:=ani g h (QU l)
def Tt (E:Env) (R:ed) (c:Code) (Q:Exit->aX->Prop) (s:aX):Prop:=
 ∀a w,Rel R s a w->c.wp E.P (fun e g w'=>∃bu,Rel R bu g w'/\Q e bu) a w
theorem al4 {ρ:Type} {E:Env} (b9:eA E) {R:ed} (H:ja E R) (N:Nat) {z:ρ}:∀(c:Code) (h:Hint) (s:aX) (K:Exit->aX->Option ρ),jm N E xz c h s K=some z->Tt E R c (fun e bu=>K e bu=some z) s:=by
 intro c
 induction c with
 |skip=>exact fun h s K u a w A=>wp_skip ⟨s,A,u⟩
 |region id ops draw=>
  intro h s K u a w A
  simp only[jm]at u
  simp only[anf]at u
  obtain⟨s,u,V⟩:=rr h.Lo s u
  have A:=V R a w H A
  obtain⟨bu,W,aD,O⟩:=IX E ops _ _ _ _ u
  rw[List.reverse_nil,fj]at O
  have bD:(draw=true->Eo ops.toList W=true/\vE ops.toList=true)/\K .normal bu=some z:=by
   cases draw with
   |false=>exact⟨(fun h=>by cases h),O⟩
   |true=>
    simp only at O
    split at O
    .rename_i U
     simp only[xz,bk]at U
     exact⟨fun _=>U,O⟩
    .cases O
  exact alN b9 id ops draw H aD bD.1 A (fun Q w' v=>⟨bu,v,bD.2⟩)
 |seq x y I J=>
  intro h s K u a w A
  simp only[jm]at u
  split at u
  .rename_i M hy lY
   refine wp_seq (wp_mono (I M s _ u a w A) (fun e Q w' he=>?_))
   obtain⟨bu,v,C⟩:=he
   cases e with
   |normal=>exact J hy bu K C Q w' v
   |_=>exact⟨bu,v,C⟩
  .rename_i sh M hy lY
   unfold meet at u
   refine wp_seq (wp_mono (I M s _ u a w A) (fun e Q w' he=>?_))
   obtain⟨bu,v,C⟩:=he
   cases e with
   |normal=>
    simp only at C
    split at C
    case h_2=>cases C
    rename_i g cr
    exact J hy _ K C Q w' (Jn H cr v)
   |_=>exact⟨bu,v,C⟩
 |cond c x y I J=>
  intro h s K u a w A
  simp only[jm]at u
  split at u
  case h_2=>cases u
  rename_i b au
  have v:=A
  obtain⟨β,τ,F,S,dG,cD,gp,aS⟩:=A
  have cO:a.eval c= .bool b:=sJ (au▸hL aS c)
  have G:I7 s c b=s:=by
   cases c with
   |tmp t=>exact I6 au
   |_=>rfl
  refine wp_cond_split cO (fun ax=>?_) (fun lf=>?_)
  .rw [ax]at u G
   simp only at u
   rw[G]at u
   exact I _ s K u a w v
  .rw [lf]at u G
   simp only at u
   rw[G]at u
   exact J _ s K u a w v
 |block id b X=>
  intro h s K u a w A
  simp only[jm]at u
  refine wp_block (wp_mono (X _ s _ u a w A) (fun e Q w' he=>?_))
  obtain⟨bu,v,C⟩:=he
  cases e with
  |exit j=>
   simp only[Exit.inBlock]
   simp only at C
   split
   .rename_i e;rw[e,Nat.beq_refl]at C;exact⟨bu,v,C⟩
   .rename_i e;rw[show Nat.beq j id=false from by cases au:Nat.beq j id with|true=>exact absurd (yl au) e|false=>rfl]at C;exact⟨bu,v,C⟩
  |_=>exact⟨bu,v,C⟩
 |exit id=>exact fun h s K u a w A=>wp_exit ⟨s,A,u⟩
 |ret=>exact fun h s K u a w A=>wp_ret ⟨s,A,u⟩
 |label l=>exact fun h s K u a w A=>wp_label ⟨s,A,u⟩
 |loop b X=>
  intro h s K u a w A
  simp only[jm]at u
  split at u
  case h_2=>cases u
  rename_i sh au
  split at u
  case h_2=>cases u
  rename_i kq Y
  refine wp_loop_ghost (fun n a w=>∃x,iter (fun go g=>jm N E xz b au (sh.mk' g) fun e bu=>match e with| .normal=>(match sh.to E bu with|some g=>go g|none=>none)|e=>K e bu) n x=some z/\Rel R (sh.mk' x) a w) N ⟨kq,u,Jn H Y A⟩ (fun n a w ⟨x,M,Z⟩=>?_)
  cases n with
  |zero=>cases M
  |succ n=>
   simp only[iter]at M
   refine wp_mono (X au _ _ M a w Z) (fun e Q w' he=>?_)
   obtain⟨bu,v,C⟩:=he
   cases e with
   |normal=>
    simp only at C
    split at C
    case h_2=>cases C
    rename_i fW kK
    exact⟨n,Nat.lt_succ_self n,fW,C,Jn H kK v⟩
   |_=>exact⟨bu,v,C⟩
 |_=>exact fun h s K u=>by simp only[jm]at u;cases u
def xL (tmps:Array Value):ResultVar->Sem Value
 | .tmp t=>pure (tmps.getD t undef)
 | .cell g t=>do loadVar t (<-asAddr (tmps.getD g undef))
theorem alW (fn:Func) (tmps:Array Value):results fn tmps=(fn.results.mapM (xL tmps))>>=fun g=>pure (if h:g.size=1 then g[0]else .tuple g):=by
 unfold results
 congr 1
theorem ak0 {c:Ctx} {x y:ar} {v:Value} (g:x.one? =some y) (h:bo c x v):ga c y v:=by
 cases x with
 |bM _=>cases g
 |_=>cases g;exact h
section
variable {E : Env} (b9 : eA E) {s : aX} {c : Ctx} {a : Act} {w : World} (aS : ∀ i, bo c (dT s.L i) (a.tmps.getD i undef)) (zC : c.w = w) (zy : ∀ k b, aY s.B k = some b -> j0 c k (c.β k) b.cs)
include b9 aS zC zy
theorem alV (r:ResultVar) (x:ar) (h:xK E s r=some x):∃v,(xL a.tmps r).run E.P w= .ok v w/\ga c x v:=by
 cases r with
 |tmp t=>exact⟨_,rfl,ak0 h (aS t)⟩
 |cell J T=>
  simp only[xK]at h
  have l:=aS J
  split at h
  case h_2=>cases h
  rename_i k q ty bx Q
  rw[bx]at l
  have ok:=b9.ty _ _ Q
  obtain⟨d,hu,K⟩:=ok.desc
  obtain⟨i,z,hi,A,_⟩:=ok.info
  split at h
  case isTrue=>cases h
  rename_i u
  split at h
  case h_2=>cases h
  rename_i b C
  have M:a.tmps.getD J undef= .pointer (some ⟨c.β k,q,none⟩):=(vf (by simpa using u) l).2
  obtain⟨O,S,F,G⟩:=(zy k b C).cells (by simpa using u)
  rw[zC]at F
  have hlen:=G.len
  split at h
  .rename_i g
   split at h
   .rename_i hle
    cases h
    refine⟨.agg ((O.drop q).take ty.size).toArray,?_,_,rfl,(G.drop q).take _⟩
    simp only[xL,M,asAddr,Sem.run_bind,Sem.run_pure,Result.andThen_ok]
    rw[P4 hu (K.trans g) hi w _ ((O.drop q).take ty.size) (by simp[A];omega) (fun j v bR=>?_)]
    rw[ho]at bR
    split at bR
    .rw [hT]at bR
     rw[nv,vH F];exact bR
    .cases bR
   .cases h
  .rename_i g
   obtain⟨v,H,I⟩:=G.get q x h
   refine⟨v,?_,kz I.1⟩
   simp only[xL,M,asAddr,Sem.run_bind,Sem.run_pure,Result.andThen_ok]
   rw[HK hu (K.trans (by simpa using g)) w _ v (by rw[vH F];exact H)]
theorem Rp :∀(rs:List ResultVar) (xs:List ar),pq E s rs=some xs->∃g,(rs.mapM (xL a.tmps)).run E.P w= .ok g w/\bs (ga c) xs g
 | [],xs,h=>by simp[pq]at h;subst h;exact⟨[],rfl,True.intro⟩
 |r::rs,xs,h=>by
  simp only[pq]at h
  split at h
  .rename_i x ys l hy
   cases h
   obtain⟨v,t,u⟩:=alV b9 aS zC zy r x l
   obtain⟨g,z,A⟩:=Rp rs ys hy
   refine⟨v::g,?_,u,A⟩
   rw[List.mapM_cons,Sem.run_bind,t,Result.andThen_ok,Sem.run_bind,z]
   rfl
  .cases h
theorem alU (fn:Func) (x:ar) (h:qL E s fn.results.toList=some x):∃v,(results fn a.tmps).run E.P w= .ok v w/\bo c x v:=by
 unfold qL at h
 have key:∀xs,pq E s fn.results.toList=some xs->∃g:List Value,(results fn a.tmps).run E.P w= .ok (if h:g.toArray.size=1 then g.toArray[0]else .tuple g.toArray) w/\bs (ga c) xs g:=fun xs F=>by
  obtain⟨g,z,l⟩:=Rp b9 aS zC zy _ xs F
  refine⟨g,?_,l⟩
  rw[alW,Array.mapM_eq_mapM_toList,Sem.run_bind,Sem.run_map,z]
  rfl
 split at h
 .rename_i y hy
  cases h
  obtain⟨g,z,l⟩:=key _ hy
  match g,l with
  | [v],l=>
   refine⟨v,by rw[z];simp,?_⟩
   have C:=l.1
   cases x with
   |bM ys=>exact C.elim
   |_=>exact C
 .rename_i xs t A
  cases h
  obtain⟨g,z,l⟩:=key _ A
  have u:=l.len
  have G:¬g.toArray.size=1:=by
   intro h
   match xs,u,t with
   | [y],u,t=>exact t y rfl
   | [],u,_=>simp at h u;omega
   |_::_::_,u,_=>simp at h u;omega
  refine⟨.tuple g.toArray,?_,g,rfl,l⟩
  rw[z,dif_neg G]
 .cases h
end
theorem alT {E:Env} {s:aX} (T:List (Nat×Option bb)) (rs:List ResultVar):qL E {s with T:=T} rs=qL E s rs:=by
 have g:∀r,xK E {s with T:=T} r=xK E s r:=fun r=>by cases r<;>rfl
 have t:∀l,pq E {s with T:=T} l=pq E s l:=fun l=>by
  induction l with
  |nil=>rfl
  |cons r l u=>simp only[pq,g,u]
 simp only[qL,t]
mutual
def b8.bG :b8->List Nat
 | .own n _ _ _=>[n]
 | .aw n _ _ _=>[n]
 | .kn n _ _=>[n]
 | .qQ n _ _=>[n]
 | .agg l=>b8.km l
 | .bM l=>b8.km l
 | .aU _ l=>b8.km l
 |_=>[]
def b8.km :List b8->List Nat
 | []=>[]
 |v::l=>v.bG++b8.km l
end
def D0 :List (Nat×Bool×List b8)->List Nat
 | []=>[]
 |b::l=>b8.km b.2.2++D0 l
def ay.names (s:ay):List Nat:=s.boxes.map (·.1)++(b8.km s.vals++D0 s.boxes)
mutual
theorem YE :∀(v:b8) (ps:List gN) (x:Nat×Option bb),x∈(inst v ps).2.2->x.1∈v.bG
 | .dead,ps,x,h=>by cases h
 | .ag t,ps,x,h=>by cases ps<;>cases h
 | .aQ,ps,x,h=>by cases h
 | .eK,ps,x,h=>by cases h
 | .box k o,ps,x,h=>by cases h
 | .ptr t,ps,x,h=>by cases ps<;>cases h
 | .own n t e d,ps,x,h=>by
  simp only[inst]at h
  split at h
  .simp at h;subst h;simp[b8.bG]
  .cases h
 | .aw n t e d,ps,x,h=>by
  simp only[inst]at h
  split at h
  .simp at h;subst h;simp[b8.bG]
  .cases h
 | .kn n t e,ps,x,h=>by
  simp only[inst]at h
  split at h
  .simp at h;subst h;simp[b8.bG]
  .cases h
 | .qQ n t e,ps,x,h=>by
  simp only[inst]at h
  split at h
  .simp at h;subst h;simp[b8.bG]
  .cases h
 | .agg l,ps,x,h=>tU l ps x h
 | .bM l,ps,x,h=>tU l ps x h
 | .aU f l,ps,x,h=>by
  cases ps with
  |nil=>cases h
  |cons p ps=>exact tU l _ x h
theorem tU :∀(l:List b8) (ps:List gN) (x:Nat×Option bb),x∈(hA l ps).2.2->x.1∈b8.km l
 | [],ps,x,h=>by cases h
 |v::l,ps,x,h=>by
  simp only[hA]at h
  rcases cp.1 h with h|h
  .exact e8 _ (YE v ps x h)
  .exact kW _ (tU l _ x h)
end
theorem Mo :∀(l:List (Nat×Bool×List b8)) (ps:List gN),(∀x,x∈(l4 l ps).2->x.1∈D0 l)/\∀x,x∈(l4 l ps).1->x.1∈l.map (·.1)
 | [],ps=>⟨(fun x h=>by cases h),(fun x h=>by cases h)⟩
 |(k,cn,g)::l,ps=>by
  obtain⟨t,u⟩:=Mo l (hA g ps).2.1
  refine⟨fun x h=>?_,fun x h=>?_⟩
  .simp only [l4]at h
   rcases cp.1 h with h|h
   .exact e8 _ (tU g ps x h)
   .exact kW _ (t x h)
  .simp only [l4]at h
   rcases bm.1 h with h|h
   .subst h;simp
   .exact b7 _ (u x h)
theorem akA (sh:ay) (y:fZ sh.fm):(∀k,aY (sh.mk' y).B k≠none->k∈sh.names)/\∀t,aF (sh.mk' y).T t≠none->t∈sh.names:=by
 obtain⟨g,l⟩:=Mo sh.boxes (hA sh.vals (unpack sh.fm y)).2.1
 refine⟨fun k bx=>?_,fun t u=>?_⟩
 .obtain ⟨b,au⟩:=gk.1 bx
  exact e8 _ (l (k,b) (n0 au))
 .obtain ⟨z,v⟩:=gk.1 u
  have:=qu v
  refine kW _ ?_
  rcases cp.1 this with h|h
  .exact e8 _ (tU sh.vals _ (t,some z) h)
  .exact kW _ (g (t,some z) h)
theorem akB {E:Env} (b9:eA E) {f:FuncId} {fn:Func} {c:Code} (lf:E.P.funcs[f]? =some fn) (U:(fn.name== "runtime.NumGoroutine")=false) (G:fn.body=some c) (N:Nat) (h:Hint) (m:Model) (Z:m.arg.names.all E.res=true) (hlen:Nat.ble m.arg.vals.length fn.ntmps=true)
  (iL:∀a,m.run a=IW N E xz fn c h m.arg m.ret a):hW E.P f m:=by
 refine⟨⟨fn,lf,by simpa using U,by rw[G];rfl⟩,fun a r Y=>?_⟩
 rw[iL a]at Y
 unfold IW at Y
 simp only at Y
 obtain⟨H,J⟩:∃H,H=m.arg.mk' a:=⟨_,rfl⟩
 rw[<-J]at Y⊢
 intro w S β τ F bQ qd dG dU
 have jK:H.L.length<=fn.ntmps:=by
  have:∀(l:List b8) (ps:List gN),(hA l ps).1.length=l.length:=by
   intro l
   induction l with
   |nil=>intro ps;rfl
   |cons v l lh=>intro ps;simp only[hA,aZ,lh]
  have e:H.L.length=m.arg.vals.length:=by rw[J];exact this _ _
  rw[e];exact Nat.le_of_ble_eq_true hlen
 have e3:ja E (jh H β τ F S w):=by
  obtain⟨akE,Ql⟩:=akA m.arg a
  have A:=cA.1 Z
  refine⟨fun k bx=>A k (akE k ?_),fun t ax=>A t (Ql t ?_),qd⟩
  .rw [<-J]
   intro e
   simp only[jh,e]at bx
   exact bx rfl
  .rw [<-J]
   intro e
   simp only[jh,e]at ax
   exact ax rfl
 have bK:=dU.len
 obtain⟨s1,V⟩:∃s1:aX,s1=⟨H.L++List.replicate (fn.ntmps-H.L.length) (.bM []),H.B,H.T⟩:=⟨_,rfl⟩
 rw[<-V]at Y
 have qb:Rel (jh H β τ F S w) s1 {tmps:=bQ.toArray++Array.replicate (fn.ntmps-bQ.toArray.size) undef,defers:=[]} w:=by
  have A:bs (bo (s1.ctx w S β τ)) s1.L (bQ.toArray++Array.replicate (fn.ntmps-bQ.toArray.size) undef).toList:=by
   rw[V]
   simp only[Array.toList_append,Array.toList_replicate]
   refine bs.append (dU) ?_
   simp only[List.size_toArray]
   rw[bK]
   generalize fn.ntmps-bQ.length=n
   induction n with
   |zero=>exact True.intro
   |succ n lh=>exact⟨⟨[],rfl,True.intro⟩,lh⟩
  obtain⟨aD,aV⟩:=Sl A
  refine⟨β,τ,F,S,by rw[V];exact dG,aD,rfl,aV⟩
 refine calls_of_wp lf G (wp_mono (al4 b9 e3 N c h s1 _ Y _ _ qb) (fun e bN w' he=>?_))
 obtain⟨bu,zu,C⟩:=he
 have fin:(match qL E bu fn.results.toList with|some v=>m.ret.vb E ⟨v::extras m.ret.vals.tail bu.n9.T,bu.B,bu.n9.T⟩|none=>none)=some r->bN.defers=[]/\∃v,(results fn bN.tmps).run E.P w'= .ok v w'/\∃fi vo vp yp S',Ending.returned v= .returned fi/\Mem (jh H β τ F S w) (aY (m.ret.mk' r).B) (aF (m.ret.mk' r).T) vo vp yp S' w'/\∃x,(m.ret.mk' r).L.head? =some x/\bo ((m.ret.mk' r).ctx w' S' vo vp) x fi:=fun C=>by
  split at C
  case h_2=>cases C
  rename_i x bd
  rw[<-alT (Cn bu.T)]at bd
  obtain⟨sp,W⟩:∃sp,sp=bu.n9:=⟨_,rfl⟩
  have K:=QU zu
  have bd:qL E bu.n9 fn.results.toList=some x:=bd
  have K:Rel _ bu.n9 bN w':=K
  have We:bu.B=sp.B:=by rw[W];rfl
  rw[We,<-W]at C
  rw[<-W]at bd K
  clear zu
  obtain⟨M,I,kv,fM,X,aoA,Fk,wA⟩:=K
  obtain⟨v,aD,aV⟩:=alU b9 (c:=sp.ctx w' fM M I) wA rfl (fun k b bx=>(X.boxes k b bx).2.2.2) fn x bd
  unfold ay.vb at C
  split at C
  case h_2=>cases C
  rename_i y acc bB
  split at C
  case isFalse=>cases C
  rename_i oS
  cases C
  have g:∀(n:Nat) (us:List Value) {l:List ar},bs (bo (sp.ctx w' fM M I)) l us->∃anv,bs (bo (sp.ctx w' fM M I)) ((if r7 (aF sp.T n)then ar.aw n else ar.dead)::l) anv:=fun n us {l} u=>by
   split
   .rename_i O
    cases bI:aF sp.T n with
    |none=>rw[bI]at O;cases O
    |some z=>cases z with
     |eg=>rw[bI]at O;cases O
     |live aa=>
      exact⟨I n::us,⟨(X.bG n aa bI).cell,by show aF sp.T n≠none;rw[bI];simp,fun bY _=>rfl⟩,u⟩
   .exact ⟨undef::us,True.intro,u⟩
  have hex:∃us,bs (bo (sp.ctx w' fM M I)) (extras m.ret.vals.tail sp.T) us:=by
   generalize m.ret.vals.tail=l
   induction l with
   |nil=>exact⟨[],True.intro⟩
   |cons q l lh=>
    obtain⟨us,u⟩:=lh
    cases q with
    |aw n t e d=>exact g n us u
    |kn n t e=>exact g n us u
    |_=>exact⟨undef::us,True.intro,u⟩
  obtain⟨us,u⟩:=hex
  obtain⟨S',iK,Q⟩:=Ks e3 X (s:=sp) bB oS (vals:=v::us) ⟨aV,u⟩
  refine⟨Fk,v,aD,v,_,_,_,S',rfl,iK,?_⟩
  cases Lt:(m.ret.mk' r).L with
  |nil=>rw[Lt]at Q;exact Q.elim
  |cons z zs=>rw[Lt]at Q;exact⟨z,rfl,Q.1⟩
 cases e with
 |normal=>exact fin C
 |ret=>exact fin C
 |_=>cases C
theorem o6 {P:Program} {f:FuncId} (h:qY P f) (m:Model) (l:∀a,m.run a=none):hW P f m:=
 ⟨h,fun a r g=>by rw[l]at g;cases g⟩
def JH (P:Program) (t:TypeId):b3->b3->Prop
 | .int k _,.int l _=>k=l/\∃g,P.underlying t=some (.int g)
 | .bool _,.bool _=>P.underlying t=some .bool
 | .str _,.str _=>P.underlying t=some .string
 |_,_=>False
def DG (P:Program):List (Bool×TypeId×Nat)->Nat->List b3->List b3->Prop
 | [],_,[],[]=>True
 |f::g,i,p::ps,q::l=>(f.1=false/\f.2.2=i/\JH P f.2.1 p q)/\DG P g (i+1) ps l
 |_,_,_,_=>False
def oM :b3->b3->Bool
 | .int _ a,.int _ b=>decide (a=b)
 | .bool a,.bool b=>a==b
 | .str a,.str b=>a.toList==b.toList
 |_,_=>false
def kE :List b3->List b3->Bool
 | [],[]=>true
 |p::ps,q::g=>oM p q&&kE ps g
 |_,_=>false
theorem KQ {P:Program} {xs ys:Array Value} (d:Nat) (w:World):∀(g:List Field) (i:Nat) (ps t:List b3),DG P (g.map fun f=>(f.name== "_",f.type,f.offset)) i ps t->
  (∀j p,ps[j]? =some p->xs[i+j]? =some (fq p))->(∀j p,t[j]? =some p->ys[i+j]? =some (fq p))->(Op.eqFields (d+1) xs ys g).run P w= .ok (kE ps t) w
 | [],i,[],[],_,_,_=>rfl
 | [],i,_::_,_,h,_,_=>h.elim
 | [],i,[],_::_,h,_,_=>h.elim
 |f::g,i,[],_,h,_,_=>by cases h
 |f::g,i,_::_,[],h,_,_=>by cases h
 |f::g,i,p::ps,q::t,h,F,hy=>by
  obtain⟨⟨G,H,l⟩,K⟩:=h
  simp only at G H l
  have M:f.name≠ "_" :=by simpa using G
  have O:=KQ d w g (i+1) ps t K (fun j p z=>by rw[<-F (j+1) p z];congr 1;omega) (fun j p z=>by rw[<-hy (j+1) p z];congr 1;omega)
  have I:=F 0 p rfl
  have J:=hy 0 q rfl
  rw[lH,<-H]at I J
  have main:(∃A,P.underlying f.type=some A/\TypeDesc.isAgg A=false)->(Op.equalIn (d+1) f.type (fq p) (fq q)).run P w= .ok (oM p q) w->(Op.eqFields (d+1) xs ys (f::g)).run P w= .ok (kE (p::ps) (q::t)) w:=by
   rintro⟨A,Q,u⟩ S
   have part:∀(cs:Array Value) (v:Value),cs[f.offset]? =some v->(part f.type cs f.offset).run P w= .ok v w:=fun cs v U=>by
    simp only[Go.part,Sem.run_bind,wP Q,Result.andThen_ok,u,nk,if_false,U,Sem.run_pure]
   simp only[Op.eqFields,ai M,Sem.run_bind,part xs _ I,part ys _ J,Result.andThen_ok,S]
   cases he:oM p q with
   |false=>simp[kE,he]
   |true=>simp[kE,he,O]
  cases p<;>cases q<;>simp only[JH]at l
  .exact main ⟨_,l,rfl⟩ (by simp[fq,run_equalIn_bool' w d _ _ _ l,oM])
  .obtain ⟨rfl,C,bx⟩:=l
   exact main ⟨_,bx,rfl⟩ (by simp[fq,run_equalIn_int w d _ _ C _ _ bx,oM];exact vN _ _)
  .exact main ⟨_,l,rfl⟩ (by simp[fq,run_equalIn_string w d _ _ _ l,oM])
theorem KR :∀(a b c d:List b3),a.length=b.length->kE (a++c) (b++d)=(kE a b&&kE c d)
 | [],[],c,d,_=>by simp[kE]
 |p::a,q::b,c,d,h=>by
  simp only[jZ,kE,KR a b c d (by simpa using h),Bool.and_assoc]
 | [],_::_,_,_,h=>by cases h
 |_::_,[],_,_,h=>by cases h
theorem Ez :∀(r:aH) (x y:r.D),r.cj=true->kE (enc r x) (enc r y)=r.hO x y
 | .bool,x,y,_=>by simp[enc,kE,oM,aH.hO]
 | .int _,x,y,_=>by simp[enc,kE,oM,aH.hO]
 | .str,x,y,_=>by
  simp only[enc,kE,oM,aH.hO,Kc,fX]
  by_cases h:x=y<;>simp[h]
 | .unit,x,y,_=>rfl
 | .pair a b,x,y,h=>by
  simp only[aH.cj,bk]at h
  simp only[enc,aH.hO]
  rw[KR _ _ _ _ (by rw[en,en]),Ez a _ _ h.1,Ez b _ _ h.2]
 | .av _,_,_,h=>by cases h
 | .opt _,_,_,h=>by cases h
 | .q,_,_,h=>by cases h
theorem p1 {P:Program} {t:TypeId} (r:aH) (g:r.cj=true) (v:P.eqGuardType P.depth t=false) (hu:P.underlying t=some (.struct (P.fieldsOf t))) (u:P.stoodInHeld t=false) (l:List (Bool×TypeId×Nat)) (z:((P.fieldsOf t).toList.map fun f=>(f.name== "_",f.type,f.offset))=l)
  (h:∀x y:r.D,DG P l 0 (enc r x) (enc r y)):r.cj=true/\P.eqGuardType P.depth t=false/\∀w (x y:r.D),(Op.equalIn 10000 t (.agg ((enc r x).map fq).toArray) (.agg ((enc r y).map fq).toArray)).run P w= .ok (r.hO x y) w:=by
 refine⟨g,v,fun w x y=>?_⟩
 rw[run_equalIn_agg w 9999 t _ _ hu u,<-Ez r x y g]
 refine KQ 9998 w _ 0 _ _ (z▸h x y) (fun j p u=>?_) (fun j p u=>?_)
 .simp [u]
 .simp [u]
def QQ (r:aH) (x:r.D) (agg:Bool):Value:=bif agg then .agg ((enc r x).map fq).toArray else ix r x
structure anL (P:Program) (d:Nat) (f:Bool×TypeId×Nat) (i:Nat) (agg:Bool) (r:aH):Prop where
 name:f.1=false
 off:f.2.2=i
 ao1:∃desc,P.underlying f.2.1=some desc/\TypeDesc.isAgg desc=agg
 size:agg=true->∃inf,P.info? f.2.1=some inf/\inf.size=r.w
 one:agg=false->∀x:r.D,∃p,enc r x=[p]
 eq:∀w (x y:r.D),(Op.equalIn d f.2.1 (QQ r x agg) (QQ r y agg)).run P w= .ok (r.hO x y) w
@[reducible] def anq : List (Bool × aH) -> aH
 | []=>.unit
 | [(_,r)]=>r
 |(_,r)::a::l=>.pair r (anq (a::l))
end Go.Proofs.YtnkagklajgimlaaGreatDoor
