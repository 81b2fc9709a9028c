
import Derived.Test.YtnkagklajgimlaaGreatDoorKW
set_option linter.unusedSimpArgs false
set_option linter.unusedVariables false
namespace Go.Proofs.YtnkagklajgimlaaGreatDoor
open Go.RowKit
section
variable {E : Env} {o : Oper} {s : aY} {e : bP} {aM : dc}
theorem akS (cd:eG E) (h:(cK E o.op o.dst s.aQ).R s [] [] e aM):cX E o s e:=by
 cases u:o.op with
 |move x=>rw[u]at h;cases da h;exact Ue x (.inl u)
 |assign x=>rw[u]at h;cases da h;exact Ue x (.inr u)
 |pick c a b=>exact ari c a b u h
 |alloc T=>exact aqR cd T u h
 |box T x=>exact aqV T x u h
 |build T parts=>exact aqW cd T parts u h
 |buildSlice T len parts=>exact akp cd T len parts u (fun d ty K r A cs xs v z F G I M O Q Gz=>aqX cd T len parts u d ty K r A cs xs v z F G I M O Q Gz) h
 |load T x=>exact arb cd T x u (fun ty n i q aa aU v z F G I=>arc cd T x u ty n i q aa aU v z F G I) (fun y k v z=>arl y k v z) (fun ty g v z F=>aq5 cd T x u ty g v z F) h
 |store T x y=>exact ai2 cd T x y u (fun ty n i q aa aU ys v z F G I M O Q=>ark cd T x y u ty n i q aa aU ys v z F G I M O Q) h
 |makeSlice T l c=>exact arf cd T l c u h
 |nilCheck x=>exact arh x u h
 |binOp op T x y t=>
  have C:=h
  rw[u]at C
  simp only[cK]at C
  split at C
  .rename_i xs ys U
   exact aqQ cd op T x y t u xs ys U C
  .exact aqU cd op T x y t u C
 |unOp op T x=>exact arn op T x u h
 |fieldAddr T x f=>exact aq4 cd T x f u h
 |field T x f=>exact aq3 cd T x f u h
 |indexAddr T x i=>exact aq8 cd T x i u h
 |index T x i=>exact aq7 cd T x i u h
 |extract x i=>exact aq2 x i u h
 |makeFunc g first captured=>
  cases g with
  |func f=>exact ard f first captured u h
  |_=>rw[u]at h;exact h.elim
 |convert S T x=>exact aq1 cd S T x u h
 |slice T x lo hi aox=>
  cases aox with
  |none=>exact alF cd T x lo hi u h
  |some _=>rw[u]at h;exact h.elim
 |call c=>
  cases H:c.callee with
  |value g=>exact aqY cd c u g H h
  |invoke r m=>rw[u]at h;simp only[cK,H]at h;exact h.elim
  |builtin b=>
   by_cases v:b= .len
   .exact aq9 cd c u (by rw[H,v]) h
   by_cases z:b= .min
   .exact Ud c u false (by rw[H,z];rfl) h
   by_cases F:b= .max
   .exact Ud c u true (by rw[H,F];rfl) h
   by_cases G:b= .append
   .exact aiJ cd c u (by rw[H,G]) (fun d x y T ty K r A t aa V a2 a3 a4 a5 W X Y a9 J=>aqT cd c u (by rw[H,G]) d x y T ty K r A t aa V a2 a3 a4 a5 W X Y a9 J) (fun d x y T ty K r A t k aa V a2 a3 a4 a5 W X Y a9 J Z a12 Wf=>aqS cd c u (by rw[H,G]) d x y T ty K r A t k aa V a2 a3 a4 a5 W X Y a9 J Z a12 Wf) h
   by_cases I:b= .clear
   .exact aq0 cd c u (by rw[H,I]) h
   rw[u]at h
   simp only[cK,H]at h
   split at h
   .rename_i e;cases e
   .rename_i e;cases e;exact absurd rfl v
   .rename_i e;cases e;exact absurd rfl I
   .rename_i e;cases e;exact absurd rfl z
   .rename_i e;cases e;exact absurd rfl F
   .rename_i e;cases e;exact absurd rfl G
   .exact h.elim
 |makeMap T r=>rw[u]at h;exact h.elim
 |lookup T x i ok=>
  have C:=h
  rw[u]at C
  simp only[cK]at C
  split at C
  .rename_i g bU
   exact aq6 cd T x i ok u g (YC bU) C
  .exact C.elim
 |mapUpdate T x i y=>rw[u]at h;exact h.elim
 |_=>rw[u]at h;exact h.elim
end
inductive Seen where
 |go
 |pass
 |ask (b want:Bool)
 |stuck
def seen (all:Array Oper) (s:aY) (o:Oper):Seen:=
 match o.guard with
 |none=>.go
 |some (j,want)=>match(all[j]?).bind (·.dst)with
  |none=>.pass
  |some t=>match dU s.L t with
   | .af .bool b=>.ask b want
   | .bR []=>.pass
   |_=>.stuck
def ha (E:Env) (all:Array Oper) (s:aY) (o:Oper) (e:bP) (aM:dc):Prop:=
 match seen all s o with
 | .go=>(cK E o.op o.dst s.aQ).R s [] [] e aM
 | .pass=>e=nQ/\aM=⟨[],[],[],[]⟩
 | .ask b want=>if b=want then(cK E o.op o.dst s.aQ).R s [] [] e aM else e=nQ/\aM=⟨[],[],[],[]⟩
 | .stuck=>False
def kS (E:Env) (all:Array Oper):List Oper->aY->aY->List dc->Prop
 | [],s,bA,t=>bA=s/\t=[]
 |o::l,s,bA,t=>∃e aM g,ha E all s o e aM/\t=aM::g/\kS E all l (s.app o.dst e) bA g
theorem ajr {all:Array Oper} {c:Ctx} {s:aY} {a:Act} (h:∀i,bp c (dU s.L i) (a.tmps.getD i undef)) (o:Oper):
  (seen all s o= .go->Region.wanted o (yielded all a.tmps)=true)/\(seen all s o= .pass->Region.wanted o (yielded all a.tmps)=false)/\∀b want,seen all s o= .ask b want->Region.wanted o (yielded all a.tmps)=(b==want):=by
 unfold seen Region.wanted
 cases K:o.guard with
 |none=>exact⟨fun _=>rfl,nofun,nofun⟩
 |some H=>
  obtain⟨j,want⟩:=H
  simp only
  cases z:(all[j]?).bind (·.dst)with
  |none=>
   refine⟨nofun,fun _=>?_,nofun⟩
   simp[yielded,z]
  |some t=>
   have v:=h t
   simp only
   cases u:dU s.L t with
   |af I y=>
    cases I with
    |bool=>
     rw[u]at v
     have l:a.tmps.getD t undef= .bool y:=tG v
     have A:a.tmps[t]? =some (.bool y):=by
      by_cases g:t<a.tmps.size
      .simp [Array.getD,g]at l;simp[g,l]
      .simp [Array.getD,g,undef]at l
     refine⟨nofun,nofun,fun M C h=>?_⟩
     cases h
     simp[yielded,z,A]
    |_=>exact⟨nofun,nofun,nofun⟩
   |bR cs=>
    cases cs with
    |nil=>
     rw[u]at v
     obtain⟨G,l,J⟩:=v
     have F:G=[]:=by cases G with
      |nil=>rfl
      |cons _ _=>exact J.elim
     subst F
     refine⟨nofun,fun _=>?_,nofun⟩
     have:yielded all a.tmps j=none:=by
      unfold yielded
      rw[z]
      by_cases g:t<a.tmps.size
      .simp [Array.getD,g]at l;simp[g,l]
      .simp [g]
     simp[this]
    |cons _ _=>exact⟨nofun,nofun,nofun⟩
   |_=>exact⟨nofun,nofun,nofun⟩
theorem Um {E:Env} (cd:eG E) {all:Array Oper} {s:aY} {o:Oper} {e:bP} {aM:dc} (h:ha E all s o e aM) {i:Nat} (hi:all[i]? =some o) {R:ec} (l:jv E R) {a:Act} {w:World} (v:Rel R s a w) {Q:Exit->Act->World->Prop} {K:Act->World->Prop}
  (z:∀A w',Rel R (s.app o.dst e) A w'->K A w'):wpOp E.P all Q i K a w:=by
 have t:=v
 obtain⟨β,τ,F,S,C,G,u,aU⟩:=v
 obtain⟨H,I,J⟩:=ajr (all:=all) aU o
 have go:Region.wanted o (yielded all a.tmps)=true->(cK E o.op o.dst s.aQ).R s [] [] e aM->wpOp E.P all Q i K a w:=fun hw M=>by
  unfold Go.wpOp
  simp only[hi,hw,if_true]
  exact .inl (akS cd M R a w l t K Q z)
 have pass:Region.wanted o (yielded all a.tmps)=false->e=nQ->wpOp E.P all Q i K a w:=fun hw he=>by
  subst he
  unfold Go.wpOp
  simp only[hi,hw,nY,if_false]
  exact z _ _ (ki (s:=s) (e:=nQ) C G u aU o.dst (.inr ⟨[],rfl,True.intro⟩))
 unfold ha at h
 cases g:seen all s o with
 |go=>rw[g]at h;exact go (H g) h
 |pass=>rw[g]at h;exact pass (I g) h.1
 |ask b want=>
  rw[g]at h
  have hw:=J b want g
  simp only at h
  split at h
  .exact go (by rw[hw];simpa using ‹b=want›) h
  .exact pass (by rw[hw];simpa using ‹¬b=want›) h.1
 |stuck=>rw[g]at h;exact h.elim
theorem TW {E:Env} (cd:eG E) {all:Array Oper} {Q:Exit->Act->World->Prop} {R:ec} (t:jv E R):∀(l:List Oper) (k:Nat),all.toList.drop k=l->∀(s bA:aY) (g:List dc),kS E all l s bA g->∀a w,Rel R s a w->(∀v w',Rel R bA v w'->Q .normal v w')->
  wpOps E.P all Q ((List.range' k l.length)) a w
 | [],k,_,s,bA,g,h,a,w,A,z=>by rw[h.1]at z;exact z a w A
 |o::l,k,bB,s,bA,g,h,a,w,A,z=>by
  obtain⟨e,aM,u,F,_,G⟩:=h
  have hi:all[k]? =some o:=by
   have:(all.toList.drop k)[0]? =some o:=by rw[bB];rfl
   simpa using this
  rw[ba,List.range'_succ,wpOps_cons]
  refine Um cd F hi t A (fun v w' C=>TW cd t l (k+1) ?_ _ bA u G v w' C z)
  rw[<-List.tail_drop,bB];rfl
def sO (a b:List Nat):Bool:=a.all fun x=> !b.contains x
def dc.apart (p q:dc):Bool:=sO p.hQ q.aE&&sO p.hQ q.hQ&&sO q.hQ p.aE&&sO p.wt q.rt&&sO p.wt q.wt&&sO q.wt p.rt
def Hx (all:Array Oper) (x y:Oper) (p q:dc):Bool:=Oper.apart all x y&&p.apart q
theorem uy {a b:List Nat} (h:sO a b=true):∀x,x∈a->x∉b:=fun x g av=>by
 have:=cz.1 h x g
 simp at this
 exact this av
theorem bP.tE (f:Nat->Option cm) (e:bP) (k:Nat) (h:k∉e.boxes):e.updB f k=f k:=by
 unfold bP.updB bP.boxes at*
 revert f
 generalize e.box=l at h
 induction l with
 |nil=>intro f;rfl
 |cons x l g=>
  intro f
  simp only[cw,bn,not_or]at h
  rw[eZ,g h.2]
  simp[Go.Proofs.YtnkagklajgimlaaGreatDoor.updB,h.1]
theorem bP.ar4 (e:bP) (k:Nat):∀(f g:Nat->Option cm),f k=g k->e.updB f k=e.updB g k:=by
 unfold bP.updB
 generalize e.box=l
 induction l with
 |nil=>intro f g h;exact h
 |cons x l t=>
  intro f g h
  rw[eZ,eZ]
  refine t _ _ ?_
  simp only[Go.Proofs.YtnkagklajgimlaaGreatDoor.updB,h]
theorem bP.VC (e:bP) (k:Nat) (h:k∈e.boxes):∀(f g:Nat->Option cm),e.updB f k=e.updB g k:=by
 unfold bP.updB bP.boxes at*
 revert h
 generalize e.box=l
 induction l with
 |nil=>intro h;cases h
 |cons x l u=>
  intro h f g
  rw[eZ,eZ]
  by_cases t:k=x.1
  .have:=bP.ar4 ⟨.dead,l,[]⟩ k (Go.Proofs.YtnkagklajgimlaaGreatDoor.updB f x.1 x.2) (Go.Proofs.YtnkagklajgimlaaGreatDoor.updB g x.1 x.2) (by simp[Go.Proofs.YtnkagklajgimlaaGreatDoor.updB,t])
   exact this
  .simp only [cw,bn]at h
   exact u (h.resolve_left t) _ _
theorem bP.tF (f:Nat->Option bc) (e:bP) (k:Nat) (h:k∉e.bI):e.updT f k=f k:=by
 unfold bP.updT bP.bI at*
 revert f
 generalize e.tok=l at h
 induction l with
 |nil=>intro f;rfl
 |cons x l g=>
  intro f
  simp only[cw,bn,not_or]at h
  rw[eZ,g h.2]
  simp[Go.Proofs.YtnkagklajgimlaaGreatDoor.updT,h.1]
theorem bP.ar5 (e:bP) (k:Nat):∀(f g:Nat->Option bc),f k=g k->e.updT f k=e.updT g k:=by
 unfold bP.updT
 generalize e.tok=l
 induction l with
 |nil=>intro f g h;exact h
 |cons x l t=>
  intro f g h
  rw[eZ,eZ]
  refine t _ _ ?_
  simp only[Go.Proofs.YtnkagklajgimlaaGreatDoor.updT,h]
theorem bP.VD (e:bP) (k:Nat) (h:k∈e.bI):∀(f g:Nat->Option bc),e.updT f k=e.updT g k:=by
 unfold bP.updT bP.bI at*
 revert h
 generalize e.tok=l
 induction l with
 |nil=>intro h;cases h
 |cons x l u=>
  intro h f g
  rw[eZ,eZ]
  by_cases t:k=x.1
  .have:=bP.ar5 ⟨.dead,[],l⟩ k (Go.Proofs.YtnkagklajgimlaaGreatDoor.updT f x.1 x.2) (Go.Proofs.YtnkagklajgimlaaGreatDoor.updT g x.1 x.2) (by simp[Go.Proofs.YtnkagklajgimlaaGreatDoor.updT,t])
   exact this
  .simp only [cw,bn]at h
   exact u (h.resolve_left t) _ _
theorem T0 {all:Array Oper} {s:aY} {x y:Oper} {e:bP} (h:∀d,x.dst=some d->d∉y.looksAt all):seen all (s.app x.dst e) y=seen all s y:=by
 unfold seen
 cases l:y.guard with
 |none=>rfl
 |some u=>
  obtain⟨j,want⟩:=u
  simp only
  cases v:(all[j]?).bind (·.dst)with
  |none=>rfl
  |some t=>
   have g:¬(x.dst=some t/\t<s.L.length):=fun z=>h t z.1 (by simp[Oper.looksAt,l,v])
   simp only[zR,aC g]
theorem Mr {all:Array Oper} {s:aY} {x y:Oper} {e:bP} (h:∀d,x.dst=some d->d∉y.looksAt all):∀z,z∈y.op.operands->(s.app x.dst e).aQ z=s.aQ z:=by
 intro z l
 cases z with
 |tmp t=>
  have g:¬(x.dst=some t/\t<s.L.length):=fun u=>h t u.1 (fc _ (rQ.2 ⟨.tmp t,by simpa using l,rfl⟩))
  simp only[aY.aQ,zR,aC g]
 |_=>rfl
structure hp (s bA:aY):Prop where
 L:bA.L=s.L
 B:aZ bA.B=aZ s.B
 T:aH bA.T=aH s.T
theorem hp.refl (s:aY):hp s s:=⟨rfl,rfl,rfl⟩
theorem hp.trans {a b c:aY} (h:hp a b) (k:hp b c):hp a c:=⟨k.L.trans h.L,k.B.trans h.B,k.T.trans h.T⟩
theorem hp.symm {a b:aY} (h:hp a b):hp b a:=⟨h.L.symm,h.B.symm,h.T.symm⟩
theorem hp.rel {s bA:aY} (h:hp s bA) {R:ec} {a:Act} {w:World} (g:Rel R s a w):Rel R bA a w:=by
 obtain⟨β,τ,F,S,l,t,u,aU⟩:=g
 refine⟨β,τ,F,S,by rw[h.B,h.T];exact l,by rw[h.L];exact t,u,fun i=>?_⟩
 have:bA.ctx w S β τ=s.ctx w S β τ:=by simp only[aY.ctx,h.B,h.T]
 rw[this,h.L];exact aU i
theorem hp.app {s bA:aY} (h:hp s bA) (d:Option Nat) (e:bP):hp (s.app d e) (bA.app d e):=
 ⟨by simp only[aY.app,h.L],by rw[rY,rY,h.B],by rw[ob,ob,h.T]⟩
theorem hp.aQ {s bA:aY} (h:hp s bA):bA.aQ=s.aQ:=by
 funext z;cases z<;>simp only[aY.aQ,h.L]
theorem MY :∀ {L l:List au},L.length=l.length->(∀i,dU L i=dU l i)->L=l
 | [],[],_,_=>rfl
 |x::L,y::l,g,h=>by
  have t:=h 0
  simp only[dU]at t
  rw[t,MY (by simpa using g) (fun i=>h (i+1))]
 | [],_::_,g,_=>by simp at g
 |_::_,[],g,_=>by simp at g
theorem aoY (E:Env) (op:Op) (dst:Option Nat) {ρ v:Operand->au} (h:∀x,x∈op.operands->ρ x=v x):cK E op dst ρ=cK E op dst v:=by
 have F:∀ps:Array (Nat×Operand),(∀x,x∈(ps.toList.map (·.2)).toArray->ρ x=v x)->(ps.toList.map fun q=>(q.1,ρ q.2))=(ps.toList.map fun q=>(q.1,v q.2)):=fun ps M=>
  l8 fun q O=>by
   rw[M q.2 (by simp;exact⟨q.1,by simpa using O⟩)]
 cases op
 case call c=>
  have A:∀x,x∈c.args.toList->ρ x=v x:=fun x C=>h x (by simp[Op.operands,Call.operands];exact .inr (by simpa using C))
  have G:c.args.toList.map ρ=c.args.toList.map v:=l8 fun x C=>A x C
  cases H:c.callee with
  |value g=>
   have Q:ρ g=v g:=h g (by simp[Op.operands,Call.operands,H])
   simp only[cK,H,Q,G]
  |invoke r m=>simp only[cK,H]
  |builtin b=>
   simp only[cK,H]
   rcases I:c.args.toList with _|⟨x,_|⟨y,_|⟨z,l⟩⟩⟩
   .cases b<;>(first|rfl|(cases dst<;>rfl))
   .have C:=A x (by rw[I];simp)
    generalize c.argTypes[0]? =J
    cases b<;>(first|rfl|(cases J<;>first|rfl|simp only[C])|(cases dst<;>rfl))
   .have C:=A x (by rw[I];simp)
    have hy:=A y (by rw[I];simp)
    generalize c.argTypes.toList=K
    cases b<;>(first|rfl|(simp only[C,hy];done)|(cases dst<;>rcases K with _|⟨t1,_|⟨t2,_|⟨t3,l⟩⟩⟩<;>first|rfl|(simp only[C,hy];done)))
   .rcases l with _|⟨u,l⟩
    .have C:=A x (by rw[I];simp)
     have hy:=A y (by rw[I];simp)
     have S:=A z (by rw[I];simp)
     cases b<;>(first|rfl|(cases dst<;>rfl)|(simp only[C,hy,S];done))
    .cases b<;>(first|rfl|(cases dst<;>rfl))
 all_goals simp only[Op.operands]at h
 all_goals simp only[cK]
 case build t ps=>rw[F ps h]
 case buildSlice t n ps=>rw[F ps h]
 case makeFunc g first captured=>
  have H:captured.toList.map ρ=captured.toList.map v:=l8 fun x C=>h x (by simp;exact .inr (by simpa using C))
  cases g with
  |func f=>simp only[H]
  |_=>rfl
 case slice t x lo hi U=>cases U<;>cases lo<;>cases hi<;>simp_all
 all_goals(first|rfl|(simp_all;done))
theorem KL {E:Env} {all:Array Oper} {s bA:aY} {o:Oper} {e:bP} {aM:dc} (h:ha E all s o e aM) (aU:seen all bA o=seen all s o) (he:∀z,z∈o.op.operands->bA.aQ z=s.aQ z) (av:∀k,k∈aM.aE->aZ bA.B k=aZ s.B k) (l:∀t,t∈aM.rt->aH bA.T t=aH s.T t):ha E all bA o e aM:=by
 unfold ha at h⊢
 rw[aU]
 have go:(cK E o.op o.dst s.aQ).R s [] [] e aM->(cK E o.op o.dst bA.aQ).R bA [] [] e aM:=fun h=>by
  rw[aoY E o.op o.dst he]
  exact bk.R.move _ _ _ _ _ h av l
 cases g:seen all s o with
 |go=>rw[g]at h;exact go h
 |pass=>rw[g]at h;exact h
 |ask b want=>
  rw[g]at h
  simp only at h⊢
  split at h
  .rw [ai ‹_›];exact go h
  .rw [aC ‹_›];exact h
 |stuck=>rw[g]at h;exact h
theorem Un {E:Env} {all:Array Oper} {s:aY} {o:Oper} {e:bP} {aM:dc} (h:ha E all s o e aM):aM.hQ=e.boxes/\aM.wt=e.bI:=by
 have pass:e=nQ/\aM=⟨[],[],[],[]⟩->aM.hQ=e.boxes/\aM.wt=e.bI:=by rintro⟨rfl,rfl⟩;exact⟨rfl,rfl⟩
 unfold ha at h
 cases g:seen all s o with
 |go=>rw[g]at h;exact bk.R.writes _ _ _ h
 |pass=>rw[g]at h;exact pass h
 |ask b want=>
  rw[g]at h
  simp only at h
  split at h
  .exact bk.R.writes _ _ _ h
  .exact pass h
 |stuck=>rw[g]at h;exact h.elim
structure zE (all:Array Oper) (x y:Oper) (p q:dc):Prop where
 VL:∀d,x.dst=some d->d∉y.looksAt all
 VS:∀d,y.dst=some d->d∉x.looksAt all
 wZ:∀d,x.dst=some d->y.dst≠some d
 ew:∀k,k∈p.hQ->k∉q.aE
 a8:∀k,k∈p.hQ->k∉q.hQ
 fF:∀k,k∈q.hQ->k∉p.aE
 t1:∀k,k∈p.wt->k∉q.rt
 t2:∀k,k∈p.wt->k∉q.wt
 t3:∀k,k∈q.wt->k∉p.rt
theorem aa2 {all:Array Oper} {x y:Oper} {p q:dc} (h:Hx all x y p q=true):zE all x y p q:=by
 simp only[Hx,dc.apart,a6]at h
 obtain⟨g,⟨⟨⟨⟨l,t⟩,u⟩,v⟩,z⟩,A⟩:=h
 obtain⟨C,a2,a3⟩:=Oper.apart_spec g
 exact⟨C,a3,a2,uy l,uy t,uy u,uy v,uy z,uy A⟩
theorem Wv {s:aY} {x y:Option Nat} {e f:bP} (u:∀d,x=some d->y≠some d) (av:∀k,k∈e.boxes->k∉f.boxes) (v:∀t,t∈e.bI->t∉f.bI):hp ((s.app x e).app y f) ((s.app y f).app x e):=by
 refine⟨MY (by simp only[Fq]) (fun i=>?_),?_,?_⟩
 .simp only [zR,Fq]
  by_cases l:x=some i/\i<s.L.length
  .have g:¬(y=some i/\i<s.L.length):=fun h=>u i l.1 h.1
   simp only[aC g,ai l]
  .by_cases g:y=some i/\i<s.L.length
   .simp only [ai g,aC l]
   .simp only [aC g,aC l]
 .funext k
  simp only[rY]
  by_cases l:k∈f.boxes
  .have g:k∉e.boxes:=fun h=>av k h l
   rw[bP.tE _ e k g]
   exact bP.VC f k l _ _
  .rw [bP.tE _ f k l]
   by_cases g:k∈e.boxes
   .exact bP.VC e k g _ _
   .rw [bP.tE _ e k g,bP.tE _ e k g,bP.tE _ f k l]
 .funext k
  simp only[ob]
  by_cases l:k∈f.bI
  .have g:k∉e.bI:=fun h=>v k h l
   rw[bP.tF _ e k g]
   exact bP.VD f k l _ _
  .rw [bP.tF _ f k l]
   by_cases g:k∈e.bI
   .exact bP.VD e k g _ _
   .rw [bP.tF _ e k g,bP.tF _ e k g,bP.tF _ f k l]
theorem arA {E:Env} {all:Array Oper} {s bA:aY} {o:Oper} {e:bP} {aM:dc} (h:ha E all s o e aM) (g:hp s bA):ha E all bA o e aM:=
 KL h (by unfold seen;rw[g.L]) (fun z _=>by rw[g.aQ]) (fun k _=>by rw[g.B]) (fun t _=>by rw[g.T])
theorem TV {E:Env} {all:Array Oper}:∀(l:List Oper) (s s1 bA:aY) (g:List dc),kS E all l s bA g->hp s s1->∃s2,kS E all l s1 s2 g/\hp bA s2
 | [],s,s1,bA,g,h,u=>⟨s1,⟨rfl,h.2⟩,by rw[h.1];exact u⟩
 |o::l,s,s1,bA,g,h,u=>by
  obtain⟨e,aM,t,v,z,A⟩:=h
  obtain⟨s2,C,F⟩:=TV l _ _ bA t A (u.app o.dst e)
  exact⟨s2,⟨e,aM,t,arA v u,z,C⟩,F⟩
theorem arB {E:Env} {all:Array Oper} {s:aY} {x y:Oper} {e f:bP} {p q:dc} (C:ha E all s x e p) (hy:ha E all (s.app x.dst e) y f q) (hi:zE all x y p q):
  ha E all s y f q/\ha E all (s.app y.dst f) x e p/\hp ((s.app x.dst e).app y.dst f) ((s.app y.dst f).app x.dst e):=by
 obtain⟨g,l⟩:=Un C
 obtain⟨u,v⟩:=Un hy
 refine⟨KL hy (T0 hi.VL).symm (fun z F=>(Mr hi.VL z F).symm) (fun k bB=>?_) (fun t A=>?_),KL C (T0 hi.VS) (Mr hi.VS) (fun k bB=>?_) (fun t A=>?_),Wv hi.wZ (fun k bB=>?_) (fun t A=>?_)⟩
 .rw [rY];exact(bP.tE _ e k (fun h=>hi.ew k (g▸h) bB)).symm
 .rw [ob];exact(bP.tF _ e t (fun h=>hi.t1 t (l▸h) A)).symm
 .rw [rY];exact bP.tE _ f k (fun h=>hi.fF k (u▸h) bB)
 .rw [ob];exact bP.tF _ f t (fun h=>hi.t3 t (v▸h) A)
 .exact u▸hi.a8 k (g▸bB)
 .exact v▸hi.t2 t (l▸A)
theorem TT {E:Env} {all:Array Oper} {y:Oper} {q:dc}:∀(l t:List Oper) (f1 f2:List dc) (s bA:aY),f1.length=l.length->kS E all (l++y::t) s bA (f1++q::f2)->(∀(i:Nat) x p,l[i]? =some x->f1[i]? =some p->zE all x y p q)->
  ∃e g,ha E all s y e q/\kS E all (l++t) (s.app y.dst e) g (f1++f2)/\hp g bA
 | [],t,f1,f2,s,bA,u,h,_=>by
  have:f1=[]:=zt u
  subst this
  obtain⟨e,aM,v,A,z,C⟩:=h
  simp at z
  obtain⟨rfl,rfl⟩:=z
  exact⟨e,bA,A,C,hp.refl _⟩
 |x::l,t,f1,f2,s,bA,u,h,hi=>by
  match f1,u with
  |p::f1,u=>
   obtain⟨e,aM,v,A,z,C⟩:=h
   simp only[kp,List.cons.injEq]at z
   obtain⟨rfl,rfl⟩:=z
   obtain⟨f,g,g1,g2,g3⟩:=TT l t f1 f2 _ bA (by simpa using u) C (fun i F G H I=>hi (i+1) F G (by simpa using H) (by simpa using I))
   obtain⟨J,K,M⟩:=arB A g1 (hi 0 x p rfl rfl)
   obtain⟨O,g4,g5⟩:=TV _ _ _ _ _ g2 M
   exact⟨f,O,J,⟨e,p,f1++f2,K,rfl,g4⟩,g5.symm.trans g3⟩
def Jx :List Oper->List Nat->List Nat
 | [],acc=>acc
 |o::l,acc=>Jx l (acc++ [o.after.toList.foldl (fun m e=>if Region.binds .any e then m|||(1<<<e.on)|||acc.getD e.on 0 else m) 0])
def SU (all:Array Oper) (ms:List Nat) (l:List (Oper×dc)) (i j:Nat):Bool:=
 (ms.getD j 0).testBit i||match l[i]?,l[j]? with
  |some (x,p),some (y,q)=>Hx all x y p q
  |_,_=>false
def F0 (all:List Oper) (g:List dc):Bool:=
 let ms:=Jx all []
 let l:=all.zip g
 (List.range all.length).all fun j=>(List.range j).all fun i=>SU all.toArray ms l i j
inductive qq (all:Array Oper):Nat->Nat->Prop where
 |F3 (i j:Nat) (o:Oper) (e:Edge) (bV:all[j]? =some o) (he:e∈o.after) (av:Region.binds .any e=true) (hi:e.on=i):qq all i j
 |step (i k j:Nat) (o:Oper) (e:Edge) (bV:all[j]? =some o) (he:e∈o.after) (av:Region.binds .any e=true) (bB:e.on=k) (h:qq all i k):qq all i j
theorem Sk (all:List Oper):∀(l:List Oper) (acc:List Nat),all=all.take acc.length++l->(∀j i,(acc.getD j 0).testBit i=true->qq all.toArray i j)->∀j i,((Jx l acc).getD j 0).testBit i=true->qq all.toArray i j
 | [],acc,_,h=>h
 |o::l,acc,t,h=>by
  have hlen:acc.length<all.length:=by
   have:=congrArg List.length t
   simp at this;omega
  have A:all[acc.length]? =some o:=by
   rw[t]
   rw[lx (by simp;omega)]
   simp[pg (Nat.le_of_lt hlen)]
  refine Sk all l _ ?_ (fun j i av=>?_)
  .simp only [bh,bS]
   rw[dT hlen]
   have:all[acc.length]=o:=by rw[bG hlen]at A;exact Option.some.inj A
   rw[this,e5]
   simpa using t
  .by_cases bV:j<acc.length
   .rw [n1,kN bV,<-n1]at av
    exact h j i av
   .by_cases F:j=acc.length
    .subst F
     have u:∀(es:List Edge) (m:Nat),(es.foldl (fun m e=>if Region.binds .any e then m|||(1<<<e.on)|||acc.getD e.on 0 else m) m).testBit i=true->m.testBit i=true\/ ∃e,e∈es/\Region.binds .any e=true/\(e.on=i\/(acc.getD e.on 0).testBit i=true):=by
      intro es
      induction es with
      |nil=>exact fun m hm=>.inl hm
      |cons e es H=>
       intro m hm
       simp only[eZ]at hm
       rcases H _ hm with g|⟨I,g,C,v⟩
       .split at g
        .rename_i z
         simp only[Nat.testBit_or,lu,Nat.one_shiftLeft,Nat.testBit_two_pow]at g
         rcases g with(g|g)|g
         .exact .inl g
         .exact .inr ⟨e,cb,z,.inl (by simpa using g)⟩
         .exact .inr ⟨e,cb,z,.inr g⟩
        .exact .inl g
       .exact .inr ⟨I,ch _ g,C,v⟩
     have G:((o.after.toList.foldl (fun m e=>if Region.binds .any e then m|||(1<<<e.on)|||acc.getD e.on 0 else m) 0)).testBit i=true:=by
      simpa[List.getD]using av
     rcases u _ _ G with g|⟨e,g,C,v⟩
     .simp at g
     .rcases v with v|v
      .exact .F3 i _ o e (by simpa using A) (by simpa using g) C v
      .exact .step i e.on _ o e (by simpa using A) (by simpa using g) C rfl (h _ _ v)
    .have:acc.length+1<=j:=by omega
     rw[n1,kM (by simp;omega)]at av
     simp at av
def wF (all:Array Oper) (listed:Array Bool):Prop:=∀j o e,listed.getD j false=true->all[j]? =some o->e∈o.after->Region.binds .any e=true->listed.getD e.on false=true
theorem W7 {all:Array Oper} {listed:Array Bool} (l:wF all listed) {i j:Nat} (h:qq all i j):listed.getD j false=true->listed.getD i false=true:=by
 induction h with
 |F3 j o e bV he av hi=>exact fun g=>hi▸l j o e g bV he av
 |step k j o e bV he av bB h t=>exact fun g=>t (bB▸l j o e g bV he av)
theorem aqe {all:Array Oper} {listed:Array Bool} (t:wF all listed) {i j:Nat} (h:qq all i j) (u:j∈Region.ready .any all listed):listed.getD i false=true:=by
 obtain⟨_,o,l,g⟩:=mem_ready.1 u
 cases h with
 |F3 _ v e bV he av hi=>rw[bV]at l;cases l;exact hi▸g e he av
 |step k _ v e bV he av bB h=>rw[bV]at l;cases l;exact W7 t h (bB▸g e he av)
def V8 (all:Array Oper) (rem:List (Nat×Oper×dc)):Prop:=
 ∀(a b:Nat) i j x y p q,a<b->rem[a]? =some (i,x,p)->rem[b]? =some (j,y,q)->qq all i j\/zE all x y p q
theorem Lw {E:Env} (cd:eG E) {all:Array Oper} {Q:Exit->Act->World->Prop} {R:ec} (e3:jv E R):∀(fuel:Nat) (rem:List (Nat×Oper×dc)) (listed:Array Bool) (s bA:aY) (AL:∀a w,Rel R bA a w->Q .normal a w) (a:Act) (w:World),rem.length=fuel->listed.size=all.size->
  (∀i,listed.getD i true=false↔∃x p,(i,x,p)∈rem)->(∀i x p,(i,x,p)∈rem->all[i]? =some x)->(∀(k aL:Nat) i x p gm DH,rem[k]? =some (i,x,p)->rem[aL]? =some (i,gm,DH)->k=aL)->V8 all rem->wF all listed->kS E all (rem.map (·.2.1)) s bA (rem.map (·.2.2))->Rel R s a w->
  (Region.ready .any all listed=[]->rem=[])->(∀l:Array Bool,l.size=all.size->(∃i,i<all.size/\l.getD i true=false)->wF all l->Region.ready .any all l≠ [])->wpAny E.P .any all Q fuel listed a w
 |0,rem,listed,s,bA,AL,a,w,hlen,S,C,H,I,cp,bF,cG,qS,hd,G=>by
  have:rem=[]:=zt hlen
  subst this
  have K:Region.ready .any all listed=[]:=by
   rw[List.eq_nil_iff_forall_not_mem]
   intro i hi
   obtain⟨x,p,h⟩:=(C i).1 (mem_ready.1 hi).1
   simp at h
  refine⟨K,AL a w ?_⟩
  rw[cG.1];exact qS
 |fuel+1,rem,listed,s,bA,AL,a,w,hlen,S,C,H,I,cp,bF,cG,qS,hd,G=>by
  refine⟨fun h=>?_,fun i hi=>?_⟩
  .rw [hd h]at hlen;simp at hlen
  .obtain ⟨aaF,o,cC,U⟩:=mem_ready.1 hi
   obtain⟨x,p,W⟩:=(C i).1 aaF
   obtain⟨k,bB,xn⟩:=eb.1 W
   have Y:rem[k]? =some (i,x,p):=by rw[bG bB,xn]
   have N1:all[i]? =some x:=H i x p W
   obtain⟨A,V,cB,ck,dr⟩:∃A V:List (Nat×Oper×dc),rem=A++(i,x,p)::V/\A.length=k/\(∀y,y∈A->y∈rem):=by
    refine⟨rem.take k,rem.drop (k+1),?_,by simp;omega,fun y hy=>fC hy⟩
    conv=>lhs;rw[<-ko k rem]
    rw[eY bB,xn]
   subst cB
   rw[ib,cw,ib,cw]at cG
   obtain⟨e,s2,aG,aX,ZY⟩:=TT _ _ _ _ _ _ (by simp) cG (fun t y q hy dy=>by
    rw[iC]at hy dy
    cases v:A[t]? with
    |none=>simp[v]at hy
    |some z=>
     obtain⟨j,hD,oZ⟩:=z
     simp[v]at hy dy
     subst hy;subst dy
     have k6:t<A.length:=(dB.1 v).1
     rcases cp t k j i hD x oZ p (by omega) (by rw[kN k6];exact v) Y with h|h
     .have Z:=aqe bF h hi
      have M:listed.getD j true=false:=(C j).2 ⟨hD,oZ,fc _ (fY v)⟩
      exfalso
      have xl:j<listed.size:=by
       rcases Nat.lt_or_ge j listed.size with k2|k2
       .exact k2
       .simp [Array.getD,Nat.not_lt.2 k2]at Z
      simp[Array.getD,xl]at Z M
      rw[Z]at M;cases M
     .exact h)
   have ZH:i<listed.size:=by rw[S];exact(rN.1 N1).1
   have X:∀j d,(listed.setIfInBounds i true).getD j d=if j=i then true else listed.getD j d:=fun j d=>by
    by_cases h:j=i
    .subst h;simp[Array.getD,ZH]
    .rw [aC h,getD_set_ne d (Ne.symm h)]
   have F:wF all (listed.setIfInBounds i true):=fun j ta dn Z bV he av=>by
    rw[X]at Z⊢
    by_cases h:j=i
    .subst h
     rw[bV]at cC;cases cC
     have:=U dn he av
     rw[this];simp
    .rw [aC h]at Z
     rw[bF j ta dn Z bV he av];simp
   have ZL:∀y q,(i,y,q)∉A++V:=fun y q g=>by
    rcases cE.1 g with g|g
    .obtain ⟨t,v,Hh⟩:=eb.1 g
     have:=I t k i y q x p (by rw[kN v,bG v,Hh]) Y
     omega
    .obtain ⟨t,v,Hh⟩:=eb.1 g
     have:=I (A.length+(t+1)) k i y q x p (by rw[lx (by omega),Nat.add_sub_cancel_left,List.getElem?_cons_succ,bG v,Hh]) Y
     omega
   have J:∀(t:Nat) z,(A++V)[t]? =some z->∃dj,(A++(i,x,p)::V)[dj]? =some z/\dj=if t<A.length then t else t+1:=fun t z bL=>by
    by_cases v:t<A.length
    .rw [kN v]at bL
     exact⟨t,by rw[kN v];exact bL,by rw[ai v]⟩
    .rw [lx (by omega)]at bL
     refine⟨t+1,?_,by rw[aC v]⟩
     rw[lx (by omega),show t+1-A.length=(t-A.length)+1 from by omega,List.getElem?_cons_succ];exact bL
   have O:∀j,(listed.setIfInBounds i true).getD j true=false↔∃y q,(j,y,q)∈A++V:=fun j=>by
    rw[X]
    by_cases h:j=i
    .subst h
     simp only[if_true]
     exact⟨(fun h=>by cases h),fun⟨y,q,h⟩=>absurd h (ZL y q)⟩
    .rw [aC h,C j]
     constructor
     .rintro ⟨y,q,g⟩
      refine⟨y,q,?_⟩
      rcases cE.1 g with g|g
      .exact fc _ g
      .rcases bn.1 g with g|g
       .cases g;exact absurd rfl h
       .exact lv _ g
     .rintro ⟨y,q,g⟩
      refine⟨y,q,?_⟩
      rcases cE.1 g with g|g
      .exact fc _ g
      .exact lv _ (ch _ g)
   refine Um cd aG N1 e3 qS (fun bM w' AM=>Lw cd e3 fuel (A++V) _ _ s2 (fun a w h=>AL a w (ZY.rel h)) bM w' (by simp at hlen⊢;omega) (by simpa using S) O (fun j y q g=>?_) (fun t dj j y q hD oZ v h4=>?_) (fun t dj j db y hD q oZ gr v h4=>?_) F (by rw[ib,ib];exact aX) AM (fun K=>?_) G)
   .exact H j y q (by
     rcases cE.1 g with g|g
     .exact fc _ g
     .exact lv _ (ch _ g))
   .obtain ⟨u,hu,oo⟩:=J t _ v
    obtain⟨zm,Hl,Ga⟩:=J dj _ h4
    have:=I u zm j y q hD oZ hu Hl
    split at oo<;>split at Ga<;>omega
   .obtain ⟨u,hu,oo⟩:=J t _ v
    obtain⟨zm,Hl,Ga⟩:=J dj _ h4
    exact cp u zm j db y hD q oZ (by split at oo<;>split at Ga<;>omega) hu Hl
   .rcases List.eq_nil_or_concat (A++V)with h|⟨l,z,h⟩
    .exact h
    .exfalso
     obtain⟨j,y,q⟩:=z
     have g:(j,y,q)∈A++V:=by rw[h];simp
     have M:=(O j).2 ⟨y,q,g⟩
     have xl:j<all.size:=by
      have:=H j y q (by
       rcases cE.1 g with g|g
       .exact fc _ g
       .exact lv _ (ch _ g))
      exact(rN.1 this).1
     exact G _ (by simpa using S) ⟨j,xl,M⟩ F K
def wS (all:List Oper):Bool:=(List.range all.length).all fun j=>match all[j]? with
 |some o=>o.after.toList.all fun e=> !Region.binds .any e||decide (e.on<j)
 |none=>true
theorem LA {all:Array Oper} (av:wS all.toList=true) (j:Nat) (o:Oper) (bV:all[j]? =some o) (e:Edge) (he:e∈o.after) (g:Region.binds .any e=true):e.on<j:=by
 have l:j<all.size:=(rN.1 bV).1
 have t:=cz.1 av j (by simpa using l)
 rw[show all.toList[j]? =some o from by simpa using bV]at t
 have u:=cz.1 t e (by simpa using he)
 rw[g]at u
 simpa using u
theorem TD {all:Array Oper} (av:wS all.toList=true) (l:Array Bool) (z:l.size=all.size) (h:∃i,i<all.size/\l.getD i true=false):Region.ready .any all l≠ []:=by
 obtain⟨i,hi,hu⟩:=h
 have key:∀n i,i<=n->i<all.size->l.getD i true=false->∃j,j∈Region.ready .any all l:=by
  intro n
  induction n with
  |zero=>
   intro i A hi hu
   obtain rfl:i=0:=by omega
   refine⟨0,mem_ready.2 ⟨hu,all[0],by simp[hi],fun e he t=>?_⟩⟩
   have:=LA av 0 all[0] (by simp[hi]) e he t
   omega
  |succ n G=>
   intro i A hi hu
   by_cases g:∀e,e∈(all[i]).after->Region.binds .any e=true->l.getD e.on false=true
   .exact ⟨i,mem_ready.2 ⟨hu,all[i],by simp[hi],g⟩⟩
   .obtain ⟨e,he⟩:=Classical.not_forall.1 g
    obtain⟨C,F⟩:=Classical.not_imp.1 he
    obtain⟨t,u⟩:=Classical.not_imp.1 F
    have:=LA av i all[i] (by simp[hi]) e C t
    have v:e.on<all.size:=by omega
    refine G e.on (by omega) v ?_
    simp[Array.getD,z,v]at u⊢
    exact u
 obtain⟨j,bV⟩:=key i i (bE _) hi hu
 exact List.ne_nil_of_mem bV
def yG (ops:List Oper) (g:List dc):Bool:=F0 ops g&&wS ops
theorem T8 :∀(L:List au) (t:Nat) (v:au),dU L t=v->v≠ .dead->kl L t v=L
 | [],t,v,_,_=>rfl
 |x::L,0,v,h,_=>by simp only[dU]at h;subst h;rfl
 |x::L,t+1,v,h,g=>by simp only[kl,T8 L t v h g]
theorem KE {s:aY} {t:Nat} {b:Bool} (h:dU s.L t= .af .bool b):({s with L:=kl s.L t (.af .bool b)}:aY)=s:=by
 rw[T8 s.L t _ h (by simp)]
theorem Ky {ρ:Type} (E:Env) (all:Array Oper) {z:ρ}:∀(l:List Oper) (s:aY) (acc:List dc) (K:aY->List dc->Option ρ),p5 E all l s acc K=some z->∃bA g,kS E all l s bA g/\K bA (acc.reverse++g)=some z
 | [],s,acc,K,h=>⟨s,[],⟨rfl,rfl⟩,by rw[fe];exact h⟩
 |o::l,s,acc,K,h=>by
  have go:(cK E o.op o.dst s.aQ).run s [] [] (fun e aM=>p5 E all l (s.app o.dst e) (aM::acc) K)=some z->∃e aM bA g,(cK E o.op o.dst s.aQ).R s [] [] e aM/\kS E all l (s.app o.dst e) bA g/\K bA (acc.reverse++aM::g)=some z:=fun h=>by
   obtain⟨e,aM,I,G⟩:=bk.aqy _ _ _ h
   obtain⟨bA,g,C,J⟩:=Ky E all l _ _ K G
   exact⟨e,aM,bA,g,I,C,by simpa using J⟩
  have pass:p5 E all l (s.app o.dst nQ) (sf::acc) K=some z->∃bA g,kS E all l (s.app o.dst nQ) bA g/\K bA (acc.reverse++sf::g)=some z:=fun h=>by
   obtain⟨bA,g,C,J⟩:=Ky E all l _ _ K h
   exact⟨bA,g,C,by simpa using J⟩
  have F:(∀e aM,(cK E o.op o.dst s.aQ).R s [] [] e aM->ha E all s o e aM)->(cK E o.op o.dst s.aQ).run s [] [] (fun e aM=>p5 E all l (s.app o.dst e) (aM::acc) K)=some z->∃bA g,kS E all (o::l) s bA g/\K bA (acc.reverse++g)=some z:=fun aU h=>by
   obtain⟨e,aM,bA,g,I,G,C⟩:=go h
   exact⟨bA,aM::g,⟨e,aM,g,aU e aM I,rfl,G⟩,C⟩
  have u:ha E all s o nQ sf->p5 E all l (s.app o.dst nQ) (sf::acc) K=some z->∃bA g,kS E all (o::l) s bA g/\K bA (acc.reverse++g)=some z:=fun aU h=>by
   obtain⟨bA,g,G,C⟩:=pass h
   exact⟨bA,sf::g,⟨nQ,sf,g,aU,rfl,G⟩,C⟩
  simp only[p5]at h
  cases v:o.guard with
  |none=>
   rw[v]at h
   exact F (fun e aM H=>by simp only[ha,seen,v];exact H) h
  |some M=>
   obtain⟨j,want⟩:=M
   rw[v]at h
   simp only at h
   cases A:(all[j]?).bind (·.dst)with
   |none=>
    rw[A]at h
    exact u (by unfold ha seen;rw[v];simp only[A];(first|exact⟨rfl,rfl⟩|exact⟨True.intro,rfl⟩|trivial)) h
   |some t=>
    rw[A]at h
    simp only at h
    split at h
    .rename_i b av
     cases b with
     |true=>
      simp only at h
      rw[KE av]at h
      cases want with
      |true=>
       simp only[if_true]at h
       exact F (fun e aM H=>by simp only[ha,seen,v,A,av,if_true];exact H) h
      |false=>
       simp only[nY,if_false]at h
       exact u (by simp only[ha,seen,v,A,av,Bool.true_eq_false,if_false];(first|exact⟨rfl,rfl⟩|exact⟨True.intro,rfl⟩|trivial)) h
     |false=>
      simp only at h
      rw[KE av]at h
      cases want with
      |true=>
       simp only[if_true]at h
       exact u (by simp only[ha,seen,v,A,av,nY,if_false];(first|exact⟨rfl,rfl⟩|exact⟨True.intro,rfl⟩|trivial)) h
      |false=>
       simp only[nY,if_false]at h
       exact F (fun e aM H=>by simp only[ha,seen,v,A,av,if_true];exact H) h
    .rename_i av
     exact u (by simp only[ha,seen,v,A,av];(first|exact⟨rfl,rfl⟩|exact⟨True.intro,rfl⟩|trivial)) h
    .cases h
theorem Rel.drew {R:ec} {s:aY} {a:Act} {w:World} (h:Rel R s a w):Rel R s a w.drew:=by
 obtain⟨β,τ,F,S,g,t,l,aU⟩:=h
 have av:Below w.heap.size w w.drew:=(Below.refl _ _).drew
 refine⟨β,τ,F,S,g.grow av (fun _ _ h=>h) (fun _ _ h=>.inl h) g.lt,t,l,mK (c:=s.ctx w S β τ) (c':=s.ctx w.drew S β τ) (TX av g.lt (fun _ _ h=>h) _ _ _ _ _) (gn.refl rfl rfl) (hq.refl rfl rfl) aU⟩
theorem TU {E:Env} {all:Array Oper}:∀(l:List Oper) (s bA:aY) (g:List dc),kS E all l s bA g->g.length=l.length
 | [],s,bA,g,h=>by rw[h.2];rfl
 |o::l,s,bA,g,h=>by
  obtain⟨e,aM,t,z,u,v⟩:=h
  rw[u];simp[TU l _ _ _ v]
theorem aqg {E:Env} (cd:eG E) (id:Nat) (ops:Array Oper) (draw:Bool) {R:ec} (M:jv E R) {s bA:aY} {u:List dc} (Y:kS E ops ops.toList s bA u) (bd:draw=true->F0 ops.toList u=true/\wS ops.toList=true) {a:Act} {w:World} (qS:Rel R s a w) {K:Exit->Act->World->Prop}
  (dP:∀I w',Rel R bA I w'->K .normal I w'):(Code.region id ops draw).wp E.P K a w:=by
 cases draw with
 |false=>
  refine wp_region ?_
  have:=TW (Q:=K) cd M ops.toList 0 rfl s bA u Y a w qS (fun I w' F=>dP I w' F)
  rw[List.range_eq_range']
  simpa using this
 |true=>
  obtain⟨Z,O⟩:=bd rfl
  have hlen:=TU _ _ _ _ Y
  refine wp_region_any cd.mix ?_
  obtain⟨rem,t⟩:∃rem:List (Nat×Oper×dc),rem=(List.range ops.size).zip (ops.toList.zip u):=⟨_,rfl⟩
  have aaq:rem.length=ops.size:=by rw[t];simp[hlen]
  have g:∀(k:Nat) i x p,rem[k]? =some (i,x,p)->i=k/\ops[k]? =some x/\u[k]? =some p:=fun k i x p h=>by
   rw[t,E1]at h
   obtain⟨C,S⟩:=h
   obtain⟨bD,U⟩:=E1.1 S
   obtain⟨J,iL⟩:=dB.1 C
   exact⟨by simpa using iL.symm,by simpa using bD,U⟩
  have v:∀k,k<ops.size->∃x p,rem[k]? =some (k,x,p):=fun k bB=>by
   have kD:k<rem.length:=by omega
   obtain⟨⟨i,x,p⟩,bL⟩:∃z,z=rem[k]:=⟨_,rfl⟩
   have C:rem[k]? =some (i,x,p):=by rw[bG kD,<-bL]
   obtain⟨rfl,_⟩:=g k i x p C
   exact⟨x,p,C⟩
  refine Lw cd M ops.size rem _ s bA (fun I w' F=>dP I w' F) a w.drew aaq (by simp) (fun i=>?_) (fun i x p G=>?_) (fun k aL i x p gm DH C S=>?_) (fun i j eO X x y p q gr C S=>?_) (fun j o e bK=>?_) ?_ qS.drew (fun V=>?_) (fun l hf hex _=>TD O l hf hex)
  .constructor
   .intro hi
    by_cases W:i<ops.size
    .obtain ⟨x,p,A⟩:=v i W
     exact⟨x,p,fY A⟩
    .simp [Array.getD,W]at hi
   .rintro ⟨x,p,G⟩
    obtain⟨k,bB,H⟩:=eb.1 G
    obtain⟨rfl,A,_⟩:=g k i x p (by rw[bG bB,H])
    have:i<ops.size:=(rN.1 A).1
    simp[Array.getD,this]
  .obtain ⟨k,bB,H⟩:=eb.1 G
   obtain⟨rfl,A,_⟩:=g k i x p (by rw[bG bB,H])
   exact A
  .rw [<-(g k i x p C).1,<-(g aL i gm DH S).1]
  .obtain ⟨rfl,A,cp⟩:=g i _ x p C
   obtain⟨rfl,hy,aad⟩:=g j _ y q S
   have bV:X<ops.size:=(rN.1 hy).1
   have bD:=cz.1 Z X (by simpa using bV)
   have U:=cz.1 bD eO (by simpa using gr)
   unfold SU at U
   rw[lu]at U
   rcases U with J|J
   .left
    have:=Sk ops.toList ops.toList [] (by simp) (fun j i av=>by simp at av) X eO J
    simpa using this
   .right
    have cB:(ops.toList.zip u)[eO]? =some (x,p):=E1.2 ⟨by simpa using A,cp⟩
    have ck:(ops.toList.zip u)[X]? =some (y,q):=E1.2 ⟨by simpa using hy,aad⟩
    rw[cB,ck]at J
    simp only at J
    exact aa2 (by simpa using J)
  .by_cases W:j<ops.size
   .simp [Array.getD,W]at bK
   .simp [Array.getD,W]at bK
  .have cB:rem.map (·.2.1)=ops.toList:=by
    rw[t]
    apply tO
    intro k
    rw[iC]
    by_cases bB:k<ops.size
    .obtain ⟨x,p,A⟩:=v k bB
     rw[<-t,A]
     have:=(g k k x p A).2.1
     simpa using this.symm
    .rw [kM (by simp[hlen];omega),kM (by simpa using bB)];rfl
   have ck:rem.map (·.2.2)=u:=by
    rw[t]
    apply tO
    intro k
    rw[iC]
    by_cases bB:k<ops.size
    .obtain ⟨x,p,A⟩:=v k bB
     rw[<-t,A]
     exact(g k k x p A).2.2.symm
    .rw [kM (by simp[hlen];omega),kM (by rw[hlen];simpa using bB)];rfl
   rw[cB,ck];exact Y
  .by_cases hv:ops.size=0
   .exact zt (by omega)
   .exfalso
    exact TD O _ (by simp) ⟨0,by omega,by simp[Array.getD,Nat.pos_of_ne_zero hv]⟩ V
theorem Wm {c:Ctx} {L:List au} {a:Act} (u:a.tmps.size=L.length) (aU:∀i,bp c (dU L i) (a.tmps.getD i undef)):bx (bp c) L a.tmps.toList:=by
 have g:∀(L:List au) (i:Nat),dU L i=(L[i]?).getD .dead:=by
  intro L
  induction L with
  |nil=>intro i;rfl
  |cons x L z=>intro i;cases i with
   |zero=>rfl
   |succ i=>simpa[dU]using z i
 refine bx.vI (by simp[u]) (fun i x v A l=>?_)
 have t:=aU i
 rw[g,A,mW]at t
 have C:a.tmps.getD i undef=v:=by
  rw[jQ]at l
  have hi:i<a.tmps.size:=(rN.1 l).1
  rw[E3 hi]at l
  simp[Array.getD,hi,Option.some.inj l]
 rw[C]at t;exact t
theorem UF {c:Ctx} {L:List au} {t:Array Value} (h:bx (bp c) L t.toList):t.size=L.length/\∀i,bp c (dU L i) (t.getD i undef):=by
 have u:=h.len
 have g:∀(L:List au) (i:Nat),dU L i=(L[i]?).getD .dead:=by
  intro L
  induction L with
  |nil=>intro i;rfl
  |cons x L v=>intro i;cases i with
   |zero=>rfl
   |succ i=>simpa[dU]using v i
 refine⟨by simpa using u.symm,fun i=>?_⟩
 rw[g]
 by_cases hi:i<L.length
 .have l:i<t.size:=by simp at u;omega
  have:=h.get' i L[i] t[i] (by simp[hi]) (by simp[l])
  simpa[hi,Array.getD,l]using this
 .rw [kM (by omega)]
  exact True.intro
theorem L3 {E:Env} {R:ec} (G:jv E R) {w:World} {S:b0} {s:aY} {β:Nat->Nat} {τ:Nat->Value} {F:Nat->Nat->Prop} (dI:Mem R (aZ s.B) (aH s.T) β τ F S w)
  {sh:aw} {xs:List au} {y:gp sh.ft} {acc:Acc} (bF:sh.conv s.B s.T xs=some (y,acc)) (H:Ks E acc=true) {vals:List Value} (O:bx (bp (s.ctx w S β τ)) xs vals):
  ∃S',Mem R (aZ (sh.mk' y).B) (aH (sh.mk' y).T) (dR acc β) (hk acc τ) (fz acc F) S' w/\bx (bp ((sh.mk' y).ctx w S' (dR acc β) (hk acc τ))) (sh.mk' y).L vals:=by
 obtain⟨hinv,S',ox,g,I,J,xh,uO,U,V⟩:=FJ dI (fun k b h=>h) (fun n z h=>h) bF O
 simp only[Ks,a6,cz]at H
 obtain⟨okB,fI⟩:=H
 have K:∀ {k u},bZ acc.aE k=some u->dR acc β k=β u:=fun {k u} h=>by unfold dR;rw[h];rfl
 obtain⟨g1,g2,g3,g4,g5⟩:=U R.dt (fun k b bB=>by
   obtain⟨u,bz,l,A,_⟩:=I k b bB
   rw[K l];exact(g.boxes u bz A).1) (fun t aa b W av=>by
   obtain⟨M,l,A⟩:=J t aa W
   have X:=rh hinv.rt.1 t M l
   unfold fz at av
   rw[X]at av
   cases M with
   |none=>exact av.elim
   |some m=>
    obtain⟨C,Y,_⟩:=A
    exact((g.bI m C Y).1 b av).1)
 refine⟨S',⟨g.eD,g.cv,g.new,g.la,g.lt,g1,g2,g3,g4,g5,fun k b av bB=>?_,fun t v aa O W=>?_,fun n aa aU i o d bj Z fu hd=>absurd (JD _ _ n aa bj aU i o d Z fu) hd⟩,V⟩
 .obtain ⟨ew,k5⟩:=gy.1 bB
  obtain⟨u,bz,l,A,_⟩:=I k ew k5
  have Q:=G.1 k (by rw[av];simp)
  have:=okB (k,u) (mL l)
  simp[Q]at this
  subst this
  rw[K l]
  exact g.lK k b av (by rw[A];simp)
 .obtain ⟨M,l,A⟩:=J t aa W
  have Q:=G.2.1 t (by rw[O];simp)
  have:=fI (t,M) l
  cases M with
  |none=>simp[Q]at this
  |some m=>
   simp[Q]at this
   subst this
   obtain⟨C,Y,_⟩:=A
   have X:=rh hinv.rt.1 t (some t) l
   unfold hk
   rw[X]
   exact g.lp t v C O Y
theorem arQ {E:Env} {R:ec} (g:jv E R) {sh:aw} {s:aY} {y:gp sh.ft} (h:sh.wh E s=some y) {a:Act} {w:World} (u:Rel R s a w):Rel R (sh.mk' y) a w:=by
 unfold aw.wh at h
 split at h
 case h_2=>cases h
 rename_i J acc v
 split at h
 case isFalse=>cases h
 rename_i l
 cases h
 obtain⟨β,τ,F,S,z,A,C,aU⟩:=u
 obtain⟨S',t,G⟩:=L3 g z v l (Wm A aU)
 obtain⟨H,I⟩:=UF G
 exact⟨_,_,_,S',t,H,C,I⟩
theorem KU {E:Env} {R:ec} (g:jv E R) {sh:aw} {s:aY} {y:gp sh.ft} (h:sh.to E s=some y) {a:Act} {w:World} (l:Rel R s a w):Rel R (sh.mk' y) a w:=arQ g h (S2 l)
def VW (E:Env) (R:ec) (c:Code) (Q:Exit->aY->Prop) (s:aY):Prop:=
 ∀a w,Rel R s a w->c.wp E.P (fun e g w'=>∃bA,Rel R bA g w'/\Q e bA) a w
theorem aqx {ρ:Type} {E:Env} (cd:eG E) {R:ec} (H:jv E R) (N:Nat) {z:ρ}:∀(c:Code) (h:Hint) (s:aY) (K:Exit->aY->Option ρ),jJ N E yG c h s K=some z->VW E R c (fun e bA=>K e bA=some z) s:=by
 intro c
 induction c with
 |skip=>exact fun h s K u a w A=>wp_skip ⟨s,A,u⟩
 |region id ops draw=>
  intro h s K u a w A
  simp only[jJ]at u
  simp only[arN]at u
  obtain⟨s,u,V⟩:=sk h.M3 s u
  have A:=V R a w H A
  obtain⟨bA,W,aG,O⟩:=Ky E ops _ _ _ _ u
  rw[List.reverse_nil,fE]at O
  have bD:(draw=true->F0 ops.toList W=true/\wS ops.toList=true)/\K .normal bA=some z:=by
   cases draw with
   |false=>exact⟨(fun h=>by cases h),O⟩
   |true=>
    simp only at O
    split at O
    .rename_i U
     simp only[yG,a6]at U
     exact⟨fun _=>U,O⟩
    .cases O
  exact aqg cd id ops draw H aG bD.1 A (fun Q w' v=>⟨bA,v,bD.2⟩)
 |seq x y I J=>
  intro h s K u a w A
  simp only[jJ]at u
  split at u
  .rename_i M hy mB
   refine wp_seq (wp_mono (I M s _ u a w A) (fun e Q w' he=>?_))
   obtain⟨bA,v,C⟩:=he
   cases e with
   |normal=>exact J hy bA K C Q w' v
   |_=>exact⟨bA,v,C⟩
  .rename_i sh M hy mB
   unfold meet at u
   refine wp_seq (wp_mono (I M s _ u a w A) (fun e Q w' he=>?_))
   obtain⟨bA,v,C⟩:=he
   cases e with
   |normal=>
    simp only at C
    split at C
    case h_2=>cases C
    rename_i g bU
    exact J hy _ K C Q w' (KU H bU v)
   |_=>exact⟨bA,v,C⟩
 |cond c x y I J=>
  intro h s K u a w A
  simp only[jJ]at u
  split at u
  case h_2=>cases u
  rename_i b av
  have v:=A
  obtain⟨β,τ,F,S,dI,bj,gA,aU⟩:=A
  have cV:a.eval c= .bool b:=tG (av▸hZ aU c)
  have G:KF s c b=s:=by
   cases c with
   |tmp t=>exact KE av
   |_=>rfl
  refine wp_cond_split cV (fun az=>?_) (fun kB=>?_)
  .rw [az]at u G
   simp only at u
   rw[G]at u
   exact I _ s K u a w v
  .rw [kB]at u G
   simp only at u
   rw[G]at u
   exact J _ s K u a w v
 |block id b X=>
  intro h s K u a w A
  simp only[jJ]at u
  refine wp_block (wp_mono (X _ s _ u a w A) (fun e Q w' he=>?_))
  obtain⟨bA,v,C⟩:=he
  cases e with
  |exit j=>
   simp only[Exit.inBlock]
   simp only at C
   split
   .rename_i e;rw[e,Nat.beq_refl]at C;exact⟨bA,v,C⟩
   .rename_i e;rw[show Nat.beq j id=false from by cases av:Nat.beq j id with|true=>exact absurd (zu av) e|false=>rfl]at C;exact⟨bA,v,C⟩
  |_=>exact⟨bA,v,C⟩
 |exit id=>exact fun h s K u a w A=>wp_exit ⟨s,A,u⟩
 |ret=>exact fun h s K u a w A=>wp_ret ⟨s,A,u⟩
 |label l=>exact fun h s K u a w A=>wp_label ⟨s,A,u⟩
 |loop b X=>
  intro h s K u a w A
  simp only[jJ]at u
  split at u
  case h_2=>cases u
  rename_i sh av
  split at u
  case h_2=>cases u
  rename_i kL Y
  refine wp_loop_ghost (fun n a w=>∃x,iter (fun go g=>jJ N E yG b av (sh.mk' g) fun e bA=>match e with| .normal=>(match sh.to E bA with|some g=>go g|none=>none)|e=>K e bA) n x=some z/\Rel R (sh.mk' x) a w) N ⟨kL,u,KU H Y A⟩ (fun n a w ⟨x,M,Z⟩=>?_)
  cases n with
  |zero=>cases M
  |succ n=>
   simp only[iter]at M
   refine wp_mono (X av _ _ M a w Z) (fun e Q w' he=>?_)
   obtain⟨bA,v,C⟩:=he
   cases e with
   |normal=>
    simp only at C
    split at C
    case h_2=>cases C
    rename_i gm k8
    exact⟨n,Nat.lt_succ_self n,gm,C,KU H k8 v⟩
   |_=>exact⟨bA,v,C⟩
 |_=>exact fun h s K u=>by simp only[jJ]at u;cases u
def yX (tmps:Array Value):ResultVar->Sem Value
 | .tmp t=>pure (tmps.getD t undef)
 | .cell g t=>do loadVar t (<-asAddr (tmps.getD g undef))
theorem aqp (fn:Func) (tmps:Array Value):results fn tmps=(fn.results.mapM (yX tmps))>>=fun g=>pure (if h:g.size=1 then g[0]else .tuple g):=by
 unfold results
 congr 1
theorem aoW {c:Ctx} {x y:au} {v:Value} (g:x.one? =some y) (h:bp c x v):gq c y v:=by
 cases x with
 |bR _=>cases g
 |_=>cases g;exact h
section
variable {E : Env} (cd : eG E) {s : aY} {c : Ctx} {a : Act} {w : World} (aU : ∀ i, bp c (dU s.L i) (a.tmps.getD i undef)) (AW : c.w = w) (AQ : ∀ k b, aZ s.B k = some b -> kq c k (c.β k) b.cs)
include cd aU AW AQ
theorem aqo (r:ResultVar) (x:au) (h:yW E s r=some x):∃v,(yX a.tmps r).run E.P w= .ok v w/\gq c x v:=by
 cases r with
 |tmp t=>exact⟨_,rfl,aoW h (aU t)⟩
 |cell J T=>
  simp only[yW]at h
  have l:=aU J
  split at h
  case h_2=>cases h
  rename_i k q ty bB Q
  rw[bB]at l
  have ok:=cd.ty _ _ Q
  obtain⟨d,hu,K⟩:=ok.desc
  obtain⟨i,z,hi,A,_⟩:=ok.info
  split at h
  case isTrue=>cases h
  rename_i u
  split at h
  case h_2=>cases h
  rename_i b C
  have M:a.tmps.getD J undef= .pointer (some ⟨c.β k,q,none⟩):=(wk (by simpa using u) l).2
  obtain⟨O,S,F,G⟩:=(AQ k b C).cells (by simpa using u)
  rw[AW]at F
  have hlen:=G.len
  split at h
  .rename_i g
   split at h
   .rename_i hle
    cases h
    refine⟨.agg ((O.drop q).take ty.size).toArray,?_,_,rfl,(G.drop q).take _⟩
    simp only[yX,M,asAddr,Sem.run_bind,Sem.run_pure,Result.andThen_ok]
    rw[Sa hu (K.trans g) hi w _ ((O.drop q).take ty.size) (by simp[A];omega) (fun j v bV=>?_)]
    rw[hU]at bV
    split at bV
    .rw [hV]at bV
     rw[n9,wV F];exact bV
    .cases bV
   .cases h
  .rename_i g
   obtain⟨v,H,I⟩:=G.get q x h
   refine⟨v,?_,kU I.1⟩
   simp only[yX,M,asAddr,Sem.run_bind,Sem.run_pure,Result.andThen_ok]
   rw[Jp hu (K.trans (by simpa using g)) w _ v (by rw[wV F];exact H)]
theorem TH :∀(rs:List ResultVar) (xs:List au),p4 E s rs=some xs->∃g,(rs.mapM (yX a.tmps)).run E.P w= .ok g w/\bx (gq c) xs g
 | [],xs,h=>by simp[p4]at h;subst h;exact⟨[],rfl,True.intro⟩
 |r::rs,xs,h=>by
  simp only[p4]at h
  split at h
  .rename_i x ys l hy
   cases h
   obtain⟨v,t,u⟩:=aqo cd aU AW AQ r x l
   obtain⟨g,z,A⟩:=TH rs ys hy
   refine⟨v::g,?_,u,A⟩
   rw[List.mapM_cons,Sem.run_bind,t,Result.andThen_ok,Sem.run_bind,z]
   rfl
  .cases h
theorem aqn (fn:Func) (x:au) (h:rE E s fn.results.toList=some x):∃v,(results fn a.tmps).run E.P w= .ok v w/\bp c x v:=by
 unfold rE at h
 have key:∀xs,p4 E s fn.results.toList=some xs->∃g:List Value,(results fn a.tmps).run E.P w= .ok (if h:g.toArray.size=1 then g.toArray[0]else .tuple g.toArray) w/\bx (gq c) xs g:=fun xs F=>by
  obtain⟨g,z,l⟩:=TH cd aU AW AQ _ xs F
  refine⟨g,?_,l⟩
  rw[aqp,Array.mapM_eq_mapM_toList,Sem.run_bind,Sem.run_map,z]
  rfl
 split at h
 .rename_i y hy
  cases h
  obtain⟨g,z,l⟩:=key _ hy
  match g,l with
  | [v],l=>
   refine⟨v,by rw[z];simp,?_⟩
   have C:=l.1
   cases x with
   |bR ys=>exact C.elim
   |_=>exact C
 .rename_i xs t A
  cases h
  obtain⟨g,z,l⟩:=key _ A
  have u:=l.len
  have G:¬g.toArray.size=1:=by
   intro h
   match xs,u,t with
   | [y],u,t=>exact t y rfl
   | [],u,_=>simp at h u;omega
   |_::_::_,u,_=>simp at h u;omega
  refine⟨.tuple g.toArray,?_,g,rfl,l⟩
  rw[z,dif_neg G]
 .cases h
end
theorem aqm {E:Env} {s:aY} (T:List (Nat×Option bc)) (rs:List ResultVar):rE E {s with T:=T} rs=rE E s rs:=by
 have g:∀r,yW E {s with T:=T} r=yW E s r:=fun r=>by cases r<;>rfl
 have t:∀l,p4 E {s with T:=T} l=p4 E s l:=fun l=>by
  induction l with
  |nil=>rfl
  |cons r l u=>simp only[p4,g,u]
 simp only[rE,t]
mutual
def cc.bI :cc->List Nat
 | .own n _ _ _=>[n]
 | .ay n _ _ _=>[n]
 | .kJ n _ _=>[n]
 | .rK n _ _=>[n]
 | .agg l=>cc.kI l
 | .bR l=>cc.kI l
 | .aV _ l=>cc.kI l
 |_=>[]
def cc.kI :List cc->List Nat
 | []=>[]
 |v::l=>v.bI++cc.kI l
end
def Fz :List (Nat×Bool×List cc)->List Nat
 | []=>[]
 |b::l=>cc.kI b.2.2++Fz l
def aw.names (s:aw):List Nat:=s.boxes.map (·.1)++(cc.kI s.vals++Fz s.boxes)
mutual
theorem abc :∀(v:cc) (ps:List gY) (x:Nat×Option bc),x∈(inst v ps).2.2->x.1∈v.bI
 | .dead,ps,x,h=>by cases h
 | .af t,ps,x,h=>by cases ps<;>cases h
 | .aT,ps,x,h=>by cases h
 | .eQ,ps,x,h=>by cases h
 | .box k o,ps,x,h=>by cases h
 | .ptr t,ps,x,h=>by cases ps<;>cases h
 | .own n t e d,ps,x,h=>by
  simp only[inst]at h
  split at h
  .simp at h;subst h;simp[cc.bI]
  .cases h
 | .ay n t e d,ps,x,h=>by
  simp only[inst]at h
  split at h
  .simp at h;subst h;simp[cc.bI]
  .cases h
 | .kJ n t e,ps,x,h=>by
  simp only[inst]at h
  split at h
  .simp at h;subst h;simp[cc.bI]
  .cases h
 | .rK n t e,ps,x,h=>by
  simp only[inst]at h
  split at h
  .simp at h;subst h;simp[cc.bI]
  .cases h
 | .agg l,ps,x,h=>u6 l ps x h
 | .bR l,ps,x,h=>u6 l ps x h
 | .aV f l,ps,x,h=>by
  cases ps with
  |nil=>cases h
  |cons p ps=>exact u6 l _ x h
theorem u6 :∀(l:List cc) (ps:List gY) (x:Nat×Option bc),x∈(hK l ps).2.2->x.1∈cc.kI l
 | [],ps,x,h=>by cases h
 |v::l,ps,x,h=>by
  simp only[hK]at h
  rcases cE.1 h with h|h
  .exact fc _ (abc v ps x h)
  .exact lv _ (u6 l _ x h)
end
theorem Oc :∀(l:List (Nat×Bool×List cc)) (ps:List gY),(∀x,x∈(mG l ps).2->x.1∈Fz l)/\∀x,x∈(mG l ps).1->x.1∈l.map (·.1)
 | [],ps=>⟨(fun x h=>by cases h),(fun x h=>by cases h)⟩
 |(k,cu,g)::l,ps=>by
  obtain⟨t,u⟩:=Oc l (hK g ps).2.1
  refine⟨fun x h=>?_,fun x h=>?_⟩
  .simp only [mG]at h
   rcases cE.1 h with h|h
   .exact fc _ (u6 g ps x h)
   .exact lv _ (t x h)
  .simp only [mG]at h
   rcases bn.1 h with h|h
   .subst h;simp
   .exact ch _ (u x h)
theorem aou (sh:aw) (y:gp sh.ft):(∀k,aZ (sh.mk' y).B k≠none->k∈sh.names)/\∀t,aH (sh.mk' y).T t≠none->t∈sh.names:=by
 obtain⟨g,l⟩:=Oc sh.boxes (hK sh.vals (unpack sh.ft y)).2.1
 refine⟨fun k bB=>?_,fun t u=>?_⟩
 .obtain ⟨b,av⟩:=gy.1 bB
  exact fc _ (l (k,b) (oP av))
 .obtain ⟨z,v⟩:=gy.1 u
  have:=ri v
  refine lv _ ?_
  rcases cE.1 this with h|h
  .exact fc _ (u6 sh.vals _ (t,some z) h)
  .exact lv _ (g (t,some z) h)
theorem aov {E:Env} (cd:eG E) {f:FuncId} {fn:Func} {c:Code} (kB:E.P.funcs[f]? =some fn) (U:(fn.name== "runtime.NumGoroutine")=false) (G:fn.body=some c) (N:Nat) (h:Hint) (m:Model) (Z:m.arg.names.all E.res=true) (hlen:Nat.ble m.arg.vals.length fn.ntmps=true)
  (jf:∀a,m.run a=Kx N E yG fn c h m.arg m.ret a):ig E.P f m:=by
 refine⟨⟨fn,kB,by simpa using U,by rw[G];rfl⟩,fun a r Y=>?_⟩
 rw[jf a]at Y
 unfold Kx at Y
 simp only at Y
 obtain⟨H,J⟩:∃H,H=m.arg.mk' a:=⟨_,rfl⟩
 rw[<-J]at Y⊢
 intro w S β τ F bT qU dI cJ
 have jA:H.L.length<=fn.ntmps:=by
  have:∀(l:List cc) (ps:List gY),(hK l ps).1.length=l.length:=by
   intro l
   induction l with
   |nil=>intro ps;rfl
   |cons v l lU=>intro ps;simp only[hK,ba,lU]
  have e:H.L.length=m.arg.vals.length:=by rw[J];exact this _ _
  rw[e];exact Nat.le_of_ble_eq_true hlen
 have e3:jv E (jE H β τ F S w):=by
  obtain⟨Dr,yC⟩:=aou m.arg a
  have A:=cz.1 Z
  refine⟨fun k bB=>A k (Dr k ?_),fun t az=>A t (yC t ?_),qU⟩
  .rw [<-J]
   intro e
   simp only[jE,e]at bB
   exact bB rfl
  .rw [<-J]
   intro e
   simp only[jE,e]at az
   exact az rfl
 have bK:=cJ.len
 obtain⟨s1,V⟩:∃s1:aY,s1=⟨H.L++List.replicate (fn.ntmps-H.L.length) (.bR []),H.B,H.T⟩:=⟨_,rfl⟩
 rw[<-V]at Y
 have qS:Rel (jE H β τ F S w) s1 {tmps:=bT.toArray++Array.replicate (fn.ntmps-bT.toArray.size) undef,defers:=[]} w:=by
  have A:bx (bp (s1.ctx w S β τ)) s1.L (bT.toArray++Array.replicate (fn.ntmps-bT.toArray.size) undef).toList:=by
   rw[V]
   simp only[Array.toList_append,Array.toList_replicate]
   refine bx.append (cJ) ?_
   simp only[List.size_toArray]
   rw[bK]
   generalize fn.ntmps-bT.length=n
   induction n with
   |zero=>exact True.intro
   |succ n lU=>exact⟨⟨[],rfl,True.intro⟩,lU⟩
  obtain⟨aG,aX⟩:=UF A
  refine⟨β,τ,F,S,by rw[V];exact dI,aG,rfl,aX⟩
 refine calls_of_wp kB G (wp_mono (aqx cd e3 N c h s1 _ Y _ _ qS) (fun e bM w' he=>?_))
 obtain⟨bA,AM,C⟩:=he
 have fin:(match rE E bA fn.results.toList with|some v=>m.ret.wh E ⟨v::extras m.ret.vals.tail bA.oX.T,bA.B,bA.oX.T⟩|none=>none)=some r->bM.defers=[]/\∃v,(results fn bM.tmps).run E.P w'= .ok v w'/\∃fr wB wC zz S',Ending.returned v= .returned fr/\Mem (jE H β τ F S w) (aZ (m.ret.mk' r).B) (aH (m.ret.mk' r).T) wB wC zz S' w'/\∃x,(m.ret.mk' r).L.head? =some x/\bp ((m.ret.mk' r).ctx w' S' wB wC) x fr:=fun C=>by
  split at C
  case h_2=>cases C
  rename_i x bb
  rw[<-aqm (DO bA.T)]at bb
  obtain⟨sp,W⟩:∃sp,sp=bA.oX:=⟨_,rfl⟩
  have K:=S2 AM
  have bb:rE E bA.oX fn.results.toList=some x:=bb
  have K:Rel _ bA.oX bM w':=K
  have YJ:bA.B=sp.B:=by rw[W];rfl
  rw[YJ,<-W]at C
  rw[<-W]at bb K
  clear AM
  obtain⟨M,I,kQ,ga,X,atk,GV,xx⟩:=K
  obtain⟨v,aG,aX⟩:=aqn cd (c:=sp.ctx w' ga M I) xx rfl (fun k b bB=>(X.boxes k b bB).2.2.2) fn x bb
  unfold aw.wh at C
  split at C
  case h_2=>cases C
  rename_i y acc bF
  split at C
  case isFalse=>cases C
  rename_i pF
  cases C
  have g:∀(n:Nat) (us:List Value) {l:List au},bx (bp (sp.ctx w' ga M I)) l us->∃ar6,bx (bp (sp.ctx w' ga M I)) ((if s6 (aH sp.T n)then au.ay n else au.dead)::l) ar6:=fun n us {l} u=>by
   split
   .rename_i O
    cases bL:aH sp.T n with
    |none=>rw[bL]at O;cases O
    |some z=>cases z with
     |ej=>rw[bL]at O;cases O
     |live aa=>
      exact⟨I n::us,⟨(X.bI n aa bL).cell,by show aH sp.T n≠none;rw[bL];simp,fun b2 _=>rfl⟩,u⟩
   .exact ⟨undef::us,True.intro,u⟩
  have hex:∃us,bx (bp (sp.ctx w' ga M I)) (extras m.ret.vals.tail sp.T) us:=by
   generalize m.ret.vals.tail=l
   induction l with
   |nil=>exact⟨[],True.intro⟩
   |cons q l lU=>
    obtain⟨us,u⟩:=lU
    cases q with
    |ay n t e d=>exact g n us u
    |kJ n t e=>exact g n us u
    |_=>exact⟨undef::us,True.intro,u⟩
  obtain⟨us,u⟩:=hex
  obtain⟨S',je,Q⟩:=L3 e3 X (s:=sp) bF pF (vals:=v::us) ⟨aX,u⟩
  refine⟨GV,v,aG,v,_,_,_,S',rfl,je,?_⟩
  cases M9:(m.ret.mk' r).L with
  |nil=>rw[M9]at Q;exact Q.elim
  |cons z zs=>rw[M9]at Q;exact⟨z,rfl,Q.1⟩
 cases e with
 |normal=>exact fin C
 |ret=>exact fin C
 |_=>cases C
theorem lg {P:Program} {f:FuncId} (h:rT P f) (m:Model) (l:∀a,m.run a=none):ig P f m:=
 ⟨h,fun a r g=>by rw[l]at g;cases g⟩
def Le (P:Program) (t:TypeId):b6->b6->Prop
 | .int k _,.int l _=>k=l/\∃g,P.underlying t=some (.int g)
 | .bool _,.bool _=>P.underlying t=some .bool
 | .str _,.str _=>P.underlying t=some .string
 |_,_=>False
def Fa (P:Program):List (Bool×TypeId×Nat)->Nat->List b6->List b6->Prop
 | [],_,[],[]=>True
 |f::g,i,p::ps,q::l=>(f.1=false/\f.2.2=i/\Le P f.2.1 p q)/\Fa P g (i+1) ps l
 |_,_,_,_=>False
def pz :b6->b6->Bool
 | .int _ a,.int _ b=>decide (a=b)
 | .bool a,.bool b=>a==b
 | .str a,.str b=>a.toList==b.toList
 |_,_=>false
def k0 :List b6->List b6->Bool
 | [],[]=>true
 |p::ps,q::g=>pz p q&&k0 ps g
 |_,_=>false
theorem Mp {P:Program} {xs ys:Array Value} (d:Nat) (w:World):∀(g:List Field) (i:Nat) (ps t:List b6),Fa P (g.map fun f=>(f.name== "_",f.type,f.offset)) i ps t->
  (∀j p,ps[j]? =some p->xs[i+j]? =some (fw p))->(∀j p,t[j]? =some p->ys[i+j]? =some (fw p))->(Op.eqFields (d+1) xs ys g).run P w= .ok (k0 ps t) w
 | [],i,[],[],_,_,_=>rfl
 | [],i,_::_,_,h,_,_=>h.elim
 | [],i,[],_::_,h,_,_=>h.elim
 |f::g,i,[],_,h,_,_=>by cases h
 |f::g,i,_::_,[],h,_,_=>by cases h
 |f::g,i,p::ps,q::t,h,F,hy=>by
  obtain⟨⟨G,H,l⟩,K⟩:=h
  simp only at G H l
  have M:f.name≠ "_" :=by simpa using G
  have O:=Mp d w g (i+1) ps t K (fun j p z=>by rw[<-F (j+1) p z];congr 1;omega) (fun j p z=>by rw[<-hy (j+1) p z];congr 1;omega)
  have I:=F 0 p rfl
  have J:=hy 0 q rfl
  rw[lC,<-H]at I J
  have main:(∃A,P.underlying f.type=some A/\TypeDesc.isAgg A=false)->(Op.equalIn (d+1) f.type (fw p) (fw q)).run P w= .ok (pz p q) w->(Op.eqFields (d+1) xs ys (f::g)).run P w= .ok (k0 (p::ps) (q::t)) w:=by
   rintro⟨A,Q,u⟩ S
   have part:∀(cs:Array Value) (v:Value),cs[f.offset]? =some v->(part f.type cs f.offset).run P w= .ok v w:=fun cs v U=>by
    simp only[Go.part,Sem.run_bind,xT Q,Result.andThen_ok,u,nY,if_false,U,Sem.run_pure]
   simp only[Op.eqFields,ai M,Sem.run_bind,part xs _ I,part ys _ J,Result.andThen_ok,S]
   cases he:pz p q with
   |false=>simp[k0,he]
   |true=>simp[k0,he,O]
  cases p<;>cases q<;>simp only[Le]at l
  .exact main ⟨_,l,rfl⟩ (by simp[fw,run_equalIn_bool' w d _ _ _ l,pz])
  .obtain ⟨rfl,C,bB⟩:=l
   exact main ⟨_,bB,rfl⟩ (by simp[fw,run_equalIn_int w d _ _ C _ _ bB,pz];exact w1 _ _)
  .exact main ⟨_,l,rfl⟩ (by simp[fw,run_equalIn_string w d _ _ _ l,pz])
theorem Mq :∀(a b c d:List b6),a.length=b.length->k0 (a++c) (b++d)=(k0 a b&&k0 c d)
 | [],[],c,d,_=>by simp[k0]
 |p::a,q::b,c,d,h=>by
  simp only[kp,k0,Mq a b c d (by simpa using h),Bool.and_assoc]
 | [],_::_,_,_,h=>by cases h
 |_::_,[],_,_,h=>by cases h
theorem F9 :∀(r:aJ) (x y:r.D),r.ct=true->k0 (enc r x) (enc r y)=r.h2 x y
 | .bool,x,y,_=>by simp[enc,k0,pz,aJ.h2]
 | .int _,x,y,_=>by simp[enc,k0,pz,aJ.h2]
 | .str,x,y,_=>by
  simp only[enc,k0,pz,aJ.h2,LK,fD]
  by_cases h:x=y<;>simp[h]
 | .unit,x,y,_=>rfl
 | .pair a b,x,y,h=>by
  simp only[aJ.ct,a6]at h
  simp only[enc,aJ.h2]
  rw[Mq _ _ _ _ (by rw[et,et]),F9 a _ _ h.1,F9 b _ _ h.2]
 | .ar _,_,_,h=>by cases h
 | .opt _,_,_,h=>by cases h
 | .q,_,_,h=>by cases h
theorem qK {P:Program} {t:TypeId} (r:aJ) (g:r.ct=true) (v:P.eqGuardType P.depth t=false) (hu:P.underlying t=some (.struct (P.fieldsOf t))) (u:P.stoodInHeld t=false) (l:List (Bool×TypeId×Nat)) (z:((P.fieldsOf t).toList.map fun f=>(f.name== "_",f.type,f.offset))=l)
  (h:∀x y:r.D,Fa P l 0 (enc r x) (enc r y)):r.ct=true/\P.eqGuardType P.depth t=false/\∀w (x y:r.D),(Op.equalIn 10000 t (.agg ((enc r x).map fw).toArray) (.agg ((enc r y).map fw).toArray)).run P w= .ok (r.h2 x y) w:=by
 refine⟨g,v,fun w x y=>?_⟩
 rw[run_equalIn_agg w 9999 t _ _ hu u,<-F9 r x y g]
 refine Mp 9998 w _ 0 _ _ (z▸h x y) (fun j p u=>?_) (fun j p u=>?_)
 .simp [u]
 .simp [u]
def SY (r:aJ) (x:r.D) (agg:Bool):Value:=bif agg then .agg ((enc r x).map fw).toArray else iu r x
structure asq (P:Program) (d:Nat) (f:Bool×TypeId×Nat) (i:Nat) (agg:Bool) (r:aJ):Prop where
 name:f.1=false
 off:f.2.2=i
 atL:∃desc,P.underlying f.2.1=some desc/\TypeDesc.isAgg desc=agg
 size:agg=true->∃inf,P.info? f.2.1=some inf/\inf.size=r.w
 one:agg=false->∀x:r.D,∃p,enc r x=[p]
 eq:∀w (x y:r.D),(Op.equalIn d f.2.1 (SY r x agg) (SY r y agg)).run P w= .ok (r.h2 x y) w
@[reducible] def ar1 : List (Bool × aJ) -> aJ
 | []=>.unit
 | [(_,r)]=>r
 |(_,r)::a::l=>.pair r (ar1 (a::l))
end Go.Proofs.YtnkagklajgimlaaGreatDoor
