/- A library function of the kit's shelf as a model: slices.Compact at numbers: a row of the caller's own is given away, and comes back shorter. -/
import Derived.Test.YtchgdmmcjgmfcaaGreatDoorKY
import Derived.Lib.SlicesCompact
import Derived.Sort.Row
set_option linter.unusedSimpArgs false
set_option linter.unusedVariables false
namespace Go.Proofs.YtchgdmmcjgmfcaaGreatDoor
open Go.RowKit Go.Sort
theorem jSr {zs:List Int} {c:Array Value} {j:Nat} (hj:j<c.size) (x:Int) (hx:zs[j]? =some x):(putCells (Value.int .i64) 0 zs.toArray c)[j]? =some (.int .i64 x):=by
 obtain⟨h1,rfl⟩:=zh.1 hx
 unfold putCells
 rw[Array.getElem?_mapIdx,zbt hj,zbn,zf ⟨zaf _,by simpa using h1⟩]
 congr 2
 rw[Nat.sub_zero,getElem!_pos _ j (by simpa using h1)]
 simp
theorem jSg (zs:List Int):(Lib.compact zs).length<=zs.length:=by
 unfold Lib.compact Lib.compactUpTo
 rw[zar]
 exact zau (zbh _ _) (by simp)
theorem jSf {R:Root} {tk0 tk:Tok} {β:Nat->Nat} {τ:Nat->Value} {F:Nat->Nat->Prop} {S:Stab} {w w':World} {v:Value} {F2:Nat->Prop} (hM:Mem R (lookB []) (lookT [(800000,some (.live tk0))]) β τ F S w)
  (hu:Upd (F 800000) w w') (hc:∀b o,S b o->w'.cell? ⟨b,o,none⟩=w.cell? ⟨b,o,none⟩) (hT:TokOk R.fr w' S tk v F2) (hR:R.tn 1=none) (htr:tk.tr=none):
  Mem R (lookB []) (lookT [(1,some (.live tk))]) β (fun _=>v) (fun _=>F2) S w':=by
 have ht:=hM.toks 800000 tk0 rfl
 have one:∀t t',lookT [(1,some (.live tk))] t=some (.live t')->t=1/\t'=tk:=fun t t' h=>by
  unfold lookT at h
  split at h
  .rename_i e
   exact⟨e,by cases h;rfl⟩
  .cases h
 refine⟨hM.upd.on hu fun b hb hl=>?_,hM.old,hM.new,fun b o h=>(hc b o (hM.old b o h)).trans (hM.keep b o h),fun b o h=>zbi (hM.lt b o h) hu.size,(fun k b h=>by cases h),(fun k k' b b' h=>by cases h),fun t t' h=>?_,fun t t' tk1 tk2 b h1 h2 _ _=>?_,(fun t t' k b _ h=>by cases h),(fun k b _ h=>absurd rfl h),fun t v' t' h1 h2=>?_,fun n t' hs i o d h1 h2=>?_⟩
 .rcases (ht.1 b hb).1 with h|h
  .omega
  .exact h
 .obtain ⟨rfl,rfl⟩:=one t t' h
  exact hT
 .rw [(one t tk1 h1).1,(one t' tk2 h2).1]
 .rw [(one t t' h2).1,hR]at h1
  cases h1
 .rw [(one n t' h1).2,htr]at h2
  cases h2
theorem jSa {P:Program} {f:FuncId} (e:TypeId) (xs:List Int)
  (hc:∀(b cap:Nat) (zs:List Int) (w:World),Holds (Value.int .i64) w b 0 zs.toArray->zs.length<=9223372036854775807->zs.length<=cap->
   Calls P f #[.slice (some ⟨b,0,none⟩) zs.length cap] w fun e w'=>e= .returned (.slice (some ⟨b,0,none⟩) (Lib.compact zs).length cap)/\∃q,w'=putRow (Value.int .i64) (Sort.ahead w q) b 0 (Lib.compact zs++List.replicate (zs.length-(Lib.compact zs).length) 0).toArray)
  (hc0:∀(a:Option Addr) (cap:Nat) (w:World),Calls P f #[.slice a 0 cap] w fun e w'=>e= .returned (.slice a 0 cap)/\w'=w):
  FnC P f ⟨[.mtk 800000],[],[(800000,some (.live ⟨.int .i64,xs,e,true,false,none⟩))]⟩ ⟨[.mtk 1],[],[(1,some (.live ⟨.int .i64,Lib.compact xs,e,true,false,none⟩))]⟩:=by
 intro w S β τ F vs hgl hM hv
 match vs,hv with
 | [v0],⟨h0,_⟩=>
  have h0:v0.oneCell'=true/\_/\∀tk,lookT [(800000,some (.live ⟨.int .i64,xs,e,true,false,none⟩))] 800000=some (.live tk)->v0=τ 800000:=h0
  obtain rfl:v0=τ 800000:=h0.2.2 _ rfl
  have ht:=hM.toks 800000 ⟨.int .i64,xs,e,true,false,none⟩ rfl
  obtain⟨hF,hcase,_⟩:=ht
  dsimp only at hcase
  have fin:∀(w':World) (v:Value) (F2:Nat->Prop),Upd (F 800000) w w'->(∀b o,S b o->w'.cell? ⟨b,o,none⟩=w.cell? ⟨b,o,none⟩)->TokOk (lentRoot ⟨[.mtk 800000],[],[(800000,some (.live ⟨.int .i64,xs,e,true,false,none⟩))]⟩ β τ F S w).fr w' S ⟨.int .i64,Lib.compact xs,e,true,false,none⟩ v F2->v.oneCell'=true->
    ∃v' β' τ' F' S',Ending.returned v= .returned v'/\Mem (lentRoot ⟨[.mtk 800000],[],[(800000,some (.live ⟨.int .i64,xs,e,true,false,none⟩))]⟩ β τ F S w) (lookB []) (lookT [(1,some (.live ⟨.int .i64,Lib.compact xs,e,true,false,none⟩))]) β' τ' F' S' w'/\
     ∃x,([.mtk 1]:List AV).head? =some x/\V3 (LSt.ctx ⟨[.mtk 1],[],[(1,some (.live ⟨.int .i64,Lib.compact xs,e,true,false,none⟩))]⟩ w' S' β' τ') x v':=fun w' v F2 hu hc hT hv=>
   ⟨v,β,fun _=>v,fun _=>F2,S,rfl,jSf hM hu hc hT rfl rfl,_,rfl,hv,(by simp[LSt.ctx,lookT]),fun _ _=>rfl⟩
  rcases hcase with⟨e1,e2⟩|⟨b,cap,cs,T,e1,hFb,hb,hsz,hlen,hcap,_,hns,hat⟩
  .have e2:xs=[]:=e2
   rw[e1]
   refine(hc0 none 0 w).mono ?_
   rintro e' w' ⟨rfl,rfl⟩
   exact fin _ _ (fun _=>False) (Upd.refl _ _) (fun _ _ _=>rfl) ⟨fun _ h=>h.elim,.inl ⟨rfl,by show Lib.compact xs=[];rw[e2];rfl⟩,fun h=>by cases h⟩ rfl
  .have hw1:(Tp.int .i64).w=1:=rfl
   rw[hw1,Nat.mul_one]at hsz
   have hx:∀(j:Nat) (x:Int),xs[j]? =some x->cs[j]? =some (.int .i64 x):=fun j x hj=>by
    obtain⟨u,h1,h2,_⟩:=hat j 0 x (.int .i64 x) hj rfl
    have h2:=h2 rfl
    rw[hw1,Nat.mul_one,zbz]at h1
    cases h2
    exact h1
   have hl:xs.length<=cap:=hlen
   have hmx:cap<=9223372036854775807:=by have:=hcap;simp only[maxLen]at this;omega
   have hH:Holds (Value.int .i64) w b 0 xs.toArray:=fun j hj=>by
    have hj:j<xs.length:=by simpa using hj
    refine⟨?_,?_⟩
    .unfold World.cell?
     rw[hb]
     show cs[0+j]? =_
     rw[zaY,hx j _ (zc hj),getElem!_pos _ j (by simpa using hj)]
     simp
    .unfold World.frozen?
     rw[hb]
     simp
   rw[e1]
   refine(hc b cap xs w hH (by omega) hl).mono ?_
   rintro e' w' ⟨rfl,q,rfl⟩
   have hcl:=jSg xs
   generalize hrow:Lib.compact xs++List.replicate (xs.length-(Lib.compact xs).length) (0:Int)=row
   have hheap:∀k,(putRow (Value.int .i64) (Sort.ahead w q) b 0 row.toArray).heap[k]? =if b=k then(w.heap[k]?).map (onCells (putCells (Value.int .i64) 0 row.toArray))else w.heap[k]? :=fun k=>by
    show(w.heap.modify b _)[k]? =_
    rw[Array.getElem?_modify]
   have hu:Upd (F 800000) w (putRow (Value.int .i64) (Sort.ahead w q) b 0 row.toArray):=⟨rfl,rfl,rfl,by show w.heap.size<=(w.heap.modify b _).size;rw[Array.size_modify];exact zae _,fun k _ hk=>by
    rw[hheap,zu (fun e=>hk (by rw[<-e];exact hFb))]⟩
   refine fin _ _ (F 800000) hu (fun b' o h=>World.cell?_of_block (w:=w) ?_) ⟨fun b' h=>⟨(hF b' h).1,zbi (hF b' h).2 hu.size⟩,.inr ⟨b,cap,putCells (Value.int .i64) 0 row.toArray cs,T,rfl,hFb,?_,?_,by dsimp only;omega,hcap,(fun h=>by cases h),hns,fun i j x p hi hj=>?_⟩,(fun h=>by cases h)⟩ rfl
   .rw [hheap,zu (fun e=>hns rfl o (by rw[e];exact h))]
   .rw [hheap,zf rfl,hb]
    rfl
   .rw [hw1,Nat.mul_one]
    show(putCells _ 0 row.toArray cs).size=cap
    unfold putCells
    rw[Array.size_mapIdx,hsz]
   .have hi:(Lib.compact xs)[i]? =some x:=hi
    have hil:=(zh.1 hi).1
    have hj:([PV.int .i64 x]:List PV)[j]? =some p:=hj
    have hj0:j=0:=by have:=(zh.1 hj).1;simpa using this
    subst hj0
    cases hj
    refine⟨.int .i64 x,?_,fun _=>.int _ _,fun h=>by cases h⟩
    rw[hw1,Nat.mul_one,zbz]
    refine jSr (by omega) x ?_
    rw[<-hrow,zay hil]
    exact hi
theorem jSl {P:Program} {f:FuncId} (he:Enter P f) (e:TypeId)
  (hc:∀(b cap:Nat) (zs:List Int) (w:World),Holds (Value.int .i64) w b 0 zs.toArray->zs.length<=9223372036854775807->zs.length<=cap->
   Calls P f #[.slice (some ⟨b,0,none⟩) zs.length cap] w fun e w'=>e= .returned (.slice (some ⟨b,0,none⟩) (Lib.compact zs).length cap)/\∃q,w'=putRow (Value.int .i64) (Sort.ahead w q) b 0 (Lib.compact zs++List.replicate (zs.length-(Lib.compact zs).length) 0).toArray)
  (hc0:∀(a:Option Addr) (cap:Nat) (w:World),Calls P f #[.slice a 0 cap] w fun e w'=>e= .returned (.slice a 0 cap)/\w'=w):
  ModelOk P f ⟨⟨[.mtk 800000 (.int .i64) e false],[]⟩,⟨[.mtk 1 (.int .i64) e false],[]⟩,fun xs=>some (Lib.compact xs)⟩:=by
 refine⟨he,fun xs r hr=>?_⟩
 obtain rfl:Lib.compact xs=r:=Option.some.inj hr
 exact jSa e xs hc hc0
end Go.Proofs.YtchgdmmcjgmfcaaGreatDoor
