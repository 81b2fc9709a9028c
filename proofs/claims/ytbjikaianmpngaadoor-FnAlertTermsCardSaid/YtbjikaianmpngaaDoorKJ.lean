/- A library function of the kit's shelf as a model: a slice of texts and a text give a text; memory below stays. -/
import Derived.Test.YtbjikaianmpngaaDoorKY
import Derived.Below
set_option linter.unusedSimpArgs false
set_option linter.unusedVariables false
namespace Go.Proofs.YtbjikaianmpngaaDoor
open Go.RowKit
theorem jD1 {P:Program} {f:FuncId} (run:List (List UInt8)×List UInt8->Option (List UInt8)) (he:Enter P f)
  (hc:∀xs sep r,run (xs,sep)=some r->∀(w:World) (a:Option Addr) (cap b o:Nat),xs.length<=cap->(xs≠ []->a=some ⟨b,o,none⟩)->(∀(j:Nat) x,xs[j]? =some x->w.cell? ⟨b,o+j,none⟩=some (.string (bytes x)))->(xs≠ []->b<w.heap.size)->
   Calls P f #[.slice a xs.length cap,.string (bytes sep)] w fun e w'=>e= .returned (.string (bytes r))/\Below w.heap.size w w'):
  ModelOk P f ⟨⟨[.pv (.sl .str),.pv .str],[]⟩,⟨[.pv .str],[]⟩,run⟩:=by
 refine⟨he,fun a r hr=>?_⟩
 obtain⟨xs,sep⟩:=a
 intro w S β τ F vs hg hM hv
 have hv':All2 (V3 (LSt.ctx ⟨[.pv (.sl .str) xs,.pv .str sep],[],[]⟩ w S β τ)) [.pv (.sl .str) xs,.pv .str sep] vs:=hv
 match vs,hv' with
 | [v0,v1],⟨⟨c0,e0,r0⟩,⟨c1,e1,r1⟩,_⟩=>
  obtain rfl:c0= .sl (xs.map (enc .str)):=by
   have e0':enc (.sl .str) xs=[PV.sl (xs.map (enc .str))]:=by simp only[enc]
   have e2:=e0'.symm.trans e0
   simpa using e2.symm
  obtain rfl:c1= .str (bytes sep):=by
   have e1':enc .str sep=[PV.str (bytes sep)]:=by simp only[enc]
   have e2:=e1'.symm.trans e1
   simpa using e2.symm
  have hr0:Rep w S v0 (.sl (xs.map (enc .str))):=r0
  have hr1:Rep w S v1 (.str (bytes sep)):=r1
  generalize hrows:xs.map (enc .str)=rows at hr0
  cases hr1
  cases hr0 with
  |sl a cap _ u b o m hcap ha hm hs hu hr2=>
   have hl:rows.length=xs.length:=by rw[<-hrows,zar]
   have hat:∀(j:Nat) (x:List UInt8),xs[j]? =some x->rows[j]? =some [.str (bytes x)]:=fun j x hx=>by
    rw[<-hrows,zaF,hx,zbn,enc]
   rw[hl]at hcap⊢
   have hne:xs≠ []->rows≠ []:=fun h e=>h (zbI.1 (by rw[<-hl,e];rfl))
   refine(hc xs sep r hr w a cap b o hcap (fun h=>ha (hne h)) (fun j x hx=>?_) (fun h=>?_)).mono fun e w' ⟨he',bel⟩=>?_
   .have h1:=hat j x hx
    have hm1:m=1:=(hm j _ h1).symm
    subst hm1
    have h2:=hu j 0 _ _ h1 rfl
    have h3:=hr2 j 0 _ _ h1 rfl
    rw[Nat.mul_one,Nat.add_zero]at h2
    generalize u j 0=v at*
    cases h3
    exact h2
   .obtain ⟨x,hx⟩:∃x,xs[0]? =some x:=by
     cases xs with
     |nil=>exact absurd rfl h
     |cons x l=>exact⟨x,rfl⟩
    exact hM.lt _ _ (hs 0 0 _ _ (hat 0 x hx) rfl)
   .exact ⟨_,β,τ,F,S,he',⟨⟨bel.os,bel.tape,bel.output,bel.size,fun k hk _=>bel.block k hk⟩,fun _ _ h=>h,fun _ _ h=>.inl h,fun b o h=>bel.cell (hM.lt b o h),fun b o h=>zbi (hM.lt b o h) bel.size,(fun _ _ h=>by cases h),(fun _ _ _ _ h=>by cases h),(fun _ _ h=>by cases h),(fun _ _ _ _ _ h=>by cases h),(fun _ _ _ _ h=>by cases h),(fun _ _ _ h=>absurd rfl h),(fun _ _ _ _ h=>by cases h),(fun _ _ _ _ _ _ h=>by cases h)⟩,_,rfl,⟨_,rfl,.str _⟩⟩
end Go.Proofs.YtbjikaianmpngaaDoor
