/- A library function of the kit's shelf as a model: a number gives a text, by a table of the library; memory below stays. -/
import Derived.Test.YtabhgjdikeipdaaGreatDoorKY
import Derived.Below
import Derived.Lib.LaidTab
set_option linter.unusedSimpArgs false
set_option linter.unusedVariables false
namespace Go.Proofs.YtabhgjdikeipdaaGreatDoor
open Go.RowKit
theorem jOP {P:Program} {f:FuncId} (run:Int->Option (List UInt8)) (he:Enter P f) {g:Nat} {k:IntKind} {zs:List Int} {name:String} (hg:P.globalNamed name=some g) (hz:lookG gtab g=some (.tab k zs))
  (hc:∀n r,run n=some r->∀w:World,Lib.TabIs P w name k zs->Calls P f #[.int .i64 n] w fun e w'=>e= .returned (.string (bytes r))/\Below w.heap.size w w'):
  ModelOk P f ⟨⟨[.pv (.int .i64)],[]⟩,⟨[.pv .str],[]⟩,run⟩:=by
 refine⟨he,fun a r hr=>?_⟩
 have hr:run a=some r:=hr
 intro w S β τ F vs hgl hM hv
 have hv':All2 (V3 (LSt.ctx ⟨[.pv (.int .i64) a],[],[]⟩ w S β τ)) [.pv (.int .i64) a] vs:=hv
 match vs,hv' with
 | [v0],⟨⟨c0,e0,r0⟩,_⟩=>
  obtain rfl:c0= .int .i64 a:=by
   have e0':enc (.int .i64) a=[PV.int .i64 a]:=by simp only[enc]
   have e2:=e0'.symm.trans e0
   simpa using e2.symm
  have hr0:Rep w S v0 (.int .i64 a):=r0
  cases hr0
  have ht:Lib.TabIs P w name k zs:=by
   obtain⟨⟨x,y,h1⟩,_⟩:=hgl g _ hz
   unfold Lib.TabIs World.var?
   rw[hg,za,h1]
  refine(hc a r hr w ht).mono fun e w' ⟨he',bel⟩=>?_
  exact⟨_,β,τ,F,S,he',⟨⟨bel.os,bel.tape,bel.output,bel.size,fun k hk _=>bel.block k hk⟩,fun _ _ h=>h,fun _ _ h=>.inl h,fun b o h=>bel.cell (hM.lt b o h),fun b o h=>zbi (hM.lt b o h) bel.size,(fun _ _ h=>by cases h),(fun _ _ _ _ h=>by cases h),(fun _ _ h=>by cases h),(fun _ _ _ _ _ h=>by cases h),(fun _ _ _ _ h=>by cases h),(fun _ _ _ h=>absurd rfl h),(fun _ _ _ _ h=>by cases h),(fun _ _ _ _ _ _ h=>by cases h)⟩,_,rfl,⟨_,rfl,.str _⟩⟩
end Go.Proofs.YtabhgjdikeipdaaGreatDoor
