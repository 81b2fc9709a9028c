import Derived.Test.YtkglkigmdmohkaaGreatDoorKY
import Derived.Below
import Derived.Lib.LaidTab
import Derived.WalkSmall
import Derived.Lib.Split
import Derived.Lib.SplitLaws
import Derived.Lib.AtoiAllCases
import Derived.Lib.ItoaNum
set_option linter.unusedSimpArgs false
set_option linter.unusedVariables false
namespace Go.Proofs.YtkglkigmdmohkaaGreatDoor
open Go.RowKit
theorem jOP {P:Program} {f:FuncId} (run:Int->Option (List UInt8)) (he:Enter P f) {g:Nat} {k:IntKind} {zs:List Int} {name:String} (hg:P.globalNamed name=some g) (hz:lookG gtab g=some (.tab k zs))
  (hc:∀n r,run n=some r->∀w:World,Lib.TabIs P w name k zs->Calls P f #[.int .i64 n] w fun e w'=>e= .returned (.string (bytes r))/\Below w.heap.size w w'):
  ModelOk P f ⟨⟨[.pv (.int .i64)],[]⟩,⟨[.pv .str],[]⟩,run⟩:=by
 refine⟨he,fun a r hr=>?_⟩
 have hr:run a=some r:=hr
 intro w S β τ F G vs hgl hM hv
 have hv':All2 (V3 (LSt.ctx ⟨[.pv (.int .i64) a],[],[]⟩ w S β τ)) [.pv (.int .i64) a] vs:=hv
 match vs,hv' with
 | [v0],⟨⟨c0,e0,r0⟩,_⟩=>
  obtain rfl:c0= .int .i64 a:=by
   have e0':enc (.int .i64) a=[PV.int .i64 a]:=by simp only[enc]
   have e2:=e0'.symm.trans e0
   simpa using e2.symm
  have hr0:Rep w S v0 (.int .i64 a):=r0
  cases hr0
  have ht:Lib.TabIs P w name k zs:=by
   obtain⟨⟨x,y,h1⟩,_⟩:=hgl g _ hz
   unfold Lib.TabIs World.var?
   rw[hg,za,h1]
  refine(hc a r hr w ht).mono fun e w' ⟨he',bel⟩=>?_
  exact⟨_,β,τ,F,S,he',⟨⟨bel.os,bel.tape,bel.output,bel.size,fun k hk _=>bel.block k hk⟩,fun _ _ h=>h,fun _ _ h=>.inl h,fun b o h=>bel.cell (hM.lt b o h),fun b o h=>zbi (hM.lt b o h) bel.size,(fun _ _ h=>by cases h),(fun _ _ _ _ h=>by cases h),(fun _ _ h=>by cases h),(fun _ _ _ _ _ h=>by cases h),(fun _ _ _ _ h=>by cases h),(fun _ _ _ h=>absurd rfl h),(fun _ _ _ _ h=>by cases h),(fun _ _ _ _ _ _ h=>by cases h)⟩,_,rfl,⟨_,rfl,.str _⟩⟩
theorem jXD {s:List UInt8} {n:Nat} (h:s.length<n):(bytes s).size<n:=by
 show s.toArray.size<n
 simpa using h
theorem jXp {w:World} {S:Stab} {v:Value} {s:List UInt8} {p:PV} (e:enc .str s=[p]) (h:Rep w S v p):v= .string (bytes s):=by
 obtain rfl:PV.str (bytes s)=p:=by
  have e':enc .str s=[PV.str (bytes s)]:=by simp only[enc]
  have:=e'.symm.trans e
  simpa using this
 cases h
 rfl
theorem jXw {R:Root} {w w':World} {S S':Stab} {β:Nat->Nat} {τ:Nat->Value} {F:Nat->Nat->Prop} (hM:Mem R (lookB []) (lookT []) β τ F S w) (bel:Below w.heap.size w w') (h1:∀b o,S b o->S' b o) (h2:∀b o,S' b o->S b o\/(w.heap.size<=b/\b<w'.heap.size)):Mem R (lookB []) (lookT []) β τ F S' w':=
 hM.grow bel h1 (fun b o h=>(h2 b o h).imp id (·.1)) (fun b o h=>(h2 b o h).elim (fun h=>zbi (hM.lt b o h) bel.size) (·.2))
theorem jXs {G:Ords} {W:World} {X:Nat->Prop} {S:Stab} {g:Nat} {p:Value->Prop} (hgl:GlobOk G W X S) (hg:lookG gtab g=some (.cell p)):∃v,W.cell? ⟨g,0,none⟩=some v/\p v:=(hgl g _ hg).1
theorem j5l {P:Program} {f:FuncId} (run:List UInt8->Option Int) (he:Enter P f) {g1 g2:Nat} (h1:lookG gtab g1=some (.cell isErrV)) (h2:lookG gtab g2=some (.cell isErrV))
  (hc:∀s r,run s=some r->∀w:World,(∃v,w.cell? ⟨g1,0,none⟩=some v/\isErrV v)->(∃v,w.cell? ⟨g2,0,none⟩=some v/\isErrV v)->
   Calls P f #[.string (bytes s)] w fun e w'=>e= .returned (.int .i64 r)/\Below w.heap.size w w'):
  ModelOk P f ⟨⟨[.pv .str],[]⟩,⟨[.pv (.int .i64)],[]⟩,run⟩:=by
 refine⟨he,fun a r hr=>?_⟩
 have hr:run a=some r:=hr
 intro w S β τ F G vs hgl hM hv
 have hv':All2 (V3 (LSt.ctx ⟨[.pv .str a],[],[]⟩ w S β τ)) [.pv .str a] vs:=hv
 match vs,hv' with
 | [v0],⟨⟨c0,e0,r0⟩,_⟩=>
  have r0:Rep w S v0 c0:=r0
  obtain rfl:=jXp e0 r0
  refine(hc a r hr w (jXs hgl h1) (jXs hgl h2)).mono ?_
  rintro e w' ⟨rfl,bel⟩
  exact⟨_,β,τ,F,S,rfl,jXw hM bel (fun _ _ h=>h) (fun _ _ h=>.inl h),_,rfl,⟨_,rfl,.int _ _⟩⟩
theorem jYr {P:Program} {f:FuncId} (run:List UInt8×List UInt8->Option (List UInt8×List UInt8×Bool)) (he:Enter P f) {g:Nat} (hg:lookG gtab g=some (.cell isIntV))
  (hc:∀s sep r,run (s,sep)=some r->∀w:World,(∃v,w.cell? ⟨g,0,none⟩=some v/\isIntV v)->
   Calls P f #[.string (bytes s),.string (bytes sep)] w fun e w'=>e= .returned (.tuple #[.string (bytes r.1),.string (bytes r.2.1),.bool r.2.2])/\Below w.heap.size w w'):
  ModelOk P f ⟨⟨[.pv .str,.pv .str],[]⟩,⟨[.tup [.pv .str,.pv .str,.pv .bool]],[]⟩,run⟩:=by
 refine⟨he,fun a r hr=>?_⟩
 obtain⟨s,sep⟩:=a
 obtain⟨x,y,z⟩:=r
 have hr:run (s,sep)=some (x,y,z):=hr
 intro w S β τ F G vs hgl hM hv
 have hv':All2 (V3 (LSt.ctx ⟨[.pv .str s,.pv .str sep],[],[]⟩ w S β τ)) [.pv .str s,.pv .str sep] vs:=hv
 match vs,hv' with
 | [v0,v1],⟨⟨c0,e0,r0⟩,⟨c1,e1,r1⟩,_⟩=>
  have r0:Rep w S v0 c0:=r0
  have r1:Rep w S v1 c1:=r1
  obtain rfl:=jXp e0 r0
  obtain rfl:=jXp e1 r1
  refine(hc s sep _ hr w (jXs hgl hg)).mono ?_
  rintro e w' ⟨rfl,bel⟩
  exact⟨_,β,τ,F,S,rfl,jXw hM bel (fun _ _ h=>h) (fun _ _ h=>.inl h),_,rfl,⟨[.string (bytes x),.string (bytes y),.bool z],rfl,⟨_,rfl,.str _⟩,⟨_,rfl,.str _⟩,⟨_,rfl,.bool _⟩,True.intro⟩⟩
theorem jYF {P:Program} {f:FuncId} {g:Nat} (hg:lookG gtab g=some (.cell isIntV)) (T:TypeId) (s sep:List UInt8) (r:List (List UInt8))
  (hc:∀w:World,(∃v,w.cell? ⟨g,0,none⟩=some v/\isIntV v)->
   Calls P f #[.string (bytes s),.string (bytes sep)] w fun e w'=>e= .returned (.slice (some ⟨w.heap.size,0,none⟩) r.length r.length)/\w'=w.alloc (.cells (r.map fun x=>Value.string (bytes x)).toArray T)):
  FnC P f ⟨[.pv .str s,.pv .str sep],[],[]⟩ ⟨[.pv (.sl .str) r],[],[]⟩:=by
 intro w S β τ F G vs hgl hM hv
 match vs,hv with
 | [v0,v1],⟨⟨c0,e0,r0⟩,⟨c1,e1,r1⟩,_⟩=>
  have r0:Rep w S v0 c0:=r0
  have r1:Rep w S v1 c1:=r1
  obtain rfl:=jXp e0 r0
  obtain rfl:=jXp e1 r1
  refine(hc w (jXs hgl hg)).mono ?_
  rintro e w' ⟨rfl,rfl⟩
  have bel:Below w.heap.size w (w.alloc (.cells (List.map (fun x=>Value.string (bytes x)) r).toArray T)):=(Below.refl _ _).alloc (zae _) _
  have hnew:(w.alloc (.cells (List.map (fun x=>Value.string (bytes x)) r).toArray T)).heap[w.heap.size]? =some (.cells (List.map (fun x=>Value.string (bytes x)) r).toArray T (0,0)):=heap_alloc_new w _
  have hrow:∀(i j:Nat) (row:List PV) (c:PV),(List.map (enc .str) r)[i]? =some row->row[j]? =some c->∃x:List UInt8,r[i]? =some x/\j=0/\row=[.str (bytes x)]/\c= .str (bytes x):=fun i j row c h1 h2=>by
   rw[zaF]at h1
   obtain⟨x,hx,e⟩:=zaA.1 h1
   have e:[PV.str (bytes x)]=row:=by rw[<-e];simp only[enc]
   subst e
   have hj:j=0:=by have:=(zh.1 h2).1;simpa using this
   subst hj
   cases h2
   exact⟨x,hx,rfl,rfl,rfl⟩
  refine⟨_,β,τ,F,(fun b o=>S b o\/(b=w.heap.size/\o<r.length)),rfl,jXw hM bel (fun _ _ h=>.inl h) (fun b o h=>h.imp id fun h=>⟨by omega,by rw[h.1];exact lt_of_at hnew⟩),_,rfl,⟨.sl (List.map (enc .str) r),(by simp only[enc]),?_⟩⟩
  have hl:r.length=(List.map (enc .str) r).length:=(zar _).symm
  rw[hl]
  refine .sl _ _ _ (fun i _=>.string (bytes ((r[i]?).getD []))) w.heap.size 0 1 (zae _) (fun _=>rfl) (fun i row h=>?_) (fun i j row c h1 h2=>?_) (fun i j row c h1 h2=>?_) (fun i j row c h1 h2=>?_)
  .rw [zaF]at h
   obtain⟨x,_,e⟩:=zaA.1 h
   rw[<-e]
   simp only[enc,zbE]
  .obtain ⟨x,hx,rfl,_,_⟩:=hrow i j row c h1 h2
   have:=(zh.1 hx).1
   exact .inr ⟨rfl,by omega⟩
  .obtain ⟨x,hx,rfl,_,_⟩:=hrow i j row c h1 h2
   have hcell:(w.alloc (.cells (List.map (fun x=>Value.string (bytes x)) r).toArray T)).cell? ⟨w.heap.size,i,none⟩=some (.string (bytes x)):=by
    unfold World.cell?
    dsimp only
    rw[hnew]
    simp[hx]
   rw[hx,show(0+i*1+0:Nat)=i from by omega]
   exact hcell
  .obtain ⟨x,hx,rfl,_,rfl⟩:=hrow i j row c h1 h2
   rw[hx]
   exact .str _
theorem jYK {P:Program} {f:FuncId} (run:List UInt8×List UInt8->Option (List (List UInt8))) (he:Enter P f) {g:Nat} (hg:lookG gtab g=some (.cell isIntV)) (T:TypeId)
  (hc:∀s sep r,run (s,sep)=some r->∀w:World,(∃v,w.cell? ⟨g,0,none⟩=some v/\isIntV v)->
   Calls P f #[.string (bytes s),.string (bytes sep)] w fun e w'=>e= .returned (.slice (some ⟨w.heap.size,0,none⟩) r.length r.length)/\w'=w.alloc (.cells (r.map fun x=>Value.string (bytes x)).toArray T)):
  ModelOk P f ⟨⟨[.pv .str,.pv .str],[]⟩,⟨[.pv (.sl .str)],[]⟩,run⟩:=
 ⟨he,fun a r hr=>jYF hg T a.1 a.2 r (hc a.1 a.2 r hr)⟩
theorem jD1 {P:Program} {f:FuncId} (run:List (List UInt8)×List UInt8->Option (List UInt8)) (he:Enter P f)
  (hc:∀xs sep r,run (xs,sep)=some r->∀(w:World) (a:Option Addr) (cap b o:Nat),xs.length<=cap->(xs≠ []->a=some ⟨b,o,none⟩)->(∀(j:Nat) x,xs[j]? =some x->w.cell? ⟨b,o+j,none⟩=some (.string (bytes x)))->(xs≠ []->b<w.heap.size)->
   Calls P f #[.slice a xs.length cap,.string (bytes sep)] w fun e w'=>e= .returned (.string (bytes r))/\Below w.heap.size w w'):
  ModelOk P f ⟨⟨[.pv (.sl .str),.pv .str],[]⟩,⟨[.pv .str],[]⟩,run⟩:=by
 refine⟨he,fun a r hr=>?_⟩
 obtain⟨xs,sep⟩:=a
 intro w S β τ F G vs hg hM hv
 have hv':All2 (V3 (LSt.ctx ⟨[.pv (.sl .str) xs,.pv .str sep],[],[]⟩ w S β τ)) [.pv (.sl .str) xs,.pv .str sep] vs:=hv
 match vs,hv' with
 | [v0,v1],⟨⟨c0,e0,r0⟩,⟨c1,e1,r1⟩,_⟩=>
  obtain rfl:c0= .sl (xs.map (enc .str)):=by
   have e0':enc (.sl .str) xs=[PV.sl (xs.map (enc .str))]:=by simp only[enc]
   have e2:=e0'.symm.trans e0
   simpa using e2.symm
  obtain rfl:c1= .str (bytes sep):=by
   have e1':enc .str sep=[PV.str (bytes sep)]:=by simp only[enc]
   have e2:=e1'.symm.trans e1
   simpa using e2.symm
  have hr0:Rep w S v0 (.sl (xs.map (enc .str))):=r0
  have hr1:Rep w S v1 (.str (bytes sep)):=r1
  generalize hrows:xs.map (enc .str)=rows at hr0
  cases hr1
  cases hr0 with
  |sl a cap _ u b o m hcap ha hm hs hu hr2=>
   have hl:rows.length=xs.length:=by rw[<-hrows,zar]
   have hat:∀(j:Nat) (x:List UInt8),xs[j]? =some x->rows[j]? =some [.str (bytes x)]:=fun j x hx=>by
    rw[<-hrows,zaF,hx,zbn,enc]
   rw[hl]at hcap⊢
   have hne:xs≠ []->rows≠ []:=fun h e=>h (zbI.1 (by rw[<-hl,e];rfl))
   refine(hc xs sep r hr w a cap b o hcap (fun h=>ha (hne h)) (fun j x hx=>?_) (fun h=>?_)).mono fun e w' ⟨he',bel⟩=>?_
   .have h1:=hat j x hx
    have hm1:m=1:=(hm j _ h1).symm
    subst hm1
    have h2:=hu j 0 _ _ h1 rfl
    have h3:=hr2 j 0 _ _ h1 rfl
    rw[Nat.mul_one,zbz]at h2
    generalize u j 0=v at*
    cases h3
    exact h2
   .obtain ⟨x,hx⟩:∃x,xs[0]? =some x:=by
     cases xs with
     |nil=>exact absurd rfl h
     |cons x l=>exact⟨x,rfl⟩
    exact hM.lt _ _ (hs 0 0 _ _ (hat 0 x hx) rfl)
   .exact ⟨_,β,τ,F,S,he',⟨⟨bel.os,bel.tape,bel.output,bel.size,fun k hk _=>bel.block k hk⟩,fun _ _ h=>h,fun _ _ h=>.inl h,fun b o h=>bel.cell (hM.lt b o h),fun b o h=>zbi (hM.lt b o h) bel.size,(fun _ _ h=>by cases h),(fun _ _ _ _ h=>by cases h),(fun _ _ h=>by cases h),(fun _ _ _ _ _ h=>by cases h),(fun _ _ _ _ h=>by cases h),(fun _ _ _ h=>absurd rfl h),(fun _ _ _ _ h=>by cases h),(fun _ _ _ _ _ _ h=>by cases h)⟩,_,rfl,⟨_,rfl,.str _⟩⟩
def cutAt (b:UInt8):List UInt8->List (List UInt8)
 | []=>[[]]
 |x::l=>if x=b then []::cutAt b l else match cutAt b l with
  | []=>[[x]]
  |p::ps=>(x::p)::ps
theorem jXQ {b:UInt8}:∀ {l:List UInt8},b∉l->cutAt b l=[l]
 | [],_=>rfl
 |x::l,h=>by
  rw[zp,not_or]at h
  unfold cutAt
  rw[zu (fun e=>h.1 e.symm),jXQ h.2]
theorem jXv {b:UInt8}:∀ {p r:List UInt8},b∉p->cutAt b (p++b::r)=p::cutAt b r
 | [],r,_=>by
  show cutAt b (b::r)=_
  rw[cutAt,zf rfl]
 |x::p,r,h=>by
  rw[zp,not_or]at h
  show cutAt b (x::(p++b::r))=_
  rw[cutAt,zu (fun e=>h.1 e.symm),jXv h.2]
theorem j44 (b:UInt8):∀s:List UInt8,b∉s\/ ∃p r,b∉p/\s=p++b::r
 | []=>.inl (by simp)
 |x::s=>by
  by_cases e:b=x
  .subst e
   exact .inr ⟨[],s,by simp,rfl⟩
  .rcases j44 b s with h|⟨p,r,h,rfl⟩
   .exact .inl (by rw[zp,not_or];exact⟨e,h⟩)
   .exact .inr ⟨x::p,r,by rw[zp,not_or];exact⟨e,h⟩,rfl⟩
theorem jXz (b x:UInt8) (l:List UInt8):[b].isPrefixOf (x::l)=(b==x):=by simp[List.isPrefixOf]
theorem jXB {b:UInt8}:∀ {s:List UInt8},b∉s->Lib.index s [b]=-1
 | [],_=>rfl
 |x::s,h=>by
  rw[zp,not_or]at h
  have e:(b==x)=false:=by simpa using h.1
  unfold Lib.index
  rw[jXz,e,jXB h.2]
  rfl
theorem jXy {b:UInt8}:∀ {p r:List UInt8},b∉p->Lib.index (p++b::r) [b]=(p.length:Int)
 | [],r,_=>by
  show Lib.index (b::r) [b]=0
  unfold Lib.index
  rw[jXz,beq_self_eq_true,zf rfl]
 |x::p,r,h=>by
  rw[zp,not_or]at h
  have e:(b==x)=false:=by simpa using h.1
  show Lib.index (x::(p++b::r)) [b]=_
  unfold Lib.index
  rw[jXz,e,jXy h.2]
  have:(((p.length:Nat):Int)==-1)=false:=by rw[beq_eq_false_iff_ne];omega
  simp[this]
theorem jXM (b:UInt8):∀(n:Nat) (s:List UInt8),s.length<=n->Lib.splitK [b] 0 (Lib.count s [b]) s=cutAt b s
 |n,s,hn=>by
  rcases j44 b s with h|⟨p,r,h,rfl⟩
  .rw [Lib.count_miss (jXB h),jXQ h]
   rfl
  .have hi:=jXy (r:=r) h
   have hl:(p++b::r).length=p.length+1+r.length:=by simp;omega
   rw[Lib.count_hit (by simp) hi,jXv h,Nat.add_comm 1]
   unfold Lib.splitK
   have:((p.length:Int)==-1)=false:=by rw[beq_eq_false_iff_ne];omega
   rw[hi,this,zu (by decide)]
   have e1:(p++b::r).drop (p.length+ [b].length)=r:=by
    rw[zbE,<-List.drop_drop,List.drop_left]
    rfl
   rw[zai,e1,zbz,List.take_left]
   match n,hn with
   |0,hn=>omega
   |n+1,hn=>rw[jXM b n r (by omega)]
theorem jXt (s:List UInt8):(bytes s).data.toList=s:=by simp[bytes]
theorem jX2 (x:ByteArray):bytes x.data.toList=x:=by cases x;simp[bytes]
theorem jXF (b:UInt8) (s:List UInt8):Lib.splitB (bytes [b]) 0 (Lib.countB (bytes s) (bytes [b])) (bytes s)=(cutAt b s).map bytes:=by
 have h:=Lib.splitB_data (bytes [b]) 0 (Lib.countB (bytes s) (bytes [b])) (bytes s)
 have e:Lib.countB (bytes s) (bytes [b])=Lib.count s [b]:=by
  unfold Lib.countB
  rw[jXt,jXt]
 rw[jXt,jXt,e,jXM b _ s (zae _)]at h
 rw[e,<-h,zbO]
 have:(bytes∘fun x:ByteArray=>x.data.toList)=id:=by funext x;exact jX2 x
 rw[this,List.map_id]
theorem digits_eq (u:Nat):Lib.decDigits u=if u<10 then [UInt8.ofNat (48+u)]else Lib.decDigits (u/10)++ [UInt8.ofNat (48+u%10)]:=by
 rw[Lib.decDigits]
 by_cases h:u<10
 .rw [dif_pos h,zf h]
 .rw [dif_neg h,zu h]
def digB (c:UInt8):Bool:=decide (48<=c.toNat)&&decide (c.toNat<=57)
theorem jXu :∀d:Nat,d<10->digB (UInt8.ofNat (48+d))=true/\(UInt8.ofNat (48+d)).toNat=48+d:=by decide
theorem j42 :∀(n u:Nat),u<=n->∀c,c∈Lib.decDigits u->digB c=true
 |n,u,hn,c,hc=>by
  rw[digits_eq]at hc
  by_cases h:u<10
  .rw [zf h,zaD]at hc
   rw[hc]
   exact(jXu u h).1
  .rw [zu h,zaB,zaD]at hc
   rcases hc with hc|hc
   .match n,hn with
    |0,hn=>omega
    |n+1,hn=>exact j42 n (u/10) (by omega) c hc
   .rw [hc]
    exact(jXu _ (zct _ (by decide))).1
def numD (acc:Nat) (l:List UInt8):Nat:=l.foldl (fun a c=>a*10+(c.toNat-48)) acc
theorem jYz (acc:Nat) (a b:List UInt8):numD acc (a++b)=numD (numD acc a) b:=by unfold numD;rw[zaX]
theorem jXH :∀(n u:Nat),u<=n->numD 0 (Lib.decDigits u)=u
 |n,u,hn=>by
  rw[digits_eq]
  by_cases h:u<10
  .rw [zf h]
   show 0*10+((UInt8.ofNat (48+u)).toNat-48)=u
   rw[(jXu u h).2]
   omega
  .have hm:u%10<10:=zct _ (by decide)
   rw[zu h,jYz]
   match n,hn with
   |0,hn=>omega
   |n+1,hn=>
    rw[jXH n (u/10) (by omega)]
    show u/10*10+((UInt8.ofNat (48+u%10)).toNat-48)=u
    rw[(jXu _ hm).2]
    omega
end Go.Proofs.YtkglkigmdmohkaaGreatDoor
