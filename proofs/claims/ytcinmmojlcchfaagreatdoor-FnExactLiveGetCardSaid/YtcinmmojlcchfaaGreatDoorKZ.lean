import Derived.Test.YtcinmmojlcchfaaGreatDoorKY
import Derived.Below
import Derived.Lib.LaidTab
import Derived.WalkSmall
import Derived.Lib.Split
import Derived.Lib.SplitLaws
import Derived.Lib.AtoiAllCases
import Derived.Lib.ItoaNum
import Derived.Shelf.SlSortCmp.WholeK
set_option linter.unusedSimpArgs false
set_option linter.unusedVariables false
namespace Go.Proofs.YtcinmmojlcchfaaGreatDoor
open Go.RowKit
theorem jOP {P:Program} {f:FuncId} (run:Int->Option (List UInt8)) (he:Enter P f) {g:Nat} {k:IntKind} {zs:List Int} {name:String} (hg:P.globalNamed name=some g) (hz:lookG gtab g=some (.tab k zs))
  (hc:∀n r,run n=some r->∀w:World,Lib.TabIs P w name k zs->Calls P f #[.int .i64 n] w fun e w'=>e= .returned (.string (bytes r))/\Below w.heap.size w w'):
  ModelOk P f ⟨⟨[.pv (.int .i64)],[]⟩,⟨[.pv .str],[]⟩,run⟩:=by
 refine⟨he,fun a r hr=>?_⟩
 have hr:run a=some r:=hr
 intro w S β τ F vs hgl hM hv
 have hv':All2 (V3 (LSt.ctx ⟨[.pv (.int .i64) a],[],[]⟩ w S β τ)) [.pv (.int .i64) a] vs:=hv
 match vs,hv' with
 | [v0],⟨⟨c0,e0,r0⟩,_⟩=>
  obtain rfl:c0= .int .i64 a:=by
   have e0':enc (.int .i64) a=[PV.int .i64 a]:=by simp only[enc]
   have e2:=e0'.symm.trans e0
   simpa using e2.symm
  have hr0:Rep w S v0 (.int .i64 a):=r0
  cases hr0
  have ht:Lib.TabIs P w name k zs:=by
   obtain⟨⟨x,y,h1⟩,_⟩:=hgl g _ hz
   unfold Lib.TabIs World.var?
   rw[hg,za,h1]
  refine(hc a r hr w ht).mono fun e w' ⟨he',bel⟩=>?_
  exact⟨_,β,τ,F,S,he',⟨⟨bel.os,bel.tape,bel.output,bel.size,fun k hk _=>bel.block k hk⟩,fun _ _ h=>h,fun _ _ h=>.inl h,fun b o h=>bel.cell (hM.lt b o h),fun b o h=>zbi (hM.lt b o h) bel.size,(fun _ _ h=>by cases h),(fun _ _ _ _ h=>by cases h),(fun _ _ h=>by cases h),(fun _ _ _ _ _ h=>by cases h),(fun _ _ _ _ h=>by cases h),(fun _ _ _ h=>absurd rfl h),(fun _ _ _ _ h=>by cases h),(fun _ _ _ _ _ _ h=>by cases h)⟩,_,rfl,⟨_,rfl,.str _⟩⟩
theorem jXD {s:List UInt8} {n:Nat} (h:s.length<n):(bytes s).size<n:=by
 show s.toArray.size<n
 simpa using h
theorem jXp {w:World} {S:Stab} {v:Value} {s:List UInt8} {p:PV} (e:enc .str s=[p]) (h:Rep w S v p):v= .string (bytes s):=by
 obtain rfl:PV.str (bytes s)=p:=by
  have e':enc .str s=[PV.str (bytes s)]:=by simp only[enc]
  have:=e'.symm.trans e
  simpa using this
 cases h
 rfl
theorem jXw {R:Root} {w w':World} {S S':Stab} {β:Nat->Nat} {τ:Nat->Value} {F:Nat->Nat->Prop} (hM:Mem R (lookB []) (lookT []) β τ F S w) (bel:Below w.heap.size w w') (h1:∀b o,S b o->S' b o) (h2:∀b o,S' b o->S b o\/(w.heap.size<=b/\b<w'.heap.size)):Mem R (lookB []) (lookT []) β τ F S' w':=
 hM.grow bel h1 (fun b o h=>(h2 b o h).imp id (·.1)) (fun b o h=>(h2 b o h).elim (fun h=>zbi (hM.lt b o h) bel.size) (·.2))
theorem jXs {W:World} {X:Nat->Prop} {S:Stab} {g:Nat} {p:Value->Prop} (hgl:GlobOk W X S) (hg:lookG gtab g=some (.cell p)):∃v,W.cell? ⟨g,0,none⟩=some v/\p v:=(hgl g _ hg).1
theorem jYd {P:Program} {f:FuncId} (run:List UInt8->Option Int) (he:Enter P f) {g1 g2:Nat} (h1:lookG gtab g1=some (.cell isErrV)) (h2:lookG gtab g2=some (.cell isErrV))
  (hc:∀s r,run s=some r->∀w:World,(∃v,w.cell? ⟨g1,0,none⟩=some v/\isErrV v)->(∃v,w.cell? ⟨g2,0,none⟩=some v/\isErrV v)->
   Calls P f #[.string (bytes s)] w fun e w'=>(∃x,e= .returned (.tuple #[.int .i64 r,x]))/\Below w.heap.size w w'):
  ModelOk P f ⟨⟨[.pv .str],[]⟩,⟨[.tup [.pv (.int .i64),.dead]],[]⟩,run⟩:=by
 refine⟨he,fun a r hr=>?_⟩
 have hr:run a=some r:=hr
 intro w S β τ F vs hgl hM hv
 have hv':All2 (V3 (LSt.ctx ⟨[.pv .str a],[],[]⟩ w S β τ)) [.pv .str a] vs:=hv
 match vs,hv' with
 | [v0],⟨⟨c0,e0,r0⟩,_⟩=>
  have r0:Rep w S v0 c0:=r0
  obtain rfl:=jXp e0 r0
  refine(hc a r hr w (jXs hgl h1) (jXs hgl h2)).mono ?_
  rintro e w' ⟨⟨x,rfl⟩,bel⟩
  exact⟨_,β,τ,F,S,rfl,jXw hM bel (fun _ _ h=>h) (fun _ _ h=>.inl h),_,rfl,⟨[.int .i64 r,x],rfl,⟨_,rfl,.int _ _⟩,True.intro,True.intro⟩⟩
theorem jYr {P:Program} {f:FuncId} (run:List UInt8×List UInt8->Option (List UInt8×List UInt8×Bool)) (he:Enter P f) {g:Nat} (hg:lookG gtab g=some (.cell isIntV))
  (hc:∀s sep r,run (s,sep)=some r->∀w:World,(∃v,w.cell? ⟨g,0,none⟩=some v/\isIntV v)->
   Calls P f #[.string (bytes s),.string (bytes sep)] w fun e w'=>e= .returned (.tuple #[.string (bytes r.1),.string (bytes r.2.1),.bool r.2.2])/\Below w.heap.size w w'):
  ModelOk P f ⟨⟨[.pv .str,.pv .str],[]⟩,⟨[.tup [.pv .str,.pv .str,.pv .bool]],[]⟩,run⟩:=by
 refine⟨he,fun a r hr=>?_⟩
 obtain⟨s,sep⟩:=a
 obtain⟨x,y,z⟩:=r
 have hr:run (s,sep)=some (x,y,z):=hr
 intro w S β τ F vs hgl hM hv
 have hv':All2 (V3 (LSt.ctx ⟨[.pv .str s,.pv .str sep],[],[]⟩ w S β τ)) [.pv .str s,.pv .str sep] vs:=hv
 match vs,hv' with
 | [v0,v1],⟨⟨c0,e0,r0⟩,⟨c1,e1,r1⟩,_⟩=>
  have r0:Rep w S v0 c0:=r0
  have r1:Rep w S v1 c1:=r1
  obtain rfl:=jXp e0 r0
  obtain rfl:=jXp e1 r1
  refine(hc s sep _ hr w (jXs hgl hg)).mono ?_
  rintro e w' ⟨rfl,bel⟩
  exact⟨_,β,τ,F,S,rfl,jXw hM bel (fun _ _ h=>h) (fun _ _ h=>.inl h),_,rfl,⟨[.string (bytes x),.string (bytes y),.bool z],rfl,⟨_,rfl,.str _⟩,⟨_,rfl,.str _⟩,⟨_,rfl,.bool _⟩,True.intro⟩⟩
theorem jYF {P:Program} {f:FuncId} {g:Nat} (hg:lookG gtab g=some (.cell isIntV)) (T:TypeId) (s sep:List UInt8) (r:List (List UInt8))
  (hc:∀w:World,(∃v,w.cell? ⟨g,0,none⟩=some v/\isIntV v)->
   Calls P f #[.string (bytes s),.string (bytes sep)] w fun e w'=>e= .returned (.slice (some ⟨w.heap.size,0,none⟩) r.length r.length)/\w'=w.alloc (.cells (r.map fun x=>Value.string (bytes x)).toArray T)):
  FnC P f ⟨[.pv .str s,.pv .str sep],[],[]⟩ ⟨[.pv (.sl .str) r],[],[]⟩:=by
 intro w S β τ F vs hgl hM hv
 match vs,hv with
 | [v0,v1],⟨⟨c0,e0,r0⟩,⟨c1,e1,r1⟩,_⟩=>
  have r0:Rep w S v0 c0:=r0
  have r1:Rep w S v1 c1:=r1
  obtain rfl:=jXp e0 r0
  obtain rfl:=jXp e1 r1
  refine(hc w (jXs hgl hg)).mono ?_
  rintro e w' ⟨rfl,rfl⟩
  have bel:Below w.heap.size w (w.alloc (.cells (List.map (fun x=>Value.string (bytes x)) r).toArray T)):=(Below.refl _ _).alloc (zae _) _
  have hnew:(w.alloc (.cells (List.map (fun x=>Value.string (bytes x)) r).toArray T)).heap[w.heap.size]? =some (.cells (List.map (fun x=>Value.string (bytes x)) r).toArray T (0,0)):=heap_alloc_new w _
  have hrow:∀(i j:Nat) (row:List PV) (c:PV),(List.map (enc .str) r)[i]? =some row->row[j]? =some c->∃x:List UInt8,r[i]? =some x/\j=0/\row=[.str (bytes x)]/\c= .str (bytes x):=fun i j row c h1 h2=>by
   rw[zaF]at h1
   obtain⟨x,hx,e⟩:=zaA.1 h1
   have e:[PV.str (bytes x)]=row:=by rw[<-e];simp only[enc]
   subst e
   have hj:j=0:=by have:=(zh.1 h2).1;simpa using this
   subst hj
   cases h2
   exact⟨x,hx,rfl,rfl,rfl⟩
  refine⟨_,β,τ,F,(fun b o=>S b o\/(b=w.heap.size/\o<r.length)),rfl,jXw hM bel (fun _ _ h=>.inl h) (fun b o h=>h.imp id fun h=>⟨by omega,by rw[h.1];exact lt_of_at hnew⟩),_,rfl,⟨.sl (List.map (enc .str) r),(by simp only[enc]),?_⟩⟩
  have hl:r.length=(List.map (enc .str) r).length:=(zar _).symm
  rw[hl]
  refine .sl _ _ _ (fun i _=>.string (bytes ((r[i]?).getD []))) w.heap.size 0 1 (zae _) (fun _=>rfl) (fun i row h=>?_) (fun i j row c h1 h2=>?_) (fun i j row c h1 h2=>?_) (fun i j row c h1 h2=>?_)
  .rw [zaF]at h
   obtain⟨x,_,e⟩:=zaA.1 h
   rw[<-e]
   simp only[enc,zbE]
  .obtain ⟨x,hx,rfl,_,_⟩:=hrow i j row c h1 h2
   have:=(zh.1 hx).1
   exact .inr ⟨rfl,by omega⟩
  .obtain ⟨x,hx,rfl,_,_⟩:=hrow i j row c h1 h2
   have hcell:(w.alloc (.cells (List.map (fun x=>Value.string (bytes x)) r).toArray T)).cell? ⟨w.heap.size,i,none⟩=some (.string (bytes x)):=by
    unfold World.cell?
    dsimp only
    rw[hnew]
    simp[hx]
   rw[hx,show(0+i*1+0:Nat)=i from by omega]
   exact hcell
  .obtain ⟨x,hx,rfl,_,rfl⟩:=hrow i j row c h1 h2
   rw[hx]
   exact .str _
theorem jYK {P:Program} {f:FuncId} (run:List UInt8×List UInt8->Option (List (List UInt8))) (he:Enter P f) {g:Nat} (hg:lookG gtab g=some (.cell isIntV)) (T:TypeId)
  (hc:∀s sep r,run (s,sep)=some r->∀w:World,(∃v,w.cell? ⟨g,0,none⟩=some v/\isIntV v)->
   Calls P f #[.string (bytes s),.string (bytes sep)] w fun e w'=>e= .returned (.slice (some ⟨w.heap.size,0,none⟩) r.length r.length)/\w'=w.alloc (.cells (r.map fun x=>Value.string (bytes x)).toArray T)):
  ModelOk P f ⟨⟨[.pv .str,.pv .str],[]⟩,⟨[.pv (.sl .str)],[]⟩,run⟩:=
 ⟨he,fun a r hr=>jYF hg T a.1 a.2 r (hc a.1 a.2 r hr)⟩
def cutAt (b:UInt8):List UInt8->List (List UInt8)
 | []=>[[]]
 |x::l=>if x=b then []::cutAt b l else match cutAt b l with
  | []=>[[x]]
  |p::ps=>(x::p)::ps
theorem cutAt_ne (b:UInt8):∀l,cutAt b l≠ []
 | []=>by simp[cutAt]
 |x::l=>by
  unfold cutAt
  split
  .simp
  .split<;>simp
theorem jXQ {b:UInt8}:∀ {l:List UInt8},b∉l->cutAt b l=[l]
 | [],_=>rfl
 |x::l,h=>by
  rw[zp,not_or]at h
  unfold cutAt
  rw[zu (fun e=>h.1 e.symm),jXQ h.2]
theorem jXv {b:UInt8}:∀ {p r:List UInt8},b∉p->cutAt b (p++b::r)=p::cutAt b r
 | [],r,_=>by
  show cutAt b (b::r)=_
  rw[cutAt,zf rfl]
 |x::p,r,h=>by
  rw[zp,not_or]at h
  show cutAt b (x::(p++b::r))=_
  rw[cutAt,zu (fun e=>h.1 e.symm),jXv h.2]
theorem first_cut (b:UInt8):∀s:List UInt8,b∉s\/ ∃p r,b∉p/\s=p++b::r
 | []=>.inl (by simp)
 |x::s=>by
  by_cases e:b=x
  .subst e
   exact .inr ⟨[],s,by simp,rfl⟩
  .rcases first_cut b s with h|⟨p,r,h,rfl⟩
   .exact .inl (by rw[zp,not_or];exact⟨e,h⟩)
   .exact .inr ⟨x::p,r,by rw[zp,not_or];exact⟨e,h⟩,rfl⟩
theorem jXz (b x:UInt8) (l:List UInt8):[b].isPrefixOf (x::l)=(b==x):=by simp[List.isPrefixOf]
theorem jXB {b:UInt8}:∀ {s:List UInt8},b∉s->Lib.index s [b]=-1
 | [],_=>rfl
 |x::s,h=>by
  rw[zp,not_or]at h
  have e:(b==x)=false:=by simpa using h.1
  unfold Lib.index
  rw[jXz,e,jXB h.2]
  rfl
theorem jXy {b:UInt8}:∀ {p r:List UInt8},b∉p->Lib.index (p++b::r) [b]=(p.length:Int)
 | [],r,_=>by
  show Lib.index (b::r) [b]=0
  unfold Lib.index
  rw[jXz,beq_self_eq_true,zf rfl]
 |x::p,r,h=>by
  rw[zp,not_or]at h
  have e:(b==x)=false:=by simpa using h.1
  show Lib.index (x::(p++b::r)) [b]=_
  unfold Lib.index
  rw[jXz,e,jXy h.2]
  have:(((p.length:Nat):Int)==-1)=false:=by rw[beq_eq_false_iff_ne];omega
  simp[this]
theorem jXM (b:UInt8):∀(n:Nat) (s:List UInt8),s.length<=n->Lib.splitK [b] 0 (Lib.count s [b]) s=cutAt b s
 |n,s,hn=>by
  rcases first_cut b s with h|⟨p,r,h,rfl⟩
  .rw [Lib.count_miss (jXB h),jXQ h]
   rfl
  .have hi:=jXy (r:=r) h
   have hl:(p++b::r).length=p.length+1+r.length:=by simp;omega
   rw[Lib.count_hit (by simp) hi,jXv h,Nat.add_comm 1]
   unfold Lib.splitK
   have:((p.length:Int)==-1)=false:=by rw[beq_eq_false_iff_ne];omega
   rw[hi,this,zu (by decide)]
   have e1:(p++b::r).drop (p.length+ [b].length)=r:=by
    rw[zbE,<-zcc,List.drop_left]
    rfl
   rw[zai,e1,Nat.add_zero,List.take_left]
   match n,hn with
   |0,hn=>omega
   |n+1,hn=>rw[jXM b n r (by omega)]
theorem jXt (s:List UInt8):(bytes s).data.toList=s:=by simp[bytes]
theorem jX2 (x:ByteArray):bytes x.data.toList=x:=by cases x;simp[bytes]
theorem jXF (b:UInt8) (s:List UInt8):Lib.splitB (bytes [b]) 0 (Lib.countB (bytes s) (bytes [b])) (bytes s)=(cutAt b s).map bytes:=by
 have h:=Lib.splitB_data (bytes [b]) 0 (Lib.countB (bytes s) (bytes [b])) (bytes s)
 have e:Lib.countB (bytes s) (bytes [b])=Lib.count s [b]:=by
  unfold Lib.countB
  rw[jXt,jXt]
 rw[jXt,jXt,e,jXM b _ s (zae _)]at h
 rw[e,<-h,List.map_map]
 have:(bytes∘fun x:ByteArray=>x.data.toList)=id:=by funext x;exact jX2 x
 rw[this,List.map_id]
def cut1 (b:UInt8) (s:List UInt8):List UInt8×List UInt8×Bool:=Lib.cut s [b]
theorem cut1_none {b:UInt8} {s:List UInt8} (h:b∉s):cut1 b s=(s,[],false):=by
 unfold cut1 Lib.cut
 rw[jXB h,zu (by decide)]
theorem cut1_hit {b:UInt8} {p r:List UInt8} (h:b∉p):cut1 b (p++b::r)=(p,r,true):=by
 unfold cut1 Lib.cut
 rw[jXy h,zf (by omega),zai,List.take_left,zbE,<-zcc,List.drop_left]
 rfl
def cutN (b:UInt8):Nat->List UInt8->List (List UInt8)
 |0,s=>[s]
 |k+1,s=>match s with
  | []=>[[]]
  |x::l=>if x=b then []::cutN b k l else match cutN b (k+1) l with
   | []=>[[x]]
   |p::ps=>(x::p)::ps
theorem cutN_none {b:UInt8}:∀ {s:List UInt8} (k:Nat),b∉s->cutN b k s=[s]
 |s,0,_=>by rw[cutN]
 | [],k+1,_=>by rw[cutN]
 |x::s,k+1,h=>by
  rw[zp,not_or]at h
  rw[cutN,zu (fun e=>h.1 e.symm),cutN_none (k+1) h.2]
theorem cutN_hit {b:UInt8} (k:Nat):∀ {p r:List UInt8},b∉p->cutN b (k+1) (p++b::r)=p::cutN b k r
 | [],r,_=>by
  show cutN b (k+1) (b::r)=_
  rw[cutN,zf rfl]
 |x::p,r,h=>by
  rw[zp,not_or]at h
  show cutN b (k+1) (x::(p++b::r))=_
  rw[cutN,zu (fun e=>h.1 e.symm),cutN_hit k h.2]
def linesT (ls:List (List UInt8)):List UInt8:=ls.flatMap fun l=>l++ [10]
theorem linesT_cons (l:List UInt8) (ls:List (List UInt8)):linesT (l::ls)=l++10::linesT ls:=by
 unfold linesT
 rw[zbu,zao]
 rfl
theorem linesT_append (a b:List (List UInt8)):linesT (a++b)=linesT a++linesT b:=by unfold linesT;rw[List.flatMap_append]
theorem cut_lines :∀ {ls:List (List UInt8)},(∀l,l∈ls->(10:UInt8)∉l)->cutAt 10 (linesT ls)=ls++ [[]]
 | [],_=>rfl
 |l::ls,h=>by
  rw[linesT_cons,jXv (h l zy),cut_lines fun x hx=>h x (zl _ hx)]
  rfl
theorem cutN_lines :∀ {ls:List (List UInt8)} (k:Nat),(∀l,l∈ls->(10:UInt8)∉l)->ls.length<=k->cutN 10 k (linesT ls)=ls++ [[]]
 | [],k,_,_=>cutN_none k (by simp[linesT])
 |l::ls,0,_,hk=>by simp at hk
 |l::ls,k+1,h,hk=>by
  rw[linesT_cons,cutN_hit k (h l zy),cutN_lines k (fun x hx=>h x (zl _ hx)) (by simpa using hk)]
  rfl
theorem digits_eq (u:Nat):Lib.decDigits u=if u<10 then [UInt8.ofNat (48+u)]else Lib.decDigits (u/10)++ [UInt8.ofNat (48+u%10)]:=by
 rw[Lib.decDigits]
 by_cases h:u<10
 .rw [dif_pos h,zf h]
 .rw [dif_neg h,zu h]
def digB (c:UInt8):Bool:=decide (48<=c.toNat)&&decide (c.toNat<=57)
theorem jXu :∀d:Nat,d<10->digB (UInt8.ofNat (48+d))=true/\(UInt8.ofNat (48+d)).toNat=48+d:=by decide
theorem digits_dig :∀(n u:Nat),u<=n->∀c,c∈Lib.decDigits u->digB c=true
 |n,u,hn,c,hc=>by
  rw[digits_eq]at hc
  by_cases h:u<10
  .rw [zf h,zaD]at hc
   rw[hc]
   exact(jXu u h).1
  .rw [zu h,zaB,zaD]at hc
   rcases hc with hc|hc
   .match n,hn with
    |0,hn=>omega
    |n+1,hn=>exact digits_dig n (u/10) (by omega) c hc
   .rw [hc]
    exact(jXu _ (Nat.mod_lt _ (by decide))).1
theorem digits_ne :∀u:Nat,Lib.decDigits u≠ []:=fun u=>by
 rw[digits_eq]
 split<;>simp
def numD (acc:Nat) (l:List UInt8):Nat:=l.foldl (fun a c=>a*10+(c.toNat-48)) acc
theorem numD_append (acc:Nat) (a b:List UInt8):numD acc (a++b)=numD (numD acc a) b:=by unfold numD;rw[zaX]
theorem numD_digits :∀(n u:Nat),u<=n->numD 0 (Lib.decDigits u)=u
 |n,u,hn=>by
  rw[digits_eq]
  by_cases h:u<10
  .rw [zf h]
   show 0*10+((UInt8.ofNat (48+u)).toNat-48)=u
   rw[(jXu u h).2]
   omega
  .have hm:u%10<10:=Nat.mod_lt _ (by decide)
   rw[zu h,numD_append]
   match n,hn with
   |0,hn=>omega
   |n+1,hn=>
    rw[numD_digits n (u/10) (by omega)]
    show u/10*10+((UInt8.ofNat (48+u%10)).toNat-48)=u
    rw[(jXu _ hm).2]
    omega
theorem jXT (acc:Nat) (l:List UInt8):acc<=numD acc l:=by
 induction l generalizing acc with
 |nil=>exact zae _
 |cons c l ih=>
  refine zau ?_ (ih (acc*10+(c.toNat-48)))
  omega
theorem jXL :∀(l:List UInt8) (acc:Nat),(∀c,c∈l->digB c=true)->numD acc l<1000000000000000000->Lib.parseUint10 acc l= .ok (numD acc l)
 | [],acc,_,_=>rfl
 |c::l,acc,h,hb=>by
  have hc:=h c zy
  unfold digB at hc
  rw[zj,zw,zw]at hc
  have e:numD acc (c::l)=numD (acc*10+(c.toNat-48)) l:=rfl
  have hm:=jXT (acc*10+(c.toNat-48)) l
  rw[e]at hb⊢
  rw[Lib.parseUint10,zf hc,zu (by omega),zu (by omega)]
  exact jXL l _ (fun x hx=>h x (zl _ hx)) hb
def atoiN (s:List UInt8):Int:=match Lib.atoiAll s with
 | .ok v=>v
 | .range=>Lib.atoiSat s
 |_=>0
theorem atoi_dec (u:Nat) (h:u<1000000000000000000):atoiN (Lib.decDigits u)=(u:Int):=by
 have hd:=digits_dig u u (zae _)
 have hn:=numD_digits u u (zae _)
 cases hl:Lib.decDigits u with
 |nil=>exact absurd hl (digits_ne u)
 |cons c r=>
  have hc:=hd c (by rw[hl];exact zy)
  unfold digB at hc
  rw[zj,zw,zw]at hc
  rw[hl]at hd hn
  have hp:=jXL (c::r) 0 hd (by rw[hn];exact h)
  rw[hn]at hp
  unfold atoiN
  rw[Lib.atoiAll_plain c r (by omega) (by omega)]
  unfold Lib.parseMag
  rw[zu (by simp),hp]
  unfold Lib.signless
  dsimp only
  rw[zu (by omega:¬9223372036854775808<=u)]
end Go.Proofs.YtcinmmojlcchfaaGreatDoor
namespace Go.Proofs.YtcinmmojlcchfaaGreatDoor
open Go.RowKit Go.Sort
theorem perm_map_inv {α β:Type} (f:α->β) {l' m:List β} (h:l'.Perm m):∀l:List α,l.map f=m->∃k:List α,k.Perm l/\k.map f=l':=by
 induction h with
 |nil=>intro l e;exact⟨[],by rw[List.map_eq_nil_iff.1 e],rfl⟩
 |cons x h ih=>
  intro l e
  match l,e with
  |y::l,e=>
   rw[zv,List.cons.injEq]at e
   obtain⟨k,h1,h2⟩:=ih l e.2
   exact⟨y::k,h1.cons y,by rw[zv,e.1,h2]⟩
 |swap x y l0=>
  intro l e
  match l,e with
  |p::q::l,e=>
   rw[zv,zv,List.cons.injEq,List.cons.injEq]at e
   exact⟨q::p::l,List.Perm.swap p q l,by rw[zv,zv,e.1,e.2.1,e.2.2]⟩
 |trans h1 h2 ih1 ih2=>
  intro l e
  obtain⟨k,g1,g2⟩:=ih2 l e
  obtain⟨k',g3,g4⟩:=ih1 k g2
  exact⟨k',g3.trans g1,g4⟩
abbrev EK :Type:=List UInt8×List UInt8
structure RawE where
 k:EK
 u:Value
 one:u.oneCell'=true
instance :Inhabited RawE:=⟨⟨([],[]),.int .i64 0,rfl⟩⟩
def encE (x:RawE):List Value:=[.string (bytes x.k.1),.string (bytes x.k.2),x.u]
abbrev TE (r:Tp):Tp:=.pair .str (.pair .str (.sl r))
def keyE2 {r:Tp} (x:(TE r).D):EK:=(x.1,x.2.1)
def InE (r:Tp) (cf:EK->EK->Int) (xs ys:List (TE r).D):Prop:=ys.Perm xs/\ys.Pairwise fun a b=>cf (keyE2 a) (keyE2 b)<0
open Classical in
noncomputable def sortE (r:Tp) (cf:EK->EK->Int) (xs:List (TE r).D):Option (List (TE r).D):=if h:∃ys,InE r cf xs ys then some h.choose else none
theorem sortE_in {r:Tp} {cf:EK->EK->Int} {xs ys:List (TE r).D} (h:sortE r cf xs=some ys):InE r cf xs ys:=by
 unfold sortE at h
 split at h
 .rename_i hh
  cases h
  exact hh.choose_spec
 .cases h
theorem pair_unique {α:Type} (lt:α->α->Prop) (hi:∀a,¬lt a a) (ht:∀a b,lt a b->¬lt b a):∀(l m:List α),l.Pairwise lt->m.Pairwise lt->l.Perm m->l=m
 | [],m,_,_,h=>by rw[List.nil_perm.1 h]
 |a::l,[],_,_,h=>by have:=h.length_eq;cases this
 |a::l,b::m,h1,h2,h=>by
  rw[zas]at h1 h2
  have hab:a=b:=by
   rcases zp.1 (h.mem_iff.1 zy)with e|e
   .exact e
   .rcases zp.1 (h.mem_iff.2 (zy (a:=b) (l:=m)))with e'|e'
    .exact e'.symm
    .exact absurd (h2.1 a e) (ht _ _ (h1.1 b e'))
  subst hab
  rw[pair_unique lt hi ht l m h1.2 h2.2 (List.Perm.cons_inv h)]
theorem sortE_some {r:Tp} {cf:EK->EK->Int} (hO:SWO (ltOf cf)) {xs ys:List (TE r).D} (h:InE r cf xs ys):sortE r cf xs=some ys:=by
 have hh:∃ys,InE r cf xs ys:=⟨ys,h⟩
 unfold sortE
 rw[dif_pos hh]
 refine congrArg some (pair_unique (fun a b=>cf (keyE2 a) (keyE2 b)<0) (fun a h=>?_) (fun a b h k=>?_) _ _ hh.choose_spec.2 h.2 (hh.choose_spec.1.trans h.1.symm))
 .have:=hO.irrefl (keyE2 a);unfold ltOf at this;rw[zb h]at this;cases this
 .have h1:ltOf cf (keyE2 a) (keyE2 b)=true:=zb h
  have h2:ltOf cf (keyE2 b) (keyE2 a)=true:=zb k
  have:=hO.trans _ _ _ h1 h2
  rw[hO.irrefl]at this;cases this
theorem sortWorldK_heap (w:World) (b n:Nat) (d:Array RawE) (os:Array Obj) {k:Nat} (hk:k<w.heap.size):(sortWorldK encE 3 w b 0 n d os).heap[k]? =if b=k then(w.heap[k]?).map (onCells (putCells id 0 (flatK encE 3 d)))else w.heap[k]? :=by
 unfold sortWorldK
 rw[heap_grow_old _ _ (by rw[size_putRowK];exact hk)]
 show(w.heap.modify b _)[k]? =_
 rw[Array.getElem?_modify]
theorem sortWorldK_upd (w:World) (b n:Nat) (d:Array RawE) (os:Array Obj) {X:Nat->Prop} (hX:X b):Upd X w (sortWorldK encE 3 w b 0 n d os):=by
 refine⟨rfl,rfl,rfl,?_,fun k hk hn=>?_⟩
 .show w.heap.size<=(grow (putRowK encE 3 (Sort.ahead w n) b 0 d) os).heap.size
  rw[size_grow,size_putRowK]
  show w.heap.size<=w.heap.size+_
  omega
 .rw [sortWorldK_heap w b n d os hk,zu (fun e=>hn (by rw[<-e];exact hX))]
theorem flat_at (d:Array RawE) {i j:Nat} (hi:i<d.size) (hj:j<3):(flatK encE 3 d)[i*3+j]! =(encE d[i]!)[j]! :=by
 rw[get_flatK _ _ _ _ (by omega),show(i*3+j)/3=i by omega,show(i*3+j)%3=j by omega]
theorem putCells_flat (d:Array RawE) (c:Array Value) {i j:Nat} (hi:i<d.size) (hj:j<3) (hc:i*3+j<c.size):(putCells id 0 (flatK encE 3 d) c)[i*3+j]? =some (encE d[i]!)[j]! :=by
 unfold putCells
 rw[Array.getElem?_mapIdx,zbt hc,zbn,zf ⟨zaf _,by rw[size_flatK];omega⟩]
 rw[Nat.sub_zero]
 exact congrArg some (flat_at d hi hj)
theorem mem_sorted {R:Root} {n:Nat} {tk0 tk:Tok} {β:Nat->Nat} {τ:Nat->Value} {F:Nat->Nat->Prop} {S:Stab} {w w':World} (hM:Mem R (lookB []) (lookT [(n,some (.live tk0))]) β τ F S w)
  (hu:Upd (F n) w w') (hc:∀b o,S b o->w'.cell? ⟨b,o,none⟩=w.cell? ⟨b,o,none⟩) (hT:TokOk R.fr w' S tk (τ n) (F n)) (htr:tk.tr=some []):
  Mem R (lookB []) (lookT [(n,some (.live tk))]) β τ F S w':=by
 have ht:=hM.toks n tk0 (by unfold lookT;rw[zf rfl])
 have one:∀t t',lookT [(n,some (.live tk))] t=some (.live t')->t=n/\t'=tk:=fun t t' h=>by
  unfold lookT at h
  split at h
  .rename_i e
   exact⟨e,by cases h;rfl⟩
  .cases h
 refine⟨hM.upd.on hu fun b hb hl=>?_,hM.old,hM.new,fun b o h=>(hc b o (hM.old b o h)).trans (hM.keep b o h),fun b o h=>zbi (hM.lt b o h) hu.size,(fun k b h=>by cases h),(fun k k' b b' h=>by cases h),fun t t' h=>?_,fun t t' tk1 tk2 b h1 h2 _ _=>?_,(fun t t' k b _ h=>by cases h),(fun k b _ h=>absurd rfl h),fun t v' t' h1 h2=>?_,fun n t' hs i o d h1 h2 hin=>?_⟩
 .rcases (ht.1 b hb).1 with h|h
  .omega
  .exact h
 .obtain ⟨rfl,rfl⟩:=one t t' h
  exact hT
 .rw [(one t tk1 h1).1,(one t' tk2 h2).1]
 .obtain ⟨rfl,_⟩:=one t t' h2
  exact hM.tfix t v' tk0 h1 (by unfold lookT;rw[zf rfl])
 .rw [(one n t' h1).2,htr]at h2
  cases h2
  cases hin
theorem deep_str {w:World} {F:Nat->Prop} {u:Value} {s:List UInt8} (h:Deep w F u (.pv .str s)):u= .string (bytes s):=by
 generalize hc:AV.pv .str s=c at h
 cases h with
 |lit _ _ t x p he hl hv=>
  cases hc
  have:p= .str (bytes s):=by
   have he:[PV.str (bytes s)]=[p]:=he
   simpa using he.symm
  rw[hv,this]
  rfl
 |nil _ r=>cases hc
 |sl _ cap r xs u b q vs T hb hg hz hc' hx hu hq hd hr=>cases hc
theorem sortTree_fnC {P:Program} {f g:FuncId} (e:TypeId) (r:Tp) (cf:EK->EK->Int) (hO:SWO (ltOf cf)) (xs ys:List (TE r).D) (hin:InE r cf xs ys) (hxl:xs.length<=1000000000)
  (hc:∀(b cap:Nat) (d:Array RawE) (w:World),HoldsK encE 3 w b 0 d->b<w.heap.size->d.size<4611686018427387904->
   Calls P f #[.slice (some ⟨b,0,none⟩) d.size cap,.func (.func g) #[] #[]] w fun e w'=>e= .returned (.tuple #[])/\∃d' n os,PermIn 0 d.size d d'/\SortedIn (ltOf fun x y:RawE=>cf x.k y.k) 0 d.size d'/\w'=sortWorldK encE 3 w b 0 n d' os)
  (hc0:∀w,Calls P f #[.slice none 0 0,.func (.func g) #[] #[]] w fun e w'=>e= .returned (.tuple #[])/\Below w.heap.size w w'):
  FnC P f ⟨[.mtk 800000,.clo g []],[],[(800000,some (.live ⟨TE r,xs,e,true,true,some []⟩))]⟩ ⟨[.tup [],.mtk 800000],[],[(800000,some (.live ⟨TE r,ys,e,true,true,some []⟩))]⟩:=by
 intro w S β τ F vs hgl hM hv
 match vs,hv with
 | [v0,v1],⟨h0,h1,_⟩=>
  have h0:v0.oneCell'=true/\_/\∀tk,lookT [(800000,some (.live ⟨TE r,xs,e,true,true,some []⟩))] 800000=some (.live tk)->v0=τ 800000:=h0
  obtain rfl:v0=τ 800000:=h0.2.2 _ rfl
  obtain⟨us,e1,hus⟩:=h1
  obtain rfl:us=[]:=by
   cases us with
   |nil=>rfl
   |cons _ _=>exact hus.elim
  obtain rfl:v1= .func (.func g) #[] #[]:=e1
  have ht:=hM.toks 800000 ⟨TE r,xs,e,true,true,some []⟩ rfl
  obtain⟨hF,hcase,honce⟩:=ht
  have honce:true=true/\true=true/\(∀b,F 800000 b->∀o,¬S b o)/\Tree w (F 800000) (τ 800000) (TE r) xs []:=honce
  obtain⟨_,_,hFS,htree⟩:=honce
  have fin:∀w':World,Upd (F 800000) w w'->TokOk (lentRoot ⟨[.mtk 800000,.clo g []],[],[(800000,some (.live ⟨TE r,xs,e,true,true,some []⟩))]⟩ β τ F S w).fr w' S ⟨TE r,ys,e,true,true,some []⟩ (τ 800000) (F 800000)->
    ∃v β' τ' F' S',Ending.returned (.tuple #[])= .returned v/\Mem (lentRoot ⟨[.mtk 800000,.clo g []],[],[(800000,some (.live ⟨TE r,xs,e,true,true,some []⟩))]⟩ β τ F S w) (lookB []) (lookT [(800000,some (.live ⟨TE r,ys,e,true,true,some []⟩))]) β' τ' F' S' w'/\
     ∃x,([.tup [],.mtk 800000]:List AV).head? =some x/\V3 (LSt.ctx ⟨[.tup [],.mtk 800000],[],[(800000,some (.live ⟨TE r,ys,e,true,true,some []⟩))]⟩ w' S' β' τ') x v:=fun w' hu hT=>
   ⟨.tuple #[],β,τ,F,S,rfl,mem_sorted hM hu (fun b o h=>World.cell?_of_block (w:=w) (hu.block b (hM.lt b o h) fun hf=>hFS b hf o h)) hT rfl,.tup [],rfl,[],rfl,True.intro⟩
  have hlen:ys.length=xs.length:=hin.1.length_eq
  dsimp only at hcase
  rcases hcase with⟨e1,e2⟩|⟨b,cap,cs,T,e1,hFb,hb,hsz,hcl,hcap,_,hns,hat⟩
  .have e2:xs=[]:=e2
   have e3:ys=[]:=List.length_eq_zero_iff.1 (by rw[hlen,e2];rfl)
   rw[e1]
   refine(hc0 w).mono ?_
   rintro e' w' ⟨rfl,hbl⟩
   have hu:Upd (F 800000) w w':=Upd.of_below hbl
   exact fin w' hu ⟨fun b h=>⟨(hF b h).1,zbi (hF b h).2 hu.size⟩,.inl ⟨e1,e3⟩,rfl,rfl,hFS,.inl e1⟩
  .have hw3:(TE r).w=3:=rfl
   rw[hw3]at hsz
   have hcl:xs.length<=cap:=hcl
   obtain⟨q,hq,hd,hcell⟩:∃q:Nat->Nat->Nat->Prop,(∀i j k,q i j k->F 800000 k/\k≠b)/\(∀i j i' j' k,q i j k->q i' j' k->i=i'/\j=j')/\
     ∀(i j:Nat) (x:(TE r).D) (c:AV),xs[i]? =some x->(cellsOf (TE r) x)[j]? =some c->∃u,w.cell? ⟨b,i*3+j,none⟩=some u/\u.oneCell'=true/\Deep w (q i j) u c:=by
    rcases htree with h|⟨b',cap',q,h1,h2,h3,h4⟩
    .rw [e1]at h;cases h
    .rw [e1]at h1
     cases h1
     exact⟨q,h2,h3,fun i j x c hx hj=>by
      obtain⟨u,g1,g2,g3⟩:=h4 i j x c hx hj
      exact⟨u,g1,g2,g3 (Inn.nil i j)⟩⟩
   have hbl:b<w.heap.size:=lt_of_at hb
   obtain⟨raw,hraw⟩:∃raw:Nat->RawE,∀i (x:(TE r).D),xs[i]? =some x->(raw i).k=keyE2 x/\w.cell? ⟨b,i*3+2,none⟩=some (raw i).u:=by
    have h:∀i,∃z:RawE,∀x:(TE r).D,xs[i]? =some x->z.k=keyE2 x/\w.cell? ⟨b,i*3+2,none⟩=some z.u:=fun i=>by
     cases hx:xs[i]? with
     |none=>exact⟨default,fun x h=>by cases h⟩
     |some x=>
      obtain⟨u,g1,g2,_⟩:=hcell i 2 x (.pv (.sl r) x.2.2) hx rfl
      exact⟨⟨keyE2 x,u,g2⟩,fun y h=>by cases h;exact⟨rfl,g1⟩⟩
    exact⟨fun i=>(h i).choose,fun i=>(h i).choose_spec⟩
   have hcells:∀i (x:(TE r).D),xs[i]? =some x->∀j,j<3->w.cell? ⟨b,i*3+j,none⟩=some (encE (raw i))[j]! :=fun i x hx j hj=>by
    obtain⟨g1,g2⟩:=hraw i x hx
    match j,hj with
    |0,_=>
     obtain⟨u,k1,_,k3⟩:=hcell i 0 x (.pv .str x.1) hx rfl
     rw[k1,deep_str k3]
     show some (Value.string (bytes x.1))=some (.string (bytes (raw i).k.1))
     rw[g1];rfl
    |1,_=>
     obtain⟨u,k1,_,k3⟩:=hcell i 1 x (.pv .str x.2.1) hx rfl
     rw[k1,deep_str k3]
     show some (Value.string (bytes x.2.1))=some (.string (bytes (raw i).k.2))
     rw[g1];rfl
    |2,_=>exact g2
   have hget:∀i,i<xs.length->(((List.range xs.length).map raw).toArray)[i]! =raw i:=fun i hi=>by
    rw[getElem!_pos _ i (by simpa using hi)]
    simp
   have hdz:(((List.range xs.length).map raw).toArray).size=xs.length:=by simp
   have hH:HoldsK encE 3 w b 0 ((List.range xs.length).map raw).toArray:=fun j hj=>by
    rw[size_flatK,hdz]at hj
    have hi:j/3<xs.length:=by omega
    refine⟨?_,?_⟩
    .have:=hcells (j/3) xs[j/3] (zc hi) (j%3) (by omega)
     rw[zaY,get_flatK _ _ _ _ (by rw[hdz];exact hj),hget _ hi]
     rw[show j/3*3+j%3=j by omega]at this
     exact this
    .unfold World.frozen?
     rw[hb]
     simp
   have hcall:=hc b cap ((List.range xs.length).map raw).toArray w hH hbl (by rw[hdz];omega)
   rw[hdz]at hcall
   rw[e1]
   refine hcall.mono ?_
   rintro e' w' ⟨rfl,d',n,os,hperm,hsort,rfl⟩
   obtain⟨p1,_,p3⟩:=hperm
   rw[hdz]at p1
   have p3:d'.toList.Perm ((List.range xs.length).map raw):=by
    have ea:d'.extract 0 xs.length=d':=by rw[<-p1];exact Array.extract_size
    have eb:(((List.range xs.length).map raw).toArray).extract 0 xs.length=((List.range xs.length).map raw).toArray:=by
     have:=Array.extract_size (xs:=((List.range xs.length).map raw).toArray)
     rwa[hdz]at this
    rw[ea,eb]at p3
    exact p3
   obtain⟨π,hπ,hπd⟩:=perm_map_inv raw p3 (List.range xs.length) rfl
   have hπl:π.length=xs.length:=by rw[hπ.length_eq,List.length_range]
   have hπlt:∀(i:Nat) (p:Nat),π[i]? =some p->p<xs.length:=fun i p h=>List.mem_range.1 (hπ.mem_iff.1 (zak h))
   have hdget:∀(i p:Nat),π[i]? =some p->d'[i]! =raw p:=fun i p h=>by
    have hi:i<d'.size:=by rw[p1,<-hπl];exact(zh.1 h).1
    rw[getElem!_pos _ i hi]
    have:d'.toList[i]? =some (raw p):=by rw[<-hπd,zaF,h];rfl
    rw[zaN,zbt hi]at this
    exact Option.some.inj this
   have hys:π.map (fun p=>xs[p]?.getD ([],[],[]))=ys:=by
    have hP:(π.map fun p=>xs[p]?.getD ([],[],[])).Perm xs:=by
     have:=hπ.map fun p=>xs[p]?.getD ([],[],[])
     rwa[show(List.range xs.length).map (fun p=>xs[p]?.getD ([],[],[]))=xs from by
      apply zbc
      intro i
      rw[zaF]
      by_cases hi:i<xs.length
      .rw [List.getElem?_range hi];simp[hi]
      .rw [zaM (by simpa using hi),zaM (by omega)];rfl]at this
    have hR:(π.map fun p=>xs[p]?.getD ([],[],[])).Pairwise fun a b:(TE r).D=>cf (keyE2 a) (keyE2 b)<0\/cf (keyE2 b) (keyE2 a)<0:=
     ((hP.trans hin.1.symm).pairwise_iff (R:=fun a b:(TE r).D=>cf (keyE2 a) (keyE2 b)<0\/cf (keyE2 b) (keyE2 a)<0) fun h=>h.symm).2 (hin.2.imp fun h=>.inl h)
    have hN:(π.map fun p=>xs[p]?.getD ([],[],[])).Pairwise fun a b:(TE r).D=>¬cf (keyE2 b) (keyE2 a)<0:=by
     rw[List.pairwise_map,za2]
     intro i j hi hj hij
     have gi:=zc hi
     have gj:=zc hj
     have:=hsort i j (zaf _) hij (by rw[<-hπl];exact hj)
     rw[hdget i _ gi,hdget j _ gj]at this
     have li:=hπlt i _ gi
     have lj:=hπlt j _ gj
     have ki:=(hraw π[i] xs[π[i]] (zc li)).1
     have kj:=(hraw π[j] xs[π[j]] (zc lj)).1
     replace this:decide (cf (raw π[j]).k (raw π[i]).k<0)=false:=this
     rw[ki,kj]at this
     rw[zc (hπlt i _ gi),zc (hπlt j _ gj)]
     exact of_decide_eq_false this
    have hI:InE r cf xs (π.map fun p=>xs[p]?.getD ([],[],[])):=⟨hP,(hR.and hN).imp fun h=>h.1.resolve_right h.2⟩
    exact Option.some.inj ((sortE_some hO hI).symm.trans (sortE_some hO hin))
   have hyx:∀(i:Nat) (y:(TE r).D),ys[i]? =some y->∃p,π[i]? =some p/\xs[p]? =some y:=fun i y h=>by
    rw[<-hys,zaF]at h
    cases hp:π[i]? with
    |none=>rw[hp]at h;cases h
    |some p=>
     rw[hp]at h
     refine⟨p,rfl,?_⟩
     have hlt:=hπlt i p hp
     replace h:some (xs[p]?.getD ([],[],[]))=some y:=h
     rw[zc hlt]at h⊢
     exact h
   have hu:=sortWorldK_upd w b n d' os hFb
   have hnew:(sortWorldK encE 3 w b 0 n d' os).heap[b]? =some (.cells (putCells id 0 (flatK encE 3 d') cs) T (0,0)):=by
    rw[sortWorldK_heap w b n d' os hbl,zf rfl,hb]
    rfl
   have hat2:∀(i p j:Nat),π[i]? =some p->j<3->(putCells id 0 (flatK encE 3 d') cs)[i*3+j]? =some (encE (raw p))[j]! :=fun i p j hp hj=>by
    have hi:i<xs.length:=by rw[<-hπl];exact(zh.1 hp).1
    rw[putCells_flat d' cs (by omega) hj (by omega),hdget i p hp]
   refine fin _ hu ⟨fun b' h=>⟨(hF b' h).1,zbi (hF b' h).2 hu.size⟩,.inr ⟨b,cap,_,T,by rw[e1];show Value.slice _ _ _=Value.slice _ ys.length _;rw[hlen],hFb,hnew,?_,by dsimp only;omega,hcap,(fun h=>by cases h),hns,fun i j x p hi hj=>?_⟩,rfl,rfl,hFS,.inr ⟨b,cap,fun i j k=>∃p,π[i]? =some p/\q p j k,by rw[e1,hlen],?_,?_,fun i j x c hi hj=>?_⟩⟩
   .rw [hw3]
    unfold putCells
    rw[Array.size_mapIdx,hsz]
   .obtain ⟨p',hp,_⟩:=hyx i x hi
    have hj3:j<3:=by
     have:=(zh.1 hj).1
     rw[enc_len]at this
     exact this
    exact⟨_,by rw[hw3];exact hat2 i p' j hp hj3,(fun h=>by cases h),(fun h=>by cases h)⟩
   .rintro i j k ⟨p,_,hk⟩
    exact hq p j k hk
   .rintro i j i' j' k ⟨p,hp,hk⟩ ⟨p',hp',hk'⟩
    obtain⟨rfl,rfl⟩:=hd p j p' j' k hk hk'
    refine⟨?_,rfl⟩
    have hnd:π.Nodup:=hπ.nodup_iff.2 List.nodup_range
    exact(List.getElem?_inj (zh.1 hp).1 hnd).1 (hp.trans hp'.symm)
   .obtain ⟨p,hp,hx⟩:=hyx i x hi
    have hj3:j<3:=by
     have:=(zh.1 hj).1
     rw[cells_len]at this
     exact this
    obtain⟨u,g1,g2,g3⟩:=hcell p j x c hx hj
    have hu2:=hcells p x hx j hj3
    rw[g1]at hu2
    refine⟨u,?_,g2,fun _=>(g3.mono fun k hk=>⟨p,hp,hk⟩).same fun k hk=>?_⟩
    .unfold World.cell?
     rw[hnew,hw3]
     show(putCells id 0 (flatK encE 3 d') cs)[i*3+j]? =some u
     rw[hat2 i p j hp hj3,Option.some.inj hu2]
    .obtain ⟨p',hp',hk⟩:=hk
     have hkb:=hq p' j k hk
     rw[sortWorldK_heap w b n d' os (hF k hkb.1).2,zu (fun e=>hkb.2 e.symm)]
theorem modelOk_sortTree {P:Program} {f g:FuncId} (he:Enter P f) (e:TypeId) (r:Tp) (cf:EK->EK->Int) (hO:SWO (ltOf cf))
  (hc:∀(b cap:Nat) (d:Array RawE) (w:World),HoldsK encE 3 w b 0 d->b<w.heap.size->d.size<4611686018427387904->
   Calls P f #[.slice (some ⟨b,0,none⟩) d.size cap,.func (.func g) #[] #[]] w fun e w'=>e= .returned (.tuple #[])/\∃d' n os,PermIn 0 d.size d d'/\SortedIn (ltOf fun x y:RawE=>cf x.k y.k) 0 d.size d'/\w'=sortWorldK encE 3 w b 0 n d' os)
  (hc0:∀w,Calls P f #[.slice none 0 0,.func (.func g) #[] #[]] w fun e w'=>e= .returned (.tuple #[])/\Below w.heap.size w w')
  (run:List (TE r).D->Option (List (TE r).D)) (hrun:∀xs ys,run xs=some ys->xs.length<=1000000000/\sortE r cf xs=some ys):
  ModelOk P f ⟨⟨[.tre 800000 (TE r) e,.clo g []],[]⟩,⟨[.tup [],.tre 800000 (TE r) e],[]⟩,fun a=>run a.1⟩:=by
 refine⟨he,fun a ys hr=>?_⟩
 obtain⟨xs,u⟩:=a
 obtain⟨h1,h2⟩:=hrun xs ys hr
 exact sortTree_fnC e r cf hO xs ys (sortE_in h2) h1 hc hc0
end Go.Proofs.YtcinmmojlcchfaaGreatDoor
