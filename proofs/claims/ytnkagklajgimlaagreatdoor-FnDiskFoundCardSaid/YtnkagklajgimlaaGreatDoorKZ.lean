
import Derived.Test.YtnkagklajgimlaaGreatDoorKY
import Derived.Below
import Derived.Lib.LaidTab
import Derived.WalkSmall
import Derived.Lib.Split
import Derived.Lib.SplitLaws
import Derived.Lib.AtoiAllCases
import Derived.Lib.ItoaNum
set_option linter.unusedSimpArgs false
set_option linter.unusedVariables false
namespace Go.Proofs.YtnkagklajgimlaaGreatDoor
open Go.RowKit
theorem adP {P:Program} {f:FuncId} (run:Int->Option (List UInt8)) (he:qY P f) {g:Nat} {k:IntKind} {zs:List Int} {name:String} (v:P.globalNamed name=some g) (z:kL nK g=some (.gh k zs))
  (A:∀n r,run n=some r->∀w:World,Lib.TabIs P w name k zs->Calls P f #[.int .i64 n] w fun e w'=>e= .returned (.string (bytes r))/\Below w.heap.size w w'):
  hW P f ⟨⟨[.ag (.int .i64)],[]⟩,⟨[.ag .str],[]⟩,run⟩:=by
 refine⟨he,fun a r d=>?_⟩
 have d:run a=some r:=d
 intro w S β τ F t i u B
 have j:bs (bo (aX.ctx ⟨[.ag (.int .i64) a],[],[]⟩ w S β τ)) [.ag (.int .i64) a] t:=B
 match t,j with
 | [v0],⟨⟨c0,C,G⟩,_⟩=>
  obtain rfl:c0= .int .i64 a:=by
   have l:enc (.int .i64) a=[b3.int .i64 a]:=by simp only[enc]
   have H:=l.symm.trans C
   simpa using H.symm
  have p:bq w S v0 (.int .i64 a):=G
  cases p
  have I:Lib.TabIs P w name k zs:=by
   obtain⟨⟨x,y,J⟩,_⟩:=i g _ z
   unfold Lib.TabIs World.var?
   rw[v,af,J]
  refine(A a r d w I).mono fun e w' ⟨s,c⟩=>?_
  exact⟨_,β,τ,F,S,s,⟨⟨c.os,c.tape,c.output,c.size,fun k K _=>c.block k K⟩,fun _ _ h=>h,fun _ _ h=>.inl h,fun b o h=>c.cell (u.lt b o h),fun b o h=>kZ (u.lt b o h) c.size,(fun _ _ h=>by cases h),(fun _ _ _ _ h=>by cases h),(fun _ _ h=>by cases h),(fun _ _ _ _ _ h=>by cases h),(fun _ _ _ _ h=>by cases h),(fun _ _ _ h=>absurd rfl h),(fun _ _ _ _ h=>by cases h),(fun _ _ _ _ _ _ h=>by cases h)⟩,_,rfl,⟨_,rfl,.str _⟩⟩
theorem N3 {s:List UInt8} {n:Nat} (h:s.length<n):(bytes s).size<n:=by
 show s.toArray.size<n
 simpa using h
theorem w2 {w:World} {S:bW} {v:Value} {s:List UInt8} {p:b3} (e:enc .str s=[p]) (h:bq w S v p):v= .string (bytes s):=by
 obtain rfl:b3.str (bytes s)=p:=by
  have a:enc .str s=[b3.str (bytes s)]:=by simp only[enc]
  have:=a.symm.trans e
  simpa using this
 cases h
 rfl
theorem Gl {R:ed} {w w':World} {S S':bW} {β:Nat->Nat} {τ:Nat->Value} {F:Nat->Nat->Prop} (c:Mem R (aY []) (aF []) β τ F S w) (a:Below w.heap.size w w') (e:∀b o,S b o->S' b o) (d:∀b o,S' b o->S b o\/(w.heap.size<=b/\b<w'.heap.size)):Mem R (aY []) (aF []) β τ F S' w':=
 c.grow a e (fun b o h=>(d b o h).imp id (·.1)) (fun b o h=>(d b o h).elim (fun h=>kZ (c.lt b o h) a.size) (·.2))
theorem AE {W:World} {X:Nat->Prop} {S:bW} {g:Nat} {p:Value->Prop} (a:k2 W X S) (b:kL nK g=some (.cell p)):∃v,W.cell? ⟨g,0,none⟩=some v/\p v:=(a g _ b).1
theorem aeA {P:Program} {f:FuncId} (run:List UInt8->Option Int) (he:qY P f) {g1 g2:Nat} (k:kL nK g1=some (.cell rM)) (l:kL nK g2=some (.cell rM))
  (o:∀s r,run s=some r->∀w:World,(∃v,w.cell? ⟨g1,0,none⟩=some v/\rM v)->(∃v,w.cell? ⟨g2,0,none⟩=some v/\rM v)->
   Calls P f #[.string (bytes s)] w fun e w'=>(∃x,e= .returned (.tuple #[.int .i64 r,x]))/\Below w.heap.size w w'):
  hW P f ⟨⟨[.ag .str],[]⟩,⟨[.bM [.ag (.int .i64),.dead]],[]⟩,run⟩:=by
 refine⟨he,fun a r c=>?_⟩
 have c:run a=some r:=c
 intro w S β τ F j b p t
 have d:bs (bo (aX.ctx ⟨[.ag .str a],[],[]⟩ w S β τ)) [.ag .str a] j:=t
 match j,d with
 | [v0],⟨⟨c0,u,g⟩,_⟩=>
  have g:bq w S v0 c0:=g
  obtain rfl:=w2 u g
  refine(o a r c w (AE b k) (AE b l)).mono ?_
  rintro e w' ⟨⟨x,rfl⟩,i⟩
  exact⟨_,β,τ,F,S,rfl,Gl p i (fun _ _ h=>h) (fun _ _ h=>.inl h),_,rfl,⟨[.int .i64 r,x],rfl,⟨_,rfl,.int _ _⟩,True.intro,True.intro⟩⟩
theorem aeJ {P:Program} {f:FuncId} (run:List UInt8×List UInt8->Option (List UInt8×List UInt8×Bool)) (he:qY P f) {g:Nat} (o:kL nK g=some (.cell qj))
  (p:∀s sep r,run (s,sep)=some r->∀w:World,(∃v,w.cell? ⟨g,0,none⟩=some v/\qj v)->
   Calls P f #[.string (bytes s),.string (bytes sep)] w fun e w'=>e= .returned (.tuple #[.string (bytes r.1),.string (bytes r.2.1),.bool r.2.2])/\Below w.heap.size w w'):
  hW P f ⟨⟨[.ag .str,.ag .str],[]⟩,⟨[.bM [.ag .str,.ag .str,.ag .bool]],[]⟩,run⟩:=by
 refine⟨he,fun a r b=>?_⟩
 obtain⟨s,sep⟩:=a
 obtain⟨x,y,z⟩:=r
 have b:run (s,sep)=some (x,y,z):=b
 intro w S β τ F l c t u
 have d:bs (bo (aX.ctx ⟨[.ag .str s,.ag .str sep],[],[]⟩ w S β τ)) [.ag .str s,.ag .str sep] l:=u
 match l,d with
 | [v0,v1],⟨⟨c0,A,i⟩,⟨B,C,j⟩,_⟩=>
  have i:bq w S v0 c0:=i
  have j:bq w S v1 B:=j
  obtain rfl:=w2 A i
  obtain rfl:=w2 C j
  refine(p s sep _ b w (AE c o)).mono ?_
  rintro e w' ⟨rfl,k⟩
  exact⟨_,β,τ,F,S,rfl,Gl t k (fun _ _ h=>h) (fun _ _ h=>.inl h),_,rfl,⟨[.string (bytes x),.string (bytes y),.bool z],rfl,⟨_,rfl,.str _⟩,⟨_,rfl,.str _⟩,⟨_,rfl,.bool _⟩,True.intro⟩⟩
theorem aep {P:Program} {f:FuncId} {g:Nat} (B:kL nK g=some (.cell qj)) (T:TypeId) (s sep:List UInt8) (r:List (List UInt8))
  (C:∀w:World,(∃v,w.cell? ⟨g,0,none⟩=some v/\qj v)->
   Calls P f #[.string (bytes s),.string (bytes sep)] w fun e w'=>e= .returned (.slice (some ⟨w.heap.size,0,none⟩) r.length r.length)/\w'=w.alloc (.cells (r.map fun x=>Value.string (bytes x)).toArray T)):
  DH P f ⟨[.ag .str s,.ag .str sep],[],[]⟩ ⟨[.ag (.av .str) r],[],[]⟩:=by
 intro w S β τ F G u H I
 match G,I with
 | [v0,v1],⟨⟨c0,J,y⟩,⟨K,L,z⟩,_⟩=>
  have y:bq w S v0 c0:=y
  have z:bq w S v1 K:=z
  obtain rfl:=w2 J y
  obtain rfl:=w2 L z
  refine(C w (AE u B)).mono ?_
  rintro e w' ⟨rfl,rfl⟩
  have A:Below w.heap.size w (w.alloc (.cells (List.map (fun x=>Value.string (bytes x)) r).toArray T)):=(Below.refl _ _).alloc (bC _) _
  have d:(w.alloc (.cells (List.map (fun x=>Value.string (bytes x)) r).toArray T)).heap[w.heap.size]? =some (.cells (List.map (fun x=>Value.string (bytes x)) r).toArray T (0,0)):=heap_alloc_new w _
  have a:∀(i j:Nat) (row:List b3) (c:b3),(List.map (enc .str) r)[i]? =some row->row[j]? =some c->∃x:List UInt8,r[i]? =some x/\j=0/\row=[.str (bytes x)]/\c= .str (bytes x):=fun i j row c k l=>by
   rw[ie]at k
   obtain⟨x,p,e⟩:=hJ.1 k
   have e:[b3.str (bytes x)]=row:=by rw[<-e];simp only[enc]
   subst e
   have M:j=0:=by have:=(dx.1 l).1;simpa using this
   subst M
   cases l
   exact⟨x,p,rfl,rfl,rfl⟩
  refine⟨_,β,τ,F,(fun b o=>S b o\/(b=w.heap.size/\o<r.length)),rfl,Gl H A (fun _ _ h=>.inl h) (fun b o h=>h.imp id fun h=>⟨by omega,by rw[h.1];exact qv d⟩),_,rfl,⟨.av (List.map (enc .str) r),(by simp only[enc]),?_⟩⟩
  have O:r.length=(List.map (enc .str) r).length:=(dX _).symm
  rw[O]
  refine .av _ _ _ (fun i _=>.string (bytes ((r[i]?).getD []))) w.heap.size 0 1 (bC _) (fun _=>rfl) (fun i row h=>?_) (fun i j row c k l=>?_) (fun i j row c k l=>?_) (fun i j row c k l=>?_)
  .rw [ie]at h
   obtain⟨x,_,e⟩:=hJ.1 h
   rw[<-e]
   simp only[enc,bS]
  .obtain ⟨x,p,rfl,_,_⟩:=a i j row c k l
   have:=(dx.1 p).1
   exact .inr ⟨rfl,by omega⟩
  .obtain ⟨x,p,rfl,_,_⟩:=a i j row c k l
   have t:(w.alloc (.cells (List.map (fun x=>Value.string (bytes x)) r).toArray T)).cell? ⟨w.heap.size,i,none⟩=some (.string (bytes x)):=by
    unfold World.cell?
    dsimp only
    rw[d]
    simp[p]
   rw[p,show(0+i*1+0:Nat)=i from by omega]
   exact t
  .obtain ⟨x,p,rfl,_,rfl⟩:=a i j row c k l
   rw[p]
   exact .str _
theorem aet {P:Program} {f:FuncId} (run:List UInt8×List UInt8->Option (List (List UInt8))) (he:qY P f) {g:Nat} (b:kL nK g=some (.cell qj)) (T:TypeId)
  (c:∀s sep r,run (s,sep)=some r->∀w:World,(∃v,w.cell? ⟨g,0,none⟩=some v/\qj v)->
   Calls P f #[.string (bytes s),.string (bytes sep)] w fun e w'=>e= .returned (.slice (some ⟨w.heap.size,0,none⟩) r.length r.length)/\w'=w.alloc (.cells (r.map fun x=>Value.string (bytes x)).toArray T)):
  hW P f ⟨⟨[.ag .str,.ag .str],[]⟩,⟨[.ag (.av .str)],[]⟩,run⟩:=
 ⟨he,fun a r d=>aep b T a.1 a.2 r (c a.1 a.2 r d)⟩
theorem aby {P:Program} {f:FuncId} (run:List (List UInt8)×List UInt8->Option (List UInt8)) (he:qY P f)
  (Q:∀xs sep r,run (xs,sep)=some r->∀(w:World) (a:Option Addr) (cap b o:Nat),xs.length<=cap->(xs≠ []->a=some ⟨b,o,none⟩)->(∀(j:Nat) x,xs[j]? =some x->w.cell? ⟨b,o+j,none⟩=some (.string (bytes x)))->(xs≠ []->b<w.heap.size)->
   Calls P f #[.slice a xs.length cap,.string (bytes sep)] w fun e w'=>e= .returned (.string (bytes r))/\Below w.heap.size w w'):
  hW P f ⟨⟨[.ag (.av .str),.ag .str],[]⟩,⟨[.ag .str],[]⟩,run⟩:=by
 refine⟨he,fun a r T=>?_⟩
 obtain⟨xs,sep⟩:=a
 intro w S β τ F L cr t U
 have y:bs (bo (aX.ctx ⟨[.ag (.av .str) xs,.ag .str sep],[],[]⟩ w S β τ)) [.ag (.av .str) xs,.ag .str sep] L:=U
 match L,y with
 | [v0,v1],⟨⟨c0,V,W⟩,⟨X,Y,Z⟩,_⟩=>
  obtain rfl:c0= .av (xs.map (enc .str)):=by
   have z:enc (.av .str) xs=[b3.av (xs.map (enc .str))]:=by simp only[enc]
   have A:=z.symm.trans V
   simpa using A.symm
  obtain rfl:X= .str (bytes sep):=by
   have B:enc .str sep=[b3.str (bytes sep)]:=by simp only[enc]
   have A:=B.symm.trans Y
   simpa using A.symm
  have i:bq w S v0 (.av (xs.map (enc .str))):=W
  have C:bq w S v1 (.str (bytes sep)):=Z
  generalize d:xs.map (enc .str)=rows at i
  cases C
  cases i with
  |av a cap _ u b o m g dU hm aS hu G=>
   have M:rows.length=xs.length:=by rw[<-d,dX]
   have p:∀(j:Nat) (x:List UInt8),xs[j]? =some x->rows[j]? =some [.str (bytes x)]:=fun j x s=>by
    rw[<-d,ie,s,ou,enc]
   rw[M]at g⊢
   have H:xs≠ []->rows≠ []:=fun h e=>h (vj.1 (by rw[<-M,e];rfl))
   refine(Q xs sep r T w a cap b o g (fun h=>dU (H h)) (fun j x s=>?_) (fun h=>?_)).mono fun e w' ⟨I,c⟩=>?_
   .have J:=p j x s
    have K:m=1:=(hm j _ J).symm
    subst K
    have O:=hu j 0 _ _ J rfl
    have bD:=G j 0 _ _ J rfl
    rw[Nat.mul_one,lH]at O
    generalize u j 0=v at*
    cases bD
    exact O
   .obtain ⟨x,s⟩:∃x,xs[0]? =some x:=by
     cases xs with
     |nil=>exact absurd rfl h
     |cons x l=>exact⟨x,rfl⟩
    exact t.lt _ _ (aS 0 0 _ _ (p 0 x s) rfl)
   .exact ⟨_,β,τ,F,S,I,⟨⟨c.os,c.tape,c.output,c.size,fun k bx _=>c.block k bx⟩,fun _ _ h=>h,fun _ _ h=>.inl h,fun b o h=>c.cell (t.lt b o h),fun b o h=>kZ (t.lt b o h) c.size,(fun _ _ h=>by cases h),(fun _ _ _ _ h=>by cases h),(fun _ _ h=>by cases h),(fun _ _ _ _ _ h=>by cases h),(fun _ _ _ _ h=>by cases h),(fun _ _ _ h=>absurd rfl h),(fun _ _ _ _ h=>by cases h),(fun _ _ _ _ _ _ h=>by cases h)⟩,_,rfl,⟨_,rfl,.str _⟩⟩
def cutAt (b:UInt8):List UInt8->List (List UInt8)
 | []=>[[]]
 |x::l=>if x=b then []::cutAt b l else match cutAt b l with
  | []=>[[x]]
  |p::ps=>(x::p)::ps
theorem Kx (b:UInt8):∀l,cutAt b l≠ []
 | []=>by simp[cutAt]
 |x::l=>by
  unfold cutAt
  split
  .simp
  .split<;>simp
theorem Gk {b:UInt8}:∀ {l:List UInt8},b∉l->cutAt b l=[l]
 | [],_=>rfl
 |x::l,h=>by
  rw[bm,not_or]at h
  unfold cutAt
  rw[aA (fun e=>h.1 e.symm),Gk h.2]
theorem AH {b:UInt8}:∀ {p r:List UInt8},b∉p->cutAt b (p++b::r)=p::cutAt b r
 | [],r,_=>by
  show cutAt b (b::r)=_
  rw[cutAt,ai rfl]
 |x::p,r,h=>by
  rw[bm,not_or]at h
  show cutAt b (x::(p++b::r))=_
  rw[cutAt,aA (fun e=>h.1 e.symm),AH h.2]
theorem EL (b:UInt8):∀s:List UInt8,b∉s\/ ∃p r,b∉p/\s=p++b::r
 | []=>.inl (by simp)
 |x::s=>by
  by_cases e:b=x
  .subst e
   exact .inr ⟨[],s,by simp,rfl⟩
  .rcases EL b s with h|⟨p,r,h,rfl⟩
   .exact .inl (by rw[bm,not_or];exact⟨e,h⟩)
   .exact .inr ⟨x::p,r,by rw[bm,not_or];exact⟨e,h⟩,rfl⟩
theorem Gn (b x:UInt8) (l:List UInt8):[b].isPrefixOf (x::l)=(b==x):=by simp[List.isPrefixOf]
theorem Gg {b:UInt8}:∀ {s:List UInt8},b∉s->Lib.index s [b]=-1
 | [],_=>rfl
 |x::s,h=>by
  rw[bm,not_or]at h
  have e:(b==x)=false:=by simpa using h.1
  unfold Lib.index
  rw[Gn,e,Gg h.2]
  rfl
theorem Gm {b:UInt8}:∀ {p r:List UInt8},b∉p->Lib.index (p++b::r) [b]=(p.length:Int)
 | [],r,_=>by
  show Lib.index (b::r) [b]=0
  unfold Lib.index
  rw[Gn,beq_self_eq_true,ai rfl]
 |x::p,r,h=>by
  rw[bm,not_or]at h
  have e:(b==x)=false:=by simpa using h.1
  show Lib.index (x::(p++b::r)) [b]=_
  unfold Lib.index
  rw[Gn,e,Gm h.2]
  have:(((p.length:Nat):Int)==-1)=false:=by rw[beq_eq_false_iff_ne];omega
  simp[this]
theorem N8 (b:UInt8):∀(n:Nat) (s:List UInt8),s.length<=n->Lib.splitK [b] 0 (Lib.count s [b]) s=cutAt b s
 |n,s,a=>by
  rcases EL b s with h|⟨p,r,h,rfl⟩
  .rw [Lib.count_miss (Gg h),Gk h]
   rfl
  .have hi:=Gm (r:=r) h
   have d:(p++b::r).length=p.length+1+r.length:=by simp;omega
   rw[Lib.count_hit (by simp) hi,AH h,Nat.add_comm 1]
   unfold Lib.splitK
   have:((p.length:Int)==-1)=false:=by rw[beq_eq_false_iff_ne];omega
   rw[hi,this,aA (by decide)]
   have c:(p++b::r).drop (p.length+ [b].length)=r:=by
    rw[bS,<-pD,List.drop_left]
    rfl
   rw[er,c,lH,List.take_left]
   match n,a with
   |0,a=>omega
   |n+1,a=>rw[N8 b n r (by omega)]
theorem AF (s:List UInt8):(bytes s).data.toList=s:=by simp[bytes]
theorem ad7 (x:ByteArray):bytes x.data.toList=x:=by cases x;simp[bytes]
theorem N5 (b:UInt8) (s:List UInt8):Lib.splitB (bytes [b]) 0 (Lib.countB (bytes s) (bytes [b])) (bytes s)=(cutAt b s).map bytes:=by
 have h:=Lib.splitB_data (bytes [b]) 0 (Lib.countB (bytes s) (bytes [b])) (bytes s)
 have e:Lib.countB (bytes s) (bytes [b])=Lib.count s [b]:=by
  unfold Lib.countB
  rw[AF,AF]
 rw[AF,AF,e,N8 b _ s (bC _)]at h
 rw[e,<-h,ml]
 have:(bytes∘fun x:ByteArray=>x.data.toList)=id:=by funext x;exact ad7 x
 rw[this,List.map_id]
def ek (b:UInt8) (s:List UInt8):List UInt8×List UInt8×Bool:=Lib.cut s [b]
theorem Kw {b:UInt8} {s:List UInt8} (h:b∉s):ek b s=(s,[],false):=by
 unfold ek Lib.cut
 rw[Gg h,aA (by decide)]
theorem rh {b:UInt8} {p r:List UInt8} (h:b∉p):ek b (p++b::r)=(p,r,true):=by
 unfold ek Lib.cut
 rw[Gm h,ai (by omega),er,List.take_left,bS,<-pD,List.drop_left]
 rfl
def hC (ls:List (List UInt8)):List UInt8:=ls.flatMap fun l=>l++ [10]
theorem uw (l:List UInt8) (ls:List (List UInt8)):hC (l::ls)=l++10::hC ls:=by
 unfold hC
 rw[lG,dJ]
 rfl
theorem P2 (a b:List (List UInt8)):hC (a++b)=hC a++hC b:=by unfold hC;rw[List.flatMap_append]
theorem Ky :∀ {ls:List (List UInt8)},(∀l,l∈ls->(10:UInt8)∉l)->cutAt 10 (hC ls)=ls++ [[]]
 | [],_=>rfl
 |l::ls,h=>by
  rw[uw,AH (h l b6),Ky fun x a=>h x (b7 _ a)]
  rfl
theorem lT (u:Nat):Lib.decDigits u=if u<10 then [UInt8.ofNat (48+u)]else Lib.decDigits (u/10)++ [UInt8.ofNat (48+u%10)]:=by
 rw[Lib.decDigits]
 by_cases h:u<10
 .rw [dif_pos h,ai h]
 .rw [dif_neg h,aA h]
def e1 (c:UInt8):Bool:=decide (48<=c.toNat)&&decide (c.toNat<=57)
theorem AG :∀d:Nat,d<10->e1 (UInt8.ofNat (48+d))=true/\(UInt8.ofNat (48+d)).toNat=48+d:=by decide
theorem Ej :∀(n u:Nat),u<=n->∀c,c∈Lib.decDigits u->e1 c=true
 |n,u,b,c,a=>by
  rw[lT]at a
  by_cases h:u<10
  .rw [ai h,c1]at a
   rw[a]
   exact(AG u h).1
  .rw [aA h,cp,c1]at a
   rcases a with a|a
   .match n,b with
    |0,b=>omega
    |n+1,b=>exact Ej n (u/10) (by omega) c a
   .rw [a]
    exact(AG _ (mn _ (by decide))).1
theorem aes :∀u:Nat,Lib.decDigits u≠ []:=fun u=>by
 rw[lT]
 split<;>simp
def eL (acc:Nat) (l:List UInt8):Nat:=l.foldl (fun a c=>a*10+(c.toNat-48)) acc
theorem Qq (acc:Nat) (a b:List UInt8):eL acc (a++b)=eL (eL acc a) b:=by unfold eL;rw[hU]
theorem Gi :∀(n u:Nat),u<=n->eL 0 (Lib.decDigits u)=u
 |n,u,a=>by
  rw[lT]
  by_cases h:u<10
  .rw [ai h]
   show 0*10+((UInt8.ofNat (48+u)).toNat-48)=u
   rw[(AG u h).2]
   omega
  .have hm:u%10<10:=mn _ (by decide)
   rw[aA h,Qq]
   match n,a with
   |0,a=>omega
   |n+1,a=>
    rw[Gi n (u/10) (by omega)]
    show u/10*10+((UInt8.ofNat (48+u%10)).toNat-48)=u
    rw[(AG _ hm).2]
    omega
theorem aee (acc:Nat) (l:List UInt8):acc<=eL acc l:=by
 induction l generalizing acc with
 |nil=>exact bC _
 |cons c l a=>
  refine dK ?_ (a (acc*10+(c.toNat-48)))
  omega
theorem Gj :∀(l:List UInt8) (acc:Nat),(∀c,c∈l->e1 c=true)->eL acc l<1000000000000000000->Lib.parseUint10 acc l= .ok (eL acc l)
 | [],acc,_,_=>rfl
 |c::l,acc,h,b=>by
  have a:=h c b6
  unfold e1 at a
  rw[bk,bz,bz]at a
  have e:eL acc (c::l)=eL (acc*10+(c.toNat-48)) l:=rfl
  have hm:=aee (acc*10+(c.toNat-48)) l
  rw[e]at b⊢
  rw[Lib.parseUint10,ai a,aA (by omega),aA (by omega)]
  exact Gj l _ (fun x d=>h x (b7 _ d)) b
def hM (s:List UInt8):Int:=match Lib.atoiAll s with
 | .ok v=>v
 | .range=>Lib.atoiSat s
 |_=>0
theorem T2 (u:Nat) (h:u<1000000000000000000):hM (Lib.decDigits u)=(u:Int):=by
 have a:=Ej u u (bC _)
 have b:=Gi u u (bC _)
 cases d:Lib.decDigits u with
 |nil=>exact absurd d (aes u)
 |cons c r=>
  have e:=a c (by rw[d];exact b6)
  unfold e1 at e
  rw[bk,bz,bz]at e
  rw[d]at a b
  have f:=Gj (c::r) 0 a (by rw[b];exact h)
  rw[b]at f
  unfold hM
  rw[Lib.atoiAll_plain c r (by omega) (by omega)]
  unfold Lib.parseMag
  rw[aA (by simp),f]
  unfold Lib.signless
  dsimp only
  rw[aA (by omega:¬9223372036854775808<=u)]
end Go.Proofs.YtnkagklajgimlaaGreatDoor
