
import Derived.Test.YtnkagklajgimlaaGreatDoorKY
import Derived.Below
import Derived.Lib.LaidTab
import Derived.WalkSmall
import Derived.Lib.Split
import Derived.Lib.SplitLaws
import Derived.Lib.AtoiAllCases
import Derived.Lib.ItoaNum
set_option linter.unusedSimpArgs false
set_option linter.unusedVariables false
namespace Go.Proofs.YtnkagklajgimlaaGreatDoor
open Go.RowKit
theorem ahh {P:Program} {f:FuncId} (run:Int->Option (List UInt8)) (he:rT P f) {g:Nat} {k:IntKind} {zs:List Int} {name:String} (v:P.globalNamed name=some g) (z:ld ov g=some (.gv k zs))
  (A:∀n r,run n=some r->∀w:World,Lib.TabIs P w name k zs->Calls P f #[.int .i64 n] w fun e w'=>e= .returned (.string (bytes r))/\Below w.heap.size w w'):
  ig P f ⟨⟨[.af (.int .i64)],[]⟩,⟨[.af .str],[]⟩,run⟩:=by
 refine⟨he,fun a r d=>?_⟩
 have d:run a=some r:=d
 intro w S β τ F t i u B
 have j:bx (bp (aY.ctx ⟨[.af (.int .i64) a],[],[]⟩ w S β τ)) [.af (.int .i64) a] t:=B
 match t,j with
 | [v0],⟨⟨c0,C,G⟩,_⟩=>
  obtain rfl:c0= .int .i64 a:=by
   have l:enc (.int .i64) a=[b6.int .i64 a]:=by simp only[enc]
   have H:=l.symm.trans C
   simpa using H.symm
  have p:bs w S v0 (.int .i64 a):=G
  cases p
  have I:Lib.TabIs P w name k zs:=by
   obtain⟨⟨x,y,J⟩,_⟩:=i g _ z
   unfold Lib.TabIs World.var?
   rw[v,ag,J]
  refine(A a r d w I).mono fun e w' ⟨s,c⟩=>?_
  exact⟨_,β,τ,F,S,s,⟨⟨c.os,c.tape,c.output,c.size,fun k K _=>c.block k K⟩,fun _ _ h=>h,fun _ _ h=>.inl h,fun b o h=>c.cell (u.lt b o h),fun b o h=>mc (u.lt b o h) c.size,(fun _ _ h=>by cases h),(fun _ _ _ _ h=>by cases h),(fun _ _ h=>by cases h),(fun _ _ _ _ _ h=>by cases h),(fun _ _ _ _ h=>by cases h),(fun _ _ _ h=>absurd rfl h),(fun _ _ _ _ h=>by cases h),(fun _ _ _ _ _ _ h=>by cases h)⟩,_,rfl,⟨_,rfl,.str _⟩⟩
theorem P6 {s:List UInt8} {n:Nat} (h:s.length<n):(bytes s).size<n:=by
 show s.toArray.size<n
 simpa using h
theorem x2 {w:World} {S:b0} {v:Value} {s:List UInt8} {p:b6} (e:enc .str s=[p]) (h:bs w S v p):v= .string (bytes s):=by
 obtain rfl:b6.str (bytes s)=p:=by
  have a:enc .str s=[b6.str (bytes s)]:=by simp only[enc]
  have:=a.symm.trans e
  simpa using this
 cases h
 rfl
theorem H0 {R:ec} {w w':World} {S S':b0} {β:Nat->Nat} {τ:Nat->Value} {F:Nat->Nat->Prop} (c:Mem R (aZ []) (aH []) β τ F S w) (a:Below w.heap.size w w') (e:∀b o,S b o->S' b o) (d:∀b o,S' b o->S b o\/(w.heap.size<=b/\b<w'.heap.size)):Mem R (aZ []) (aH []) β τ F S' w':=
 c.grow a e (fun b o h=>(d b o h).imp id (·.1)) (fun b o h=>(d b o h).elim (fun h=>mc (c.lt b o h) a.size) (·.2))
theorem BP {W:World} {X:Nat->Prop} {S:b0} {g:Nat} {p:Value->Prop} (a:lE W X S) (b:ld ov g=some (.cell p)):∃v,W.cell? ⟨g,0,none⟩=some v/\p v:=(a g _ b).1
theorem ah0 {P:Program} {f:FuncId} (run:List UInt8->Option Int) (he:rT P f) {g1 g2:Nat} (k:ld ov g1=some (.cell sH)) (l:ld ov g2=some (.cell sH))
  (o:∀s r,run s=some r->∀w:World,(∃v,w.cell? ⟨g1,0,none⟩=some v/\sH v)->(∃v,w.cell? ⟨g2,0,none⟩=some v/\sH v)->
   Calls P f #[.string (bytes s)] w fun e w'=>(∃x,e= .returned (.tuple #[.int .i64 r,x]))/\Below w.heap.size w w'):
  ig P f ⟨⟨[.af .str],[]⟩,⟨[.bR [.af (.int .i64),.dead]],[]⟩,run⟩:=by
 refine⟨he,fun a r c=>?_⟩
 have c:run a=some r:=c
 intro w S β τ F j b p t
 have d:bx (bp (aY.ctx ⟨[.af .str a],[],[]⟩ w S β τ)) [.af .str a] j:=t
 match j,d with
 | [v0],⟨⟨c0,u,g⟩,_⟩=>
  have g:bs w S v0 c0:=g
  obtain rfl:=x2 u g
  refine(o a r c w (BP b k) (BP b l)).mono ?_
  rintro e w' ⟨⟨x,rfl⟩,i⟩
  exact⟨_,β,τ,F,S,rfl,H0 p i (fun _ _ h=>h) (fun _ _ h=>.inl h),_,rfl,⟨[.int .i64 r,x],rfl,⟨_,rfl,.int _ _⟩,True.intro,True.intro⟩⟩
theorem ah8 {P:Program} {f:FuncId} (run:List UInt8×List UInt8->Option (List UInt8×List UInt8×Bool)) (he:rT P f) {g:Nat} (o:ld ov g=some (.cell q4))
  (p:∀s sep r,run (s,sep)=some r->∀w:World,(∃v,w.cell? ⟨g,0,none⟩=some v/\q4 v)->
   Calls P f #[.string (bytes s),.string (bytes sep)] w fun e w'=>e= .returned (.tuple #[.string (bytes r.1),.string (bytes r.2.1),.bool r.2.2])/\Below w.heap.size w w'):
  ig P f ⟨⟨[.af .str,.af .str],[]⟩,⟨[.bR [.af .str,.af .str,.af .bool]],[]⟩,run⟩:=by
 refine⟨he,fun a r b=>?_⟩
 obtain⟨s,sep⟩:=a
 obtain⟨x,y,z⟩:=r
 have b:run (s,sep)=some (x,y,z):=b
 intro w S β τ F l c t u
 have d:bx (bp (aY.ctx ⟨[.af .str s,.af .str sep],[],[]⟩ w S β τ)) [.af .str s,.af .str sep] l:=u
 match l,d with
 | [v0,v1],⟨⟨c0,A,i⟩,⟨B,C,j⟩,_⟩=>
  have i:bs w S v0 c0:=i
  have j:bs w S v1 B:=j
  obtain rfl:=x2 A i
  obtain rfl:=x2 C j
  refine(p s sep _ b w (BP c o)).mono ?_
  rintro e w' ⟨rfl,k⟩
  exact⟨_,β,τ,F,S,rfl,H0 t k (fun _ _ h=>h) (fun _ _ h=>.inl h),_,rfl,⟨[.string (bytes x),.string (bytes y),.bool z],rfl,⟨_,rfl,.str _⟩,⟨_,rfl,.str _⟩,⟨_,rfl,.bool _⟩,True.intro⟩⟩
theorem ahT {P:Program} {f:FuncId} {g:Nat} (B:ld ov g=some (.cell q4)) (T:TypeId) (s sep:List UInt8) (r:List (List UInt8))
  (C:∀w:World,(∃v,w.cell? ⟨g,0,none⟩=some v/\q4 v)->
   Calls P f #[.string (bytes s),.string (bytes sep)] w fun e w'=>e= .returned (.slice (some ⟨w.heap.size,0,none⟩) r.length r.length)/\w'=w.alloc (.cells (r.map fun x=>Value.string (bytes x)).toArray T)):
  Fb P f ⟨[.af .str s,.af .str sep],[],[]⟩ ⟨[.af (.ar .str) r],[],[]⟩:=by
 intro w S β τ F G u H I
 match G,I with
 | [v0,v1],⟨⟨c0,J,y⟩,⟨K,L,z⟩,_⟩=>
  have y:bs w S v0 c0:=y
  have z:bs w S v1 K:=z
  obtain rfl:=x2 J y
  obtain rfl:=x2 L z
  refine(C w (BP u B)).mono ?_
  rintro e w' ⟨rfl,rfl⟩
  have A:Below w.heap.size w (w.alloc (.cells (List.map (fun x=>Value.string (bytes x)) r).toArray T)):=(Below.refl _ _).alloc (bE _) _
  have d:(w.alloc (.cells (List.map (fun x=>Value.string (bytes x)) r).toArray T)).heap[w.heap.size]? =some (.cells (List.map (fun x=>Value.string (bytes x)) r).toArray T (0,0)):=heap_alloc_new w _
  have a:∀(i j:Nat) (row:List b6) (c:b6),(List.map (enc .str) r)[i]? =some row->row[j]? =some c->∃x:List UInt8,r[i]? =some x/\j=0/\row=[.str (bytes x)]/\c= .str (bytes x):=fun i j row c k l=>by
   rw[iC]at k
   obtain⟨x,p,e⟩:=hT.1 k
   have e:[b6.str (bytes x)]=row:=by rw[<-e];simp only[enc]
   subst e
   have M:j=0:=by have:=(dB.1 l).1;simpa using this
   subst M
   cases l
   exact⟨x,p,rfl,rfl,rfl⟩
  refine⟨_,β,τ,F,(fun b o=>S b o\/(b=w.heap.size/\o<r.length)),rfl,H0 H A (fun _ _ h=>.inl h) (fun b o h=>h.imp id fun h=>⟨by omega,by rw[h.1];exact rj d⟩),_,rfl,⟨.ar (List.map (enc .str) r),(by simp only[enc]),?_⟩⟩
  have O:r.length=(List.map (enc .str) r).length:=(dE _).symm
  rw[O]
  refine .ar _ _ _ (fun i _=>.string (bytes ((r[i]?).getD []))) w.heap.size 0 1 (bE _) (fun _=>rfl) (fun i row h=>?_) (fun i j row c k l=>?_) (fun i j row c k l=>?_) (fun i j row c k l=>?_)
  .rw [iC]at h
   obtain⟨x,_,e⟩:=hT.1 h
   rw[<-e]
   simp only[enc,bS]
  .obtain ⟨x,p,rfl,_,_⟩:=a i j row c k l
   have:=(dB.1 p).1
   exact .inr ⟨rfl,by omega⟩
  .obtain ⟨x,p,rfl,_,_⟩:=a i j row c k l
   have t:(w.alloc (.cells (List.map (fun x=>Value.string (bytes x)) r).toArray T)).cell? ⟨w.heap.size,i,none⟩=some (.string (bytes x)):=by
    unfold World.cell?
    dsimp only
    rw[d]
    simp[p]
   rw[p,show(0+i*1+0:Nat)=i from by omega]
   exact t
  .obtain ⟨x,p,rfl,_,rfl⟩:=a i j row c k l
   rw[p]
   exact .str _
theorem ahW {P:Program} {f:FuncId} (run:List UInt8×List UInt8->Option (List (List UInt8))) (he:rT P f) {g:Nat} (b:ld ov g=some (.cell q4)) (T:TypeId)
  (c:∀s sep r,run (s,sep)=some r->∀w:World,(∃v,w.cell? ⟨g,0,none⟩=some v/\q4 v)->
   Calls P f #[.string (bytes s),.string (bytes sep)] w fun e w'=>e= .returned (.slice (some ⟨w.heap.size,0,none⟩) r.length r.length)/\w'=w.alloc (.cells (r.map fun x=>Value.string (bytes x)).toArray T)):
  ig P f ⟨⟨[.af .str,.af .str],[]⟩,⟨[.af (.ar .str)],[]⟩,run⟩:=
 ⟨he,fun a r d=>ahT b T a.1 a.2 r (c a.1 a.2 r d)⟩
theorem aes {P:Program} {f:FuncId} (run:List (List UInt8)×List UInt8->Option (List UInt8)) (he:rT P f)
  (Q:∀xs sep r,run (xs,sep)=some r->∀(w:World) (a:Option Addr) (cap b o:Nat),xs.length<=cap->(xs≠ []->a=some ⟨b,o,none⟩)->(∀(j:Nat) x,xs[j]? =some x->w.cell? ⟨b,o+j,none⟩=some (.string (bytes x)))->(xs≠ []->b<w.heap.size)->
   Calls P f #[.slice a xs.length cap,.string (bytes sep)] w fun e w'=>e= .returned (.string (bytes r))/\Below w.heap.size w w'):
  ig P f ⟨⟨[.af (.ar .str),.af .str],[]⟩,⟨[.af .str],[]⟩,run⟩:=by
 refine⟨he,fun a r T=>?_⟩
 obtain⟨xs,sep⟩:=a
 intro w S β τ F L bU t U
 have y:bx (bp (aY.ctx ⟨[.af (.ar .str) xs,.af .str sep],[],[]⟩ w S β τ)) [.af (.ar .str) xs,.af .str sep] L:=U
 match L,y with
 | [v0,v1],⟨⟨c0,V,W⟩,⟨X,Y,Z⟩,_⟩=>
  obtain rfl:c0= .ar (xs.map (enc .str)):=by
   have z:enc (.ar .str) xs=[b6.ar (xs.map (enc .str))]:=by simp only[enc]
   have A:=z.symm.trans V
   simpa using A.symm
  obtain rfl:X= .str (bytes sep):=by
   have B:enc .str sep=[b6.str (bytes sep)]:=by simp only[enc]
   have A:=B.symm.trans Y
   simpa using A.symm
  have i:bs w S v0 (.ar (xs.map (enc .str))):=W
  have C:bs w S v1 (.str (bytes sep)):=Z
  generalize d:xs.map (enc .str)=rows at i
  cases C
  cases i with
  |ar a cap _ u b o m g cJ hm aU hu G=>
   have M:rows.length=xs.length:=by rw[<-d,dE]
   have p:∀(j:Nat) (x:List UInt8),xs[j]? =some x->rows[j]? =some [.str (bytes x)]:=fun j x s=>by
    rw[<-d,iC,s,pe,enc]
   rw[M]at g⊢
   have H:xs≠ []->rows≠ []:=fun h e=>h (wu.1 (by rw[<-M,e];rfl))
   refine(Q xs sep r T w a cap b o g (fun h=>cJ (H h)) (fun j x s=>?_) (fun h=>?_)).mono fun e w' ⟨I,c⟩=>?_
   .have J:=p j x s
    have K:m=1:=(hm j _ J).symm
    subst K
    have O:=hu j 0 _ _ J rfl
    have bD:=G j 0 _ _ J rfl
    rw[Nat.mul_one,lC]at O
    generalize u j 0=v at*
    cases bD
    exact O
   .obtain ⟨x,s⟩:∃x,xs[0]? =some x:=by
     cases xs with
     |nil=>exact absurd rfl h
     |cons x l=>exact⟨x,rfl⟩
    exact t.lt _ _ (aU 0 0 _ _ (p 0 x s) rfl)
   .exact ⟨_,β,τ,F,S,I,⟨⟨c.os,c.tape,c.output,c.size,fun k bB _=>c.block k bB⟩,fun _ _ h=>h,fun _ _ h=>.inl h,fun b o h=>c.cell (t.lt b o h),fun b o h=>mc (t.lt b o h) c.size,(fun _ _ h=>by cases h),(fun _ _ _ _ h=>by cases h),(fun _ _ h=>by cases h),(fun _ _ _ _ _ h=>by cases h),(fun _ _ _ _ h=>by cases h),(fun _ _ _ h=>absurd rfl h),(fun _ _ _ _ h=>by cases h),(fun _ _ _ _ _ _ h=>by cases h)⟩,_,rfl,⟨_,rfl,.str _⟩⟩
def cutAt (b:UInt8):List UInt8->List (List UInt8)
 | []=>[[]]
 |x::l=>if x=b then []::cutAt b l else match cutAt b l with
  | []=>[[x]]
  |p::ps=>(x::p)::ps
theorem L7 (b:UInt8):∀l,cutAt b l≠ []
 | []=>by simp[cutAt]
 |x::l=>by
  unfold cutAt
  split
  .simp
  .split<;>simp
theorem HZ {b:UInt8}:∀ {l:List UInt8},b∉l->cutAt b l=[l]
 | [],_=>rfl
 |x::l,h=>by
  rw[bn,not_or]at h
  unfold cutAt
  rw[aC (fun e=>h.1 e.symm),HZ h.2]
theorem BS {b:UInt8}:∀ {p r:List UInt8},b∉p->cutAt b (p++b::r)=p::cutAt b r
 | [],r,_=>by
  show cutAt b (b::r)=_
  rw[cutAt,ai rfl]
 |x::p,r,h=>by
  rw[bn,not_or]at h
  show cutAt b (x::(p++b::r))=_
  rw[cutAt,aC (fun e=>h.1 e.symm),BS h.2]
theorem Gl (b:UInt8):∀s:List UInt8,b∉s\/ ∃p r,b∉p/\s=p++b::r
 | []=>.inl (by simp)
 |x::s=>by
  by_cases e:b=x
  .subst e
   exact .inr ⟨[],s,by simp,rfl⟩
  .rcases Gl b s with h|⟨p,r,h,rfl⟩
   .exact .inl (by rw[bn,not_or];exact⟨e,h⟩)
   .exact .inr ⟨x::p,r,by rw[bn,not_or];exact⟨e,h⟩,rfl⟩
theorem H3 (b x:UInt8) (l:List UInt8):[b].isPrefixOf (x::l)=(b==x):=by simp[List.isPrefixOf]
theorem HV {b:UInt8}:∀ {s:List UInt8},b∉s->Lib.index s [b]=-1
 | [],_=>rfl
 |x::s,h=>by
  rw[bn,not_or]at h
  have e:(b==x)=false:=by simpa using h.1
  unfold Lib.index
  rw[H3,e,HV h.2]
  rfl
theorem H2 {b:UInt8}:∀ {p r:List UInt8},b∉p->Lib.index (p++b::r) [b]=(p.length:Int)
 | [],r,_=>by
  show Lib.index (b::r) [b]=0
  unfold Lib.index
  rw[H3,beq_self_eq_true,ai rfl]
 |x::p,r,h=>by
  rw[bn,not_or]at h
  have e:(b==x)=false:=by simpa using h.1
  show Lib.index (x::(p++b::r)) [b]=_
  unfold Lib.index
  rw[H3,e,H2 h.2]
  have:(((p.length:Nat):Int)==-1)=false:=by rw[beq_eq_false_iff_ne];omega
  simp[this]
theorem Qb (b:UInt8):∀(n:Nat) (s:List UInt8),s.length<=n->Lib.splitK [b] 0 (Lib.count s [b]) s=cutAt b s
 |n,s,a=>by
  rcases Gl b s with h|⟨p,r,h,rfl⟩
  .rw [Lib.count_miss (HV h),HZ h]
   rfl
  .have hi:=H2 (r:=r) h
   have d:(p++b::r).length=p.length+1+r.length:=by simp;omega
   rw[Lib.count_hit (by simp) hi,BS h,Nat.add_comm 1]
   unfold Lib.splitK
   have:((p.length:Int)==-1)=false:=by rw[beq_eq_false_iff_ne];omega
   rw[hi,this,aC (by decide)]
   have c:(p++b::r).drop (p.length+ [b].length)=r:=by
    rw[bS,<-qm,List.drop_left]
    rfl
   rw[eg,c,lC,List.take_left]
   match n,a with
   |0,a=>omega
   |n+1,a=>rw[Qb b n r (by omega)]
theorem BQ (s:List UInt8):(bytes s).data.toList=s:=by simp[bytes]
theorem ahE (x:ByteArray):bytes x.data.toList=x:=by cases x;simp[bytes]
theorem P8 (b:UInt8) (s:List UInt8):Lib.splitB (bytes [b]) 0 (Lib.countB (bytes s) (bytes [b])) (bytes s)=(cutAt b s).map bytes:=by
 have h:=Lib.splitB_data (bytes [b]) 0 (Lib.countB (bytes s) (bytes [b])) (bytes s)
 have e:Lib.countB (bytes s) (bytes [b])=Lib.count s [b]:=by
  unfold Lib.countB
  rw[BQ,BQ]
 rw[BQ,BQ,e,Qb b _ s (bE _)]at h
 rw[e,<-h,mb]
 have:(bytes∘fun x:ByteArray=>x.data.toList)=id:=by funext x;exact ahE x
 rw[this,List.map_id]
def er (b:UInt8) (s:List UInt8):List UInt8×List UInt8×Bool:=Lib.cut s [b]
theorem L6 {b:UInt8} {s:List UInt8} (h:b∉s):er b s=(s,[],false):=by
 unfold er Lib.cut
 rw[HV h,aC (by decide)]
theorem r8 {b:UInt8} {p r:List UInt8} (h:b∉p):er b (p++b::r)=(p,r,true):=by
 unfold er Lib.cut
 rw[H2 h,ai (by omega),eg,List.take_left,bS,<-qm,List.drop_left]
 rfl
def ji (ls:List (List UInt8)):List UInt8:=ls.flatMap fun l=>l++ [10]
theorem yx (l:List UInt8) (ls:List (List UInt8)):ji (l::ls)=l++10::ji ls:=by
 unfold ji
 rw[lA,e5]
 rfl
theorem R7 (a b:List (List UInt8)):ji (a++b)=ji a++ji b:=by unfold ji;rw[wA]
theorem L8 :∀ {ls:List (List UInt8)},(∀l,l∈ls->(10:UInt8)∉l)->cutAt 10 (ji ls)=ls++ [[]]
 | [],_=>rfl
 |l::ls,h=>by
  rw[yx,BS (h l cb),L8 fun x a=>h x (ch _ a)]
  rfl
theorem qI (u:Nat):Lib.decDigits u=if u<10 then [UInt8.ofNat (48+u)]else Lib.decDigits (u/10)++ [UInt8.ofNat (48+u%10)]:=by
 rw[Lib.decDigits]
 by_cases h:u<10
 .rw [dif_pos h,ai h]
 .rw [dif_neg h,aC h]
def gN (c:UInt8):Bool:=decide (48<=c.toNat)&&decide (c.toNat<=57)
theorem BR :∀d:Nat,d<10->gN (UInt8.ofNat (48+d))=true/\(UInt8.ofNat (48+d)).toNat=48+d:=by decide
theorem FU :∀(n u:Nat),u<=n->∀c,c∈Lib.decDigits u->gN c=true
 |n,u,b,c,a=>by
  rw[qI]at a
  by_cases h:u<10
  .rw [ai h,du]at a
   rw[a]
   exact(BR u h).1
  .rw [aC h,cE,du]at a
   rcases a with a|a
   .match n,b with
    |0,b=>omega
    |n+1,b=>exact FU n (u/10) (by omega) c a
   .rw [a]
    exact(BR _ (mg _ (by decide))).1
theorem ahV :∀u:Nat,Lib.decDigits u≠ []:=fun u=>by
 rw[qI]
 split<;>simp
def gi (acc:Nat) (l:List UInt8):Nat:=l.foldl (fun a c=>a*10+(c.toNat-48)) acc
theorem aie (acc:Nat) (a b:List UInt8):gi acc (a++b)=gi (gi acc a) b:=by unfold gi;rw[hW]
theorem HX :∀(n u:Nat),u<=n->gi 0 (Lib.decDigits u)=u
 |n,u,a=>by
  rw[qI]
  by_cases h:u<10
  .rw [ai h]
   show 0*10+((UInt8.ofNat (48+u)).toNat-48)=u
   rw[(BR u h).2]
   omega
  .have hm:u%10<10:=mg _ (by decide)
   rw[aC h,aie]
   match n,a with
   |0,a=>omega
   |n+1,a=>
    rw[HX n (u/10) (by omega)]
    show u/10*10+((UInt8.ofNat (48+u%10)).toNat-48)=u
    rw[(BR _ hm).2]
    omega
theorem ahK (acc:Nat) (l:List UInt8):acc<=gi acc l:=by
 induction l generalizing acc with
 |nil=>exact bE _
 |cons c l a=>
  refine dS ?_ (a (acc*10+(c.toNat-48)))
  omega
theorem HY :∀(l:List UInt8) (acc:Nat),(∀c,c∈l->gN c=true)->gi acc l<1000000000000000000->Lib.parseUint10 acc l= .ok (gi acc l)
 | [],acc,_,_=>rfl
 |c::l,acc,h,b=>by
  have a:=h c cb
  unfold gN at a
  rw[a6,bo,bo]at a
  have e:gi acc (c::l)=gi (acc*10+(c.toNat-48)) l:=rfl
  have hm:=ahK (acc*10+(c.toNat-48)) l
  rw[e]at b⊢
  rw[Lib.parseUint10,ai a,aC (by omega),aC (by omega)]
  exact HY l _ (fun x d=>h x (ch _ d)) b
def h0 (s:List UInt8):Int:=match Lib.atoiAll s with
 | .ok v=>v
 | .range=>Lib.atoiSat s
 |_=>0
theorem Wy (u:Nat) (h:u<1000000000000000000):h0 (Lib.decDigits u)=(u:Int):=by
 have a:=FU u u (bE _)
 have b:=HX u u (bE _)
 cases d:Lib.decDigits u with
 |nil=>exact absurd d (ahV u)
 |cons c r=>
  have e:=a c (by rw[d];exact cb)
  unfold gN at e
  rw[a6,bo,bo]at e
  rw[d]at a b
  have f:=HY (c::r) 0 a (by rw[b];exact h)
  rw[b]at f
  unfold h0
  rw[Lib.atoiAll_plain c r (by omega) (by omega)]
  unfold Lib.parseMag
  rw[aC (by simp),f]
  unfold Lib.signless
  dsimp only
  rw[aC (by omega:¬9223372036854775808<=u)]
end Go.Proofs.YtnkagklajgimlaaGreatDoor
