/- Plain laws, for any program: loops, a logic of totals, the loops of the laws' own functions over all types. -/
import Derived.Test.YtcinmmojlcchfaaGreatDoorKY
set_option linter.unusedVariables false
set_option linter.unusedSimpArgs false
namespace Go.Proofs.YtcinmmojlcchfaaGreatDoor
open Go.RowKit
theorem idx_at {α:Type} {xs:List α} {n:Nat} (h:n<xs.length):idx xs (n:Int)=some xs[n]:=by
 simp only[idx,zf (Int.natCast_nonneg n),zai,zc h]
theorem iter_scan {δ ρ:Type} (F:(δ->Option ρ)->δ->Option ρ) (len:Nat) (st:Nat->δ) (spec:Nat->Option ρ)
  (hend:∀go,F go (st len)=spec len) (hstep:∀go n,n<len->go (st (n+1))=spec (n+1)->F go (st n)=spec n):
  ∀N n,n<=len->len-n<N->iter F N (st n)=spec n
 |0,n,_,h=>by omega
 |N+1,n,hn,h=>by
  show F (iter F N) (st n)=spec n
  by_cases e:n=len
  .rw [e];exact hend _
  .exact hstep _ n (by omega) (iter_scan F len st spec hend hstep N (n+1) (by omega) (by omega))
theorem cast_succ' (n:Nat):((n+1:Nat):Int)=(n:Int)+1:=by omega
theorem fits_nat {n:Nat} (h:(n:Int)<=9223372036854775806):fits ((n:Int)+1):=by unfold fits;omega
theorem jhZ {α:Type} [DecidableEq α] {a b:List α} {n:Nat} (h:n<a.length) (hb:n<b.length):(decide (a.drop n=b.drop n))=(decide (a[n]=b[n])&&decide (a.drop (n+1)=b.drop (n+1))):=by
 rw[zbH,zj,zw,zw,zw,zan h,zan hb,List.cons.injEq]
theorem room_of {n m b:Nat} (h:(n+m)*b<=140737488355328) (h2:((n+m:Nat):Int)<=9223372036854775000):room n m b:=⟨h,by omega⟩
def Def {α:Type} (m:Option α) (P:α->Prop):Prop:=∃r,m=some r/\P r
theorem Def.ret {α:Type} {x:α} {P:α->Prop} (h:P x):Def (some x) P:=⟨x,rfl,h⟩
theorem Def.mono {α:Type} {m:Option α} {P Q:α->Prop} (h:Def m P) (hq:∀r,P r->Q r):Def m Q:=by
 obtain⟨r,h1,h2⟩:=h
 exact⟨r,h1,hq r h2⟩
theorem Def.bind {α β:Type} {m:Option α} {f:α->Option β} {P:α->Prop} {Q:β->Prop} (h:Def m P) (hf:∀r,P r->Def (f r) Q):Def (Option.bind m f) Q:=by
 obtain⟨r,rfl,h2⟩:=h
 exact hf r h2
theorem Def.bif {α:Type} {b:Bool} {x y:Option α} {P:α->Prop} (h1:b=true->Def x P) (h2:b=false->Def y P):Def (bif b then x else y) P:=by
 cases b
 .exact h2 rfl
 .exact h1 rfl
theorem Def.dif {α:Type} {p:Prop} [Decidable p] {x y:Option α} {P:α->Prop} (h1:p->Def x P) (h2:¬p->Def y P):Def (bif decide p then x else y) P:=
 Def.bif (fun h=>h1 (of_decide_eq_true h)) (fun h=>h2 (of_decide_eq_false h))
theorem Def.ite {α:Type} {p:Prop} [Decidable p] {x:Option α} {P:α->Prop} (hp:p) (h:Def x P):Def (if p then x else none) P:=by
 rw[zf hp];exact h
theorem Def.eq {α:Type} {m:Option α} {x:α} (h:m=some x):Def m (fun r=>r=x):=⟨x,h,rfl⟩
theorem Def.get {α:Type} {m:Option α} {x:α} (h:Def m (fun r=>r=x)):m=some x:=by
 obtain⟨r,h1,rfl⟩:=h
 exact h1
theorem Def.cut {α β:Type} {xs:List α} {l h:Int} {f:List α->Option β} {Q:β->Prop} (h0:0<=l) (h1:l<=h) (h2:h<=xs.length) (hf:Def (f ((xs.take h.toNat).drop l.toNat)) Q):Def (Option.bind (cut xs l h) f) Q:=by
 unfold Go.Proofs.YtcinmmojlcchfaaGreatDoor.cut
 rw[zf ⟨h0,h1,h2⟩]
 exact hf
theorem Def.meet {δ ρ:Type} {J:δ->Option ρ} {X:(δ->Option ρ)->Option ρ} {P:ρ->Prop} (I:δ->Prop) (hJ:∀g,I g->Def (J g) P) (hX:∀J':δ->Option ρ,(∀g,I g->Def (J' g) P)->Def (X J') P):Def (meet J X) P:=hX J hJ
theorem Def.iter {δ ρ:Type} {F:(δ->Option ρ)->δ->Option ρ} {P:ρ->Prop} (I:δ->Prop) (meas:δ->Nat) (hstep:∀go g,I g->(∀g',I g'->meas g'<meas g->Def (go g') P)->Def (F go g) P):∀N g,I g->meas g<N->Def (iter F N g) P
 |0,g,_,h=>absurd h (Nat.not_lt_zero _)
 |N+1,g,hI,h=>hstep _ g hI fun g' hI' hm=>Def.iter I meas hstep N g' hI' (by omega)
theorem Def.upto {δ ρ:Type} {F:(δ->Option ρ)->δ->Option ρ} {P:ρ->Prop} (len:Nat) (I:Nat->δ->Prop) (hend:∀go g,I len g->Def (F go g) P) (hstep:∀go n g,n<len->I n g->(∀g',I (n+1) g'->Def (go g') P)->Def (F go g) P):∀N n g,n<=len->I n g->len-n<N->Def (Go.Proofs.YtcinmmojlcchfaaGreatDoor.iter F N g) P
 |0,n,g,_,_,h=>absurd h (Nat.not_lt_zero _)
 |N+1,n,g,hn,hI,h=>by
  show Def (F (Go.Proofs.YtcinmmojlcchfaaGreatDoor.iter F N) g) P
  by_cases e:n=len
  .subst e;exact hend _ g hI
  .exact hstep _ n g (by omega) hI fun g' hI'=>Def.upto len I hend hstep N (n+1) g' (by omega) hI' (by omega)
abbrev jf3 {α:Type} (E:α->α->Option Bool) (N:Nat) (a b:List α):Option Bool:=
 (bif(!decide ((a.length:Int)=(b.length:Int)))then
  (some false)
  else
  (iter (fun(go:(List α×List α×Int)->Option Bool) (g:List α×List α×Int)=>
    match g with
    |(a2,b2,i)=>
    (bif(decide (i<(a2.length:Int)))then
     (Option.bind (idx a2 i) fun(e:α)=>
      (Option.bind (idx b2 i) fun(e2:α)=>
       (Option.bind (E e e2) fun(r:Bool)=>
        (bif(!r)then
         (some false)
         else
         (if fits (i+1)then(go (a2,b2,(i+1)))else none)))))
     else
     (some true))) N (a,b,0)))
theorem jS {α:Type} [DecidableEq α] (E:α->α->Option Bool) (N:Nat) (a b:List α) (h:a.length<N) (hN:N<=1099511627776) (hE:∀x,x∈a->∀y,E x y=some (decide (x=y))):jf3 E N a b=some (decide (a=b)):=by
 unfold jf3
 by_cases he:a.length=b.length
 .have he':(a.length:Int)=(b.length:Int):=by omega
  rw[zb he',zn,ze]
  refine(iter_scan _ a.length (fun n=>(a,b,(n:Int))) (fun n=>some (decide (a.drop n=b.drop n))) (fun go=>?_) (fun go n hn hgo=>?_) N 0 (zaf _) (by omega)).trans (by simp)
  .have e2:b.drop a.length=[]:=by rw[he];simp
   simp[e2]
  .have hn':(n:Int)<a.length:=by omega
   have hnb:n<b.length:=by omega
   dsimp only
   rw[zb hn',zg,idx_at hn,za,idx_at hnb,za,jhZ hn hnb,hE _ (zr hn),za]
   cases hd:decide (a[n]=b[n])with
   |false=>simp
   |true=>
    rw[zn,ze,zf (fits_nat (n:=n) (by omega)),zaj]
    simp only[cast_succ']at hgo
    exact hgo
 .have he':¬(a.length:Int)=(b.length:Int):=by omega
  rw[zd he',zaI,zg]
  have:a≠b:=fun e=>he (by rw[e])
  simp[this]
abbrev jhY {α:Type} (T:α->Option α) (z:α) (m:Int) (N:Nat) (a:List α):Option (List α):=
 (if(a.length:Int)=(a.length:Int)/\0<=(a.length:Int)/\(a.length:Int)*m<=140737488355328/\(a.length:Int)<=140737488355328 then
  (iter (fun(go:(List α×List α×Int)->Option (List α)) (g:List α×List α×Int)=>
    match g with
    |(a2,out,i)=>
    (bif(decide (i<(a2.length:Int)))then
     (Option.bind (idx a2 i) fun(e:α)=>
      (Option.bind (T e) fun(r:α)=>
       (if 0<=i/\i<(out.length:Int)then
        (Option.bind (out[i.toNat]?) fun(e2:α)=>
         (if fits (i+1)then(go (a2,(out.set i.toNat r),(i+1)))else none))
        else none)))
     else
     (some out))) N (a,(List.replicate (a.length:Int).toNat z),0))
  else none)
theorem jkc {α:Type} (a:List α) (z:α) (n:Nat) (hn:n<a.length):(a.take n++List.replicate (a.length-n) z).set n a[n]=a.take (n+1)++List.replicate (a.length-(n+1)) z:=by
 have h1:(a.take n).length=n:=by simp;omega
 rw[List.set_append,zu (by omega),h1,Nat.sub_self,show a.length-n=(a.length-(n+1))+1 from by omega,List.replicate_succ,List.set_cons_zero,zo hn,zao]
 rfl
theorem jV {α:Type} (T:α->Option α) (z:α) (m:Int) (N:Nat) (a:List α) (h:a.length<N) (hN:N<=1099511627776) (hm:(a.length:Int)*m<=140737488355328) (hT:∀x,x∈a->T x=some x):jhY T z m N a=some a:=by
 unfold jhY
 rw[zf ⟨rfl,by omega,hm,by omega⟩]
 refine(iter_scan _ a.length (fun n=>(a,a.take n++List.replicate (a.length-n) z,(n:Int))) (fun n=>some a) (fun go=>?_) (fun go n hn hgo=>?_) N 0 (zaf _) (by omega))
 .dsimp only
  rw[zd (zcd _),ze,zq,Nat.sub_self]
  simp
 .have hn':(n:Int)<a.length:=by omega
  have hol:(a.take n++List.replicate (a.length-n) z).length=a.length:=by simp;omega
  dsimp only
  rw[zb hn',zg,idx_at hn,za,hT _ (zr hn),za,zf (by omega),zai,zc (by omega),za,zf (fits_nat (n:=n) (by omega)),jkc a z n hn]
  simp only[cast_succ']at hgo
  exact hgo
def mcnt {α:Type} (c:α->Nat):List α->Nat
 | []=>0
 |x::xs=>c x+mcnt c xs
theorem jbm {α:Type} (c:α->Nat):∀(xs:List α) (n:Nat) (h:n<xs.length),mcnt c (xs.take (n+1))=mcnt c (xs.take n)+c xs[n]
 |x::xs,0,_=>by simp[mcnt]
 |x::xs,n+1,h=>by
  simp only[zbG,mcnt,List.getElem_cons_succ]
  rw[jbm c xs n (by simpa using h)];omega
theorem jjI {α:Type} (c:α->Nat) (h:∀x,c x=0):∀a:List α,mcnt c a=0
 | []=>rfl
 |x::xs=>by rw[mcnt,h,jjI c h xs]
def tot :(t:Tp)->t.D->Nat
 | .str,s=>List.length s
 | .pair a b,x=>tot b x.2+tot a x.1
 | .sl r,xs=>mcnt (tot r) xs+List.length xs
 |_,_=>0
def SzP (n:Nat) (left:Int) (m:Option Int) (P:Prop):Prop:=Def m fun r=>r=-1\/(0<=r/\r+(n:Int)<=left/\P)
abbrev jgu {α:Type} (Z:α->Int->Option Int) (N:Nat) (a:List α) (left:Int):Option Int:=
 (if fits (left-(a.length:Int))then(bif(decide ((left-(a.length:Int))<0))then
   (some (-1))
   else
   (iter (fun(go:(List α×Int×Int)->Option Int) (g:List α×Int×Int)=>
     match g with
     |(a2,left2,i)=>
     (bif(decide (i<(a2.length:Int)))then
      (Option.bind (idx a2 i) fun(e:α)=>
       (Option.bind (Z e left2) fun(r:Int)=>
        (bif(decide (r<0))then
         (some (-1))
         else
         (if fits (i+1)then(go (a2,r,(i+1)))else none))))
      else
      (some left2))) N (a,(left-(a.length:Int)),0)))else none)
theorem jaA {α:Type} (Z:α->Int->Option Int) (N:Nat) (hN:1048576<N) (P:α->Prop) (T:α->Nat) (a:List α) (left:Int) (hl:a.length<=BigN) (h0:0<=left) (h1:left<=1048576) (hZ:∀x,x∈a->∀l,0<=l->l<=1048576->SzP (T x) l (Z x l) (P x)):
  SzP (mcnt T a+a.length) left (jgu Z N a left) (a.length<=1048576/\∀x,x∈a->P x):=by
 unfold SzP jgu
 have hl':(a.length:Int)<=9223372036854775807:=by have:a.length<=9223372036854775807:=hl;omega
 refine Def.ite (by unfold fits;omega) ?_
 refine Def.dif (fun e=>Def.ret (.inl rfl)) (fun e=>?_)
 refine Def.upto a.length (fun n g=>∃l:Int,0<=l/\l+(mcnt T (a.take n)+a.length:Nat)<=left/\(∀x,x∈a.take n->P x)/\g=(a,l,(n:Int))) ?_ ?_ N 0 _ (zaf _) ⟨_,by omega,by simp only[List.take_zero,mcnt];omega,by simp,rfl⟩ (by omega)
 .rintro go _ ⟨l,hl0,hl1,hP,rfl⟩
  dsimp only
  rw[zd (zcd _),ze]
  rw[zq]at hl1
  exact Def.ret (.inr ⟨hl0,hl1,by omega,by rwa[zq]at hP⟩)
 .rintro go n _ hn ⟨l,hl0,hl1,hP,rfl⟩ hgo
  dsimp only
  have hmc:=jbm T a n hn
  rw[zb (by omega:(n:Int)<a.length),zg,idx_at hn,za]
  refine Def.bind (hZ _ (zr hn) l hl0 (by omega)) fun r hr=>?_
  refine Def.dif (fun e=>Def.ret (.inl rfl)) (fun e=>?_)
  rcases hr with hr|⟨r0,r1,hx⟩
  .omega
  refine Def.ite (fits_nat (n:=n) (by omega)) ?_
  refine hgo _ ⟨r,r0,by omega,fun x hx'=>?_,by rw[cast_succ']⟩
  rw[zo hn,zaB,zaD]at hx'
  rcases hx' with hx'|rfl
  .exact hP x hx'
  .exact hx
def jgv (N:Nat) (a:List (List UInt8)) (left:Int):Option Int:=
 (if fits (left-(a.length:Int))then(bif(decide ((left-(a.length:Int))<0))then
  (some (-1))
 else
  (iter (fun(go:((List (List UInt8))×Int×Int)->Option Int) (g:(List (List UInt8))×Int×Int)=>
   match g with
   |(a2,left2,i)=>
    (bif(decide (i<(a2.length:Int)))then
     (Option.bind (idx a2 i) fun(e:List UInt8)=>
      (if fits (left2-(e.length:Int))then(bif(decide ((left2-(e.length:Int))<0))then
       (some (-1))
      else
       (if fits (i+1)then(go (a2,(left2-(e.length:Int)),(i+1)))else none))else none))
    else
     (some left2))) N (a,(left-(a.length:Int)),0)))else none)
theorem jq4 (N:Nat) (hN:1048576<N) (a:List (List UInt8)) (left:Int) (hl:a.length<=BigN) (h0:0<=left) (h1:left<=1048576) (hZ:∀x,x∈a->x.length<=BigN):
  SzP (mcnt List.length a+a.length) left (jgv N a left) (a.length<=1048576/\∀x,x∈a->x.length<=1048576):=by
 unfold SzP jgv
 have hl':(a.length:Int)<=9223372036854775807:=by have:a.length<=9223372036854775807:=hl;omega
 refine Def.ite (by unfold fits;omega) ?_
 refine Def.dif (fun e=>Def.ret (.inl rfl)) (fun e=>?_)
 refine Def.upto a.length (fun n g=>∃l:Int,0<=l/\l+(mcnt List.length (a.take n)+a.length:Nat)<=left/\(∀x,x∈a.take n->x.length<=1048576)/\g=(a,l,(n:Int))) ?_ ?_ N 0 _ (zaf _) ⟨_,by omega,by simp only[List.take_zero,mcnt];omega,by simp,rfl⟩ (by omega)
 .rintro go _ ⟨l,hl0,hl1,hP,rfl⟩
  dsimp only
  rw[zd (zcd _),ze]
  rw[zq]at hl1
  exact Def.ret (.inr ⟨hl0,hl1,by omega,by rwa[zq]at hP⟩)
 .rintro go n _ hn ⟨l,hl0,hl1,hP,rfl⟩ hgo
  dsimp only
  have hmc:=jbm List.length a n hn
  rw[zb (by omega:(n:Int)<a.length),zg,idx_at hn,za]
  have hx:(a[n].length:Int)<=9223372036854775807:=by have:a[n].length<=9223372036854775807:=hZ _ (zr hn);omega
  refine Def.ite (by unfold fits;omega) ?_
  refine Def.dif (fun e=>Def.ret (.inl rfl)) (fun e=>?_)
  refine Def.ite (fits_nat (n:=n) (by omega)) ?_
  refine hgo _ ⟨l-a[n].length,by omega,by omega,fun x hx'=>?_,by rw[cast_succ']⟩
  rw[zo hn,zaB,zaD]at hx'
  rcases hx' with hx'|rfl
  .exact hP x hx'
  .omega
theorem SzP.neg {k:Nat} {left:Int} {m:Option Int} {P Q:Prop} (h:SzP k left m P) (hq:P->Q):SzP k left (Option.bind m fun r=>bif decide (r<0)then some (-1)else some r) Q:=by
 refine Def.bind h fun r hr=>?_
 refine Def.dif (fun e=>Def.ret (.inl rfl)) (fun e=>Def.ret (.inr ?_))
 rcases hr with hr|⟨r0,r1,hx⟩
 .omega
 .exact ⟨r0,r1,hq hx⟩
theorem SzP.then {k j:Nat} {left:Int} {m:Option Int} {f:Int->Option Int} {P Q R:Prop} (h:SzP k left m P) (hf:∀r,0<=r->r<=left->SzP j r (f r) Q) (hr:P->Q->R):SzP (j+k) left (Option.bind m fun r=>bif decide (r<0)then some (-1)else f r) R:=by
 refine Def.bind h fun r hr'=>?_
 refine Def.dif (fun e=>Def.ret (.inl rfl)) (fun e=>?_)
 rcases hr' with hr'|⟨r0,r1,hx⟩
 .omega
 .exact (hf r r0 (by omega)).mono fun u hu=>hu.imp id fun⟨a,b,c⟩=>⟨a,by omega,hr hx c⟩
theorem SzP.len {k:Nat} {left:Int} {n:Nat} {f:Option Int} {Q R:Prop} (hn:n<=BigN) (h0:0<=left) (h1:left<=1048576) (hf:0<=left-n->left-n<=left->SzP k (left-n) f Q) (hr:n<=1048576->Q->R):
  SzP (k+n) left (if fits (left-(n:Int))then(bif decide (left-(n:Int)<0)then some (-1)else f)else none) R:=by
 have hn':(n:Int)<=9223372036854775807:=by have:n<=9223372036854775807:=hn;omega
 refine Def.ite (by unfold fits;omega) ?_
 refine Def.dif (fun e=>Def.ret (.inl rfl)) (fun e=>?_)
 exact(hf (by omega) (by omega)).mono fun u hu=>hu.imp id fun⟨a,b,c⟩=>⟨a,by omega,hr (by omega) c⟩
theorem SzP.ret {left:Int} (h:0<=left):SzP 0 left (some left) True:=Def.ret (.inr ⟨h,by omega,True.intro⟩)
def markL {α:Type} (M:α->Int->α) (c:α->Nat):List α->Int->List α
 | [],_=>[]
 |x::xs,k=>M x k::markL M c xs (k+c x)
section
variable {α : Type} (M : α -> Int -> α) (c : α -> Nat)
theorem jcY :∀(xs:List α) (n:Nat),mcnt c (xs.take n)<=mcnt c xs
 | [],n=>by simp[mcnt]
 |x::xs,0=>by simp[mcnt]
 |x::xs,n+1=>by simp only[zbG,mcnt];have:=jcY xs n;omega
theorem jWL (G:Nat):∀(xs:List α),(∀x,x∈xs->c x<=G)->mcnt c xs<=xs.length*G
 | [],_=>by simp[mcnt]
 |x::xs,h=>by
  have h1:=h x (by simp)
  have h2:=jWL G xs fun y hy=>h y (by simp[hy])
  simp only[mcnt,zi,zaO,Nat.one_mul]
  omega
theorem jal :∀(xs:List α) (k:Int),(markL M c xs k).length=xs.length
 | [],_=>rfl
 |x::xs,k=>by simp[markL,jal xs]
theorem jdm :∀(xs:List α) (k:Int) (n:Nat) (h:n<xs.length),(markL M c xs k)[n]'(by rw[jal];exact h)=M xs[n] (k+mcnt c (xs.take n))
 |x::xs,k,0,_=>by simp[markL,mcnt]
 |x::xs,k,n+1,h=>by
  simp only[markL,List.getElem_cons_succ,zbG,mcnt]
  rw[jdm xs _ n (by simpa using h)]
  congr 1
  omega
theorem jka (xs:List α) (k:Int) (n:Nat) (hn:n<xs.length):((markL M c xs k).take n++xs.drop n).set n (M xs[n] (k+mcnt c (xs.take n)))=(markL M c xs k).take (n+1)++xs.drop (n+1):=by
 have hl:=jal M c xs k
 have h1:((markL M c xs k).take n).length=n:=by simp;omega
 rw[List.set_append,zu (by omega),h1,Nat.sub_self,zan hn,List.set_cons_zero,zo (by omega),jdm M c xs k n hn,zao]
 rfl
theorem jpH (xs:List α) (k:Int) (n:Nat) (hn:n<xs.length) (h:n<((markL M c xs k).take n++xs.drop n).length):((markL M c xs k).take n++xs.drop n)[n]=xs[n]:=by
 have hl:=jal M c xs k
 have h1:((markL M c xs k).take n).length=n:=by simp;omega
 rw[List.getElem_append_right (by omega)]
 simp[h1]
theorem markLoop_spec {F:((List α×Int×Int)->Option (Int×List α))->(List α×Int×Int)->Option (Int×List α)} (N:Nat) (K:Int) (Pre:α->Prop)
  (hend:∀go a k,F go (a,k,(a.length:Int))=some (k,a))
  (hstep:∀go a (n:Nat) (hn:n<a.length) (k:Int),(n:Int)<=1099511627776->Pre a[n]->0<=k->k+c a[n]<=K->F go (a,k,(n:Int))=go (a.set n (M a[n] k),k+c a[n],(n:Int)+1))
  (xs:List α) (k:Int) (hk:0<=k) (hK:k+mcnt c xs<=K) (h:xs.length<N) (hN:N<=1099511627776) (hP:∀x,x∈xs->Pre x):iter F N (xs,k,0)=some (k+mcnt c xs,markL M c xs k):=by
 have hl:=jal M c xs k
 have:=iter_scan F xs.length (fun n=>((markL M c xs k).take n++xs.drop n,k+mcnt c (xs.take n),(n:Int))) (fun n=>some (k+mcnt c xs,markL M c xs k)) (fun go=>?_) (fun go n hn hgo=>?_) N 0 (zaf _) (by omega)
 .simpa [mcnt]using this
 .have e:(markL M c xs k).take xs.length++xs.drop xs.length=markL M c xs k:=by rw[<-hl,zq,hl];simp
  have:=hend go (markL M c xs k) (k+mcnt c xs)
  rw[hl]at this
  simp only[e,zq]
  exact this
 .have hcl:n<((markL M c xs k).take n++xs.drop n).length:=by simp;omega
  have e:=jpH M c xs k n hn hcl
  have hc:=jbm c xs n hn
  have hle:=jcY c xs (n+1)
  have:=hstep go ((markL M c xs k).take n++xs.drop n) n hcl (k+mcnt c (xs.take n)) (by omega) (by rw[e];exact hP _ (zr hn)) (by omega) (by rw[e];omega)
  refine this.trans ?_
  rw[e,jka M c xs k n hn,show k+(mcnt c (xs.take n):Int)+(c xs[n]:Int)=k+(mcnt c (xs.take (n+1)):Int)from by omega]
  simp only[cast_succ']at hgo
  exact hgo
theorem jnA {F:((List α×Int×Int)->Option Int)->(List α×Int×Int)->Option Int} (N:Nat) (K:Int) (Pre:α->Prop)
  (hend:∀go a k,F go (a,k,(a.length:Int))=some k)
  (hstep:∀go a (n:Nat) (hn:n<a.length) (k:Int) (x:α),(n:Int)<=1099511627776->a[n]=M x k->Pre x->0<=k->k+c x<=K->F go (a,k,(n:Int))=go (a,k+c x,(n:Int)+1))
  (xs:List α) (k:Int) (hk:0<=k) (hK:k+mcnt c xs<=K) (h:xs.length<N) (hN:N<=1099511627776) (hP:∀x,x∈xs->Pre x):iter F N (markL M c xs k,k,0)=some (k+mcnt c xs):=by
 have hl:=jal M c xs k
 have:=iter_scan F xs.length (fun n=>(markL M c xs k,k+mcnt c (xs.take n),(n:Int))) (fun n=>some (k+mcnt c xs)) (fun go=>?_) (fun go n hn hgo=>?_) N 0 (zaf _) (by omega)
 .simpa [mcnt]using this
 .have:=hend go (markL M c xs k) (k+mcnt c xs)
  rw[hl]at this
  simp only[zq]
  exact this
 .have hc:=jbm c xs n hn
  have hle:=jcY c xs (n+1)
  have:=hstep go (markL M c xs k) n (by omega) (k+mcnt c (xs.take n)) xs[n] (by omega) (jdm M c xs k n hn) (hP _ (zr hn)) (by omega) (by omega)
  refine this.trans ?_
  rw[show k+(mcnt c (xs.take n):Int)+(c xs[n]:Int)=k+(mcnt c (xs.take (n+1)):Int)from by omega]
  simp only[cast_succ']at hgo
  exact hgo
end
abbrev Sm :Nat:=1048576
theorem SzP.imp {k j:Nat} {left:Int} {m:Option Int} {P Q:Prop} (h:SzP k left m P) (hj:j<=k) (hq:P->Q):SzP j left m Q:=h.mono fun u hu=>hu.imp id fun⟨a,b,c⟩=>⟨a,by omega,hq c⟩
theorem SzP.len2 {k:Nat} {left:Int} {n:Nat} {f:Option Int} {Q:Prop} (hn:n<=BigN) (h0:0<=left) (h1:left<=1048576) (hf:0<=left-n->left-n<=1048576->SzP k (left-n) f Q):
  SzP (k+n) left (if fits (left-(n:Int))then(bif decide (left-(n:Int)<0)then some (-1)else f)else none) (n<=Sm/\Q):=
 SzP.len hn h0 h1 (fun a b=>hf a (Int.le_trans b h1)) fun a b=>⟨a,b⟩
theorem SzP.then2 {k j:Nat} {left:Int} (h1:left<=1048576) {m:Option Int} {f:Int->Option Int} {P Q:Prop} (h:SzP k left m P) (hf:∀r,0<=r->r<=1048576->SzP j r (f r) Q):SzP (j+k) left (Option.bind m fun r=>bif decide (r<0)then some (-1)else f r) (P/\Q):=
 SzP.then h (fun r a b=>hf r a (Int.le_trans b h1)) fun a b=>⟨a,b⟩
end Go.Proofs.YtcinmmojlcchfaaGreatDoor
