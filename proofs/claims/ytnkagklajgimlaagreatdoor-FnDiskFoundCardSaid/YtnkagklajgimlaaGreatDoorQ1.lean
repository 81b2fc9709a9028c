/- Plain laws, for any program: loops, a logic of totals, the loops of the laws' own functions over all types. -/
import Derived.Test.YtnkagklajgimlaaGreatDoorKY
set_option linter.unusedVariables false
set_option linter.unusedSimpArgs false
namespace Go.Proofs.YtnkagklajgimlaaGreatDoor
open Go.RowKit
theorem aO {α:Type} {xs:List α} {n:Nat} (h:n<xs.length):idx xs (n:Int)=some xs[n]:=by
 simp only[idx,ai (Int.natCast_nonneg n),er,bH h]
theorem dB {d ρ:Type} (F:(d->Option ρ)->d->Option ρ) (len:Nat) (st:Nat->d) (spec:Nat->Option ρ)
  (b:∀go,F go (st len)=spec len) (a:∀go n,n<len->go (st (n+1))=spec (n+1)->F go (st n)=spec n):
  ∀N n,n<=len->len-n<N->iter F N (st n)=spec n
 |0,n,_,h=>by omega
 |N+1,n,f,h=>by
  show F (iter F N) (st n)=spec n
  by_cases e:n=len
  .rw [e];exact b _
  .exact a _ n (by omega) (dB F len st spec b a N (n+1) (by omega) (by omega))
theorem aR (n:Nat):((n+1:Nat):Int)=(n:Int)+1:=by omega
theorem aN {n:Nat} (h:(n:Int)<=9223372036854775806):fits ((n:Int)+1):=by unfold fits;omega
theorem afa {α:Type} [DecidableEq α] {a b:List α} {n:Nat} (h:n<a.length) (d:n<b.length):(decide (a.drop n=b.drop n))=(decide (a[n]=b[n])&&decide (a.drop (n+1)=b.drop (n+1))):=by
 rw[np,bk,bz,bz,bz,fC h,fC d,List.cons.injEq]
theorem b5 {n m b:Nat} (h:(n+m)*b<=140737488355328) (a:((n+m:Nat):Int)<=9223372036854775000):room n m b:=⟨h,by omega⟩
def Def {α:Type} (m:Option α) (P:α->Prop):Prop:=∃r,m=some r/\P r
theorem Def.ret {α:Type} {x:α} {P:α->Prop} (h:P x):Def (some x) P:=⟨x,rfl,h⟩
theorem Def.mono {α:Type} {m:Option α} {P Q:α->Prop} (h:Def m P) (a:∀r,P r->Q r):Def m Q:=by
 obtain⟨r,b,d⟩:=h
 exact⟨r,b,a r d⟩
theorem Def.bind {α β:Type} {m:Option α} {f:α->Option β} {P:α->Prop} {Q:β->Prop} (h:Def m P) (a:∀r,P r->Def (f r) Q):Def (Option.bind m f) Q:=by
 obtain⟨r,rfl,b⟩:=h
 exact a r b
theorem Def.bif {α:Type} {b:Bool} {x y:Option α} {P:α->Prop} (a:b=true->Def x P) (d:b=false->Def y P):Def (bif b then x else y) P:=by
 cases b
 .exact d rfl
 .exact a rfl
theorem Def.bL {α:Type} {p:Prop} [Decidable p] {x y:Option α} {P:α->Prop} (a:p->Def x P) (b:¬p->Def y P):Def (bif decide p then x else y) P:=
 Def.bif (fun h=>a (of_decide_eq_true h)) (fun h=>b (of_decide_eq_false h))
theorem Def.ite {α:Type} {p:Prop} [Decidable p] {x:Option α} {P:α->Prop} (a:p) (h:Def x P):Def (if p then x else none) P:=by
 rw[ai a];exact h
theorem Def.eq {α:Type} {m:Option α} {x:α} (h:m=some x):Def m (fun r=>r=x):=⟨x,h,rfl⟩
theorem Def.get {α:Type} {m:Option α} {x:α} (h:Def m (fun r=>r=x)):m=some x:=by
 obtain⟨r,a,rfl⟩:=h
 exact a
theorem Def.idx {α β:Type} {xs:List α} {i:Int} {f:α->Option β} {Q:β->Prop} (b:0<=i) (d:i<xs.length) (h:∀x,x∈xs->xs[i.toNat]? =some x->Def (f x) Q):Def (Option.bind (idx xs i) f) Q:=by
 have a:i.toNat<xs.length:=by omega
 have e:Go.Proofs.YtnkagklajgimlaaGreatDoor.idx xs i=some xs[i.toNat]:=by simp only[Go.Proofs.YtnkagklajgimlaaGreatDoor.idx,ai b,bH a]
 rw[e]
 exact h _ (bA a) (bH a)
theorem Def.cut {α β:Type} {xs:List α} {l h:Int} {f:List α->Option β} {Q:β->Prop} (a:0<=l) (b:l<=h) (d:h<=xs.length) (e:Def (f ((xs.take h.toNat).drop l.toNat)) Q):Def (Option.bind (cut xs l h) f) Q:=by
 unfold Go.Proofs.YtnkagklajgimlaaGreatDoor.cut
 rw[ai ⟨a,b,d⟩]
 exact e
theorem Def.meet {a ρ:Type} {J:a->Option ρ} {X:(a->Option ρ)->Option ρ} {P:ρ->Prop} (I:a->Prop) (d:∀g,I g->Def (J g) P) (e:∀b:a->Option ρ,(∀g,I g->Def (b g) P)->Def (X b) P):Def (meet J X) P:=e J d
theorem Def.iter {e ρ:Type} {F:(e->Option ρ)->e->Option ρ} {P:ρ->Prop} (I:e->Prop) (a:e->Nat) (b:∀go g,I g->(∀d,I d->a d<a g->Def (go d) P)->Def (F go g) P):∀N g,I g->a g<N->Def (iter F N g) P
 |0,g,_,h=>absurd h (sQ _)
 |N+1,g,i,h=>b _ g i fun d f hm=>Def.iter I a b N d f (by omega)
theorem Def.upto {f ρ:Type} {F:(f->Option ρ)->f->Option ρ} {P:ρ->Prop} (len:Nat) (I:Nat->f->Prop) (b:∀go g,I len g->Def (F go g) P) (a:∀go n g,n<len->I n g->(∀d,I (n+1) d->Def (go d) P)->Def (F go g) P):∀N n g,n<=len->I n g->len-n<N->Def (Go.Proofs.YtnkagklajgimlaaGreatDoor.iter F N g) P
 |0,n,g,_,_,h=>absurd h (sQ _)
 |N+1,n,g,k,j,h=>by
  show Def (F (Go.Proofs.YtnkagklajgimlaaGreatDoor.iter F N) g) P
  by_cases e:n=len
  .subst e;exact b _ g j
  .exact a _ n g (by omega) j fun d i=>Def.upto len I b a N (n+1) d (by omega) i (by omega)
def Qf {α:Type} (c:α->Nat):List α->Nat
 | []=>0
 |x::xs=>c x+Qf c xs
def sD :(t:aH)->t.D->Nat
 | .str,s=>List.length s
 | .pair a b,x=>sD b x.2+sD a x.1
 | .av r,xs=>Qf (sD r) xs+List.length xs
 |_,_=>0
section
variable {α : Type} (M : α -> Int -> α) (c : α -> Nat)
end
abbrev bF :Nat:=1048576
end Go.Proofs.YtnkagklajgimlaaGreatDoor
