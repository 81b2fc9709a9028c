/- Plain laws, for any program: loops, a logic of totals, the loops of the laws' own functions over all types. -/
import Derived.Test.YtkglkigmdmohkaaGreatDoorKY
set_option linter.unusedVariables false
set_option linter.unusedSimpArgs false
namespace Go.Proofs.YtkglkigmdmohkaaGreatDoor
open Go.RowKit
theorem idx_at {α:Type} {xs:List α} {n:Nat} (h:n<xs.length):idx xs (n:Int)=some xs[n]:=by
 simp only[idx,zf (Int.natCast_nonneg n),zai,zc h]
theorem iter_scan {δ ρ:Type} (F:(δ->Option ρ)->δ->Option ρ) (len:Nat) (st:Nat->δ) (spec:Nat->Option ρ)
  (hend:∀go,F go (st len)=spec len) (hstep:∀go n,n<len->go (st (n+1))=spec (n+1)->F go (st n)=spec n):
  ∀N n,n<=len->len-n<N->iter F N (st n)=spec n
 |0,n,_,h=>by omega
 |N+1,n,hn,h=>by
  show F (iter F N) (st n)=spec n
  by_cases e:n=len
  .rw [e];exact hend _
  .exact hstep _ n (by omega) (iter_scan F len st spec hend hstep N (n+1) (by omega) (by omega))
theorem cast_succ' (n:Nat):((n+1:Nat):Int)=(n:Int)+1:=by omega
theorem fits_nat {n:Nat} (h:(n:Int)<=9223372036854775806):fits ((n:Int)+1):=by unfold fits;omega
theorem jhZ {α:Type} [DecidableEq α] {a b:List α} {n:Nat} (h:n<a.length) (hb:n<b.length):(decide (a.drop n=b.drop n))=(decide (a[n]=b[n])&&decide (a.drop (n+1)=b.drop (n+1))):=by
 rw[zbH,zj,zw,zw,zw,zan h,zan hb,List.cons.injEq]
theorem room_of {n m b:Nat} (h:(n+m)*b<=140737488355328) (h2:((n+m:Nat):Int)<=9223372036854775000):room n m b:=⟨h,by omega⟩
def Def {α:Type} (m:Option α) (P:α->Prop):Prop:=∃r,m=some r/\P r
theorem Def.ret {α:Type} {x:α} {P:α->Prop} (h:P x):Def (some x) P:=⟨x,rfl,h⟩
theorem Def.mono {α:Type} {m:Option α} {P Q:α->Prop} (h:Def m P) (hq:∀r,P r->Q r):Def m Q:=by
 obtain⟨r,h1,h2⟩:=h
 exact⟨r,h1,hq r h2⟩
theorem Def.bind {α β:Type} {m:Option α} {f:α->Option β} {P:α->Prop} {Q:β->Prop} (h:Def m P) (hf:∀r,P r->Def (f r) Q):Def (Option.bind m f) Q:=by
 obtain⟨r,rfl,h2⟩:=h
 exact hf r h2
theorem Def.bif {α:Type} {b:Bool} {x y:Option α} {P:α->Prop} (h1:b=true->Def x P) (h2:b=false->Def y P):Def (bif b then x else y) P:=by
 cases b
 .exact h2 rfl
 .exact h1 rfl
theorem Def.dif {α:Type} {p:Prop} [Decidable p] {x y:Option α} {P:α->Prop} (h1:p->Def x P) (h2:¬p->Def y P):Def (bif decide p then x else y) P:=
 Def.bif (fun h=>h1 (of_decide_eq_true h)) (fun h=>h2 (of_decide_eq_false h))
theorem Def.ite {α:Type} {p:Prop} [Decidable p] {x:Option α} {P:α->Prop} (hp:p) (h:Def x P):Def (if p then x else none) P:=by
 rw[zf hp];exact h
theorem Def.eq {α:Type} {m:Option α} {x:α} (h:m=some x):Def m (fun r=>r=x):=⟨x,h,rfl⟩
theorem Def.get {α:Type} {m:Option α} {x:α} (h:Def m (fun r=>r=x)):m=some x:=by
 obtain⟨r,h1,rfl⟩:=h
 exact h1
theorem Def.idx {α β:Type} {xs:List α} {i:Int} {f:α->Option β} {Q:β->Prop} (h0:0<=i) (h1:i<xs.length) (h:∀x,x∈xs->xs[i.toNat]? =some x->Def (f x) Q):Def (Option.bind (idx xs i) f) Q:=by
 have hl:i.toNat<xs.length:=by omega
 have e:Go.Proofs.YtkglkigmdmohkaaGreatDoor.idx xs i=some xs[i.toNat]:=by simp only[Go.Proofs.YtkglkigmdmohkaaGreatDoor.idx,zf h0,zc hl]
 rw[e]
 exact h _ (zr hl) (zc hl)
theorem Def.cut {α β:Type} {xs:List α} {l h:Int} {f:List α->Option β} {Q:β->Prop} (h0:0<=l) (h1:l<=h) (h2:h<=xs.length) (hf:Def (f ((xs.take h.toNat).drop l.toNat)) Q):Def (Option.bind (cut xs l h) f) Q:=by
 unfold Go.Proofs.YtkglkigmdmohkaaGreatDoor.cut
 rw[zf ⟨h0,h1,h2⟩]
 exact hf
theorem Def.meet {δ ρ:Type} {J:δ->Option ρ} {X:(δ->Option ρ)->Option ρ} {P:ρ->Prop} (I:δ->Prop) (hJ:∀g,I g->Def (J g) P) (hX:∀J':δ->Option ρ,(∀g,I g->Def (J' g) P)->Def (X J') P):Def (meet J X) P:=hX J hJ
theorem Def.iter {δ ρ:Type} {F:(δ->Option ρ)->δ->Option ρ} {P:ρ->Prop} (I:δ->Prop) (meas:δ->Nat) (hstep:∀go g,I g->(∀g',I g'->meas g'<meas g->Def (go g') P)->Def (F go g) P):∀N g,I g->meas g<N->Def (iter F N g) P
 |0,g,_,h=>absurd h (Nat.not_lt_zero _)
 |N+1,g,hI,h=>hstep _ g hI fun g' hI' hm=>Def.iter I meas hstep N g' hI' (by omega)
theorem Def.upto {δ ρ:Type} {F:(δ->Option ρ)->δ->Option ρ} {P:ρ->Prop} (len:Nat) (I:Nat->δ->Prop) (hend:∀go g,I len g->Def (F go g) P) (hstep:∀go n g,n<len->I n g->(∀g',I (n+1) g'->Def (go g') P)->Def (F go g) P):∀N n g,n<=len->I n g->len-n<N->Def (Go.Proofs.YtkglkigmdmohkaaGreatDoor.iter F N g) P
 |0,n,g,_,_,h=>absurd h (Nat.not_lt_zero _)
 |N+1,n,g,hn,hI,h=>by
  show Def (F (Go.Proofs.YtkglkigmdmohkaaGreatDoor.iter F N) g) P
  by_cases e:n=len
  .subst e;exact hend _ g hI
  .exact hstep _ n g (by omega) hI fun g' hI'=>Def.upto len I hend hstep N (n+1) g' (by omega) hI' (by omega)
def mcnt {α:Type} (c:α->Nat):List α->Nat
 | []=>0
 |x::xs=>c x+mcnt c xs
def tot :(t:Tp)->t.D->Nat
 | .str,s=>List.length s
 | .pair a b,x=>tot b x.2+tot a x.1
 | .sl r,xs=>mcnt (tot r) xs+List.length xs
 |_,_=>0
section
variable {α : Type} (M : α -> Int -> α) (c : α -> Nat)
end
abbrev Sm :Nat:=1048576
end Go.Proofs.YtkglkigmdmohkaaGreatDoor
