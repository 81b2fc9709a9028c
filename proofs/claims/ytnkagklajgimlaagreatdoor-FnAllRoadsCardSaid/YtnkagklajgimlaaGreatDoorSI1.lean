
import Derived.Test.YtnkagklajgimlaaGreatDoorSH1
import Derived.Test.YtnkagklajgimlaaGreatDoorD5
import Derived.Test.YtnkagklajgimlaaGreatDoorSF1
import Derived.Test.YtnkagklajgimlaaGreatDoorSG1
set_option linter.unusedVariables false
set_option linter.unusedSimpArgs false
namespace Go.Proofs.YtnkagklajgimlaaGreatDoor
open Go.RowKit
theorem acd {x:b8} (b:cf x=true) {n:Int} (g:0<=n) (i:n<=1000):∀f,f∈e7 x n->f.1.length<=1048576/\f.2.length<=1048576:=fun f a=>by
 have j:x.2.length<=5:=(gu b).2.1
 have c1:∀(ls:List b9) (k:Nat),(∀l,l∈ls->cf (x.1,[l])=true)->k+ls.length<=1000->(∀f,f∈fH n k ls->f.1.length<=44/\f.2.length<=1048576)/\(rk (fH n k ls)).length<=70*ls.length:=fun ls=>by
  induction ls with
  |nil=>exact fun k _ _=>⟨(fun f a=>by cases a),bg _⟩
  |cons l ls o=>
   intro k h b
   rw[ba]at b
   obtain⟨g1,g2⟩:=o (k+1) (fun l c=>h l (ch _ c)) (by omega)
   have e:=OA g i (k:=(k:Int)) (by omega) (by omega)
   refine⟨fun f a=>?_,?_⟩
   .rcases bn.1 (show f∈(fk n (k:Int),fa l.1.1 l.2)::fH n (k+1) ls from a)with rfl|a
    .exact ⟨e,OD (h l cb)⟩
    .exact g1 f a
   .have:=OC (f:=(fk n (k:Int),fa l.1.1 l.2)) e
    rw[show fH n k (l::ls)=(fk n (k:Int),fa l.1.1 l.2)::fH n (k+1) ls from rfl,OB,bh,ba]
    omega
 obtain⟨g1,g2⟩:=c1 x.2 0 (fun l c=>H4 b c) (by omega)
 unfold e7 at a
 rw[cE,du]at a
 rcases a with a|rfl
 .have:=g1 f a
  omega
 .have p:=kc (n:=1000+n) (by omega) (by omega)
  refine⟨?_,?_⟩
  .unfold fP
   rw[bh,ba,ba,ba,bH]
   omega
  .show (rk (fH n 0 x.2)++w5).length<=1048576
   rw[bh,show w5.length=3 from rfl]
   omega
theorem OP (x:bu):∀(a d:List bu),x∈writeAll a d->x∈a\/x∈d
 | [],d,h=>.inr h
 |f::a,d,h=>by
  rw[zr]at h
  rcases OP x a _ h with h|h
  .exact .inl (ch _ h)
  .rcases EY f x d h with rfl|h
   .exact .inl cb
   .exact .inr h
theorem acH {w:Int} {a:List bu} {f:bu} (h:f∈fp w a):f∈a:=by
 unfold fp at h
 cases hw:decide (w<0)with
 |true=>rw[hw]at h;exact h
 |false=>rw[hw]at h;exact fC h
theorem Xa {d:List bu} (i:n4 d) (x:b8) (w:Int):n4 (uw d x w).1:=by
 unfold uw
 cases c:l1 d with
 |false=>exact⟨bg _,(fun f a=>by cases a)⟩
 |true=>
  cases j:cf x with
  |false=>exact⟨bg _,(fun f a=>by cases a)⟩
  |true=>
   rw[fD,ao]
   cases k:decide (99<ei d+1)||decide (24<d.length+6)with
   |true=>rw[HI k];exact i
   |false=>
    have e:ei d<=99:=HJ d 99
    have g:d.length<=24:=(JQ c).c7
    have l:x.2.length<=5:=(gu j).2.1
    rw[OS k]
    have b:=acd j (n:=((ei d+1:Nat):Int)) (by omega) (by omega)
    have h:(e7 x ((ei d+1:Nat):Int)).length<=6:=by rw[Ap];omega
    have hw:n4 (writeAll (fp w (e7 x ((ei d+1:Nat):Int))) d):=by
     refine⟨by have:=acI w _ d h g;omega,fun f a=>?_⟩
     rcases OP f _ d a with a|a
     .exact b f (acH a)
     .exact i.each f a
    dsimp only
    cases decide (w<0)||decide (((e7 x ((ei d+1:Nat):Int)).length:Int)<w)with
    |false=>exact hw
    |true=>
     rw[ao]
     exact⟨dS (OQ ((ei d+1:Nat):Int) _) hw.len,fun f a=>hw.each f (gH.1 a).1⟩
structure aso (B m:Nat) (P:Nat->List UInt8->Prop) (d:List bu):Prop where
 c7:d.length<=30
 each:∀f,f∈d->f.1.length<=44/\f.2.length<=B
 inv:V2 m P d
theorem R1 (c:aK) (d:List bu):∀n,re c d n=vK c d n
 |0=>rfl
 |n+1=>by
  unfold re vK
  rw[R1 c d n]<;>cases nF c d ((n+1:Nat):Int)<;>rfl
theorem aoZ {c:aK} {d:List bu} (a:dQ c=true) (b:l1 d=true):DD c d=DC c d:=by
 unfold DD DC
 rw[a,b,rO,ao,R1]
theorem SC :l1 []=true:=by decide
end Go.Proofs.YtnkagklajgimlaaGreatDoor
