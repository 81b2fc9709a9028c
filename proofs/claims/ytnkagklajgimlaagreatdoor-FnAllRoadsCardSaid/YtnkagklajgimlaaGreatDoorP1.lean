/- Plain laws: what is drawn. -/
import Derived.Test.YtnkagklajgimlaaGreatDoorG1
set_option linter.unusedVariables false
set_option linter.unusedSimpArgs false
namespace Go.Proofs.YtnkagklajgimlaaGreatDoor
open Go.RowKit
theorem wrap64 {n:Int} (a:0<=n) (b:n<9223372036854775808):IntKind.i64.wrap n=n:=by
 simp only[IntKind.wrap,IntKind.bits,IntKind.signed]
 simp only[show((2:Int)^64)=18446744073709551616 by rfl,show((2:Int)^(64-1))=9223372036854775808 by rfl]
 have e:n%18446744073709551616=n:=wz a (by omega)
 rw[e]
 have:¬(n≥9223372036854775808):=by omega
 simp[this]
theorem amp {x y:Int} (a:0<=x/\x<9223372036854775808) (hy:0<=y/\y<9223372036854775808):0<=ey .xor .i64 x y:=by
 have b:(BitVec.ofInt 64 x).toNat=x.toNat:=by
  rw[BitVec.toNat_ofInt]
  have:x%((2^64:Nat):Int)=x:=wz a.1 (by omega)
  rw[this]
 have c:(BitVec.ofInt 64 y).toNat=y.toNat:=by
  rw[BitVec.toNat_ofInt]
  have:y%((2^64:Nat):Int)=y:=wz hy.1 (by omega)
  rw[this]
 have d:(BitVec.ofInt 64 x^^^BitVec.ofInt 64 y).toNat<2^63:=by
  rw[BitVec.toNat_xor,b,c]
  exact wy (by omega) (by omega)
 show 0<=IntKind.i64.wrap ((BitVec.ofInt 64 x^^^BitVec.ofInt 64 y).toNat:Int)
 rw[wrap64 (by omega) (by omega)]
 omega
theorem IG {α:Type} {xs:List α} {i:Int} (a:0<=i) (b:i<xs.length):∃x,idx xs i=some x/\x∈xs:=by
 have h:i.toNat<xs.length:=by omega
 exact⟨xs[i.toNat],by simp only[idx,ai a,bG h],br h⟩
def qs (b:List Int):Prop:=∀x,x∈b->0<=x/\x<=255
theorem api (N:Nat) (n:Int) (b:List Int) (k:Int) (o:qs b) (a:0<=k) (H:k<=1099511627776) (I:b.length<=2000):∃v,fj N n b k=some (v,b,k+1)/\0<=v/\(1<=n->v<n)/\(n<1->v=0):=by
 unfold fj
 rw[ai (by unfold fits;omega)]
 by_cases c:n<1
 .exact ⟨0,by simp[c],ic _,fun h=>by omega,fun _=>rfl⟩
 have p:decide (n<1)=false:=by simp[c]
 simp only[p,aj]
 by_cases g:(b.length:Int)=0
 .exact ⟨0,by simp[g],ic _,fun h=>by omega,fun h=>absurd h c⟩
 have r:decide ((b.length:Int)=0)=false:=by simp only[g,decide_false]
 have B:k+1-1=k:=by omega
 have j:∀x:Int,0<=x->0<=x.tmod n/\x.tmod n<n:=fun x i=>⟨Int.tmod_nonneg n i,Int.tmod_lt_of_pos x (by omega)⟩
 have iW:∀x:Int,0<=x->0<=x.tmod (b.length:Int)/\x.tmod (b.length:Int)<b.length:=fun x i=>⟨Int.tmod_nonneg _ i,Int.tmod_lt_of_pos x (by omega)⟩
 simp only[r,aj,B,ai (show fits k by unfold fits;omega)]
 by_cases s:k<(b.length:Int)
 .obtain ⟨e,he,hm⟩:=IG a s
  have:=o e hm
  simp only[s,decide_true,ao,he,ag]
  rw[ai (by omega),wrap64 (by omega) (by omega)]
  exact⟨_,rfl,(j e (by omega)).1,fun _=>(j e (by omega)).2,fun h=>absurd h c⟩
 .have t:decide (k<(b.length:Int))=false:=by simp only[s,decide_false]
  obtain⟨e,he,hm⟩:=IG (xs:=b) (iW k a).1 (iW k a).2
  obtain⟨f,C,u⟩:=IG (xs:=b) (iW (k*7+3) (by omega)).1 (iW (k*7+3) (by omega)).2
  have ew:=o e hm
  have a8:=o f u
  have ev:IntKind.i64.wrap e=e:=wrap64 (by omega) (by omega)
  have F:IntKind.i64.wrap f=f:=wrap64 (by omega) (by omega)
  have d0:0<=k.tdiv (b.length:Int):=Int.tdiv_nonneg a (by omega)
  have d1:k.tdiv (b.length:Int)<=k:=by
   rw[E2 a]
   exact Int.ediv_le_self _ a
  obtain⟨d,z⟩:∃d,d=k.tdiv (b.length:Int):=⟨_,rfl⟩
  simp only[t,aj,he,C,ag,ev,F,<-z]
  rw[<-z]at d0 d1
  obtain⟨x,i⟩:∃x,x=e*131+f*1117+k*29+d*53:=⟨_,rfl⟩
  have l:0<=x:=by omega
  have J:x<4611686018427387904:=by omega
  have G:0<=x.tdiv 64:=Int.tdiv_nonneg l (by omega)
  have K:x.tdiv 64<=x:=by
   rw[E2 l]
   exact Int.ediv_le_self _ l
  have A:=amp (x:=x) (y:=x.tdiv 64) ⟨l,by omega⟩ ⟨G,by omega⟩
  rw[ai g,ai (by unfold fits;omega),ai (by unfold fits;omega),ai (by unfold fits;omega),ai g,ai (by unfold fits;omega),ai (by unfold fits;omega),ai (by unfold fits;omega),ai (by unfold fits;omega),ai g,
   ai (by unfold fits;omega),ai (by unfold fits;omega),ai (by unfold fits;omega),ai (by decide),<-i,ai (by unfold fits;omega),ai (by omega)]
  exact⟨_,rfl,(j _ A).1,fun _=>(j _ A).2,fun h=>absurd h c⟩
end Go.Proofs.YtnkagklajgimlaaGreatDoor
