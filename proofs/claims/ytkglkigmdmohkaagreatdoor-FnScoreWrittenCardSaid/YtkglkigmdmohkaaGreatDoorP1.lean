/- Plain laws: what is drawn. -/
import Derived.Test.YtkglkigmdmohkaaGreatDoorG1
set_option linter.unusedVariables false
set_option linter.unusedSimpArgs false
namespace Go.Proofs.YtkglkigmdmohkaaGreatDoor
open Go.RowKit
theorem jt2 {n:Int} (h0:0<=n) (h1:n<9223372036854775808):IntKind.i64.wrap n=n:=by
 simp only[IntKind.wrap,IntKind.bits,IntKind.signed]
 simp only[show((2:Int)^64)=18446744073709551616 by rfl,show((2:Int)^(64-1))=9223372036854775808 by rfl]
 have e:n%18446744073709551616=n:=Int.emod_eq_of_lt h0 (by omega)
 rw[e]
 have:¬(n≥9223372036854775808):=by omega
 simp[this]
theorem ju1 {x y:Int} (hx:0<=x/\x<9223372036854775808) (hy:0<=y/\y<9223372036854775808):0<=bitsI .xor .i64 x y:=by
 have e1:(BitVec.ofInt 64 x).toNat=x.toNat:=by
  rw[BitVec.toNat_ofInt]
  have:x%((2^64:Nat):Int)=x:=Int.emod_eq_of_lt hx.1 (by omega)
  rw[this]
 have e2:(BitVec.ofInt 64 y).toNat=y.toNat:=by
  rw[BitVec.toNat_ofInt]
  have:y%((2^64:Nat):Int)=y:=Int.emod_eq_of_lt hy.1 (by omega)
  rw[this]
 have hb:(BitVec.ofInt 64 x^^^BitVec.ofInt 64 y).toNat<2^63:=by
  rw[BitVec.toNat_xor,e1,e2]
  exact Nat.xor_lt_two_pow (by omega) (by omega)
 show 0<=IntKind.i64.wrap ((BitVec.ofInt 64 x^^^BitVec.ofInt 64 y).toNat:Int)
 rw[jt2 (by omega) (by omega)]
 omega
theorem jt4 {α:Type} {xs:List α} {i:Int} (h0:0<=i) (h1:i<xs.length):∃x,idx xs i=some x/\x∈xs:=by
 have h:i.toNat<xs.length:=by omega
 exact⟨xs[i.toNat],by simp only[idx,zf h0,zc h],zr h⟩
def Bs (b:List Int):Prop:=∀x,x∈b->0<=x/\x<=255
theorem juF (N:Nat) (n:Int) (b:List Int) (k:Int) (hb:Bs b) (h0:0<=k) (h1:k<=1099511627776) (hl:b.length<=2000):∃v,jtW N n b k=some (v,b,k+1)/\0<=v/\(1<=n->v<n)/\(n<1->v=0):=by
 unfold jtW
 rw[zf (by unfold fits;omega)]
 by_cases hn:n<1
 .exact ⟨0,by simp[hn],zbD _,fun h=>by omega,fun _=>rfl⟩
 have hn':decide (n<1)=false:=by simp[hn]
 simp only[hn',ze]
 by_cases hz:(b.length:Int)=0
 .exact ⟨0,by simp[hz],zbD _,fun h=>by omega,fun h=>absurd h hn⟩
 have hz':decide ((b.length:Int)=0)=false:=by simp only[hz,decide_false]
 have ek:k+1-1=k:=by omega
 have tm:∀x:Int,0<=x->0<=x.tmod n/\x.tmod n<n:=fun x hx=>⟨Int.tmod_nonneg n hx,Int.tmod_lt_of_pos x (by omega)⟩
 have tl:∀x:Int,0<=x->0<=x.tmod (b.length:Int)/\x.tmod (b.length:Int)<b.length:=fun x hx=>⟨Int.tmod_nonneg _ hx,Int.tmod_lt_of_pos x (by omega)⟩
 simp only[hz',ze,ek,zf (show fits k by unfold fits;omega)]
 by_cases hk:k<(b.length:Int)
 .obtain ⟨e,he,hm⟩:=jt4 h0 hk
  have:=hb e hm
  simp only[hk,decide_true,zg,he,za]
  rw[zf (by omega),jt2 (by omega) (by omega)]
  exact⟨_,rfl,(tm e (by omega)).1,fun _=>(tm e (by omega)).2,fun h=>absurd h hn⟩
 .have hk':decide (k<(b.length:Int))=false:=by simp only[hk,decide_false]
  obtain⟨e,he,hm⟩:=jt4 (xs:=b) (tl k h0).1 (tl k h0).2
  obtain⟨f,hf,hm2⟩:=jt4 (xs:=b) (tl (k*7+3) (by omega)).1 (tl (k*7+3) (by omega)).2
  have b1:=hb e hm
  have b2:=hb f hm2
  have w1:IntKind.i64.wrap e=e:=jt2 (by omega) (by omega)
  have w2:IntKind.i64.wrap f=f:=jt2 (by omega) (by omega)
  have d0:0<=k.tdiv (b.length:Int):=Int.tdiv_nonneg h0 (by omega)
  have d1:k.tdiv (b.length:Int)<=k:=by
   rw[zbW h0]
   exact Int.ediv_le_self _ h0
  obtain⟨d,hd⟩:∃d,d=k.tdiv (b.length:Int):=⟨_,rfl⟩
  simp only[hk',ze,he,hf,za,w1,w2,<-hd]
  rw[<-hd]at d0 d1
  obtain⟨x,hx⟩:∃x,x=e*131+f*1117+k*29+d*53:=⟨_,rfl⟩
  have x0:0<=x:=by omega
  have x1:x<4611686018427387904:=by omega
  have q0:0<=x.tdiv 64:=Int.tdiv_nonneg x0 (by omega)
  have q1:x.tdiv 64<=x:=by
   rw[zbW x0]
   exact Int.ediv_le_self _ x0
  have y0:=ju1 (x:=x) (y:=x.tdiv 64) ⟨x0,by omega⟩ ⟨q0,by omega⟩
  rw[zf hz,zf (by unfold fits;omega),zf (by unfold fits;omega),zf (by unfold fits;omega),zf hz,zf (by unfold fits;omega),zf (by unfold fits;omega),zf (by unfold fits;omega),zf (by unfold fits;omega),zf hz,
   zf (by unfold fits;omega),zf (by unfold fits;omega),zf (by unfold fits;omega),zf (by decide),<-hx,zf (by unfold fits;omega),zf (by omega)]
  exact⟨_,rfl,(tm _ y0).1,fun _=>(tm _ y0).2,fun h=>absurd h hn⟩
end Go.Proofs.YtkglkigmdmohkaaGreatDoor
