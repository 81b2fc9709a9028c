
import Derived.Test.YtnkagklajgimlaaGreatDoorSD1
import Derived.Test.YtnkagklajgimlaaGreatDoorSE1
import Derived.Test.YtnkagklajgimlaaGreatDoorSI1
set_option linter.unusedVariables false
set_option linter.unusedSimpArgs false
namespace Go.Proofs.YtnkagklajgimlaaGreatDoor
open Go.RowKit
theorem VQ (N:Nat) (l:List dy) (h:l.length<N) (d:l.length<=1000000):Ar N l l=some true:=by
 refine Def.get ?_
 unfold Ar
 rw[aq rfl,bn,aj]
 refine Def.upto l.length (fun n v=>v=(l,l,(n:Int))) (fun go v a=>?_) (fun go n v c a b=>?_) N 0 _ (bg _) rfl (by omega)
 .subst a
  dsimp only
  rw[ak (bp _),aj]
  exact Def.ret rfl
 .subst a
  dsimp only
  rw[aq (by omega:(n:Int)<l.length),ao,aO c,af,af,aq rfl,aq rfl,pB,bn,aj,ai (aN (n:=n) (by omega))]
  exact b _ (by rw[aR])
def part (H:List dy) (many most k:Nat):List dy:=(nc (H.filter (amm (many:Int) (k:Int)))).take most
structure anM (H:List dy):Prop where
 cS:H.length<=16
 aof:pJ H
 val:∀x,x∈H->1<=x.1/\x.1<=9999/\1<=x.2
theorem VM {N:Nat} (i:1048600<=N) (a:N<=16777216) (code more:List Int) (v:ns code) (j:ns more):BR N code more=some true:=by
 have y:bF<N:=by show 1048576<N;omega
 refine Def.get ?_
 unfold BR
 refine Def.bL (fun _=>Def.ret rfl) (fun _=>Def.bL (fun _=>Def.ret rfl) (fun _=>?_))
 refine Def.bind (Vb N i a v) fun r ⟨D,k⟩=>?_
 refine Def.bind (Vc N y a j) fun c ⟨_,yN,_⟩=>?_
 obtain⟨d,s,a2,a3,w⟩:=r
 dsimp only at D k⊢
 have F:=D.fit (bC _)
 have f:=k.fit
 obtain⟨x,g⟩:∃x:ca,x=((s,a2),a3):=⟨_,rfl⟩
 have z:s=x.1.1:=by rw[g]
 have A:a2=x.1.2:=by rw[g]
 have B:a3=x.2:=by rw[g]
 rw[<-g]at f
 clear k g
 subst z A B
 have t:=UB D.cS x (-1)
 have C:=U2 i a d F f (-1)
 have G:=KF i a d F f (-1)
 have I:=VP N (jG d x (-1)).1 (by omega) a
 have t1:=YC f yN 16
 have M:=(Yr f yN 16).1
 have t3:=VQ N (tT N x (.mk c.2.2.2.1 c.2.2.2.2.1 c.2.2.2.2.2.1 c.2.2.2.2.2.2.1 c.2.2.2.2.2.2.2.1 c.2.2.2.2.2.2.2.2.1) 16) (by omega) (by omega)
 dsimp only[bf.kind,bf.field,bf.words,bf.lo,bf.hi,bf.kids]at t1
 simp only[C,G,I,af,decide_true,bn,aj,ao]
 rcases Kn d x (-1)with e|⟨J,l,⟨_,e⟩|⟨b,e,K⟩⟩
 .rw [e]
  exact Def.ret rfl
 .rw [e]
  exact Def.ret rfl
 .have h:¬(jG d x (-1)).2<=0:=by rw[e,K];omega
  rw[ak h,aj]
  have P:=uK J
  have o:x.2.length<=5:=(gg l).2.1
  have L:dQ x.1=true:=(gg l).1
  have p:jk (ka d x (-1)).1=true:=(UF P o (-1)).ok
  obtain⟨g1,g2⟩:=UG l b (-1) (.inl (by decide))
  have u:=UC F x (-1)
  rw[e]at u
  rw[e,U4 i a x.1 f.cV _ u,af,ak2 L p,g2]
  unfold QI
  dsimp only
  rw[t1,af,af,t3,af]
  exact Def.ret rfl
theorem VN (a b:List Int) (c:cz yo (.av (.int .u8)) a) (d:cz yo (.av (.int .u8)) b):BR 1048700 a b=some true:=VM (by omega) (by omega) a b (Kb c) (Kb d)
end Go.Proofs.YtnkagklajgimlaaGreatDoor
