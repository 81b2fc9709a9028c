
import Derived.Test.YtnkagklajgimlaaGreatDoorSH1
import Derived.Test.YtnkagklajgimlaaGreatDoorD5
import Derived.Test.YtnkagklajgimlaaGreatDoorSF1
import Derived.Test.YtnkagklajgimlaaGreatDoorSG1
set_option linter.unusedVariables false
set_option linter.unusedSimpArgs false
namespace Go.Proofs.YtnkagklajgimlaaGreatDoor
open Go.RowKit
theorem ZQ {x:ca} (b:ct x=true) {n:Int} (g:0<=n) (i:n<=1000):∀f,f∈dF x n->f.1.length<=1048576/\f.2.length<=1048576:=fun f a=>by
 have j:x.2.length<=5:=(gg b).2.1
 have cQ:∀(ls:List b0) (k:Nat),(∀l,l∈ls->ct (x.1,[l])=true)->k+ls.length<=1000->(∀f,f∈dW n k ls->f.1.length<=44/\f.2.length<=1048576)/\(lq (dW n k ls)).length<=70*ls.length:=fun ls=>by
  induction ls with
  |nil=>exact fun k _ _=>⟨(fun f a=>by cases a),bg _⟩
  |cons l ls o=>
   intro k h b
   rw[aZ]at b
   obtain⟨g1,g2⟩:=o (k+1) (fun l c=>h l (b7 _ c)) (by omega)
   have e:=Al g i (k:=(k:Int)) (by omega) (by omega)
   refine⟨fun f a=>?_,?_⟩
   .rcases bm.1 (show f∈(dZ n (k:Int),dn l.1.1 l.2)::dW n (k+1) ls from a)with rfl|a
    .exact ⟨e,F3 (h l b6)⟩
    .exact g1 f a
   .have:=Ap (f:=(dZ n (k:Int),dn l.1.1 l.2)) e
    rw[show dW n k (l::ls)=(dZ n (k:Int),dn l.1.1 l.2)::dW n (k+1) ls from rfl,Ao,a1,aZ]
    omega
 obtain⟨g1,g2⟩:=cQ x.2 0 (fun l c=>AJ b c) (by omega)
 unfold dF at a
 rw[cp,c1]at a
 rcases a with a|rfl
 .have:=g1 f a
  omega
 .have p:=gU (n:=1000+n) (by omega) (by omega)
  refine⟨?_,?_⟩
  .unfold eV
   rw[a1,aZ,aZ,aZ,bE]
   omega
  .show (lq (dW n 0 x.2)++mz).length<=1048576
   rw[a1,show mz.length=3 from rfl]
   omega
theorem Jz (x:a7):∀(a d:List a7),x∈writeAll a d->x∈a\/x∈d
 | [],d,h=>.inr h
 |f::a,d,h=>by
  rw[vi]at h
  rcases Jz x a _ h with h|h
  .exact .inl (b7 _ h)
  .rcases yi f x d h with rfl|h
   .exact .inl b6
   .exact .inr h
theorem Sf {w:Int} {a:List a7} {f:a7} (h:f∈dC w a):f∈a:=by
 unfold dC at h
 cases hw:decide (w<0)with
 |true=>rw[hw]at h;exact h
 |false=>rw[hw]at h;exact fK h
theorem UC {d:List a7} (i:lL d) (x:ca) (w:Int):lL (jG d x w).1:=by
 unfold jG
 cases c:jk d with
 |false=>exact⟨bg _,(fun f a=>by cases a)⟩
 |true=>
  cases j:ct x with
  |false=>exact⟨bg _,(fun f a=>by cases a)⟩
  |true=>
   rw[fX,ao]
   cases k:decide (99<cc d+1)||decide (24<d.length+6)with
   |true=>rw[rb k];exact i
   |false=>
    have e:cc d<=99:=xw d 99
    have g:d.length<=24:=(uK c).cS
    have l:x.2.length<=5:=(gg j).2.1
    rw[tl k]
    have b:=ZQ j (n:=((cc d+1:Nat):Int)) (by omega) (by omega)
    have h:(dF x ((cc d+1:Nat):Int)).length<=6:=by rw[rl];omega
    have hw:lL (writeAll (dC w (dF x ((cc d+1:Nat):Int))) d):=by
     refine⟨by have:=EJ w _ d h g;omega,fun f a=>?_⟩
     rcases Jz f _ d a with a|a
     .exact b f (Sf a)
     .exact i.each f a
    dsimp only
    cases decide (w<0)||decide (((dF x ((cc d+1:Nat):Int)).length:Int)<w)with
    |false=>exact hw
    |true=>
     rw[ao]
     exact⟨dK (yR ((cc d+1:Nat):Int) _) hw.len,fun f a=>hw.each f (hp.1 a).1⟩
theorem VP (N:Nat) (l:List a7) (c:l.length<N) (e:N<=16777216):rP N l l=some true:=by
 unfold rP
 rw[aq rfl,bn,aj]
 refine(dB _ l.length (fun n=>((n:Int),l,l)) (fun _=>some true) (fun go=>?_) (fun go n b a=>?_) N 0 (bg _) (by omega)).trans rfl
 .dsimp only
  rw[ak (bp _),aj]
 .dsimp only
  rw[aq (by omega:(n:Int)<l.length),ao,aO b,af,af,aq rfl,aq rfl,pB,bn,aj,ai (aN (n:=n) (by omega)),<-a,aR]
theorem VG {x:ca} (c:x.2.length<=6) {B:Nat} (r:500<=B) (e:∀l,l∈x.2->(dn l.1.1 l.2).length<=B) {n:Int} (g:0<=n) (i:n<=1000):∀f,f∈dF x n->f.1.length<=44/\f.2.length<=B:=fun f a=>by
 have cQ:∀(ls:List b0) (k:Nat),(∀l,l∈ls->(dn l.1.1 l.2).length<=B)->k+ls.length<=1000->(∀f,f∈dW n k ls->f.1.length<=44/\f.2.length<=B)/\(lq (dW n k ls)).length<=70*ls.length:=fun ls=>by
  induction ls with
  |nil=>exact fun k _ _=>⟨(fun f a=>by cases a),bg _⟩
  |cons l ls j=>
   intro k h o
   rw[aZ]at o
   obtain⟨g1,g2⟩:=j (k+1) (fun l p=>h l (b7 _ p)) (by omega)
   have b:=Al g i (k:=(k:Int)) (by omega) (by omega)
   refine⟨fun f a=>?_,?_⟩
   .rcases bm.1 (show f∈(dZ n (k:Int),dn l.1.1 l.2)::dW n (k+1) ls from a)with rfl|a
    .exact ⟨b,h l b6⟩
    .exact g1 f a
   .have:=Ap (f:=(dZ n (k:Int),dn l.1.1 l.2)) b
    rw[show dW n k (l::ls)=(dZ n (k:Int),dn l.1.1 l.2)::dW n (k+1) ls from rfl,Ao,a1,aZ]
    omega
 obtain⟨g1,g2⟩:=cQ x.2 0 e (by omega)
 unfold dF at a
 rw[cp,c1]at a
 rcases a with a|rfl
 .exact g1 f a
 .have s:=gU (n:=1000+n) (by omega) (by omega)
  refine⟨?_,?_⟩
  .unfold eV
   rw[a1,aZ,aZ,aZ,bE]
   omega
  .show (lq (dW n 0 x.2)++mz).length<=B
   rw[a1,show mz.length=3 from rfl]
   omega
structure lJ (B m:Nat) (P:Nat->List UInt8->Prop) (d:List a7):Prop where
 cS:d.length<=30
 each:∀f,f∈d->f.1.length<=44/\f.2.length<=B
 inv:lM m P d
theorem lJ.nil (B m:Nat) (P:Nat->List UInt8->Prop):lJ B m P []:=⟨bg _,(fun f a=>by cases a),(fun f a=>by cases a)⟩
theorem lJ.fit {B m:Nat} {P:Nat->List UInt8->Prop} {d:List a7} (h:lJ B m P d) (b:B<=1048576):lL d:=⟨by have:=h.cS;omega,fun f a=>by have:=h.each f a;omega⟩
theorem lJ.UA {N m:Nat} {d:List a7} (h:lJ 1000000 m j2 d) (hm:m+1<=9) {x:ca} (F:fv N x) (w:Int):lJ 1000000 (m+1) j2 (jG d x w).1:=by
 have up:lM (m+1) j2 d:=fun f a k p r e=>⟨sW (h.inv f a k p r e).1,(h.inv f a k p r e).2⟩
 unfold jG
 cases g:jk d with
 |false=>exact .nil _ _ _
 |true=>
  cases u:ct x with
  |false=>exact .nil _ _ _
  |true=>
   rw[fX,ao]
   have hinv:=UE (x:=x) h.inv hm w
   cases s:decide (99<cc d+1)||decide (24<d.length+6)with
   |true=>
    rw[rb s]at hinv⊢
    exact⟨h.cS,h.each,hinv⟩
   |false=>
    have i:cc d<=99:=xw d 99
    have j:d.length<=24:=(uK g).cS
    have b:=VG F.cS (B:=1000000) (by omega) (fun l v=>(F.one v).2) (n:=((cc d+1:Nat):Int)) (by omega) (by omega)
    have y:x.2.length<=5:=(gg u).2.1
    have o:(dF x ((cc d+1:Nat):Int)).length<=6:=by rw[rl];omega
    rw[tl s]at hinv⊢
    have hw:∀f,f∈writeAll (dC w (dF x ((cc d+1:Nat):Int))) d->f.1.length<=44/\f.2.length<=1000000:=fun f a=>by
     rcases Jz f _ d a with a|a
     .exact b f (Sf a)
     .exact h.each f a
    have c:=EJ w _ d o j
    dsimp only at hinv⊢
    cases t:decide (w<0)||decide (((dF x ((cc d+1:Nat):Int)).length:Int)<w)with
    |false=>
     rw[t,aj]at hinv
     exact⟨c,hw,hinv⟩
    |true=>
     rw[t,ao]at hinv
     exact⟨dK (yR _ _) c,fun f a=>hw f (hp.1 a).1,hinv⟩
theorem TN {N:Nat} {x:ca} (F:fv N x) {ad:List aC} (h:DE ad 100):fv N (lQ ad x).1:=JQ F.fit fun d a=>(h.each d a).1
theorem U5 (N:Nat) (A:1048600<=N) (a:N<=16777216) {b:List Int} {k:Int} (h:dz b k 0):Def (CO N b k) fun r=>lJ 1000000 3 j2 r.1/\fv N ((r.2.1,r.2.2.1),r.2.2.2.1)/\dz r.2.2.2.2.1 r.2.2.2.2.2 20000:=by
 have C:bF<N:=by show 1048576<N;omega
 unfold CO
 refine Def.bind (KM N C a h (by omega)) fun r ⟨F,i⟩=>?_
 refine Def.bind (e7 N 4 i (by omega)) fun l ⟨G,t,_,j⟩=>?_
 have t:=t (by omega)
 refine Def.iter (fun g=>∃(n m:Nat) (d:List a7) (x:ca) (e0:List Int) (o:Int),g=((n:Int),d,x.1.1,x.1.2,x.2,e0,o)/\n+m<=3/\lJ 1000000 m j2 d/\fv N x/\dz e0 o (7001+701*m)) (fun g=>g.1.toNat) (fun go g H I=>?_) N _ ⟨l.1.toNat,0,[],((r.1,r.2.1),r.2.2.1),l.2.1,l.2.2,?_,by omega,.nil _ _ _,F,j⟩ (by dsimp only;omega)
 .obtain ⟨n,m,d,x,e0,o,rfl,J,D,c,u⟩:=H
  dsimp only
  cases n with
  |zero=>
   rw[ak (by decide:¬(0:Int)<((0:Nat):Int)),aj]
   refine Def.ret ⟨⟨D.cS,D.each,fun f v k i j e=>⟨by have:=(D.inv f v k i j e).1;omega,(D.inv f v k i j e).2⟩⟩,c,u.le (by omega)⟩
  |succ n=>
   rw[aq (by omega:(0:Int)<((n+1:Nat):Int)),ao]
   refine Def.bind (one_def N (by decide) u (by omega)) fun y ⟨_,K⟩=>?_
   rw[KF A a d (D.fit (by omega)) c.fit y.1,af]
   refine Def.bind (KJ N K (by omega) (by omega)) fun p ⟨s,L⟩=>?_
   have z:=s.cS
   rw[JO c.fit (fun d hm=>(s.each d hm).1) (by omega),af]
   refine Def.ite (by unfold fits;omega) (I _ ⟨n,m+1,(jG d x y.1).1,(lQ p.1 x).1,p.2.1,p.2.2,?_,by omega,D.UA (by omega) c _,TN c s,L.le (by omega)⟩ (by dsimp only;omega))
   rw[show((n+1:Nat):Int)-1=(n:Int)from by omega]
 .rw [pC G]
theorem T5 (N:Nat) (s:List UInt8) (C:s.length<=1000000) {b:List Int} {k:Int} {j:Nat} (h:dz b k j) (F:j<=100000):Def (CM N s b k) fun r=>r.1.length<=1048576/\oz s r.1/\dz r.2.1 r.2.2 (j+3):=by
 unfold CM
 refine Def.ite (aN (by omega)) ?_
 refine Def.bind (e7 N _ h (by omega)) fun r ⟨G,i,_,v⟩=>?_
 have i:=i (by omega)
 refine Def.bind (e7 N 5 v (by omega)) fun u ⟨_,_,_,g⟩=>?_
 obtain⟨n,x⟩:∃n:Nat,r.1=(n:Int):=⟨r.1.toNat,by omega⟩
 rw[x]at i⊢
 have same:Def (some (s,u.2.1,u.2.2)) fun r:List UInt8×List Int×Int=>r.1.length<=1048576/\oz s r.1/\dz r.2.1 r.2.2 (j+3):=Def.ret ⟨by dsimp only;omega,.same,g.le (by omega)⟩
 refine Def.bL (fun _=>?_) (fun _=>Def.bL (fun _=>?_) (fun _=>Def.bL (fun _=>?_) (fun _=>same)))
 .refine Def.bL (fun y=>?_) (fun _=>same)
  refine Def.cut (by omega) (by omega) (by omega) ?_
  refine Def.bind (pe N (by decide) g (by omega)) fun l ⟨hm,o⟩=>?_
  have p:∃c:UInt8,l.1=[c]/\c∈([48,49,32,40,41,10,58,128]:List UInt8):=by
   simp only[bm,qW,or_false]at hm
   rcases hm with e|e|e|e|e|e|e|e<;>exact⟨_,e,by decide⟩
  obtain⟨c,t,a⟩:=p
  rw[t]
  have z:(s.take ((n:Int)).toNat).drop (Int.toNat 0)=s.take n:=by rw[er];rfl
  rw[z]
  have H:(s.take n).length<=s.length:=by rw[bX];omega
  refine Def.ite (by rw[bS];omega) (Def.ite (aN (by omega)) ?_)
  refine Def.cut (by omega) (by omega) (by omega) ?_
  have A:(s.take (Int.toNat (s.length:Int))).drop ((n:Int)+1).toNat=s.drop (n+1):=by
   rw[er,kX (bC _),show((n:Int)+1).toNat=n+1 from by omega]
  rw[A]
  have I:(s.drop (n+1)).length<=s.length:=by rw[eY];omega
  refine Def.ite (by rw[a1,bS];omega) (Def.ret ⟨?_,.set n c a,o.le (by omega)⟩)
  dsimp only
  rw[a1,a1,bS,bX,eY]
  omega
 .refine Def.cut (by omega) (by omega) (by omega) (Def.ret ⟨?_,?_,g.le (by omega)⟩)
  .dsimp only
   rw[eY,bX]
   omega
  .show oz s ((s.take ((n:Int)).toNat).drop (Int.toNat 0))
   exact .pre _
 .refine Def.bind (pe N (by decide) g (by omega)) fun l ⟨hm,o⟩=>?_
  have p:∃c:UInt8,l.1=[c]/\c∈([48,32,41,10]:List UInt8):=by
   simp only[bm,qW,or_false]at hm
   rcases hm with e|e|e|e<;>exact⟨_,e,by decide⟩
  obtain⟨c,t,a⟩:=p
  rw[t]
  refine Def.ite (by rw[bS];omega) (Def.ret ⟨?_,.post c a,o.le (by omega)⟩)
  dsimp only
  rw[a1,bS]
  omega
theorem V1 {k:Int} {aW:List UInt8} (h:aW∈([[],[122,122],[65]]:List (List UInt8))):aW≠eV k:=fun e=>by
 have a:∀l:List UInt8,eV k=l->3<=l.length:=fun l e=>by
  rw[<-e]
  unfold eV
  rw[a1]
  exact Nat.le_add_right _ _
 simp only[bm,qW,or_false]at h
 rcases h with rfl|rfl|rfl
 .exact absurd (a _ e.symm) (by decide)
 .exact absurd (a _ e.symm) (by decide)
 .exact absurd (a _ e.symm) (by decide)
theorem TW (N:Nat) (A:1048600<=N) (x:N<=16777216) {b:List Int} {k:Int} (h:dz b k 0):Def (CK N b k) fun r=>lJ 1048576 3 s6 r.1/\fv N ((r.2.1,r.2.2.1),r.2.2.2.1)/\dz r.2.2.2.2.1 r.2.2.2.2.2 30000:=by
 unfold CK
 refine Def.bind (U5 N A x h) fun r ⟨D,F,g⟩=>?_
 have i:=D.cS
 have y:lJ 1048576 3 s6 r.1:=⟨D.cS,fun f a=>by have:=D.each f a;omega,D.inv.mk (by omega)⟩
 simp only[fj]
 refine Def.ite (b5 (by rw[show([]:List a7).length=0 from rfl,gK];omega) (by rw[show([]:List a7).length=0 from rfl,gK];omega)) ?_
 refine Def.bL (fun C=>?_) (fun _=>Def.ret ⟨y,F,g.le (by omega)⟩)
 refine Def.bind (e7 N _ g (by omega)) fun z ⟨H,u,_,j⟩=>?_
 have u:=u (by omega)
 refine Def.bind (e7 N 12 j (by omega)) fun I ⟨_,_,_,v⟩=>?_
 obtain⟨n,G⟩:∃n:Nat,z.1=(n:Int):=⟨z.1.toNat,by omega⟩
 rw[G]at u⊢
 have s:n<r.1.length:=by omega
 have t:r.1[((n:Int)).toNat]? =some r.1[n]:=by rw[er];exact bH s
 have o:(0:Int)<=(n:Int)/\(n:Int)<r.1.length:=⟨by omega,u⟩
 have l:=bA s
 have he:=D.each _ l
 refine Def.bL (fun _=>?_) (fun _=>Def.bL (fun _=>?_) (fun _=>Def.bL (fun _=>?_) (fun _=>Def.ret ⟨y,F,v.le (by omega)⟩)))
 .rw [ai o,t,af]
  refine Def.bind (T5 N r.1[n].2 he.2 v (by omega)) fun J ⟨g1,g2,g3⟩=>?_
  rw[ai o,af]
  refine Def.ret ⟨⟨by dsimp only;rw[mj];exact i,fun f a=>?_,fun f a k g j e=>?_⟩,F,g3.le (by omega)⟩
  .rcases u2 a with rfl|a
   .exact ⟨he.1,g1⟩
   .have:=D.each f a;omega
  .rcases u2 a with rfl|a
   .have c:=D.inv _ l k g j e
    exact⟨c.1,g2.mk c.2 (by have:=c.1;omega)⟩
   .have c:=D.inv _ a k g j e
    exact⟨c.1,c.2.mk (by have:=c.1;omega)⟩
 .refine Def.bind (pe N (by decide) v (by omega)) fun K ⟨hm,c⟩=>?_
  rw[ai o,t,af]
  refine Def.ret ⟨⟨by dsimp only;rw[mj];exact i,fun f a=>?_,fun f a k g j e=>?_⟩,F,c.le (by omega)⟩
  .rcases u2 a with rfl|a
   .refine ⟨?_,by have:=he.2;dsimp only;omega⟩
    simp only[bm,qW,or_false]at hm
    rcases hm with e|e|e<;>rw[e]<;>decide
   .have:=D.each f a;omega
  .rcases u2 a with rfl|a
   .exact absurd e (V1 hm)
   .have c:=D.inv _ a k g j e
    exact⟨c.1,c.2.mk (by have:=c.1;omega)⟩
 .refine Def.cut (by omega) (by omega) (by omega) (Def.ite (aN (by omega)) (Def.cut (by omega) (by omega) (by omega) (Def.ite (by omega) (Def.ret ⟨⟨?_,fun f a=>?_,fun f a k g j e=>?_⟩,F,v.le (by omega)⟩))))
  .dsimp only
   rw[a1,bX,eY,bX]
   omega
  .dsimp only at a
   have p:f∈r.1:=by
    rcases cp.1 a with a|a
    .exact fK a
    .exact fK (nq a)
   have:=D.each f p;omega
  .dsimp only at a
   have p:f∈r.1:=by
    rcases cp.1 a with a|a
    .exact fK a
    .exact fK (nq a)
   have c:=D.inv _ p k g j e
   exact⟨c.1,c.2.mk (by have:=c.1;omega)⟩
theorem PW (c:aL) (d:List a7):∀n,qq c d n=uM c d n
 |0=>rfl
 |n+1=>by
  unfold qq uM
  rw[PW c d n]<;>cases mS c d ((n+1:Nat):Int)<;>rfl
theorem ak2 {c:aL} {d:List a7} (a:dQ c=true) (b:jk d=true):Cc c d=Cb c d:=by
 unfold Cc Cb
 rw[a,b,pB,ao,PW]
theorem Vb (N:Nat) (b:1048600<=N) (a:N<=16777216) {code:List Int} (c:ns code):Def (CA N code) fun r=>lJ 1048576 3 s6 r.1/\fv N ((r.2.1,r.2.2.1),r.2.2.2.1):=by
 unfold CA
 refine Def.bind (QE N c) fun r e=>?_
 refine Def.bind (TW N b a e) fun h ⟨D,F,g⟩=>?_
 exact Def.bind (one_def N (by decide) g (by omega)) fun i _=>Def.ret ⟨D,F⟩
theorem Kn (d:List a7) (x:ca) (w:Int):(jG d x w=([],-1))\/(jk d=true/\ct x=true/\((decide (99<cc d+1)||decide (24<d.length+6))=true/\jG d x w=(d,0)\/(decide (99<cc d+1)||decide (24<d.length+6))=false/\jG d x w=ka d x w/\(ka d x w).2=((cc d+1:Nat):Int))):=by
 unfold jG
 cases b:jk d with
 |false=>exact .inl rfl
 |true=>
  cases c:ct x with
  |false=>exact .inl rfl
  |true=>
   refine .inr ⟨rfl,rfl,?_⟩
   rw[fX,ao]
   cases a:decide (99<cc d+1)||decide (24<d.length+6)with
   |true=>exact .inl ⟨rfl,rb a⟩
   |false=>exact .inr ⟨rfl,rfl,by rw[tl a]⟩
theorem UB {d:List a7} (h:d.length<=30) (x:ca) (w:Int):(jG d x w).1.length<=30:=by
 rcases Kn d x w with b|⟨b,i,⟨_,c⟩|⟨j,c,_⟩⟩
 .rw [b];exact bg _
 .rw [c];exact h
 .have e:d.length<=24:=(uK b).cS
  have k:x.2.length<=5:=(gg i).2.1
  have g:(dF x ((cc d+1:Nat):Int)).length<=6:=by rw[rl];omega
  have a:=EJ w _ d g e
  rw[c,tl j]
  dsimp only
  cases decide (w<0)||decide (((dF x ((cc d+1:Nat):Int)).length:Int)<w)with
  |false=>exact a
  |true=>exact dK (yR _ _) a
end Go.Proofs.YtnkagklajgimlaaGreatDoor
