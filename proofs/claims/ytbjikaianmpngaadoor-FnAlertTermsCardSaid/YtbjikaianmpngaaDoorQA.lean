import Derived.Test.YtbjikaianmpngaaDoorG1
import Derived.Test.YtbjikaianmpngaaDoorQ1
set_option linter.unusedVariables false
set_option linter.unusedSimpArgs false
namespace Go.Proofs.YtbjikaianmpngaaDoor
open Go.RowKit
section
variable {Y γ Z : Type} (c : γ -> Y -> Y -> Option Int)
def swpG (d:List Y) (i j:Int) (k:List Y->Option Z):Option Z:=
 if 0<=j/\j<(d.length:Int)then Option.bind (d[j.toNat]?) fun e=>if 0<=i/\i<(d.length:Int)then Option.bind (d[i.toNat]?) fun e2=>
  if 0<=i/\i<(d.length:Int)then Option.bind (d[i.toNat]?) fun e3=>if 0<=j/\j<((d.set i.toNat e).length:Int)then Option.bind ((d.set i.toNat e)[j.toNat]?) fun e4=>k ((d.set i.toNat e).set j.toNat e2)
  else none else none else none else none
def swpP (d:List Y) (j:Int) (k:List Y->Option Z):Option Z:=if fits (j-1)then if fits (j-1)then swpG d j (j-1) k else none else none
end
section
variable {Y γ Z : Type} (c : γ -> Y -> Y -> Option Int)
end
section
variable {Y γ Z : Type} {c : γ -> Y -> Y -> Option Int} {lt : Y -> Y -> Bool} {ks : γ}
structure WOrd (lt:Y->Y->Bool):Prop where
 asym:∀x y,lt x y=true->lt y x=false
 ntr:∀x y z,lt y x=false->lt z y=false->lt z x=false
structure WComp (c:γ->Y->Y->Option Int) (ks:γ) (lt:Y->Y->Bool) (d:List Y):Prop where
 cmp:∀x,x∈d->∀y,y∈d->Def (c ks x y) fun r=>decide (r<0)=lt x y
def ltO (lt:Y->Y->Bool):Option Y->Option Y->Prop
 |some x,some y=>lt x y=true
 |_,_=>False
def leO (lt:Y->Y->Bool):Option Y->Option Y->Prop
 |some x,some y=>lt y x=false
 |_,_=>False
theorem leO.trans (ho:WOrd lt) {x y z:Option Y} (h1:leO lt x y) (h2:leO lt y z):leO lt x z:=by
 cases x<;>cases y<;>cases z<;>first|exact h1.elim|exact h2.elim|exact ho.ntr _ _ _ h1 h2
theorem ltO.le (ho:WOrd lt) {x y:Option Y} (h1:ltO lt x y):leO lt x y:=by
 cases x<;>cases y<;>first|exact h1.elim|exact ho.asym _ _ h1
theorem ltO.not_le {x y:Option Y} (h1:ltO lt x y) (h2:leO lt y x):False:=by
 cases x<;>cases y<;>first|exact h1.elim|exact h2.elim|skip
 have e1:lt _ _=true:=h1
 have e2:lt _ _=false:=h2
 rw[e1]at e2;cases e2
def OrdS (lt:Y->Y->Bool) (d:List Y) (a b:Nat):Prop:=∀m n,a<=m->m<n->n<b->leO lt d[m]? d[n]?
structure Seg (a b:Nat) (d d':List Y):Prop where
 perm:d'.Perm d
 out:∀m,m<a\/b<=m->d'[m]? =d[m]?
 inn:∀m,a<=m->m<b->∃n,a<=n/\n<b/\d'[m]? =d[n]?
theorem Seg.refl (a b:Nat) (d:List Y):Seg a b d d:=⟨List.Perm.refl _,fun _ _=>rfl,fun m h1 h2=>⟨m,h1,h2,rfl⟩⟩
theorem Seg.trans {a b:Nat} {d e f:List Y} (h1:Seg a b d e) (h2:Seg a b e f):Seg a b d f:=
 ⟨h2.perm.trans h1.perm,fun m hm=>(h2.out m hm).trans (h1.out m hm),fun m g1 g2=>by
  obtain⟨n,n1,n2,n3⟩:=h2.inn m g1 g2
  obtain⟨k,k1,k2,k3⟩:=h1.inn n n1 n2
  exact⟨k,k1,k2,n3.trans k3⟩⟩
theorem Seg.mono {a b a' b':Nat} {d e:List Y} (h:Seg a b d e) (ha:a'<=a) (hb:b<=b'):Seg a' b' d e:=
 ⟨h.perm,fun m hm=>h.out m (by omega),fun m g1 g2=>by
  by_cases e:a<=m/\m<b
  .obtain ⟨n,n1,n2,n3⟩:=h.inn m e.1 e.2
   exact⟨n,by omega,by omega,n3⟩
  .exact ⟨m,g1,g2,h.out m (by omega)⟩⟩
theorem Seg.len {a b:Nat} {d e:List Y} (h:Seg a b d e):e.length=d.length:=h.perm.length_eq
structure Swp (i j:Nat) (d d':List Y):Prop where
 perm:d'.Perm d
 at':∀m,d'[m]? =if m=j then d[i]? else if m=i then d[j]? else d[m]?
theorem Swp.seg {i j a b:Nat} {d d':List Y} (h:Swp i j d d') (i1:a<=i) (i2:i<b) (j1:a<=j) (j2:j<b):Seg a b d d':=by
 refine⟨h.perm,fun m hm=>?_,fun m g1 g2=>?_⟩
 .rw [h.at',zu (by omega),zu (by omega)]
 .rw [h.at']
  by_cases e:m=j
  .rw [zf e];exact⟨i,i1,i2,rfl⟩
  .rw [zu e]
   by_cases e2:m=i
   .rw [zf e2];exact⟨j,j1,j2,rfl⟩
   .rw [zu e2];exact⟨m,g1,g2,rfl⟩
theorem swp_mk {d:List Y} {i j:Nat} (hi:i<d.length) (hj:j<d.length):Swp i j d ((d.set i d[j]).set j d[i]):=by
 refine⟨List.set_set_perm hi hj,fun m=>?_⟩
 rw[List.getElem?_set,List.getElem?_set,List.length_set]
 by_cases e:m=j
 .subst e
  rw[zf rfl,zf hj,zf rfl,zc hi]
 .rw [zu (fun h=>e h.symm),zu e]
  by_cases e2:m=i
  .subst e2
   rw[zf rfl,zf hi,zf rfl,zc hj]
  .rw [zu (fun h=>e2 h.symm),zu e2]
theorem swp_def {d:List Y} {i j:Nat} (hi:i<d.length) (hj:j<d.length) {k:List Y->Option Z} {P:Z->Prop} (h:∀d',Swp i j d d'->Def (k d') P):Def (swpG d (i:Int) (j:Int) k) P:=by
 unfold swpG
 simp only[zai,List.length_set]
 rw[zf ⟨by omega,by omega⟩,zc hj,za,zf ⟨by omega,by omega⟩,zc hi,za,zf ⟨by omega,by omega⟩,za,zf ⟨by omega,by omega⟩,
  zc (by rw[List.length_set];exact hj),za]
 exact h _ (swp_mk hi hj)
theorem swpP_def {d:List Y} {j:Nat} (hj:j+1<d.length) (hl:d.length<=1099511627776) {k:List Y->Option Z} {P:Z->Prop} (h:∀d',Swp (j+1) j d d'->Def (k d') P):Def (swpP d ((j+1:Nat):Int) k) P:=by
 unfold swpP
 refine Def.ite (by unfold fits;omega) (Def.ite (by unfold fits;omega) ?_)
 rw[show(((j+1:Nat):Int)-1)=(j:Int)from by omega]
 exact swp_def hj (by omega) h
structure Split (lt:Y->Y->Bool) (a b:Nat) (d:List Y) (i j:Nat):Prop where
 i1:a<i
 ij:i<=j+1
 jb:j<b
 bl:b<=d.length
 low:∀m,a<m->m<i->leO lt d[m]? d[a]?
 high:∀m,j<m->m<b->leO lt d[a]? d[m]?
structure Cloven (lt:Y->Y->Bool) (a b k:Nat) (d:List Y):Prop where
 ak:a<=k
 kb:k<b
 low:∀m,a<=m->m<k->leO lt d[m]? d[k]?
 high:∀m,k<m->m<b->leO lt d[k]? d[m]?
structure Alike (lt:Y->Y->Bool) (a b:Nat) (d:List Y) (i j:Nat):Prop where
 i1:a<i
 ij:i<=j+1
 jb:j<b
 bl:b<=d.length
 low:∀m,a<m->m<i->leO lt d[m]? d[a]?
end
def lenTab :List UInt8:=[0,1,2,2,3,3,3,3,4,4,4,4,4,4,4,4,5,5,5,5,5,5,5,5,5,5,5,5,5,5,5,5,6,6,6,6,6,6,6,6,6,6,6,6,6,6,6,6,6,6,6,6,6,6,6,6,6,6,6,6,6,6,6,6,7,7,7,7,7,7,7,7,7,7,7,7,7,7,7,7,7,7,7,7,7,7,7,7,7,7,7,7,7,7,7,7,7,7,7,7,7,7,7,7,7,7,7,7,7,7,7,7,7,7,7,7,7,7,7,7,7,7,7,7,7,7,7,7,8,8,8,8,8,8,8,8,8,8,8,8,8,8,8,8,8,8,8,8,8,8,8,8,8,8,8,8,8,8,8,8,8,8,8,8,8,8,8,8,8,8,8,8,8,8,8,8,8,8,8,8,8,8,8,8,8,8,8,8,8,8,8,8,8,8,8,8,8,8,8,8,8,8,8,8,8,8,8,8,8,8,8,8,8,8,8,8,8,8,8,8,8,8,8,8,8,8,8,8,8,8,8,8,8,8,8,8,8,8,8,8,8,8,8,8,8,8,8,8,8,8,8,8,8,8,8,8]
theorem tab_all :∀t:Nat,t<256->(match idx lenTab (IntKind.u8.wrap (t:Int))with|some e=>decide (t=0\/2^e.toNat<=2*t)&&decide (t<2^e.toNat)&&decide (e.toNat<=8)&&decide (IntKind.i64.wrap (e.toNat:Int)=(e.toNat:Int))|none=>false)=true:=by decide+kernel
theorem tab_def (t:Nat) (h:t<256):∃e:UInt8,idx lenTab (IntKind.u8.wrap (t:Int))=some e/\(t=0\/2^e.toNat<=2*t)/\t<2^e.toNat/\e.toNat<=8/\IntKind.i64.wrap (e.toNat:Int)=(e.toNat:Int):=by
 have:=tab_all t h
 cases he:idx lenTab (IntKind.u8.wrap (t:Int))with
 |none=>rw[he]at this;cases this
 |some e=>
  rw[he]at this
  simp only[zj,zw]at this
  exact⟨e,rfl,this.1.1.1,this.1.1.2,this.1.2,this.2⟩
theorem len64_def (N:Nat) (x:Nat) (h0:1<=x) (h:x<16777216):Def (k_math_bits_Len64_m N (x:Int)) fun r=>∃n:Nat,r=(n:Int)/\2^n<=2*x/\x<2^n/\n<=24:=by
 have fin:∀(M:Int) (t m:Nat) (hMm:M=(m:Int)) (ht:t<256) (hm:m<=16) (ht0:1<=t) (hx:t=x/2^m),
   Def (Option.bind (idx lenTab (IntKind.u8.wrap (t:Int))) fun(e:UInt8)=>(if fits (M+(IntKind.i64.wrap (e.toNat:Int)))then(some (M+(IntKind.i64.wrap (e.toNat:Int))))else none)) fun r=>∃n:Nat,r=(n:Int)/\2^n<=2*x/\x<2^n/\n<=24:=fun M t m hMm ht hm ht0 hx=>by
  subst hMm
  obtain⟨e,e1,e2,e3,e4,e5⟩:=tab_def t ht
  rw[e1,za,e5]
  refine Def.ite (by unfold fits;omega) (Def.ret ⟨m+e.toNat,by omega,?_,?_,by omega⟩)
  .have e2:=e2.resolve_left (by omega)
   have:2^m*(x/2^m)<=x:=Nat.mul_div_le x (2^m)
   rw[Nat.pow_add]
   calc 2^m*2^e.toNat<=2^m*(2*t):=Nat.mul_le_mul_left _ e2
    _=2*(2^m*(x/2^m)):=by rw[hx,Nat.mul_left_comm]
    _<=2*x:=by omega
  .have hp:0<2^m:=Nat.two_pow_pos m
   have h1:x<2^m*(x/2^m+1):=Nat.lt_mul_div_succ x hp
   rw[Nat.pow_add]
   exact zbi h1 (Nat.mul_le_mul_left _ (by omega))
 unfold k_math_bits_Len64_m meet
 dsimp only
 have p16:(2:Int)^(min (16:Int).toNat (IntKind.bits .u64))=65536:=by decide
 have p8:(2:Int)^(min (8:Int).toNat (IntKind.bits .u64))=256:=by decide
 have d16:((x:Int).fdiv 65536)=((x/65536:Nat):Int):=by rw[Int.fdiv_eq_ediv_of_nonneg _ (by omega)];omega
 have d8:((x:Int).fdiv 256)=((x/256:Nat):Int):=by rw[Int.fdiv_eq_ediv_of_nonneg _ (by omega)];omega
 refine Def.dif (fun e=>by omega) (fun _=>?_)
 refine Def.dif (fun e=>?_) (fun e=>?_)
 .rw [p16,d16]
  refine Def.ite (by omega) (Def.ite (by unfold fits;omega) (Def.dif (fun e2=>by omega) (fun e2=>?_)))
  exact fin (0+16) (x/65536) 16 (by omega) (by omega) (by omega) (by omega) (by omega)
 .refine Def.dif (fun e2=>?_) (fun e2=>?_)
  .rw [p8,d8]
   refine Def.ite (by omega) (Def.ite (by unfold fits;omega) ?_)
   exact fin (0+8) (x/256) 8 (by omega) (by omega) (by omega) (by omega) (by omega)
  .exact fin 0 x 0 (by omega) (by omega) (by omega) (by omega) (by omega)
theorem wrap_u64 {n:Int} (h0:0<=n) (h1:n<18446744073709551616):IntKind.u64.wrap n=n:=by
 have:IntKind.u64.wrap n=n%18446744073709551616:=by simp[IntKind.wrap,IntKind.bits,IntKind.signed]
 rw[this];omega
theorem wrap_i64 {n:Int} (h0:0<=n) (h1:n<9223372036854775808):IntKind.i64.wrap n=n:=by
 simp only[IntKind.wrap,IntKind.bits,IntKind.signed]
 simp only[show((2:Int)^64)=18446744073709551616 by rfl,show((2:Int)^(64-1))=9223372036854775808 by rfl]
 have e:n%18446744073709551616=n:=Int.emod_eq_of_lt h0 (by omega)
 rw[e]
 have:¬(n≥9223372036854775808):=by omega
 simp[this]
theorem len_bits (N:Nat) (x:Nat) (h0:1<=x) (h:x<16777216):Def (k_math_bits_Len_m N (IntKind.u64.wrap (x:Int))) fun r=>∃n:Nat,r=(n:Int)/\2^n<=2*x/\x<2^n/\n<=24:=by
 unfold k_math_bits_Len_m
 rw[wrap_u64 (by omega) (by omega)]
 exact Def.bind (len64_def N x h0 h) fun r hr=>Def.ret hr
theorem nextPow_def (N:Nat) (x:Nat) (h0:1<=x) (h:x<16777216):Def (k_slices_nextPowerOfTwo_m N (x:Int)) fun r=>1<=r/\r<=2*x:=by
 unfold k_slices_nextPowerOfTwo_m
 refine Def.bind (len_bits N x h0 h) fun r ⟨n,hn,h1,h2,h3⟩=>?_
 subst hn
 refine Def.ite (by omega) (Def.ret ?_)
 have e:min ((n:Int)).toNat (IntKind.bits .u64)=n:=by
  show min n 64=n
  omega
 have hp:0<2^n:=Nat.two_pow_pos n
 have hc:((1:Int)*2^n)=((2^n:Nat):Int):=by rw[Int.one_mul];norm_cast
 rw[e,hc,wrap_u64 (by omega) (by omega)]
 omega
theorem and_le (x y:Int) (h0:0<=y) (h1:y<9223372036854775808):0<=bitsI .and .u64 x y/\bitsI .and .u64 x y<=y:=by
 have hy:(BitVec.ofInt 64 y).toNat=y.toNat:=by
  rw[BitVec.toNat_ofInt]
  omega
 have hle:(BitVec.ofInt 64 x&&&BitVec.ofInt 64 y).toNat<=y.toNat:=by
  rw[BitVec.toNat_and,hy]
  exact Nat.and_le_right
 have e:bitsI .and .u64 x y=((BitVec.ofInt 64 x&&&BitVec.ofInt 64 y).toNat:Int):=by
  show IntKind.u64.wrap _=_
  exact wrap_u64 (by omega) (by show(((BitVec.ofInt 64 x&&&BitVec.ofInt 64 y).toNat:Nat):Int)<_;omega)
 rw[e]
 omega
section
variable {Y γ Z : Type} {c : γ -> Y -> Y -> Option Int} {lt : Y -> Y -> Bool} {ks : γ}
def In (a b:Nat) (n:Int):Prop:=∃k:Nat,n=(k:Int)/\a<=k/\k<b
end
section
variable {Y γ Z : Type} {c : γ -> Y -> Y -> Option Int} {lt : Y -> Y -> Bool} {ks : γ}
def Low (lt:Y->Y->Bool) (d:List Y) (a b:Nat):Prop:=0<a->∀m,a<=m->m<b->leO lt d[a-1]? d[m]?
theorem Low.seg {d d':List Y} {a b:Nat} (h:Low lt d a b) (hs:Seg a b d d'):Low lt d' a b:=fun h0 m g1 g2=>by
 obtain⟨n,n1,n2,n3⟩:=hs.inn m g1 g2
 rw[hs.out (a-1) (by omega),n3]
 exact h h0 n n1 n2
end
section
variable {Y γ Z : Type} {c : γ -> Y -> Y -> Option Int} {lt : Y -> Y -> Bool} {ks : γ}
def Done (lt:Y->Y->Bool) (d:List Y) (a b a' b':Nat):Prop:=∀m n,a<=m->m<n->n<b->(m<a'\/b'<=n)->leO lt d[m]? d[n]?
theorem Done.seg {d e:List Y} {a b a' b':Nat} (h:Done lt d a b a' b') (ha:a<=a') (hb:b'<=b) (hs:Seg a' b' d e):Done lt e a b a' b':=fun m n g1 g2 g3 g4=>by
 by_cases m1:a'<=m/\m<b'
 .obtain ⟨m',x1,x2,x3⟩:=hs.inn m m1.1 m1.2
  rw[x3,hs.out n (by omega)]
  exact h m' n (by omega) (by omega) g3 (by omega)
 .rw [hs.out m (by omega)]
  by_cases n1:a'<=n/\n<b'
  .obtain ⟨n',x1,x2,x3⟩:=hs.inn n n1.1 n1.2
   rw[x3]
   exact h m n' g1 (by omega) (by omega) (by omega)
  .rw [hs.out n (by omega)]
   exact h m n g1 g2 g3 g4
theorem Done.low {d:List Y} {a b a' b':Nat} (h:Done lt d a b a' b') (ha:a<=a') (hb:b'<=b) (hL:Low lt d a b):Low lt d a' b':=fun h0 m g1 g2=>by
 by_cases e:a'=a
 .subst e;exact hL h0 m g1 (by omega)
 .exact h (a'-1) m (by omega) (by omega) (by omega) (by omega)
theorem Cloven.left {d e:List Y} {a b k:Nat} (h:Cloven lt a b k d) (ho:WOrd lt) (hs:Seg a k d e) (hA:OrdS lt e a k):∀m n,a<=m->m<=k->m<n->n<b->leO lt e[m]? e[n]? :=by
 have hk:∀m,a<=m->m<k->leO lt e[m]? e[k]? :=fun m g1 g2=>by
  obtain⟨m',x1,x2,x3⟩:=hs.inn m g1 g2
  rw[x3,hs.out k (by omega)];exact h.low m' x1 x2
 have hr:∀n,k<n->n<b->leO lt e[k]? e[n]? :=fun n g1 g2=>by
  rw[hs.out k (by omega),hs.out n (by omega)];exact h.high n g1 g2
 intro m n g1 g2 g3 g4
 by_cases e1:m=k
 .subst e1;exact hr n g3 g4
 .have hm:=hk m g1 (by omega)
  rcases Nat.lt_trichotomy n k with e2|e2|e2
  .exact hA m n g1 g3 e2
  .subst e2;exact hm
  .exact hm.trans ho (hr n e2 g4)
theorem Cloven.right {d e:List Y} {a b k:Nat} (h:Cloven lt a b k d) (ho:WOrd lt) (hs:Seg (k+1) b d e) (hA:OrdS lt e (k+1) b):∀m n,a<=m->m<n->k<=n->n<b->leO lt e[m]? e[n]? :=by
 have hk:∀m,a<=m->m<k->leO lt e[m]? e[k]? :=fun m g1 g2=>by
  rw[hs.out m (by omega),hs.out k (by omega)];exact h.low m g1 g2
 have hr:∀n,k<n->n<b->leO lt e[k]? e[n]? :=fun n g1 g2=>by
  obtain⟨n',x1,x2,x3⟩:=hs.inn n (by omega) g2
  rw[x3,hs.out k (by omega)];exact h.high n' (by omega) x2
 intro m n g1 g2 g3 g4
 by_cases e1:n=k
 .subst e1;exact hk m g1 g2
 .have hn:=hr n (by omega) g4
  rcases Nat.lt_trichotomy m k with e2|e2|e2
  .exact (hk m g1 e2).trans ho hn
  .subst e2;exact hn
  .exact hA m n (by omega) g2 g4
end
section
variable {Y γ Z : Type} {c : γ -> Y -> Y -> Option Int} {lt : Y -> Y -> Bool} {ks : γ}
def Heap (lt:Y->Y->Bool) (d:List Y) (f lo hi:Nat):Prop:=∀p q,lo<=p->(q=2*p+1\/q=2*p+2)->q<hi->leO lt d[f+q]? d[f+p]?
theorem Def.get1 {β:Type} {a:List Y} {n:Nat} {f:Y->Option β} {P:β->Prop} (hn:n<a.length) (h:Def (f a[n]) P):Def (Option.bind (a[((n:Nat):Int).toNat]?) f) P:=by
 rw[zai,zc hn];exact h
theorem Heap.top (ho:WOrd lt) {d:List Y} {f hi:Nat} (h:Heap lt d f 0 hi):∀m,0<m->m<hi->leO lt d[f+m]? d[f+0]? :=by
 intro m
 induction m using Nat.strongRecOn with
 |ind m ih=>
  intro h0 h1
  have hp:=h ((m-1)/2) m (zaf _) (by omega) h1
  by_cases e:(m-1)/2=0
  .rw [e]at hp;exact hp
  .exact hp.trans ho (ih _ (by omega) (by omega) (by omega))
end
section
variable {Y γ : Type} {c : γ -> Y -> Y -> Option Int} {lt : Y -> Y -> Bool} {ks : γ}
structure Ordr (lt:Y->Y->Bool):Prop where
 asym:∀x y,lt x y=true->lt y x=false
 trans:∀x y z,lt x y=true->lt y z=true->lt x z=true
structure Comp (c:γ->Y->Y->Option Int) (ks:γ) (lt:Y->Y->Bool) (d:List Y):Prop where
 cmp:∀x,x∈d->∀y,y∈d->Def (c ks x y) fun r=>decide (r<0)=lt x y
 tot:d.Pairwise fun x y=>lt x y=true\/lt y x=true
end
end Go.Proofs.YtbjikaianmpngaaDoor
