
import Derived.Test.YtnkagklajgimlaaGreatDoorSF1
set_option linter.unusedVariables false
set_option linter.unusedSimpArgs false
namespace Go.Proofs.YtnkagklajgimlaaGreatDoor
open Go.RowKit
def gz (c:Nat):Nat:=if c%2=1 then(c/2)^^^3988292384 else c/2
def oL (c:Nat) (b:UInt8):Nat:=gz (gz (gz (gz (gz (gz (gz (gz (c^^^b.toNat))))))))
def h0 (s:List UInt8):Nat:=(s.foldl oL 4294967295)^^^4294967295
abbrev a7 :Type:=List UInt8×List UInt8
def eC (d:List a7) (aW:List UInt8):Option (List UInt8):=(d.find? fun f=>decide (f.1=aW)).map (·.2)
abbrev jc (d:List a7):Prop:=d.Pairwise fun a b=>Op.bytesLess a.1 b.1=true
def fV (f:a7):List a7->List a7
 | []=>[f]
 |g::d=>if g.1=f.1 then f::d else if Op.bytesLess g.1 f.1=true then g::fV f d else f::g::d
theorem nG (g:a7) (d:List a7) (aW:List UInt8):eC (g::d) aW=if g.1=aW then some g.2 else eC d aW:=by
 unfold eC
 rw[nm]
 by_cases h:g.1=aW
 .rw [aq h,ai h]
  rfl
 .rw [ak h,aA h]
theorem F2 (f:a7) (aW:List UInt8):∀d,eC (fV f d) aW=if f.1=aW then some f.2 else eC d aW
 | []=>by rw[fV,nG]
 |g::d=>by
  rw[fV]
  by_cases a:g.1=f.1
  .rw [ai a,nG,nG,a]
   by_cases h:f.1=aW
   .rw [ai h,ai h]
   .rw [aA h,aA h,aA h]
  .rw [aA a]
   by_cases c:Op.bytesLess g.1 f.1=true
   .rw [ai c,nG,F2 f aW d,nG]
    by_cases h:f.1=aW
    .rw [aA (fun e=>a (e.trans h.symm)),ai h,ai h]
    .rw [aA h,aA h]
   .rw [aA c,nG]
theorem yi (f x:a7):∀d,x∈fV f d->x=f\/x∈d
 | [],h=>by rw[fV,c1]at h;exact .inl h
 |g::d,h=>by
  rw[fV]at h
  split at h
  .rcases bm.1 h with h|h
   .exact .inl h
   .exact .inr (b7 _ h)
  .split at h
   .rcases bm.1 h with h|h
    .exact .inr (h▸b6)
    .exact (yi f x d h).imp id (b7 _)
   .rcases bm.1 h with h|h
    .exact .inl h
    .exact .inr h
theorem Dv (f:a7):∀d,jc d->jc (fV f d)
 | [],_=>List.pairwise_singleton _ _
 |g::d,h=>by
  rw[jc,ez]at h
  rw[fV]
  split
  .rename_i e
   rw[jc,ez]
   exact⟨fun x a=>by rw[<-e];exact h.1 x a,h.2⟩
  .rename_i e
   split
   .rename_i c
    rw[jc,ez]
    refine⟨fun x a=>?_,Dv f d h.2⟩
    rcases yi f x d a with rfl|a
    .exact c
    .exact h.1 x a
   .rename_i c
    have i:Op.bytesLess f.1 g.1=true:=vF (by simpa using c) e
    rw[jc,ez,ez]
    exact⟨fun x a=>by
     rcases bm.1 a with rfl|a
     .exact i
     .exact pU i (h.1 x a),h⟩
theorem Du (f:a7):∀d,(fV f d).length<=d.length+1
 | []=>bC _
 |g::d=>by
  have a:=Du f d
  rw[fV]
  split
  .simp
  .split
   .simp only [aZ];omega
   .simp
def eV (n:Int):List UInt8:=[103,101,110]++Lib.itoa (1000+n)
def dZ (n k:Int):List UInt8:=[115,101,103]++Lib.itoa (1000+n)++ [120]++Lib.itoa k
theorem MQ {a b:Int} (g:0<=a) (au:0<=b) (c:a<1000000000000000000) (e:b<1000000000000000000) (h:Lib.itoa a=Lib.itoa b):a=b:=by
 rw[<-vD g c,<-vD au e,h]
theorem Li {a b:Int} (g:0<=a) (au:0<=b) (c:a<=1000000) (e:b<=1000000) (h:eV a=eV b):a=b:=by
 have:=MQ (by omega) (by omega) (by omega) (by omega) (List.append_cancel_left h)
 omega
theorem EU (a n k:Int):eV a≠dZ n k:=fun h=>by
 have c:eV a=103::([101,110]++Lib.itoa (1000+a)):=rfl
 have e:dZ n k=115::([101,103]++Lib.itoa (1000+n)++ [120]++Lib.itoa k):=rfl
 rw[c,e]at h
 exact absurd (List.cons.inj h).1 (by decide)
theorem Y3 {n a b:Int} (c:0<=a) (au:0<=b) (e:a<=1000000) (g:b<=1000000) (h:dZ n a=dZ n b):a=b:=
 MQ c au (by omega) (by omega) (List.append_cancel_left h)
def hD (f:a7):List UInt8:=f.1++ [32]++Lib.itoa (h0 f.2:Int)
def mz :List UInt8:=[101,110,100]
def HS (a:List a7):List UInt8:=hC (a.map hD)++mz
def dW (n:Int):Nat->List b0->List a7
 |_,[]=>[]
 |k,l::ls=>(dZ n (k:Int),dn l.1.1 l.2)::dW n (k+1) ls
def dF (x:ca) (n:Int):List a7:=dW n 0 x.2++ [(eV n,HS (dW n 0 x.2))]
theorem MC :∀(ls:List (List UInt8)) (e:List UInt8),(∀l,l∈ls->(10:UInt8)∉l)->(10:UInt8)∉e->cutAt 10 (hC ls++e)=ls++ [e]
 | [],e,_,he=>by
  rw[show hC []++e=e from rfl,Gk he]
  rfl
 |l::ls,e,h,he=>by
  rw[uw,dJ,jZ,AH (h l b6),MC ls e (fun x a=>h x (b7 _ a)) he]
  rfl
def qs (c:aL) (d:List a7) (line:List UInt8):Option b0:=match eC d (ek 32 line).1 with
 |none=>none
 |some t=>bif decide (Lib.itoa (h0 t:Int)=(ek 32 line).2.1)then mB c t else none
def jP (c:aL) (d:List a7):List (List UInt8)->Option (List b0)
 | []=>some []
 |l::ls=>(qs c d l).bind fun x=>(jP c d ls).map fun xs=>x::xs
def Ij (c:aL) (d:List a7) (s:List UInt8):Option ca:=
 bif decide ((cutAt 10 s).getLastD []=mz)then(jP c d (cutAt 10 s).dropLast).bind fun ls=>bif ct (c,ls)then some (c,ls)else none else none
def mS (c:aL) (d:List a7) (n:Int):Option ca:=(eC d (eV n)).bind (Ij c d)
theorem AJ {x:ca} (c:ct x=true) {l:b0} (a:l∈x.2):ct (x.1,[l])=true:=by
 obtain⟨e,o,g,h⟩:=gg c
 have i:gG x.1 l=true:=cA.1 g l a
 have j:eM (hS (fa [l]))=true:=Ic h (DQ (List.singleton_sublist.2 a))
 unfold ct
 dsimp only
 rw[e,j,List.all_cons,i]
 rfl
theorem MI (n k:Int) (h:0<=n) (g:0<=k) {c:UInt8} (a:c≠115/\c≠101/\c≠103/\c≠120) (e:e1 c=false):c∉dZ n k:=by
 unfold dZ
 rw[cp,cp,cp,not_or,not_or,not_or]
 refine⟨⟨⟨?_,qk (by omega) e⟩,?_⟩,qk g e⟩
 .simp [a.1,a.2.1,a.2.2.1]
 .simp [a.2.2.2]
theorem YT {n:Int} (c:0<=n) (ls:List b0) (k:Nat):∀l,l∈(dW n k ls).map hD->(10:UInt8)∉l:=by
 induction ls generalizing k with
 |nil=>intro l a;cases a
 |cons x ls e=>
  intro l a
  rw[dW,cv,bm]at a
  rcases a with rfl|a
  .unfold hD
   dsimp only
   rw[cp,cp,not_or,not_or]
   exact⟨⟨MI n k c (by omega) (by decide) (by decide),by decide⟩,qk (by omega) (by decide)⟩
  .exact e (k+1) l a
def Am (d:List a7) (n:Int):Nat->List b0->Prop
 |_,[]=>True
 |k,l::ls=>eC d (dZ n (k:Int))=some (dn l.1.1 l.2)/\Am d n (k+1) ls
theorem MM {c:aL} {d:List a7} {n:Int} (a:0<=n):∀(ls:List b0) (k:Nat),(∀l,l∈ls->ct (c,[l])=true)->Am d n k ls->jP c d ((dW n k ls).map hD)=some ls
 | [],k,_,_=>rfl
 |l::ls,k,h,g=>by
  have i:=MM a ls (k+1) (fun x j=>h x (b7 _ j)) g.2
  have o:ek 32 (hD (dZ n (k:Int),dn l.1.1 l.2))=(dZ n (k:Int),Lib.itoa (h0 (dn l.1.1 l.2):Int),true):=by
   have e:hD (dZ n (k:Int),dn l.1.1 l.2)=dZ n (k:Int)++32::Lib.itoa (h0 (dn l.1.1 l.2):Int):=by unfold hD;simp
   rw[e,rh (MI n k a (by omega) (by decide) (by decide))]
  have p:qs c d (hD (dZ n (k:Int),dn l.1.1 l.2))=some l:=by
   unfold qs
   rw[o]
   dsimp only
   rw[g.1]
   dsimp only
   rw[aq rfl,ao,V4 (h l b6)]
  rw[dW,cv,jP,p,af,i]
  rfl
theorem YV {x:ca} (a:ct x=true) {d:List a7} {n:Int} (c:0<=n) (e:eC d (eV n)=some (HS (dW n 0 x.2))) (g:Am d n 0 x.2):mS x.1 d n=some x:=by
 unfold mS
 rw[e,af]
 unfold Ij HS
 rw[MC _ _ (YT c x.2 0) (by decide),List.getLastD_concat,List.dropLast_concat,aq rfl,ao,MM c x.2 0 (fun l h=>AJ a h) g,af]
 have:((x.1,x.2):ca)=x:=rfl
 rw[this,a]
 rfl
def kN (d:List a7):Nat->Nat
 |0=>0
 |k+1=>bif(eC d (eV ((k+1:Nat):Int))).isSome then k+1 else kN d k
def cc (d:List a7):Nat:=kN d 99
theorem xw (d:List a7):∀m,kN d m<=m
 |0=>bC _
 |k+1=>by
  have a:=xw d k
  rw[kN]
  cases(eC d (eV ((k+1:Nat):Int))).isSome with
  |true=>exact bC _
  |false=>rw[aj];omega
theorem MX (d:List a7):∀(m j:Nat),kN d m<j->j<=m->eC d (eV (j:Int))=none
 |0,j,a,g=>by omega
 |k+1,j,a,g=>by
  rw[kN]at a
  cases c:(eC d (eV ((k+1:Nat):Int))).isSome with
  |true=>rw[c,ao]at a;omega
  |false=>
   rw[c,aj]at a
   by_cases e:j=k+1
   .subst e
    rw[<-Option.not_isSome_iff_eq_none,c]
    decide
   .exact MX d k j a (by omega)
def jl (n:Int) (aW:List UInt8):Bool:=decide (7<=aW.length)&&(decide (aW.take 3=[103,101,110])||decide (aW.take 3=[115,101,103]))&&(((aW.drop 3).take 4).all e1&&(decide ((1001:Int)<=(eL 0 ((aW.drop 3).take 4):Int))&&decide ((eL 0 ((aW.drop 3).take 4):Int)<=1000+n-1)))
def fl (n:Int) (d:List a7):List a7:=d.filter fun f=> !jl n f.1
theorem F9 (n:Int) (aW:List UInt8):∀d,eC (fl n d) aW=if jl n aW=true then none else eC d aW
 | []=>by
  show(none:Option (List UInt8))=_
  split<;>rfl
 |g::d=>by
  have a:=F9 n aW d
  unfold fl at a⊢
  rw[iX,nG]
  cases c:jl n g.1 with
  |true=>
   rw[aA (by simp),a]
   by_cases e:g.1=aW
   .rw [<-e,c,ai rfl,ai rfl]
   .rw [aA e]
  |false=>
   rw[ai (by simp),nG,a]
   by_cases e:g.1=aW
   .rw [ai e,ai e,aA (by rw[<-e,c];decide)]
   .rw [aA e,aA e]
theorem aai {u:Nat} (a:1000<=u) (c:u<10000):(Lib.decDigits u).length=4:=by
 rw[lT,aA (by omega),lT,aA (by omega),lT,aA (by omega),lT,ai (by omega)]
 rfl
theorem Ad {n:Int} (a:0<=n) (c:n<=1000):(Lib.itoa (1000+n)).length=4/\eL 0 (Lib.itoa (1000+n))=(1000+n).toNat:=by
 unfold Lib.itoa
 rw[aA (by omega)]
 exact⟨aai (by omega) (by omega),Gi _ _ (bC _)⟩
theorem Zb {n:Int} (a:0<=n) (c:n<=1000):jl n (eV n)=false:=by
 obtain⟨g,h⟩:=Ad a c
 have e:((eV n).drop 3).take 4=Lib.itoa (1000+n):=by
  have:(eV n).drop 3=Lib.itoa (1000+n):=rfl
  rw[this,<-g,cl]
 unfold jl
 rw[e,h,ak (by omega:¬(((1000+n).toNat:Nat):Int)<=1000+n-1),pE,pE,pE]
theorem Zu {n:Int} (k:Int) (a:0<=n) (c:n<=1000):jl n (dZ n k)=false:=by
 obtain⟨g,h⟩:=Ad a c
 have e:((dZ n k).drop 3).take 4=Lib.itoa (1000+n):=by
  have:(dZ n k).drop 3=Lib.itoa (1000+n)++([120]++Lib.itoa k):=by
   unfold dZ
   rw[dJ,dJ]
   rfl
  rw[this,<-g,List.take_left]
 unfold jl
 rw[e,h,ak (by omega:¬(((1000+n).toNat:Nat):Int)<=1000+n-1),pE,pE,pE]
def writeAll (a:List a7) (d:List a7):List a7:=a.foldl (fun d f=>fV f d) d
theorem vi (f:a7) (a d:List a7):writeAll (f::a) d=writeAll a (fV f d):=rfl
theorem My (a b d:List a7):writeAll (a++b) d=writeAll b (writeAll a d):=by unfold writeAll;rw[hU]
def dC (w:Int) (a:List a7):List a7:=bif decide (w<0)then a else a.take w.toNat
def ka (d:List a7) (x:ca) (w:Int):List a7×Int:=
 bif decide (99<cc d+1)||decide (24<d.length+6)then(d,0)else
  (bif decide (w<0)||decide (((dF x (cc d+1:Nat)).length:Int)<w)then fl (cc d+1:Nat) (writeAll (dC w (dF x (cc d+1:Nat))) d)else writeAll (dC w (dF x (cc d+1:Nat))) d,(cc d+1:Nat))
theorem Gb (aW:List UInt8):∀(a d:List a7),(∀f,f∈a->f.1≠aW)->eC (writeAll a d) aW=eC d aW
 | [],d,_=>rfl
 |f::a,d,h=>by rw[vi,Gb aW a _ fun g c=>h g (b7 _ c),F2,aA (h f b6)]
theorem MB :∀(c d:List a7),(c.Pairwise fun a b=>a.1≠b.1)->∀f,f∈c->eC (writeAll c d) f.1=some f.2
 |g::c,d,e,f,h=>by
  rw[ez]at e
  rw[vi]
  rcases bm.1 h with rfl|h
  .rw [Gb f.1 c _ (fun x i=>(e.1 x i).symm),F2,ai rfl]
  .exact MB c _ e.2 f h
theorem sw {n:Int}:∀(ls:List b0) (k:Nat) (f:a7),f∈dW n k ls->∃j:Nat,k<=j/\j<k+ls.length/\f.1=dZ n (j:Int)
 | [],k,f,h=>by cases h
 |l::ls,k,f,h=>by
  rw[dW]at h
  rcases bm.1 h with rfl|h
  .exact ⟨k,bC _,by simp,rfl⟩
  .obtain ⟨j,c,e,a⟩:=sw ls (k+1) f h
   exact⟨j,by omega,by rw[aZ];omega,a⟩
theorem MJ {n:Int}:∀(ls:List b0) (k:Nat),k+ls.length<=1000000->(dW n k ls).Pairwise fun a b=>a.1≠b.1
 | [],k,_=>lC
 |l::ls,k,c=>by
  rw[aZ]at c
  rw[dW,ez]
  refine⟨fun f g e=>?_,MJ ls (k+1) (by omega)⟩
  obtain⟨j,i,o,h⟩:=sw ls (k+1) f g
  have e:dZ n (k:Int)=dZ n (j:Int):=e.trans h
  have:=Y3 (by omega) (by omega) (by omega) (by omega) e
  omega
theorem Zc {x:ca} (g:x.2.length<=5) (n:Int):(dF x n).Pairwise fun a b=>a.1≠b.1:=by
 unfold dF
 rw[List.pairwise_append]
 refine⟨MJ x.2 0 (by omega),List.pairwise_singleton _ _,fun a c b au=>?_⟩
 rw[c1]at au
 obtain⟨j,_,_,e⟩:=sw x.2 0 a c
 rw[au,e]
 exact(EU n n j).symm
theorem MY (n:Int):∀(ls:List b0) (k:Nat),(dW n k ls).length=ls.length
 | [],_=>rfl
 |l::ls,k=>by rw[dW,aZ,aZ,MY n ls]
theorem rl (x:ca) (n:Int):(dF x n).length=x.2.length+1:=by
 unfold dF
 rw[a1,MY]
 rfl
theorem MP {d:List a7} {n:Int}:∀(ls:List b0) (k:Nat),(∀f,f∈dW n k ls->eC d f.1=some f.2)->Am d n k ls
 | [],_,_=>True.intro
 |l::ls,k,h=>by
  rw[dW]at h
  exact⟨h _ b6,MP ls (k+1) fun f a=>h f (b7 _ a)⟩
def uM (c:aL) (d:List a7):Nat->ca×Int
 |0=>((c,[]),0)
 |k+1=>match mS c d ((k+1:Nat):Int)with
  |some x=>(x,((k+1:Nat):Int))
  |none=>uM c d k
def Cb (c:aL) (d:List a7):ca×Int:=uM c d 99
theorem MT {c:aL} {d:List a7} {n:Nat} {x:ca} (i:1<=n) (a:mS c d (n:Int)=some x):∀m,n<=m->(∀j:Nat,n<j->j<=m->eC d (eV (j:Int))=none)->uM c d m=(x,(n:Int))
 |0,h,_=>by omega
 |k+1,h,g=>by
  rw[uM]
  by_cases e:n=k+1
  .rw [<-e,a]
  .have:mS c d ((k+1:Nat):Int)=none:=by
    unfold mS
    rw[g (k+1) (by omega) (bC _)]
    rfl
   rw[this]
   exact MT i a k (by omega) fun j l o=>g j l (by omega)
theorem UG {d:List a7} {x:ca} (t:ct x=true) (u:(decide (99<cc d+1)||decide (24<d.length+6))=false) (w:Int) (hw:w<0\/((x.2.length+1:Nat):Int)<=w):
  (ka d x w).2=((cc d+1:Nat):Int)/\Cb x.1 (ka d x w).1=(x,((cc d+1:Nat):Int)):=by
 have v:x.2.length<=5:=(gg t).2.1
 have y:cc d+1<=99:=by
  rw[Bool.or_eq_false_iff,decide_eq_false_iff_not]at u
  omega
 have g:∀j:Nat,cc d+1<j->j<=99->eC d (eV (j:Int))=none:=fun j c h=>MX d 99 j (by unfold cc at c;omega) h
 unfold ka
 rw[u,aj]
 refine⟨rfl,?_⟩
 generalize hm:cc d+1=n at*
 have l:dC w (dF x (n:Int))=dF x (n:Int):=by
  unfold dC
  rcases hw with hw|hw
  .rw [aq hw];rfl
  .rw [ak (by omega),aj,kX]
   rw[rl]
   omega
 rw[l]
 have o:=MB (dF x (n:Int)) d (Zc v (n:Int))
 have p:∀j:Nat,n<j->j<=99->eC (writeAll (dF x (n:Int)) d) (eV (j:Int))=none:=fun j c h=>by
  rw[Gb _ _ _ fun f a e=>?_]
  .exact g j c h
  .unfold dF at a
   rw[cp,c1]at a
   rcases a with a|rfl
   .obtain ⟨i,_,_,r⟩:=sw x.2 0 f a
    exact EU _ _ _ (e.symm.trans r)
   .have:=Li (by omega) (by omega) (by omega) (by omega) e
    omega
 have key:∀z:List a7,(∀f,f∈dF x (n:Int)->eC z f.1=some f.2)->(∀j:Nat,n<j->j<=99->eC z (eV (j:Int))=none)->Cb x.1 z=(x,(n:Int)):=fun z c h=>by
  have A:mS x.1 z (n:Int)=some x:=YV t (by omega) (c (eV (n:Int),_) (by unfold dF;exact kW _ b6)) (MP x.2 0 fun f a=>c f (by unfold dF;exact e8 _ a))
  exact MT (by omega) A 99 (by omega) h
 cases decide (w<0)||decide (((dF x (n:Int)).length:Int)<w)with
 |false=>exact key _ o p
 |true=>
  rw[ao]
  refine key _ (fun f a=>?_) (fun j c h=>?_)
  .rw [F9]
   have B:jl (n:Int) f.1=false:=by
    unfold dF at a
    rw[cp,c1]at a
    rcases a with a|rfl
    .obtain ⟨i,_,_,r⟩:=sw x.2 0 f a
     rw[r]
     exact Zu _ (by omega) (by omega)
    .exact Zb (by omega) (by omega)
   rw[B,aA (by decide)]
   exact o f a
  .rw [F9,p j c h]
   split<;>rfl
def rm (d:List a7) (n:Nat):a7:=d[n]?.getD ([],[])
theorem oO {d:List a7} {n:Nat} (h:n<d.length):d[n]=rm d n:=by unfold rm;rw[bH h];rfl
def qA (d:List a7) (n:Nat):Bool:=okW (rm d n).1&&(decide (n=0)||Op.bytesLess (rm d (n-1)).1 (rm d n).1)
def jk (d:List a7):Bool:=dL d.length (qA d)&&decide ((d.length:Int)<=24)
structure iZ (d:List a7):Prop where
 up:jc d
 names:∀f,f∈d->okW f.1=true
 cS:d.length<=24
theorem uK {d:List a7} (h:jk d=true):iZ d:=by
 unfold jk at h
 rw[bk,bz]at h
 refine⟨?_,fun f i=>?_,by omega⟩
 .refine Ch (fun a b:a7=>Op.bytesLess a.1 b.1=true) (fun a b c j e=>pU j e) d fun n g=>?_
  have e:=mv h.1 g
  unfold qA at e
  rw[bk,ak (by omega),ig,lF,<-oO g,<-oO (by omega:n<d.length)]at e
  exact e.2
 .obtain ⟨n,g,rfl⟩:=fe.1 i
  have e:=mv h.1 g
  unfold qA at e
  rw[bk,<-oO g]at e
  exact e.1
theorem iZ.ok {d:List a7} (h:iZ d):jk d=true:=by
 have c:=h.cS
 unfold jk dL
 rw[bk,cA,bz]
 refine⟨fun n a=>?_,by omega⟩
 have a:n<d.length:=by simpa using a
 unfold qA
 rw[<-oO a,h.names _ (bA a),ck]
 match n,a with
 |0,_=>rfl
 |n+1,a=>
  rw[lF,<-oO (by omega:n<d.length),mh.1 h.up n (n+1) (by omega) a (by omega),Bool.or_true]
theorem iZ.write {d:List a7} (h:iZ d) {f:a7} (c:okW f.1=true) (e:d.length<24):iZ (fV f d):=
 ⟨Dv f d h.up,fun g a=>by
  rcases yi f g d a with rfl|a
  .exact c
  .exact h.names g a,by have:=Du f d;omega⟩
theorem Tk :∀(a d:List a7),(writeAll a d).length<=d.length+a.length
 | [],d=>bC _
 |f::a,d=>by
  have c:=Tk a (fV f d)
  have e:=Du f d
  rw[vi,aZ]
  omega
theorem iZ.all :∀(a:List a7) {d:List a7},iZ d->(∀f,f∈a->okW f.1=true)->d.length+a.length<=24->iZ (writeAll a d)
 | [],d,h,_,_=>h
 |f::a,d,h,c,e=>by
  rw[aZ]at e
  have j:=Du f d
  exact iZ.all a (h.write (c f b6) (by omega)) (fun g i=>c g (b7 _ i)) (by show(fV f d).length+a.length<=24;omega)
theorem iZ.clean {d:List a7} (h:iZ d) (n:Int):iZ (fl n d):=
 ⟨h.up.sublist List.filter_sublist,fun f a=>h.names f (hp.1 a).1,dK (hK _ _) h.cS⟩
theorem Ei {c:UInt8} (h:e1 c=true):gv (c.toNat:Int)=true:=by
 unfold e1 at h
 rw[bk,bz,bz]at h
 unfold gv
 rw[aq (by omega:(48:Int)<=(c.toNat:Int)),aq (by omega:(c.toNat:Int)<=57)]
 simp
theorem V2 {n:Int} (e:0<=n) (g:n<=1000):okW (eV n)=true:=by
 refine(h7 _).2 ⟨fun c a=>?_,?_⟩
 .unfold eV at a
  rw[cp]at a
  rcases a with a|a
  .simp only [bm,List.mem_nil_iff,or_false]at a
   rcases a with rfl|rfl|rfl<;>decide
  .exact Ei (Ac (by omega) c a)
 .have:=(Ad e g).1
  unfold eV
  rw[a1]
  show 1<=3+_/\3+_<=12
  omega
theorem amf {n k:Int} (e:0<=n) (g:n<=1000) (h:0<=k) (i:k<=9):okW (dZ n k)=true:=by
 refine(h7 _).2 ⟨fun c a=>?_,?_⟩
 .unfold dZ at a
  rw[cp,cp,cp]at a
  rcases a with((a|a)|a)|a
  .simp only [bm,List.mem_nil_iff,or_false]at a
   rcases a with rfl|rfl|rfl<;>decide
  .exact Ei (Ac (by omega) c a)
  .rw [c1.1 a]
   decide
  .exact Ei (Ac (by omega) c a)
 .have j:=(Ad e g).1
  have l:(Lib.itoa k).length<=1:=by
   unfold Lib.itoa
   rw[aA (by omega)]
   exact y1 1 k.toNat (bC _) (by rw[Nat.pow_one];omega)
  unfold dZ
  rw[a1,a1,a1]
  show 1<=3+_+1+_/\3+_+1+_<=12
  omega
theorem UF {d:List a7} (h:iZ d) {x:ca} (l:x.2.length<=5) (w:Int):iZ (ka d x w).1:=by
 unfold ka
 cases g:decide (99<cc d+1)||decide (24<d.length+6)with
 |true=>exact h
 |false=>
  rw[aj]
  rw[Bool.or_eq_false_iff,decide_eq_false_iff_not,decide_eq_false_iff_not]at g
  have c:∀f,f∈dC w (dF x ((cc d+1:Nat):Int))->f∈dF x ((cc d+1:Nat):Int):=fun f a=>by
   unfold dC at a
   cases h:decide (w<0)with
   |true=>rw[h]at a;exact a
   |false=>rw[h]at a;exact fK a
  have hlen:(dC w (dF x ((cc d+1:Nat):Int))).length<=x.2.length+1:=by
   rw[<-rl x ((cc d+1:Nat):Int)]
   unfold dC
   cases decide (w<0)with
   |true=>exact bC _
   |false=>rw[aj,bX];exact Nat.min_le_right _ _
  have e:iZ (writeAll (dC w (dF x ((cc d+1:Nat):Int))) d):=iZ.all _ h (fun f a=>by
   have a:=c f a
   unfold dF at a
   rw[cp,c1]at a
   rcases a with a|rfl
   .obtain ⟨j,_,o,i⟩:=sw x.2 0 f a
    rw[i]
    exact amf (by omega) (by omega) (by omega) (by omega)
   .exact V2 (by omega) (by omega)) (by omega)
  dsimp only
  cases decide (w<0)||decide (((dF x ((cc d+1:Nat):Int)).length:Int)<w)with
  |true=>exact e.clean _
  |false=>exact e
def s6 (d:Nat) (t:List UInt8):Prop:=∀(p:Nat) (e:UInt8),t[p]? =some 115->t[p+6]? =some e->50<=e.toNat->e.toNat<=57->e.toNat=48+d
def j2 (d:Nat) (t:List UInt8):Prop:=∀p:Nat,t[p]? =some 115->t[p+6]? =some (UInt8.ofNat (48+d))
theorem Mr (n:Nat) (h:n<=9):Lib.itoa (1000+(n:Int))=[49,48,48,UInt8.ofNat (48+n)]:=by
 have a:(1000+(n:Int)).toNat=1000+n:=by omega
 have c:(1000+n)/10=100:=by omega
 have e:(1000+n)%10=n:=by omega
 have d10:Lib.decDigits 10=[49,48]:=by
  rw[lT 10,aA (by omega),show 10/10=1 from rfl,lT 1,ai (by omega)]
  rfl
 have d100:Lib.decDigits 100=[49,48,48]:=by
  rw[lT 100,aA (by omega),show 100/10=10 from rfl,d10]
  rfl
 unfold Lib.itoa
 rw[aA (by omega),a,lT,aA (by omega),c,e,d100]
 rfl
theorem ame :∀(n:Nat),1<=n->n<=9->∀j:Int,∃r,dZ (n:Int) j=[115,101,103,49,48,48,UInt8.ofNat (48+n),120]++r:=fun n c a j=>by
 have:=Mr n a
 refine⟨Lib.itoa j,?_⟩
 unfold dZ
 rw[this]
 rfl
def lM (m:Nat) (P:Nat->List UInt8->Prop) (d:List a7):Prop:=∀f,f∈d->∀k:Nat,1<=k->k<=99->f.1=eV (k:Int)->k<=m/\P k f.2
theorem VD {d:List a7} {aW t:List UInt8} (h:eC d aW=some t):(aW,t)∈d:=by
 unfold eC at h
 cases a:d.find? (fun f=>decide (f.1=aW))with
 |none=>rw[a]at h;cases h
 |some f=>
  rw[a]at h
  cases h
  have c:=List.find?_some a
  have e:=oq a
  rw[decide_eq_true_iff]at c
  rw[<-c]
  exact e
theorem lM.most {m:Nat} {P:Nat->List UInt8->Prop} {d:List a7} (h:lM m P d):∀j,j<=99->kN d j<=m
 |0,_=>bg _
 |j+1,a=>by
  unfold kN
  cases c:eC d (eV ((j+1:Nat):Int))with
  |none=>exact h.most j (by omega)
  |some t=>exact(h _ (VD c) (j+1) (by omega) a rfl).1
theorem Qc {n:Nat} (v:1<=n) (i:n<=9):∀(ls:List b0) (k:Nat),j2 n (hC ((dW (n:Int) k ls).map hD)++mz)
 | [],k,p,c=>by
  exfalso
  have c:([101,110,100]:List UInt8)[p]? =some 115:=c
  have:=fc c
  exact absurd this (by decide)
 |l::ls,k,p,c=>by
  have A:=Qc v i ls (k+1)
  obtain⟨r,h⟩:=ame n v i (k:Int)
  obtain⟨line,a⟩:∃line,line=hD (dZ (n:Int) (k:Int),dn l.1.1 l.2):=⟨_,rfl⟩
  have g:∀rest:List UInt8,hC ((dW (n:Int) k (l::ls)).map hD)++mz=(line++ [10])++(hC ((dW (n:Int) (k+1) ls).map hD)++mz):=fun _=>by
   show hC (hD (dZ (n:Int) (k:Int),dn l.1.1 l.2)::(dW (n:Int) (k+1) ls).map hD)++mz=_
   rw[a,uw]
   simp only[dJ,jZ,fj]
  rw[g []]at c⊢
  have x:line=[115,101,103,49,48,48,UInt8.ofNat (48+n),120]++(r++ [32]++Lib.itoa (h0 (dn l.1.1 l.2):Int)):=by
   rw[a]
   unfold hD
   rw[h]
   simp only[dJ]
  have j:(115:UInt8)∉([101,103,49,48,48,UInt8.ofNat (48+n),120]++(r++ [32]++Lib.itoa (h0 (dn l.1.1 l.2):Int))++ [10]):=by
   have C:(115:UInt8)∉r:=by
    have F:r=Lib.itoa (k:Int):=by
     have G:=Mr n i
     unfold dZ at h
     rw[G]at h
     simpa using h.symm
    rw[F]
    exact qk (by omega) (by decide)
   have H:(115:UInt8)∉Lib.itoa (h0 (dn l.1.1 l.2):Int):=qk (by omega) (by decide)
   have y:(115:UInt8)≠UInt8.ofNat (48+n):=fun e=>by
    have:=congrArg UInt8.toNat e
    rw[UInt8.toNat_ofNat']at this
    have z:(115:UInt8).toNat=115:=rfl
    omega
   generalize UInt8.ofNat (48+n)=u at y⊢
   simp[C,H,y]
  by_cases o:p<(line++ [10]).length
  .rw [hV o]at c
   have t:p=0:=by
    cases p with
    |zero=>rfl
    |succ p=>
     exfalso
     rw[x]at c
     have:([101,103,49,48,48,UInt8.ofNat (48+n),120]++(r++ [32]++Lib.itoa (h0 (dn l.1.1 l.2):Int))++ [10])[p]? =some 115:=c
     exact j (fc this)
   subst t
   rw[x]
   rfl
  .rw [iE (by omega)]at c⊢
   have:=A _ c
   rw[<-this]
   congr 1
   omega
theorem UE {m:Nat} {d:List a7} {x:ca} (h:lM m j2 d) (hm:m+1<=9) (w:Int):lM (m+1) j2 (ka d x w).1:=by
 have p:cc d<=m:=h.most 99 (bC _)
 unfold ka
 cases C:decide (99<cc d+1)||decide (24<d.length+6)with
 |true=>
  rw[ao]
  exact fun f a k c i e=>⟨sW (h f a k c i e).1,(h f a k c i e).2⟩
 |false=>
  rw[aj]
  dsimp only
  have r:∀(l y:List a7),(∀f,f∈l->f∈dF x (cc d+1:Nat))->lM (m+1) j2 y->lM (m+1) j2 (writeAll l y):=fun l=>by
   induction l with
   |nil=>exact fun y _ hy=>hy
   |cons g l u=>
    intro y o hy
    rw[vi]
    refine u _ (fun f a=>o f (b7 _ a)) fun f a k c i e=>?_
    rcases yi g f y a with rfl|a
    .have:=o f b6
     unfold dF at this
     rw[cp,c1]at this
     rcases this with v|rfl
     .obtain ⟨j,_,_,z⟩:=sw x.2 0 f v
      exact absurd (e.symm.trans z) (EU _ _ _)
     .have A:cc d+1=k:=by have:=Li (by omega) (by omega) (by omega) (by omega) e;omega
      subst A
      exact⟨by omega,Qc (by omega) (by omega) x.2 0⟩
    .exact hy f a k c i e
  have B:lM (m+1) j2 d:=fun f a k c i e=>⟨sW (h f a k c i e).1,(h f a k c i e).2⟩
  have t:∀f,f∈dC w (dF x (cc d+1:Nat))->f∈dF x (cc d+1:Nat):=fun f a=>by
   unfold dC at a
   cases hw:decide (w<0)with
   |true=>rw[hw]at a;exact a
   |false=>rw[hw]at a;exact fK a
  have:=r _ d t B
  cases decide (w<0)||decide (((dF x (cc d+1:Nat)).length:Int)<w)with
  |false=>exact this
  |true=>exact fun f a k c i e=>this f (hp.1 a).1 k c i e
inductive oz (s:List UInt8):List UInt8->Prop where
 |same:oz s s
 |set (k:Nat) (b:UInt8) (au:b∈([48,49,32,40,41,10,58,128]:List UInt8)):oz s (s.take k++ [b]++s.drop (k+1))
 |pre (k:Nat):oz s (s.take k)
 |post (b:UInt8) (au:b∈([48,32,41,10]:List UInt8)):oz s (s++ [b])
theorem j2.mk {d:Nat} {s:List UInt8} (h:j2 d s) (g:d<=9):s6 d s:=fun p e c a _ _=>by
 rw[h p c]at a
 cases a
 rw[UInt8.toNat_ofNat']
 omega
theorem oz.mk {d:Nat} {s t:List UInt8} (au:oz s t) (h:j2 d s) (B:d<=9):s6 d t:=by
 have key:=h.mk B
 cases au with
 |same=>exact key
 |set k b au=>
  intro p e g c j l
  have r:b.toNat≠115/\(b.toNat<50\/57<b.toNat):=by
   simp only[bm,qW,or_false]at au
   rcases au with rfl|rfl|rfl|rfl|rfl|rfl|rfl|rfl<;>decide
  by_cases C:k<=s.length
  .have get:∀i,i≠k->(s.take k++ [b]++s.drop (k+1))[i]? =s[i]? :=fun i hi=>by
    rcases Nat.lt_or_gt_of_ne hi with u|F
    .rw [dJ,hV (by rw[bX];omega),ho,ai u]
    .rw [iE (by rw[a1,bX,bS];omega),hT]
     congr 1
     rw[a1,bX,bS]
     omega
   have o:(s.take k++ [b]++s.drop (k+1))[k]? =some b:=by
    rw[dJ,iE (by rw[bX];omega),bX,ow C,Nat.sub_self]
    rfl
   have v:p≠k:=fun e=>by
    rw[e,o]at g
    cases g
    exact r.1 rfl
   have x:p+6≠k:=fun y=>by
    rw[y,o]at c
    cases c
    omega
   rw[get p v]at g
   rw[get _ x]at c
   exact key p e g c j l
  .have G:s.take k=s:=kX (by omega)
   have y:s.drop (k+1)=[]:=jv (by omega)
   rw[G,y,e5]at g c
   have z:p+6<s.length:=by
    refine Nat.lt_of_not_le fun hle=>?_
    rw[iE hle]at c
    have:=fc c
    rw[c1]at this
    subst this
    omega
   rw[hV (by omega)]at g
   rw[hV z]at c
   exact key p e g c j l
 |pre k=>
  intro p e g c j l
  rw[ho]at g c
  split at g
  .split at c
   .exact key p e g c j l
   .cases c
  .cases g
 |post b au=>
  intro p e g c j l
  have z:p+6<s.length:=by
   refine Nat.lt_of_not_le fun hle=>?_
   rw[iE hle]at c
   have:=fc c
   rw[c1]at this
   subst this
   simp only[bm,qW,or_false]at au
   rcases au with rfl|rfl|rfl|rfl<;>revert j<;>decide
  rw[hV (by omega)]at g
  rw[hV z]at c
  exact key p e g c j l
theorem lM.mk {m:Nat} {d:List a7} (h:lM m j2 d) (hm:m<=9):lM m s6 d:=fun f a k c g e=>⟨(h f a k c g e).1,(h f a k c g e).2.mk (by have:=(h f a k c g e).1;omega)⟩
theorem Jy {a:Nat} (h:a<4294967296):IntKind.u32.wrap (a:Int)=(a:Int):=by
 simp only[IntKind.wrap,IntKind.bits,IntKind.signed]
 simp only[show((2:Int)^32)=4294967296 by rfl]
 have e:(a:Int)%4294967296=a:=vn (by omega) (by omega)
 rw[e]
 simp
theorem tf {k:Nat} {a:Nat} (h:a<2^k):(BitVec.ofInt k (a:Int)).toNat=a:=by
 rw[BitVec.toNat_ofInt]
 have:(a:Int)%((2^k:Nat):Int)=a:=vn (by omega) (by exact_mod_cast h)
 rw[this]
 rfl
theorem JB {a b:Nat} (c:a<4294967296) (au:b<4294967296):dS .xor .u32 (a:Int) (b:Int)=((a^^^b:Nat):Int):=by
 have e:a^^^b<2^32:=sV (by omega) (by omega)
 show IntKind.u32.wrap ((BitVec.ofInt 32 (a:Int)^^^BitVec.ofInt 32 (b:Int)).toNat:Int)=_
 rw[BitVec.toNat_xor,tf (by omega),tf (by omega),Jy (by omega)]
theorem TU {a:Nat} (c:a<4294967296):dS .and .u32 (a:Int) 1=((a%2:Nat):Int):=by
 show IntKind.u32.wrap ((BitVec.ofInt 32 (a:Int)&&&BitVec.ofInt 32 ((1:Nat):Int)).toNat:Int)=_
 rw[BitVec.toNat_and,tf (by omega),tf (by omega),Nat.and_one_is_mod,Jy (by omega)]
theorem JC {a b:Nat} (c:a<4294967296) (au:b<4294967296):dS .xor .i64 (a:Int) (b:Int)=((a^^^b:Nat):Int):=by
 have e:a^^^b<2^32:=sV (by omega) (by omega)
 show IntKind.i64.wrap ((BitVec.ofInt 64 (a:Int)^^^BitVec.ofInt 64 (b:Int)).toNat:Int)=_
 rw[BitVec.toNat_xor,tf (by omega),tf (by omega),wrap64 (by omega) (by omega)]
def lv :Nat->Nat->Nat
 |0,c=>c
 |k+1,c=>lv k (gz c)
theorem Ku (c:Nat) (b:UInt8):oL c b=lv 8 (c^^^b.toNat):=rfl
theorem vI {c:Nat} (h:c<4294967296):gz c<4294967296:=by
 unfold gz
 split
 .exact sV (n:=32) (by omega) (by omega)
 .omega
theorem Ro :∀(k:Nat) {c:Nat},c<4294967296->lv k c<4294967296
 |0,_,h=>h
 |k+1,_,h=>Ro k (vI h)
theorem D2 {c:Nat} (h:c<4294967296) (b:UInt8):c^^^b.toNat<4294967296:=sV (n:=32) (by omega) (by have:=b.toNat_lt;omega)
theorem Kv (N:Nat) (A:16<=N) (s:List UInt8) (B:s.length<N) (C:s.length<=1099511627776):wG N s=some (h0 s:Int):=by
 unfold wG
 refine Def.get ?_
 refine Def.iter (fun g=>∃(n c:Nat),g=(s,(c:Int),(s.length:Int),(n:Int))/\n<=s.length/\c<4294967296/\(s.drop n).foldl oL c=s.foldl oL 4294967295) (fun g=>s.length-g.2.2.2.toNat) (fun go g o x=>?_) N _ ⟨0,4294967295,rfl,bg _,by omega,rfl⟩ (by dsimp only;omega)
 obtain⟨n,c,rfl,F,p,i⟩:=o
 dsimp only
 by_cases r:n<s.length
 .rw [aq (by omega:(n:Int)<s.length),ao,aO r,af]
  have y:s.drop n=s[n]::s.drop (n+1):=fC r
  rw[y,eR,Ku]at i
  have au:=s[n].toNat_lt
  have v:=D2 p s[n]
  rw[Jy (by omega),JB p (by omega)]
  refine Def.iter (fun g=>∃(k c':Nat),g=(s,(c':Int),(s.length:Int),(n:Int),(k:Int))/\k<=8/\c'<4294967296/\lv (8-k) c'=lv 8 (c^^^s[n].toNat)) (fun g=>8-g.2.2.2.2.toNat) (fun go2 g o j=>?_) N _ ⟨0,_,rfl,by omega,v,rfl⟩ (by dsimp only;omega)
  obtain⟨k,c',rfl,G,l,h⟩:=o
  dsimp only
  by_cases H:k<8
  .have t:8-k=(8-(k+1))+1:=by omega
   rw[t]at h
   have h:lv (8-(k+1)) (gz c')=lv 8 (c^^^s[n].toNat):=h
   have z:((c':Nat):Int).fdiv (2^(min (1:Int).toNat (IntKind.bits .u32)))=((c'/2:Nat):Int):=by
    rw[show((2:Int)^(min (1:Int).toNat (IntKind.bits .u32)))=2 by rfl,DA _ (by decide:(0:Int)<=2)]
    omega
   rw[aq (by omega:(k:Int)<8),ao,TU l,z]
   by_cases hm:c'%2=1
   .rw [aq (by omega:((c'%2:Nat):Int)=1),ao]
    refine Def.ite (by decide) (Def.ite (aN (by omega)) (j _ ⟨k+1,gz c',?_,by omega,vI l,h⟩ (by dsimp only;omega)))
    have e:gz c'=(c'/2)^^^3988292384:=by unfold gz;rw[ai hm]
    have u:dS .xor .u32 ((c'/2:Nat):Int) 3988292384=(((c'/2)^^^3988292384:Nat):Int):=JB (a:=c'/2) (b:=3988292384) (by omega) (by omega)
    rw[u,e,aR]
   .rw [ak (by omega:¬((c'%2:Nat):Int)=1),aj]
    refine Def.ite (by decide) (Def.ite (aN (by omega)) (j _ ⟨k+1,gz c',?_,by omega,vI l,h⟩ (by dsimp only;omega)))
    have e:gz c'=c'/2:=by unfold gz;rw[aA hm]
    rw[e,aR]
  .rw [ak (by omega:¬(k:Int)<8),aj]
   have t:8-k=0:=by omega
   rw[t]at h
   have h:c'=lv 8 (c^^^s[n].toNat):=h
   refine Def.ite (aN (by omega)) (x _ ⟨n+1,c',by rw[aR],r,l,?_⟩ (by dsimp only;omega))
   rw[h]
   exact i
 .rw [ak (by omega:¬(n:Int)<s.length),aj]
  rw[jv (by omega)]at i
  have i:c=s.foldl oL 4294967295:=i
  refine Def.ret ?_
  have u:dS .xor .u32 4294967295 (c:Int)=((4294967295^^^c:Nat):Int):=JB (a:=4294967295) (b:=c) (by omega) p
  have v:4294967295^^^c<2^32:=sV (by omega) (by omega)
  rw[u,wrap64 (by omega) (by omega)]
  unfold h0
  rw[<-i,Nat.xor_comm]
theorem UO (N:Nat) (B:16<=N) (s:List UInt8) (C:s.length<N) (F:s.length<=1099511627776):CG N s=some (h0 s:Int):=by
 unfold CG
 refine Def.get ?_
 refine Def.iter (fun g=>∃(n c:Nat),g=(s,(c:Int),(n:Int))/\n<=s.length/\c<4294967296/\(s.drop n).foldl oL c=s.foldl oL 4294967295) (fun g=>s.length-g.2.2.toNat) (fun go g l v=>?_) N _ ⟨0,4294967295,rfl,bg _,by omega,rfl⟩ (by dsimp only;omega)
 obtain⟨n,c,rfl,G,o,i⟩:=l
 dsimp only
 by_cases p:n<s.length
 .rw [aq (by omega:(n:Int)<s.length),ao,aO p,af]
  have x:s.drop n=s[n]::s.drop (n+1):=fC p
  rw[x,eR,Ku]at i
  have au:=s[n].toNat_lt
  have y:=D2 o s[n]
  rw[wrap64 (by omega) (by omega),JC o (by omega)]
  refine Def.iter (fun g=>∃(k c':Nat),g=(s,(c':Int),(n:Int),(k:Int))/\k<=8/\c'<4294967296/\lv (8-k) c'=lv 8 (c^^^s[n].toNat)) (fun g=>8-g.2.2.2.toNat) (fun go2 g l j=>?_) N _ ⟨0,_,rfl,by omega,y,rfl⟩ (by dsimp only;omega)
  obtain⟨k,c',rfl,H,r,h⟩:=l
  dsimp only
  by_cases I:k<8
  .have t:8-k=(8-(k+1))+1:=by omega
   rw[t]at h
   have h:lv (8-(k+1)) (gz c')=lv 8 (c^^^s[n].toNat):=h
   have z:((c':Nat):Int).tdiv 2=((c'/2:Nat):Int):=rfl
   have A:((c':Nat):Int).tmod 2=((c'%2:Nat):Int):=rfl
   rw[aq (by omega:(k:Int)<8),ao,z,A,ai (by decide:(2:Nat)≠0)]
   by_cases hm:c'%2=1
   .rw [aq (by omega:((c'%2:Nat):Int)=1),ao]
    refine Def.ite (by decide) (Def.ite (by unfold fits;omega) (Def.ite (aN (by omega)) (j _ ⟨k+1,gz c',?_,by omega,vI r,h⟩ (by dsimp only;omega))))
    have e:gz c'=(c'/2)^^^3988292384:=by unfold gz;rw[ai hm]
    have u:dS .xor .i64 ((c'/2:Nat):Int) 3988292384=(((c'/2)^^^3988292384:Nat):Int):=JC (a:=c'/2) (b:=3988292384) (by omega) (by omega)
    rw[u,e,aR]
   .rw [ak (by omega:¬((c'%2:Nat):Int)=1),aj]
    refine Def.ite (by decide) (Def.ite (by unfold fits;omega) (Def.ite (aN (by omega)) (j _ ⟨k+1,gz c',?_,by omega,vI r,h⟩ (by dsimp only;omega))))
    have e:gz c'=c'/2:=by unfold gz;rw[aA hm]
    rw[e,aR]
  .rw [ak (by omega:¬(k:Int)<8),aj]
   have t:8-k=0:=by omega
   rw[t]at h
   have h:c'=lv 8 (c^^^s[n].toNat):=h
   refine Def.ite (aN (by omega)) (v _ ⟨n+1,c',by rw[aR],p,r,?_⟩ (by dsimp only;omega))
   rw[h]
   exact i
 .rw [ak (by omega:¬(n:Int)<s.length),aj]
  rw[jv (by omega)]at i
  have i:c=s.foldl oL 4294967295:=i
  refine Def.ret ?_
  have u:dS .xor .i64 (c:Int) 4294967295=((c^^^4294967295:Nat):Int):=JC (a:=c) (b:=4294967295) o (by omega)
  rw[u]
  unfold h0
  rw[<-i]
theorem yV (s:List UInt8):h0 s<4294967296:=by
 have h:∀(l:List UInt8) (c:Nat),c<4294967296->l.foldl oL c<4294967296:=fun l=>by
  induction l with
  |nil=>exact fun c h=>h
  |cons b l a=>exact fun c h=>a _ (Ro 8 (D2 h b))
 exact sV (n:=32) (h s _ (by omega)) (by omega)
def ph :Option (List UInt8)->List UInt8×Bool
 |some t=>(t,true)
 |none=>([],false)
theorem EI (N:Nat) (d:List a7) (aW:List UInt8) (h:d.length<N) (g:N<=16777216):tM N d aW=some (ph (eC d aW)):=by
 unfold tM
 refine(dB _ d.length (fun n=>(aW,d,(d.length:Int),(n:Int))) (fun n=>some (ph (eC (d.drop n) aW))) (fun go=>?_) (fun go n c a=>?_) N 0 (bg _) (by omega)).trans rfl
 .dsimp only
  rw[ak (bp _),aj,lE]
  rfl
 .dsimp only
  rw[aq (by omega:(n:Int)<d.length),ao,aO c,af,fC c,nG]
  by_cases e:d[n].1=aW
  .rw [aq e,ao,ai e]
   rfl
  .rw [ak e,aj,aA e,ai (aN (n:=n) (by omega)),<-a,aR]
theorem VF (N:Nat) (d:List a7) (aW:List UInt8) (h:d.length<N) (g:N<=16777216):CI N d aW=some (ph (eC d aW)):=by
 unfold CI
 refine(dB _ d.length (fun n=>(aW,(n:Int),d)) (fun n=>some (ph (eC (d.drop n) aW))) (fun go=>?_) (fun go n c a=>?_) N 0 (bg _) (by omega)).trans rfl
 .dsimp only
  rw[ak (bp _),aj,lE]
  rfl
 .dsimp only
  rw[aq (by omega:(n:Int)<d.length),ao,aO c,af,fC c,nG]
  by_cases e:d[n].1=aW
  .rw [aq e,ao,ai e,af]
   rfl
  .rw [ak e,aj,aA e,ai (aN (n:=n) (by omega)),<-a,aR]
theorem ET (N:Nat) (n:Int) (c:0<=n) (e:n<=1000):tQ N n=some (eV n):=by
 have g:=gU (n:=1000+n) (by omega) (by omega)
 have a:=ql N (1000+n) (by omega) (by omega)
 unfold kh at a
 unfold tQ
 rw[ai (by unfold fits;omega),a,af,ai (by simp only[aZ,bE];omega)]
 rfl
theorem Lj (N:Nat) (e:1048576<N) (c:N<=16777216) (n:Int) (g:0<=n) (h:n<=1000):xV N n=some (eV n):=by
 have i:=gU (n:=1000+n) (by omega) (by omega)
 have a:=rj N N (by omega) (by omega) (1000+n) (by omega) (by omega)
 unfold kh at a
 unfold xV
 rw[ai (by unfold fits;omega),a,af,ai (by simp only[aZ,bE];omega)]
 rfl
theorem Km (N:Nat) (c:aL) (h:vt N c):wN N c.1 c.2=some (c.1,c.2):=by
 have au:=h.dk
 have j:=h.a
 have l:=h.b
 unfold wN
 rw[ai (b5 (by simp;omega) (by simp;omega)),fj]
 refine(dB _ c.2.length (fun n=>(c.2,(c.2.length:Int),(n:Int),c.1,c.2.take n)) (fun _=>some (c.1,c.2)) (fun go=>?_) (fun go n g i=>?_) N 0 (bg _) (by omega)).trans rfl
 .dsimp only
  rw[ak (bp _),aj,cl]
 .dsimp only
  have o:=h.e _ (bA g)
  rw[aq (by omega:(n:Int)<c.2.length),ao,aO g,af,ai (b5 (by simp;omega) (by simp;omega)),ai (b5 (by simp;omega) (by simp;omega)),ai (aN (n:=n) (by omega)),fj,<-i,ec g,aR]
theorem Yz {N:Nat} (a:bF<N) (e:N<=16777216) (c:aL) (cV:cz bF gm c):zU N c.1 c.2=some (bif dQ c then(c.1,c.2,[])else([],[],[])):=by
 unfold zU
 rw[re N a (by omega) c cV,af]
 cases dQ c with
 |false=>rfl
 |true=>
  rw[bn,aj,Km N c (.of a cV),af]
  rfl
structure lL (d:List a7):Prop where
 len:d.length<=1048576
 each:∀f,f∈d->f.1.length<=1048576/\f.2.length<=1048576
theorem VE {d:List a7} {aW t:List UInt8} (h:eC d aW=some t):∃f,f∈d/\f.2=t:=by
 unfold eC at h
 obtain⟨f,a,e⟩:=hJ.1 h
 exact⟨f,oq a,e⟩
theorem lL.text {d:List a7} (h:lL d) {aW t:List UInt8} (a:eC d aW=some t):t.length<=1048576:=by
 obtain⟨f,c,rfl⟩:=VE a
 exact(h.each f c).2
theorem KG (N:Nat) (c:1048576<N) (e:N<=16777216) (d:List a7) (h:lL d):wH N d=some (jk d):=by
 have g:=h.len
 unfold wH
 refine j9 _ d.length (fun n=>(d,(d.length:Int),(n:Int),d)) (qA d) _ (fun go=>?_) (fun go n a=>?_) N (by omega)
 .dsimp only
  rw[ak (bp _),aj]
 .have hw:=(h.each _ (bA a)).1
  dsimp only
  rw[aq (by omega:(n:Int)<d.length),ao,aO a,af,lA N _ (by omega) (by omega),af,ai (aN (n:=n) (by omega)),aR]
  unfold qA
  rw[<-oO a]
  cases okW d[n].1 with
  |false=>rfl
  |true=>
   rw[bn,aj,ck]
   cases n with
   |zero=>rfl
   |succ n=>
    rw[aq (by omega:(0:Int)<((n+1:Nat):Int)),ao,ai (by unfold fits;omega),show(((n+1:Nat):Int)-1)=(n:Int)from by omega,aO (by omega),af,oO (n:=n) (by omega),ak (by omega:¬n+1=0),ig,lF]
    cases Op.bytesLess (rm d n).1 d[n+1].1<;>rfl
theorem U3 (N:Nat) (c:1048576<N) (e:N<=16777216) (d:List a7) (h:lL d):CH N d=some (jk d):=by
 have g:=h.len
 unfold CH
 refine j9 _ d.length (fun n=>((n:Int),d)) (qA d) _ (fun go=>?_) (fun go n a=>?_) N (by omega)
 .dsimp only
  rw[ak (bp _),aj]
 .have hw:=(h.each _ (bA a)).1
  dsimp only
  rw[aq (by omega:(n:Int)<d.length),ao,aO a,af,r6 N _ (by omega) (by omega),af,ai (aN (n:=n) (by omega)),aR,af]
  unfold qA
  rw[<-oO a]
  cases okW d[n].1 with
  |false=>rfl
  |true=>
   rw[bn,aj,ck]
   cases n with
   |zero=>rfl
   |succ n=>
    rw[aq (by omega:(0:Int)<((n+1:Nat):Int)),ao,ai (by unfold fits;omega),show(((n+1:Nat):Int)-1)=(n:Int)from by omega,aO (by omega),af,oO (n:=n) (by omega),ak (by omega:¬n+1=0),ig,lF,my]
    cases Op.bytesLess (rm d n).1 d[n+1].1<;>rfl
theorem Ys {ls:List (List UInt8)} (h:ls≠ []):idx ls ((ls.length:Int)-1)=some (ls.getLastD []):=by
 rcases List.eq_nil_or_concat ls with e|⟨xs,x,rfl⟩
 .exact absurd e h
 .rw [List.concat_eq_append,List.getLastD_concat]
  have e:((xs++ [x]).length:Int)-1=(xs.length:Int):=by
   rw[a1,bS]
   omega
  rw[e,aO (by simp)]
  simp
theorem UR {ls:List (List UInt8)} (h:ls≠ []):cut ls 0 ((ls.length:Int)-1)=some ls.dropLast:=by
 have a:0<ls.length:=List.length_pos_iff.2 h
 have e:(ls.length:Int)-1=((ls.length-1:Nat):Int):=by omega
 rw[e,vL ls (ls.length-1) (by omega),List.dropLast_eq_take]
theorem EM {N:Nat} (a:bF<N) (e:N<=16777216) {c:aL} (cV:cz bF gm c) {xs:List b0} (g:xs.length<=1048576) (h:∀l,l∈xs->ct (c,[l])=true):ea N (c,xs):=
 ⟨a,e,cV,g,fun l hm=>by
  have o:=xD (h l hm)
  have j:=o.cS
  have p:=o.dead
  exact⟨fun d i=>akX (n4 o.ad d i),by omega,by omega⟩⟩
theorem ake (c:aL) (d:List a7) (ms:List (List UInt8)) {n:Nat} (a:n<ms.length) {xs:List b0} (h:jP c d ms=(jP c d (ms.drop n)).map (xs++ ·)):(qs c d ms[n]=none->jP c d ms=none)/\∀l,qs c d ms[n]=some l->jP c d ms=(jP c d (ms.drop (n+1))).map ((xs++ [l])++ ·):=by
 rw[fC a]at h
 have g:jP c d (ms[n]::ms.drop (n+1))=(qs c d ms[n]).bind fun x=>(jP c d (ms.drop (n+1))).map fun xs=>x::xs:=rfl
 rw[g]at h
 refine⟨fun e=>by rw[h,e];rfl,fun l e=>?_⟩
 rw[h,e,af,Option.map_map]
 congr 1
 funext ys
 simp
def Told (o:Option ca) (r:List (List UInt8)×List eS×List b0×Bool):Prop:=(r.2.2.2=true->o=some ((r.1,r.2.1),r.2.2.1))/\(r.2.2.2=false->o=none)
theorem Told.no {o:Option ca} (h:o=none) (a:List (List UInt8)) (b:List eS) (x:List b0):Told o (a,b,x,false):=⟨(fun h=>by cases h),fun _=>h⟩
set_option maxHeartbeats 1000000 in
theorem UD {N:Nat} (P:1048600<=N) (o:N<=16777216) (c:aL) (cV:cz bF gm c) (d:List a7) (F:lL d) (n:Int) (Q:0<=n) (S:n<=1000):Def (zR N d c.1 c.2 n) (Told (mS c d n)):=by
 have K:bF<N:=by show 1048576<N;omega
 have T:=F.len
 unfold zR mS
 rw[ET N n Q S,af,EI N d _ (by omega) o,af]
 have v:∀t:List UInt8,t.length<=1048576->xn N t [10]=some (cutAt 10 t):=fun t L=>by
  show sA t [10]=_
  unfold sA
  dsimp only
  rw[ai (by omega)]
 cases U:eC d (eV n)with
 |none=>
  unfold ph
  dsimp only
  rw[v [] (by simp),af]
  refine Def.ite (by decide) ?_
  rw[dt,ao]
  exact Def.ret (Told.no rfl _ _ _)
 |some t=>
  have L:=F.text U
  have x:=Je 10 t
  have p:=Kx 10 t
  rw[af]
  unfold ph Ij
  dsimp only
  rw[v t L,af]
  generalize cutAt 10 t=ls at x p⊢
  have hlen:=C9 ls
  have M:0<ls.length:=List.length_pos_iff.2 p
  refine Def.ite (by unfold fits;omega) ?_
  rw[bn,aj,Ys p,af]
  by_cases he:ls.getLastD []=mz
  .have r:ls.getLastD []=[101,110,100]:=he
   rw[aq r,bn,aj,aq he,ao,Km N c (.of K cV),af,UR p,af]
   have G:ls.dropLast.length=ls.length-1:=List.length_dropLast
   have y:∀l,l∈ls.dropLast->l.length<=1048576:=fun l h=>by have:=Jf (List.dropLast_subset ls h);omega
   generalize ls.dropLast=ms at G y⊢
   refine Def.iter (fun g=>∃(k:Nat) (xs:List b0),g=(ms,(ms.length:Int),(k:Int),d,c.1,c.2,c.1,c.2,xs)/\k<=ms.length/\xs.length<=k/\(∀l,l∈xs->ct (c,[l])=true)/\jP c d ms=(jP c d (ms.drop k)).map (xs++ ·)) (fun g=>ms.length-g.2.2.1.toNat) (fun go g V W=>?_) N _ ⟨0,[],rfl,bg _,bC _,(fun l h=>by cases h),by simp⟩ (by dsimp only;omega)
   obtain⟨k,xs,rfl,cP,cI,O,z⟩:=V
   dsimp only
   by_cases B:k<ms.length
   .have X:=y _ (bA B)
    obtain⟨H,i⟩:=ake c d ms B z
    have A:r4 N ms[k] [32]=some (ek 32 ms[k]):=Ea X
    rw[aq (by omega:(k:Int)<ms.length),ao,aO B,af,A,af,EI N d _ (by omega) o,af]
    have a:qs c d ms[k]=none->Told ((jP c d ms).bind fun ls=>bif ct (c,ls)then some (c,ls)else none) (([]:List (List UInt8)),([]:List eS),([]:List b0),false):=fun e=>Told.no (by rw[H e];rfl) _ _ _
    unfold qs at a i
    cases I:eC d (ek 32 ms[k]).1 with
    |none=>
     rw[I]at a
     unfold ph
     dsimp only
     rw[dt,ao]
     exact Def.ret (a rfl)
    |some u=>
     have hu:=F.text I
     have Y:=yV u
     have hit:=ql N (h0 u:Int) (by omega) (by omega)
     unfold kh at hit
     rw[I]at a i
     dsimp only at a i
     unfold ph
     dsimp only
     rw[bn,aj,Kv N (by omega) u (by omega) (by omega),af,hit,af]
     by_cases C:Lib.itoa (h0 u:Int)=(ek 32 ms[k]).2.1
     .rw [aq C,ao]at a i
      rw[aq C,bn,aj,akh P o c cV u hu,af]
      cases J:mB c u with
      |none=>
       unfold Cd
       dsimp only
       rw[dt,ao]
       exact Def.ret (a J)
      |some l=>
       unfold Cd
       dsimp only
       rw[bn,aj]
       refine Def.ite (b5 (by rw[bS];omega) (by rw[bS];omega)) (Def.ite (aN (by omega)) (W _ ⟨k+1,xs++ [l],by rw[aR],B,by rw[a1,bS];omega,fun Z j=>?_,i l J⟩ (by dsimp only;omega)))
       rcases cp.1 j with j|j
       .exact O Z j
       .rw [c1]at j
        rw[j]
        exact(Lm J).1
     .rw [ak C,aj]at a
      rw[ak C,dt,ao]
      exact Def.ret (a rfl)
   .rw [ak (by omega:¬(k:Int)<ms.length),aj]
    rw[jv (by omega)]at z
    have z:jP c d ms=some xs:=by rw[z];simp[jP]
    have hi:oX N c.1 c.2 xs=some (ct (c,xs)):=Aa (EM K o cV (by omega) O)
    rw[hi,af,z,af]
    refine Def.ret ⟨fun h=>?_,fun h=>?_⟩
    .have h:ct (c,xs)=true:=h
     rw[h]
     rfl
    .have h:ct (c,xs)=false:=h
     rw[h]
     rfl
  .have r:¬ls.getLastD []=[101,110,100]:=he
   rw[ak r,dt,ao,ak he,aj]
   exact Def.ret (Told.no rfl _ _ _)
def qq (c:aL) (d:List a7):Nat->ca×Int
 |0=>((c,[]),0)
 |n+1=>match mS c d ((n+1:Nat):Int)with
  |some x=>(x,((n+1:Nat):Int))
  |none=>qq c d n
def Cc (c:aL) (d:List a7):ca×Int:=bif dQ c&&jk d then qq c d 99 else((([],[]),[]),-1)
def QI (r:ca×Int):List (List UInt8)×List eS×List b0×Int:=(r.1.1.1,r.1.1.2,r.1.2,r.2)
theorem U4 {N:Nat} (l:1048600<=N) (e:N<=16777216) (c:aL) (cV:cz bF gm c) (d:List a7) (j:lL d):zQ N c.1 c.2 d=some (QI (Cc c d)):=by
 have i:bF<N:=by show 1048576<N;omega
 unfold zQ Cc
 rw[re N i (by omega) c cV,af]
 cases o:dQ c with
 |false=>rfl
 |true=>
  rw[bn,aj,KG N i e d j,af,ck]
  cases jk d with
  |false=>rfl
  |true=>
   rw[bn,aj,ao]
   refine Def.get ?_
   refine Def.iter (fun g=>∃k:Nat,g=((k:Int),c.1,c.2,d)/\k<=99/\qq c d k=qq c d 99) (fun g=>g.1.toNat) (fun go g p t=>?_) N _ ⟨99,rfl,bC _,rfl⟩ (by show(99:Int).toNat<N;omega)
   obtain⟨k,rfl,u,a⟩:=p
   dsimp only
   cases k with
   |zero=>
    rw[ak (by decide:¬(1:Int)<=((0:Nat):Int)),aj,Yz i e c cV,af,o,ao]
    rw[<-a]
    exact Def.ret rfl
   |succ k=>
    rw[aq (by omega:(1:Int)<=((k+1:Nat):Int)),ao]
    refine Def.bind (UD l e c cV d j ((k+1:Nat):Int) (by omega) (by omega)) fun r ⟨t1,t2⟩=>?_
    unfold qq at a
    refine Def.bif (fun h=>?_) (fun h=>?_)
    .rw [t1 h]at a
     refine Def.ret ?_
     have a:(((r.1,r.2.1),r.2.2.1),((k+1:Nat):Int))=qq c d 99:=a
     rw[<-a]
     rfl
    .rw [t2 h]at a
     exact Def.ite (by unfold fits;omega) (t _ ⟨k,by rw[show((k+1:Nat):Int)-1=(k:Int)from by omega],by omega,a⟩ (by dsimp only;omega))
end Go.Proofs.YtnkagklajgimlaaGreatDoor
