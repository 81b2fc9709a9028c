
import Derived.Test.YtnkagklajgimlaaGreatDoorSF1
set_option linter.unusedVariables false
set_option linter.unusedSimpArgs false
namespace Go.Proofs.YtnkagklajgimlaaGreatDoor
open Go.RowKit
def jb (c:Nat):Nat:=if c%2=1 then(c/2)^^^3988292384 else c/2
def ux (c:Nat) (b:UInt8):Nat:=jb (jb (jb (jb (jb (jb (jb (jb (c^^^b.toNat))))))))
def mu (s:List UInt8):Nat:=(s.foldl ux 4294967295)^^^4294967295
abbrev bu :Type:=List UInt8×List UInt8
def fi (d:List bu) (bw:List UInt8):Option (List UInt8):=(d.find? fun f=>decide (f.1=bw)).map (·.2)
abbrev kT (d:List bu):Prop:=d.Pairwise fun a b=>Op.bytesLess a.1 b.1=true
def hS (f:bu):List bu->List bu
 | []=>[f]
 |g::d=>if g.1=f.1 then f::d else if Op.bytesLess g.1 f.1=true then g::hS f d else f::g::d
theorem pB (g:bu) (d:List bu) (bw:List UInt8):fi (g::d) bw=if g.1=bw then some g.2 else fi d bw:=by
 unfold fi
 rw[n0]
 by_cases h:g.1=bw
 .rw [aq h,ai h]
  rfl
 .rw [an h,aC h]
theorem HE (f:bu) (bw:List UInt8):∀d,fi (hS f d) bw=if f.1=bw then some f.2 else fi d bw
 | []=>by rw[hS,pB]
 |g::d=>by
  rw[hS]
  by_cases a:g.1=f.1
  .rw [ai a,pB,pB,a]
   by_cases h:f.1=bw
   .rw [ai h,ai h]
   .rw [aC h,aC h,aC h]
  .rw [aC a]
   by_cases c:Op.bytesLess g.1 f.1=true
   .rw [ai c,pB,HE f bw d,pB]
    by_cases h:f.1=bw
    .rw [aC (fun e=>a (e.trans h.symm)),ai h,ai h]
    .rw [aC h,aC h]
   .rw [aC c,pB]
theorem EY (f x:bu):∀d,x∈hS f d->x=f\/x∈d
 | [],h=>by rw[hS,du]at h;exact .inl h
 |g::d,h=>by
  rw[hS]at h
  split at h
  .rcases bn.1 h with h|h
   .exact .inl h
   .exact .inr (ch _ h)
  .split at h
   .rcases bn.1 h with h|h
    .exact .inr (h▸cb)
    .exact (EY f x d h).imp id (ch _)
   .rcases bn.1 h with h|h
    .exact .inl h
    .exact .inr h
theorem EZ (f:bu):∀d,kT d->kT (hS f d)
 | [],_=>List.pairwise_singleton _ _
 |g::d,h=>by
  rw[kT,en]at h
  rw[hS]
  split
  .rename_i e
   rw[kT,en]
   exact⟨fun x a=>by rw[<-e];exact h.1 x a,h.2⟩
  .rename_i e
   split
   .rename_i c
    rw[kT,en]
    refine⟨fun x a=>?_,EZ f d h.2⟩
    rcases EY f x d a with rfl|a
    .exact c
    .exact h.1 x a
   .rename_i c
    have i:Op.bytesLess f.1 g.1=true:=wT (by simpa using c) e
    rw[kT,en,en]
    exact⟨fun x a=>by
     rcases bn.1 a with rfl|a
     .exact i
     .exact qD i (h.1 x a),h⟩
theorem EX (f:bu):∀d,(hS f d).length<=d.length+1
 | []=>bE _
 |g::d=>by
  have a:=EX f d
  rw[hS]
  split
  .simp
  .split
   .simp only [ba];omega
   .simp
def fP (n:Int):List UInt8:=[103,101,110]++Lib.itoa (1000+n)
def fk (n k:Int):List UInt8:=[115,101,103]++Lib.itoa (1000+n)++ [120]++Lib.itoa k
theorem OL {a b:Int} (g:0<=a) (av:0<=b) (c:a<1000000000000000000) (e:b<1000000000000000000) (h:Lib.itoa a=Lib.itoa b):a=b:=by
 rw[<-wR g c,<-wR av e,h]
theorem ac2 {a b:Int} (g:0<=a) (av:0<=b) (c:a<=1000000) (e:b<=1000000) (h:fP a=fP b):a=b:=by
 have:=OL (by omega) (by omega) (by omega) (by omega) (List.append_cancel_left h)
 omega
theorem Pb (a n k:Int):fP a≠fk n k:=fun h=>by
 have c:fP a=103::([101,110]++Lib.itoa (1000+a)):=rfl
 have e:fk n k=115::([101,103]++Lib.itoa (1000+n)++ [120]++Lib.itoa k):=rfl
 rw[c,e]at h
 exact absurd (List.cons.inj h).1 (by decide)
theorem aby {n a b:Int} (c:0<=a) (av:0<=b) (e:a<=1000000) (g:b<=1000000) (h:fk n a=fk n b):a=b:=
 OL c av (by omega) (by omega) (List.append_cancel_left h)
def lV (f:bu):List UInt8:=f.1++ [32]++Lib.itoa (mu f.2:Int)
def w5 :List UInt8:=[101,110,100]
def Jw (a:List bu):List UInt8:=ji (a.map lV)++w5
def fH (n:Int):Nat->List b9->List bu
 |_,[]=>[]
 |k,l::ls=>(fk n (k:Int),fa l.1.1 l.2)::fH n (k+1) ls
def e7 (x:b8) (n:Int):List bu:=fH n 0 x.2++ [(fP n,Jw (fH n 0 x.2))]
theorem On :∀(ls:List (List UInt8)) (e:List UInt8),(∀l,l∈ls->(10:UInt8)∉l)->(10:UInt8)∉e->cutAt 10 (ji ls++e)=ls++ [e]
 | [],e,_,he=>by
  rw[show ji []++e=e from rfl,HZ he]
  rfl
 |l::ls,e,h,he=>by
  rw[yx,e5,kp,BS (h l cb),On ls e (fun x a=>h x (ch _ a)) he]
  rfl
def rf (c:aK) (d:List bu) (line:List UInt8):Option b9:=match fi d (er 32 line).1 with
 |none=>none
 |some t=>bif decide (Lib.itoa (mu t:Int)=(er 32 line).2.1)then ng c t else none
def kf (c:aK) (d:List bu):List (List UInt8)->Option (List b9)
 | []=>some []
 |l::ls=>(rf c d l).bind fun x=>(kf c d ls).map fun xs=>x::xs
def JZ (c:aK) (d:List bu) (s:List UInt8):Option b8:=
 bif decide ((cutAt 10 s).getLastD []=w5)then(kf c d (cutAt 10 s).dropLast).bind fun ls=>bif cf (c,ls)then some (c,ls)else none else none
def nF (c:aK) (d:List bu) (n:Int):Option b8:=(fi d (fP n)).bind (JZ c d)
theorem H4 {x:b8} (c:cf x=true) {l:b9} (a:l∈x.2):cf (x.1,[l])=true:=by
 obtain⟨e,o,g,h⟩:=gu c
 have i:gS x.1 l=true:=cz.1 g l a
 have j:eR (h8 (fh [l]))=true:=JS h (Fo (List.singleton_sublist.2 a))
 unfold cf
 dsimp only
 rw[e,j,List.all_cons,i]
 rfl
theorem Ou (n k:Int) (h:0<=n) (g:0<=k) {c:UInt8} (a:c≠115/\c≠101/\c≠103/\c≠120) (e:gN c=false):c∉fk n k:=by
 unfold fk
 rw[cE,cE,cE,not_or,not_or,not_or]
 refine⟨⟨⟨?_,u9 (by omega) e⟩,?_⟩,u9 g e⟩
 .simp [a.1,a.2.1,a.2.2.1]
 .simp [a.2.2.2]
theorem abn {n:Int} (c:0<=n) (ls:List b9) (k:Nat):∀l,l∈(fH n k ls).map lV->(10:UInt8)∉l:=by
 induction ls generalizing k with
 |nil=>intro l a;cases a
 |cons x ls e=>
  intro l a
  rw[fH,cw,bn]at a
  rcases a with rfl|a
  .unfold lV
   dsimp only
   rw[cE,cE,not_or,not_or]
   exact⟨⟨Ou n k c (by omega) (by decide) (by decide),by decide⟩,u9 (by omega) (by decide)⟩
  .exact e (k+1) l a
def BC (d:List bu) (n:Int):Nat->List b9->Prop
 |_,[]=>True
 |k,l::ls=>fi d (fk n (k:Int))=some (fa l.1.1 l.2)/\BC d n (k+1) ls
theorem Oy {c:aK} {d:List bu} {n:Int} (a:0<=n):∀(ls:List b9) (k:Nat),(∀l,l∈ls->cf (c,[l])=true)->BC d n k ls->kf c d ((fH n k ls).map lV)=some ls
 | [],k,_,_=>rfl
 |l::ls,k,h,g=>by
  have i:=Oy a ls (k+1) (fun x j=>h x (ch _ j)) g.2
  have o:er 32 (lV (fk n (k:Int),fa l.1.1 l.2))=(fk n (k:Int),Lib.itoa (mu (fa l.1.1 l.2):Int),true):=by
   have e:lV (fk n (k:Int),fa l.1.1 l.2)=fk n (k:Int)++32::Lib.itoa (mu (fa l.1.1 l.2):Int):=by unfold lV;simp
   rw[e,r8 (Ou n k a (by omega) (by decide) (by decide))]
  have p:rf c d (lV (fk n (k:Int),fa l.1.1 l.2))=some l:=by
   unfold rf
   rw[o]
   dsimp only
   rw[g.1]
   dsimp only
   rw[aq rfl,ao,Yy (h l cb)]
  rw[fH,cw,kf,p,ag,i]
  rfl
theorem abo {x:b8} (a:cf x=true) {d:List bu} {n:Int} (c:0<=n) (e:fi d (fP n)=some (Jw (fH n 0 x.2))) (g:BC d n 0 x.2):nF x.1 d n=some x:=by
 unfold nF
 rw[e,ag]
 unfold JZ Jw
 rw[On _ _ (abn c x.2 0) (by decide),List.getLastD_concat,List.dropLast_concat,aq rfl,ao,Oy c x.2 0 (fun l h=>H4 a h) g,ag]
 have:((x.1,x.2):b8)=x:=rfl
 rw[this,a]
 rfl
def oG (d:List bu):Nat->Nat
 |0=>0
 |k+1=>bif(fi d (fP ((k+1:Nat):Int))).isSome then k+1 else oG d k
def ei (d:List bu):Nat:=oG d 99
theorem HJ (d:List bu):∀m,oG d m<=m
 |0=>bE _
 |k+1=>by
  have a:=HJ d k
  rw[oG]
  cases(fi d (fP ((k+1:Nat):Int))).isSome with
  |true=>exact bE _
  |false=>rw[aj];omega
theorem OR (d:List bu):∀(m j:Nat),oG d m<j->j<=m->fi d (fP (j:Int))=none
 |0,j,a,g=>by omega
 |k+1,j,a,g=>by
  rw[oG]at a
  cases c:(fi d (fP ((k+1:Nat):Int))).isSome with
  |true=>rw[c,ao]at a;omega
  |false=>
   rw[c,aj]at a
   by_cases e:j=k+1
   .subst e
    rw[<-Option.not_isSome_iff_eq_none,c]
    decide
   .exact OR d k j a (by omega)
def lj (n:Int) (bw:List UInt8):Bool:=decide (7<=bw.length)&&(decide (bw.take 3=[103,101,110])||decide (bw.take 3=[115,101,103]))&&(((bw.drop 3).take 4).all gN&&(decide ((1001:Int)<=(gi 0 ((bw.drop 3).take 4):Int))&&decide ((gi 0 ((bw.drop 3).take 4):Int)<=1000+n-1)))
def j1 (n:Int) (d:List bu):List bu:=d.filter fun f=> !lj n f.1
theorem HH (n:Int) (bw:List UInt8):∀d,fi (j1 n d) bw=if lj n bw=true then none else fi d bw
 | []=>by
  show(none:Option (List UInt8))=_
  split<;>rfl
 |g::d=>by
  have a:=HH n bw d
  unfold j1 at a⊢
  rw[iY,pB]
  cases c:lj n g.1 with
  |true=>
   rw[aC (by simp),a]
   by_cases e:g.1=bw
   .rw [<-e,c,ai rfl,ai rfl]
   .rw [aC e]
  |false=>
   rw[ai (by simp),pB,a]
   by_cases e:g.1=bw
   .rw [ai e,ai e,aC (by rw[<-e,c];decide)]
   .rw [aC e,aC e]
theorem acB {u:Nat} (a:1000<=u) (c:u<10000):(Lib.decDigits u).length=4:=by
 rw[qI,aC (by omega),qI,aC (by omega),qI,aC (by omega),qI,ai (by omega)]
 rfl
theorem Bu {n:Int} (a:0<=n) (c:n<=1000):(Lib.itoa (1000+n)).length=4/\gi 0 (Lib.itoa (1000+n))=(1000+n).toNat:=by
 unfold Lib.itoa
 rw[aC (by omega)]
 exact⟨acB (by omega) (by omega),HX _ _ (bE _)⟩
theorem abI {n:Int} (a:0<=n) (c:n<=1000):lj n (fP n)=false:=by
 obtain⟨g,h⟩:=Bu a c
 have e:((fP n).drop 3).take 4=Lib.itoa (1000+n):=by
  have:(fP n).drop 3=Lib.itoa (1000+n):=rfl
  rw[this,<-g,cj]
 unfold lj
 rw[e,h,an (by omega:¬(((1000+n).toNat:Nat):Int)<=1000+n-1),rR,rR,rR]
theorem abW {n:Int} (k:Int) (a:0<=n) (c:n<=1000):lj n (fk n k)=false:=by
 obtain⟨g,h⟩:=Bu a c
 have e:((fk n k).drop 3).take 4=Lib.itoa (1000+n):=by
  have:(fk n k).drop 3=Lib.itoa (1000+n)++([120]++Lib.itoa k):=by
   unfold fk
   rw[e5,e5]
   rfl
  rw[this,<-g,List.take_left]
 unfold lj
 rw[e,h,an (by omega:¬(((1000+n).toNat:Nat):Int)<=1000+n-1),rR,rR,rR]
def writeAll (a:List bu) (d:List bu):List bu:=a.foldl (fun d f=>hS f d) d
theorem zr (f:bu) (a d:List bu):writeAll (f::a) d=writeAll a (hS f d):=rfl
theorem abq (a b d:List bu):writeAll (a++b) d=writeAll b (writeAll a d):=by unfold writeAll;rw[hW]
def fp (w:Int) (a:List bu):List bu:=bif decide (w<0)then a else a.take w.toNat
def kX (d:List bu) (x:b8) (w:Int):List bu×Int:=
 bif decide (99<ei d+1)||decide (24<d.length+6)then(d,0)else
  (bif decide (w<0)||decide (((e7 x (ei d+1:Nat)).length:Int)<w)then j1 (ei d+1:Nat) (writeAll (fp w (e7 x (ei d+1:Nat))) d)else writeAll (fp w (e7 x (ei d+1:Nat))) d,(ei d+1:Nat))
theorem HK (bw:List UInt8):∀(a d:List bu),(∀f,f∈a->f.1≠bw)->fi (writeAll a d) bw=fi d bw
 | [],d,_=>rfl
 |f::a,d,h=>by rw[zr,HK bw a _ fun g c=>h g (ch _ c),HE,aC (h f cb)]
theorem Om :∀(c d:List bu),(c.Pairwise fun a b=>a.1≠b.1)->∀f,f∈c->fi (writeAll c d) f.1=some f.2
 |g::c,d,e,f,h=>by
  rw[en]at e
  rw[zr]
  rcases bn.1 h with rfl|h
  .rw [HK f.1 c _ (fun x i=>(e.1 x i).symm),HE,ai rfl]
  .exact Om c _ e.2 f h
theorem vV {n:Int}:∀(ls:List b9) (k:Nat) (f:bu),f∈fH n k ls->∃j:Nat,k<=j/\j<k+ls.length/\f.1=fk n (j:Int)
 | [],k,f,h=>by cases h
 |l::ls,k,f,h=>by
  rw[fH]at h
  rcases bn.1 h with rfl|h
  .exact ⟨k,bE _,by simp,rfl⟩
  .obtain ⟨j,c,e,a⟩:=vV ls (k+1) f h
   exact⟨j,by omega,by rw[ba];omega,a⟩
theorem Ov {n:Int}:∀(ls:List b9) (k:Nat),k+ls.length<=1000000->(fH n k ls).Pairwise fun a b=>a.1≠b.1
 | [],k,_=>l9
 |l::ls,k,c=>by
  rw[ba]at c
  rw[fH,en]
  refine⟨fun f g e=>?_,Ov ls (k+1) (by omega)⟩
  obtain⟨j,i,o,h⟩:=vV ls (k+1) f g
  have e:fk n (k:Int)=fk n (j:Int):=e.trans h
  have:=aby (by omega) (by omega) (by omega) (by omega) e
  omega
theorem abJ {x:b8} (g:x.2.length<=5) (n:Int):(e7 x n).Pairwise fun a b=>a.1≠b.1:=by
 unfold e7
 rw[List.pairwise_append]
 refine⟨Ov x.2 0 (by omega),List.pairwise_singleton _ _,fun a c b av=>?_⟩
 rw[du]at av
 obtain⟨j,_,_,e⟩:=vV x.2 0 a c
 rw[av,e]
 exact(Pb n n j).symm
theorem OT (n:Int):∀(ls:List b9) (k:Nat),(fH n k ls).length=ls.length
 | [],_=>rfl
 |l::ls,k=>by rw[fH,ba,ba,OT n ls]
theorem Ap (x:b8) (n:Int):(e7 x n).length=x.2.length+1:=by
 unfold e7
 rw[bh,OT]
 rfl
theorem OK {d:List bu} {n:Int}:∀(ls:List b9) (k:Nat),(∀f,f∈fH n k ls->fi d f.1=some f.2)->BC d n k ls
 | [],_,_=>True.intro
 |l::ls,k,h=>by
  rw[fH]at h
  exact⟨h _ cb,OK ls (k+1) fun f a=>h f (ch _ a)⟩
def vK (c:aK) (d:List bu):Nat->b8×Int
 |0=>((c,[]),0)
 |k+1=>match nF c d ((k+1:Nat):Int)with
  |some x=>(x,((k+1:Nat):Int))
  |none=>vK c d k
def DC (c:aK) (d:List bu):b8×Int:=vK c d 99
theorem ON {c:aK} {d:List bu} {n:Nat} {x:b8} (i:1<=n) (a:nF c d (n:Int)=some x):∀m,n<=m->(∀j:Nat,n<j->j<=m->fi d (fP (j:Int))=none)->vK c d m=(x,(n:Int))
 |0,h,_=>by omega
 |k+1,h,g=>by
  rw[vK]
  by_cases e:n=k+1
  .rw [<-e,a]
  .have:nF c d ((k+1:Nat):Int)=none:=by
    unfold nF
    rw[g (k+1) (by omega) (bE _)]
    rfl
   rw[this]
   exact ON i a k (by omega) fun j l o=>g j l (by omega)
theorem Xd {d:List bu} {x:b8} (t:cf x=true) (u:(decide (99<ei d+1)||decide (24<d.length+6))=false) (w:Int) (hw:w<0\/((x.2.length+1:Nat):Int)<=w):
  (kX d x w).2=((ei d+1:Nat):Int)/\DC x.1 (kX d x w).1=(x,((ei d+1:Nat):Int)):=by
 have v:x.2.length<=5:=(gu t).2.1
 have y:ei d+1<=99:=by
  rw[Bool.or_eq_false_iff,decide_eq_false_iff_not]at u
  omega
 have g:∀j:Nat,ei d+1<j->j<=99->fi d (fP (j:Int))=none:=fun j c h=>OR d 99 j (by unfold ei at c;omega) h
 unfold kX
 rw[u,aj]
 refine⟨rfl,?_⟩
 generalize hm:ei d+1=n at*
 have l:fp w (e7 x (n:Int))=e7 x (n:Int):=by
  unfold fp
  rcases hw with hw|hw
  .rw [aq hw];rfl
  .rw [an (by omega),aj,jS]
   rw[Ap]
   omega
 rw[l]
 have o:=Om (e7 x (n:Int)) d (abJ v (n:Int))
 have p:∀j:Nat,n<j->j<=99->fi (writeAll (e7 x (n:Int)) d) (fP (j:Int))=none:=fun j c h=>by
  rw[HK _ _ _ fun f a e=>?_]
  .exact g j c h
  .unfold e7 at a
   rw[cE,du]at a
   rcases a with a|rfl
   .obtain ⟨i,_,_,r⟩:=vV x.2 0 f a
    exact Pb _ _ _ (e.symm.trans r)
   .have:=ac2 (by omega) (by omega) (by omega) (by omega) e
    omega
 have key:∀z:List bu,(∀f,f∈e7 x (n:Int)->fi z f.1=some f.2)->(∀j:Nat,n<j->j<=99->fi z (fP (j:Int))=none)->DC x.1 z=(x,(n:Int)):=fun z c h=>by
  have A:nF x.1 z (n:Int)=some x:=abo t (by omega) (c (fP (n:Int),_) (by unfold e7;exact lv _ cb)) (OK x.2 0 fun f a=>c f (by unfold e7;exact fc _ a))
  exact ON (by omega) A 99 (by omega) h
 cases decide (w<0)||decide (((e7 x (n:Int)).length:Int)<w)with
 |false=>exact key _ o p
 |true=>
  rw[ao]
  refine key _ (fun f a=>?_) (fun j c h=>?_)
  .rw [HH]
   have B:lj (n:Int) f.1=false:=by
    unfold e7 at a
    rw[cE,du]at a
    rcases a with a|rfl
    .obtain ⟨i,_,_,r⟩:=vV x.2 0 f a
     rw[r]
     exact abW _ (by omega) (by omega)
    .exact abI (by omega) (by omega)
   rw[B,aC (by decide)]
   exact o f a
  .rw [HH,p j c h]
   split<;>rfl
def uE (d:List bu) (n:Nat):bu:=d[n]?.getD ([],[])
theorem se {d:List bu} {n:Nat} (h:n<d.length):d[n]=uE d n:=by unfold uE;rw[bG h];rfl
def vJ (d:List bu) (n:Nat):Bool:=okW (uE d n).1&&(decide (n=0)||Op.bytesLess (uE d (n-1)).1 (uE d n).1)
def l1 (d:List bu):Bool:=dL d.length (vJ d)&&decide ((d.length:Int)<=24)
structure jt (d:List bu):Prop where
 up:kT d
 names:∀f,f∈d->okW f.1=true
 c7:d.length<=24
theorem JQ {d:List bu} (h:l1 d=true):jt d:=by
 unfold l1 at h
 rw[a6,bo]at h
 refine⟨?_,fun f i=>?_,by omega⟩
 .refine DI (fun a b:bu=>Op.bytesLess a.1 b.1=true) (fun a b c j e=>qD j e) d fun n g=>?_
  have e:=nb h.1 g
  unfold vJ at e
  rw[a6,an (by omega),fL,mX,<-se g,<-se (by omega:n<d.length)]at e
  exact e.2
 .obtain ⟨n,g,rfl⟩:=eb.1 i
  have e:=nb h.1 g
  unfold vJ at e
  rw[a6,<-se g]at e
  exact e.1
theorem jt.ok {d:List bu} (h:jt d):l1 d=true:=by
 have c:=h.c7
 unfold l1 dL
 rw[a6,cz,bo]
 refine⟨fun n a=>?_,by omega⟩
 have a:n<d.length:=by simpa using a
 unfold vJ
 rw[<-se a,h.names _ (br a),cl]
 match n,a with
 |0,_=>rfl
 |n+1,a=>
  rw[mX,<-se (by omega:n<d.length),gx.1 h.up n (n+1) (by omega) a (by omega),Bool.or_true]
theorem jt.write {d:List bu} (h:jt d) {f:bu} (c:okW f.1=true) (e:d.length<24):jt (hS f d):=
 ⟨EZ f d h.up,fun g a=>by
  rcases EY f g d a with rfl|a
  .exact c
  .exact h.names g a,by have:=EX f d;omega⟩
theorem VI :∀(a d:List bu),(writeAll a d).length<=d.length+a.length
 | [],d=>bE _
 |f::a,d=>by
  have c:=VI a (hS f d)
  have e:=EX f d
  rw[zr,ba]
  omega
theorem jt.all :∀(a:List bu) {d:List bu},jt d->(∀f,f∈a->okW f.1=true)->d.length+a.length<=24->jt (writeAll a d)
 | [],d,h,_,_=>h
 |f::a,d,h,c,e=>by
  rw[ba]at e
  have j:=EX f d
  exact jt.all a (h.write (c f cb) (by omega)) (fun g i=>c g (ch _ i)) (by show(hS f d).length+a.length<=24;omega)
theorem jt.clean {d:List bu} (h:jt d) (n:Int):jt (j1 n d):=
 ⟨h.up.sublist List.filter_sublist,fun f a=>h.names f (gH.1 a).1,dS (ho _ _) h.c7⟩
theorem FT {c:UInt8} (h:gN c=true):fX (c.toNat:Int)=true:=by
 unfold gN at h
 rw[a6,bo,bo]at h
 unfold fX
 rw[aq (by omega:(48:Int)<=(c.toNat:Int)),aq (by omega:(c.toNat:Int)<=57)]
 simp
theorem Yw {n:Int} (e:0<=n) (g:n<=1000):okW (fP n)=true:=by
 refine(iw _).2 ⟨fun c a=>?_,?_⟩
 .unfold fP at a
  rw[cE]at a
  rcases a with a|a
  .simp only [bn,List.mem_nil_iff,or_false]at a
   rcases a with rfl|rfl|rfl<;>decide
  .exact FT (Bt (by omega) c a)
 .have:=(Bu e g).1
  unfold fP
  rw[bh]
  show 1<=3+_/\3+_<=12
  omega
theorem aqG {n k:Int} (e:0<=n) (g:n<=1000) (h:0<=k) (i:k<=9):okW (fk n k)=true:=by
 refine(iw _).2 ⟨fun c a=>?_,?_⟩
 .unfold fk at a
  rw[cE,cE,cE]at a
  rcases a with((a|a)|a)|a
  .simp only [bn,List.mem_nil_iff,or_false]at a
   rcases a with rfl|rfl|rfl<;>decide
  .exact FT (Bt (by omega) c a)
  .rw [du.1 a]
   decide
  .exact FT (Bt (by omega) c a)
 .have j:=(Bu e g).1
  have l:(Lib.itoa k).length<=1:=by
   unfold Lib.itoa
   rw[aC (by omega)]
   exact Ah 1 k.toNat (bE _) (by rw[Nat.pow_one];omega)
  unfold fk
  rw[bh,bh,bh]
  show 1<=3+_+1+_/\3+_+1+_<=12
  omega
theorem Xc {d:List bu} (h:jt d) {x:b8} (l:x.2.length<=5) (w:Int):jt (kX d x w).1:=by
 unfold kX
 cases g:decide (99<ei d+1)||decide (24<d.length+6)with
 |true=>exact h
 |false=>
  rw[aj]
  rw[Bool.or_eq_false_iff,decide_eq_false_iff_not,decide_eq_false_iff_not]at g
  have c:∀f,f∈fp w (e7 x ((ei d+1:Nat):Int))->f∈e7 x ((ei d+1:Nat):Int):=fun f a=>by
   unfold fp at a
   cases h:decide (w<0)with
   |true=>rw[h]at a;exact a
   |false=>rw[h]at a;exact fC a
  have hlen:(fp w (e7 x ((ei d+1:Nat):Int))).length<=x.2.length+1:=by
   rw[<-Ap x ((ei d+1:Nat):Int)]
   unfold fp
   cases decide (w<0)with
   |true=>exact bE _
   |false=>rw[aj,bN];exact Nat.min_le_right _ _
  have e:jt (writeAll (fp w (e7 x ((ei d+1:Nat):Int))) d):=jt.all _ h (fun f a=>by
   have a:=c f a
   unfold e7 at a
   rw[cE,du]at a
   rcases a with a|rfl
   .obtain ⟨j,_,o,i⟩:=vV x.2 0 f a
    rw[i]
    exact aqG (by omega) (by omega) (by omega) (by omega)
   .exact Yw (by omega) (by omega)) (by omega)
  dsimp only
  cases decide (w<0)||decide (((e7 x ((ei d+1:Nat):Int)).length:Int)<w)with
  |true=>exact e.clean _
  |false=>exact e
def V2 (m:Nat) (P:Nat->List UInt8->Prop) (d:List bu):Prop:=∀f,f∈d->∀k:Nat,1<=k->k<=99->f.1=fP (k:Int)->k<=m/\P k f.2
inductive zx (s:List UInt8):List UInt8->Prop where
 |same:zx s s
 |set (k:Nat) (b:UInt8) (av:b∈([48,49,32,40,41,10,58,128]:List UInt8)):zx s (s.take k++ [b]++s.drop (k+1))
 |pre (k:Nat):zx s (s.take k)
 |post (b:UInt8) (av:b∈([48,32,41,10]:List UInt8)):zx s (s++ [b])
theorem K6 {a:Nat} (h:a<4294967296):IntKind.u32.wrap (a:Int)=(a:Int):=by
 simp only[IntKind.wrap,IntKind.bits,IntKind.signed]
 simp only[show((2:Int)^32)=4294967296 by rfl]
 have e:(a:Int)%4294967296=a:=wz (by omega) (by omega)
 rw[e]
 simp
theorem z1 {k:Nat} {a:Nat} (h:a<2^k):(BitVec.ofInt k (a:Int)).toNat=a:=by
 rw[BitVec.toNat_ofInt]
 have:(a:Int)%((2^k:Nat):Int)=a:=wz (by omega) (by exact_mod_cast h)
 rw[this]
 rfl
theorem K8 {a b:Nat} (c:a<4294967296) (av:b<4294967296):ey .xor .u32 (a:Int) (b:Int)=((a^^^b:Nat):Int):=by
 have e:a^^^b<2^32:=wy (by omega) (by omega)
 show IntKind.u32.wrap ((BitVec.ofInt 32 (a:Int)^^^BitVec.ofInt 32 (b:Int)).toNat:Int)=_
 rw[BitVec.toNat_xor,z1 (by omega),z1 (by omega),K6 (by omega)]
theorem Wq {a:Nat} (c:a<4294967296):ey .and .u32 (a:Int) 1=((a%2:Nat):Int):=by
 show IntKind.u32.wrap ((BitVec.ofInt 32 (a:Int)&&&BitVec.ofInt 32 ((1:Nat):Int)).toNat:Int)=_
 rw[BitVec.toNat_and,z1 (by omega),z1 (by omega),Nat.and_one_is_mod,K6 (by omega)]
def rD :Nat->Nat->Nat
 |0,c=>c
 |k+1,c=>rD k (jb c)
theorem Xl (c:Nat) (b:UInt8):ux c b=rD 8 (c^^^b.toNat):=rfl
theorem FK {c:Nat} (h:c<4294967296):jb c<4294967296:=by
 unfold jb
 split
 .exact wy (n:=32) (by omega) (by omega)
 .omega
theorem TG :∀(k:Nat) {c:Nat},c<4294967296->rD k c<4294967296
 |0,_,h=>h
 |k+1,_,h=>TG k (FK h)
theorem LJ {c:Nat} (h:c<4294967296) (b:UInt8):c^^^b.toNat<4294967296:=wy (n:=32) (by omega) (by have:=b.toNat_lt;omega)
theorem L5 (N:Nat) (A:16<=N) (s:List UInt8) (B:s.length<N) (C:s.length<=1099511627776):xG N s=some (mu s:Int):=by
 unfold xG
 refine Def.get ?_
 refine Def.iter (fun g=>∃(n c:Nat),g=(s,(c:Int),(s.length:Int),(n:Int))/\n<=s.length/\c<4294967296/\(s.drop n).foldl ux c=s.foldl ux 4294967295) (fun g=>s.length-g.2.2.2.toNat) (fun go g o x=>?_) N _ ⟨0,4294967295,rfl,bg _,by omega,rfl⟩ (by dsimp only;omega)
 obtain⟨n,c,rfl,F,p,i⟩:=o
 dsimp only
 by_cases r:n<s.length
 .rw [aq (by omega:(n:Int)<s.length),ao,aP r,ag]
  have y:s.drop n=s[n]::s.drop (n+1):=eY r
  rw[y,eZ,Xl]at i
  have av:=s[n].toNat_lt
  have v:=LJ p s[n]
  rw[K6 (by omega),K8 p (by omega)]
  refine Def.iter (fun g=>∃(k c':Nat),g=(s,(c':Int),(s.length:Int),(n:Int),(k:Int))/\k<=8/\c'<4294967296/\rD (8-k) c'=rD 8 (c^^^s[n].toNat)) (fun g=>8-g.2.2.2.2.toNat) (fun go2 g o j=>?_) N _ ⟨0,_,rfl,by omega,v,rfl⟩ (by dsimp only;omega)
  obtain⟨k,c',rfl,G,l,h⟩:=o
  dsimp only
  by_cases H:k<8
  .have t:8-k=(8-(k+1))+1:=by omega
   rw[t]at h
   have h:rD (8-(k+1)) (jb c')=rD 8 (c^^^s[n].toNat):=h
   have z:((c':Nat):Int).fdiv (2^(min (1:Int).toNat (IntKind.bits .u32)))=((c'/2:Nat):Int):=by
    rw[show((2:Int)^(min (1:Int).toNat (IntKind.bits .u32)))=2 by rfl,E5 _ (by decide:(0:Int)<=2)]
    omega
   rw[aq (by omega:(k:Int)<8),ao,Wq l,z]
   by_cases hm:c'%2=1
   .rw [aq (by omega:((c'%2:Nat):Int)=1),ao]
    refine Def.ite (by decide) (Def.ite (aO (by omega)) (j _ ⟨k+1,jb c',?_,by omega,FK l,h⟩ (by dsimp only;omega)))
    have e:jb c'=(c'/2)^^^3988292384:=by unfold jb;rw[ai hm]
    have u:ey .xor .u32 ((c'/2:Nat):Int) 3988292384=(((c'/2)^^^3988292384:Nat):Int):=K8 (a:=c'/2) (b:=3988292384) (by omega) (by omega)
    rw[u,e,aS]
   .rw [an (by omega:¬((c'%2:Nat):Int)=1),aj]
    refine Def.ite (by decide) (Def.ite (aO (by omega)) (j _ ⟨k+1,jb c',?_,by omega,FK l,h⟩ (by dsimp only;omega)))
    have e:jb c'=c'/2:=by unfold jb;rw[aC hm]
    rw[e,aS]
  .rw [an (by omega:¬(k:Int)<8),aj]
   have t:8-k=0:=by omega
   rw[t]at h
   have h:c'=rD 8 (c^^^s[n].toNat):=h
   refine Def.ite (aO (by omega)) (x _ ⟨n+1,c',by rw[aS],r,l,?_⟩ (by dsimp only;omega))
   rw[h]
   exact i
 .rw [an (by omega:¬(n:Int)<s.length),aj]
  rw[mf (by omega)]at i
  have i:c=s.foldl ux 4294967295:=i
  refine Def.ret ?_
  have u:ey .xor .u32 4294967295 (c:Int)=((4294967295^^^c:Nat):Int):=K8 (a:=4294967295) (b:=c) (by omega) p
  have v:4294967295^^^c<2^32:=wy (by omega) (by omega)
  rw[u,wrap64 (by omega) (by omega)]
  unfold mu
  rw[<-i,Nat.xor_comm]
theorem FL (s:List UInt8):mu s<4294967296:=by
 have h:∀(l:List UInt8) (c:Nat),c<4294967296->l.foldl ux c<4294967296:=fun l=>by
  induction l with
  |nil=>exact fun c h=>h
  |cons b l a=>exact fun c h=>a _ (TG 8 (LJ h b))
 exact wy (n:=32) (h s _ (by omega)) (by omega)
def tf :Option (List UInt8)->List UInt8×Bool
 |some t=>(t,true)
 |none=>([],false)
theorem Gj (N:Nat) (d:List bu) (bw:List UInt8) (h:d.length<N) (g:N<=16777216):uY N d bw=some (tf (fi d bw)):=by
 unfold uY
 refine(dh _ d.length (fun n=>(bw,d,(d.length:Int),(n:Int))) (fun n=>some (tf (fi (d.drop n) bw))) (fun go=>?_) (fun go n c a=>?_) N 0 (bg _) (by omega)).trans rfl
 .dsimp only
  rw[an (bm _),aj,me]
  rfl
 .dsimp only
  rw[aq (by omega:(n:Int)<d.length),ao,aP c,ag,eY c,pB]
  by_cases e:d[n].1=bw
  .rw [aq e,ao,ai e]
   rfl
  .rw [an e,aj,aC e,ai (aO (n:=n) (by omega)),<-a,aS]
theorem Gu (N:Nat) (n:Int) (c:0<=n) (e:n<=1000):u2 N n=some (fP n):=by
 have g:=kc (n:=1000+n) (by omega) (by omega)
 have a:=oF N (1000+n) (by omega) (by omega)
 unfold jC at a
 unfold u2
 rw[ai (by unfold fits;omega),a,ag,ai (by simp only[ba,bH];omega)]
 rfl
theorem LX (N:Nat) (c:aK) (h:wG N c):xR N c.1 c.2=some (c.1,c.2):=by
 have av:=h.cS
 have j:=h.a
 have l:=h.b
 unfold xR
 rw[ai (bW (by simp;omega) (by simp;omega)),fE]
 refine(dh _ c.2.length (fun n=>(c.2,(c.2.length:Int),(n:Int),c.1,c.2.take n)) (fun _=>some (c.1,c.2)) (fun go=>?_) (fun go n g i=>?_) N 0 (bg _) (by omega)).trans rfl
 .dsimp only
  rw[an (bm _),aj,cj]
 .dsimp only
  have o:=h.e _ (br g)
  rw[aq (by omega:(n:Int)<c.2.length),ao,aP g,ag,ai (bW (by simp;omega) (by simp;omega)),ai (bW (by simp;omega) (by simp;omega)),ai (aO (n:=n) (by omega)),fE,<-i,dT g,aS]
theorem aa7 {N:Nat} (a:bC<N) (e:N<=16777216) (c:aK) (c8:cH bC gJ c):Bh N c.1 c.2=some (bif dQ c then(c.1,c.2,[])else([],[],[])):=by
 unfold Bh
 rw[r6 N a (by omega) c c8,ag]
 cases dQ c with
 |false=>rfl
 |true=>
  rw[bf,aj,LX N c (.of a c8),ag]
  rfl
structure n4 (d:List bu):Prop where
 len:d.length<=1048576
 each:∀f,f∈d->f.1.length<=1048576/\f.2.length<=1048576
theorem Ye {d:List bu} {bw t:List UInt8} (h:fi d bw=some t):∃f,f∈d/\f.2=t:=by
 unfold fi at h
 obtain⟨f,a,e⟩:=hT.1 h
 exact⟨f,ql a,e⟩
theorem n4.text {d:List bu} (h:n4 d) {bw t:List UInt8} (a:fi d bw=some t):t.length<=1048576:=by
 obtain⟨f,c,rfl⟩:=Ye a
 exact(h.each f c).2
theorem Mj (N:Nat) (c:1048576<N) (e:N<=16777216) (d:List bu) (h:n4 d):xI N d=some (l1 d):=by
 have g:=h.len
 unfold xI
 refine kx _ d.length (fun n=>(d,(d.length:Int),(n:Int),d)) (vJ d) _ (fun go=>?_) (fun go n a=>?_) N (by omega)
 .dsimp only
  rw[an (bm _),aj]
 .have hw:=(h.each _ (br a)).1
  dsimp only
  rw[aq (by omega:(n:Int)<d.length),ao,aP a,ag,l7 N _ (by omega) (by omega),ag,ai (aO (n:=n) (by omega)),aS]
  unfold vJ
  rw[<-se a]
  cases okW d[n].1 with
  |false=>rfl
  |true=>
   rw[bf,aj,cl]
   cases n with
   |zero=>rfl
   |succ n=>
    rw[aq (by omega:(0:Int)<((n+1:Nat):Int)),ao,ai (by unfold fits;omega),show(((n+1:Nat):Int)-1)=(n:Int)from by omega,aP (by omega),ag,se (n:=n) (by omega),an (by omega:¬n+1=0),fL,mX]
    cases Op.bytesLess (uE d n).1 d[n+1].1<;>rfl
theorem aaY {ls:List (List UInt8)} (h:ls≠ []):idx ls ((ls.length:Int)-1)=some (ls.getLastD []):=by
 rcases List.eq_nil_or_concat ls with e|⟨xs,x,rfl⟩
 .exact absurd e h
 .rw [List.concat_eq_append,List.getLastD_concat]
  have e:((xs++ [x]).length:Int)-1=(xs.length:Int):=by
   rw[bh,bS]
   omega
  rw[e,aP (by simp)]
  simp
theorem Xp {ls:List (List UInt8)} (h:ls≠ []):cut ls 0 ((ls.length:Int)-1)=some ls.dropLast:=by
 have a:0<ls.length:=List.length_pos_iff.2 h
 have e:(ls.length:Int)-1=((ls.length-1:Nat):Int):=by omega
 rw[e,wY ls (ls.length-1) (by omega),List.dropLast_eq_take]
theorem MH {N:Nat} (a:bC<N) (e:N<=16777216) {c:aK} (c8:cH bC gJ c) {xs:List b9} (g:xs.length<=1048576) (h:∀l,l∈xs->cf (c,[l])=true):dC N (c,xs):=
 ⟨a,e,c8,g,fun l hm=>by
  have o:=yL (h l hm)
  have j:=o.c7
  have p:=o.dead
  exact⟨fun d i=>aoR (nE o.ad d i),by omega,by omega⟩⟩
theorem an3 (c:aK) (d:List bu) (ms:List (List UInt8)) {n:Nat} (a:n<ms.length) {xs:List b9} (h:kf c d ms=(kf c d (ms.drop n)).map (xs++ ·)):(rf c d ms[n]=none->kf c d ms=none)/\∀l,rf c d ms[n]=some l->kf c d ms=(kf c d (ms.drop (n+1))).map ((xs++ [l])++ ·):=by
 rw[eY a]at h
 have g:kf c d (ms[n]::ms.drop (n+1))=(rf c d ms[n]).bind fun x=>(kf c d (ms.drop (n+1))).map fun xs=>x::xs:=rfl
 rw[g]at h
 refine⟨fun e=>by rw[h,e];rfl,fun l e=>?_⟩
 rw[h,e,ag,Option.map_map]
 congr 1
 funext ys
 simp
def Told (o:Option b8) (r:List (List UInt8)×List eT×List b9×Bool):Prop:=(r.2.2.2=true->o=some ((r.1,r.2.1),r.2.2.1))/\(r.2.2.2=false->o=none)
theorem Told.no {o:Option b8} (h:o=none) (a:List (List UInt8)) (b:List eT) (x:List b9):Told o (a,b,x,false):=⟨(fun h=>by cases h),fun _=>h⟩
set_option maxHeartbeats 1000000 in
theorem Xb {N:Nat} (P:1048600<=N) (o:N<=16777216) (c:aK) (c8:cH bC gJ c) (d:List bu) (F:n4 d) (n:Int) (Q:0<=n) (S:n<=1000):Def (Bd N d c.1 c.2 n) (Told (nF c d n)):=by
 have K:bC<N:=by show 1048576<N;omega
 have T:=F.len
 unfold Bd nF
 rw[Gu N n Q S,ag,Gj N d _ (by omega) o,ag]
 have v:∀t:List UInt8,t.length<=1048576->yr N t [10]=some (cutAt 10 t):=fun t L=>by
  show tz t [10]=_
  unfold tz
  dsimp only
  rw[ai (by omega)]
 cases U:fi d (fP n)with
 |none=>
  unfold tf
  dsimp only
  rw[v [] (by simp),ag]
  refine Def.ite (by decide) ?_
  rw[dH,ao]
  exact Def.ret (Told.no rfl _ _ _)
 |some t=>
  have L:=F.text U
  have x:=KM 10 t
  have p:=L7 10 t
  rw[ag]
  unfold tf JZ
  dsimp only
  rw[v t L,ag]
  generalize cutAt 10 t=ls at x p⊢
  have hlen:=EB ls
  have M:0<ls.length:=List.length_pos_iff.2 p
  refine Def.ite (by unfold fits;omega) ?_
  rw[bf,aj,aaY p,ag]
  by_cases he:ls.getLastD []=w5
  .have r:ls.getLastD []=[101,110,100]:=he
   rw[aq r,bf,aj,aq he,ao,LX N c (.of K c8),ag,Xp p,ag]
   have G:ls.dropLast.length=ls.length-1:=List.length_dropLast
   have y:∀l,l∈ls.dropLast->l.length<=1048576:=fun l h=>by have:=KN (List.dropLast_subset ls h);omega
   generalize ls.dropLast=ms at G y⊢
   refine Def.iter (fun g=>∃(k:Nat) (xs:List b9),g=(ms,(ms.length:Int),(k:Int),d,c.1,c.2,c.1,c.2,xs)/\k<=ms.length/\xs.length<=k/\(∀l,l∈xs->cf (c,[l])=true)/\kf c d ms=(kf c d (ms.drop k)).map (xs++ ·)) (fun g=>ms.length-g.2.2.1.toNat) (fun go g V W=>?_) N _ ⟨0,[],rfl,bg _,bE _,(fun l h=>by cases h),by simp⟩ (by dsimp only;omega)
   obtain⟨k,xs,rfl,cW,cO,O,z⟩:=V
   dsimp only
   by_cases B:k<ms.length
   .have X:=y _ (br B)
    obtain⟨H,i⟩:=an3 c d ms B z
    have A:s4 N ms[k] [32]=some (er 32 ms[k]):=FM X
    rw[aq (by omega:(k:Int)<ms.length),ao,aP B,ag,A,ag,Gj N d _ (by omega) o,ag]
    have a:rf c d ms[k]=none->Told ((kf c d ms).bind fun ls=>bif cf (c,ls)then some (c,ls)else none) (([]:List (List UInt8)),([]:List eT),([]:List b9),false):=fun e=>Told.no (by rw[H e];rfl) _ _ _
    unfold rf at a i
    cases I:fi d (er 32 ms[k]).1 with
    |none=>
     rw[I]at a
     unfold tf
     dsimp only
     rw[dH,ao]
     exact Def.ret (a rfl)
    |some u=>
     have hu:=F.text I
     have Y:=FL u
     have hit:=oF N (mu u:Int) (by omega) (by omega)
     unfold jC at hit
     rw[I]at a i
     dsimp only at a i
     unfold tf
     dsimp only
     rw[bf,aj,L5 N (by omega) u (by omega) (by omega),ag,hit,ag]
     by_cases C:Lib.itoa (mu u:Int)=(er 32 ms[k]).2.1
     .rw [aq C,ao]at a i
      rw[aq C,bf,aj,an6 P o c c8 u hu,ag]
      cases J:ng c u with
      |none=>
       unfold DE
       dsimp only
       rw[dH,ao]
       exact Def.ret (a J)
      |some l=>
       unfold DE
       dsimp only
       rw[bf,aj]
       refine Def.ite (bW (by rw[bS];omega) (by rw[bS];omega)) (Def.ite (aO (by omega)) (W _ ⟨k+1,xs++ [l],by rw[aS],B,by rw[bh,bS];omega,fun Z j=>?_,i l J⟩ (by dsimp only;omega)))
       rcases cE.1 j with j|j
       .exact O Z j
       .rw [du]at j
        rw[j]
        exact(M0 J).1
     .rw [an C,aj]at a
      rw[an C,dH,ao]
      exact Def.ret (a rfl)
   .rw [an (by omega:¬(k:Int)<ms.length),aj]
    rw[mf (by omega)]at z
    have z:kf c d ms=some xs:=by rw[z];simp[kf]
    have hi:mF N c.1 c.2 xs=some (cf (c,xs)):=sF (MH K o c8 (by omega) O)
    rw[hi,ag,z,ag]
    refine Def.ret ⟨fun h=>?_,fun h=>?_⟩
    .have h:cf (c,xs)=true:=h
     rw[h]
     rfl
    .have h:cf (c,xs)=false:=h
     rw[h]
     rfl
  .have r:¬ls.getLastD []=[101,110,100]:=he
   rw[an r,dH,ao,an he,aj]
   exact Def.ret (Told.no rfl _ _ _)
def re (c:aK) (d:List bu):Nat->b8×Int
 |0=>((c,[]),0)
 |n+1=>match nF c d ((n+1:Nat):Int)with
  |some x=>(x,((n+1:Nat):Int))
  |none=>re c d n
def DD (c:aK) (d:List bu):b8×Int:=bif dQ c&&l1 d then re c d 99 else((([],[]),[]),-1)
def ao7 (r:b8×Int):List (List UInt8)×List eT×List b9×Int:=(r.1.1.1,r.1.1.2,r.1.2,r.2)
theorem Xz {N:Nat} (l:1048600<=N) (e:N<=16777216) (c:aK) (c8:cH bC gJ c) (d:List bu) (j:n4 d):xJ N c.1 c.2 d=some (ao7 (DD c d)):=by
 have i:bC<N:=by show 1048576<N;omega
 unfold xJ DD
 rw[r6 N i (by omega) c c8,ag]
 cases o:dQ c with
 |false=>rfl
 |true=>
  rw[bf,aj,Mj N i e d j,ag,cl]
  cases l1 d with
  |false=>rfl
  |true=>
   rw[bf,aj,ao]
   refine Def.get ?_
   refine Def.iter (fun g=>∃k:Nat,g=((k:Int),c.1,c.2,d)/\k<=99/\re c d k=re c d 99) (fun g=>g.1.toNat) (fun go g p t=>?_) N _ ⟨99,rfl,bE _,rfl⟩ (by show(99:Int).toNat<N;omega)
   obtain⟨k,rfl,u,a⟩:=p
   dsimp only
   cases k with
   |zero=>
    rw[an (by decide:¬(1:Int)<=((0:Nat):Int)),aj,aa7 i e c c8,ag,o,ao]
    rw[<-a]
    exact Def.ret rfl
   |succ k=>
    rw[aq (by omega:(1:Int)<=((k+1:Nat):Int)),ao]
    refine Def.bind (Xb l e c c8 d j ((k+1:Nat):Int) (by omega) (by omega)) fun r ⟨t1,t2⟩=>?_
    unfold re at a
    refine Def.bif (fun h=>?_) (fun h=>?_)
    .rw [t1 h]at a
     refine Def.ret ?_
     have a:(((r.1,r.2.1),r.2.2.1),((k+1:Nat):Int))=re c d 99:=a
     rw[<-a]
     rfl
    .rw [t2 h]at a
     exact Def.ite (by unfold fits;omega) (t _ ⟨k,by rw[show((k+1:Nat):Int)-1=(k:Int)from by omega],by omega,a⟩ (by dsimp only;omega))
end Go.Proofs.YtnkagklajgimlaaGreatDoor
