
import Derived.Test.YtnkagklajgimlaaGreatDoorSC1
import Derived.Test.YtnkagklajgimlaaGreatDoorSD1
import Derived.Test.YtnkagklajgimlaaGreatDoorP1
set_option linter.unusedVariables false
set_option linter.unusedSimpArgs false
namespace Go.Proofs.YtnkagklajgimlaaGreatDoor
open Go.RowKit
def iS (l:List aF) (d:aF):List aF:=match l with
 | []=>[d]
 |x::r=>if x.1<d.1 then x::iS r d else d::x::r
theorem DR (d:aF):∀l,(iS l d).Perm (d::l)
 | []=>List.Perm.refl _
 |x::r=>by
  unfold iS
  split
  .exact ((DR d r).cons x).trans (List.Perm.swap d x r)
  .exact List.Perm.refl _
theorem PC (d:aF):∀l,(l.Pairwise fun a b=>a.1<=b.1)->(iS l d).Pairwise fun a b=>a.1<=b.1
 | [],_=>by simp[iS]
 |x::r,h=>by
  rw[en]at h
  unfold iS
  split
  .rename_i g
   rw[en]
   refine⟨fun y hy=>?_,PC d r h.2⟩
   rcases bn.1 ((DR d r).mem_iff.1 hy)with rfl|hy
   .omega
   .exact h.1 y hy
  .rename_i g
   rw[en,en]
   refine⟨fun y hy=>?_,h⟩
   rcases bn.1 hy with rfl|hy
   .omega
   .have:=h.1 y hy;omega
def h8 (l:List aF):List aF:=l.foldl iS []
theorem HQ :∀(l acc:List aF),(acc.Pairwise fun a b=>a.1<=b.1)->(l.foldl iS acc).Perm (acc++l)/\(l.foldl iS acc).Pairwise fun a b=>a.1<=b.1
 | [],acc,h=>⟨by simp,h⟩
 |d::l,acc,h=>by
  rw[eZ]
  obtain⟨g,i⟩:=HQ l (iS acc d) (PC d acc h)
  refine⟨g.trans ?_,i⟩
  refine((DR d acc).append_right l).trans ?_
  rw[kp]
  exact List.perm_middle.symm
theorem tv (l:List aF):(h8 l).Perm l:=by
 have:=(HQ l [] l9).1
 rwa[fE]at this
theorem Ev (l:List aF):(h8 l).Pairwise fun a b=>a.1<=b.1:=(HQ l [] l9).2
theorem FZ {R S:List aF} (i:R.Perm S) (p:R.Pairwise fun a b=>a.1<=b.1) (j:S.Pairwise fun a b=>a.1<=b.1) (h:eR R=true):R=S:=by
 have hi:=(lh h).gB.ids
 have g:S.Pairwise fun a b=>a.1≠b.1:=(i.pairwise_iff (fun {x y} h=>fun e=>h e.symm)).1 (hi.imp fun h e=>by omega)
 have o:S.Pairwise fun a b=>a.1<b.1:=(j.and g).imp fun {a b} h=>by have:=h.1;have:=h.2;omega
 exact zf (fun a b:aF=>decide (a.1<b.1)) (fun a=>by simp) (fun a b c h k=>by rw[bo]at*;omega) R S (hi.imp fun h=>by rw[bo];exact h) (o.imp fun h=>by rw[bo];exact h) fun x=>i.mem_iff
theorem Ml {R S:List aF} (h:R.Perm S) (i:R.Pairwise fun a b=>a.1<=b.1) (j:S.Pairwise fun a b=>a.1<=b.1):eR R=eR S:=by
 cases g:eR R with
 |true=>rw[<-FZ h i j g,g]
 |false=>
  cases o:eR S with
  |false=>rfl
  |true=>rw[<-FZ h.symm j i o,o]at g;cases g
abbrev b9 :Type:=cq×List Int
abbrev b8 :Type:=aK×List b9
def alive (l:b9):List aF:=l.1.1.filter fun d=> !decide (d.1∈l.2)
def fh (ls:List b9):List aF:=ls.flatMap alive
theorem afQ (l:b9) (hi:l.1.1.Pairwise fun a b=>a.1<b.1) (g:l.2.Nodup) (j:∀n,n∈l.2->∃d,d∈l.1.1/\d.1=n):(alive l).length+l.2.length=l.1.1.length:=by
 have o:(l.1.1.filter fun d=>decide (d.1∈l.2)).length=l.2.length:=by
  have r:((l.1.1.filter fun d=>decide (d.1∈l.2)).map (·.1)).Perm l.2:=by
   refine(List.perm_ext_iff_of_nodup ?_ g).2 fun n=>?_
   .have:((l.1.1.map (·.1))).Nodup:=by
     refine qk.2 (hi.imp fun h e=>?_)
     have:=h;omega
    exact List.Nodup.sublist (List.filter_sublist.map _) this
   .rw [cg]
    constructor
    .rintro ⟨d,g,rfl⟩
     exact of_decide_eq_true (gH.1 g).2
    .intro i
     obtain⟨d,g,rfl⟩:=j n i
     exact⟨d,gH.2 ⟨g,aq i⟩,rfl⟩
  rw[<-r.length_eq,dE]
 unfold alive
 rw[<-o]
 have:∀(xs:List aF) (p:aF->Bool),(xs.filter fun d=> !p d).length+(xs.filter p).length=xs.length:=by
  intro xs p
  induction xs with
  |nil=>rfl
  |cons x xs t=>
   rw[iY,iY,ba]
   cases p x<;>simp<;>omega
 exact this l.1.1 _
theorem afJ {l:List Int} {a:Int} {n:Nat} (i:n<l.length) (h:a∉l.take n) (e:¬a=l[n]):a∉l.take (n+1):=by
 rw[dT i,cE,du]
 rintro(g|g)
 .exact h g
 .exact e g
theorem afD (N:Nat) (l:List Int) (a:Int) (h:l.length<N) (p:N<=1099511627776):Def (BK N l a) fun r=>(r=-1/\a∉l)\/ ∃j:Nat,r=(j:Int)/\j<l.length/\l[j]? =some a/\a∉l.take j:=by
 unfold BK
 refine Def.upto l.length (fun n g=>a∉l.take n/\g=(l,a,(l.length:Int),(n:Int))) ?_ ?_ N 0 _ (bg _) ⟨by simp,rfl⟩ (by omega)
 .rintro go _ ⟨hm,rfl⟩
  dsimp only
  rw[an (bm _),aj]
  rw[cj]at hm
  exact Def.ret (.inl ⟨rfl,hm⟩)
 .rintro go n _ i ⟨hm,rfl⟩ o
  dsimp only
  rw[aq (by omega:(n:Int)<l.length),ao,aP i,ag]
  refine Def.bO (fun e=>Def.ret (.inr ⟨n,rfl,i,by rw[bG i,e],hm⟩)) (fun e=>?_)
  exact Def.ite (aO (n:=n) (by omega)) (o _ ⟨afJ i hm e,by rw[aS]⟩)
theorem afV (N:Nat) (l:List Int) (n:Int) (h:l.length<N) (i:N<=1099511627776):BH N l n=some (decide (n∈l)):=by
 obtain⟨r,o,p⟩:=afD N l n h i
 unfold BH
 rw[o,ag]
 rcases p with⟨rfl,t⟩|⟨j,rfl,g,he,_⟩
 .rw [an t];rfl
 .have hm:n∈l:=by
   rw[bG g]at he
   have e:=Option.some.inj he
   exact e▸br g
  rw[aq hm,aq (by omega)]
theorem R0 (N:Nat) (l:List Int) (n:Int) (h:l.length<N) (o:N<=1099511627776):BI N l n=some (decide (n∈l)):=by
 unfold BI
 refine(dh _ l.length (fun k=>(l,n,(k:Int))) (fun k=>some (decide (n∈l.drop k))) (fun go=>?_) (fun go k i g=>?_) N 0 (bg _) (by omega)).trans (by simp)
 .dsimp only
  rw[an (bm _),aj]
  simp
 .dsimp only
  rw[aq (by omega:(k:Int)<l.length),ao,aP i,ag,eY i]
  by_cases e:l[k]=n
  .rw [aq e,ao,e];simp
  .rw [an e,aj,ai (aO (n:=k) (by omega))]
   simp only[aS]at g
   rw[g]
   have j:¬n=l[k]:=fun h=>e h.symm
   simp only[bn,j,false_or]
theorem Lq (l:b9) {n:Nat} (h:n<l.1.1.length):(l.1.1.take (n+1)).filter (fun d=> !decide (d.1∈l.2))=bif decide (l.1.1[n].1∈l.2)then(l.1.1.take n).filter (fun d=> !decide (d.1∈l.2))else(l.1.1.take n).filter (fun d=> !decide (d.1∈l.2))++ [l.1.1[n]]:=by
 rw[dT h,jP]
 cases e:decide (l.1.1[n].1∈l.2)<;>simp[iY,e]
theorem Lp (N:Nat) (j:1048576<N) (o:N<=16777216) (l:b9) (p:l.1.1.length<=1000) (r:l.2.length<=1000):x1 N l.1.1 l.1.2 l.2=some (alive l):=by
 unfold x1 alive
 refine(dh _ l.1.1.length (fun n=>((l.1.1.take n).filter (fun d=> !decide (d.1∈l.2)),l.1.1,(l.1.1.length:Int),(n:Int),l.1.1,l.1.2,l.2)) (fun n=>some (l.1.1.filter fun d=> !decide (d.1∈l.2))) (fun go=>?_) (fun go n h g=>?_) N 0 (bg _) (by omega)).trans rfl
 .dsimp only
  rw[an (bm _),aj,cj]
 .dsimp only
  have i:((l.1.1.take n).filter (fun d=> !decide (d.1∈l.2))).length<=1000:=dS (ho _ _) (by rw[bN];omega)
  simp only[aS,Lq l h]at g
  generalize(l.1.1.take n).filter (fun d=> !decide (d.1∈l.2))=out at*
  rw[aq (by omega:(n:Int)<l.1.1.length),ao,aP h,ag,afV N _ _ (by omega) (by omega),ag,ai (bW (by rw[bS];omega) (by rw[bS];omega)),<-g]
  simp only[ai (aO (n:=n) (by omega))]
  cases decide (l.1.1[n].1∈l.2)<;>rfl
def gS (c:aK) (l:b9):Bool:=fS c l.1&&(hO l.2&&(decide (l.2.length<l.1.1.length)&&l.2.all fun n=>(e1 l.1.1 n).isSome))
theorem SF (c:aK) (l:b9):(fS c l.1&&(hO l.2&&((l.2.all fun n=>(e1 l.1.1 n).isSome)&&decide (0<(alive l).length))))=gS c l:=by
 unfold gS
 cases j:fS c l.1 with
 |false=>rfl
 |true=>
  cases hu:hO l.2 with
  |false=>rfl
  |true=>
   cases o:l.2.all fun n=>(e1 l.1.1 n).isSome with
   |false=>simp
   |true=>
    have hi:=(iR j).2.1.gB.ids
    have p:l.2.Nodup:=by
     have:=(qc hu).1
     exact this.imp fun h e=>by have:=h;omega
    have:=afQ l hi p fun n r=>by
     have i:=cz.1 o n r
     cases g:e1 l.1.1 n with
     |none=>rw[g]at i;cases i
     |some d=>exact⟨d,FV g⟩
    rw[cl,fD]
    congr 2
    rw[ma,bo,bo]
    omega
theorem Mf {i:Type} (ad:List aF) (xs:List Int) (N:Nat) (j:xs.length<N) (F:(i->Option Bool)->i->Option Bool) (st:Nat->i) (fin:Option Bool) (h:∀go,F go (st xs.length)=fin)
  (g:∀go n (o:n<xs.length),F go (st n)=bif(e1 ad xs[n]).isSome then go (st (n+1))else some false):iter F N (st 0)=bif xs.all (fun n=>(e1 ad n).isSome)then fin else some false:=
 mr F xs st (fun n=>(e1 ad n).isSome) (some false) fin h g N j
theorem an8 (N:Nat) (g:bC<N) (h:N<=16777216) (c:aK) (c8:cH bC gJ c) (l:b9) (gE:∀x,x∈l.1.1->cH bC fN x) (o:l.1.1.length<=1048576) (p:l.2.length<=1048576):BJ N c.1 c.2 l.1.1 l.1.2 l.2=some (gS c l):=by
 have i:1048576<N:=g
 rw[<-SF]
 unfold BJ
 rw[T3 N g h c c8 l.1 gE o,ag,Pq N g (by omega) l.2 p,ag]
 cases r:fS c l.1 with
 |false=>rfl
 |true=>
  cases hu:hO l.2 with
  |false=>rfl
  |true=>
   have v:=(iR r).2.1.c7
   have t:=(qc hu).2.1
   simp only[bf,aj,cl]
   refine(Mf l.1.1 l.2 N (by omega) _ (fun n=>(l.2,(l.2.length:Int),(n:Int),l.1.1,l.1.2,l.2)) (some (decide (0<(alive l).length))) (fun go=>?_) (fun go n u=>?_)).trans ?_
   .dsimp only
    rw[an (bm _),aj,Lp N i h l (by omega) (by omega),ag]
    congr 1
    rw[ma,bo,bo]
    omega
   .dsimp only
    have j:=T1 N l.1 l.2[n] (by omega) h
    rw[aq (by omega:(n:Int)<l.2.length),ao,aP u,ag]
    rw[show((l.1.1,l.1.2):cq)=l.1 from rfl,j,ag,ai (aO (n:=n) (by omega)),aS]
    cases e1 l.1.1 l.2[n]<;>rfl
   .cases l.2.all fun n=>(e1 l.1.1 n).isSome<;>rfl
structure Fg (d:aF):Prop where
 f:d.2.1.length<=3
 a:d.2.2.length<=3
theorem wY {α:Type} (xs:List α) (n:Nat) (h:n<=xs.length):cut xs 0 (n:Int)=some (xs.take n):=by
 unfold cut
 rw[ai ⟨by omega,by omega,by omega⟩]
 simp
theorem Ad {α:Type} (xs:List α) (n:Nat) (h:n<=xs.length):cut xs (n:Int) (xs.length:Int)=some (xs.drop n):=by
 unfold cut
 rw[ai ⟨by omega,by omega,by omega⟩]
 simp
theorem S9 (d:aF):∀(l:List aF) (n:Nat),n<=l.length->(∀x,x∈l.take n->x.1<d.1)->(∀h:n<l.length,¬l[n].1<d.1)->iS l d=l.take n++ [d]++l.drop n
 | [],n,h,_,_=>by simp at h;subst h;rfl
 |x::r,0,_,_,g=>by
  have:=g (by simp)
  unfold iS
  rw[aC (by simpa using this)]
  rfl
 |x::r,n+1,h,i,g=>by
  have j:=i x (by rw[hX];simp)
  unfold iS
  rw[ai j,S9 d r n (by simpa using h) (fun y hy=>i y (by rw[hX];simp[hy])) (fun o=>by
   have:=g (by simp;omega)
   simpa using this)]
  rfl
theorem apt (N:Nat) (z:1048576<N) (l:List aF) (d:aF) (t:Fg d) (A:l.length<=1000):Ea N l d.1 d.2.1 d.2.2=some (iS l d):=by
 refine Def.get ?_
 unfold Ea
 have stop:∀n:Nat,n<=l.length->(∀x,x∈l.take n->x.1<d.1)->(∀h:n<l.length,¬l[n].1<d.1)->Def (Option.bind (cut l 0 (n:Int)) fun y=>if room ([]:List aF).length y.length 56 then Option.bind (rH N d.1 d.2.1 d.2.2) fun r=>if room (([]:List aF)++y).length ([r]:List aF).length 56 then Option.bind (cut l (n:Int) (l.length:Int)) fun u=>if room ((([]:List aF)++y)++([r]:List aF)).length u.length 56 then some (((([]:List aF)++y)++([r]:List aF))++u)else none else none else none) fun r=>r=iS l d:=fun n i j v=>by
  rw[wY l n i,ag,ai (bW (by rw[bN];simp;omega) (by rw[bN];simp;omega)),Jh N d t.f t.a,ag,
   ai (bW (by rw[bh,bN,bS];simp;omega) (by rw[bh,bN,bS];simp;omega)),Ad l n i,ag,
   ai (bW (by simp only[bh,bN,bS,eF,bH];omega) (by simp only[bh,bN,bS,eF,bH];omega))]
  exact Def.ret (by rw[S9 d l n i j v,fE])
 refine Def.upto l.length (fun n g=>(∀x,x∈l.take n->x.1<d.1)/\g=(l,(n:Int),d.1,d.2.1,d.2.2)) ?_ ?_ N 0 _ (bg _) ⟨fun x o=>by simp at o,rfl⟩ (by omega)
 .rintro go _ ⟨j,rfl⟩
  dsimp only
  rw[an (bm _),aj]
  exact stop l.length (bE _) j fun h=>absurd h (Nat.lt_irrefl _)
 .rintro go n _ i ⟨j,rfl⟩ p
  dsimp only
  rw[aq (by omega:(n:Int)<l.length),ao,aP i,ag]
  refine Def.bO (fun e=>Def.ite (aO (n:=n) (by omega)) (p _ ⟨fun x o=>?_,by rw[aS]⟩)) (fun e=>stop n (by omega) j fun _=>e)
  rw[dT i,cE,du]at o
  rcases o with o|rfl
  .exact j x o
  .exact e
theorem aps (l:List aF) (d:aF):(iS l d).length=l.length+1:=(DR d l).length_eq
theorem Ym (l acc:List aF):(l.foldl iS acc).length=acc.length+l.length:=by
 induction l generalizing acc with
 |nil=>rfl
 |cons d l g=>rw[eZ,g,aps,ba];omega
structure qy (ls:List b9):Prop where
 c7:ls.length<=5
 ad:∀l,l∈ls->l.1.1.length<=16/\l.2.length<=60/\∀d,d∈l.1.1->Fg d
theorem qy.len {ls:List b9} (h:qy ls) (n:Nat):(fh (ls.take n)).length<=80:=by
 have key:∀L:List b9,(∀l,l∈L->l.1.1.length<=16)->(fh L).length<=16*L.length:=by
  intro L
  induction L with
  |nil=>intro _;exact bg _
  |cons a L j=>
   intro i
   have o:=i a (by simp)
   have p:=j fun l g=>i l (by simp[g])
   have r:(alive a).length<=a.1.1.length:=ho _ _
   unfold fh at*
   rw[lA,bh,ba]
   omega
 have:=key (ls.take n) fun l g=>(h.ad l (fC g)).1
 have:=h.c7
 rw[bN]at*
 omega
theorem FY (N:Nat) (z:1048576<N) (A:N<=16777216) (c:aK) (ls:List b9) (h:qy ls):tt N c.1 c.2 ls=some (h8 (fh ls)):=by
 have u:=h.c7
 refine Def.get ?_
 unfold tt
 refine Def.upto ls.length (fun n g=>g=(h8 (fh (ls.take n)),(n:Int),c.1,c.2,ls)) ?_ ?_ N 0 _ (bg _) rfl (by omega)
 .rintro go _ rfl
  dsimp only
  rw[an (bm _),aj,cj]
  exact Def.ret rfl
 .rintro go n _ o rfl p
  dsimp only
  have hm:=br o
  obtain⟨ew,a8,fF⟩:=h.ad _ hm
  have hlen:=h.len n
  rw[aq (by omega:(n:Int)<ls.length),ao]
  refine Def.upto ls[n].1.1.length (fun k g=>g=(((ls[n].1.1.take k).filter (fun d=> !decide (d.1∈ls[n].2))).foldl iS (h8 (fh (ls.take n))),(n:Int),(k:Int),c.1,c.2,ls)) ?_ ?_ N 0 _ (bg _) rfl (by omega)
  .rintro go2 _ rfl
   dsimp only
   rw[aP o,ag,an (bm _),aj]
   refine Def.ite (aO (n:=n) (by omega)) (p _ ?_)
   rw[cj,dT o,aS]
   unfold fh h8
   rw[wA,hW]
   simp[alive]
  .rintro go2 k _ r rfl j
   dsimp only
   have fR:(((ls[n].1.1.take k).filter (fun d=> !decide (d.1∈ls[n].2))).foldl iS (h8 (fh (ls.take n)))).length<=200:=by
    rw[Ym,(tv _).length_eq]
    have:=ho (fun d:aF=> !decide (d.1∈ls[n].2)) (ls[n].1.1.take k)
    rw[bN]at this
    omega
   have t:ts N ls[n].1.1 ls[n].1.2 ls[n].2 ls[n].1.1[k].1=some (decide (ls[n].1.1[k].1∈ls[n].2)):=by
    unfold ts
    rw[R0 N _ _ (by omega) (by omega),ag]
   rw[aP o,ag,aq (by omega:(k:Int)<ls[n].1.1.length),ao,ag,aP r,ag,ag,t,ag]
   have i:=Lq ls[n] r
   cases v:decide (ls[n].1.1[k].1∈ls[n].2)with
   |true=>
    rw[v,ao]at i
    rw[bf,aj]
    exact Def.ite (aO (n:=k) (by omega)) (j _ (by rw[i,aS]))
   |false=>
    rw[v,aj]at i
    rw[dH,ao,apt N z _ _ (fF _ (br r)) (by omega),ag]
    exact Def.ite (aO (n:=k) (by omega)) (j _ (by rw[i,aS,hW];rfl))
theorem LU {α o ρ:Type} (F:(o->Option ρ)->o->Option ρ) (xs:List α) (st:Nat->o) (P:α->Bool) (no fin:Option ρ) (i:xs.all P=true->∀go,F go (st xs.length)=fin)
  (g:∀go n (u:n<xs.length),F go (st n)=bif P xs[n]then go (st (n+1))else no) (N:Nat) (h:xs.length<N):iter F N (st 0)=bif xs.all P then fin else no:=by
 cases j:xs.all P with
 |true=>
  rw[mr F xs st P no fin (i j) g N h,j]
 |false=>
  rw[aj]
  refine Gb F xs st P no g N 0 (by omega) ?_
  rw[List.all_eq_false]at j
  obtain⟨a,p,r⟩:=j
  obtain⟨k,t,rfl⟩:=eb.1 p
  exact⟨k,t,bg _,by simpa using r⟩
structure dC (N:Nat) (x:b8):Prop where
 cS:bC<N
 top:N<=16777216
 c8:cH bC gJ x.1
 len:x.2.length<=1048576
 each:∀l,l∈x.2->(∀d,d∈l.1.1->cH bC fN d)/\l.1.1.length<=1048576/\l.2.length<=1048576
theorem tc {c:aK} {l:b9} (h:gS c l=true):fS c l.1=true/\l.1.1.length<=16/\l.2.length<=60/\∀d,d∈l.1.1->Fg d:=by
 unfold gS at h
 rw[a6,a6]at h
 have g:=(iR h.1).2.1
 exact⟨h.1,g.c7,(qc h.2.1).2.1,fun d hm=>⟨(g.each d hm).1,(g.each d hm).2.1⟩⟩
theorem rz {c:aK} {ls:List b9} (g:ls.length<=5) (h:(ls.all (gS c))=true):qy ls:=
 ⟨g,fun l i=>by
  obtain⟨_,j,o,p⟩:=tc (cz.1 h l i)
  exact⟨j,o,p⟩⟩
def cf (x:b8):Bool:=dQ x.1&&(decide ((x.2.length:Int)<=5)&&(x.2.all (gS x.1)&&eR (h8 (fh x.2))))
theorem gu {x:b8} (h:cf x=true):dQ x.1=true/\x.2.length<=5/\(x.2.all (gS x.1))=true/\eR (h8 (fh x.2))=true:=by
 unfold cf at h
 rw[a6,a6,a6,bo]at h
 exact⟨h.1,by omega,h.2.2.1,h.2.2.2⟩
theorem Wo {ls:List b9} {P:aF->Prop} (h:∀l,l∈ls->∀d,d∈l.1.1->P d):∀d,d∈fh ls->P d:=fun d g=>by
 unfold fh alive at g
 rw[js]at g
 obtain⟨l,i,g⟩:=g
 exact h l i d (gH.1 g).1
theorem zd {ls:List b9} {P:aF->Prop} (h:∀l,l∈ls->∀d,d∈l.1.1->P d):∀d,d∈h8 (fh ls)->P d:=fun d g=>Wo h d ((tv _).mem_iff.1 g)
theorem ze {ls:List b9} (h:qy ls):(h8 (fh ls)).length<=80:=by
 rw[(tv _).length_eq]
 have:=h.len ls.length
 rwa[cj]at this
theorem yt {N:Nat} {x:b8} (h:dC N x):rG N x.1.1 x.1.2 x.2=some (cf x):=by
 have z:1048576<N:=h.cS
 have j:=h.top
 have A:=h.len
 have B:cf x=bif x.2.all (gS x.1)then(dQ x.1&&(decide ((x.2.length:Int)<=5)&&eR (h8 (fh x.2))))else false:=by
  unfold cf
  cases dQ x.1<;>cases decide ((x.2.length:Int)<=5)<;>cases x.2.all (gS x.1)<;>rfl
 unfold rG
 refine(LU _ x.2 (fun n=>((n:Int),x.1.1,x.1.2,x.2)) (gS x.1) (some false) (some (dQ x.1&&(decide ((x.2.length:Int)<=5)&&eR (h8 (fh x.2))))) (fun i go=>?_) (fun go n r=>?_) N (by omega)).trans ?_
 .dsimp only
  rw[an (bm _),aj,Dd N h.cS (by omega) x.1 h.c8,ag]
  cases L:dQ x.1 with
  |false=>rfl
  |true=>
   by_cases t:(x.2.length:Int)<=5
   .have u:=rz (c:=x.1) (by omega) i
    rw[aq t,ao,ao,FY N z j x.1 x.2 u,ag,Jg N h.cS (by omega) _ (zd fun l C=>(h.each l C).1) (by have:=ze u;omega),ag]
    rfl
   .rw [an t]
    rfl
 .dsimp only
  have hm:=br r
  obtain⟨gE,F,G⟩:=h.each _ hm
  rw[aq (by omega:(n:Int)<x.2.length),ao,aP r,ag,anS N h.cS j x.1 h.c8 x.2[n].1 gE F,ag]
  have H:gS x.1 x.2[n]=(fS x.1 x.2[n].1&&(hO x.2[n].2&&(decide (x.2[n].2.length<x.2[n].1.1.length)&&x.2[n].2.all fun m=>(e1 x.2[n].1.1 m).isSome))):=rfl
  rw[H]
  cases o:fS x.1 x.2[n].1 with
  |false=>rfl
  |true=>
   rw[bf,aj,RW N h.cS (by omega) _ G,ag]
   cases hu:hO x.2[n].2 with
   |false=>rfl
   |true=>
    have M:=(iR o).2.1.c7
    have I:=(qc hu).2.1
    have g:fl N x.1 x.2[n].1:=⟨h.cS,j,h.c8,gE,o⟩
    rw[bf,aj,cl,cl]
    by_cases hlen:x.2[n].2.length<x.2[n].1.1.length
    .rw [aq hlen,cl,an (by omega:¬((x.2[n].1.1.length:Int)<=(x.2[n].2.length:Int))),aj]
     refine(Mf x.2[n].1.1 x.2[n].2 N (by omega) _ (fun k=>((n:Int),(k:Int),false,false,x.1.1,x.1.2,x.2,x.2[n].1.1,x.2[n].1.2,x.2[n].2)) (go (((n+1:Nat):Int),x.1.1,x.1.2,x.2)) (fun go2=>?_) (fun go2 k J=>?_)).trans ?_
     .dsimp only
      rw[an (bm _),aj,ai (aO (n:=n) (by omega)),aS]
     .dsimp only
      have hid:∀d,e1 x.2[n].1.1 x.2[n].2[k]=some d->¬d.1=0:=fun d p e=>by
       have K:=FV p
       have v:=nE (rq o) d K.1
       unfold gF at v
       simp only[a6,bo]at v
       omega
      rw[aq (by omega:(k:Int)<x.2[n].2.length),ao,aP J,ag,Je N g,ag,ai (aO (n:=k) (by omega)),aS]
      cases p:e1 x.2[n].1.1 x.2[n].2[k]with
      |none=>rfl
      |some d=>
       show(bif decide (d.1=0)then _ else _)=_
       rw[an (hid d p)]
       rfl
     .cases x.2[n].2.all fun m=>(e1 x.2[n].1.1 m).isSome<;>rfl
    .rw [an hlen,pf,aq (by omega:((x.2[n].1.1.length:Int)<=(x.2[n].2.length:Int))),ao]
     rfl
 .rw [B]
  cases x.2.all (gS x.1)<;>rfl
def s8 (a b:aF):Bool:=decide (a.1<b.1)
theorem aof :ih s8:=by
 refine⟨fun x y h=>?_,fun x y z h k=>?_⟩
 .unfold s8 at*;rw[bo]at h;rw[decide_eq_false_iff_not];omega
 .unfold s8 at*;rw[decide_eq_false_iff_not]at*;omega
theorem W8 (N:Nat) (a b:aF):Def (j5 N () a b) fun r=>decide (r<0)=s8 a b:=by
 show Def (Bo N a.1 a.2.1 a.2.2 b.1 b.2.1 b.2.2) _
 unfold Bo
 rw[FH,ag]
 refine Def.ret ?_
 unfold s8
 by_cases h:a.1<b.1
 .simp [h]
 .by_cases g:b.1<a.1<;>simp[h,g]
theorem Lt (N:Nat) (u:1048576<N) (p:N<=16777216) (ls:List b9) (h:qy ls):Def (sB N ls) fun R=>R.Perm (fh ls)/\R.Pairwise fun a b=>a.1<=b.1:=by
 have r:=h.c7
 unfold sB
 refine Def.upto ls.length (fun n g=>g=(fh (ls.take n),ls,(ls.length:Int),(n:Int))) ?_ ?_ N 0 _ (bg _) rfl (by omega)
 .rintro go _ rfl
  dsimp only
  have t:=h.len ls.length
  rw[cj]at t⊢
  rw[an (bm _),aj]
  refine Def.bind (ary s8 aof N p (by omega) (fh ls) () ⟨fun x _ y _=>W8 N x y⟩ (by omega)) fun R ⟨v,z⟩=>Def.ret ⟨v,z.imp fun {a b} i=>?_⟩
  unfold s8 at i
  rw[decide_eq_false_iff_not]at i
  omega
 .rintro go n _ j rfl o
  dsimp only
  have hm:=br j
  obtain⟨ew,a8,_⟩:=h.ad _ hm
  have t:=h.len n
  have A:(alive ls[n]).length<=16:=dS (ho _ _) ew
  rw[aq (by omega:(n:Int)<ls.length),ao,aP j,ag,Lp N u p ls[n] (by omega) (by omega),ag]
  refine Def.ite (bW (by omega) (by omega)) (Def.ite (aO (n:=n) (by omega)) (o _ ?_))
  rw[dT j,aS]
  unfold fh
  rw[wA]
  simp
theorem sF {N:Nat} {x:b8} (h:dC N x):mF N x.1.1 x.1.2 x.2=some (cf x):=by
 have u:1048576<N:=h.cS
 have o:=h.top
 have v:=h.len
 unfold mF cf
 rw[r6 N h.cS (by omega) x.1 h.c8,ag]
 cases G:dQ x.1 with
 |false=>rfl
 |true=>
  rw[bf,aj,cl]
  by_cases p:(x.2.length:Int)<=5
  .rw [aq p,an (by omega:¬(5:Int)<x.2.length),aj,cl]
   refine(LU _ x.2 (fun n=>(x.2,(x.2.length:Int),(n:Int),x.1.1,x.1.2,x.2)) (gS x.1) (some false) (some (eR (h8 (fh x.2)))) (fun j go=>?_) (fun go n r=>?_) N (by omega)).trans ?_
   .dsimp only
    have t:=rz (c:=x.1) (by omega) j
    obtain⟨R,z,g,hle⟩:=Lt N u o x.2 t
    have i:=g.trans (tv (fh x.2)).symm
    have hlen:=ze t
    rw[an (bm _),aj,z,ag,FX N h.cS (by omega) R (fun d A=>zd (fun l B=>(h.each l B).1) d (i.mem_iff.1 A)) (by rw[i.length_eq];omega),ag,Ml i hle (Ev _)]
   .dsimp only
    have hm:=br r
    obtain⟨gE,C,F⟩:=h.each _ hm
    rw[aq (by omega:(n:Int)<x.2.length),ao,aP r,ag,an8 N h.cS o x.1 h.c8 x.2[n] gE C F,ag,ai (aO (n:=n) (by omega)),aS]
    cases gS x.1 x.2[n]<;>rfl
   .cases x.2.all (gS x.1)<;>rfl
  .rw [an p,aq (by omega:(5:Int)<x.2.length)]
   rfl
abbrev nd (x:b8):List aF:=h8 (fh x.2)
theorem Lu {N:Nat} {x:b8} (h:dC N x) (j:cf x=true):sB N x.2=some (nd x):=by
 have o:1048576<N:=h.cS
 obtain⟨z,p,r,t⟩:=gu j
 have u:=rz p r
 obtain⟨R,v,g,hle⟩:=Lt N o h.top x.2 u
 have i:=g.trans (tv (fh x.2)).symm
 rw[v,FZ i hle (Ev _) (by rw[Ml i hle (Ev _)];exact t)]
theorem XH {N:Nat} {x:b8} (h:dC N x) (g:cf x=true):tt N x.1.1 x.1.2 x.2=some (nd x):=by
 obtain⟨o,i,j,p⟩:=gu g
 exact FY N h.cS h.top x.1 x.2 (rz i j)
abbrev gG (x:b8):cq:=(nd x,eu x.1 (nd x))
theorem aqH {x:b8} (g:cf x=true):fS x.1 (gG x)=true:=by
 obtain⟨h,j,o,i⟩:=gu g
 unfold fS
 rw[h,i,aq rfl]
 rfl
theorem T6 {N:Nat} {x:b8} (h:dC N x) (i:cf x=true):q0 N x.1.1 x.1.2 (nd x)=some (gG x):=by
 obtain⟨j,o,p,r⟩:=gu i
 have g:(nd x).length<=80:=ze (rz o p)
 rw[KD N h.cS h.top x.1 h.c8 (nd x) (zd fun l g=>(h.each l g).1) (by omega),j,r]
 rfl
theorem aqI {N:Nat} {x:b8} (h:dC N x) (g:cf x=true):rI N x.1.1 x.1.2 (nd x)=some (gG x):=by
 obtain⟨i,o,p,j⟩:=gu g
 exact De N x.1 i (lh j) h.cS
theorem dC.fit {N:Nat} {x:b8} (h:dC N x) (i:cf x=true) {q:aN} (j:ie 4 q):Fit N x.1 (gG x) q:=by
 obtain⟨r,o,p,t⟩:=gu i
 have g:(nd x).length<=80:=ze (rz o p)
 exact⟨h.cS,h.top,h.c8,zd fun l g=>(h.each l g).1,by show(nd x).length<=_;omega,j⟩
def k9 (N:Nat) (x:b8) (q:aN) (most:Int):List bY:=bif cf x&&(cZ 4 q&&kb most)then mT N x.1 (gG x) q dD most else []
theorem N7 {N:Nat} {x:b8} (h:dC N x) {q:aN} (i:ie 4 q) (most:Int):uZ N x.1.1 x.1.2 x.2 q.kind q.field q.words q.lo q.hi q.kids most=some (k9 N x q most):=by
 have o:1048576<N:=h.cS
 have p:=h.top
 unfold uZ k9
 rw[sF h,ag]
 cases g:cf x with
 |false=>rfl
 |true=>
  rw[bf,aj,yQ N h.cS (by omega) q i,ag,cl]
  cases j:cZ 4 q with
  |false=>rfl
  |true=>
   rw[bf,aj,fB,ag,cl,show(decide (1<=most)&&decide (most<=16))=kb most from rfl]
   cases hm:kb most with
   |false=>rfl
   |true=>
    rw[bf,aj,Lu h g,ag,T6 h g,ag,arU (h.fit g i) most,ag]
    rfl
theorem aba {N:Nat} {x:b8} (h:dC N x) {q:aN} (j:ie 4 q) (most:Int):p6 N x.1.1 x.1.2 x.2 q.kind q.field q.words q.lo q.hi q.kids most=some (k9 N x q most):=by
 have p:1048576<N:=h.cS
 have r:=h.top
 unfold p6 k9
 rw[yt h,ag]
 cases g:cf x with
 |false=>rfl
 |true=>
  rw[bf,aj,apM N h.cS (by omega) q j,ag,cl]
  cases i:cZ 4 q with
  |false=>rfl
  |true=>
   rw[bf,aj,jD,ag,cl,show(decide (1<=most)&&decide (most<=16))=kb most from rfl]
   cases hm:kb most with
   |false=>rfl
   |true=>
    obtain⟨k,rfl,t,o⟩:=Hw hm
    rw[bf,aj,XH h g,ag,aqI h g,ag,anL (h.fit g j) (aqH g) i k o,ag]
    unfold mT
    rw[hm]
    rfl
theorem ZK {N:Nat} {c:aK} {s:cq} {q:aN} (h:Fit N c s q) (P:bY->Bool):∀x,x∈e4 N c s q P->cH bC zI x:=by
 intro x i
 unfold e4 at i
 cases j:fS c s with
 |false=>rw[j]at i;cases i
 |true=>
  cases o:cZ 4 q with
  |false=>rw[j,o]at i;cases i
  |true=>
   rw[j,o]at i
   obtain⟨d,p,rfl,v,_⟩:=A2 (V:=fun d=>h9 N N c s d q) i
   have g:=h.pC j
   have r:=KB N g d (Ai g.dM.gB.ids d p) q o
   have z:=r.low
   have A:=r.top
   refine⟨(h.gE d p).1,?_⟩
   show IntKind.i64.min<=_/\_<=IntKind.i64.max
   have t:IntKind.i64.min=-9223372036854775808:=rfl
   have u:IntKind.i64.max=9223372036854775807:=rfl
   rw[t,u]
   dsimp only
   omega
theorem UM {N:Nat} {c:aK} {s:cq} {q:aN} (h:Fit N c s q) (P:bY->Bool) (most:Nat):(jq N c s q P most).length<=16/\cH bC (.ar zI) (jq N c s q P most):=by
 unfold jq
 have o:=uT N c s q P
 have i:(eB (e4 N c s q P)).length<=16:=by
  rw[show eB _=List.foldl fv [] _ from rfl,Ew]
  simp only[bH]
  omega
 have g:((eB (e4 N c s q P)).take most).length<=16:=by rw[bN];omega
 refine⟨g,⟨dS g (by decide),fun x j=>?_⟩⟩
 exact ZK h P x (((nR (A3 N c s q P)).2 x).1 (fC j))
theorem arV {N:Nat} {c:aK} {s:cq} {q:aN} (h:Fit N c s q) (P:bY->Bool) (most:Int):(mT N c s q P most).length<=16/\cH bC (.ar zI) (mT N c s q P most):=by
 unfold mT
 cases kb most
 .exact ⟨bg _,⟨bg _,fun x g=>by cases g⟩⟩
 .exact UM h P _
theorem aaX {N:Nat} {x:b8} (h:dC N x) {q:aN} (i:ie 4 q) (most:Int):(k9 N x q most).length<=16/\cH bC (.ar zI) (k9 N x q most):=by
 unfold k9
 cases j:cf x with
 |false=>exact⟨bg _,⟨bg _,fun x g=>by cases g⟩⟩
 |true=>
  cases cZ 4 q&&kb most
  .exact ⟨bg _,⟨bg _,fun x g=>by cases g⟩⟩
  .exact arV (h.fit j i) dD most
theorem aoT (xs:List aF) (h:∀d,d∈xs->gF d=true) (i:xs.Pairwise fun a b=>a.1<b.1) (o:xs.length<=16):eR xs=true:=by
 unfold eR dL
 rw[a6,bo,cz]
 refine⟨fun n j=>?_,by omega⟩
 have g:n<xs.length:=by simpa using j
 unfold pZ
 rw[a6,<-og g]
 refine⟨h _ (br g),?_⟩
 cases n with
 |zero=>rfl
 |succ n=>
  have:=gx.1 i n (n+1) (by omega) g (by omega)
  rw[show n+1-1=n from rfl,<-og (by omega:n<xs.length),an (by omega:¬n+1=0),fL,an (by omega)]
  rfl
theorem JS {A B:List aF} (h:eR (h8 A)=true) (g:B.Sublist A):eR (h8 B)=true:=by
 have o:=lh h
 have i:=tv A
 have j:=tv B
 refine aoT _ (fun d hm=>nE h d (i.mem_iff.2 (g.subset (j.mem_iff.1 hm)))) ?_ ?_
 .have p:A.Pairwise fun a b=>a.1≠b.1:=(i.pairwise_iff (fun {x y} h=>fun e=>h e.symm)).1 (o.gB.ids.imp fun h e=>by omega)
  have r:(h8 B).Pairwise fun a b=>a.1≠b.1:=(j.pairwise_iff (fun {x y} h=>fun e=>h e.symm)).2 (p.sublist g)
  exact((Ev B).and r).imp fun {a b} h=>by have:=h.1;have:=h.2;omega
 .have p:=g.length_le
  have r:=i.length_eq
  have t:=j.length_eq
  have:=o.c7
  omega
theorem Fo {a b:List b9} (h:a.Sublist b):(fh a).Sublist (fh b):=by
 induction h with
 |slnil=>exact List.Sublist.refl _
 |cons x _ g=>
  show(fh _).Sublist (alive x++fh _)
  exact g.trans (List.sublist_append_right _ _)
 |cons_cons x _ g=>
  show(alive x++fh _).Sublist (alive x++fh _)
  exact(List.Sublist.refl _).append g
structure wG (N:Nat) (c:aK):Prop where
 cS:1048576<N
 a:c.1.length<=1048576
 b:c.2.length<=1048576
 e:∀y,y∈c.2->y.1.length<=1048576
structure qt (l:b9):Prop where
 dM:e0 l.1.1
 small:Small 7680 l.1.2
 dead:l.2.length<=1000
theorem qt.of {c:aK} {l:b9} (h:gS c l=true):qt l:=by
 obtain⟨i,_,o,_⟩:=tc h
 obtain⟨_,g,j⟩:=iR i
 exact⟨g,j▸w6 c g,by omega⟩
theorem L4 (N:Nat) (c:aK) (h:wG N c):y1 N c.1 c.2=some (c.1,c.2):=by
 have j:=h.cS
 have o:=h.a
 have p:=h.b
 unfold y1
 rw[ai (bW (by simp;omega) (by simp;omega)),fE]
 refine(dh _ c.2.length (fun n=>((n:Int),c.1,c.2,c.1,c.2.take n)) (fun _=>some (c.1,c.2)) (fun go=>?_) (fun go n g i=>?_) N 0 (bg _) (by omega)).trans rfl
 .dsimp only
  rw[an (bm _),aj,cj]
 .dsimp only
  have r:=h.e _ (br g)
  rw[aq (by omega:(n:Int)<c.2.length),ao,aP g,ag,ai (bW (by simp;omega) (by simp;omega)),ag,ai (bW (by simp;omega) (by simp;omega)),ai (aO (n:=n) (by omega)),fE,<-i,dT g,aS]
theorem Xj (N:Nat) (j:1048576<N) (ps:List EPost) (o:ps.length<=7680) (i:∀p,p∈ps->p.2.length<=7680):Ej N ps=some ps:=by
 unfold Ej
 refine(dh _ ps.length (fun k=>(ps,ps.take k,(k:Int))) (fun _=>some ps) (fun go=>?_) (fun go k g h=>?_) N 0 (bg _) (by omega)).trans rfl
 .dsimp only
  rw[an (bm _),aj,cj]
 .dsimp only
  have hy:=i _ (br g)
  rw[aq (by omega:(k:Int)<ps.length),ao,aP g,ag,ag,ai (bW (by simp;omega) (by simp;omega)),ai (bW (by simp;omega) (by simp;omega)),ai (aO (n:=k) (by omega)),fE,<-h,dT g,aS]
theorem Xk (N:Nat) (p:1048576<N) (l:b9) (h:qt l):D9 N l.1.1 l.1.2=some l.1:=by
 have r:=h.small.1
 have t:=h.dM.c7
 unfold D9
 refine(dh _ l.1.1.length (fun n=>((n:Int),l.1.1,l.1.2,l.1.1.take n)) (fun _=>some l.1) (fun go=>?_) (fun go n g j=>?_) N 0 (bg _) (by omega)).trans rfl
 .dsimp only
  rw[an (bm _),aj,cj]
  refine(dh _ l.1.2.length (fun n=>((n:Int),l.1.1,l.1.2,l.1.1,l.1.2.take n)) (fun _=>some l.1) (fun go2=>?_) (fun go2 n g i=>?_) N 0 (bg _) (by omega)).trans rfl
  .dsimp only
   rw[an (bm _),aj,cj]
  .dsimp only
   have o:=h.small.2 _ (br g)
   rw[aq (by omega:(n:Int)<l.1.2.length),ao,aP g,ag,Xj N p _ o.1 o.2,ag,ai (bW (by simp;omega) (by simp;omega)),ai (aO (n:=n) (by omega)),<-i,dT g,aS]
 .dsimp only
  have he:=h.dM.each _ (br g)
  rw[aq (by omega:(n:Int)<l.1.1.length),ao,aP g,ag,Jh N l.1.1[n] he.1 he.2.1,ag,ai (bW (by simp;omega) (by simp;omega)),ai (aO (n:=n) (by omega)),<-j,dT g,aS]
theorem Ab (N:Nat) (x:b8) (j:wG N x.1) (r:x.2.length<=1000) (h:∀l,l∈x.2->qt l):mR N x.1.1 x.1.2 x.2=some (x.1.1,x.1.2,x.2):=by
 have p:=j.cS
 unfold mR
 rw[L4 N x.1 j,ag]
 refine(dh _ x.2.length (fun n=>((n:Int),x.1.1,x.1.2,x.2,x.1.1,x.1.2,x.2.take n)) (fun _=>some (x.1.1,x.1.2,x.2)) (fun go=>?_) (fun go n g i=>?_) N 0 (bg _) (by omega)).trans rfl
 .dsimp only
  rw[an (bm _),aj,cj]
 .dsimp only
  have o:=h _ (br g)
  have t:=o.dead
  rw[aq (by omega:(n:Int)<x.2.length),ao,aP g,ag,Xk N p _ o,ag,ag,ai (bW (by simp;omega) (by simp;omega)),ai (bW (by simp;omega) (by simp;omega)),ai (aO (n:=n) (by omega)),fE,<-i,dT g,aS]
theorem wG.of {N:Nat} {c:aK} (g:1048576<N) (h:cH bC gJ c):wG N c:=⟨g,h.1.1,h.2.1,fun y hy=>(h.2.2 y hy).1.1⟩
def ix (l:List Int) (n:Int):List Int:=match l with
 | []=>[n]
 |x::r=>if x<n then x::ix r n else if x=n then x::r else n::x::r
theorem Ki (n x:Int):∀l,x∈ix l n↔x=n\/x∈l
 | []=>by simp[ix]
 |y::r=>by
  unfold ix
  have g:=Ki n x r
  split
  .rw [bn,g,bn];constructor<;>rintro(h|h|h)<;>simp_all
  .split
   .rename_i e;subst e;simp
   .simp
theorem Tg (n:Int):∀l,iA l->iA (ix l n)
 | [],_=>by simp[ix,iA]
 |y::r,h=>by
  unfold iA at h
  rw[en]at h
  have i:iA (ix r n):=Tg n r h.2
  unfold ix
  split
  .rename_i e
   show List.Pairwise _ _
   rw[en]
   refine⟨fun x g=>?_,i⟩
   rcases(Ki n x r).1 g with rfl|g
   .exact e
   .exact h.1 x g
  .split
   .exact en.2 h
   .rename_i j o
    show List.Pairwise _ _
    rw[en,en]
    refine⟨fun x g=>?_,h⟩
    rcases bn.1 g with rfl|g
    .omega
    .have:=h.1 x g;omega
theorem Te (n:Int):∀l,(ix l n).length<=l.length+1
 | []=>by simp[ix]
 |x::r=>by
  unfold ix
  have:=Te n r
  split
  .simp;omega
  .split<;>simp
theorem Td (n:Int):∀(l:List Int) (k:Nat) (h:k<l.length),(∀x,x∈l.take k->x<n)->l[k]=n->ix l n=l
 |x::r,0,_,_,e=>by
  have e:x=n:=e
  unfold ix
  rw[aC (by omega),ai e]
 |x::r,k+1,h,g,e=>by
  have i:=g x (by rw[hX];simp)
  unfold ix
  rw[ai i,Td n r k (by simpa using h) (fun y hy=>g y (by rw[hX];simp[hy])) (by simpa using e)]
theorem Tf (n:Int):∀(l:List Int) (k:Nat),k<=l.length->(∀x,x∈l.take k->x<n)->(∀h:k<l.length,n<l[k])->ix l n=l.take k++ [n]++l.drop k
 | [],k,h,_,_=>by simp at h;subst h;rfl
 |x::r,0,_,_,g=>by
  have g:n<x:=g (by simp)
  unfold ix
  rw[aC (by omega),aC (by omega)]
  rfl
 |x::r,k+1,h,i,g=>by
  have j:=i x (by rw[hX];simp)
  unfold ix
  rw[ai j,Tf n r k (by simpa using h) (fun y hy=>i y (by rw[hX];simp[hy])) (fun o=>by
   have:=g (by simp;omega)
   simpa using this)]
  rfl
theorem apv (N:Nat) (z:1048576<N) (l:List Int) (n:Int) (A:l.length<=1000):Ep N l n=some (ix l n):=by
 refine Def.get ?_
 unfold Ep
 have ins:∀k:Nat,k<=l.length->(∀x,x∈l.take k->x<n)->(∀h:k<l.length,n<l[k])->Def (Option.bind (cut l 0 (k:Int)) fun y=>if room ([]:List Int).length y.length 8 then(if room (([]:List Int)++y).length ([n]:List Int).length 8 then Option.bind (cut l (k:Int) (l.length:Int)) fun t=>if room ((([]:List Int)++y)++([n]:List Int)).length t.length 8 then some (((([]:List Int)++y)++([n]:List Int))++t)else none else none)else none) fun r=>r=ix l n:=fun k i j v=>by
  rw[wY l k i,ag,ai (bW (by rw[bN];simp;omega) (by rw[bN];simp;omega)),
   ai (bW (by rw[bh,bN,bS];simp;omega) (by rw[bh,bN,bS];simp;omega)),Ad l k i,ag,
   ai (bW (by simp only[bh,bN,bS,eF,bH];omega) (by simp only[bh,bN,bS,eF,bH];omega))]
  exact Def.ret (by rw[Tf n l k i j v,fE])
 refine Def.upto l.length (fun k g=>(∀x,x∈l.take k->x<n)/\g=(l,n,(k:Int))) ?_ ?_ N 0 _ (bg _) ⟨fun x o=>by simp at o,rfl⟩ (by omega)
 .rintro go _ ⟨j,rfl⟩
  dsimp only
  rw[an (bm _),aj,aj]
  exact ins l.length (bE _) j fun h=>absurd h (Nat.lt_irrefl _)
 .rintro go k _ i ⟨j,rfl⟩ p
  dsimp only
  rw[aq (by omega:(k:Int)<l.length),ao,ao,aP i,ag,ag]
  refine Def.bO (fun e=>Def.ite (aO (n:=k) (by omega)) (p _ ⟨fun x o=>?_,by rw[aS]⟩)) (fun e=>Def.bO (fun u=>Def.ret (Td n l k i j u).symm) (fun u=>ins k (by omega) j fun _=>by omega))
  rw[dT i,cE,du]at o
  rcases o with o|rfl
  .exact j x o
  .exact e
def k4 (id:Int) (l:b9):Bool:=(e1 l.1.1 id).isSome&& !decide (id∈l.2)
def hH (id:Int) (l:b9):b9:=bif k4 id l then(l.1,ix l.2 id)else l
structure qu (N:Nat) (c:aK) (ls:List b9):Prop where
 cS:1048576<N
 top:N<=16777216
 c7:ls.length<=5
 pC:∀l,l∈ls->fl N c l.1
 up:∀l,l∈ls->iA l.2
 dead:∀l,l∈ls->l.2.length<=200
theorem Wu {α:Type} (p:α->Bool) (l:List α) (n:Nat) (h:n<l.length):(l.take (n+1)).any p=((l.take n).any p||p l[n]):=by
 rw[dT h,List.any_append]
 simp
theorem M5 {N:Nat} {c:aK} {ls:List b9} (h:qu N c ls) (id:Int):y3 N c.1 c.2 ls id=some (c.1,c.2,ls.map (hH id),ls.any (k4 id)):=by
 have z:=h.cS
 have B:=h.top
 have C:=h.c7
 refine Def.get ?_
 unfold y3
 refine Def.upto ls.length (fun n g=>g=(id,(ls.take n).any (k4 id),(n:Int),c.1,c.2,ls,c.1,c.2,(ls.take n).map (hH id))) ?_ ?_ N 0 _ (bg _) rfl (by omega)
 .rintro go _ rfl
  dsimp only
  rw[an (bm _),aj,cj]
  exact Def.ret rfl
 .rintro go n _ j rfl p
  dsimp only
  have hm:=br j
  have g:=h.pC _ hm
  have F:=h.dead _ hm
  rw[aq (by omega:(n:Int)<ls.length),ao,aP j,ag]
  refine Def.meet (fun g=>g=(id,(ls.take (n+1)).any (k4 id),(n:Int),c.1,c.2,ls,c.1,c.2,(ls.take n).map (hH id),(hH id ls[n]).1.1,(hH id ls[n]).1.2,(hH id ls[n]).2)) ?_ fun J r=>?_
  .rintro _ rfl
   dsimp only
   refine Def.ite (bW (by rw[dE,bN];simp;omega) (by rw[dE,bN];simp;omega)) (Def.ite (aO (n:=n) (by omega)) (p _ ?_))
   rw[dT j,ib,aS]
   rfl
  .have t:=Wu (k4 id) ls n j
   rw[Je N g,ag]
   cases i:e1 ls[n].1.1 id with
   |none=>
    have e:k4 id ls[n]=false:=by unfold k4;rw[i];rfl
    show Def (bif !decide ((0:Int)=0)then _ else _) _
    rw[aq rfl,bf,aj]
    refine r _ ?_
    rw[t,e,Bool.or_false]
    unfold hH
    rw[e]
    rfl
   |some d=>
    have hid:¬d.1=0:=fun e=>by
     have A:=FV i
     have v:=nE (rq g.ok) d A.1
     unfold gF at v
     simp only[a6,bo]at v
     omega
    have u:ts N ls[n].1.1 ls[n].1.2 ls[n].2 id=some (decide (id∈ls[n].2)):=by
     unfold ts
     rw[R0 N _ _ (by omega) (by omega),ag]
    show Def (bif !decide (d.1=0)then _ else _) _
    rw[an hid,dH,ao,u,ag]
    have e:k4 id ls[n]= !decide (id∈ls[n].2):=by unfold k4;rw[i];rfl
    rw[<-e]
    cases o:k4 id ls[n]with
    |true=>
     rw[ao]
     refine Def.ite (bW (by simp;omega) (by simp;omega)) ?_
     rw[fE,apv N z _ _ (by omega),ag]
     refine r _ ?_
     rw[t,o,Bool.or_true]
     unfold hH
     rw[o]
     rfl
    |false=>
     rw[aj]
     refine r _ ?_
     rw[t,o,Bool.or_false]
     unfold hH
     rw[o]
     rfl
theorem Yf {α:Type} (p:α->Bool) (l:List α) (n:Nat) (h:n<l.length):(l.take (n+1)).filter p=bif p l[n]then(l.take n).filter p++ [l[n]]else(l.take n).filter p:=by
 rw[dT h,jP]
 cases e:p l[n]<;>simp[iY,e]
theorem MT (N:Nat) (o:1048576<N) (c:aK) (ls:List b9) (p:ls.length<=1000):y2 N c.1 c.2 ls=some (c.1,c.2,ls.filter fun l=>decide (l.2.length<l.1.1.length)):=by
 refine Def.get ?_
 unfold y2
 refine Def.upto ls.length (fun n g=>g=((n:Int),c.1,c.2,ls,c.1,c.2,(ls.take n).filter fun l=>decide (l.2.length<l.1.1.length))) ?_ ?_ N 0 _ (bg _) rfl (by omega)
 .rintro go _ rfl
  dsimp only
  rw[an (bm _),aj,cj]
  exact Def.ret rfl
 .rintro go n _ i rfl h
  dsimp only
  have j:=Yf (fun l:b9=>decide (l.2.length<l.1.1.length)) ls n i
  have hle:((ls.take n).filter fun l:b9=>decide (l.2.length<l.1.1.length)).length<=1000:=dS (ho _ _) (by rw[bN];omega)
  rw[aq (by omega:(n:Int)<ls.length),ao,aP i,ag,ag]
  refine Def.bO (fun e=>?_) (fun e=>?_)
  .rw [ag]
   refine Def.ite (bW (by simp only[bS];omega) (by simp only[bS];omega)) (Def.ite (aO (n:=n) (by omega)) (h _ ?_))
   rw[j,aq (by omega),ao,aS]
  .refine Def.ite (aO (n:=n) (by omega)) (h _ ?_)
   rw[j,an (by omega),aj,aS]
theorem qu.of {N:Nat} {x:b8} (h:dC N x) (i:cf x=true):qu N x.1 x.2:=by
 obtain⟨p,j,o,r⟩:=gu i
 have g:∀l,l∈x.2->gS x.1 l=true:=cz.1 o
 refine⟨h.cS,h.top,j,fun l hm=>⟨h.cS,h.top,h.c8,(h.each l hm).1,(tc (g l hm)).1⟩,fun l hm=>?_,fun l hm=>dS (tc (g l hm)).2.2.1 (by omega)⟩
 have:=g l hm
 unfold gS at this
 rw[a6,a6]at this
 exact(qc this.2.1).1
abbrev zw :b8:=(([],[]),[])
theorem dC.zero {N:Nat} (h:bC<N) (i:N<=16777216):dC N zw:=
 ⟨h,i,⟨⟨bg _,fun x g=>by cases g⟩,⟨bg _,fun x g=>by cases g⟩⟩,bg _,fun l j=>by cases j⟩
theorem AE (id:Int) (l:b9):(hH id l).1=l.1:=by unfold hH;cases k4 id l<;>rfl
theorem Gx (id:Int) (l:b9):(hH id l).2.length<=l.2.length+1/\(iA l.2->iA (hH id l).2):=by
 unfold hH
 cases k4 id l with
 |false=>exact⟨Nat.le_succ _,fun h=>h⟩
 |true=>exact⟨Te id l.2,Tg id l.2⟩
def iK (ds:List aF) (l:b9):b9:=ds.foldl (fun l d=>hH d.1 l) l
theorem Gw :∀(ds:List aF) (l:b9),(iK ds l).1=l.1
 | [],l=>rfl
 |d::ds,l=>(Gw ds (hH d.1 l)).trans (AE d.1 l)
theorem AD :∀(ds:List aF) (l:b9),(iK ds l).2.length<=l.2.length+ds.length/\(iA l.2->iA (iK ds l).2)
 | [],l=>⟨bE _,fun h=>h⟩
 |d::ds,l=>by
  obtain⟨j,g⟩:=AD ds (hH d.1 l)
  obtain⟨o,i⟩:=Gx d.1 l
  refine⟨?_,fun h=>g (i h)⟩
  show(iK ds (hH d.1 l)).2.length<=l.2.length+(ds.length+1)
  omega
theorem qu.iK {N:Nat} {c:aK} {ls:List b9} (h:qu N c ls) (o:∀l,l∈ls->l.2.length<=60) (ds:List aF) (p:ds.length<=16):qu N c (ls.map (iK ds)):=by
 refine⟨h.cS,h.top,by rw[dE];exact h.c7,fun j g=>?_,fun j g=>?_,fun j g=>?_⟩<;>obtain⟨l,i,rfl⟩:=cg.1 g
 .rw [Gw];exact h.pC l i
 .exact (AD ds l).2 (h.up l i)
 .have:=(AD ds l).1
  have:=o l i
  omega
def vx (l:b9):Bool:=decide (l.2.length<l.1.1.length)
def iE (ad:List aF) (x:b8):b8:=(x.1,(x.2.map (iK ad)).filter vx++ [((ad,eu x.1 ad),[])])
def n8 (ad:List aF) (x:b8):b8×Bool:=bif cf x then(bif eR ad&&decide (0<ad.length)then(bif cf (iE ad x)then(iE ad x,true)else(x,false))else(x,false))else(zw,false)
theorem Ag {x:b8} (g:cf x=true):∀l,l∈x.2->l.2.length<=60:=fun l h=>(tc (cz.1 (gu g).2.2.1 l h)).2.2.1
theorem dC.iE {N:Nat} {x:b8} (h:dC N x) (i:cf x=true) {ad:List aF} (gE:∀d,d∈ad->cH bC fN d) (p:ad.length<=16):dC N (iE ad x):=by
 obtain⟨r,t,u,v⟩:=gu i
 refine⟨h.cS,h.top,h.c8,?_,fun z g=>?_⟩
 .have o:=ho vx (x.2.map (iK ad))
  rw[dE]at o
  show((x.2.map (iK ad)).filter vx++ [((ad,eu x.1 ad),([]:List Int))]).length<=_
  rw[bh,bS]
  omega
 .rcases cE.1 g with g|g
  .obtain ⟨l,j,rfl⟩:=cg.1 (gH.1 g).1
   have he:=h.each l j
   have A:=(AD ad l).1
   have B:=Ag i l j
   rw[Gw]
   exact⟨he.1,he.2.1,by omega⟩
  .rw [du]at g
   subst g
   exact⟨gE,by show ad.length<=_;omega,bg _⟩
theorem Wg {N:Nat} {x:b8} (h:dC N x) {ad:List aF} (gE:∀d,d∈ad->cH bC fN d) (v:ad.length<=1000):D1 N x.1.1 x.1.2 x.2 ad=some ((n8 ad x).1.1.1,(n8 ad x).1.1.2,(n8 ad x).1.2,(n8 ad x).2):=by
 have z:1048576<N:=h.cS
 have K:=h.top
 unfold D1 n8
 rw[yt h,ag]
 cases p:cf x with
 |false=>rfl
 |true=>
  obtain⟨C,L,F,M⟩:=gu p
  have g:=Ab N x (.of h.cS h.c8) (by omega) (fun l v=>.of (cz.1 F l v))
  rw[bf,aj,ao,Jg N h.cS (by omega) ad gE (by omega),ag]
  cases r:eR ad with
  |false=>
   rw[dH,ao,g,ag]
   rfl
  |true=>
   have j:=lh r
   have o:=j.c7
   rw[bf,aj,cl]
   by_cases O:ad.length=0
   .rw [aq (by omega:(ad.length:Int)=0),ao,g,ag,an (by omega)]
    rfl
   .rw [an (by omega:¬(ad.length:Int)=0),aj,g,ag,aq (by omega:0<ad.length),ao]
    dsimp only
    have G:=qu.of h p
    have H:((ad,(0:Int),x.1.1,x.1.2,x.2,x.1.1,x.1.2,x.2):List aF×Int×List (List UInt8)×List eT×List b9×List (List UInt8)×List eT×List b9)=(ad,((0:Nat):Int),x.1.1,x.1.2,x.2,x.1.1,x.1.2,x.2.map (iK (ad.take 0))):=by
     rw[show iK (ad.take 0)=id from by funext l;rfl,List.map_id]
     rfl
    refine(congrArg (iter _ N) H).trans ((dh _ ad.length (fun n=>(ad,(n:Int),x.1.1,x.1.2,x.2,x.1.1,x.1.2,x.2.map (iK (ad.take n)))) (fun _=>some ((bif cf (iE ad x)then(iE ad x,true)else(x,false)).1.1.1,(bif cf (iE ad x)then(iE ad x,true)else(x,false)).1.1.2,(bif cf (iE ad x)then(iE ad x,true)else(x,false)).1.2,(bif cf (iE ad x)then(iE ad x,true)else(x,false)).2)) (fun go=>?_) (fun go n A t=>?_) N 0 (bg _) (by omega)).trans rfl)
    .dsimp only
     have I:=h.iE p gE o
     have i:=ho vx (x.2.map (iK ad))
     rw[dE]at i
     rw[an (bm _),aj,cj,MT N z x.1 _ (by rw[dE];omega),ag]
     dsimp only
     rw[De N x.1 C j z,ag,ai (bW (by show(_+1)*72<=_;unfold vx at i;omega) (by show((_+1:Nat):Int)<=_;unfold vx at i;omega))]
     have B:=yt I
     rw[show(x.2.map (iK ad)).filter (fun l=>decide (l.2.length<l.1.1.length))++ [((ad,eu x.1 ad),([]:List Int))]=(iE ad x).2 from rfl]
     rw[show(iE ad x).1=x.1 from rfl]at B
     rw[B,ag]
     cases cf (iE ad x)with
     |false=>rw[dH,ao,g,ag];rfl
     |true=>rfl
    .dsimp only
     have u:=G.iK (Ag p) (ad.take n) (by rw[bN];omega)
     rw[aq (by omega:(n:Int)<ad.length),ao,aP A,ag,M5 u,ag,ai (aO (n:=n) (by omega)),<-t,aS,dT A,mb]
     have J:(hH ad[n].1∘iK (ad.take n))=iK (ad.take n++ [ad[n]]):=by
      funext l
      show _=iK _ l
      unfold iK
      rw[hW]
      rfl
     rw[J]
theorem Wj {N:Nat} {x:b8} (h:dC N x) {ad:List aF} (gE:∀d,d∈ad->cH bC fN d):dC N (n8 ad x).1:=by
 unfold n8
 cases i:cf x with
 |false=>exact dC.zero h.cS h.top
 |true=>
  rw[ao]
  cases g:eR ad&&decide (0<ad.length)with
  |false=>exact h
  |true=>
   rw[ao]
   rw[a6]at g
   cases cf (iE ad x)with
   |false=>exact h
   |true=>exact h.iE i gE (lh g.1).c7
def XN (id:Int) (x:b8):b8:=(x.1,(x.2.map (hH id)).filter fun l=>decide (l.2.length<l.1.1.length))
def oj (id:Int) (x:b8):b8×Bool:=bif cf x then(XN id x,x.2.any (k4 id))else(zw,false)
theorem aa4 {N:Nat} {x:b8} (h:dC N x) (id:Int):D2 N x.1.1 x.1.2 x.2 id=some ((oj id x).1.1.1,(oj id x).1.1.2,(oj id x).1.2,(oj id x).2):=by
 unfold D2 oj
 rw[yt h,ag]
 cases g:cf x with
 |false=>rfl
 |true=>
  obtain⟨p,r,i,t⟩:=gu g
  have j:=qu.of h g
  rw[bf,aj,Ab N x (.of h.cS h.c8) (by omega) (fun l o=>.of (cz.1 i l o)),ag]
  dsimp only
  rw[M5 j,ag]
  dsimp only
  rw[MT N h.cS x.1 _ (by rw[dE];omega),ag]
  rfl
theorem XL {N:Nat} {x:b8} (h:dC N x) (id:Int):dC N (oj id x).1:=by
 unfold oj
 cases i:cf x with
 |false=>exact dC.zero h.cS h.top
 |true=>
  obtain⟨o,p,r,t⟩:=gu i
  refine⟨h.cS,h.top,h.c8,?_,fun u g=>?_⟩
  .exact dS (ho _ _) (by rw[dE];omega)
  .obtain ⟨l,j,rfl⟩:=cg.1 (gH.1 g).1
   have he:=h.each l j
   have v:=(Gx id l).1
   have z:=Ag i l j
   rw[AE]
   exact⟨he.1,he.2.1,by omega⟩
def nB (k:Nat) (x:b8):List aF:=h8 (fh ((x.2.take (k+2)).drop k))
def aoq (k:Nat) (x:b8):b8:=(x.1,x.2.take k++ [((nB k x,eu x.1 (nB k x)),[])]++x.2.drop (k+2))
def oQ (at':Int) (x:b8):b8×Bool:=bif cf x then(bif decide (0<=at')&&decide (at'<=(x.2.length:Int)-2)then(aoq at'.toNat x,true)else(x,false))else(zw,false)
theorem Xq {α:Type} (xs:List α) (a b:Nat) (g:a<=b) (h:b<=xs.length):cut xs (a:Int) (b:Int)=some ((xs.take b).drop a):=by
 unfold cut
 rw[ai ⟨by omega,by omega,by omega⟩]
 rfl
theorem aa6 {N:Nat} {x:b8} (h:dC N x) (at':Int):D3 N x.1.1 x.1.2 x.2 at'=some ((oQ at' x).1.1.1,(oQ at' x).1.1.2,(oQ at' x).1.2,(oQ at' x).2):=by
 have v:1048576<N:=h.cS
 have A:=h.top
 unfold D3 oQ
 rw[yt h,ag]
 cases B:cf x with
 |false=>rfl
 |true=>
  obtain⟨C,G,z,F⟩:=gu B
  have g:=Ab N x (.of h.cS h.c8) (by omega) (fun l p=>.of (cz.1 z l p))
  rw[bf,aj,ao,ai (by unfold fits;omega),jD,ag]
  cases r:decide (0<=at')&&decide (at'<=(x.2.length:Int)-2)with
  |false=>
   rw[dH,ao,g,ag]
   rfl
  |true=>
   rw[a6,bo,bo]at r
   obtain⟨k,rfl⟩:∃k:Nat,at'=(k:Int):=⟨at'.toNat,by omega⟩
   have o:k+2<=x.2.length:=by omega
   have i:((x.2.take (k+2)).drop k).Sublist x.2:=(List.drop_sublist _ _).trans (tQ _ _)
   have t:qy ((x.2.take (k+2)).drop k):=rz (c:=x.1) (by rw[eF,bN];omega) (cz.2 fun l p=>cz.1 z l (i.subset p))
   have u:eR (nB k x)=true:=JS F (Fo i)
   rw[bf,aj,ai (by unfold fits;omega),show((k:Int)+2)=((k+2:Nat):Int)from by omega,Xq x.2 k (k+2) (by omega) o,ag]
   have j:=FY N v A ([],[]) _ t
   rw[j,ag,g,ag]
   dsimp only
   rw[wY x.2 k (by omega),ag,ai (bW (by rw[bN];simp;omega) (by rw[bN];simp;omega)),show h8 (fh ((x.2.take (k+2)).drop k))=nB k x from rfl,De N x.1 C (lh u) v,ag,
    ai (bW (by rw[bh,bN,bS];simp;omega) (by rw[bh,bN,bS];simp;omega)),ai (by unfold fits;omega),Ad x.2 (k+2) o,ag,
    ai (bW (by simp only[bh,bN,bS,eF,bH];omega) (by simp only[bh,bN,bS,eF,bH];omega)),fE]
   rfl
theorem aoo {N:Nat} {x:b8} (h:dC N x) (at':Int):dC N (oQ at' x).1:=by
 unfold oQ
 cases r:cf x with
 |false=>exact dC.zero h.cS h.top
 |true=>
  rw[ao]
  cases t:decide (0<=at')&&decide (at'<=(x.2.length:Int)-2)with
  |false=>exact h
  |true=>
   obtain⟨z,u,v,A⟩:=gu r
   rw[ao]
   generalize at'.toNat=k
   have i:((x.2.take (k+2)).drop k).Sublist x.2:=(List.drop_sublist _ _).trans (tQ _ _)
   have j:qy ((x.2.take (k+2)).drop k):=rz (c:=x.1) (dS i.length_le u) (cz.2 fun l o=>cz.1 v l (i.subset o))
   refine⟨h.cS,h.top,h.c8,?_,fun p g=>?_⟩
   .show (x.2.take k++ [((nB k x,eu x.1 (nB k x)),([]:List Int))]++x.2.drop (k+2)).length<=_
    simp only[bh,bN,bS,eF]
    omega
   .rcases cE.1 g with g|g
    .rcases cE.1 g with g|g
     .exact h.each p (fC g)
     .rw [du]at g
      subst g
      refine⟨zd fun l o=>(h.each l (i.subset o)).1,?_,bg _⟩
      have:=ze j
      show(nB k x).length<=_
      unfold nB
      omega
    .exact h.each p (qi g)
theorem aa8 {N:Nat} (g:bC<N) (i:N<=16777216) (c:aK) (c8:cH bC gJ c):Def (yZ N c.1 c.2) fun r=>dC N (r,[]):=by
 have h:1048576<N:=g
 unfold yZ
 rw[Dd N g (by omega) c c8,ag]
 cases dQ c with
 |false=>exact Def.ret (dC.zero g i)
 |true=>
  rw[bf,aj,L4 N c (.of h c8),ag]
  exact Def.ret ⟨g,i,c8,bg _,fun l j=>by cases j⟩
theorem Ma {α:Type} (xs:List α) (n:Nat) (h:n<=xs.length):cut xs 0 (n:Int)=some (xs.take n):=by
 unfold cut
 rw[ai (by omega)]
 simp
theorem ao1 (N:Nat) (code:List Int) (g:qs code):∃y,y5 N code=some (y,0)/\qs y/\y.length<=2000:=by
 unfold y5
 by_cases h:(2000:Int)<code.length
 .simp only [h,decide_true,ao]
  rw[show(2000:Int)=((2000:Nat):Int)from rfl,Ma code 2000 (by omega)]
  exact⟨_,rfl,fun x i=>g x (fC i),by simp;omega⟩
 .simp only [h,decide_false,aj]
  exact⟨_,rfl,g,by omega⟩
def eh (b:List Int) (k:Int) (j:Nat):Prop:=qs b/\b.length<=2000/\0<=k/\k<=j
theorem eh.le {b:List Int} {k:Int} {j g:Nat} (h:eh b k j) (i:j<=g):eh b k g:=⟨h.1,h.2.1,h.2.2.1,by have:=h.2.2.2;omega⟩
theorem fT (N:Nat) (n:Int) {b:List Int} {k:Int} {j:Nat} (h:eh b k j) (t:j<=1000000):Def (fj N n b k) fun r=>0<=r.1/\(1<=n->r.1<n)/\(n<1->r.1=0)/\eh r.2.1 r.2.2 (j+1):=by
 obtain⟨v,g,i,o,p⟩:=api N n b k h.1 h.2.2.1 (by have:=h.2.2.2;omega) h.2.1
 exact⟨_,g,i,o,p,h.1,h.2.1,by have:=h.2.2.1;show(0:Int)<=k+1;omega,by have:=h.2.2.2;show k+1<=((j+1:Nat):Int);omega⟩
theorem vH (N:Nat) {l:List (List UInt8)} {b:List Int} {k:Int} {j:Nat} (u:0<l.length) (h:eh b k j) (g:j<=1000000):Def (mS N l b k) fun r=>r.1∈l/\eh r.2.1 r.2.2 (j+1):=by
 unfold mS
 refine Def.bind (fT N _ h g) fun r ⟨i,o,_,p⟩=>?_
 exact Def.idx i (o (by omega)) fun x t _=>Def.ret ⟨t,p⟩
theorem ao0 (N:Nat) {code:List Int} (g:qs code):Def (y5 N code) fun r=>eh r.1 r.2 0:=by
 obtain⟨y,h,i,j⟩:=ao1 N code g
 exact⟨_,h,i,j,ic _,ic _⟩
def aoO (c:UInt8):Bool:=decide (32<=c.toNat)&&decide (c.toNat<=126)
def jl (n:Nat) (s:List UInt8):Bool:=s.all aoO&&decide (s.length<=n)
theorem SG {n m:Nat} {s t:List UInt8} (h:jl n s=true) (k:jl m t=true):jl (n+m) (s++t)=true:=by
 unfold jl at*
 simp only[a6,bo,List.all_append,bh]at*
 exact⟨⟨h.1,k.1⟩,by omega⟩
theorem SH {n m:Nat} {s:List UInt8} (h:jl n s=true) (hm:n<=m):jl m s=true:=by
 unfold jl at*
 simp only[a6,bo]at*
 exact⟨h.1,by omega⟩
theorem yJ {n:Nat} {s:List UInt8} (h:jl n s=true):s.length<=n:=by
 unfold jl at h
 simp only[a6,bo]at h
 exact h.2
theorem ap2 (N:Nat) {b:List Int} {k:Int} {j:Nat} (h:eh b k j) (i:j<=100000):Def (Eh N b k) fun r=>jl 17 r.1=true/\eh r.2.1 r.2.2 (j+1):=by
 unfold Eh
 refine Def.bind (vH N (by decide) h (by omega)) fun r ⟨m1,g⟩=>Def.ret ⟨?_,g⟩
 exact(by decide:∀w,w∈([([99,97,116]:List UInt8),([67,97,116,115]:List UInt8),([100,111,103]:List UInt8),([100,111,103,115]:List UInt8),([114,117,110]:List UInt8),([82,85,78,78,73,78,71]:List UInt8),([116,104,101]:List UInt8),([114,101,100]:List UInt8),([98,105,103]:List UInt8),([110,101,119,32,121,111,114,107]:List UInt8),([78,101,119,32,32,89,111,114,107]:List UInt8),([110,121]:List UInt8),([102,111,120]:List UInt8),([112,97,115,115,101,100]:List UInt8),([120,49]:List UInt8),([97,118,101,114,121,118,101,114,121,108,111,110,103,119,111,114,100]:List UInt8)]:List (List UInt8))->jl 17 w=true) _ m1
theorem UA (N:Nat) {b:List Int} {k:Int} {j:Nat} (h:eh b k j) (K:j<=30000) (L:20<=N):Def (y7 N b k) fun r=>jl 160 r.1=true/\eh r.2.1 r.2.2 (j+30):=by
 unfold y7
 refine Def.bind (fT N 9 h (by omega)) fun r ⟨A,p,_,B⟩=>?_
 have p:=p (by omega)
 refine Def.iter (fun g=>∃s:List UInt8,∃n:Nat,∃x y,n<=8/\jl (19*(8-n)) s=true/\eh x y (j+1+2*(8-n))/\g=(s,(n:Int),x,y)) (fun g=>g.2.1.toNat) ?_ N _ ⟨[],r.1.toNat,_,_,by omega,by unfold jl;simp,B.le (by omega),by rw[qj A]⟩ (by show r.1.toNat<N;omega)
 rintro go _ ⟨s,n,x,y,M,i,t,rfl⟩ o
 dsimp only
 have C:=yJ i
 refine Def.bO (fun e=>?_) (fun e=>Def.ret ⟨SH i (by omega),t.le (by omega)⟩)
 refine Def.bind (ap2 N t (by omega)) fun F ⟨u,G⟩=>?_
 have H:=yJ u
 refine Def.ite (by omega) ?_
 refine Def.bind (vH N (by decide) G (by omega)) fun v ⟨m3,I⟩=>?_
 have z:jl 2 v.1=true:=(by decide:∀w,w∈([([32]:List UInt8),([32]:List UInt8),([44,32]:List UInt8),([45]:List UInt8),([46,32]:List UInt8)]:List (List UInt8))->jl 2 w=true) _ m3
 have J:=yJ z
 refine Def.ite (by rw[bh];omega) (Def.ite (by unfold fits;omega) (o _ ⟨(s++F.1)++v.1,n-1,_,_,by omega,SH (SG (SG i u) z) (by omega),I.le (by omega),?_⟩ ?_))
 .rw [show((n:Int)-1)=((n-1:Nat):Int)from by omega]
 .show ((n:Int)-1).toNat<(n:Int).toNat
  omega
structure gZ (eJ:List eo) (b5:List gz) (n:Nat):Prop where
 e2:eJ.length<=n
 ht:b5.length<=n
 f:∀x,x∈eJ->x.1.length<=1000/\x.2.length<=1000
 a:∀x,x∈b5->x.1.length<=4/\ -1<=x.2/\x.2<=1000000000
theorem gZ.ok {eJ:List eo} {b5:List gz} {n:Nat} (h:gZ eJ b5 n) (r:n<=1000) {id:Int} (t:0<=id/\id<=1000000):cH bC fN (id,eJ,b5):=by
 have i:IntKind.i64.min=-9223372036854775808:=by decide
 have j:IntKind.i64.max=9223372036854775807:=by decide
 have o:=h.e2;have p:=h.ht
 refine⟨⟨by rw[i];show _<=id;omega,by rw[j];show id<=_;omega⟩,⟨by show eJ.length<=1048576;omega,fun x g=>?_⟩,⟨by show b5.length<=1048576;omega,fun x g=>?_⟩⟩
 .have:=h.f x g
  exact⟨by show x.1.length<=1048576;omega,by show x.2.length<=1048576;omega⟩
 .have:=h.a x g
  exact⟨by show x.1.length<=1048576;omega,by rw[i];exact Int.le_trans (by decide) this.2.1,by rw[j];exact Int.le_trans this.2.2 (by decide)⟩
theorem gZ.Lk {eJ:List eo} {b5:List gz} {n:Nat} (h:gZ eJ b5 n) {x:eo} (g:x.1.length<=1000) (i:x.2.length<=1000):gZ (eJ++ [x]) b5 (n+1):=by
 have j:=h.e2;have o:=h.ht
 refine⟨by simp only[bh,ba,bH];omega,by omega,fun y hy=>?_,h.a⟩
 rcases cE.1 hy with hy|hy
 .exact h.f y hy
 .rw [du.1 hy];exact⟨g,i⟩
theorem gZ.Lj {eJ:List eo} {b5:List gz} {n:Nat} (h:gZ eJ b5 n) {x:gz} (g:x.1.length<=4) (i: -1<=x.2) (j:x.2<=1000000000):gZ eJ (b5++ [x]) (n+1):=by
 have o:=h.e2;have p:=h.ht
 refine⟨by omega,by simp only[bh,ba,bH];omega,h.f,fun y hy=>?_⟩
 rcases cE.1 hy with hy|hy
 .exact h.a y hy
 .rw [du.1 hy];exact⟨g,i,j⟩
theorem gZ.le {eJ:List eo} {b5:List gz} {n m:Nat} (h:gZ eJ b5 n) (hm:n<=m):gZ eJ b5 m:=⟨dS h.e2 hm,dS h.ht hm,h.f,h.a⟩
theorem gZ.nil :gZ [] [] 0:=⟨bE _,bE _,(fun x g=>by cases g),(fun x g=>by cases g)⟩
theorem gZ.room {n:Nat} {b:Nat} (h:n<=1000) (g:b<=1000):room n 1 b:=by
 have:(n+1)*b<=1001*1000:=tN (by omega) g
 exact bW (by omega) (by omega)
abbrev s9 :List UInt8:=[98,111,100,121]
abbrev vC :List UInt8:=[116,105,116,108,101]
structure mj (eJ:List eo) (eK:List (List UInt8)):Prop where
 names:(eJ.map (·.1)).Sublist eK
 texts:∀x,x∈eJ->jl 160 x.2=true
theorem mj.add {eJ:List eo} {eK:List (List UInt8)} (h:mj eJ eK) (n t:List UInt8) (i:jl 160 t=true):mj (eJ++ [(n,t)]) (eK++ [n]):=by
 refine⟨?_,fun x g=>?_⟩
 .rw [ib]
  exact List.Sublist.append h.names (List.Sublist.refl _)
 .rcases cE.1 g with g|g
  .exact h.texts x g
  .rw [du]at g;subst g;exact i
theorem mj.skip {eJ:List eo} {eK:List (List UInt8)} (h:mj eJ eK) (n:List UInt8):mj eJ (eK++ [n]):=⟨h.names.trans (List.sublist_append_left _ _),h.texts⟩
theorem XG (N:Nat) (id:Int) {b:List Int} {k:Int} {j:Nat} (h:eh b k j) (X:j<=20000) (v:20<=N):Def (Ee N id b k) fun r=>r.1=id/\(gZ r.2.1 r.2.2.1 4/\mj r.2.1 [s9,vC]/\r.2.2.1.length<=2)/\eh r.2.2.2.1 r.2.2.2.2 (j+100):=by
 unfold Ee
 refine Def.meet (fun g=>∃eJ x y,gZ eJ [] 1/\mj eJ [s9]/\eh x y (j+31)/\g=(0,id,eJ,x,y)) ?_ fun J o=>?_
 .rintro _ ⟨eJ,x,y,i,p,t,rfl⟩
  dsimp only
  refine Def.meet (fun g=>∃eJ x y,gZ eJ [] 2/\mj eJ [s9,vC]/\eh x y (j+65)/\g=(0,id,eJ,x,y)) ?_ fun J o=>?_
  .rintro _ ⟨eJ,x,y,i,p,t,rfl⟩
   dsimp only
   refine Def.meet (fun g=>∃eJ b5 x y,gZ eJ b5 3/\(mj eJ [s9,vC]/\b5.length<=1)/\eh x y (j+70)/\g=(0,id,eJ,b5,x,y)) ?_ fun J o=>?_
   .rintro _ ⟨eJ,b5,x,y,i,⟨p,Y⟩,t,rfl⟩
    dsimp only
    refine Def.bind (fT N 3 t (by omega)) fun Z ⟨_,_,_,z⟩=>?_
    refine Def.bO (fun _=>?_) (fun _=>Def.ret ⟨rfl,⟨i.le (by omega),p,by dsimp only;omega⟩,z.le (by omega)⟩)
    refine Def.bind (fT N 30 z (by omega)) fun nM ⟨H,u,_,I⟩=>?_
    have u:=u (by omega)
    have K:=i.ht
    exact Def.ite (by unfold fits;omega) (Def.ite (gZ.room (by omega) (by omega)) (Def.ret ⟨rfl,⟨i.Lj (by simp) (by dsimp only;omega) (by dsimp only;omega),p,by simp only[bh,ba,bH];omega⟩,I.le (by omega)⟩))
   .refine Def.bind (fT N 3 t (by omega)) fun o2 ⟨_,_,_,A⟩=>?_
    refine Def.bO (fun _=>?_) (fun _=>o _ ⟨_,_,_,_,i.le (by omega),⟨p,by simp⟩,A.le (by omega),rfl⟩)
    refine Def.bind (fT N 4 A (by omega)) fun L ⟨H,u,_,M⟩=>?_
    have u:=u (by omega)
    exact Def.ite (gZ.room (by simp) (by omega)) (o _ ⟨_,_,_,_,i.Lj (x:=(([114,97,116,101]:List UInt8),L.1)) (by simp) (by dsimp only;omega) (by dsimp only;omega),⟨p,by simp⟩,M.le (by omega),rfl⟩)
  .refine Def.bind (fT N 3 t (by omega)) fun nK ⟨_,_,_,B⟩=>?_
   refine Def.bO (fun _=>?_) (fun _=>o _ ⟨_,_,_,i.le (by omega),p.skip vC,B.le (by omega),rfl⟩)
   refine Def.bind (UA N B (by omega) v) fun O ⟨C,P⟩=>?_
   have Q:=i.e2
   have S:=yJ C
   exact Def.ite (gZ.room (by omega) (by omega)) (o _ ⟨_,_,_,i.Lk (x:=(([116,105,116,108,101]:List UInt8),O.1)) (by simp) (by dsimp only;omega),p.add vC _ C,P.le (by omega),rfl⟩)
 .refine Def.bind (fT N 6 h (by omega)) fun r ⟨_,_,_,F⟩=>?_
  have g0:mj [] []:=⟨List.Sublist.refl _,fun x T=>by cases T⟩
  refine Def.bO (fun _=>?_) (fun _=>o _ ⟨_,_,_,gZ.nil.le (by omega),g0.skip s9,F.le (by omega),rfl⟩)
  refine Def.bind (UA N F (by omega) v) fun U ⟨G,V⟩=>?_
  have W:=yJ G
  exact Def.ite (gZ.room (by simp) (by omega)) (o _ ⟨_,_,_,gZ.nil.Lk (x:=(([98,111,100,121]:List UInt8),U.1)) (by simp) (by dsimp only;omega),g0.add s9 _ G,V.le (by omega),rfl⟩)
structure Ld (ad:List aF) (m:Int):Prop where
 c7:ad.length<=6
 ids:ad.Pairwise fun a b=>a.1<b.1
 top:∀d,d∈ad->1<=d.1/\d.1<=m
 each:∀d,d∈ad->cH bC fN d/\mj d.2.1 [s9,vC]/\d.2.2.length<=2
theorem XI (N:Nat) {b:List Int} {k:Int} {j:Nat} (h:eh b k j) (P:j<=19000) (G:20<=N):Def (Ef N b k) fun r=>Ld r.1 100/\eh r.2.1 r.2.2 (j+700):=by
 unfold Ef
 refine Def.bind (fT N 6 h (by omega)) fun r ⟨H,v,_,I⟩=>?_
 have v:=v (by omega)
 refine Def.iter (fun g=>∃out:List aF,∃id:Int,∃n:Nat,∃x y,n<=6/\out.length+n<=6/\(0<=id/\id<=4*(6-n))/\Ld out id/\eh x y (j+1+110*(6-n))/\g=(out,id,(n:Int),x,y)) (fun g=>g.2.2.1.toNat) ?_ N _ ⟨[],0,r.1.toNat,_,_,by omega,by simp;omega,by omega,⟨by simp,l9,(fun z i=>by cases i),(fun z i=>by cases i)⟩,I.le (by omega),by rw[qj H]⟩ (by show r.1.toNat<N;omega)
 rintro go _ ⟨out,id,n,x,y,Q,S,hid,o,A,rfl⟩ t
 dsimp only
 refine Def.bO (fun e=>?_) (fun e=>Def.ret ⟨⟨o.c7,o.ids,fun d B=>⟨(o.top d B).1,by have:=(o.top d B).2;omega⟩,o.each⟩,A.le (by omega)⟩)
 refine Def.ite (by unfold fits;omega) ?_
 refine Def.bind (fT N 3 A (by omega)) fun J ⟨T,C,_,K⟩=>?_
 have C:=C (by omega)
 refine Def.ite (by unfold fits;omega) ?_
 refine Def.bind (XG N _ K (by omega) G) fun p ⟨L,u,M⟩=>?_
 refine Def.ite (bW (by simp;omega) (by simp;omega)) (Def.ite (by unfold fits;omega) (t _ ⟨out++ [(p.1,p.2.1,p.2.2.1)],id+1+J.1,n-1,_,_,by omega,?_,by omega,⟨?_,?_,fun z i=>?_,fun z i=>?_⟩,M.le (by omega),?_⟩ ?_))
 .simp only [bh,ba,bH];omega
 .simp only [bh,ba,bH];omega
 .refine List.pairwise_append.2 ⟨o.ids,by simp,fun a O b F=>?_⟩
  rw[du]at F
  subst F
  have:=(o.top a O).2
  show a.1<p.1
  omega
 .rcases cE.1 i with i|i
  .have:=o.top z i;omega
  .rw [du]at i;subst i;dsimp only;omega
 .rcases cE.1 i with i|i
  .exact o.each z i
  .rw [du.1 i];exact⟨u.1.ok (by omega) (by rw[L];omega),u.2.1,u.2.2⟩
 .rw [show((n:Int)-1)=((n-1:Nat):Int)from by omega]
 .show ((n:Int)-1).toNat<(n:Int).toNat
  omega
def SJ (st:List (List UInt8)) (w:List UInt8):Bool:=okW w&&(decide (once w=none)&& !decide (w∈st))
def SI (st:List (List UInt8)) (y:eT):Bool:=(decide ((1:Int)<=y.1.length)&&decide ((y.1.length:Int)<=3))&&(okW y.2&&(decide (once y.2=none)&&y.1.all (SJ st)))
def JO (c:aK):Bool:=decide ((c.1.length:Int)<=6)&&(dL c.1.length (oU c.1)&&(decide ((c.2.length:Int)<=4)&&c.2.all (SI c.1)))
theorem aoQ (c:aK) (h:JO c=true):dQ c=true:=by
 unfold JO at h
 unfold dQ
 simp only[a6,bo,cz]at h⊢
 refine⟨h.1,h.2.1,h.2.2.1,fun y hy=>?_⟩
 have g:=h.2.2.2 y hy
 unfold SI at g
 unfold oT
 simp only[a6,bo,cz]at g⊢
 refine⟨g.1,g.2.1,zg g.2.2.1,fun w hw=>?_⟩
 have i:=g.2.2.2 w hw
 unfold SJ at i
 unfold td
 simp only[a6,bo]at i⊢
 exact⟨i.1,zg i.2.1,i.2.2⟩
def Gh (c:aK):Bool:=decide (c.1.length<=10)&&c.1.all (fun w=>decide (w.length<=20))&&decide (c.2.length<=10)&&c.2.all (fun y=>decide (y.1.length<=10)&&y.1.all (fun w=>decide (w.length<=20))&&decide (y.2.length<=20))
theorem X9 (c:aK) (h:Gh c=true):cH bC gJ c:=by
 unfold Gh at h
 simp only[a6,bo,cz]at h
 obtain⟨⟨⟨p,i⟩,r⟩,j⟩:=h
 refine⟨⟨by show c.1.length<=1048576;omega,fun x g=>by have:=i x g;show x.length<=1048576;omega⟩,⟨by show c.2.length<=1048576;omega,fun y hy=>?_⟩⟩
 have o:=j y hy
 exact⟨⟨by show y.1.length<=1048576;omega,fun x g=>by have:=o.1.2 x g;show x.length<=1048576;omega⟩,by show y.2.length<=1048576;omega⟩
def Ey :List (List (List UInt8)):=[[],[[116,104,101]],[[100,111,103],[116,104,101]]]
def zh :List (List eT):=[[],[([[110,101,119],[121,111,114,107]],[110,121])],[([[98,105,103]],[108,97,114,103]),([[98,105,103],[114,101,100],[102,111,120]],[102,111,120]),([[110,101,119],[121,111,114,107]],[110,121])]]
theorem L0 :∀s,s∈Ey->∀y,y∈zh->JO (s,y)=true/\Gh (s,y)=true:=by decide+kernel
theorem Xe (N:Nat) {b:List Int} {k:Int} {j:Nat} (h:eh b k j) (A:j<=10000):Def (Ed N b k) fun r=>(dQ (r.1,r.2.1)=true/\cH bC gJ (r.1,r.2.1))/\eh r.2.2.1 r.2.2.2 (j+3):=by
 have fin:∀s y,s∈Ey->y∈zh->dQ (s,y)=true/\cH bC gJ (s,y):=fun s y u hy=>⟨aoQ _ (L0 s u y hy).1,X9 _ (L0 s u y hy).2⟩
 unfold Ed
 refine Def.meet (fun g=>∃c x y,c∈Ey/\eh x y (j+1)/\g=(c,x,y)) ?_ fun J i=>?_
 .rintro _ ⟨c,x,y,o,p,rfl⟩
  dsimp only
  refine Def.meet (fun g=>∃c x y,c∈Ey/\eh x y (j+2)/\g=(c,x,y)) ?_ fun J i=>?_
  .rintro _ ⟨c,x,y,o,p,rfl⟩
   dsimp only
   refine Def.bind (fT N 4 p (by omega)) fun B ⟨_,_,_,t⟩=>?_
   refine Def.bO (fun _=>Def.ret ⟨fin _ _ o (by simp[zh]),t⟩) (fun _=>?_)
   exact Def.bO (fun _=>Def.ret ⟨fin _ _ o (by simp[zh]),t⟩) (fun _=>Def.ret ⟨fin _ _ o (by simp[zh]),t⟩)
  .refine Def.bind (fT N 4 p (by omega)) fun C ⟨_,_,_,v⟩=>?_
   exact Def.bO (fun _=>i _ ⟨_,_,_,by decide,v,rfl⟩) (fun _=>i _ ⟨_,_,_,o,v,rfl⟩)
 .refine Def.bind (fT N 3 h (by omega)) fun r ⟨_,_,_,z⟩=>?_
  exact Def.bO (fun _=>i _ ⟨_,_,_,by decide,z,rfl⟩) (fun _=>i _ ⟨_,_,_,by decide,z,rfl⟩)
structure asn (c:aK) (s:cq):Prop where
 LZ:cH bC gJ c
 ad:∀x,x∈s.1->cH bC fN x
 c7:s.1.length<=1048576
def qp (q:aN):Prop:=∀n,ie n q
theorem qp.mk' {k:Int} {f:List UInt8} {ws:List (List UInt8)} {a b:Int} {kids:List aN} (j:f.length<=1000) (o:ws.length<=1000) (g:∀w,w∈ws->w.length<=1000) (p:kids.length<=1000) (h:∀c,c∈kids->qp c):qp (.mk k f ws a b kids)
 |0=>True.intro
 |n+1=>⟨by show f.length<=_;omega,by show ws.length<=_;omega,fun w hw=>by have:=g w hw;omega,by show kids.length<=_;omega,fun c i=>h c i n⟩
theorem yD :([]:List UInt8).length<=100:=by decide
theorem vG :([]:List (List UInt8)).length<=100:=by decide
theorem vF :([]:List aN).length<=100:=by decide
structure Own (q:Int) (f:List UInt8) (ws:List (List UInt8)) (kids:List aN):Prop where
 f:f.length<=100
 n:ws.length<=100
 w:∀w,w∈ws->w.length<=100
 k:kids.length<=100
 c:∀c,c∈kids->qp c
theorem Own.qA {q:Int} {f:List UInt8} {ws:List (List UInt8)} {a b:Int} {kids:List aN} (h:Own q f ws kids):qp (.mk q f ws a b kids):=
 qp.mk' (by have:=h.f;omega) (by have:=h.n;omega) (fun w hw=>by have:=h.w w hw;omega) (by have:=h.k;omega) h.c
theorem Jc (N:Nat) {b:List Int} {k:Int} {j:Nat} (h:eh b k j) (p:j<=200000):Def (vU N) fun i=>Def (mS N i b k) fun r=>r.1.length<=100/\eh r.2.1 r.2.2 (j+1):=by
 unfold vU
 refine Def.ret ?_
 refine Def.mono (vH N (by decide) h (by omega)) fun r ⟨m,o⟩=>⟨?_,o⟩
 have g:∀(l:List (List UInt8)),l.all (fun w=>decide (w.length<=100))=true->∀w,w∈l->w.length<=100:=fun l h w hw=>of_decide_eq_true (cz.1 h w hw)
 exact g _ (by decide) _ m
theorem R2 (N:Nat) {b:List Int} {k:Int} {j:Nat} (h:eh b k j) (O:j<=100000):Def (y4 N b k) fun r=>Own r.1 r.2.1 r.2.2.1 []/\eh r.2.2.2.2.2.1 r.2.2.2.2.2.2 (j+10):=by
 have g:∀c,c∈([]:List aN)->qp c:=fun c F=>by cases F
 unfold y4
 refine Def.bind (vH N (by decide) h (by omega)) fun r ⟨m,G⟩=>?_
 have t:r.1.length<=100:=(by decide:∀w,w∈([([98,111,100,121]:List UInt8),([98,111,100,121]:List UInt8),([116,105,116,108,101]:List UInt8)]:List (List UInt8))->w.length<=100) _ m
 refine Def.bind (fT N 9 G (by omega)) fun P ⟨_,_,_,i⟩=>?_
 refine Def.bO (fun _=>Def.ret ⟨⟨yD,vG,(fun w hw=>by cases hw),vF,g⟩,i.le (by omega)⟩) (fun _=>?_)
 refine Def.bO (fun _=>?_) (fun _=>?_)
 .refine Def.bind (Jc N i (by omega)) fun H d3=>Def.bind d3 fun I ⟨B,v⟩=>?_
  refine Def.bind (Jc N v (by omega)) fun Q d5=>Def.bind d5 fun S ⟨T,J⟩=>?_
  refine Def.bind (fT N 3 J (by omega)) fun U ⟨_,_,_,K⟩=>Def.ret ⟨⟨t,by simp,fun w hw=>?_,vF,g⟩,K.le (by omega)⟩
  simp only[bn,List.mem_nil_iff,or_false]at hw
  rcases hw with e|e<;>rw[e]<;>assumption
 refine Def.bO (fun _=>?_) (fun _=>?_)
 .refine Def.bind (vH N (by decide) i (by omega)) fun u ⟨m8,o⟩=>?_
  have z:u.1.length<=100:=(by decide:∀w,w∈([([99,111,116]:List UInt8),([100,117,103]:List UInt8),([114,110]:List UInt8),([102,111,103]:List UInt8)]:List (List UInt8))->w.length<=100) _ m8
  refine Def.bind (fT N 2 o (by omega)) fun L ⟨M,p,_,A⟩=>?_
  have p:=p (by omega)
  exact Def.ite (by unfold fits;omega) (Def.ret ⟨⟨t,by simp,(fun w hw=>by rw[du.1 hw];exact z),vF,g⟩,A.le (by omega)⟩)
 refine Def.bO (fun _=>?_) (fun _=>?_)
 .refine Def.bind (vH N (by decide) i (by omega)) fun u ⟨m8,o⟩=>?_
  have z:u.1.length<=100:=(by decide:∀w,w∈([([99,42]:List UInt8),([63,111,63]:List UInt8),([42,110]:List UInt8),([42]:List UInt8)]:List (List UInt8))->w.length<=100) _ m8
  exact Def.ret ⟨⟨t,by simp,(fun w hw=>by rw[du.1 hw];exact z),vF,g⟩,o.le (by omega)⟩
 refine Def.bO (fun _=>?_) (fun _=>?_)
 .refine Def.bind (fT N 4 i (by omega)) fun u ⟨M,p,_,o⟩=>?_
  refine Def.bind (fT N 3 o (by omega)) fun L ⟨V,C,_,A⟩=>?_
  have p:=p (by omega)
  have C:=C (by omega)
  exact Def.ite (by unfold fits;omega) (Def.ret ⟨⟨by simp,vG,(fun w hw=>by cases hw),vF,g⟩,A.le (by omega)⟩)
 .refine Def.bind (Jc N i (by omega)) fun H d3=>Def.bind d3 fun I ⟨B,v⟩=>?_
  exact Def.ret ⟨⟨t,by simp,(fun w hw=>by rw[du.1 hw];exact B),vF,g⟩,v.le (by omega)⟩
def mv :Nat->Nat
 |0=>10
 |n+1=>3*mv n+3
theorem FO :∀n,10<=mv n
 |0=>bE _
 |n+1=>by have:=FO n;show 10<=3*mv n+3;omega
theorem tm (N:Nat) (u:20<=N):∀(D deep:Nat),deep<D->∀ {b:List Int} {k:Int} {j:Nat},eh b k j->j+mv deep<=100000->deep<=10->Def (nP N D (deep:Int) b k) fun r=>Own r.1 r.2.1 r.2.2.1 r.2.2.2.2.2.1/\eh r.2.2.2.2.2.2.1 r.2.2.2.2.2.2.2 (j+mv deep)
 |0,_,Q,_,_,_,_,_,_=>absurd Q (pc _)
 |D+1,deep,Q,b,k,j,h,bV,V=>by
  have bU:=FO deep
  rw[nP]
  refine Def.bO (fun e=>?_) (fun e=>?_)
  .exact Def.bind (R2 N h (by omega)) fun r ⟨o,F⟩=>Def.ret ⟨o,F.le (by omega)⟩
  obtain⟨d,rfl⟩:∃d,deep=d+1:=⟨deep-1,by omega⟩
  have W:mv (d+1)=3*mv d+3:=rfl
  have X:=FO d
  have B:((d+1:Nat):Int)-1=(d:Int):=by omega
  refine Def.bind (fT N 3 h (by omega)) fun ll ⟨_,_,_,S⟩=>?_
  refine Def.bO (fun _=>Def.bind (R2 N S (by omega)) fun r ⟨o,F⟩=>Def.ret ⟨o,F.le (by omega)⟩) (fun _=>?_)
  refine Def.bind (fT N 6 S (by omega)) fun nL ⟨_,_,_,C⟩=>?_
  refine Def.bO (fun _=>?_) (fun _=>?_)
  .refine Def.ite (by unfold fits;omega) ?_
   rw[B]
   refine Def.bind (tm N u D d (by omega) C (by omega) (by omega)) fun Y ⟨G,H⟩=>?_
   refine Def.ite (by unfold fits;omega) ?_
   refine Def.bind (tm N u D d (by omega) H (by omega) (by omega)) fun Z ⟨I,K⟩=>?_
   refine Def.ret ⟨⟨yD,vG,(fun w hw=>by cases hw),by simp,fun c i=>?_⟩,K.le (by omega)⟩
   simp only[bn,List.mem_nil_iff,or_false]at i
   rcases i with rfl|rfl
   .exact G.qA
   .exact I.qA
  refine Def.bO (fun _=>?_) (fun _=>?_)
  .refine Def.bind (fT N 4 C (by omega)) fun o3 ⟨oV,v,_,hc⟩=>?_
   have v:=v (by omega)
   refine Def.ite (by unfold fits;omega) (Def.ite (by unfold fits;omega) ?_)
   rw[B]
   refine Def.bind (tm N u D d (by omega) hc (by omega) (by omega)) fun nM ⟨aoL,pD⟩=>?_
   exact Def.ret ⟨⟨yD,vG,(fun w hw=>by cases hw),by simp,(fun c i=>by rw[du.1 i];exact aoL.qA)⟩,pD.le (by omega)⟩
  refine Def.meet (fun g=>∃(t:Bool) (x:List Int) (y:Int),eh x y (j+2)/\g=(((d+1:Nat):Int),t,0,([]:List UInt8),0,0,x,y)) ?_ fun J T=>?_
  .rintro _ ⟨t,x,y,z,rfl⟩
   dsimp only
   refine Def.bif (fun _=>?_) (fun _=>?_)
   .refine Def.ite (by unfold fits;omega) ?_
    rw[B]
    refine Def.bind (tm N u D d (by omega) z (by omega) (by omega)) fun Y ⟨G,H⟩=>?_
    refine Def.ite (by unfold fits;omega) ?_
    refine Def.bind (tm N u D d (by omega) H (by omega) (by omega)) fun Z ⟨I,K⟩=>?_
    refine Def.ret ⟨⟨yD,vG,(fun w hw=>by cases hw),by simp,fun c i=>?_⟩,K.le (by omega)⟩
    simp only[bn,List.mem_nil_iff,or_false]at i
    rcases i with rfl|rfl
    .exact G.qA
    .exact I.qA
   .refine Def.bind (fT N 2 z (by omega)) fun A ⟨oV,v,_,L⟩=>?_
    have v:=v (by omega)
    refine Def.ite (by unfold fits;omega) ?_
    refine Def.iter (fun g=>∃(n:Nat) (kids:List aN) (x:List Int) (y:Int),kids.length+n<=3/\(∀c,c∈kids->qp c)/\eh x y (j+3+(3-n)*mv d)/\g=(((d+1:Nat):Int),(n:Int),0,([]:List UInt8),0,0,8,([]:List UInt8),0,0,kids,x,y)) (fun g=>g.2.1.toNat) ?_ N _
     ⟨(2+A.1).toNat,[],_,_,by simp;omega,(fun c i=>by cases i),L.le (by omega),by rw[qj (by omega)]⟩ (by show(2+A.1).toNat<N;omega)
    rintro go _ ⟨n,kids,x,y,bj,U,z,rfl⟩ M
    dsimp only
    refine Def.bO (fun dr=>?_) (fun dr=>?_)
    .refine Def.ite (by unfold fits;omega) ?_
     rw[B]
     have av:(3-n)*mv d<=2*mv d:=ek _ (by omega)
     refine Def.bind (tm N u D d (by omega) z (by omega) (by omega)) fun p ⟨O,P⟩=>?_
     refine Def.ite (bW (by rw[bS];omega) (by rw[bS];omega)) (Def.ite (by unfold fits;omega) (M _ ⟨n-1,kids++ [aN.mk p.1 p.2.1 p.2.2.1 p.2.2.2.1 p.2.2.2.2.1 p.2.2.2.2.2.1],_,_,by rw[bh,bS];omega,fun c i=>?_,P.le ?_,by rw[show((n:Int)-1)=((n-1:Nat):Int)from by omega]⟩ (by show((n:Int)-1).toNat<((n:Int)).toNat;omega)))
     .rcases cE.1 i with i|i
      .exact U c i
      .rw [du.1 i];exact O.qA
     .have gP:3-(n-1)=(3-n)+1:=by omega
      rw[gP,eE,Nat.one_mul];omega
    .have av:(3-n)*mv d<=3*mv d:=ek _ (by omega)
     exact Def.ret ⟨⟨yD,vG,(fun w hw=>by cases hw),by dsimp only;omega,U⟩,z.le (by omega)⟩
  .exact Def.bO (fun _=>T _ ⟨_,_,_,C,rfl⟩) (fun _=>T _ ⟨_,_,_,C,rfl⟩)
theorem apL (N:Nat) (g:20<=N) {b:List Int} {k:Int} {j:Nat} (h:eh b k j) (i:j<=50000):Def (nP N N 3 b k) fun r=>Own r.1 r.2.1 r.2.2.1 r.2.2.2.2.2.1/\eh r.2.2.2.2.2.2.1 r.2.2.2.2.2.2.2 (j+309):=
 tm N g N 3 (by omega) h (by show j+309<=_;omega) (by omega)
theorem one_def (N:Nat) {l:List Int} {b:List Int} {k:Int} {j:Nat} (u:0<l.length) (h:eh b k j) (g:j<=1000000):Def (y6 N l b k) fun r=>r.1∈l/\eh r.2.1 r.2.2 (j+1):=by
 unfold y6
 refine Def.bind (fT N _ h g) fun r ⟨i,o,_,p⟩=>?_
 exact Def.idx i (o (by omega)) fun x t _=>Def.ret ⟨t,p⟩
structure ub (l:b9):Prop where
 ok:eR l.1.1=true
 num:∀n,n∈l.2-> -9223372036854775808<=n/\n<=9223372036854775807
theorem ub.of {c:aK} {l:b9} (h:gS c l=true):ub l:=⟨rq (tc h).1,fun n g=>by
 unfold gS at h
 simp only[a6]at h
 have:=(qc h.2.1).2.2 n g
 omega⟩
structure hY (N:Nat) (x:b8):Prop where
 fit:dC N x
 c7:x.2.length<=6
 each:∀l,l∈x.2->qt l
 yE:∀l,l∈x.2->ub l
theorem hY.zero {N:Nat} (h:bC<N) (i:N<=16777216):hY N zw:=
 ⟨dC.zero h i,bg _,(fun l g=>by cases g),(fun l g=>by cases g)⟩
theorem hY.of {N:Nat} {x:b8} (h:dC N x) (j:cf x=true):hY N x:=by
 obtain⟨o,p,i,r⟩:=gu j
 exact⟨h,by omega,fun l g=>.of (cz.1 i l g),fun l g=>.of (cz.1 i l g)⟩
theorem XM {N:Nat} {x:b8} (h:dC N x) (id:Int) (hid: -9223372036854775808<=id/\id<=9223372036854775807):hY N (oj id x).1:=by
 have i:=XL h id
 unfold oj at i⊢
 cases o:cf x with
 |false=>exact hY.zero h.cS h.top
 |true=>
  rw[o]at i
  obtain⟨u,v,r,z⟩:=gu o
  rw[ao]at i⊢
  have hlen:=ho (fun l:b9=>decide (l.2.length<l.1.1.length)) (x.2.map (hH id))
  rw[dE]at hlen
  refine⟨i,dS hlen (by omega),fun t g=>?_,fun t g=>?_⟩
  rotate_left
  .obtain ⟨l,j,rfl⟩:=cg.1 (gH.1 g).1
   have p:=ub.of (cz.1 r l j)
   unfold hH
   cases k4 id l with
   |false=>exact p
   |true=>
    refine⟨p.ok,fun n hm=>?_⟩
    rw[ao]at hm
    rcases(Ki id n l.2).1 hm with rfl|hm
    .exact hid
    .exact p.num n hm
  obtain⟨l,j,rfl⟩:=cg.1 (gH.1 g).1
  have he:=qt.of (cz.1 r l j)
  have A:=(Gx id l).1
  have B:=Ag o l j
  exact⟨by rw[AE];exact he.dM,by rw[AE];exact he.small,by omega⟩
theorem Wk {N:Nat} {x:b8} (h:dC N x) {ad:List aF} (gE:∀d,d∈ad->cH bC fN d):hY N (n8 ad x).1:=by
 have g:=Wj h gE
 unfold n8 at g⊢
 cases i:cf x with
 |false=>exact hY.zero h.cS h.top
 |true=>
  rw[i]at g
  rw[ao]at g⊢
  cases j:eR ad&&decide (0<ad.length)with
  |false=>exact hY.of h i
  |true=>
   rw[j]at g
   rw[ao]at g⊢
   cases hy:cf (iE ad x)with
   |false=>exact hY.of h i
   |true=>
    rw[hy]at g
    exact hY.of g hy
theorem aop {N:Nat} {x:b8} (h:dC N x) (at':Int):hY N (oQ at' x).1:=by
 have j:=aoo h at'
 unfold oQ at j⊢
 cases r:cf x with
 |false=>exact hY.zero h.cS h.top
 |true=>
  rw[r]at j
  rw[ao]at j⊢
  cases t:decide (0<=at')&&decide (at'<=(x.2.length:Int)-2)with
  |false=>exact hY.of h r
  |true=>
   rw[t]at j
   rw[ao]at j⊢
   obtain⟨z,A,p,u⟩:=gu r
   generalize at'.toNat=k at*
   have o:((x.2.take (k+2)).drop k).Sublist x.2:=(List.drop_sublist _ _).trans (tQ _ _)
   have i:eR (nB k x)=true:=JS u (Fo o)
   refine⟨j,?_,fun v g=>?_,fun v g=>?_⟩
   rotate_right
   .rcases cE.1 g with g|g
    .rcases cE.1 g with g|g
     .exact ub.of (cz.1 p _ (fC g))
     .rw [du]at g
      subst g
      exact⟨i,fun n h=>by cases h⟩
    .exact ub.of (cz.1 p _ (qi g))
   .show (x.2.take k++ [((nB k x,eu x.1 (nB k x)),([]:List Int))]++x.2.drop (k+2)).length<=_
    simp only[bh,bN,bS,eF]
    omega
   .rcases cE.1 g with g|g
    .rcases cE.1 g with g|g
     .exact qt.of (cz.1 p _ (fC g))
     .rw [du]at g
      subst g
      exact⟨lh i,w6 x.1 (lh i),bg _⟩
    .exact qt.of (cz.1 p _ (qi g))
theorem aa9 {N:Nat} (i:bC<N) (j:N<=16777216) (c:aK) (c8:cH bC gJ c):Def (yZ N c.1 c.2) fun r=>hY N (r,[]):=
 (aa8 i j c c8).mono fun r h=>⟨h,bg _,(fun l g=>by cases g),(fun l g=>by cases g)⟩
theorem XK (N:Nat) (t:bC<N) (G:N<=16777216) {b:List Int} {k:Int} {j:Nat} (h:eh b k j) (V:j<=10):Def (Eg N b k) fun r=>hY N ((r.1,r.2.1),r.2.2.1)/\eh r.2.2.2.1 r.2.2.2.2 7000:=by
 have H:1048576<N:=t
 unfold Eg
 refine Def.bind (Xe N h (by omega)) fun r ⟨⟨_,c8⟩,I⟩=>?_
 refine Def.bind (aa9 t G (r.1,r.2.1) c8) fun u J=>?_
 refine Def.bind (fT N 7 I (by omega)) fun v ⟨K,A,_,L⟩=>?_
 have A:=A (by omega)
 refine Def.iter (fun g=>∃(n:Nat) (x:b8) (y:List Int) (z:Int),n<=6/\hY N x/\eh y z (j+10+900*(6-n))/\g=((n:Int),x.1.1,x.1.2,x.2,y,z)) (fun g=>g.1.toNat) ?_ N _ ⟨v.1.toNat,((u.1,u.2),[]),_,_,by omega,J,L.le (by omega),by rw[qj K]⟩ (by show v.1.toNat<N;omega)
 rintro go _ ⟨n,x,y,z,W,F,B,rfl⟩ o
 dsimp only
 refine Def.bO (fun e=>?_) (fun e=>Def.ret ⟨F,B.le (by omega)⟩)
 refine Def.bind (fT N 5 B (by omega)) fun X ⟨Y,Z,_,p⟩=>?_
 have i:((n:Int)-1)=((n-1:Nat):Int):=by omega
 refine Def.bO (fun _=>?_) (fun _=>Def.bO (fun _=>?_) (fun _=>?_))
 .refine Def.bind (fT N 8 p (by omega)) fun M ⟨O,s1,_,P⟩=>?_
  have s1:=s1 (by omega)
  refine Def.ite (by unfold fits;omega) ?_
  rw[aa4 F.fit,ag]
  refine Def.ite (by unfold fits;omega) (o _ ⟨n-1,(oj (1+M.1) x).1,_,_,by omega,XM F.fit _ (by omega),P.le (by omega),by dsimp only;rw[i]⟩ (by show((n:Int)-1).toNat<(n:Int).toNat;omega))
 .refine Def.bind (fT N 3 p (by omega)) fun Q ⟨O,s1,_,S⟩=>?_
  rw[aa6 F.fit,ag]
  refine Def.ite (by unfold fits;omega) (o _ ⟨n-1,(oQ Q.1 x).1,_,_,by omega,aop F.fit _,S.le (by omega),by dsimp only;rw[i]⟩ (by show((n:Int)-1).toNat<(n:Int).toNat;omega))
 .refine Def.bind (XI N p (by omega) (by omega)) fun C ⟨wZ,T⟩=>?_
  have gE:∀d,d∈C.1->cH bC fN d:=fun d U=>(wZ.each d U).1
  rw[Wg F.fit gE (by have:=wZ.c7;omega),ag]
  refine Def.ite (by unfold fits;omega) (o _ ⟨n-1,(n8 C.1 x).1,_,_,by omega,Wk F.fit gE,T.le (by omega),by dsimp only;rw[i]⟩ (by show((n:Int)-1).toNat<(n:Int).toNat;omega))
theorem hY.copy {N:Nat} {x:b8} (h:hY N x):mR N x.1.1 x.1.2 x.2=some (x.1.1,x.1.2,x.2):=
 Ab N x (.of h.fit.cS h.fit.c8) (by have:=h.c7;omega) h.each
theorem Ua {α:Type} {l:List α} {n:Nat} {a x:α} (h:x∈l.set n a):x=a\/x∈l:=by
 rcases List.mem_or_eq_of_mem_set h with h|h
 .exact .inr h
 .exact .inl h
theorem hY.WB {N:Nat} {x:b8} (h:hY N x) {l:b9} (g:l∈x.2):(∀d,d∈l.1.1->cH bC fN d)/\l.1.1.length<=1048576/\l.2.length<=1000:=
 ⟨(h.fit.each l g).1,(h.fit.each l g).2.1,(h.each l g).dead⟩
theorem Ws (N:Nat) (v:bC<N) (z:N<=16777216) {b:List Int} {k:Int} {j:Nat} (h:eh b k j) (J:j<=10):Def (Ec N b k) fun r=>dC N ((r.1,r.2.1),r.2.2.1)/\eh r.2.2.2.1 r.2.2.2.2 7010:=by
 unfold Ec
 refine Def.bind (XK N v z h J) fun r ⟨F,G⟩=>?_
 have o:=F.fit
 have H:=F.copy
 dsimp only at H
 rw[H,ag]
 dsimp only
 have u:=F.c7
 dsimp only at u
 refine Def.bO (fun e=>?_) (fun e=>Def.ret ⟨o,G.le (by omega)⟩)
 refine Def.bind (fT N _ G (by omega)) fun I ⟨O,A,_,K⟩=>?_
 have A:=A (by omega)
 refine Def.bind (fT N 16 K (by omega)) fun P ⟨_,_,_,B⟩=>?_
 obtain⟨n,L⟩:∃n:Nat,I.1=(n:Int):=⟨I.1.toNat,by omega⟩
 rw[L]at A⊢
 have p:n<r.2.2.1.length:=by omega
 have C:=F.WB (br p)
 have Q:=(F.each _ (br p)).small.1
 have t:r.2.2.1[((n:Int)).toNat]? =some r.2.2.1[n]:=by rw[eg];exact bG p
 have i:(0:Int)<=(n:Int)/\(n:Int)<r.2.2.1.length:=⟨by omega,A⟩
 refine Def.bO (fun _=>?_) (fun _=>Def.bO (fun _=>?_) (fun _=>Def.bO (fun _=>?_) (fun _=>Def.ret ⟨o,B.le (by omega)⟩)))
 .rw [t,ag,ai i,ag,ai rfl]
  refine Def.bind (one_def N (by decide) B (by omega)) fun S ⟨_,M⟩=>?_
  refine Def.ite (bW (by rw[bS];omega) (by rw[bS];omega)) ?_
  rw[ai i,ai rfl,ag]
  refine Def.ret ⟨⟨v,z,o.c8,by dsimp only;rw[pb];omega,fun l g=>?_⟩,M.le (by omega)⟩
  rcases Ua g with rfl|g
  .exact ⟨C.1,C.2.1,by dsimp only;rw[bh,bS];omega⟩
  .exact o.each l g
 .rw [ai i,t,ag]
  refine Def.ite (bW (by rw[bS];omega) (by rw[bS];omega)) ?_
  refine Def.ret ⟨⟨v,z,o.c8,by dsimp only;rw[bh,bS];omega,fun l g=>?_⟩,B.le (by omega)⟩
  rcases cE.1 g with g|g
  .exact o.each l g
  .rw [du.1 g]
   exact o.each _ (br p)
 .rw [t,ag,ai i,ag,ai rfl]
  refine Def.ite (bW (by rw[bS];omega) (by rw[bS];omega)) ?_
  rw[ai i,ai rfl,ag]
  refine Def.ret ⟨⟨v,z,o.c8,by dsimp only;rw[pb];omega,fun l g=>?_⟩,B.le (by omega)⟩
  rcases Ua g with rfl|g
  .exact ⟨C.1,C.2.1,by dsimp only;omega⟩
  .exact o.each l g
theorem XJ (N:Nat) (g:bC<N) (h:N<=16777216) {code:List Int} (i:qs code):Def (D0 N code) fun r=>dC N ((r.1,r.2.1),r.2.2.1)/\ie 4 (.mk r.2.2.2.1 r.2.2.2.2.1 r.2.2.2.2.2.1 r.2.2.2.2.2.2.1 r.2.2.2.2.2.2.2.1 r.2.2.2.2.2.2.2.2.1)/\r.2.2.2.2.2.2.2.2.2<=16:=by
 have j:1048576<N:=g
 unfold D0
 refine Def.bind (ao0 N i) fun r o=>?_
 refine Def.bind (Ws N g h o (by omega)) fun v ⟨F,p⟩=>?_
 refine Def.bind (apL N (by omega) p (by omega)) fun z ⟨t,u⟩=>?_
 refine Def.bind (one_def N (by decide) u (by omega)) fun A ⟨hm,_⟩=>?_
 refine Def.ret ⟨F,t.qA 4,?_⟩
 simp only[bn,List.not_mem_nil,or_false]at hm
 dsimp only
 omega
end Go.Proofs.YtnkagklajgimlaaGreatDoor
