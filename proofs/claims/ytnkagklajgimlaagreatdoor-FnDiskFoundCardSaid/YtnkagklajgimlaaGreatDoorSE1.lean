
import Derived.Test.YtnkagklajgimlaaGreatDoorSC1
import Derived.Test.YtnkagklajgimlaaGreatDoorSD1
import Derived.Test.YtnkagklajgimlaaGreatDoorP1
set_option linter.unusedVariables false
set_option linter.unusedSimpArgs false
namespace Go.Proofs.YtnkagklajgimlaaGreatDoor
open Go.RowKit
def iz (l:List aC) (d:aC):List aC:=match l with
 | []=>[d]
 |x::r=>if x.1<d.1 then x::iz r d else d::x::r
theorem Cq (d:aC):∀l,(iz l d).Perm (d::l)
 | []=>List.Perm.refl _
 |x::r=>by
  unfold iz
  split
  .exact ((Cq d r).cons x).trans (List.Perm.swap d x r)
  .exact List.Perm.refl _
theorem NG (d:aC):∀l,(l.Pairwise fun a b=>a.1<=b.1)->(iz l d).Pairwise fun a b=>a.1<=b.1
 | [],_=>by simp[iz]
 |x::r,h=>by
  rw[ez]at h
  unfold iz
  split
  .rename_i g
   rw[ez]
   refine⟨fun y hy=>?_,NG d r h.2⟩
   rcases bm.1 ((Cq d r).mem_iff.1 hy)with rfl|hy
   .omega
   .exact h.1 y hy
  .rename_i g
   rw[ez,ez]
   refine⟨fun y hy=>?_,h⟩
   rcases bm.1 hy with rfl|hy
   .omega
   .have:=h.1 y hy;omega
def hS (l:List aC):List aC:=l.foldl iz []
theorem Ge :∀(l acc:List aC),(acc.Pairwise fun a b=>a.1<=b.1)->(l.foldl iz acc).Perm (acc++l)/\(l.foldl iz acc).Pairwise fun a b=>a.1<=b.1
 | [],acc,h=>⟨by simp,h⟩
 |d::l,acc,h=>by
  rw[eR]
  obtain⟨g,i⟩:=Ge l (iz acc d) (NG d acc h)
  refine⟨g.trans ?_,i⟩
  refine((Cq d acc).append_right l).trans ?_
  rw[jZ]
  exact List.perm_middle.symm
theorem sx (l:List aC):(hS l).Perm l:=by
 have:=(Ge l [] lC).1
 rwa[fj]at this
theorem C3 (l:List aC):(hS l).Pairwise fun a b=>a.1<=b.1:=(Ge l [] lC).2
theorem En {R S:List aC} (i:R.Perm S) (p:R.Pairwise fun a b=>a.1<=b.1) (j:S.Pairwise fun a b=>a.1<=b.1) (h:eM R=true):R=S:=by
 have hi:=(l9 h).gB.ids
 have g:S.Pairwise fun a b=>a.1≠b.1:=(i.pairwise_iff (fun {x y} h=>fun e=>h e.symm)).1 (hi.imp fun h e=>by omega)
 have o:S.Pairwise fun a b=>a.1<b.1:=(j.and g).imp fun {a b} h=>by have:=h.1;have:=h.2;omega
 exact C4 (fun a b:aC=>decide (a.1<b.1)) (fun a=>by simp) (fun a b c h k=>by rw[bz]at*;omega) R S (hi.imp fun h=>by rw[bz];exact h) (o.imp fun h=>by rw[bz];exact h) fun x=>i.mem_iff
theorem KK {R S:List aC} (h:R.Perm S) (i:R.Pairwise fun a b=>a.1<=b.1) (j:S.Pairwise fun a b=>a.1<=b.1):eM R=eM S:=by
 cases g:eM R with
 |true=>rw[<-En h i j g,g]
 |false=>
  cases o:eM S with
  |false=>rfl
  |true=>rw[<-En h.symm j i o,o]at g;cases g
abbrev b0 :Type:=cB×List Int
abbrev ca :Type:=aL×List b0
def alive (l:b0):List aC:=l.1.1.filter fun d=> !decide (d.1∈l.2)
def fa (ls:List b0):List aC:=ls.flatMap alive
theorem acC (l:b0) (hi:l.1.1.Pairwise fun a b=>a.1<b.1) (g:l.2.Nodup) (j:∀n,n∈l.2->∃d,d∈l.1.1/\d.1=n):(alive l).length+l.2.length=l.1.1.length:=by
 have o:(l.1.1.filter fun d=>decide (d.1∈l.2)).length=l.2.length:=by
  have r:((l.1.1.filter fun d=>decide (d.1∈l.2)).map (·.1)).Perm l.2:=by
   refine(List.perm_ext_iff_of_nodup ?_ g).2 fun n=>?_
   .have:((l.1.1.map (·.1))).Nodup:=by
     refine qU.2 (hi.imp fun h e=>?_)
     have:=h;omega
    exact List.Nodup.sublist (List.filter_sublist.map _) this
   .rw [cd]
    constructor
    .rintro ⟨d,g,rfl⟩
     exact of_decide_eq_true (hp.1 g).2
    .intro i
     obtain⟨d,g,rfl⟩:=j n i
     exact⟨d,hp.2 ⟨g,aq i⟩,rfl⟩
  rw[<-r.length_eq,dX]
 unfold alive
 rw[<-o]
 have:∀(xs:List aC) (p:aC->Bool),(xs.filter fun d=> !p d).length+(xs.filter p).length=xs.length:=by
  intro xs p
  induction xs with
  |nil=>rfl
  |cons x xs t=>
   rw[iX,iX,aZ]
   cases p x<;>simp<;>omega
 exact this l.1.1 _
theorem acw {l:List Int} {a:Int} {n:Nat} (i:n<l.length) (h:a∉l.take n) (e:¬a=l[n]):a∉l.take (n+1):=by
 rw[ec i,cp,c1]
 rintro(g|g)
 .exact h g
 .exact e g
theorem acp (N:Nat) (l:List Int) (a:Int) (h:l.length<N) (p:N<=1099511627776):Def (Ay N l a) fun r=>(r=-1/\a∉l)\/ ∃j:Nat,r=(j:Int)/\j<l.length/\l[j]? =some a/\a∉l.take j:=by
 unfold Ay
 refine Def.upto l.length (fun n g=>a∉l.take n/\g=(l,a,(l.length:Int),(n:Int))) ?_ ?_ N 0 _ (bg _) ⟨by simp,rfl⟩ (by omega)
 .rintro go _ ⟨hm,rfl⟩
  dsimp only
  rw[ak (bp _),aj]
  rw[cl]at hm
  exact Def.ret (.inl ⟨rfl,hm⟩)
 .rintro go n _ i ⟨hm,rfl⟩ o
  dsimp only
  rw[aq (by omega:(n:Int)<l.length),ao,aO i,af]
  refine Def.bL (fun e=>Def.ret (.inr ⟨n,rfl,i,by rw[bH i,e],hm⟩)) (fun e=>?_)
  exact Def.ite (aN (n:=n) (by omega)) (o _ ⟨acw i hm e,by rw[aR]⟩)
theorem acH (N:Nat) (l:List Int) (n:Int) (h:l.length<N) (i:N<=1099511627776):Av N l n=some (decide (n∈l)):=by
 obtain⟨r,o,p⟩:=acp N l n h i
 unfold Av
 rw[o,af]
 rcases p with⟨rfl,t⟩|⟨j,rfl,g,he,_⟩
 .rw [ak t];rfl
 .have hm:n∈l:=by
   rw[bH g]at he
   have e:=Option.some.inj he
   exact e▸bA g
  rw[aq hm,aq (by omega)]
theorem PV (N:Nat) (l:List Int) (n:Int) (h:l.length<N) (o:N<=1099511627776):Aw N l n=some (decide (n∈l)):=by
 unfold Aw
 refine(dB _ l.length (fun k=>(l,n,(k:Int))) (fun k=>some (decide (n∈l.drop k))) (fun go=>?_) (fun go k i g=>?_) N 0 (bg _) (by omega)).trans (by simp)
 .dsimp only
  rw[ak (bp _),aj]
  simp
 .dsimp only
  rw[aq (by omega:(k:Int)<l.length),ao,aO i,af,fC i]
  by_cases e:l[k]=n
  .rw [aq e,ao,e];simp
  .rw [ak e,aj,ai (aN (n:=k) (by omega))]
   simp only[aR]at g
   rw[g]
   have j:¬n=l[k]:=fun h=>e h.symm
   simp only[bm,j,false_or]
theorem JV (l:b0) {n:Nat} (h:n<l.1.1.length):(l.1.1.take (n+1)).filter (fun d=> !decide (d.1∈l.2))=bif decide (l.1.1[n].1∈l.2)then(l.1.1.take n).filter (fun d=> !decide (d.1∈l.2))else(l.1.1.take n).filter (fun d=> !decide (d.1∈l.2))++ [l.1.1[n]]:=by
 rw[ec h,kV]
 cases e:decide (l.1.1[n].1∈l.2)<;>simp[iX,e]
theorem JU (N:Nat) (j:1048576<N) (o:N<=16777216) (l:b0) (p:l.1.1.length<=1000) (r:l.2.length<=1000):wY N l.1.1 l.1.2 l.2=some (alive l):=by
 unfold wY alive
 refine(dB _ l.1.1.length (fun n=>((l.1.1.take n).filter (fun d=> !decide (d.1∈l.2)),l.1.1,(l.1.1.length:Int),(n:Int),l.1.1,l.1.2,l.2)) (fun n=>some (l.1.1.filter fun d=> !decide (d.1∈l.2))) (fun go=>?_) (fun go n h g=>?_) N 0 (bg _) (by omega)).trans rfl
 .dsimp only
  rw[ak (bp _),aj,cl]
 .dsimp only
  have i:((l.1.1.take n).filter (fun d=> !decide (d.1∈l.2))).length<=1000:=dK (hK _ _) (by rw[bX];omega)
  simp only[aR,JV l h]at g
  generalize(l.1.1.take n).filter (fun d=> !decide (d.1∈l.2))=out at*
  rw[aq (by omega:(n:Int)<l.1.1.length),ao,aO h,af,acH N _ _ (by omega) (by omega),af,ai (b5 (by rw[bS];omega) (by rw[bS];omega)),<-g]
  simp only[ai (aN (n:=n) (by omega))]
  cases decide (l.1.1[n].1∈l.2)<;>rfl
def gG (c:aL) (l:b0):Bool:=hh c l.1&&(hF l.2&&(decide (l.2.length<l.1.1.length)&&l.2.all fun n=>(e2 l.1.1 n).isSome))
theorem Qy (c:aL) (l:b0):(hh c l.1&&(hF l.2&&((l.2.all fun n=>(e2 l.1.1 n).isSome)&&decide (0<(alive l).length))))=gG c l:=by
 unfold gG
 cases j:hh c l.1 with
 |false=>rfl
 |true=>
  cases hu:hF l.2 with
  |false=>rfl
  |true=>
   cases o:l.2.all fun n=>(e2 l.1.1 n).isSome with
   |false=>simp
   |true=>
    have hi:=(iy j).2.1.gB.ids
    have p:l.2.Nodup:=by
     have:=(pz hu).1
     exact this.imp fun h e=>by have:=h;omega
    have:=acC l hi p fun n r=>by
     have i:=cA.1 o n r
     cases g:e2 l.1.1 n with
     |none=>rw[g]at i;cases i
     |some d=>exact⟨d,El g⟩
    rw[ck,fX]
    congr 2
    rw[np,bz,bz]
    omega
theorem KC {i:Type} (ad:List aC) (xs:List Int) (N:Nat) (j:xs.length<N) (F:(i->Option Bool)->i->Option Bool) (st:Nat->i) (fin:Option Bool) (h:∀go,F go (st xs.length)=fin)
  (g:∀go n (o:n<xs.length),F go (st n)=bif(e2 ad xs[n]).isSome then go (st (n+1))else some false):iter F N (st 0)=bif xs.all (fun n=>(e2 ad n).isSome)then fin else some false:=
 nA F xs st (fun n=>(e2 ad n).isSome) (some false) fin h g N j
theorem akj (N:Nat) (g:bF<N) (h:N<=16777216) (c:aL) (cV:cz bF gm c) (l:b0) (gu:∀x,x∈l.1.1->cz bF fE x) (o:l.1.1.length<=1048576) (p:l.2.length<=1048576):Ax N c.1 c.2 l.1.1 l.1.2 l.2=some (gG c l):=by
 have i:1048576<N:=g
 rw[<-Qy]
 unfold Ax
 rw[RI N g h c cV l.1 gu o,af,Nr N g (by omega) l.2 p,af]
 cases r:hh c l.1 with
 |false=>rfl
 |true=>
  cases hu:hF l.2 with
  |false=>rfl
  |true=>
   have v:=(iy r).2.1.cS
   have t:=(pz hu).2.1
   simp only[bn,aj,ck]
   refine(KC l.1.1 l.2 N (by omega) _ (fun n=>(l.2,(l.2.length:Int),(n:Int),l.1.1,l.1.2,l.2)) (some (decide (0<(alive l).length))) (fun go=>?_) (fun go n u=>?_)).trans ?_
   .dsimp only
    rw[ak (bp _),aj,JU N i h l (by omega) (by omega),af]
    congr 1
    rw[np,bz,bz]
    omega
   .dsimp only
    have j:=RG N l.1 l.2[n] (by omega) h
    rw[aq (by omega:(n:Int)<l.2.length),ao,aO u,af]
    rw[show((l.1.1,l.1.2):cB)=l.1 from rfl,j,af,ai (aN (n:=n) (by omega)),aR]
    cases e2 l.1.1 l.2[n]<;>rfl
   .cases l.2.all fun n=>(e2 l.1.1 n).isSome<;>rfl
structure DK (d:aC):Prop where
 f:d.2.1.length<=3
 a:d.2.2.length<=3
theorem vL {α:Type} (xs:List α) (n:Nat) (h:n<=xs.length):cut xs 0 (n:Int)=some (xs.take n):=by
 unfold cut
 rw[ai ⟨by omega,by omega,by omega⟩]
 simp
theorem yX {α:Type} (xs:List α) (n:Nat) (h:n<=xs.length):cut xs (n:Int) (xs.length:Int)=some (xs.drop n):=by
 unfold cut
 rw[ai ⟨by omega,by omega,by omega⟩]
 simp
theorem Q1 (d:aC):∀(l:List aC) (n:Nat),n<=l.length->(∀x,x∈l.take n->x.1<d.1)->(∀h:n<l.length,¬l[n].1<d.1)->iz l d=l.take n++ [d]++l.drop n
 | [],n,h,_,_=>by simp at h;subst h;rfl
 |x::r,0,_,_,g=>by
  have:=g (by simp)
  unfold iz
  rw[aA (by simpa using this)]
  rfl
 |x::r,n+1,h,i,g=>by
  have j:=i x (by rw[sP];simp)
  unfold iz
  rw[ai j,Q1 d r n (by simpa using h) (fun y hy=>i y (by rw[sP];simp[hy])) (fun o=>by
   have:=g (by simp;omega)
   simpa using this)]
  rfl
theorem alm (N:Nat) (z:1048576<N) (l:List aC) (d:aC) (t:DK d) (A:l.length<=1000):CF N l d.1 d.2.1 d.2.2=some (iz l d):=by
 refine Def.get ?_
 unfold CF
 have stop:∀n:Nat,n<=l.length->(∀x,x∈l.take n->x.1<d.1)->(∀h:n<l.length,¬l[n].1<d.1)->Def (Option.bind (cut l 0 (n:Int)) fun y=>if room ([]:List aC).length y.length 56 then Option.bind (qO N d.1 d.2.1 d.2.2) fun r=>if room (([]:List aC)++y).length ([r]:List aC).length 56 then Option.bind (cut l (n:Int) (l.length:Int)) fun u=>if room ((([]:List aC)++y)++([r]:List aC)).length u.length 56 then some (((([]:List aC)++y)++([r]:List aC))++u)else none else none else none) fun r=>r=iz l d:=fun n i j v=>by
  rw[vL l n i,af,ai (b5 (by rw[bX];simp;omega) (by rw[bX];simp;omega)),HB N d t.f t.a,af,
   ai (b5 (by rw[a1,bX,bS];simp;omega) (by rw[a1,bX,bS];simp;omega)),yX l n i,af,
   ai (b5 (by simp only[a1,bX,bS,eY,bE];omega) (by simp only[a1,bX,bS,eY,bE];omega))]
  exact Def.ret (by rw[Q1 d l n i j v,fj])
 refine Def.upto l.length (fun n g=>(∀x,x∈l.take n->x.1<d.1)/\g=(l,(n:Int),d.1,d.2.1,d.2.2)) ?_ ?_ N 0 _ (bg _) ⟨fun x o=>by simp at o,rfl⟩ (by omega)
 .rintro go _ ⟨j,rfl⟩
  dsimp only
  rw[ak (bp _),aj]
  exact stop l.length (bC _) j fun h=>absurd h (Nat.lt_irrefl _)
 .rintro go n _ i ⟨j,rfl⟩ p
  dsimp only
  rw[aq (by omega:(n:Int)<l.length),ao,aO i,af]
  refine Def.bL (fun e=>Def.ite (aN (n:=n) (by omega)) (p _ ⟨fun x o=>?_,by rw[aR]⟩)) (fun e=>stop n (by omega) j fun _=>e)
  rw[ec i,cp,c1]at o
  rcases o with o|rfl
  .exact j x o
  .exact e
theorem alk (l:List aC) (d:aC):(iz l d).length=l.length+1:=(Cq d l).length_eq
theorem VR (l acc:List aC):(l.foldl iz acc).length=acc.length+l.length:=by
 induction l generalizing acc with
 |nil=>rfl
 |cons d l g=>rw[eR,g,alk,aZ];omega
structure pO (ls:List b0):Prop where
 cS:ls.length<=5
 ad:∀l,l∈ls->l.1.1.length<=16/\l.2.length<=60/\∀d,d∈l.1.1->DK d
theorem pO.len {ls:List b0} (h:pO ls) (n:Nat):(fa (ls.take n)).length<=80:=by
 have key:∀L:List b0,(∀l,l∈L->l.1.1.length<=16)->(fa L).length<=16*L.length:=by
  intro L
  induction L with
  |nil=>intro _;exact bg _
  |cons a L j=>
   intro i
   have o:=i a (by simp)
   have p:=j fun l g=>i l (by simp[g])
   have r:(alive a).length<=a.1.1.length:=hK _ _
   unfold fa at*
   rw[lG,a1,aZ]
   omega
 have:=key (ls.take n) fun l g=>(h.ad l (fK g)).1
 have:=h.cS
 rw[bX]at*
 omega
theorem KL (N:Nat) (z:1048576<N) (A:N<=16777216) (c:aL) (ls:List b0) (h:pO ls):xS N c.1 c.2 ls=some (hS (fa ls)):=by
 have u:=h.cS
 refine Def.get ?_
 unfold xS
 refine Def.upto ls.length (fun n g=>g=(hS (fa (ls.take n)),(n:Int),c.1,c.2,ls)) ?_ ?_ N 0 _ (bg _) rfl (by omega)
 .rintro go _ rfl
  dsimp only
  rw[ak (bp _),aj,cl]
  exact Def.ret rfl
 .rintro go n _ o rfl p
  dsimp only
  have hm:=bA o
  obtain⟨ej,ba,e0⟩:=h.ad _ hm
  have hlen:=h.len n
  rw[aq (by omega:(n:Int)<ls.length),ao]
  refine Def.upto ls[n].1.1.length (fun k g=>g=(((ls[n].1.1.take k).filter (fun d=> !decide (d.1∈ls[n].2))).foldl iz (hS (fa (ls.take n))),(n:Int),(k:Int),c.1,c.2,ls)) ?_ ?_ N 0 _ (bg _) rfl (by omega)
  .rintro go2 _ rfl
   dsimp only
   rw[aO o,af,ak (bp _),aj]
   refine Def.ite (aN (n:=n) (by omega)) (p _ ?_)
   rw[cl,ec o,aR]
   unfold fa hS
   rw[List.flatMap_append,hU]
   simp[alive]
  .rintro go2 k _ r rfl j
   dsimp only
   have fQ:(((ls[n].1.1.take k).filter (fun d=> !decide (d.1∈ls[n].2))).foldl iz (hS (fa (ls.take n)))).length<=200:=by
    rw[VR,(sx _).length_eq]
    have:=hK (fun d:aC=> !decide (d.1∈ls[n].2)) (ls[n].1.1.take k)
    rw[bX]at this
    omega
   have t:ss N ls[n].1.1 ls[n].1.2 ls[n].2 ls[n].1.1[k].1=some (decide (ls[n].1.1[k].1∈ls[n].2)):=by
    unfold ss
    rw[PV N _ _ (by omega) (by omega),af]
   rw[aO o,af,aq (by omega:(k:Int)<ls[n].1.1.length),ao,af,aO r,af,af,t,af]
   have i:=JV ls[n] r
   cases v:decide (ls[n].1.1[k].1∈ls[n].2)with
   |true=>
    rw[v,ao]at i
    rw[bn,aj]
    exact Def.ite (aN (n:=k) (by omega)) (j _ (by rw[i,aR]))
   |false=>
    rw[v,aj]at i
    rw[dt,ao,alm N z _ _ (e0 _ (bA r)) (by omega),af]
    exact Def.ite (aN (n:=k) (by omega)) (j _ (by rw[i,aR,hU];rfl))
theorem Kj {α o ρ:Type} (F:(o->Option ρ)->o->Option ρ) (xs:List α) (st:Nat->o) (P:α->Bool) (no fin:Option ρ) (i:xs.all P=true->∀go,F go (st xs.length)=fin)
  (g:∀go n (u:n<xs.length),F go (st n)=bif P xs[n]then go (st (n+1))else no) (N:Nat) (h:xs.length<N):iter F N (st 0)=bif xs.all P then fin else no:=by
 cases j:xs.all P with
 |true=>
  rw[nA F xs st P no fin (i j) g N h,j]
 |false=>
  rw[aj]
  refine EB F xs st P no g N 0 (by omega) ?_
  rw[List.all_eq_false]at j
  obtain⟨a,p,r⟩:=j
  obtain⟨k,t,rfl⟩:=fe.1 p
  exact⟨k,t,bg _,by simpa using r⟩
structure ea (N:Nat) (x:ca):Prop where
 dk:bF<N
 top:N<=16777216
 cV:cz bF gm x.1
 len:x.2.length<=1048576
 each:∀l,l∈x.2->(∀d,d∈l.1.1->cz bF fE d)/\l.1.1.length<=1048576/\l.2.length<=1048576
theorem sc {c:aL} {l:b0} (h:gG c l=true):hh c l.1=true/\l.1.1.length<=16/\l.2.length<=60/\∀d,d∈l.1.1->DK d:=by
 unfold gG at h
 rw[bk,bk]at h
 have g:=(iy h.1).2.1
 exact⟨h.1,g.cS,(pz h.2.1).2.1,fun d hm=>⟨(g.each d hm).1,(g.each d hm).2.1⟩⟩
theorem si {c:aL} {ls:List b0} (g:ls.length<=5) (h:(ls.all (gG c))=true):pO ls:=
 ⟨g,fun l i=>by
  obtain⟨_,j,o,p⟩:=sc (cA.1 h l i)
  exact⟨j,o,p⟩⟩
def ct (x:ca):Bool:=dQ x.1&&(decide ((x.2.length:Int)<=5)&&(x.2.all (gG x.1)&&eM (hS (fa x.2))))
theorem gg {x:ca} (h:ct x=true):dQ x.1=true/\x.2.length<=5/\(x.2.all (gG x.1))=true/\eM (hS (fa x.2))=true:=by
 unfold ct at h
 rw[bk,bk,bk,bz]at h
 exact⟨h.1,by omega,h.2.2.1,h.2.2.2⟩
theorem TS {ls:List b0} {P:aC->Prop} (h:∀l,l∈ls->∀d,d∈l.1.1->P d):∀d,d∈fa ls->P d:=fun d g=>by
 unfold fa alive at g
 rw[iY]at g
 obtain⟨l,i,g⟩:=g
 exact h l i d (hp.1 g).1
theorem x3 {ls:List b0} {P:aC->Prop} (h:∀l,l∈ls->∀d,d∈l.1.1->P d):∀d,d∈hS (fa ls)->P d:=fun d g=>TS h d ((sx _).mem_iff.1 g)
theorem x4 {ls:List b0} (h:pO ls):(hS (fa ls)).length<=80:=by
 rw[(sx _).length_eq]
 have:=h.len ls.length
 rwa[cl]at this
theorem xo {N:Nat} {x:ca} (h:ea N x):qN N x.1.1 x.1.2 x.2=some (ct x):=by
 have z:1048576<N:=h.dk
 have j:=h.top
 have A:=h.len
 have B:ct x=bif x.2.all (gG x.1)then(dQ x.1&&(decide ((x.2.length:Int)<=5)&&eM (hS (fa x.2))))else false:=by
  unfold ct
  cases dQ x.1<;>cases decide ((x.2.length:Int)<=5)<;>cases x.2.all (gG x.1)<;>rfl
 unfold qN
 refine(Kj _ x.2 (fun n=>((n:Int),x.1.1,x.1.2,x.2)) (gG x.1) (some false) (some (dQ x.1&&(decide ((x.2.length:Int)<=5)&&eM (hS (fa x.2))))) (fun i go=>?_) (fun go n r=>?_) N (by omega)).trans ?_
 .dsimp only
  rw[ak (bp _),aj,BQ N h.dk (by omega) x.1 h.cV,af]
  cases L:dQ x.1 with
  |false=>rfl
  |true=>
   by_cases t:(x.2.length:Int)<=5
   .have u:=si (c:=x.1) (by omega) i
    rw[aq t,ao,ao,KL N z j x.1 x.2 u,af,HA N h.dk (by omega) _ (x3 fun l C=>(h.each l C).1) (by have:=x4 u;omega),af]
    rfl
   .rw [ak t]
    rfl
 .dsimp only
  have hm:=bA r
  obtain⟨gu,F,G⟩:=h.each _ hm
  rw[aq (by omega:(n:Int)<x.2.length),ao,aO r,af,aj3 N h.dk j x.1 h.cV x.2[n].1 gu F,af]
  have H:gG x.1 x.2[n]=(hh x.1 x.2[n].1&&(hF x.2[n].2&&(decide (x.2[n].2.length<x.2[n].1.1.length)&&x.2[n].2.all fun m=>(e2 x.2[n].1.1 m).isSome))):=rfl
  rw[H]
  cases o:hh x.1 x.2[n].1 with
  |false=>rfl
  |true=>
   rw[bn,aj,PR N h.dk (by omega) _ G,af]
   cases hu:hF x.2[n].2 with
   |false=>rfl
   |true=>
    have M:=(iy o).2.1.cS
    have I:=(pz hu).2.1
    have g:ff N x.1 x.2[n].1:=⟨h.dk,j,h.cV,gu,o⟩
    rw[bn,aj,ck,ck]
    by_cases hlen:x.2[n].2.length<x.2[n].1.1.length
    .rw [aq hlen,ck,ak (by omega:¬((x.2[n].1.1.length:Int)<=(x.2[n].2.length:Int))),aj]
     refine(KC x.2[n].1.1 x.2[n].2 N (by omega) _ (fun k=>((n:Int),(k:Int),false,false,x.1.1,x.1.2,x.2,x.2[n].1.1,x.2[n].1.2,x.2[n].2)) (go (((n+1:Nat):Int),x.1.1,x.1.2,x.2)) (fun go2=>?_) (fun go2 k J=>?_)).trans ?_
     .dsimp only
      rw[ak (bp _),aj,ai (aN (n:=n) (by omega)),aR]
     .dsimp only
      have hid:∀d,e2 x.2[n].1.1 x.2[n].2[k]=some d->¬d.1=0:=fun d p e=>by
       have K:=El p
       have v:=n4 (uL o) d K.1
       unfold hg at v
       simp only[bk,bz]at v
       omega
      rw[aq (by omega:(k:Int)<x.2[n].2.length),ao,aO J,af,Hy N g,af,ai (aN (n:=k) (by omega)),aR]
      cases p:e2 x.2[n].1.1 x.2[n].2[k]with
      |none=>rfl
      |some d=>
       show(bif decide (d.1=0)then _ else _)=_
       rw[ak (hid d p)]
       rfl
     .cases x.2[n].2.all fun m=>(e2 x.2[n].1.1 m).isSome<;>rfl
    .rw [ak hlen,ov,aq (by omega:((x.2[n].1.1.length:Int)<=(x.2[n].2.length:Int))),ao]
     rfl
 .rw [B]
  cases x.2.all (gG x.1)<;>rfl
def r8 (a b:aC):Bool:=decide (a.1<b.1)
theorem akq :hX r8:=by
 refine⟨fun x y h=>?_,fun x y z h k=>?_⟩
 .unfold r8 at*;rw[bz]at h;rw[decide_eq_false_iff_not];omega
 .unfold r8 at*;rw[decide_eq_false_iff_not]at*;omega
theorem Uz (N:Nat) (a b:aC):Def (jF N () a b) fun r=>decide (r<0)=r8 a b:=by
 show Def (z1 N a.1 a.2.1 a.2.2 b.1 b.2.1 b.2.2) _
 unfold z1
 rw[D7,af]
 refine Def.ret ?_
 unfold r8
 by_cases h:a.1<b.1
 .simp [h]
 .by_cases g:b.1<a.1<;>simp[h,g]
theorem JY (N:Nat) (u:1048576<N) (p:N<=16777216) (ls:List b0) (h:pO ls):Def (tP N ls) fun R=>R.Perm (fa ls)/\R.Pairwise fun a b=>a.1<=b.1:=by
 have r:=h.cS
 unfold tP
 refine Def.upto ls.length (fun n g=>g=(fa (ls.take n),ls,(ls.length:Int),(n:Int))) ?_ ?_ N 0 _ (bg _) rfl (by omega)
 .rintro go _ rfl
  dsimp only
  have t:=h.len ls.length
  rw[cl]at t⊢
  rw[ak (bp _),aj]
  refine Def.bind (amZ r8 akq N p (by omega) (fa ls) () ⟨fun x _ y _=>Uz N x y⟩ (by omega)) fun R ⟨v,z⟩=>Def.ret ⟨v,z.imp fun {a b} i=>?_⟩
  unfold r8 at i
  rw[decide_eq_false_iff_not]at i
  omega
 .rintro go n _ j rfl o
  dsimp only
  have hm:=bA j
  obtain⟨ej,ba,_⟩:=h.ad _ hm
  have t:=h.len n
  have A:(alive ls[n]).length<=16:=dK (hK _ _) ej
  rw[aq (by omega:(n:Int)<ls.length),ao,aO j,af,JU N u p ls[n] (by omega) (by omega),af]
  refine Def.ite (b5 (by omega) (by omega)) (Def.ite (aN (n:=n) (by omega)) (o _ ?_))
  rw[ec j,aR]
  unfold fa
  rw[List.flatMap_append]
  simp
theorem Aa {N:Nat} {x:ca} (h:ea N x):oX N x.1.1 x.1.2 x.2=some (ct x):=by
 have u:1048576<N:=h.dk
 have o:=h.top
 have v:=h.len
 unfold oX ct
 rw[re N h.dk (by omega) x.1 h.cV,af]
 cases G:dQ x.1 with
 |false=>rfl
 |true=>
  rw[bn,aj,ck]
  by_cases p:(x.2.length:Int)<=5
  .rw [aq p,ak (by omega:¬(5:Int)<x.2.length),aj,ck]
   refine(Kj _ x.2 (fun n=>(x.2,(x.2.length:Int),(n:Int),x.1.1,x.1.2,x.2)) (gG x.1) (some false) (some (eM (hS (fa x.2)))) (fun j go=>?_) (fun go n r=>?_) N (by omega)).trans ?_
   .dsimp only
    have t:=si (c:=x.1) (by omega) j
    obtain⟨R,z,g,hle⟩:=JY N u o x.2 t
    have i:=g.trans (sx (fa x.2)).symm
    have hlen:=x4 t
    rw[ak (bp _),aj,z,af,Em N h.dk (by omega) R (fun d A=>x3 (fun l B=>(h.each l B).1) d (i.mem_iff.1 A)) (by rw[i.length_eq];omega),af,KK i hle (C3 _)]
   .dsimp only
    have hm:=bA r
    obtain⟨gu,C,F⟩:=h.each _ hm
    rw[aq (by omega:(n:Int)<x.2.length),ao,aO r,af,akj N h.dk o x.1 h.cV x.2[n] gu C F,af,ai (aN (n:=n) (by omega)),aR]
    cases gG x.1 x.2[n]<;>rfl
   .cases x.2.all (gG x.1)<;>rfl
  .rw [ak p,aq (by omega:(5:Int)<x.2.length)]
   rfl
abbrev pZ (x:ca):List aC:=hS (fa x.2)
theorem TR {N:Nat} {x:ca} (h:ea N x) (j:ct x=true):tP N x.2=some (pZ x):=by
 have o:1048576<N:=h.dk
 obtain⟨z,p,r,t⟩:=gg j
 have u:=si p r
 obtain⟨R,v,g,hle⟩:=JY N o h.top x.2 u
 have i:=g.trans (sx (fa x.2)).symm
 rw[v,En i hle (C3 _) (by rw[KK i hle (C3 _)];exact t)]
abbrev I5 (x:ca):cB:=(pZ x,eo x.1 (pZ x))
theorem amg {N:Nat} {x:ca} (h:ea N x) (i:ct x=true):rF N x.1.1 x.1.2 (pZ x)=some (I5 x):=by
 obtain⟨j,o,p,r⟩:=gg i
 have g:(pZ x).length<=80:=x4 (si o p)
 rw[I4 N h.dk h.top x.1 h.cV (pZ x) (x3 fun l g=>(h.each l g).1) (by omega),j,r]
 rfl
theorem ea.fit {N:Nat} {x:ca} (h:ea N x) (i:ct x=true) {q:bf} (j:mq 4 q):Fit N x.1 (I5 x) q:=by
 obtain⟨r,o,p,t⟩:=gg i
 have g:(pZ x).length<=80:=x4 (si o p)
 exact⟨h.dk,h.top,h.cV,x3 fun l g=>(h.each l g).1,by show(pZ x).length<=_;omega,j⟩
def tT (N:Nat) (x:ca) (q:bf) (most:Int):List dy:=bif ct x&&(gH 4 q&&nR most)then vc N x.1 (I5 x) q mw most else []
theorem YC {N:Nat} {x:ca} (h:ea N x) {q:bf} (i:mq 4 q) (most:Int):wI N x.1.1 x.1.2 x.2 q.kind q.field q.words q.lo q.hi q.kids most=some (tT N x q most):=by
 have o:1048576<N:=h.dk
 have p:=h.top
 unfold wI tT
 rw[Aa h,af]
 cases g:ct x with
 |false=>rfl
 |true=>
  rw[bn,aj,Rc N h.dk (by omega) q i,af,ck]
  cases j:gH 4 q with
  |false=>rfl
  |true=>
   rw[bn,aj,hl,af,ck,show(decide (1<=most)&&decide (most<=16))=nR most from rfl]
   cases hm:nR most with
   |false=>rfl
   |true=>
    rw[bn,aj,TR h g,af,amg h g,af,anl (h.fit g i) most,af]
    rfl
theorem Xg {N:Nat} {c:aL} {s:cB} {q:bf} (h:Fit N c s q) (P:dy->Bool):∀x,x∈l0 N c s q P->cz bF yw x:=by
 intro x i
 unfold l0 at i
 cases j:hh c s with
 |false=>rw[j]at i;cases i
 |true=>
  cases o:gH 4 q with
  |false=>rw[j,o]at i;cases i
  |true=>
   rw[j,o]at i
   obtain⟨d,p,rfl,v,_⟩:=LS (V:=fun d=>ko N N c s d q) i
   have g:=h.p7 j
   have r:=RC N g d (Ek g.dY.gB.ids d p) q o
   have z:=r.low
   have A:=r.top
   refine⟨(h.gu d p).1,?_⟩
   show IntKind.i64.min<=_/\_<=IntKind.i64.max
   have t:IntKind.i64.min=-9223372036854775808:=rfl
   have u:IntKind.i64.max=9223372036854775807:=rfl
   rw[t,u]
   dsimp only
   omega
theorem ann {N:Nat} {c:aL} {s:cB} {q:bf} (h:Fit N c s q) (P:dy->Bool) (most:Nat):(x8 N c s q P most).length<=16/\cz bF (.av yw) (x8 N c s q P most):=by
 unfold x8
 have o:=LV N c s q P
 have i:(nc (l0 N c s q P)).length<=16:=by
  rw[show nc _=List.foldl jN [] _ from rfl,RY]
  simp only[bE]
  omega
 have g:((nc (l0 N c s q P)).take most).length<=16:=by rw[bX];omega
 refine⟨g,⟨dK g (by decide),fun x j=>?_⟩⟩
 exact Xg h P x (((RZ (LU N c s q P)).2 x).1 (fK j))
theorem anm {N:Nat} {c:aL} {s:cB} {q:bf} (h:Fit N c s q) (P:dy->Bool) (most:Int):(vc N c s q P most).length<=16/\cz bF (.av yw) (vc N c s q P most):=by
 unfold vc
 cases nR most
 .exact ⟨bg _,⟨bg _,fun x g=>by cases g⟩⟩
 .exact ann h P _
theorem Yr {N:Nat} {x:ca} (h:ea N x) {q:bf} (i:mq 4 q) (most:Int):(tT N x q most).length<=16/\cz bF (.av yw) (tT N x q most):=by
 unfold tT
 cases j:ct x with
 |false=>exact⟨bg _,⟨bg _,fun x g=>by cases g⟩⟩
 |true=>
  cases gH 4 q&&nR most
  .exact ⟨bg _,⟨bg _,fun x g=>by cases g⟩⟩
  .exact anm (h.fit j i) mw most
theorem akY (xs:List aC) (h:∀d,d∈xs->hg d=true) (i:xs.Pairwise fun a b=>a.1<b.1) (o:xs.length<=16):eM xs=true:=by
 unfold eM dL
 rw[bk,bz,cA]
 refine⟨fun n j=>?_,by omega⟩
 have g:n<xs.length:=by simpa using j
 unfold pf
 rw[bk,<-nB g]
 refine⟨h _ (bA g),?_⟩
 cases n with
 |zero=>rfl
 |succ n=>
  have:=mh.1 i n (n+1) (by omega) g (by omega)
  rw[show n+1-1=n from rfl,<-nB (by omega:n<xs.length),ak (by omega:¬n+1=0),ig,ak (by omega)]
  rfl
theorem Ic {A B:List aC} (h:eM (hS A)=true) (g:B.Sublist A):eM (hS B)=true:=by
 have o:=l9 h
 have i:=sx A
 have j:=sx B
 refine akY _ (fun d hm=>n4 h d (i.mem_iff.2 (g.subset (j.mem_iff.1 hm)))) ?_ ?_
 .have p:A.Pairwise fun a b=>a.1≠b.1:=(i.pairwise_iff (fun {x y} h=>fun e=>h e.symm)).1 (o.gB.ids.imp fun h e=>by omega)
  have r:(hS B).Pairwise fun a b=>a.1≠b.1:=(j.pairwise_iff (fun {x y} h=>fun e=>h e.symm)).2 (p.sublist g)
  exact((C3 B).and r).imp fun {a b} h=>by have:=h.1;have:=h.2;omega
 .have p:=g.length_le
  have r:=i.length_eq
  have t:=j.length_eq
  have:=o.cS
  omega
theorem DQ {a b:List b0} (h:a.Sublist b):(fa a).Sublist (fa b):=by
 induction h with
 |slnil=>exact List.Sublist.refl _
 |cons x _ g=>
  show(fa _).Sublist (alive x++fa _)
  exact g.trans (List.sublist_append_right _ _)
 |cons_cons x _ g=>
  show(alive x++fa _).Sublist (alive x++fa _)
  exact(List.Sublist.refl _).append g
structure vt (N:Nat) (c:aL):Prop where
 dk:1048576<N
 a:c.1.length<=1048576
 b:c.2.length<=1048576
 e:∀y,y∈c.2->y.1.length<=1048576
structure pK (l:b0):Prop where
 dY:eZ l.1.1
 small:Small 7680 l.1.2
 dead:l.2.length<=1000
theorem pK.of {c:aL} {l:b0} (h:gG c l=true):pK l:=by
 obtain⟨i,_,o,_⟩:=sc h
 obtain⟨_,g,j⟩:=iy i
 exact⟨g,j▸vQ c g,by omega⟩
theorem Kt (N:Nat) (c:aL) (h:vt N c):xR N c.1 c.2=some (c.1,c.2):=by
 have j:=h.dk
 have o:=h.a
 have p:=h.b
 unfold xR
 rw[ai (b5 (by simp;omega) (by simp;omega)),fj]
 refine(dB _ c.2.length (fun n=>((n:Int),c.1,c.2,c.1,c.2.take n)) (fun _=>some (c.1,c.2)) (fun go=>?_) (fun go n g i=>?_) N 0 (bg _) (by omega)).trans rfl
 .dsimp only
  rw[ak (bp _),aj,cl]
 .dsimp only
  have r:=h.e _ (bA g)
  rw[aq (by omega:(n:Int)<c.2.length),ao,aO g,af,ai (b5 (by simp;omega) (by simp;omega)),af,ai (b5 (by simp;omega) (by simp;omega)),ai (aN (n:=n) (by omega)),fj,<-i,ec g,aR]
theorem UM (N:Nat) (j:1048576<N) (ps:List EPost) (o:ps.length<=7680) (i:∀p,p∈ps->p.2.length<=7680):CT N ps=some ps:=by
 unfold CT
 refine(dB _ ps.length (fun k=>(ps,ps.take k,(k:Int))) (fun _=>some ps) (fun go=>?_) (fun go k g h=>?_) N 0 (bg _) (by omega)).trans rfl
 .dsimp only
  rw[ak (bp _),aj,cl]
 .dsimp only
  have hy:=i _ (bA g)
  rw[aq (by omega:(k:Int)<ps.length),ao,aO g,af,af,ai (b5 (by simp;omega) (by simp;omega)),ai (b5 (by simp;omega) (by simp;omega)),ai (aN (n:=k) (by omega)),fj,<-h,ec g,aR]
theorem UN (N:Nat) (p:1048576<N) (l:b0) (h:pK l):CE N l.1.1 l.1.2=some l.1:=by
 have r:=h.small.1
 have t:=h.dY.cS
 unfold CE
 refine(dB _ l.1.1.length (fun n=>((n:Int),l.1.1,l.1.2,l.1.1.take n)) (fun _=>some l.1) (fun go=>?_) (fun go n g j=>?_) N 0 (bg _) (by omega)).trans rfl
 .dsimp only
  rw[ak (bp _),aj,cl]
  refine(dB _ l.1.2.length (fun n=>((n:Int),l.1.1,l.1.2,l.1.1,l.1.2.take n)) (fun _=>some l.1) (fun go2=>?_) (fun go2 n g i=>?_) N 0 (bg _) (by omega)).trans rfl
  .dsimp only
   rw[ak (bp _),aj,cl]
  .dsimp only
   have o:=h.small.2 _ (bA g)
   rw[aq (by omega:(n:Int)<l.1.2.length),ao,aO g,af,UM N p _ o.1 o.2,af,ai (b5 (by simp;omega) (by simp;omega)),ai (aN (n:=n) (by omega)),<-i,ec g,aR]
 .dsimp only
  have he:=h.dY.each _ (bA g)
  rw[aq (by omega:(n:Int)<l.1.1.length),ao,aO g,af,HB N l.1.1[n] he.1 he.2.1,af,ai (b5 (by simp;omega) (by simp;omega)),ai (aN (n:=n) (by omega)),<-j,ec g,aR]
theorem yU (N:Nat) (x:ca) (j:vt N x.1) (r:x.2.length<=1000) (h:∀l,l∈x.2->pK l):mc N x.1.1 x.1.2 x.2=some (x.1.1,x.1.2,x.2):=by
 have p:=j.dk
 unfold mc
 rw[Kt N x.1 j,af]
 refine(dB _ x.2.length (fun n=>((n:Int),x.1.1,x.1.2,x.2,x.1.1,x.1.2,x.2.take n)) (fun _=>some (x.1.1,x.1.2,x.2)) (fun go=>?_) (fun go n g i=>?_) N 0 (bg _) (by omega)).trans rfl
 .dsimp only
  rw[ak (bp _),aj,cl]
 .dsimp only
  have o:=h _ (bA g)
  have t:=o.dead
  rw[aq (by omega:(n:Int)<x.2.length),ao,aO g,af,UN N p _ o,af,af,ai (b5 (by simp;omega) (by simp;omega)),ai (b5 (by simp;omega) (by simp;omega)),ai (aN (n:=n) (by omega)),fj,<-i,ec g,aR]
theorem vt.of {N:Nat} {c:aL} (g:1048576<N) (h:cz bF gm c):vt N c:=⟨g,h.1.1,h.2.1,fun y hy=>(h.2.2 y hy).1.1⟩
def h8 (l:List Int) (n:Int):List Int:=match l with
 | []=>[n]
 |x::r=>if x<n then x::h8 r n else if x=n then x::r else n::x::r
theorem IB (n x:Int):∀l,x∈h8 l n↔x=n\/x∈l
 | []=>by simp[h8]
 |y::r=>by
  unfold h8
  have g:=IB n x r
  split
  .rw [bm,g,bm];constructor<;>rintro(h|h|h)<;>simp_all
  .split
   .rename_i e;subst e;simp
   .simp
theorem Q8 (n:Int):∀l,ib l->ib (h8 l n)
 | [],_=>by simp[h8,ib]
 |y::r,h=>by
  unfold ib at h
  rw[ez]at h
  have i:ib (h8 r n):=Q8 n r h.2
  unfold h8
  split
  .rename_i e
   show List.Pairwise _ _
   rw[ez]
   refine⟨fun x g=>?_,i⟩
   rcases(IB n x r).1 g with rfl|g
   .exact e
   .exact h.1 x g
  .split
   .exact ez.2 h
   .rename_i j o
    show List.Pairwise _ _
    rw[ez,ez]
    refine⟨fun x g=>?_,h⟩
    rcases bm.1 g with rfl|g
    .omega
    .have:=h.1 x g;omega
theorem Q6 (n:Int):∀l,(h8 l n).length<=l.length+1
 | []=>by simp[h8]
 |x::r=>by
  unfold h8
  have:=Q6 n r
  split
  .simp;omega
  .split<;>simp
theorem Q5 (n:Int):∀(l:List Int) (k:Nat) (h:k<l.length),(∀x,x∈l.take k->x<n)->l[k]=n->h8 l n=l
 |x::r,0,_,_,e=>by
  have e:x=n:=e
  unfold h8
  rw[aA (by omega),ai e]
 |x::r,k+1,h,g,e=>by
  have i:=g x (by rw[sP];simp)
  unfold h8
  rw[ai i,Q5 n r k (by simpa using h) (fun y hy=>g y (by rw[sP];simp[hy])) (by simpa using e)]
theorem Q7 (n:Int):∀(l:List Int) (k:Nat),k<=l.length->(∀x,x∈l.take k->x<n)->(∀h:k<l.length,n<l[k])->h8 l n=l.take k++ [n]++l.drop k
 | [],k,h,_,_=>by simp at h;subst h;rfl
 |x::r,0,_,_,g=>by
  have g:n<x:=g (by simp)
  unfold h8
  rw[aA (by omega),aA (by omega)]
  rfl
 |x::r,k+1,h,i,g=>by
  have j:=i x (by rw[sP];simp)
  unfold h8
  rw[ai j,Q7 n r k (by simpa using h) (fun y hy=>i y (by rw[sP];simp[hy])) (fun o=>by
   have:=g (by simp;omega)
   simpa using this)]
  rfl
theorem alo (N:Nat) (z:1048576<N) (l:List Int) (n:Int) (A:l.length<=1000):CZ N l n=some (h8 l n):=by
 refine Def.get ?_
 unfold CZ
 have ins:∀k:Nat,k<=l.length->(∀x,x∈l.take k->x<n)->(∀h:k<l.length,n<l[k])->Def (Option.bind (cut l 0 (k:Int)) fun y=>if room ([]:List Int).length y.length 8 then(if room (([]:List Int)++y).length ([n]:List Int).length 8 then Option.bind (cut l (k:Int) (l.length:Int)) fun t=>if room ((([]:List Int)++y)++([n]:List Int)).length t.length 8 then some (((([]:List Int)++y)++([n]:List Int))++t)else none else none)else none) fun r=>r=h8 l n:=fun k i j v=>by
  rw[vL l k i,af,ai (b5 (by rw[bX];simp;omega) (by rw[bX];simp;omega)),
   ai (b5 (by rw[a1,bX,bS];simp;omega) (by rw[a1,bX,bS];simp;omega)),yX l k i,af,
   ai (b5 (by simp only[a1,bX,bS,eY,bE];omega) (by simp only[a1,bX,bS,eY,bE];omega))]
  exact Def.ret (by rw[Q7 n l k i j v,fj])
 refine Def.upto l.length (fun k g=>(∀x,x∈l.take k->x<n)/\g=(l,n,(k:Int))) ?_ ?_ N 0 _ (bg _) ⟨fun x o=>by simp at o,rfl⟩ (by omega)
 .rintro go _ ⟨j,rfl⟩
  dsimp only
  rw[ak (bp _),aj,aj]
  exact ins l.length (bC _) j fun h=>absurd h (Nat.lt_irrefl _)
 .rintro go k _ i ⟨j,rfl⟩ p
  dsimp only
  rw[aq (by omega:(k:Int)<l.length),ao,ao,aO i,af,af]
  refine Def.bL (fun e=>Def.ite (aN (n:=k) (by omega)) (p _ ⟨fun x o=>?_,by rw[aR]⟩)) (fun e=>Def.bL (fun u=>Def.ret (Q5 n l k i j u).symm) (fun u=>ins k (by omega) j fun _=>by omega))
  rw[ec i,cp,c1]at o
  rcases o with o|rfl
  .exact j x o
  .exact e
def kG (id:Int) (l:b0):Bool:=(e2 l.1.1 id).isSome&& !decide (id∈l.2)
def ht (id:Int) (l:b0):b0:=bif kG id l then(l.1,h8 l.2 id)else l
structure pL (N:Nat) (c:aL) (ls:List b0):Prop where
 dk:1048576<N
 top:N<=16777216
 cS:ls.length<=5
 p7:∀l,l∈ls->ff N c l.1
 up:∀l,l∈ls->ib l.2
 dead:∀l,l∈ls->l.2.length<=200
theorem TZ {α:Type} (p:α->Bool) (l:List α) (n:Nat) (h:n<l.length):(l.take (n+1)).any p=((l.take n).any p||p l[n]):=by
 rw[ec h,List.any_append]
 simp
theorem Lq {N:Nat} {c:aL} {ls:List b0} (h:pL N c ls) (id:Int):xU N c.1 c.2 ls id=some (c.1,c.2,ls.map (ht id),ls.any (kG id)):=by
 have z:=h.dk
 have B:=h.top
 have C:=h.cS
 refine Def.get ?_
 unfold xU
 refine Def.upto ls.length (fun n g=>g=(id,(ls.take n).any (kG id),(n:Int),c.1,c.2,ls,c.1,c.2,(ls.take n).map (ht id))) ?_ ?_ N 0 _ (bg _) rfl (by omega)
 .rintro go _ rfl
  dsimp only
  rw[ak (bp _),aj,cl]
  exact Def.ret rfl
 .rintro go n _ j rfl p
  dsimp only
  have hm:=bA j
  have g:=h.p7 _ hm
  have F:=h.dead _ hm
  rw[aq (by omega:(n:Int)<ls.length),ao,aO j,af]
  refine Def.meet (fun g=>g=(id,(ls.take (n+1)).any (kG id),(n:Int),c.1,c.2,ls,c.1,c.2,(ls.take n).map (ht id),(ht id ls[n]).1.1,(ht id ls[n]).1.2,(ht id ls[n]).2)) ?_ fun J r=>?_
  .rintro _ rfl
   dsimp only
   refine Def.ite (b5 (by rw[dX,bX];simp;omega) (by rw[dX,bX];simp;omega)) (Def.ite (aN (n:=n) (by omega)) (p _ ?_))
   rw[ec j,iD,aR]
   rfl
  .have t:=TZ (kG id) ls n j
   rw[Hy N g,af]
   cases i:e2 ls[n].1.1 id with
   |none=>
    have e:kG id ls[n]=false:=by unfold kG;rw[i];rfl
    show Def (bif !decide ((0:Int)=0)then _ else _) _
    rw[aq rfl,bn,aj]
    refine r _ ?_
    rw[t,e,Bool.or_false]
    unfold ht
    rw[e]
    rfl
   |some d=>
    have hid:¬d.1=0:=fun e=>by
     have A:=El i
     have v:=n4 (uL g.ok) d A.1
     unfold hg at v
     simp only[bk,bz]at v
     omega
    have u:ss N ls[n].1.1 ls[n].1.2 ls[n].2 id=some (decide (id∈ls[n].2)):=by
     unfold ss
     rw[PV N _ _ (by omega) (by omega),af]
    show Def (bif !decide (d.1=0)then _ else _) _
    rw[ak hid,dt,ao,u,af]
    have e:kG id ls[n]= !decide (id∈ls[n].2):=by unfold kG;rw[i];rfl
    rw[<-e]
    cases o:kG id ls[n]with
    |true=>
     rw[ao]
     refine Def.ite (b5 (by simp;omega) (by simp;omega)) ?_
     rw[fj,alo N z _ _ (by omega),af]
     refine r _ ?_
     rw[t,o,Bool.or_true]
     unfold ht
     rw[o]
     rfl
    |false=>
     rw[aj]
     refine r _ ?_
     rw[t,o,Bool.or_false]
     unfold ht
     rw[o]
     rfl
theorem VH {α:Type} (p:α->Bool) (l:List α) (n:Nat) (h:n<l.length):(l.take (n+1)).filter p=bif p l[n]then(l.take n).filter p++ [l[n]]else(l.take n).filter p:=by
 rw[ec h,kV]
 cases e:p l[n]<;>simp[iX,e]
theorem Ld (N:Nat) (o:1048576<N) (c:aL) (ls:List b0) (p:ls.length<=1000):xT N c.1 c.2 ls=some (c.1,c.2,ls.filter fun l=>decide (l.2.length<l.1.1.length)):=by
 refine Def.get ?_
 unfold xT
 refine Def.upto ls.length (fun n g=>g=((n:Int),c.1,c.2,ls,c.1,c.2,(ls.take n).filter fun l=>decide (l.2.length<l.1.1.length))) ?_ ?_ N 0 _ (bg _) rfl (by omega)
 .rintro go _ rfl
  dsimp only
  rw[ak (bp _),aj,cl]
  exact Def.ret rfl
 .rintro go n _ i rfl h
  dsimp only
  have j:=VH (fun l:b0=>decide (l.2.length<l.1.1.length)) ls n i
  have hle:((ls.take n).filter fun l:b0=>decide (l.2.length<l.1.1.length)).length<=1000:=dK (hK _ _) (by rw[bX];omega)
  rw[aq (by omega:(n:Int)<ls.length),ao,aO i,af,af]
  refine Def.bL (fun e=>?_) (fun e=>?_)
  .rw [af]
   refine Def.ite (b5 (by simp only[bS];omega) (by simp only[bS];omega)) (Def.ite (aN (n:=n) (by omega)) (h _ ?_))
   rw[j,aq (by omega),ao,aR]
  .refine Def.ite (aN (n:=n) (by omega)) (h _ ?_)
   rw[j,ak (by omega),aj,aR]
theorem pL.of {N:Nat} {x:ca} (h:ea N x) (i:ct x=true):pL N x.1 x.2:=by
 obtain⟨p,j,o,r⟩:=gg i
 have g:∀l,l∈x.2->gG x.1 l=true:=cA.1 o
 refine⟨h.dk,h.top,j,fun l hm=>⟨h.dk,h.top,h.cV,(h.each l hm).1,(sc (g l hm)).1⟩,fun l hm=>?_,fun l hm=>dK (sc (g l hm)).2.2.1 (by omega)⟩
 have:=g l hm
 unfold gG at this
 rw[bk,bk]at this
 exact(pz this.2.1).1
abbrev yn :ca:=(([],[]),[])
theorem ea.zero {N:Nat} (h:bF<N) (i:N<=16777216):ea N yn:=
 ⟨h,i,⟨⟨bg _,fun x g=>by cases g⟩,⟨bg _,fun x g=>by cases g⟩⟩,bg _,fun l j=>by cases j⟩
theorem zm (id:Int) (l:b0):(ht id l).1=l.1:=by unfold ht;cases kG id l<;>rfl
theorem EX (id:Int) (l:b0):(ht id l).2.length<=l.2.length+1/\(ib l.2->ib (ht id l).2):=by
 unfold ht
 cases kG id l with
 |false=>exact⟨Nat.le_succ _,fun h=>h⟩
 |true=>exact⟨Q6 id l.2,Q8 id l.2⟩
def ir (ds:List aC) (l:b0):b0:=ds.foldl (fun l d=>ht d.1 l) l
theorem EW :∀(ds:List aC) (l:b0),(ir ds l).1=l.1
 | [],l=>rfl
 |d::ds,l=>(EW ds (ht d.1 l)).trans (zm d.1 l)
theorem zl :∀(ds:List aC) (l:b0),(ir ds l).2.length<=l.2.length+ds.length/\(ib l.2->ib (ir ds l).2)
 | [],l=>⟨bC _,fun h=>h⟩
 |d::ds,l=>by
  obtain⟨j,g⟩:=zl ds (ht d.1 l)
  obtain⟨o,i⟩:=EX d.1 l
  refine⟨?_,fun h=>g (i h)⟩
  show(ir ds (ht d.1 l)).2.length<=l.2.length+(ds.length+1)
  omega
theorem pL.ir {N:Nat} {c:aL} {ls:List b0} (h:pL N c ls) (o:∀l,l∈ls->l.2.length<=60) (ds:List aC) (p:ds.length<=16):pL N c (ls.map (ir ds)):=by
 refine⟨h.dk,h.top,by rw[dX];exact h.cS,fun j g=>?_,fun j g=>?_,fun j g=>?_⟩<;>obtain⟨l,i,rfl⟩:=cd.1 g
 .rw [EW];exact h.p7 l i
 .exact (zl ds l).2 (h.up l i)
 .have:=(zl ds l).1
  have:=o l i
  omega
def ux (l:b0):Bool:=decide (l.2.length<l.1.1.length)
def ij (ad:List aC) (x:ca):ca:=(x.1,(x.2.map (ir ad)).filter ux++ [((ad,eo x.1 ad),[])])
def lQ (ad:List aC) (x:ca):ca×Bool:=bif ct x then(bif eM ad&&decide (0<ad.length)then(bif ct (ij ad x)then(ij ad x,true)else(x,false))else(x,false))else(yn,false)
theorem y0 {x:ca} (g:ct x=true):∀l,l∈x.2->l.2.length<=60:=fun l h=>(sc (cA.1 (gg g).2.2.1 l h)).2.2.1
theorem ea.ij {N:Nat} {x:ca} (h:ea N x) (i:ct x=true) {ad:List aC} (gu:∀d,d∈ad->cz bF fE d) (p:ad.length<=16):ea N (ij ad x):=by
 obtain⟨r,t,u,v⟩:=gg i
 refine⟨h.dk,h.top,h.cV,?_,fun z g=>?_⟩
 .have o:=hK ux (x.2.map (ir ad))
  rw[dX]at o
  show((x.2.map (ir ad)).filter ux++ [((ad,eo x.1 ad),([]:List Int))]).length<=_
  rw[a1,bS]
  omega
 .rcases cp.1 g with g|g
  .obtain ⟨l,j,rfl⟩:=cd.1 (hp.1 g).1
   have he:=h.each l j
   have A:=(zl ad l).1
   have B:=y0 i l j
   rw[EW]
   exact⟨he.1,he.2.1,by omega⟩
  .rw [c1]at g
   subst g
   exact⟨gu,by show ad.length<=_;omega,bg _⟩
theorem JO {N:Nat} {x:ca} (h:ea N x) {ad:List aC} (gu:∀d,d∈ad->cz bF fE d) (v:ad.length<=1000):xN N x.1.1 x.1.2 x.2 ad=some ((lQ ad x).1.1.1,(lQ ad x).1.1.2,(lQ ad x).1.2,(lQ ad x).2):=by
 have z:1048576<N:=h.dk
 have K:=h.top
 unfold xN lQ
 rw[xo h,af]
 cases p:ct x with
 |false=>rfl
 |true=>
  obtain⟨C,L,F,M⟩:=gg p
  have g:=yU N x (.of h.dk h.cV) (by omega) (fun l v=>.of (cA.1 F l v))
  rw[bn,aj,ao,HA N h.dk (by omega) ad gu (by omega),af]
  cases r:eM ad with
  |false=>
   rw[dt,ao,g,af]
   rfl
  |true=>
   have j:=l9 r
   have o:=j.cS
   rw[bn,aj,ck]
   by_cases O:ad.length=0
   .rw [aq (by omega:(ad.length:Int)=0),ao,g,af,ak (by omega)]
    rfl
   .rw [ak (by omega:¬(ad.length:Int)=0),aj,g,af,aq (by omega:0<ad.length),ao]
    dsimp only
    have G:=pL.of h p
    have H:((ad,(0:Int),x.1.1,x.1.2,x.2,x.1.1,x.1.2,x.2):List aC×Int×List (List UInt8)×List eS×List b0×List (List UInt8)×List eS×List b0)=(ad,((0:Nat):Int),x.1.1,x.1.2,x.2,x.1.1,x.1.2,x.2.map (ir (ad.take 0))):=by
     rw[show ir (ad.take 0)=id from by funext l;rfl,List.map_id]
     rfl
    refine(congrArg (iter _ N) H).trans ((dB _ ad.length (fun n=>(ad,(n:Int),x.1.1,x.1.2,x.2,x.1.1,x.1.2,x.2.map (ir (ad.take n)))) (fun _=>some ((bif ct (ij ad x)then(ij ad x,true)else(x,false)).1.1.1,(bif ct (ij ad x)then(ij ad x,true)else(x,false)).1.1.2,(bif ct (ij ad x)then(ij ad x,true)else(x,false)).1.2,(bif ct (ij ad x)then(ij ad x,true)else(x,false)).2)) (fun go=>?_) (fun go n A t=>?_) N 0 (bg _) (by omega)).trans rfl)
    .dsimp only
     have I:=h.ij p gu o
     have i:=hK ux (x.2.map (ir ad))
     rw[dX]at i
     rw[ak (bp _),aj,cl,Ld N z x.1 _ (by rw[dX];omega),af]
     dsimp only
     rw[HC N x.1 C j z,af,ai (b5 (by show(_+1)*72<=_;unfold ux at i;omega) (by show((_+1:Nat):Int)<=_;unfold ux at i;omega))]
     have B:=xo I
     rw[show(x.2.map (ir ad)).filter (fun l=>decide (l.2.length<l.1.1.length))++ [((ad,eo x.1 ad),([]:List Int))]=(ij ad x).2 from rfl]
     rw[show(ij ad x).1=x.1 from rfl]at B
     rw[B,af]
     cases ct (ij ad x)with
     |false=>rw[dt,ao,g,af];rfl
     |true=>rfl
    .dsimp only
     have u:=G.ir (y0 p) (ad.take n) (by rw[bX];omega)
     rw[aq (by omega:(n:Int)<ad.length),ao,aO A,af,Lq u,af,ai (aN (n:=n) (by omega)),<-t,aR,ec A,ml]
     have J:(ht ad[n].1∘ir (ad.take n))=ir (ad.take n++ [ad[n]]):=by
      funext l
      show _=ir _ l
      unfold ir
      rw[hU]
      rfl
     rw[J]
theorem TO {N:Nat} {x:ca} (h:ea N x) {ad:List aC} (gu:∀d,d∈ad->cz bF fE d):ea N (lQ ad x).1:=by
 unfold lQ
 cases i:ct x with
 |false=>exact ea.zero h.dk h.top
 |true=>
  rw[ao]
  cases g:eM ad&&decide (0<ad.length)with
  |false=>exact h
  |true=>
   rw[ao]
   rw[bk]at g
   cases ct (ij ad x)with
   |false=>exact h
   |true=>exact h.ij i gu (l9 g.1).cS
def Vf (id:Int) (x:ca):ca:=(x.1,(x.2.map (ht id)).filter fun l=>decide (l.2.length<l.1.1.length))
def nD (id:Int) (x:ca):ca×Bool:=bif ct x then(Vf id x,x.2.any (kG id))else(yn,false)
theorem Yw {N:Nat} {x:ca} (h:ea N x) (id:Int):CC N x.1.1 x.1.2 x.2 id=some ((nD id x).1.1.1,(nD id x).1.1.2,(nD id x).1.2,(nD id x).2):=by
 unfold CC nD
 rw[xo h,af]
 cases g:ct x with
 |false=>rfl
 |true=>
  obtain⟨p,r,i,t⟩:=gg g
  have j:=pL.of h g
  rw[bn,aj,yU N x (.of h.dk h.cV) (by omega) (fun l o=>.of (cA.1 i l o)),af]
  dsimp only
  rw[Lq j,af]
  dsimp only
  rw[Ld N h.dk x.1 _ (by rw[dX];omega),af]
  rfl
theorem Vd {N:Nat} {x:ca} (h:ea N x) (id:Int):ea N (nD id x).1:=by
 unfold nD
 cases i:ct x with
 |false=>exact ea.zero h.dk h.top
 |true=>
  obtain⟨o,p,r,t⟩:=gg i
  refine⟨h.dk,h.top,h.cV,?_,fun u g=>?_⟩
  .exact dK (hK _ _) (by rw[dX];omega)
  .obtain ⟨l,j,rfl⟩:=cd.1 (hp.1 g).1
   have he:=h.each l j
   have v:=(EX id l).1
   have z:=y0 i l j
   rw[zm]
   exact⟨he.1,he.2.1,by omega⟩
def mQ (k:Nat) (x:ca):List aC:=hS (fa ((x.2.take (k+2)).drop k))
def aky (k:Nat) (x:ca):ca:=(x.1,x.2.take k++ [((mQ k x,eo x.1 (mQ k x)),[])]++x.2.drop (k+2))
def n1 (at':Int) (x:ca):ca×Bool:=bif ct x then(bif decide (0<=at')&&decide (at'<=(x.2.length:Int)-2)then(aky at'.toNat x,true)else(x,false))else(yn,false)
theorem US {α:Type} (xs:List α) (a b:Nat) (g:a<=b) (h:b<=xs.length):cut xs (a:Int) (b:Int)=some ((xs.take b).drop a):=by
 unfold cut
 rw[ai ⟨by omega,by omega,by omega⟩]
 rfl
theorem Yy {N:Nat} {x:ca} (h:ea N x) (at':Int):CD N x.1.1 x.1.2 x.2 at'=some ((n1 at' x).1.1.1,(n1 at' x).1.1.2,(n1 at' x).1.2,(n1 at' x).2):=by
 have v:1048576<N:=h.dk
 have A:=h.top
 unfold CD n1
 rw[xo h,af]
 cases B:ct x with
 |false=>rfl
 |true=>
  obtain⟨C,G,z,F⟩:=gg B
  have g:=yU N x (.of h.dk h.cV) (by omega) (fun l p=>.of (cA.1 z l p))
  rw[bn,aj,ao,ai (by unfold fits;omega),nZ,af]
  cases r:decide (0<=at')&&decide (at'<=(x.2.length:Int)-2)with
  |false=>
   rw[dt,ao,g,af]
   rfl
  |true=>
   rw[bk,bz,bz]at r
   obtain⟨k,rfl⟩:∃k:Nat,at'=(k:Int):=⟨at'.toNat,by omega⟩
   have o:k+2<=x.2.length:=by omega
   have i:((x.2.take (k+2)).drop k).Sublist x.2:=(List.drop_sublist _ _).trans (List.take_sublist _ _)
   have t:pO ((x.2.take (k+2)).drop k):=si (c:=x.1) (by rw[eY,bX];omega) (cA.2 fun l p=>cA.1 z l (i.subset p))
   have u:eM (mQ k x)=true:=Ic F (DQ i)
   rw[bn,aj,ai (by unfold fits;omega),show((k:Int)+2)=((k+2:Nat):Int)from by omega,US x.2 k (k+2) (by omega) o,af]
   have j:=KL N v A ([],[]) _ t
   rw[j,af,g,af]
   dsimp only
   rw[vL x.2 k (by omega),af,ai (b5 (by rw[bX];simp;omega) (by rw[bX];simp;omega)),show hS (fa ((x.2.take (k+2)).drop k))=mQ k x from rfl,HC N x.1 C (l9 u) v,af,
    ai (b5 (by rw[a1,bX,bS];simp;omega) (by rw[a1,bX,bS];simp;omega)),ai (by unfold fits;omega),yX x.2 (k+2) o,af,
    ai (b5 (by simp only[a1,bX,bS,eY,bE];omega) (by simp only[a1,bX,bS,eY,bE];omega)),fj]
   rfl
theorem akw {N:Nat} {x:ca} (h:ea N x) (at':Int):ea N (n1 at' x).1:=by
 unfold n1
 cases r:ct x with
 |false=>exact ea.zero h.dk h.top
 |true=>
  rw[ao]
  cases t:decide (0<=at')&&decide (at'<=(x.2.length:Int)-2)with
  |false=>exact h
  |true=>
   obtain⟨z,u,v,A⟩:=gg r
   rw[ao]
   generalize at'.toNat=k
   have i:((x.2.take (k+2)).drop k).Sublist x.2:=(List.drop_sublist _ _).trans (List.take_sublist _ _)
   have j:pO ((x.2.take (k+2)).drop k):=si (c:=x.1) (dK i.length_le u) (cA.2 fun l o=>cA.1 v l (i.subset o))
   refine⟨h.dk,h.top,h.cV,?_,fun p g=>?_⟩
   .show (x.2.take k++ [((mQ k x,eo x.1 (mQ k x)),([]:List Int))]++x.2.drop (k+2)).length<=_
    simp only[a1,bX,bS,eY]
    omega
   .rcases cp.1 g with g|g
    .rcases cp.1 g with g|g
     .exact h.each p (fK g)
     .rw [c1]at g
      subst g
      refine⟨x3 fun l o=>(h.each l (i.subset o)).1,?_,bg _⟩
      have:=x4 j
      show(mQ k x).length<=_
      unfold mQ
      omega
    .exact h.each p (nq g)
theorem YA {N:Nat} (g:bF<N) (i:N<=16777216) (c:aL) (cV:cz bF gm c):Def (xO N c.1 c.2) fun r=>ea N (r,[]):=by
 have h:1048576<N:=g
 unfold xO
 rw[BQ N g (by omega) c cV,af]
 cases dQ c with
 |false=>exact Def.ret (ea.zero g i)
 |true=>
  rw[bn,aj,Kt N c (.of h cV),af]
  exact Def.ret ⟨g,i,cV,bg _,fun l j=>by cases j⟩
theorem UT {α:Type} (xs:List α) (n:Nat) (h:n<=xs.length):cut xs 0 (n:Int)=some (xs.take n):=by
 unfold cut
 rw[ai (by omega)]
 simp
theorem ak3 (N:Nat) (code:List Int) (g:ns code):∃y,uY N code=some (y,0)/\ns y/\y.length<=2000:=by
 unfold uY
 by_cases h:(2000:Int)<code.length
 .simp only [h,decide_true,ao]
  rw[show(2000:Int)=((2000:Nat):Int)from rfl,UT code 2000 (by omega)]
  exact⟨_,rfl,fun x i=>g x (fK i),by simp;omega⟩
 .simp only [h,decide_false,aj]
  exact⟨_,rfl,g,by omega⟩
def dz (b:List Int) (k:Int) (j:Nat):Prop:=ns b/\b.length<=2000/\0<=k/\k<=j
theorem dz.le {b:List Int} {k:Int} {j g:Nat} (h:dz b k j) (i:j<=g):dz b k g:=⟨h.1,h.2.1,h.2.2.1,by have:=h.2.2.2;omega⟩
theorem e7 (N:Nat) (n:Int) {b:List Int} {k:Int} {j:Nat} (h:dz b k j) (t:j<=1000000):Def (eN N n b k) fun r=>0<=r.1/\(1<=n->r.1<n)/\(n<1->r.1=0)/\dz r.2.1 r.2.2 (j+1):=by
 obtain⟨v,g,i,o,p⟩:=alc N n b k h.1 h.2.2.1 (by have:=h.2.2.2;omega) h.2.1
 exact⟨_,g,i,o,p,h.1,h.2.1,by have:=h.2.2.1;show(0:Int)<=k+1;omega,by have:=h.2.2.2;show k+1<=((j+1:Nat):Int);omega⟩
theorem pe (N:Nat) {l:List (List UInt8)} {b:List Int} {k:Int} {j:Nat} (u:0<l.length) (h:dz b k j) (g:j<=1000000):Def (kl N l b k) fun r=>r.1∈l/\dz r.2.1 r.2.2 (j+1):=by
 unfold kl
 refine Def.bind (e7 N _ h g) fun r ⟨i,o,_,p⟩=>?_
 exact Def.idx i (o (by omega)) fun x t _=>Def.ret ⟨t,p⟩
theorem QE (N:Nat) {code:List Int} (g:ns code):Def (uY N code) fun r=>dz r.1 r.2 0:=by
 obtain⟨y,h,i,j⟩:=ak3 N code g
 exact⟨_,h,i,j,iF _,iF _⟩
def akV (c:UInt8):Bool:=decide (32<=c.toNat)&&decide (c.toNat<=126)
def iS (n:Nat) (s:List UInt8):Bool:=s.all akV&&decide (s.length<=n)
theorem Qz {n m:Nat} {s t:List UInt8} (h:iS n s=true) (k:iS m t=true):iS (n+m) (s++t)=true:=by
 unfold iS at*
 simp only[bk,bz,List.all_append,a1]at*
 exact⟨⟨h.1,k.1⟩,by omega⟩
theorem QA {n m:Nat} {s:List UInt8} (h:iS n s=true) (hm:n<=m):iS m s=true:=by
 unfold iS at*
 simp only[bk,bz]at*
 exact⟨h.1,by omega⟩
theorem xC {n:Nat} {s:List UInt8} (h:iS n s=true):s.length<=n:=by
 unfold iS at h
 simp only[bk,bz]at h
 exact h.2
theorem alz (N:Nat) {b:List Int} {k:Int} {j:Nat} (h:dz b k j) (i:j<=100000):Def (CQ N b k) fun r=>iS 17 r.1=true/\dz r.2.1 r.2.2 (j+1):=by
 unfold CQ
 refine Def.bind (pe N (by decide) h (by omega)) fun r ⟨m1,g⟩=>Def.ret ⟨?_,g⟩
 exact(by decide:∀w,w∈([([99,97,116]:List UInt8),([67,97,116,115]:List UInt8),([100,111,103]:List UInt8),([100,111,103,115]:List UInt8),([114,117,110]:List UInt8),([82,85,78,78,73,78,71]:List UInt8),([116,104,101]:List UInt8),([114,101,100]:List UInt8),([98,105,103]:List UInt8),([110,101,119,32,121,111,114,107]:List UInt8),([78,101,119,32,32,89,111,114,107]:List UInt8),([110,121]:List UInt8),([102,111,120]:List UInt8),([112,97,115,115,101,100]:List UInt8),([120,49]:List UInt8),([97,118,101,114,121,118,101,114,121,108,111,110,103,119,111,114,100]:List UInt8)]:List (List UInt8))->iS 17 w=true) _ m1
theorem Sh (N:Nat) {b:List Int} {k:Int} {j:Nat} (h:dz b k j) (K:j<=30000) (L:20<=N):Def (xZ N b k) fun r=>iS 160 r.1=true/\dz r.2.1 r.2.2 (j+30):=by
 unfold xZ
 refine Def.bind (e7 N 9 h (by omega)) fun r ⟨A,p,_,B⟩=>?_
 have p:=p (by omega)
 refine Def.iter (fun g=>∃s:List UInt8,∃n:Nat,∃x y,n<=8/\iS (19*(8-n)) s=true/\dz x y (j+1+2*(8-n))/\g=(s,(n:Int),x,y)) (fun g=>g.2.1.toNat) ?_ N _ ⟨[],r.1.toNat,_,_,by omega,by unfold iS;simp,B.le (by omega),by rw[pC A]⟩ (by show r.1.toNat<N;omega)
 rintro go _ ⟨s,n,x,y,M,i,t,rfl⟩ o
 dsimp only
 have C:=xC i
 refine Def.bL (fun e=>?_) (fun e=>Def.ret ⟨QA i (by omega),t.le (by omega)⟩)
 refine Def.bind (alz N t (by omega)) fun F ⟨u,G⟩=>?_
 have H:=xC u
 refine Def.ite (by omega) ?_
 refine Def.bind (pe N (by decide) G (by omega)) fun v ⟨m3,I⟩=>?_
 have z:iS 2 v.1=true:=(by decide:∀w,w∈([([32]:List UInt8),([32]:List UInt8),([44,32]:List UInt8),([45]:List UInt8),([46,32]:List UInt8)]:List (List UInt8))->iS 2 w=true) _ m3
 have J:=xC z
 refine Def.ite (by rw[a1];omega) (Def.ite (by unfold fits;omega) (o _ ⟨(s++F.1)++v.1,n-1,_,_,by omega,QA (Qz (Qz i u) z) (by omega),I.le (by omega),?_⟩ ?_))
 .rw [show((n:Int)-1)=((n-1:Nat):Int)from by omega]
 .show ((n:Int)-1).toNat<(n:Int).toNat
  omega
structure gO (eD:List ei) (b2:List gl) (n:Nat):Prop where
 eU:eD.length<=n
 gR:b2.length<=n
 f:∀x,x∈eD->x.1.length<=1000/\x.2.length<=1000
 a:∀x,x∈b2->x.1.length<=4/\ -1<=x.2/\x.2<=1000000000
theorem gO.ok {eD:List ei} {b2:List gl} {n:Nat} (h:gO eD b2 n) (r:n<=1000) {id:Int} (t:0<=id/\id<=1000000):cz bF fE (id,eD,b2):=by
 have i:IntKind.i64.min=-9223372036854775808:=by decide
 have j:IntKind.i64.max=9223372036854775807:=by decide
 have o:=h.eU;have p:=h.gR
 refine⟨⟨by rw[i];show _<=id;omega,by rw[j];show id<=_;omega⟩,⟨by show eD.length<=1048576;omega,fun x g=>?_⟩,⟨by show b2.length<=1048576;omega,fun x g=>?_⟩⟩
 .have:=h.f x g
  exact⟨by show x.1.length<=1048576;omega,by show x.2.length<=1048576;omega⟩
 .have:=h.a x g
  exact⟨by show x.1.length<=1048576;omega,by rw[i];exact Int.le_trans (by decide) this.2.1,by rw[j];exact Int.le_trans this.2.2 (by decide)⟩
theorem gO.JN {eD:List ei} {b2:List gl} {n:Nat} (h:gO eD b2 n) {x:ei} (g:x.1.length<=1000) (i:x.2.length<=1000):gO (eD++ [x]) b2 (n+1):=by
 have j:=h.eU;have o:=h.gR
 refine⟨by simp only[a1,aZ,bE];omega,by omega,fun y hy=>?_,h.a⟩
 rcases cp.1 hy with hy|hy
 .exact h.f y hy
 .rw [c1.1 hy];exact⟨g,i⟩
theorem gO.JM {eD:List ei} {b2:List gl} {n:Nat} (h:gO eD b2 n) {x:gl} (g:x.1.length<=4) (i: -1<=x.2) (j:x.2<=1000000000):gO eD (b2++ [x]) (n+1):=by
 have o:=h.eU;have p:=h.gR
 refine⟨by omega,by simp only[a1,aZ,bE];omega,h.f,fun y hy=>?_⟩
 rcases cp.1 hy with hy|hy
 .exact h.a y hy
 .rw [c1.1 hy];exact⟨g,i,j⟩
theorem gO.le {eD:List ei} {b2:List gl} {n m:Nat} (h:gO eD b2 n) (hm:n<=m):gO eD b2 m:=⟨dK h.eU hm,dK h.gR hm,h.f,h.a⟩
theorem gO.nil :gO [] [] 0:=⟨bC _,bC _,(fun x g=>by cases g),(fun x g=>by cases g)⟩
theorem gO.room {n:Nat} {b:Nat} (h:n<=1000) (g:b<=1000):room n 1 b:=by
 have:(n+1)*b<=1001*1000:=sR (by omega) g
 exact b5 (by omega) (by omega)
abbrev r9 :List UInt8:=[98,111,100,121]
abbrev uC :List UInt8:=[116,105,116,108,101]
structure lK (eD:List ei) (eE:List (List UInt8)):Prop where
 names:(eD.map (·.1)).Sublist eE
 texts:∀x,x∈eD->iS 160 x.2=true
theorem lK.add {eD:List ei} {eE:List (List UInt8)} (h:lK eD eE) (n t:List UInt8) (i:iS 160 t=true):lK (eD++ [(n,t)]) (eE++ [n]):=by
 refine⟨?_,fun x g=>?_⟩
 .rw [iD]
  exact List.Sublist.append h.names (List.Sublist.refl _)
 .rcases cp.1 g with g|g
  .exact h.texts x g
  .rw [c1]at g;subst g;exact i
theorem lK.skip {eD:List ei} {eE:List (List UInt8)} (h:lK eD eE) (n:List UInt8):lK eD (eE++ [n]):=⟨h.names.trans (List.sublist_append_left _ _),h.texts⟩
theorem Va (N:Nat) (id:Int) {b:List Int} {k:Int} {j:Nat} (h:dz b k j) (X:j<=20000) (v:20<=N):Def (CP N id b k) fun r=>r.1=id/\(gO r.2.1 r.2.2.1 4/\lK r.2.1 [r9,uC]/\r.2.2.1.length<=2)/\dz r.2.2.2.1 r.2.2.2.2 (j+100):=by
 unfold CP
 refine Def.meet (fun g=>∃eD x y,gO eD [] 1/\lK eD [r9]/\dz x y (j+31)/\g=(0,id,eD,x,y)) ?_ fun J o=>?_
 .rintro _ ⟨eD,x,y,i,p,t,rfl⟩
  dsimp only
  refine Def.meet (fun g=>∃eD x y,gO eD [] 2/\lK eD [r9,uC]/\dz x y (j+65)/\g=(0,id,eD,x,y)) ?_ fun J o=>?_
  .rintro _ ⟨eD,x,y,i,p,t,rfl⟩
   dsimp only
   refine Def.meet (fun g=>∃eD b2 x y,gO eD b2 3/\(lK eD [r9,uC]/\b2.length<=1)/\dz x y (j+70)/\g=(0,id,eD,b2,x,y)) ?_ fun J o=>?_
   .rintro _ ⟨eD,b2,x,y,i,⟨p,Y⟩,t,rfl⟩
    dsimp only
    refine Def.bind (e7 N 3 t (by omega)) fun Z ⟨_,_,_,z⟩=>?_
    refine Def.bL (fun _=>?_) (fun _=>Def.ret ⟨rfl,⟨i.le (by omega),p,by dsimp only;omega⟩,z.le (by omega)⟩)
    refine Def.bind (e7 N 30 z (by omega)) fun pn ⟨H,u,_,I⟩=>?_
    have u:=u (by omega)
    have K:=i.gR
    exact Def.ite (by unfold fits;omega) (Def.ite (gO.room (by omega) (by omega)) (Def.ret ⟨rfl,⟨i.JM (by simp) (by dsimp only;omega) (by dsimp only;omega),p,by simp only[a1,aZ,bE];omega⟩,I.le (by omega)⟩))
   .refine Def.bind (e7 N 3 t (by omega)) fun uV ⟨_,_,_,A⟩=>?_
    refine Def.bL (fun _=>?_) (fun _=>o _ ⟨_,_,_,_,i.le (by omega),⟨p,by simp⟩,A.le (by omega),rfl⟩)
    refine Def.bind (e7 N 4 A (by omega)) fun L ⟨H,u,_,M⟩=>?_
    have u:=u (by omega)
    exact Def.ite (gO.room (by simp) (by omega)) (o _ ⟨_,_,_,_,i.JM (x:=(([114,97,116,101]:List UInt8),L.1)) (by simp) (by dsimp only;omega) (by dsimp only;omega),⟨p,by simp⟩,M.le (by omega),rfl⟩)
  .refine Def.bind (e7 N 3 t (by omega)) fun qG ⟨_,_,_,B⟩=>?_
   refine Def.bL (fun _=>?_) (fun _=>o _ ⟨_,_,_,i.le (by omega),p.skip uC,B.le (by omega),rfl⟩)
   refine Def.bind (Sh N B (by omega) v) fun O ⟨C,P⟩=>?_
   have Q:=i.eU
   have S:=xC C
   exact Def.ite (gO.room (by omega) (by omega)) (o _ ⟨_,_,_,i.JN (x:=(([116,105,116,108,101]:List UInt8),O.1)) (by simp) (by dsimp only;omega),p.add uC _ C,P.le (by omega),rfl⟩)
 .refine Def.bind (e7 N 6 h (by omega)) fun r ⟨_,_,_,F⟩=>?_
  have g0:lK [] []:=⟨List.Sublist.refl _,fun x T=>by cases T⟩
  refine Def.bL (fun _=>?_) (fun _=>o _ ⟨_,_,_,gO.nil.le (by omega),g0.skip r9,F.le (by omega),rfl⟩)
  refine Def.bind (Sh N F (by omega) v) fun U ⟨G,V⟩=>?_
  have W:=xC G
  exact Def.ite (gO.room (by simp) (by omega)) (o _ ⟨_,_,_,gO.nil.JN (x:=(([98,111,100,121]:List UInt8),U.1)) (by simp) (by dsimp only;omega),g0.add r9 _ G,V.le (by omega),rfl⟩)
structure DE (ad:List aC) (m:Int):Prop where
 cS:ad.length<=6
 ids:ad.Pairwise fun a b=>a.1<b.1
 top:∀d,d∈ad->1<=d.1/\d.1<=m
 each:∀d,d∈ad->cz bF fE d/\lK d.2.1 [r9,uC]/\d.2.2.length<=2
theorem KJ (N:Nat) {b:List Int} {k:Int} {j:Nat} (h:dz b k j) (P:j<=19000) (G:20<=N):Def (xW N b k) fun r=>DE r.1 100/\dz r.2.1 r.2.2 (j+700):=by
 unfold xW
 refine Def.bind (e7 N 6 h (by omega)) fun r ⟨H,v,_,I⟩=>?_
 have v:=v (by omega)
 refine Def.iter (fun g=>∃out:List aC,∃id:Int,∃n:Nat,∃x y,n<=6/\out.length+n<=6/\(0<=id/\id<=4*(6-n))/\DE out id/\dz x y (j+1+110*(6-n))/\g=(out,id,(n:Int),x,y)) (fun g=>g.2.2.1.toNat) ?_ N _ ⟨[],0,r.1.toNat,_,_,by omega,by simp;omega,by omega,⟨by simp,lC,(fun z i=>by cases i),(fun z i=>by cases i)⟩,I.le (by omega),by rw[pC H]⟩ (by show r.1.toNat<N;omega)
 rintro go _ ⟨out,id,n,x,y,Q,S,hid,o,A,rfl⟩ t
 dsimp only
 refine Def.bL (fun e=>?_) (fun e=>Def.ret ⟨⟨o.cS,o.ids,fun d B=>⟨(o.top d B).1,by have:=(o.top d B).2;omega⟩,o.each⟩,A.le (by omega)⟩)
 refine Def.ite (by unfold fits;omega) ?_
 refine Def.bind (e7 N 3 A (by omega)) fun J ⟨T,C,_,K⟩=>?_
 have C:=C (by omega)
 refine Def.ite (by unfold fits;omega) ?_
 refine Def.bind (Va N _ K (by omega) G) fun p ⟨L,u,M⟩=>?_
 refine Def.ite (b5 (by simp;omega) (by simp;omega)) (Def.ite (by unfold fits;omega) (t _ ⟨out++ [(p.1,p.2.1,p.2.2.1)],id+1+J.1,n-1,_,_,by omega,?_,by omega,⟨?_,?_,fun z i=>?_,fun z i=>?_⟩,M.le (by omega),?_⟩ ?_))
 .simp only [a1,aZ,bE];omega
 .simp only [a1,aZ,bE];omega
 .refine List.pairwise_append.2 ⟨o.ids,by simp,fun a O b F=>?_⟩
  rw[c1]at F
  subst F
  have:=(o.top a O).2
  show a.1<p.1
  omega
 .rcases cp.1 i with i|i
  .have:=o.top z i;omega
  .rw [c1]at i;subst i;dsimp only;omega
 .rcases cp.1 i with i|i
  .exact o.each z i
  .rw [c1.1 i];exact⟨u.1.ok (by omega) (by rw[L];omega),u.2.1,u.2.2⟩
 .rw [show((n:Int)-1)=((n-1:Nat):Int)from by omega]
 .show ((n:Int)-1).toNat<(n:Int).toNat
  omega
def QC (st:List (List UInt8)) (w:List UInt8):Bool:=okW w&&(decide (once w=none)&& !decide (w∈st))
def QB (st:List (List UInt8)) (y:eS):Bool:=(decide ((1:Int)<=y.1.length)&&decide ((y.1.length:Int)<=3))&&(okW y.2&&(decide (once y.2=none)&&y.1.all (QC st)))
def H9 (c:aL):Bool:=decide ((c.1.length:Int)<=6)&&(dL c.1.length (n7 c.1)&&(decide ((c.2.length:Int)<=4)&&c.2.all (QB c.1)))
theorem akW (c:aL) (h:H9 c=true):dQ c=true:=by
 unfold H9 at h
 unfold dQ
 simp only[bk,bz,cA]at h⊢
 refine⟨h.1,h.2.1,h.2.2.1,fun y hy=>?_⟩
 have g:=h.2.2.2 y hy
 unfold QB at g
 unfold n6
 simp only[bk,bz,cA]at g⊢
 refine⟨g.1,g.2.1,x5 g.2.2.1,fun w hw=>?_⟩
 have i:=g.2.2.2 w hw
 unfold QC at i
 unfold sd
 simp only[bk,bz]at i⊢
 exact⟨i.1,x5 i.2.1,i.2.2⟩
def EG (c:aL):Bool:=decide (c.1.length<=10)&&c.1.all (fun w=>decide (w.length<=20))&&decide (c.2.length<=10)&&c.2.all (fun y=>decide (y.1.length<=10)&&y.1.all (fun w=>decide (w.length<=20))&&decide (y.2.length<=20))
theorem Vz (c:aL) (h:EG c=true):cz bF gm c:=by
 unfold EG at h
 simp only[bk,bz,cA]at h
 obtain⟨⟨⟨p,i⟩,r⟩,j⟩:=h
 refine⟨⟨by show c.1.length<=1048576;omega,fun x g=>by have:=i x g;show x.length<=1048576;omega⟩,⟨by show c.2.length<=1048576;omega,fun y hy=>?_⟩⟩
 have o:=j y hy
 exact⟨⟨by show y.1.length<=1048576;omega,fun x g=>by have:=o.1.2 x g;show x.length<=1048576;omega⟩,by show y.2.length<=1048576;omega⟩
def C6 :List (List (List UInt8)):=[[],[[116,104,101]],[[100,111,103],[116,104,101]]]
def x6 :List (List eS):=[[],[([[110,101,119],[121,111,114,107]],[110,121])],[([[98,105,103]],[108,97,114,103]),([[98,105,103],[114,101,100],[102,111,120]],[102,111,120]),([[110,101,119],[121,111,114,107]],[110,121])]]
theorem Kp :∀s,s∈C6->∀y,y∈x6->H9 (s,y)=true/\EG (s,y)=true:=by decide+kernel
theorem UH (N:Nat) {b:List Int} {k:Int} {j:Nat} (h:dz b k j) (A:j<=10000):Def (CN N b k) fun r=>(dQ (r.1,r.2.1)=true/\cz bF gm (r.1,r.2.1))/\dz r.2.2.1 r.2.2.2 (j+3):=by
 have fin:∀s y,s∈C6->y∈x6->dQ (s,y)=true/\cz bF gm (s,y):=fun s y u hy=>⟨akW _ (Kp s u y hy).1,Vz _ (Kp s u y hy).2⟩
 unfold CN
 refine Def.meet (fun g=>∃c x y,c∈C6/\dz x y (j+1)/\g=(c,x,y)) ?_ fun J i=>?_
 .rintro _ ⟨c,x,y,o,p,rfl⟩
  dsimp only
  refine Def.meet (fun g=>∃c x y,c∈C6/\dz x y (j+2)/\g=(c,x,y)) ?_ fun J i=>?_
  .rintro _ ⟨c,x,y,o,p,rfl⟩
   dsimp only
   refine Def.bind (e7 N 4 p (by omega)) fun B ⟨_,_,_,t⟩=>?_
   refine Def.bL (fun _=>Def.ret ⟨fin _ _ o (by simp[x6]),t⟩) (fun _=>?_)
   exact Def.bL (fun _=>Def.ret ⟨fin _ _ o (by simp[x6]),t⟩) (fun _=>Def.ret ⟨fin _ _ o (by simp[x6]),t⟩)
  .refine Def.bind (e7 N 4 p (by omega)) fun C ⟨_,_,_,v⟩=>?_
   exact Def.bL (fun _=>i _ ⟨_,_,_,by decide,v,rfl⟩) (fun _=>i _ ⟨_,_,_,o,v,rfl⟩)
 .refine Def.bind (e7 N 3 h (by omega)) fun r ⟨_,_,_,z⟩=>?_
  exact Def.bL (fun _=>i _ ⟨_,_,_,by decide,z,rfl⟩) (fun _=>i _ ⟨_,_,_,by decide,z,rfl⟩)
structure anJ (c:aL) (s:cB):Prop where
 Ko:cz bF gm c
 ad:∀x,x∈s.1->cz bF fE x
 cS:s.1.length<=1048576
def pH (q:bf):Prop:=∀n,mq n q
theorem pH.mk' {k:Int} {f:List UInt8} {ws:List (List UInt8)} {a b:Int} {kids:List bf} (j:f.length<=1000) (o:ws.length<=1000) (g:∀w,w∈ws->w.length<=1000) (p:kids.length<=1000) (h:∀c,c∈kids->pH c):pH (.mk k f ws a b kids)
 |0=>True.intro
 |n+1=>⟨by show f.length<=_;omega,by show ws.length<=_;omega,fun w hw=>by have:=g w hw;omega,by show kids.length<=_;omega,fun c i=>h c i n⟩
theorem xx :([]:List UInt8).length<=100:=by decide
theorem uH :([]:List (List UInt8)).length<=100:=by decide
theorem uG :([]:List bf).length<=100:=by decide
structure Own (q:Int) (f:List UInt8) (ws:List (List UInt8)) (kids:List bf):Prop where
 f:f.length<=100
 n:ws.length<=100
 w:∀w,w∈ws->w.length<=100
 k:kids.length<=100
 c:∀c,c∈kids->pH c
theorem Own.pQ {q:Int} {f:List UInt8} {ws:List (List UInt8)} {a b:Int} {kids:List bf} (h:Own q f ws kids):pH (.mk q f ws a b kids):=
 pH.mk' (by have:=h.f;omega) (by have:=h.n;omega) (fun w hw=>by have:=h.w w hw;omega) (by have:=h.k;omega) h.c
theorem Hw (N:Nat) {b:List Int} {k:Int} {j:Nat} (h:dz b k j) (p:j<=200000):Def (uX N) fun i=>Def (kl N i b k) fun r=>r.1.length<=100/\dz r.2.1 r.2.2 (j+1):=by
 unfold uX
 refine Def.ret ?_
 refine Def.mono (pe N (by decide) h (by omega)) fun r ⟨m,o⟩=>⟨?_,o⟩
 have g:∀(l:List (List UInt8)),l.all (fun w=>decide (w.length<=100))=true->∀w,w∈l->w.length<=100:=fun l h w hw=>of_decide_eq_true (cA.1 h w hw)
 exact g _ (by decide) _ m
theorem PX (N:Nat) {b:List Int} {k:Int} {j:Nat} (h:dz b k j) (O:j<=100000):Def (xY N b k) fun r=>Own r.1 r.2.1 r.2.2.1 []/\dz r.2.2.2.2.2.1 r.2.2.2.2.2.2 (j+10):=by
 have g:∀c,c∈([]:List bf)->pH c:=fun c F=>by cases F
 unfold xY
 refine Def.bind (pe N (by decide) h (by omega)) fun r ⟨m,G⟩=>?_
 have t:r.1.length<=100:=(by decide:∀w,w∈([([98,111,100,121]:List UInt8),([98,111,100,121]:List UInt8),([116,105,116,108,101]:List UInt8)]:List (List UInt8))->w.length<=100) _ m
 refine Def.bind (e7 N 9 G (by omega)) fun P ⟨_,_,_,i⟩=>?_
 refine Def.bL (fun _=>Def.ret ⟨⟨xx,uH,(fun w hw=>by cases hw),uG,g⟩,i.le (by omega)⟩) (fun _=>?_)
 refine Def.bL (fun _=>?_) (fun _=>?_)
 .refine Def.bind (Hw N i (by omega)) fun H d3=>Def.bind d3 fun I ⟨B,v⟩=>?_
  refine Def.bind (Hw N v (by omega)) fun Q d5=>Def.bind d5 fun S ⟨T,J⟩=>?_
  refine Def.bind (e7 N 3 J (by omega)) fun U ⟨_,_,_,K⟩=>Def.ret ⟨⟨t,by simp,fun w hw=>?_,uG,g⟩,K.le (by omega)⟩
  simp only[bm,List.mem_nil_iff,or_false]at hw
  rcases hw with e|e<;>rw[e]<;>assumption
 refine Def.bL (fun _=>?_) (fun _=>?_)
 .refine Def.bind (pe N (by decide) i (by omega)) fun u ⟨m8,o⟩=>?_
  have z:u.1.length<=100:=(by decide:∀w,w∈([([99,111,116]:List UInt8),([100,117,103]:List UInt8),([114,110]:List UInt8),([102,111,103]:List UInt8)]:List (List UInt8))->w.length<=100) _ m8
  refine Def.bind (e7 N 2 o (by omega)) fun L ⟨M,p,_,A⟩=>?_
  have p:=p (by omega)
  exact Def.ite (by unfold fits;omega) (Def.ret ⟨⟨t,by simp,(fun w hw=>by rw[c1.1 hw];exact z),uG,g⟩,A.le (by omega)⟩)
 refine Def.bL (fun _=>?_) (fun _=>?_)
 .refine Def.bind (pe N (by decide) i (by omega)) fun u ⟨m8,o⟩=>?_
  have z:u.1.length<=100:=(by decide:∀w,w∈([([99,42]:List UInt8),([63,111,63]:List UInt8),([42,110]:List UInt8),([42]:List UInt8)]:List (List UInt8))->w.length<=100) _ m8
  exact Def.ret ⟨⟨t,by simp,(fun w hw=>by rw[c1.1 hw];exact z),uG,g⟩,o.le (by omega)⟩
 refine Def.bL (fun _=>?_) (fun _=>?_)
 .refine Def.bind (e7 N 4 i (by omega)) fun u ⟨M,p,_,o⟩=>?_
  refine Def.bind (e7 N 3 o (by omega)) fun L ⟨V,C,_,A⟩=>?_
  have p:=p (by omega)
  have C:=C (by omega)
  exact Def.ite (by unfold fits;omega) (Def.ret ⟨⟨by simp,uH,(fun w hw=>by cases hw),uG,g⟩,A.le (by omega)⟩)
 .refine Def.bind (Hw N i (by omega)) fun H d3=>Def.bind d3 fun I ⟨B,v⟩=>?_
  exact Def.ret ⟨⟨t,by simp,(fun w hw=>by rw[c1.1 hw];exact B),uG,g⟩,v.le (by omega)⟩
def lS :Nat->Nat
 |0=>10
 |n+1=>3*lS n+3
theorem Ec :∀n,10<=lS n
 |0=>bC _
 |n+1=>by have:=Ec n;show 10<=3*lS n+3;omega
theorem sl (N:Nat) (u:20<=N):∀(D deep:Nat),deep<D->∀ {b:List Int} {k:Int} {j:Nat},dz b k j->j+lS deep<=100000->deep<=10->Def (na N D (deep:Int) b k) fun r=>Own r.1 r.2.1 r.2.2.1 r.2.2.2.2.2.1/\dz r.2.2.2.2.2.2.1 r.2.2.2.2.2.2.2 (j+lS deep)
 |0,_,Q,_,_,_,_,_,_=>absurd Q (sQ _)
 |D+1,deep,Q,b,k,j,h,bR,V=>by
  have cr:=Ec deep
  rw[na]
  refine Def.bL (fun e=>?_) (fun e=>?_)
  .exact Def.bind (PX N h (by omega)) fun r ⟨o,F⟩=>Def.ret ⟨o,F.le (by omega)⟩
  obtain⟨d,rfl⟩:∃d,deep=d+1:=⟨deep-1,by omega⟩
  have W:lS (d+1)=3*lS d+3:=rfl
  have X:=Ec d
  have B:((d+1:Nat):Int)-1=(d:Int):=by omega
  refine Def.bind (e7 N 3 h (by omega)) fun kP ⟨_,_,_,S⟩=>?_
  refine Def.bL (fun _=>Def.bind (PX N S (by omega)) fun r ⟨o,F⟩=>Def.ret ⟨o,F.le (by omega)⟩) (fun _=>?_)
  refine Def.bind (e7 N 6 S (by omega)) fun qH ⟨_,_,_,C⟩=>?_
  refine Def.bL (fun _=>?_) (fun _=>?_)
  .refine Def.ite (by unfold fits;omega) ?_
   rw[B]
   refine Def.bind (sl N u D d (by omega) C (by omega) (by omega)) fun Y ⟨G,H⟩=>?_
   refine Def.ite (by unfold fits;omega) ?_
   refine Def.bind (sl N u D d (by omega) H (by omega) (by omega)) fun Z ⟨I,K⟩=>?_
   refine Def.ret ⟨⟨xx,uH,(fun w hw=>by cases hw),by simp,fun c i=>?_⟩,K.le (by omega)⟩
   simp only[bm,List.mem_nil_iff,or_false]at i
   rcases i with rfl|rfl
   .exact G.pQ
   .exact I.pQ
  refine Def.bL (fun _=>?_) (fun _=>?_)
  .refine Def.bind (e7 N 4 C (by omega)) fun sn ⟨n8,v,_,hv⟩=>?_
   have v:=v (by omega)
   refine Def.ite (by unfold fits;omega) (Def.ite (by unfold fits;omega) ?_)
   rw[B]
   refine Def.bind (sl N u D d (by omega) hv (by omega) (by omega)) fun pn ⟨akS,oP⟩=>?_
   exact Def.ret ⟨⟨xx,uH,(fun w hw=>by cases hw),by simp,(fun c i=>by rw[c1.1 i];exact akS.pQ)⟩,oP.le (by omega)⟩
  refine Def.meet (fun g=>∃(t:Bool) (x:List Int) (y:Int),dz x y (j+2)/\g=(((d+1:Nat):Int),t,0,([]:List UInt8),0,0,x,y)) ?_ fun J T=>?_
  .rintro _ ⟨t,x,y,z,rfl⟩
   dsimp only
   refine Def.bif (fun _=>?_) (fun _=>?_)
   .refine Def.ite (by unfold fits;omega) ?_
    rw[B]
    refine Def.bind (sl N u D d (by omega) z (by omega) (by omega)) fun Y ⟨G,H⟩=>?_
    refine Def.ite (by unfold fits;omega) ?_
    refine Def.bind (sl N u D d (by omega) H (by omega) (by omega)) fun Z ⟨I,K⟩=>?_
    refine Def.ret ⟨⟨xx,uH,(fun w hw=>by cases hw),by simp,fun c i=>?_⟩,K.le (by omega)⟩
    simp only[bm,List.mem_nil_iff,or_false]at i
    rcases i with rfl|rfl
    .exact G.pQ
    .exact I.pQ
   .refine Def.bind (e7 N 2 z (by omega)) fun A ⟨n8,v,_,L⟩=>?_
    have v:=v (by omega)
    refine Def.ite (by unfold fits;omega) ?_
    refine Def.iter (fun g=>∃(n:Nat) (kids:List bf) (x:List Int) (y:Int),kids.length+n<=3/\(∀c,c∈kids->pH c)/\dz x y (j+3+(3-n)*lS d)/\g=(((d+1:Nat):Int),(n:Int),0,([]:List UInt8),0,0,8,([]:List UInt8),0,0,kids,x,y)) (fun g=>g.2.1.toNat) ?_ N _
     ⟨(2+A.1).toNat,[],_,_,by simp;omega,(fun c i=>by cases i),L.le (by omega),by rw[pC (by omega)]⟩ (by show(2+A.1).toNat<N;omega)
    rintro go _ ⟨n,kids,x,y,cD,U,z,rfl⟩ M
    dsimp only
    refine Def.bL (fun di=>?_) (fun di=>?_)
    .refine Def.ite (by unfold fits;omega) ?_
     rw[B]
     have au:(3-n)*lS d<=2*lS d:=eh _ (by omega)
     refine Def.bind (sl N u D d (by omega) z (by omega) (by omega)) fun p ⟨O,P⟩=>?_
     refine Def.ite (b5 (by rw[bS];omega) (by rw[bS];omega)) (Def.ite (by unfold fits;omega) (M _ ⟨n-1,kids++ [bf.mk p.1 p.2.1 p.2.2.1 p.2.2.2.1 p.2.2.2.2.1 p.2.2.2.2.2.1],_,_,by rw[a1,bS];omega,fun c i=>?_,P.le ?_,by rw[show((n:Int)-1)=((n-1:Nat):Int)from by omega]⟩ (by show((n:Int)-1).toNat<((n:Int)).toNat;omega)))
     .rcases cp.1 i with i|i
      .exact U c i
      .rw [c1.1 i];exact O.pQ
     .have gA:3-(n-1)=(3-n)+1:=by omega
      rw[gA,ey,Nat.one_mul];omega
    .have au:(3-n)*lS d<=3*lS d:=eh _ (by omega)
     exact Def.ret ⟨⟨xx,uH,(fun w hw=>by cases hw),by dsimp only;omega,U⟩,z.le (by omega)⟩
  .exact Def.bL (fun _=>T _ ⟨_,_,_,C,rfl⟩) (fun _=>T _ ⟨_,_,_,C,rfl⟩)
theorem alw (N:Nat) (g:20<=N) {b:List Int} {k:Int} {j:Nat} (h:dz b k j) (i:j<=50000):Def (na N N 3 b k) fun r=>Own r.1 r.2.1 r.2.2.1 r.2.2.2.2.2.1/\dz r.2.2.2.2.2.2.1 r.2.2.2.2.2.2.2 (j+309):=
 sl N g N 3 (by omega) h (by show j+309<=_;omega) (by omega)
theorem one_def (N:Nat) {l:List Int} {b:List Int} {k:Int} {j:Nat} (u:0<l.length) (h:dz b k j) (g:j<=1000000):Def (su N l b k) fun r=>r.1∈l/\dz r.2.1 r.2.2 (j+1):=by
 unfold su
 refine Def.bind (e7 N _ h g) fun r ⟨i,o,_,p⟩=>?_
 exact Def.idx i (o (by omega)) fun x t _=>Def.ret ⟨t,p⟩
structure s8 (l:b0):Prop where
 ok:eM l.1.1=true
 num:∀n,n∈l.2-> -9223372036854775808<=n/\n<=9223372036854775807
theorem s8.of {c:aL} {l:b0} (h:gG c l=true):s8 l:=⟨uL (sc h).1,fun n g=>by
 unfold gG at h
 simp only[bk]at h
 have:=(pz h.2.1).2.2 n g
 omega⟩
structure fv (N:Nat) (x:ca):Prop where
 fit:ea N x
 cS:x.2.length<=6
 each:∀l,l∈x.2->pK l
 uI:∀l,l∈x.2->s8 l
theorem fv.zero {N:Nat} (h:bF<N) (i:N<=16777216):fv N yn:=
 ⟨ea.zero h i,bg _,(fun l g=>by cases g),(fun l g=>by cases g)⟩
theorem fv.of {N:Nat} {x:ca} (h:ea N x) (j:ct x=true):fv N x:=by
 obtain⟨o,p,i,r⟩:=gg j
 exact⟨h,by omega,fun l g=>.of (cA.1 i l g),fun l g=>.of (cA.1 i l g)⟩
theorem Ve {N:Nat} {x:ca} (h:ea N x) (id:Int) (hid: -9223372036854775808<=id/\id<=9223372036854775807):fv N (nD id x).1:=by
 have i:=Vd h id
 unfold nD at i⊢
 cases o:ct x with
 |false=>exact fv.zero h.dk h.top
 |true=>
  rw[o]at i
  obtain⟨u,v,r,z⟩:=gg o
  rw[ao]at i⊢
  have hlen:=hK (fun l:b0=>decide (l.2.length<l.1.1.length)) (x.2.map (ht id))
  rw[dX]at hlen
  refine⟨i,dK hlen (by omega),fun t g=>?_,fun t g=>?_⟩
  rotate_left
  .obtain ⟨l,j,rfl⟩:=cd.1 (hp.1 g).1
   have p:=s8.of (cA.1 r l j)
   unfold ht
   cases kG id l with
   |false=>exact p
   |true=>
    refine⟨p.ok,fun n hm=>?_⟩
    rw[ao]at hm
    rcases(IB id n l.2).1 hm with rfl|hm
    .exact hid
    .exact p.num n hm
  obtain⟨l,j,rfl⟩:=cd.1 (hp.1 g).1
  have he:=pK.of (cA.1 r l j)
  have A:=(EX id l).1
  have B:=y0 o l j
  exact⟨by rw[zm];exact he.dY,by rw[zm];exact he.small,by omega⟩
theorem JQ {N:Nat} {x:ca} (h:ea N x) {ad:List aC} (gu:∀d,d∈ad->cz bF fE d):fv N (lQ ad x).1:=by
 have g:=TO h gu
 unfold lQ at g⊢
 cases i:ct x with
 |false=>exact fv.zero h.dk h.top
 |true=>
  rw[i]at g
  rw[ao]at g⊢
  cases j:eM ad&&decide (0<ad.length)with
  |false=>exact fv.of h i
  |true=>
   rw[j]at g
   rw[ao]at g⊢
   cases hy:ct (ij ad x)with
   |false=>exact fv.of h i
   |true=>
    rw[hy]at g
    exact fv.of g hy
theorem akx {N:Nat} {x:ca} (h:ea N x) (at':Int):fv N (n1 at' x).1:=by
 have j:=akw h at'
 unfold n1 at j⊢
 cases r:ct x with
 |false=>exact fv.zero h.dk h.top
 |true=>
  rw[r]at j
  rw[ao]at j⊢
  cases t:decide (0<=at')&&decide (at'<=(x.2.length:Int)-2)with
  |false=>exact fv.of h r
  |true=>
   rw[t]at j
   rw[ao]at j⊢
   obtain⟨z,A,p,u⟩:=gg r
   generalize at'.toNat=k at*
   have o:((x.2.take (k+2)).drop k).Sublist x.2:=(List.drop_sublist _ _).trans (List.take_sublist _ _)
   have i:eM (mQ k x)=true:=Ic u (DQ o)
   refine⟨j,?_,fun v g=>?_,fun v g=>?_⟩
   rotate_right
   .rcases cp.1 g with g|g
    .rcases cp.1 g with g|g
     .exact s8.of (cA.1 p _ (fK g))
     .rw [c1]at g
      subst g
      exact⟨i,fun n h=>by cases h⟩
    .exact s8.of (cA.1 p _ (nq g))
   .show (x.2.take k++ [((mQ k x,eo x.1 (mQ k x)),([]:List Int))]++x.2.drop (k+2)).length<=_
    simp only[a1,bX,bS,eY]
    omega
   .rcases cp.1 g with g|g
    .rcases cp.1 g with g|g
     .exact pK.of (cA.1 p _ (fK g))
     .rw [c1]at g
      subst g
      exact⟨l9 i,vQ x.1 (l9 i),bg _⟩
    .exact pK.of (cA.1 p _ (nq g))
theorem YB {N:Nat} (i:bF<N) (j:N<=16777216) (c:aL) (cV:cz bF gm c):Def (xO N c.1 c.2) fun r=>fv N (r,[]):=
 (YA i j c cV).mono fun r h=>⟨h,bg _,(fun l g=>by cases g),(fun l g=>by cases g)⟩
theorem KM (N:Nat) (t:bF<N) (G:N<=16777216) {b:List Int} {k:Int} {j:Nat} (h:dz b k j) (V:j<=10):Def (xX N b k) fun r=>fv N ((r.1,r.2.1),r.2.2.1)/\dz r.2.2.2.1 r.2.2.2.2 7000:=by
 have H:1048576<N:=t
 unfold xX
 refine Def.bind (UH N h (by omega)) fun r ⟨⟨_,cV⟩,I⟩=>?_
 refine Def.bind (YB t G (r.1,r.2.1) cV) fun u J=>?_
 refine Def.bind (e7 N 7 I (by omega)) fun v ⟨K,A,_,L⟩=>?_
 have A:=A (by omega)
 refine Def.iter (fun g=>∃(n:Nat) (x:ca) (y:List Int) (z:Int),n<=6/\fv N x/\dz y z (j+10+900*(6-n))/\g=((n:Int),x.1.1,x.1.2,x.2,y,z)) (fun g=>g.1.toNat) ?_ N _ ⟨v.1.toNat,((u.1,u.2),[]),_,_,by omega,J,L.le (by omega),by rw[pC K]⟩ (by show v.1.toNat<N;omega)
 rintro go _ ⟨n,x,y,z,W,F,B,rfl⟩ o
 dsimp only
 refine Def.bL (fun e=>?_) (fun e=>Def.ret ⟨F,B.le (by omega)⟩)
 refine Def.bind (e7 N 5 B (by omega)) fun X ⟨Y,Z,_,p⟩=>?_
 have i:((n:Int)-1)=((n-1:Nat):Int):=by omega
 refine Def.bL (fun _=>?_) (fun _=>Def.bL (fun _=>?_) (fun _=>?_))
 .refine Def.bind (e7 N 8 p (by omega)) fun M ⟨O,s1,_,P⟩=>?_
  have s1:=s1 (by omega)
  refine Def.ite (by unfold fits;omega) ?_
  rw[Yw F.fit,af]
  refine Def.ite (by unfold fits;omega) (o _ ⟨n-1,(nD (1+M.1) x).1,_,_,by omega,Ve F.fit _ (by omega),P.le (by omega),by dsimp only;rw[i]⟩ (by show((n:Int)-1).toNat<(n:Int).toNat;omega))
 .refine Def.bind (e7 N 3 p (by omega)) fun Q ⟨O,s1,_,S⟩=>?_
  rw[Yy F.fit,af]
  refine Def.ite (by unfold fits;omega) (o _ ⟨n-1,(n1 Q.1 x).1,_,_,by omega,akx F.fit _,S.le (by omega),by dsimp only;rw[i]⟩ (by show((n:Int)-1).toNat<(n:Int).toNat;omega))
 .refine Def.bind (KJ N p (by omega) (by omega)) fun C ⟨vM,T⟩=>?_
  have gu:∀d,d∈C.1->cz bF fE d:=fun d U=>(vM.each d U).1
  rw[JO F.fit gu (by have:=vM.cS;omega),af]
  refine Def.ite (by unfold fits;omega) (o _ ⟨n-1,(lQ C.1 x).1,_,_,by omega,JQ F.fit gu,T.le (by omega),by dsimp only;rw[i]⟩ (by show((n:Int)-1).toNat<(n:Int).toNat;omega))
theorem fv.copy {N:Nat} {x:ca} (h:fv N x):mc N x.1.1 x.1.2 x.2=some (x.1.1,x.1.2,x.2):=
 yU N x (.of h.fit.dk h.fit.cV) (by have:=h.cS;omega) h.each
theorem u2 {α:Type} {l:List α} {n:Nat} {a x:α} (h:x∈l.set n a):x=a\/x∈l:=by
 rcases List.mem_or_eq_of_mem_set h with h|h
 .exact .inr h
 .exact .inl h
theorem fv.T6 {N:Nat} {x:ca} (h:fv N x) {l:b0} (g:l∈x.2):(∀d,d∈l.1.1->cz bF fE d)/\l.1.1.length<=1048576/\l.2.length<=1000:=
 ⟨(h.fit.each l g).1,(h.fit.each l g).2.1,(h.each l g).dead⟩
theorem TX (N:Nat) (v:bF<N) (z:N<=16777216) {b:List Int} {k:Int} {j:Nat} (h:dz b k j) (J:j<=10):Def (CL N b k) fun r=>ea N ((r.1,r.2.1),r.2.2.1)/\dz r.2.2.2.1 r.2.2.2.2 7010:=by
 unfold CL
 refine Def.bind (KM N v z h J) fun r ⟨F,G⟩=>?_
 have o:=F.fit
 have H:=F.copy
 dsimp only at H
 rw[H,af]
 dsimp only
 have u:=F.cS
 dsimp only at u
 refine Def.bL (fun e=>?_) (fun e=>Def.ret ⟨o,G.le (by omega)⟩)
 refine Def.bind (e7 N _ G (by omega)) fun I ⟨O,A,_,K⟩=>?_
 have A:=A (by omega)
 refine Def.bind (e7 N 16 K (by omega)) fun P ⟨_,_,_,B⟩=>?_
 obtain⟨n,L⟩:∃n:Nat,I.1=(n:Int):=⟨I.1.toNat,by omega⟩
 rw[L]at A⊢
 have p:n<r.2.2.1.length:=by omega
 have C:=F.T6 (bA p)
 have Q:=(F.each _ (bA p)).small.1
 have t:r.2.2.1[((n:Int)).toNat]? =some r.2.2.1[n]:=by rw[er];exact bH p
 have i:(0:Int)<=(n:Int)/\(n:Int)<r.2.2.1.length:=⟨by omega,A⟩
 refine Def.bL (fun _=>?_) (fun _=>Def.bL (fun _=>?_) (fun _=>Def.bL (fun _=>?_) (fun _=>Def.ret ⟨o,B.le (by omega)⟩)))
 .rw [t,af,ai i,af,ai rfl]
  refine Def.bind (one_def N (by decide) B (by omega)) fun S ⟨_,M⟩=>?_
  refine Def.ite (b5 (by rw[bS];omega) (by rw[bS];omega)) ?_
  rw[ai i,ai rfl,af]
  refine Def.ret ⟨⟨v,z,o.cV,by dsimp only;rw[mj];omega,fun l g=>?_⟩,M.le (by omega)⟩
  rcases u2 g with rfl|g
  .exact ⟨C.1,C.2.1,by dsimp only;rw[a1,bS];omega⟩
  .exact o.each l g
 .rw [ai i,t,af]
  refine Def.ite (b5 (by rw[bS];omega) (by rw[bS];omega)) ?_
  refine Def.ret ⟨⟨v,z,o.cV,by dsimp only;rw[a1,bS];omega,fun l g=>?_⟩,B.le (by omega)⟩
  rcases cp.1 g with g|g
  .exact o.each l g
  .rw [c1.1 g]
   exact o.each _ (bA p)
 .rw [t,af,ai i,af,ai rfl]
  refine Def.ite (b5 (by rw[bS];omega) (by rw[bS];omega)) ?_
  rw[ai i,ai rfl,af]
  refine Def.ret ⟨⟨v,z,o.cV,by dsimp only;rw[mj];omega,fun l g=>?_⟩,B.le (by omega)⟩
  rcases u2 g with rfl|g
  .exact ⟨C.1,C.2.1,by dsimp only;omega⟩
  .exact o.each l g
theorem Vc (N:Nat) (g:bF<N) (h:N<=16777216) {code:List Int} (i:ns code):Def (CB N code) fun r=>ea N ((r.1,r.2.1),r.2.2.1)/\mq 4 (.mk r.2.2.2.1 r.2.2.2.2.1 r.2.2.2.2.2.1 r.2.2.2.2.2.2.1 r.2.2.2.2.2.2.2.1 r.2.2.2.2.2.2.2.2.1)/\r.2.2.2.2.2.2.2.2.2<=16:=by
 have j:1048576<N:=g
 unfold CB
 refine Def.bind (QE N i) fun r o=>?_
 refine Def.bind (TX N g h o (by omega)) fun v ⟨F,p⟩=>?_
 refine Def.bind (alw N (by omega) p (by omega)) fun z ⟨t,u⟩=>?_
 refine Def.bind (one_def N (by decide) u (by omega)) fun A ⟨hm,_⟩=>?_
 refine Def.ret ⟨F,t.pQ 4,?_⟩
 simp only[bm,qW,or_false]at hm
 dsimp only
 omega
end Go.Proofs.YtnkagklajgimlaaGreatDoor
