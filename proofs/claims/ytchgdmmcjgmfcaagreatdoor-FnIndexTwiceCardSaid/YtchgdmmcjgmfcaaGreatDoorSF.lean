import Derived.Test.YtchgdmmcjgmfcaaGreatDoorSC
import Derived.Test.YtchgdmmcjgmfcaaGreatDoorSE
import Derived.Test.YtchgdmmcjgmfcaaGreatDoorQO
set_option linter.unusedVariables false
set_option linter.unusedSimpArgs false
namespace Go.Proofs.YtchgdmmcjgmfcaaGreatDoor
open Go.RowKit
def putD (l:List EDoc) (d:EDoc):List EDoc:=match l with
 | []=>[d]
 |x::r=>if x.1<d.1 then x::putD r d else d::x::r
theorem putD_perm (d:EDoc):∀l,(putD l d).Perm (d::l)
 | []=>List.Perm.refl _
 |x::r=>by
  unfold putD
  split
  .exact ((putD_perm d r).cons x).trans (List.Perm.swap d x r)
  .exact List.Perm.refl _
theorem jHS (d:EDoc):∀l,(l.Pairwise fun a b=>a.1<=b.1)->(putD l d).Pairwise fun a b=>a.1<=b.1
 | [],_=>by simp[putD]
 |x::r,h=>by
  rw[zas]at h
  unfold putD
  split
  .rename_i hx
   rw[zas]
   refine⟨fun y hy=>?_,jHS d r h.2⟩
   rcases zp.1 ((putD_perm d r).mem_iff.1 hy)with rfl|hy
   .omega
   .exact h.1 y hy
  .rename_i hx
   rw[zas,zas]
   refine⟨fun y hy=>?_,h⟩
   rcases zp.1 hy with rfl|hy
   .omega
   .have:=h.1 y hy;omega
def sortD (l:List EDoc):List EDoc:=l.foldl putD []
theorem jHM :∀(l acc:List EDoc),(acc.Pairwise fun a b=>a.1<=b.1)->(l.foldl putD acc).Perm (acc++l)/\(l.foldl putD acc).Pairwise fun a b=>a.1<=b.1
 | [],acc,h=>⟨by simp,h⟩
 |d::l,acc,h=>by
  rw[zaq]
  obtain⟨h1,h2⟩:=jHM l (putD acc d) (jHS d acc h)
  refine⟨h1.trans ?_,h2⟩
  refine((putD_perm d acc).append_right l).trans ?_
  rw[zbk]
  exact List.perm_middle.symm
theorem sortD_perm (l:List EDoc):(sortD l).Perm l:=by
 have:=(jHM l [] za4).1
 rwa[zaW]at this
theorem sortD_le (l:List EDoc):(sortD l).Pairwise fun a b=>a.1<=b.1:=(jHM l [] za4).2
theorem docs_to {R S:List EDoc} (hp:R.Perm S) (hR:R.Pairwise fun a b=>a.1<=b.1) (hS:S.Pairwise fun a b=>a.1<=b.1) (h:okDocs R=true):R=S:=by
 have hi:=(okDocs_ok h).inn.ids
 have hne:S.Pairwise fun a b=>a.1≠b.1:=(hp.pairwise_iff (fun {x y} h=>fun e=>h e.symm)).1 (hi.imp fun h e=>by omega)
 have hs:S.Pairwise fun a b=>a.1<b.1:=(hS.and hne).imp fun {a b} h=>by have:=h.1;have:=h.2;omega
 exact sorted_unique (fun a b:EDoc=>decide (a.1<b.1)) (fun a=>by simp) (fun a b c h k=>by rw[zw]at*;omega) R S (hi.imp fun h=>by rw[zw];exact h) (hs.imp fun h=>by rw[zw];exact h) fun x=>hp.mem_iff
theorem docs_same {R S:List EDoc} (hp:R.Perm S) (hR:R.Pairwise fun a b=>a.1<=b.1) (hS:S.Pairwise fun a b=>a.1<=b.1):okDocs R=okDocs S:=by
 cases h1:okDocs R with
 |true=>rw[<-docs_to hp hR hS h1,h1]
 |false=>
  cases h2:okDocs S with
  |false=>rfl
  |true=>rw[<-docs_to hp.symm hS hR h2,h2]at h1;cases h1
abbrev ELive :Type:=ESeg×List Int
abbrev EIndex :Type:=EConf×List ELive
def alive (l:ELive):List EDoc:=l.1.1.filter fun d=> !decide (d.1∈l.2)
def allD (ls:List ELive):List EDoc:=ls.flatMap alive
theorem alive_len (l:ELive) (hi:l.1.1.Pairwise fun a b=>a.1<b.1) (hd:l.2.Nodup) (hs:∀n,n∈l.2->∃d,d∈l.1.1/\d.1=n):(alive l).length+l.2.length=l.1.1.length:=by
 have h1:(l.1.1.filter fun d=>decide (d.1∈l.2)).length=l.2.length:=by
  have hp:((l.1.1.filter fun d=>decide (d.1∈l.2)).map (·.1)).Perm l.2:=by
   refine(List.perm_ext_iff_of_nodup ?_ hd).2 fun n=>?_
   .have:((l.1.1.map (·.1))).Nodup:=by
     refine zbb.2 (hi.imp fun h e=>?_)
     have:=h;omega
    exact List.Nodup.sublist (List.filter_sublist.map _) this
   .rw [zab]
    constructor
    .rintro ⟨d,hd,rfl⟩
     exact of_decide_eq_true (zaZ.1 hd).2
    .intro hn
     obtain⟨d,hd,rfl⟩:=hs n hn
     exact⟨d,zaZ.2 ⟨hd,zb hn⟩,rfl⟩
  rw[<-hp.length_eq,zar]
 unfold alive
 rw[<-h1]
 have:∀(xs:List EDoc) (p:EDoc->Bool),(xs.filter fun d=> !p d).length+(xs.filter p).length=xs.length:=by
  intro xs p
  induction xs with
  |nil=>rfl
  |cons x xs ih=>
   rw[za9,za9,zi]
   cases p x<;>simp<;>omega
 exact this l.1.1 _
theorem not_take_succ {l:List Int} {a:Int} {n:Nat} (hn:n<l.length) (h:a∉l.take n) (e:¬a=l[n]):a∉l.take (n+1):=by
 rw[zo hn,zaB,zaD]
 rintro(h'|h')
 .exact h h'
 .exact e h'
theorem jI0 (N:Nat) (l:List Int) (a:Int) (h:l.length<N) (hN:N<=1099511627776):Def (jHJ N l a) fun r=>(r=-1/\a∉l)\/ ∃j:Nat,r=(j:Int)/\j<l.length/\l[j]? =some a/\a∉l.take j:=by
 unfold jHJ
 refine Def.upto l.length (fun n g=>a∉l.take n/\g=(l,a,(l.length:Int),(n:Int))) ?_ ?_ N 0 _ (zaf _) ⟨by simp,rfl⟩ (by omega)
 .rintro go _ ⟨hm,rfl⟩
  dsimp only
  rw[zd (zm _),ze]
  rw[zq]at hm
  exact Def.ret (.inl ⟨rfl,hm⟩)
 .rintro go n _ hn ⟨hm,rfl⟩ hgo
  dsimp only
  rw[zb (by omega:(n:Int)<l.length),zg,idx_at hn,za]
  refine Def.dif (fun e=>Def.ret (.inr ⟨n,rfl,hn,by rw[zc hn,e],hm⟩)) (fun e=>?_)
  exact Def.ite (fits_nat (n:=n) (by omega)) (hgo _ ⟨not_take_succ hn hm e,by rw[cast_succ']⟩)
theorem containsI_spec (N:Nat) (l:List Int) (n:Int) (h:l.length<N) (hN:N<=1099511627776):jHG N l n=some (decide (n∈l)):=by
 obtain⟨r,hr,hc⟩:=jI0 N l n h hN
 unfold jHG
 rw[hr,za]
 rcases hc with⟨rfl,hn⟩|⟨j,rfl,hj,he,_⟩
 .rw [zd hn];rfl
 .have hm:n∈l:=by
   rw[zc hj]at he
   have e:=Option.some.inj he
   exact e▸zr hj
  rw[zb hm,zb (by omega)]
theorem l8Has_spec (N:Nat) (l:List Int) (n:Int) (h:l.length<N) (hN:N<=1099511627776):jHH N l n=some (decide (n∈l)):=by
 unfold jHH
 refine(iter_scan _ l.length (fun k=>(l,n,(k:Int))) (fun k=>some (decide (n∈l.drop k))) (fun go=>?_) (fun go k hk hgo=>?_) N 0 (zaf _) (by omega)).trans (by simp)
 .dsimp only
  rw[zd (zm _),ze]
  simp
 .dsimp only
  rw[zb (by omega:(k:Int)<l.length),zg,idx_at hk,za,zan hk]
  by_cases e:l[k]=n
  .rw [zb e,zg,e];simp
  .rw [zd e,ze,zf (fits_nat (n:=k) (by omega))]
   simp only[cast_succ']at hgo
   rw[hgo]
   have e':¬n=l[k]:=fun h=>e h.symm
   simp only[zp,e',false_or]
theorem alive_take (l:ELive) {n:Nat} (h:n<l.1.1.length):(l.1.1.take (n+1)).filter (fun d=> !decide (d.1∈l.2))=bif decide (l.1.1[n].1∈l.2)then(l.1.1.take n).filter (fun d=> !decide (d.1∈l.2))else(l.1.1.take n).filter (fun d=> !decide (d.1∈l.2))++ [l.1.1[n]]:=by
 rw[zo h,za6]
 cases e:decide (l.1.1[n].1∈l.2)<;>simp[za9,e]
theorem alive_spec (N:Nat) (hM:1048576<N) (hN:N<=16777216) (l:ELive) (h1:l.1.1.length<=1000) (h2:l.2.length<=1000):jHE N l.1.1 l.1.2 l.2=some (alive l):=by
 unfold jHE alive
 refine(iter_scan _ l.1.1.length (fun n=>((l.1.1.take n).filter (fun d=> !decide (d.1∈l.2)),l.1.1,(l.1.1.length:Int),(n:Int),l.1.1,l.1.2,l.2)) (fun n=>some (l.1.1.filter fun d=> !decide (d.1∈l.2))) (fun go=>?_) (fun go n hn hgo=>?_) N 0 (zaf _) (by omega)).trans rfl
 .dsimp only
  rw[zd (zm _),ze,zq]
 .dsimp only
  have hll:((l.1.1.take n).filter (fun d=> !decide (d.1∈l.2))).length<=1000:=zau (zbh _ _) (by rw[zah];omega)
  simp only[cast_succ',alive_take l hn]at hgo
  generalize(l.1.1.take n).filter (fun d=> !decide (d.1∈l.2))=out at*
  rw[zb (by omega:(n:Int)<l.1.1.length),zg,idx_at hn,za,containsI_spec N _ _ (by omega) (by omega),za,zf (room_of (by rw[zbE];omega) (by rw[zbE];omega)),<-hgo]
  simp only[zf (fits_nat (n:=n) (by omega))]
  cases decide (l.1.1[n].1∈l.2)<;>rfl
def okLive (c:EConf) (l:ELive):Bool:=okSeg c l.1&&(upB l.2&&(decide (l.2.length<l.1.1.length)&&l.2.all fun n=>(docOf l.1.1 n).isSome))
theorem jIJ (c:EConf) (l:ELive):(okSeg c l.1&&(upB l.2&&((l.2.all fun n=>(docOf l.1.1 n).isSome)&&decide (0<(alive l).length))))=okLive c l:=by
 unfold okLive
 cases hs:okSeg c l.1 with
 |false=>rfl
 |true=>
  cases hu:upB l.2 with
  |false=>rfl
  |true=>
   cases ha:l.2.all fun n=>(docOf l.1.1 n).isSome with
   |false=>simp
   |true=>
    have hi:=(okSeg_ok hs).2.1.inn.ids
    have hd:l.2.Nodup:=by
     have:=(upB_up hu).1
     exact this.imp fun h e=>by have:=h;omega
    have:=alive_len l hi hd fun n hn=>by
     have h1:=zax.1 ha n hn
     cases hdn:docOf l.1.1 n with
     |none=>rw[hdn]at h1;cases h1
     |some d=>exact⟨d,docOf_some hdn⟩
    rw[zaj,zaV]
    congr 2
    rw[zbH,zw,zw]
    omega
theorem dead_scan {δ:Type} (docs:List EDoc) (xs:List Int) (N:Nat) (hN:xs.length<N) (F:(δ->Option Bool)->δ->Option Bool) (st:Nat->δ) (fin:Option Bool) (hend:∀go,F go (st xs.length)=fin)
  (hstep:∀go n (hn:n<xs.length),F go (st n)=bif(docOf docs xs[n]).isSome then go (st (n+1))else some false):iter F N (st 0)=bif xs.all (fun n=>(docOf docs n).isSome)then fin else some false:=
 check_list F xs st (fun n=>(docOf docs n).isSome) (some false) fin hend hstep N hN
theorem liveOk_spec (N:Nat) (hM:Sm<N) (hN:N<=16777216) (c:EConf) (oc:okD Sm TConf c) (l:ELive) (od:∀x,x∈l.1.1->okD Sm TDoc x) (h1:l.1.1.length<=1048576) (h2:l.2.length<=1048576):jHI N c.1 c.2 l.1.1 l.1.2 l.2=some (okLive c l):=by
 have hM':1048576<N:=hM
 rw[<-jIJ]
 unfold jHI
 rw[segOk_spec N hM hN c oc l.1 od h1,za,jDN N hM (by omega) l.2 h2,za]
 cases hs:okSeg c l.1 with
 |false=>rfl
 |true=>
  cases hu:upB l.2 with
  |false=>rfl
  |true=>
   have hf:=(okSeg_ok hs).2.1.few
   have hul:=(upB_up hu).2.1
   simp only[zn,ze,zaj]
   refine(dead_scan l.1.1 l.2 N (by omega) _ (fun n=>(l.2,(l.2.length:Int),(n:Int),l.1.1,l.1.2,l.2)) (some (decide (0<(alive l).length))) (fun go=>?_) (fun go n hn=>?_)).trans ?_
   .dsimp only
    rw[zd (zm _),ze,alive_spec N hM' hN l (by omega) (by omega),za]
    congr 1
    rw[zbH,zw,zw]
    omega
   .dsimp only
    have hsd:=segDoc_spec N l.1 l.2[n] (by omega) hN
    rw[zb (by omega:(n:Int)<l.2.length),zg,idx_at hn,za]
    rw[show((l.1.1,l.1.2):ESeg)=l.1 from rfl,hsd,za,zf (fits_nat (n:=n) (by omega)),cast_succ']
    cases docOf l.1.1 l.2[n]<;>rfl
   .cases l.2.all fun n=>(docOf l.1.1 n).isSome<;>rfl
structure Short (d:EDoc):Prop where
 f:d.2.1.length<=3
 a:d.2.2.length<=3
theorem cut_take' {Y:Type} (xs:List Y) (n:Nat) (h:n<=xs.length):cut xs 0 (n:Int)=some (xs.take n):=by
 unfold cut
 rw[zf ⟨by omega,by omega,by omega⟩]
 simp
theorem cut_drop' {Y:Type} (xs:List Y) (n:Nat) (h:n<=xs.length):cut xs (n:Int) (xs.length:Int)=some (xs.drop n):=by
 unfold cut
 rw[zf ⟨by omega,by omega,by omega⟩]
 simp
theorem putD_at (d:EDoc):∀(l:List EDoc) (n:Nat),n<=l.length->(∀x,x∈l.take n->x.1<d.1)->(∀h:n<l.length,¬l[n].1<d.1)->putD l d=l.take n++ [d]++l.drop n
 | [],n,h,_,_=>by simp at h;subst h;rfl
 |x::r,0,_,_,h2=>by
  have:=h2 (by simp)
  unfold putD
  rw[zu (by simpa using this)]
  rfl
 |x::r,n+1,h,h1,h2=>by
  have hx:=h1 x (by rw[zbG];simp)
  unfold putD
  rw[zf hx,putD_at d r n (by simpa using h) (fun y hy=>h1 y (by rw[zbG];simp[hy])) (fun h'=>by
   have:=h2 (by simp;omega)
   simpa using this)]
  rfl
theorem putDoc_spec (N:Nat) (hM:1048576<N) (l:List EDoc) (d:EDoc) (hd:Short d) (hl:l.length<=1000):s_l18Put_m N l d.1 d.2.1 d.2.2=some (putD l d):=by
 refine Def.get ?_
 unfold s_l18Put_m
 have stop:∀n:Nat,n<=l.length->(∀x,x∈l.take n->x.1<d.1)->(∀h:n<l.length,¬l[n].1<d.1)->Def (Option.bind (cut l 0 (n:Int)) fun y=>if room ([]:List EDoc).length y.length 56 then Option.bind (s_l7CopyDoc_m N d.1 d.2.1 d.2.2) fun r=>if room (([]:List EDoc)++y).length ([r]:List EDoc).length 56 then Option.bind (cut l (n:Int) (l.length:Int)) fun y2=>if room ((([]:List EDoc)++y)++([r]:List EDoc)).length y2.length 56 then some (((([]:List EDoc)++y)++([r]:List EDoc))++y2)else none else none else none) fun r=>r=putD l d:=fun n hn h1 h2=>by
  rw[cut_take' l n hn,za,zf (room_of (by rw[zah];simp;omega) (by rw[zah];simp;omega)),l7CopyDoc_spec N d hd.f hd.a,za,
   zf (room_of (by rw[zam,zah,zbE];simp;omega) (by rw[zam,zah,zbE];simp;omega)),cut_drop' l n hn,za,
   zf (room_of (by simp only[zam,zah,zbE,zaQ,zac];omega) (by simp only[zam,zah,zbE,zaQ,zac];omega))]
  exact Def.ret (by rw[putD_at d l n hn h1 h2,zaW])
 refine Def.upto l.length (fun n g=>(∀x,x∈l.take n->x.1<d.1)/\g=(l,(n:Int),d.1,d.2.1,d.2.2)) ?_ ?_ N 0 _ (zaf _) ⟨fun x hx=>by simp at hx,rfl⟩ (by omega)
 .rintro go _ ⟨h1,rfl⟩
  dsimp only
  rw[zd (zm _),ze]
  exact stop l.length (zae _) h1 fun h=>absurd h (Nat.lt_irrefl _)
 .rintro go n _ hn ⟨h1,rfl⟩ hgo
  dsimp only
  rw[zb (by omega:(n:Int)<l.length),zg,idx_at hn,za]
  refine Def.dif (fun e=>Def.ite (fits_nat (n:=n) (by omega)) (hgo _ ⟨fun x hx=>?_,by rw[cast_succ']⟩)) (fun e=>stop n (by omega) h1 fun _=>e)
  rw[zo hn,zaB,zaD]at hx
  rcases hx with hx|rfl
  .exact h1 x hx
  .exact e
theorem putD_len (l:List EDoc) (d:EDoc):(putD l d).length=l.length+1:=(putD_perm d l).length_eq
theorem foldD_len (l acc:List EDoc):(l.foldl putD acc).length=acc.length+l.length:=by
 induction l generalizing acc with
 |nil=>rfl
 |cons d l ih=>rw[zaq,ih,putD_len,zi];omega
structure Pieces (ls:List ELive):Prop where
 few:ls.length<=5
 docs:∀l,l∈ls->l.1.1.length<=16/\l.2.length<=60/\∀d,d∈l.1.1->Short d
theorem Pieces.len {ls:List ELive} (h:Pieces ls) (n:Nat):(allD (ls.take n)).length<=80:=by
 have key:∀L:List ELive,(∀l,l∈L->l.1.1.length<=16)->(allD L).length<=16*L.length:=by
  intro L
  induction L with
  |nil=>intro _;exact zaf _
  |cons a L ih=>
   intro hL
   have h3:=hL a (by simp)
   have h4:=ih fun l hl=>hL l (by simp[hl])
   have h5:(alive a).length<=a.1.1.length:=zbh _ _
   unfold allD at*
   rw[zbu,zam,zi]
   omega
 have:=key (ls.take n) fun l hl=>(h.docs l (zaP hl)).1
 have:=h.few
 rw[zah]at*
 omega
theorem docs_spec (N:Nat) (hM:1048576<N) (hN:N<=16777216) (c:EConf) (ls:List ELive) (h:Pieces ls):s_l18Docs_m N c.1 c.2 ls=some (sortD (allD ls)):=by
 have hfew:=h.few
 refine Def.get ?_
 unfold s_l18Docs_m
 refine Def.upto ls.length (fun n g=>g=(sortD (allD (ls.take n)),(n:Int),c.1,c.2,ls)) ?_ ?_ N 0 _ (zaf _) rfl (by omega)
 .rintro go _ rfl
  dsimp only
  rw[zd (zm _),ze,zq]
  exact Def.ret rfl
 .rintro go n _ hn rfl hgo
  dsimp only
  have hm:=zr hn
  obtain⟨b1,b2,b3⟩:=h.docs _ hm
  have hlen:=h.len n
  rw[zb (by omega:(n:Int)<ls.length),zg]
  refine Def.upto ls[n].1.1.length (fun k g=>g=(((ls[n].1.1.take k).filter (fun d=> !decide (d.1∈ls[n].2))).foldl putD (sortD (allD (ls.take n))),(n:Int),(k:Int),c.1,c.2,ls)) ?_ ?_ N 0 _ (zaf _) rfl (by omega)
  .rintro go2 _ rfl
   dsimp only
   rw[idx_at hn,za,zd (zm _),ze]
   refine Def.ite (fits_nat (n:=n) (by omega)) (hgo _ ?_)
   rw[zq,zo hn,cast_succ']
   unfold allD sortD
   rw[List.flatMap_append,zaX]
   simp[alive]
  .rintro go2 k _ hk rfl hgo2
   dsimp only
   have hol:(((ls[n].1.1.take k).filter (fun d=> !decide (d.1∈ls[n].2))).foldl putD (sortD (allD (ls.take n)))).length<=200:=by
    rw[foldD_len,(sortD_perm _).length_eq]
    have:=zbh (fun d:EDoc=> !decide (d.1∈ls[n].2)) (ls[n].1.1.take k)
    rw[zah]at this
    omega
   have hd8:s_l18Dead_m N ls[n].1.1 ls[n].1.2 ls[n].2 ls[n].1.1[k].1=some (decide (ls[n].1.1[k].1∈ls[n].2)):=by
    unfold s_l18Dead_m
    rw[l8Has_spec N _ _ (by omega) (by omega),za]
   rw[idx_at hn,za,zb (by omega:(k:Int)<ls[n].1.1.length),zg,za,idx_at hk,za,za,hd8,za]
   have hnx:=alive_take ls[n] hk
   cases hv:decide (ls[n].1.1[k].1∈ls[n].2)with
   |true=>
    rw[hv,zg]at hnx
    rw[zn,ze]
    exact Def.ite (fits_nat (n:=k) (by omega)) (hgo2 _ (by rw[hnx,cast_succ']))
   |false=>
    rw[hv,ze]at hnx
    rw[zaI,zg,putDoc_spec N hM _ _ (b3 _ (zr hk)) (by omega),za]
    exact Def.ite (fits_nat (n:=k) (by omega)) (hgo2 _ (by rw[hnx,cast_succ',zaX];rfl))
theorem check_all {Y δ Z:Type} (F:(δ->Option Z)->δ->Option Z) (xs:List Y) (st:Nat->δ) (P:Y->Bool) (no fin:Option Z) (hend:xs.all P=true->∀go,F go (st xs.length)=fin)
  (hstep:∀go n (hn:n<xs.length),F go (st n)=bif P xs[n]then go (st (n+1))else no) (N:Nat) (h:xs.length<N):iter F N (st 0)=bif xs.all P then fin else no:=by
 cases ht:xs.all P with
 |true=>
  rw[check_list F xs st P no fin (hend ht) hstep N h,ht]
 |false=>
  rw[ze]
  refine fail_at F xs st P no hstep N 0 (by omega) ?_
  rw[List.all_eq_false]at ht
  obtain⟨a,ha,hp⟩:=ht
  obtain⟨k,hk,rfl⟩:=zav.1 ha
  exact⟨k,hk,zaf _,by simpa using hp⟩
structure FitI (N:Nat) (x:EIndex):Prop where
 big:Sm<N
 top:N<=16777216
 oc:okD Sm TConf x.1
 len:x.2.length<=1048576
 each:∀l,l∈x.2->(∀d,d∈l.1.1->okD Sm TDoc d)/\l.1.1.length<=1048576/\l.2.length<=1048576
theorem okLive_ok {c:EConf} {l:ELive} (h:okLive c l=true):okSeg c l.1=true/\l.1.1.length<=16/\l.2.length<=60/\∀d,d∈l.1.1->Short d:=by
 unfold okLive at h
 rw[zj,zj]at h
 have hd:=(okSeg_ok h.1).2.1
 exact⟨h.1,hd.few,(upB_up h.2.1).2.1,fun d hm=>⟨(hd.each d hm).1,(hd.each d hm).2.1⟩⟩
theorem pieces_of {c:EConf} {ls:List ELive} (h5:ls.length<=5) (h:(ls.all (okLive c))=true):Pieces ls:=
 ⟨h5,fun l hl=>by
  obtain⟨_,h1,h2,h3⟩:=okLive_ok (zax.1 h l hl)
  exact⟨h1,h2,h3⟩⟩
def okIdx (x:EIndex):Bool:=okConf x.1&&(decide ((x.2.length:Int)<=5)&&(x.2.all (okLive x.1)&&okDocs (sortD (allD x.2))))
theorem okIdx_ok {x:EIndex} (h:okIdx x=true):okConf x.1=true/\x.2.length<=5/\(x.2.all (okLive x.1))=true/\okDocs (sortD (allD x.2))=true:=by
 unfold okIdx at h
 rw[zj,zj,zj,zw]at h
 exact⟨h.1,by omega,h.2.2.1,h.2.2.2⟩
theorem all_docs {ls:List ELive} {P:EDoc->Prop} (h:∀l,l∈ls->∀d,d∈l.1.1->P d):∀d,d∈allD ls->P d:=fun d hd=>by
 unfold allD alive at hd
 rw[zaT]at hd
 obtain⟨l,hl,hd⟩:=hd
 exact h l hl d (zaZ.1 hd).1
theorem sort_docs {ls:List ELive} {P:EDoc->Prop} (h:∀l,l∈ls->∀d,d∈l.1.1->P d):∀d,d∈sortD (allD ls)->P d:=fun d hd=>all_docs h d ((sortD_perm _).mem_iff.1 hd)
theorem sort_len {ls:List ELive} (h:Pieces ls):(sortD (allD ls)).length<=80:=by
 rw[(sortD_perm _).length_eq]
 have:=h.len ls.length
 rwa[zq]at this
theorem l18Ok_spec {N:Nat} {x:EIndex} (h:FitI N x):s_l18Ok_m N x.1.1 x.1.2 x.2=some (okIdx x):=by
 have hM:1048576<N:=h.big
 have hN:=h.top
 have hlx:=h.len
 have e0:okIdx x=bif x.2.all (okLive x.1)then(okConf x.1&&(decide ((x.2.length:Int)<=5)&&okDocs (sortD (allD x.2))))else false:=by
  unfold okIdx
  cases okConf x.1<;>cases decide ((x.2.length:Int)<=5)<;>cases x.2.all (okLive x.1)<;>rfl
 unfold s_l18Ok_m
 refine(check_all _ x.2 (fun n=>((n:Int),x.1.1,x.1.2,x.2)) (okLive x.1) (some false) (some (okConf x.1&&(decide ((x.2.length:Int)<=5)&&okDocs (sortD (allD x.2))))) (fun hall go=>?_) (fun go n hn=>?_) N (by omega)).trans ?_
 .dsimp only
  rw[zd (zm _),ze,l2Ok_spec N h.big (by omega) x.1 h.oc,za]
  cases hc:okConf x.1 with
  |false=>rfl
  |true=>
   by_cases h5:(x.2.length:Int)<=5
   .have hp:=pieces_of (c:=x.1) (by omega) hall
    rw[zb h5,zg,zg,docs_spec N hM hN x.1 x.2 hp,za,l6Docs_spec N h.big (by omega) _ (sort_docs fun l hl=>(h.each l hl).1) (by have:=sort_len hp;omega),za]
    rfl
   .rw [zd h5]
    rfl
 .dsimp only
  have hm:=zr hn
  obtain⟨od,h1,h2⟩:=h.each _ hm
  rw[zb (by omega:(n:Int)<x.2.length),zg,idx_at hn,za,l7Ok_spec N h.big hN x.1 h.oc x.2[n].1 od h1,za]
  have e1:okLive x.1 x.2[n]=(okSeg x.1 x.2[n].1&&(upB x.2[n].2&&(decide (x.2[n].2.length<x.2[n].1.1.length)&&x.2[n].2.all fun m=>(docOf x.2[n].1.1 m).isSome))):=rfl
  rw[e1]
  cases hs:okSeg x.1 x.2[n].1 with
  |false=>rfl
  |true=>
   rw[zn,ze,l3Up_spec N h.big (by omega) _ h2,za]
   cases hu:upB x.2[n].2 with
   |false=>rfl
   |true=>
    have hf:=(okSeg_ok hs).2.1.few
    have hul:=(upB_up hu).2.1
    have g:GoodS N x.1 x.2[n].1:=⟨h.big,hN,h.oc,od,hs⟩
    rw[zn,ze,zaj,zaj]
    by_cases hlen:x.2[n].2.length<x.2[n].1.1.length
    .rw [zb hlen,zaj,zd (by omega:¬((x.2[n].1.1.length:Int)<=(x.2[n].2.length:Int))),ze]
     refine(dead_scan x.2[n].1.1 x.2[n].2 N (by omega) _ (fun k=>((n:Int),(k:Int),false,false,x.1.1,x.1.2,x.2,x.2[n].1.1,x.2[n].1.2,x.2[n].2)) (go (((n+1:Nat):Int),x.1.1,x.1.2,x.2)) (fun go2=>?_) (fun go2 k hk=>?_)).trans ?_
     .dsimp only
      rw[zd (zm _),ze,zf (fits_nat (n:=n) (by omega)),cast_succ']
     .dsimp only
      have hid:∀d,docOf x.2[n].1.1 x.2[n].2[k]=some d->¬d.1=0:=fun d hd e=>by
       have h3:=docOf_some hd
       have h4:=okDoc_each (okSeg_docs hs) d h3.1
       unfold okDoc at h4
       simp only[zj,zw]at h4
       omega
      rw[zb (by omega:(k:Int)<x.2[n].2.length),zg,idx_at hk,za,l12Doc_spec N g,za,zf (fits_nat (n:=k) (by omega)),cast_succ']
      cases hd:docOf x.2[n].1.1 x.2[n].2[k]with
      |none=>rfl
      |some d=>
       show(bif decide (d.1=0)then _ else _)=_
       rw[zd (hid d hd)]
       rfl
     .cases x.2[n].2.all fun m=>(docOf x.2[n].1.1 m).isSome<;>rfl
    .rw [zd hlen,Bool.false_and,zb (by omega:((x.2[n].1.1.length:Int)<=(x.2[n].2.length:Int))),zg]
     rfl
 .rw [e0]
  cases x.2.all (okLive x.1)<;>rfl
def ltI (a b:EDoc):Bool:=decide (a.1<b.1)
theorem ltI_ord :WOrd ltI:=by
 refine⟨fun x y h=>?_,fun x y z h k=>?_⟩
 .unfold ltI at*;rw[zw]at h;rw[decide_eq_false_iff_not];omega
 .unfold ltI at*;rw[decide_eq_false_iff_not]at*;omega
theorem cmpI (N:Nat) (a b:EDoc):Def (cmp669 N () a b) fun r=>decide (r<0)=ltI a b:=by
 show Def (i_allAlive_1_m N a.1 a.2.1 a.2.2 b.1 b.2.1 b.2.2) _
 unfold i_allAlive_1_m
 rw[compareI_spec,za]
 refine Def.ret ?_
 unfold ltI
 by_cases h:a.1<b.1
 .simp [h]
 .by_cases h2:b.1<a.1<;>simp[h,h2]
theorem allAlive_def (N:Nat) (hM:1048576<N) (hN:N<=16777216) (ls:List ELive) (h:Pieces ls):Def (i_allAlive_m N ls) fun R=>R.Perm (allD ls)/\R.Pairwise fun a b=>a.1<=b.1:=by
 have hfew:=h.few
 unfold i_allAlive_m
 refine Def.upto ls.length (fun n g=>g=(allD (ls.take n),ls,(ls.length:Int),(n:Int))) ?_ ?_ N 0 _ (zaf _) rfl (by omega)
 .rintro go _ rfl
  dsimp only
  have hl:=h.len ls.length
  rw[zq]at hl⊢
  rw[zd (zm _),ze]
  refine Def.bind (sortWk_669 ltI ltI_ord N hN (by omega) (allD ls) () ⟨fun x _ y _=>cmpI N x y⟩ (by omega)) fun R ⟨h1,h2⟩=>Def.ret ⟨h1,h2.imp fun {a b} hab=>?_⟩
  unfold ltI at hab
  rw[decide_eq_false_iff_not]at hab
  omega
 .rintro go n _ hn rfl hgo
  dsimp only
  have hm:=zr hn
  obtain⟨b1,b2,_⟩:=h.docs _ hm
  have hl:=h.len n
  have hal:(alive ls[n]).length<=16:=zau (zbh _ _) b1
  rw[zb (by omega:(n:Int)<ls.length),zg,idx_at hn,za,alive_spec N hM hN ls[n] (by omega) (by omega),za]
  refine Def.ite (room_of (by omega) (by omega)) (Def.ite (fits_nat (n:=n) (by omega)) (hgo _ ?_))
  rw[zo hn,cast_succ']
  unfold allD
  rw[List.flatMap_append]
  simp
theorem indexOk_spec {N:Nat} {x:EIndex} (h:FitI N x):i_IndexOk_m N x.1.1 x.1.2 x.2=some (okIdx x):=by
 have hM:1048576<N:=h.big
 have hN:=h.top
 have hlx:=h.len
 unfold i_IndexOk_m okIdx
 rw[confOk_spec N h.big (by omega) x.1 h.oc,za]
 cases hc:okConf x.1 with
 |false=>rfl
 |true=>
  rw[zn,ze,zaj]
  by_cases h5:(x.2.length:Int)<=5
  .rw [zb h5,zd (by omega:¬(5:Int)<x.2.length),ze,zaj]
   refine(check_all _ x.2 (fun n=>(x.2,(x.2.length:Int),(n:Int),x.1.1,x.1.2,x.2)) (okLive x.1) (some false) (some (okDocs (sortD (allD x.2)))) (fun hall go=>?_) (fun go n hn=>?_) N (by omega)).trans ?_
   .dsimp only
    have hp:=pieces_of (c:=x.1) (by omega) hall
    obtain⟨R,hR,hperm,hle⟩:=allAlive_def N hM hN x.2 hp
    have hps:=hperm.trans (sortD_perm (allD x.2)).symm
    have hlen:=sort_len hp
    rw[zd (zm _),ze,hR,za,docsOk_spec N h.big (by omega) R (fun d hd=>sort_docs (fun l hl=>(h.each l hl).1) d (hps.mem_iff.1 hd)) (by rw[hps.length_eq];omega),za,docs_same hps hle (sortD_le _)]
   .dsimp only
    have hm:=zr hn
    obtain⟨od,h1,h2⟩:=h.each _ hm
    rw[zb (by omega:(n:Int)<x.2.length),zg,idx_at hn,za,liveOk_spec N h.big hN x.1 h.oc x.2[n] od h1 h2,za,zf (fits_nat (n:=n) (by omega)),cast_succ']
    cases okLive x.1 x.2[n]<;>rfl
   .cases x.2.all (okLive x.1)<;>rfl
  .rw [zd h5,zb (by omega:(5:Int)<x.2.length)]
   rfl
abbrev docsX (x:EIndex):List EDoc:=sortD (allD x.2)
theorem allAlive_ok {N:Nat} {x:EIndex} (h:FitI N x) (hk:okIdx x=true):i_allAlive_m N x.2=some (docsX x):=by
 have hM:1048576<N:=h.big
 obtain⟨k1,k2,k3,k4⟩:=okIdx_ok hk
 have hp:=pieces_of k2 k3
 obtain⟨R,hR,hperm,hle⟩:=allAlive_def N hM h.top x.2 hp
 have hps:=hperm.trans (sortD_perm (allD x.2)).symm
 rw[hR,docs_to hps hle (sortD_le _) (by rw[docs_same hps hle (sortD_le _)];exact k4)]
abbrev segX (x:EIndex):ESeg:=(docsX x,entriesS x.1 (docsX x))
theorem segX_i {N:Nat} {x:EIndex} (h:FitI N x) (hk:okIdx x=true):i_SegOf_m N x.1.1 x.1.2 (docsX x)=some (segX x):=by
 obtain⟨k1,k2,k3,k4⟩:=okIdx_ok hk
 have hl:(docsX x).length<=80:=sort_len (pieces_of k2 k3)
 rw[segOf_spec N h.big h.top x.1 h.oc (docsX x) (sort_docs fun l hl=>(h.each l hl).1) (by omega),k1,k4]
 rfl
theorem FitI.fit {N:Nat} {x:EIndex} (h:FitI N x) (hk:okIdx x=true) {q:DQ} (hq:BQ 4 q):Fit N x.1 (segX x) q:=by
 obtain⟨k1,k2,k3,k4⟩:=okIdx_ok hk
 have hl:(docsX x).length<=80:=sort_len (pieces_of k2 k3)
 exact⟨h.big,h.top,h.oc,sort_docs fun l hl=>(h.each l hl).1,by show(docsX x).length<=_;omega,hq⟩
def idxTop (N:Nat) (x:EIndex) (q:DQ) (most:Int):List EHit:=bif okIdx x&&(okQ 4 q&&inM most)then topRR N x.1 (segX x) q allP most else []
theorem indexTop_i {N:Nat} {x:EIndex} (h:FitI N x) {q:DQ} (hq:BQ 4 q) (most:Int):i_IndexTop_m N x.1.1 x.1.2 x.2 q.kind q.field q.words q.lo q.hi q.kids most=some (idxTop N x q most):=by
 have hM:1048576<N:=h.big
 have hN:=h.top
 unfold i_IndexTop_m idxTop
 rw[indexOk_spec h,za]
 cases hk:okIdx x with
 |false=>rfl
 |true=>
  rw[zn,ze,queryOk_i N h.big (by omega) q hq,za,zaj]
  cases hqk:okQ 4 q with
  |false=>rfl
  |true=>
   rw[zn,ze,within_spec,za,zaj,show(decide (1<=most)&&decide (most<=16))=inM most from rfl]
   cases hm:inM most with
   |false=>rfl
   |true=>
    rw[zn,ze,allAlive_ok h hk,za,segX_i h hk,za,topOf_i (h.fit hk hq) most,za]
    rfl
theorem hits_ok {N:Nat} {c:EConf} {s:ESeg} {q:DQ} (h:Fit N c s q) (P:EHit->Bool):∀x,x∈hitsR N c s q P->okD Sm THit x:=by
 intro x hx
 unfold hitsR at hx
 cases hs:okSeg c s with
 |false=>rw[hs]at hx;cases hx
 |true=>
  cases hq:okQ 4 q with
  |false=>rw[hs,hq]at hx;cases hx
  |true=>
   rw[hs,hq]at hx
   obtain⟨d,hd,rfl,h0,_⟩:=hitsP_mem (V:=fun d=>valS N N c s d q) hx
   have g:=h.good hs
   have hb:=score_both N g d (docOf_self g.dok.inn.ids d hd) q hq
   have h1:=hb.low
   have h2:=hb.top
   refine⟨(h.od d hd).1,?_⟩
   show IntKind.i64.min<=_/\_<=IntKind.i64.max
   have h4:IntKind.i64.min=-9223372036854775808:=rfl
   have h5:IntKind.i64.max=9223372036854775807:=rfl
   rw[h4,h5]
   dsimp only
   omega
theorem topR_ok {N:Nat} {c:EConf} {s:ESeg} {q:DQ} (h:Fit N c s q) (P:EHit->Bool) (most:Nat):(topR N c s q P most).length<=16/\okD Sm (.sl THit) (topR N c s q P most):=by
 unfold topR
 have hl:=hitsR_len N c s q P
 have hsl:(sortH (hitsR N c s q P)).length<=16:=by
  rw[show sortH _=List.foldl insH [] _ from rfl,sortH_len]
  simp only[zac]
  omega
 have hlt:((sortH (hitsR N c s q P)).take most).length<=16:=by rw[zah];omega
 refine⟨hlt,⟨zau hlt (by decide),fun x hx=>?_⟩⟩
 exact hits_ok h P x (((sortH_ok (hitsR_dist N c s q P)).2 x).1 (zaP hx))
theorem topRR_ok {N:Nat} {c:EConf} {s:ESeg} {q:DQ} (h:Fit N c s q) (P:EHit->Bool) (most:Int):(topRR N c s q P most).length<=16/\okD Sm (.sl THit) (topRR N c s q P most):=by
 unfold topRR
 cases inM most
 .exact ⟨zaf _,⟨zaf _,fun x hx=>by cases hx⟩⟩
 .exact topR_ok h P _
theorem idxTop_ok {N:Nat} {x:EIndex} (h:FitI N x) {q:DQ} (hq:BQ 4 q) (most:Int):(idxTop N x q most).length<=16/\okD Sm (.sl THit) (idxTop N x q most):=by
 unfold idxTop
 cases hk:okIdx x with
 |false=>exact⟨zaf _,⟨zaf _,fun x hx=>by cases hx⟩⟩
 |true=>
  cases okQ 4 q&&inM most
  .exact ⟨zaf _,⟨zaf _,fun x hx=>by cases hx⟩⟩
  .exact topRR_ok (h.fit hk hq) allP most
theorem okDocs_of (xs:List EDoc) (h1:∀d,d∈xs->okDoc d=true) (h2:xs.Pairwise fun a b=>a.1<b.1) (h3:xs.length<=16):okDocs xs=true:=by
 unfold okDocs allN
 rw[zj,zw,zax]
 refine⟨fun n hn=>?_,by omega⟩
 have hn':n<xs.length:=by simpa using hn
 unfold okDc
 rw[zj,<-dAt_eq hn']
 refine⟨h1 _ (zr hn'),?_⟩
 cases n with
 |zero=>rfl
 |succ n=>
  have:=za2.1 h2 n (n+1) (by omega) hn' (by omega)
  rw[show n+1-1=n from rfl,<-dAt_eq (by omega:n<xs.length),zd (by omega:¬n+1=0),zbf,zd (by omega)]
  rfl
theorem okDocs_sub {A B:List EDoc} (h:okDocs (sortD A)=true) (hs:B.Sublist A):okDocs (sortD B)=true:=by
 have hd:=okDocs_ok h
 have hA:=sortD_perm A
 have hB:=sortD_perm B
 refine okDocs_of _ (fun d hm=>okDoc_each h d (hA.mem_iff.2 (hs.subset (hB.mem_iff.1 hm)))) ?_ ?_
 .have h1:A.Pairwise fun a b=>a.1≠b.1:=(hA.pairwise_iff (fun {x y} h=>fun e=>h e.symm)).1 (hd.inn.ids.imp fun h e=>by omega)
  have h2:(sortD B).Pairwise fun a b=>a.1≠b.1:=(hB.pairwise_iff (fun {x y} h=>fun e=>h e.symm)).2 (h1.sublist hs)
  exact((sortD_le B).and h2).imp fun {a b} h=>by have:=h.1;have:=h.2;omega
 .have h1:=hs.length_le
  have h2:=hA.length_eq
  have h3:=hB.length_eq
  have:=hd.few
  omega
theorem allD_sub {a b:List ELive} (h:a.Sublist b):(allD a).Sublist (allD b):=by
 induction h with
 |slnil=>exact List.Sublist.refl _
 |cons x _ ih=>
  show(allD _).Sublist (alive x++allD _)
  exact ih.trans (List.sublist_append_right _ _)
 |cons_cons x _ ih=>
  show(alive x++allD _).Sublist (alive x++allD _)
  exact(List.Sublist.refl _).append ih
structure FitC (N:Nat) (c:EConf):Prop where
 big:1048576<N
 a:c.1.length<=1048576
 b:c.2.length<=1048576
 e:∀y,y∈c.2->y.1.length<=1048576
structure FitL (l:ELive):Prop where
 dok:DOk l.1.1
 small:Small 7680 l.1.2
 dead:l.2.length<=1000
theorem FitL.of {c:EConf} {l:ELive} (h:okLive c l=true):FitL l:=by
 obtain⟨h1,_,h3,_⟩:=okLive_ok h
 obtain⟨_,h5,h6⟩:=okSeg_ok h1
 exact⟨h5,h6▸entries_small c h5,by omega⟩
theorem cloneConf_spec (N:Nat) (c:EConf) (h:FitC N c):i_cloneConf_m N c.1 c.2=some (c.1,c.2):=by
 have hb:=h.big
 have h1:=h.a
 have h2:=h.b
 unfold i_cloneConf_m
 rw[zf (room_of (by simp;omega) (by simp;omega)),zaW]
 refine(iter_scan _ c.2.length (fun n=>(c.2,(c.2.length:Int),(n:Int),c.1,c.2.take n)) (fun _=>some (c.1,c.2)) (fun go=>?_) (fun go n hn hgo=>?_) N 0 (zaf _) (by omega)).trans rfl
 .dsimp only
  rw[zd (zm _),ze,zq]
 .dsimp only
  have hx:=h.e _ (zr hn)
  rw[zb (by omega:(n:Int)<c.2.length),zg,idx_at hn,za,zf (room_of (by simp;omega) (by simp;omega)),zf (room_of (by simp;omega) (by simp;omega)),zf (fits_nat (n:=n) (by omega)),zaW,<-hgo,zo hn,cast_succ']
theorem copyConf_spec (N:Nat) (c:EConf) (h:FitC N c):s_l18CopyConf_m N c.1 c.2=some (c.1,c.2):=by
 have hb:=h.big
 have h1:=h.a
 have h2:=h.b
 unfold s_l18CopyConf_m
 rw[zf (room_of (by simp;omega) (by simp;omega)),zaW]
 refine(iter_scan _ c.2.length (fun n=>((n:Int),c.1,c.2,c.1,c.2.take n)) (fun _=>some (c.1,c.2)) (fun go=>?_) (fun go n hn hgo=>?_) N 0 (zaf _) (by omega)).trans rfl
 .dsimp only
  rw[zd (zm _),ze,zq]
 .dsimp only
  have hx:=h.e _ (zr hn)
  rw[zb (by omega:(n:Int)<c.2.length),zg,idx_at hn,za,zf (room_of (by simp;omega) (by simp;omega)),za,zf (room_of (by simp;omega) (by simp;omega)),zf (fits_nat (n:=n) (by omega)),zaW,<-hgo,zo hn,cast_succ']
theorem cloneLive_spec (N:Nat) (hN:1048576<N) (l:ELive) (h:FitL l):i_cloneLive_m N l.1.1 l.1.2 l.2=some (l.1.1,l.1.2,l.2):=by
 have hd:=h.dead
 have hs:=h.small.1
 unfold i_cloneLive_m
 rw[cloneDocs_spec N h.dok (by omega),za,zf (room_of (by simp;omega) (by simp;omega)),zaW]
 refine(iter_scan _ l.1.2.length (fun n=>(l.1.2,(l.1.2.length:Int),(n:Int),l.1.1,l.1.2.take n,l.2)) (fun _=>some (l.1.1,l.1.2,l.2)) (fun go=>?_) (fun go n hn hgo=>?_) N 0 (zaf _) (by omega)).trans rfl
 .dsimp only
  rw[zd (zm _),ze,zq]
 .dsimp only
  have hx:=h.small.2 _ (zr hn)
  have hx1:=hx.1
  rw[zb (by omega:(n:Int)<l.1.2.length),zg,idx_at hn,za]
  refine(iter_scan _ l.1.2[n].2.2.length (fun k=>(l.1.2[n].2.2.take k,l.1.2,(l.1.2.length:Int),(n:Int),l.1.2[n].2.2,(l.1.2[n].2.2.length:Int),(k:Int),l.1.1,l.1.2.take n,l.2,l.1.2[n].1,l.1.2[n].2.1,l.1.2[n].2.2)) (fun _=>some (l.1.1,l.1.2,l.2)) (fun go2=>?_) (fun go2 k hk hgo2=>?_) N 0 (zaf _) (by omega)).trans rfl
  .dsimp only
   rw[zd (zm _),ze,zq,zf (room_of (by simp;omega) (by simp;omega)),zf (fits_nat (n:=n) (by omega)),<-hgo,zo hn,cast_succ']
  .dsimp only
   have hy:=hx.2 _ (zr hk)
   rw[zb (by omega:(k:Int)<l.1.2[n].2.2.length),zg,idx_at hk,za,zf (room_of (by simp;omega) (by simp;omega)),zf (room_of (by simp;omega) (by simp;omega)),zf (fits_nat (n:=k) (by omega)),zaW,<-hgo2,zo hk,cast_succ']
theorem copyPosts_spec (N:Nat) (hN:1048576<N) (ps:List EPost) (h1:ps.length<=7680) (h2:∀p,p∈ps->p.2.length<=7680):s_l7CopyPosts_m N ps=some ps:=by
 unfold s_l7CopyPosts_m
 refine(iter_scan _ ps.length (fun k=>(ps,ps.take k,(k:Int))) (fun _=>some ps) (fun go=>?_) (fun go k hk hgo=>?_) N 0 (zaf _) (by omega)).trans rfl
 .dsimp only
  rw[zd (zm _),ze,zq]
 .dsimp only
  have hy:=h2 _ (zr hk)
  rw[zb (by omega:(k:Int)<ps.length),zg,idx_at hk,za,za,zf (room_of (by simp;omega) (by simp;omega)),zf (room_of (by simp;omega) (by simp;omega)),zf (fits_nat (n:=k) (by omega)),zaW,<-hgo,zo hk,cast_succ']
theorem copySeg_spec (N:Nat) (hN:1048576<N) (l:ELive) (h:FitL l):s_l18CopySeg_m N l.1.1 l.1.2=some l.1:=by
 have hs:=h.small.1
 have hf:=h.dok.few
 unfold s_l18CopySeg_m
 refine(iter_scan _ l.1.1.length (fun n=>((n:Int),l.1.1,l.1.2,l.1.1.take n)) (fun _=>some l.1) (fun go=>?_) (fun go n hn hgo=>?_) N 0 (zaf _) (by omega)).trans rfl
 .dsimp only
  rw[zd (zm _),ze,zq]
  refine(iter_scan _ l.1.2.length (fun n=>((n:Int),l.1.1,l.1.2,l.1.1,l.1.2.take n)) (fun _=>some l.1) (fun go2=>?_) (fun go2 n hn hgo2=>?_) N 0 (zaf _) (by omega)).trans rfl
  .dsimp only
   rw[zd (zm _),ze,zq]
  .dsimp only
   have hx:=h.small.2 _ (zr hn)
   rw[zb (by omega:(n:Int)<l.1.2.length),zg,idx_at hn,za,copyPosts_spec N hN _ hx.1 hx.2,za,zf (room_of (by simp;omega) (by simp;omega)),zf (fits_nat (n:=n) (by omega)),<-hgo2,zo hn,cast_succ']
 .dsimp only
  have he:=h.dok.each _ (zr hn)
  rw[zb (by omega:(n:Int)<l.1.1.length),zg,idx_at hn,za,l7CopyDoc_spec N l.1.1[n] he.1 he.2.1,za,zf (room_of (by simp;omega) (by simp;omega)),zf (fits_nat (n:=n) (by omega)),<-hgo,zo hn,cast_succ']
theorem cloneIndex_spec (N:Nat) (x:EIndex) (hc:FitC N x.1) (hl:x.2.length<=1000) (h:∀l,l∈x.2->FitL l):i_cloneIndex_m N x.1.1 x.1.2 x.2=some (x.1.1,x.1.2,x.2):=by
 have hb:=hc.big
 unfold i_cloneIndex_m
 rw[cloneConf_spec N x.1 hc,za]
 refine(iter_scan _ x.2.length (fun n=>(x.2,(x.2.length:Int),(n:Int),x.1.1,x.1.2,x.2.take n)) (fun _=>some (x.1.1,x.1.2,x.2)) (fun go=>?_) (fun go n hn hgo=>?_) N 0 (zaf _) (by omega)).trans rfl
 .dsimp only
  rw[zd (zm _),ze,zq]
 .dsimp only
  rw[zb (by omega:(n:Int)<x.2.length),zg,idx_at hn,za,cloneLive_spec N hb _ (h _ (zr hn)),za,zf (room_of (by simp;omega) (by simp;omega)),zf (fits_nat (n:=n) (by omega)),<-hgo,zo hn,cast_succ']
theorem copyIndex_spec (N:Nat) (x:EIndex) (hc:FitC N x.1) (hl:x.2.length<=1000) (h:∀l,l∈x.2->FitL l):s_l18Copy_m N x.1.1 x.1.2 x.2=some (x.1.1,x.1.2,x.2):=by
 have hb:=hc.big
 unfold s_l18Copy_m
 rw[copyConf_spec N x.1 hc,za]
 refine(iter_scan _ x.2.length (fun n=>((n:Int),x.1.1,x.1.2,x.2,x.1.1,x.1.2,x.2.take n)) (fun _=>some (x.1.1,x.1.2,x.2)) (fun go=>?_) (fun go n hn hgo=>?_) N 0 (zaf _) (by omega)).trans rfl
 .dsimp only
  rw[zd (zm _),ze,zq]
 .dsimp only
  have hf:=h _ (zr hn)
  have hd:=hf.dead
  rw[zb (by omega:(n:Int)<x.2.length),zg,idx_at hn,za,copySeg_spec N hb _ hf,za,za,zf (room_of (by simp;omega) (by simp;omega)),zf (room_of (by simp;omega) (by simp;omega)),zf (fits_nat (n:=n) (by omega)),zaW,<-hgo,zo hn,cast_succ']
def putI (l:List Int) (n:Int):List Int:=match l with
 | []=>[n]
 |x::r=>if x<n then x::putI r n else if x=n then x::r else n::x::r
theorem putI_mem (n x:Int):∀l,x∈putI l n↔x=n\/x∈l
 | []=>by simp[putI]
 |y::r=>by
  unfold putI
  have ih:=putI_mem n x r
  split
  .rw [zp,ih,zp];constructor<;>rintro(h|h|h)<;>simp_all
  .split
   .rename_i e;subst e;simp
   .simp
theorem putI_up (n:Int):∀l,upL l->upL (putI l n)
 | [],_=>by simp[putI,upL]
 |y::r,h=>by
  unfold upL at h
  rw[zas]at h
  have ih:upL (putI r n):=putI_up n r h.2
  unfold putI
  split
  .rename_i e
   show List.Pairwise _ _
   rw[zas]
   refine⟨fun x hx=>?_,ih⟩
   rcases(putI_mem n x r).1 hx with rfl|hx
   .exact e
   .exact h.1 x hx
  .split
   .exact zas.2 h
   .rename_i e1 e2
    show List.Pairwise _ _
    rw[zas,zas]
    refine⟨fun x hx=>?_,h⟩
    rcases zp.1 hx with rfl|hx
    .omega
    .have:=h.1 x hx;omega
theorem putI_len (n:Int):∀l,(putI l n).length<=l.length+1
 | []=>by simp[putI]
 |x::r=>by
  unfold putI
  have:=putI_len n r
  split
  .simp;omega
  .split<;>simp
theorem putI_in (n:Int):∀(l:List Int) (k:Nat) (h:k<l.length),(∀x,x∈l.take k->x<n)->l[k]=n->putI l n=l
 |x::r,0,_,_,e=>by
  have e:x=n:=e
  unfold putI
  rw[zu (by omega),zf e]
 |x::r,k+1,h,h1,e=>by
  have hx:=h1 x (by rw[zbG];simp)
  unfold putI
  rw[zf hx,putI_in n r k (by simpa using h) (fun y hy=>h1 y (by rw[zbG];simp[hy])) (by simpa using e)]
theorem putI_new (n:Int):∀(l:List Int) (k:Nat),k<=l.length->(∀x,x∈l.take k->x<n)->(∀h:k<l.length,n<l[k])->putI l n=l.take k++ [n]++l.drop k
 | [],k,h,_,_=>by simp at h;subst h;rfl
 |x::r,0,_,_,h2=>by
  have h2:n<x:=h2 (by simp)
  unfold putI
  rw[zu (by omega),zu (by omega)]
  rfl
 |x::r,k+1,h,h1,h2=>by
  have hx:=h1 x (by rw[zbG];simp)
  unfold putI
  rw[zf hx,putI_new n r k (by simpa using h) (fun y hy=>h1 y (by rw[zbG];simp[hy])) (fun h'=>by
   have:=h2 (by simp;omega)
   simpa using this)]
  rfl
theorem putNum_spec (N:Nat) (hN:1048576<N) (l:List Int) (n:Int) (hl:l.length<=1000):s_l8Put_m N l n=some (putI l n):=by
 refine Def.get ?_
 unfold s_l8Put_m
 have ins:∀k:Nat,k<=l.length->(∀x,x∈l.take k->x<n)->(∀h:k<l.length,n<l[k])->Def (Option.bind (cut l 0 (k:Int)) fun y=>if room ([]:List Int).length y.length 8 then(if room (([]:List Int)++y).length ([n]:List Int).length 8 then Option.bind (cut l (k:Int) (l.length:Int)) fun y2=>if room ((([]:List Int)++y)++([n]:List Int)).length y2.length 8 then some (((([]:List Int)++y)++([n]:List Int))++y2)else none else none)else none) fun r=>r=putI l n:=fun k hk h1 h2=>by
  rw[cut_take' l k hk,za,zf (room_of (by rw[zah];simp;omega) (by rw[zah];simp;omega)),
   zf (room_of (by rw[zam,zah,zbE];simp;omega) (by rw[zam,zah,zbE];simp;omega)),cut_drop' l k hk,za,
   zf (room_of (by simp only[zam,zah,zbE,zaQ,zac];omega) (by simp only[zam,zah,zbE,zaQ,zac];omega))]
  exact Def.ret (by rw[putI_new n l k hk h1 h2,zaW])
 refine Def.upto l.length (fun k g=>(∀x,x∈l.take k->x<n)/\g=(l,n,(k:Int))) ?_ ?_ N 0 _ (zaf _) ⟨fun x hx=>by simp at hx,rfl⟩ (by omega)
 .rintro go _ ⟨h1,rfl⟩
  dsimp only
  rw[zd (zm _),ze,ze]
  exact ins l.length (zae _) h1 fun h=>absurd h (Nat.lt_irrefl _)
 .rintro go k _ hk ⟨h1,rfl⟩ hgo
  dsimp only
  rw[zb (by omega:(k:Int)<l.length),zg,zg,idx_at hk,za,za]
  refine Def.dif (fun e=>Def.ite (fits_nat (n:=k) (by omega)) (hgo _ ⟨fun x hx=>?_,by rw[cast_succ']⟩)) (fun e=>Def.dif (fun e2=>Def.ret (putI_in n l k hk h1 e2).symm) (fun e2=>ins k (by omega) h1 fun _=>by omega))
  rw[zo hk,zaB,zaD]at hx
  rcases hx with hx|rfl
  .exact h1 x hx
  .exact e
def putIs (l a:List Int):List Int:=a.foldl putI l
theorem putIs_mem (x:Int):∀a l,x∈putIs l a↔x∈a\/x∈l
 | [],l=>by simp[putIs]
 |n::a,l=>by
  have:=putIs_mem x a (putI l n)
  unfold putIs at*
  rw[zaq,this,putI_mem,zp]
  constructor
  .rintro (h|h|h)
   .exact .inl (.inr h)
   .exact .inl (.inl h)
   .exact .inr h
  .rintro ((h|h)|h)
   .exact .inr (.inl h)
   .exact .inl h
   .exact .inr (.inr h)
theorem putIs_up :∀a l,upL l->upL (putIs l a)
 | [],l,h=>h
 |n::a,l,h=>by
  have:=putIs_up a (putI l n) (putI_up n l h)
  unfold putIs at*
  rwa[zaq]
theorem putIs_len :∀a l,(putIs l a).length<=l.length+a.length
 | [],l=>by simp[putIs]
 |n::a,l=>by
  have h1:=putIs_len a (putI l n)
  have h2:=putI_len n l
  unfold putIs at*
  rw[zaq,zi]
  omega
theorem up_unique {R S:List Int} (hR:upL R) (hS:upL S) (h:∀x,x∈R↔x∈S):R=S:=
 sorted_unique (fun a b:Int=>decide (a<b)) (fun a=>by simp) (fun a b c h k=>by rw[zw]at*;omega) R S (hR.imp fun h=>by rw[zw];exact h) (hS.imp fun h=>by rw[zw];exact h) h
theorem sort_put {l a r:List Int} (hp:r.Perm (l++a)) (hs:r.Pairwise fun x y=>decide (y<x)=false) (hl:upL l) (ha:a.Nodup) (hd:∀x,x∈a->x∉l):r=putIs l a:=by
 have hln:l.Nodup:=hl.imp fun h e=>by omega
 have hn:(l++a).Nodup:=List.nodup_append.2 ⟨hln,ha,fun x hx y hy e=>hd y hy (e▸hx)⟩
 have hr:r.Nodup:=hp.symm.nodup hn
 refine up_unique ((hs.and hr).imp fun {x y} h=>?_) (putIs_up a l hl) fun x=>?_
 .obtain ⟨h1,h2⟩:=h
  rw[decide_eq_false_iff_not]at h1
  have h2:x≠y:=h2
  show x<y
  omega
 .rw [hp.mem_iff,putIs_mem,zaB]
  exact Or.comm
def hasL (id:Int) (l:ELive):Bool:=(docOf l.1.1 id).isSome&& !decide (id∈l.2)
def goneS (id:Int) (l:ELive):ELive:=bif hasL id l then(l.1,putI l.2 id)else l
structure FitP (N:Nat) (c:EConf) (ls:List ELive):Prop where
 big:1048576<N
 top:N<=16777216
 few:ls.length<=5
 good:∀l,l∈ls->GoodS N c l.1
 up:∀l,l∈ls->upL l.2
 dead:∀l,l∈ls->l.2.length<=200
theorem any_take {Y:Type} (p:Y->Bool) (l:List Y) (n:Nat) (h:n<l.length):(l.take (n+1)).any p=((l.take n).any p||p l[n]):=by
 rw[zo h,List.any_append]
 simp
theorem gone_spec {N:Nat} {c:EConf} {ls:List ELive} (h:FitP N c ls) (id:Int):s_l18Gone_m N c.1 c.2 ls id=some (c.1,c.2,ls.map (goneS id),ls.any (hasL id)):=by
 have hM:=h.big
 have hN:=h.top
 have hf:=h.few
 refine Def.get ?_
 unfold s_l18Gone_m
 refine Def.upto ls.length (fun n g=>g=(id,(ls.take n).any (hasL id),(n:Int),c.1,c.2,ls,c.1,c.2,(ls.take n).map (goneS id))) ?_ ?_ N 0 _ (zaf _) rfl (by omega)
 .rintro go _ rfl
  dsimp only
  rw[zd (zm _),ze,zq]
  exact Def.ret rfl
 .rintro go n _ hn rfl hgo
  dsimp only
  have hm:=zr hn
  have g:=h.good _ hm
  have hd:=h.dead _ hm
  rw[zb (by omega:(n:Int)<ls.length),zg,idx_at hn,za]
  refine Def.meet (fun g=>g=(id,(ls.take (n+1)).any (hasL id),(n:Int),c.1,c.2,ls,c.1,c.2,(ls.take n).map (goneS id),(goneS id ls[n]).1.1,(goneS id ls[n]).1.2,(goneS id ls[n]).2)) ?_ fun J hJ=>?_
  .rintro _ rfl
   dsimp only
   refine Def.ite (room_of (by rw[zar,zah];simp;omega) (by rw[zar,zah];simp;omega)) (Def.ite (fits_nat (n:=n) (by omega)) (hgo _ ?_))
   rw[zo hn,zaK,cast_succ']
   rfl
  .have ht:=any_take (hasL id) ls n hn
   rw[l12Doc_spec N g,za]
   cases hdo:docOf ls[n].1.1 id with
   |none=>
    have e:hasL id ls[n]=false:=by unfold hasL;rw[hdo];rfl
    show Def (bif !decide ((0:Int)=0)then _ else _) _
    rw[zb rfl,zn,ze]
    refine hJ _ ?_
    rw[ht,e,Bool.or_false]
    unfold goneS
    rw[e]
    rfl
   |some d=>
    have hid:¬d.1=0:=fun e=>by
     have h3:=docOf_some hdo
     have h4:=okDoc_each (okSeg_docs g.ok) d h3.1
     unfold okDoc at h4
     simp only[zj,zw]at h4
     omega
    have hd8:s_l18Dead_m N ls[n].1.1 ls[n].1.2 ls[n].2 id=some (decide (id∈ls[n].2)):=by
     unfold s_l18Dead_m
     rw[l8Has_spec N _ _ (by omega) (by omega),za]
    show Def (bif !decide (d.1=0)then _ else _) _
    rw[zd hid,zaI,zg,hd8,za]
    have e:hasL id ls[n]= !decide (id∈ls[n].2):=by unfold hasL;rw[hdo];rfl
    rw[<-e]
    cases hh:hasL id ls[n]with
    |true=>
     rw[zg]
     refine Def.ite (room_of (by simp;omega) (by simp;omega)) ?_
     rw[zaW,putNum_spec N hM _ _ (by omega),za]
     refine hJ _ ?_
     rw[ht,hh,Bool.or_true]
     unfold goneS
     rw[hh]
     rfl
    |false=>
     rw[ze]
     refine hJ _ ?_
     rw[ht,hh,Bool.or_false]
     unfold goneS
     rw[hh]
     rfl
theorem filter_take {Y:Type} (p:Y->Bool) (l:List Y) (n:Nat) (h:n<l.length):(l.take (n+1)).filter p=bif p l[n]then(l.take n).filter p++ [l[n]]else(l.take n).filter p:=by
 rw[zo h,za6]
 cases e:p l[n]<;>simp[za9,e]
theorem full_spec (N:Nat) (hN:1048576<N) (c:EConf) (ls:List ELive) (hl:ls.length<=1000):s_l18Full_m N c.1 c.2 ls=some (c.1,c.2,ls.filter fun l=>decide (l.2.length<l.1.1.length)):=by
 refine Def.get ?_
 unfold s_l18Full_m
 refine Def.upto ls.length (fun n g=>g=((n:Int),c.1,c.2,ls,c.1,c.2,(ls.take n).filter fun l=>decide (l.2.length<l.1.1.length))) ?_ ?_ N 0 _ (zaf _) rfl (by omega)
 .rintro go _ rfl
  dsimp only
  rw[zd (zm _),ze,zq]
  exact Def.ret rfl
 .rintro go n _ hn rfl hgo
  dsimp only
  have ht:=filter_take (fun l:ELive=>decide (l.2.length<l.1.1.length)) ls n hn
  have hle:((ls.take n).filter fun l:ELive=>decide (l.2.length<l.1.1.length)).length<=1000:=zau (zbh _ _) (by rw[zah];omega)
  rw[zb (by omega:(n:Int)<ls.length),zg,idx_at hn,za,za]
  refine Def.dif (fun e=>?_) (fun e=>?_)
  .rw [za]
   refine Def.ite (room_of (by simp only[zbE];omega) (by simp only[zbE];omega)) (Def.ite (fits_nat (n:=n) (by omega)) (hgo _ ?_))
   rw[ht,zb (by omega),zg,cast_succ']
  .refine Def.ite (fits_nat (n:=n) (by omega)) (hgo _ ?_)
   rw[ht,zd (by omega),ze,cast_succ']
theorem index2_def (N:Nat) (l:List Int) (a:Int) (h:l.length<N) (hN:N<=1099511627776):Def (k_slices_Index_484_v2_m N l a) fun r=>r.2=l/\((r.1=-1/\a∉l)\/(0<=r.1/\a∈l)):=by
 unfold k_slices_Index_484_v2_m
 refine Def.upto l.length (fun n g=>a∉l.take n/\g=(l,a,(l.length:Int),(n:Int))) ?_ ?_ N 0 _ (zaf _) ⟨by simp,rfl⟩ (by omega)
 .rintro go _ ⟨hm,rfl⟩
  dsimp only
  rw[zd (zm _),ze]
  rw[zq]at hm
  exact Def.ret ⟨rfl,.inl ⟨rfl,hm⟩⟩
 .rintro go n _ hn ⟨hm,rfl⟩ hgo
  dsimp only
  rw[zb (by omega:(n:Int)<l.length),zg,zf ⟨by omega,by omega⟩,zai,zc hn,za]
  refine Def.dif (fun e=>Def.ret ⟨rfl,.inr ⟨by show(0:Int)<=(n:Int);omega,e▸zr hn⟩⟩) (fun e=>?_)
  exact Def.ite (fits_nat (n:=n) (by omega)) (hgo _ ⟨not_take_succ hn hm e,by rw[cast_succ']⟩)
theorem contains2_spec (N:Nat) (l:List Int) (n:Int) (h:l.length<N) (hN:N<=1099511627776):k_slices_Contains_735_v2_m N l n=some (decide (n∈l),l):=by
 obtain⟨r,hr,h2,hc⟩:=index2_def N l n h hN
 unfold k_slices_Contains_735_v2_m
 rw[hr,za,h2]
 rcases hc with⟨h3,hn⟩|⟨h3,hm⟩
 .rw [h3,zd hn];rfl
 .rw [zb hm,zb h3]
theorem alive2_spec (N:Nat) (hM:1048576<N) (hN:N<=16777216) (l:ELive) (h1:l.1.1.length<=1000) (h2:l.2.length<=1000):i_Live_alive_v2_m N l.1.1 l.1.2 l.2=some (alive l,l.2):=by
 unfold i_Live_alive_v2_m alive
 refine(iter_scan _ l.1.1.length (fun n=>((l.1.1.take n).filter (fun d=> !decide (d.1∈l.2)),l.1.1,(l.1.1.length:Int),(n:Int),l.1.1,l.1.2,l.2)) (fun n=>some (l.1.1.filter (fun d=> !decide (d.1∈l.2)),l.2)) (fun go=>?_) (fun go n hn hgo=>?_) N 0 (zaf _) (by omega)).trans rfl
 .dsimp only
  rw[zd (zm _),ze,zq]
 .dsimp only
  have hll:((l.1.1.take n).filter (fun d=> !decide (d.1∈l.2))).length<=1000:=zau (zbh _ _) (by rw[zah];omega)
  simp only[cast_succ',alive_take l hn]at hgo
  generalize(l.1.1.take n).filter (fun d=> !decide (d.1∈l.2))=out at*
  rw[zb (by omega:(n:Int)<l.1.1.length),zg,idx_at hn,za,contains2_spec N _ _ (by omega) (by omega),za,zf (room_of (by rw[zbE];omega) (by rw[zbE];omega)),<-hgo]
  simp only[zf (fits_nat (n:=n) (by omega))]
  cases decide (l.1.1[n].1∈l.2)<;>rfl
def addD (ids:List Int) (l:ELive):List Int:=((alive l).map (·.1)).filter fun n=>decide (n∈ids)
def dropL (ids:List Int) (l:ELive):ELive:=(l.1,putIs l.2 (addD ids l))
def livB (l:ELive):Bool:=decide (0<(alive l).length)
theorem add_take (ids:List Int) (xs:List EDoc) (k:Nat) (h:k<xs.length):((xs.take (k+1)).map (·.1)).filter (fun n=>decide (n∈ids))=bif decide (xs[k].1∈ids)then((xs.take k).map (·.1)).filter (fun n=>decide (n∈ids))++ [xs[k].1]else((xs.take k).map (·.1)).filter (fun n=>decide (n∈ids)):=by
 rw[zo h,zaK,za6]
 by_cases e:xs[k].1∈ids<;>simp[e]
theorem lessI_ord :WOrd fun a b:Int=>decide (a<b):=
 ⟨fun x y h=>by rw[zw]at h;rw[decide_eq_false_iff_not];omega,fun x y z h k=>by rw[decide_eq_false_iff_not]at*;omega⟩
theorem cmpLess_def (N:Nat) (a b:Int):Def (cmp287 N a b) fun r=>r=decide (a<b):=by
 show Def (k_cmp_Less_67_m N a b) _
 have e:k_cmp_isNaN_538_m N a=some false:=by
  unfold k_cmp_isNaN_538_m
  simp
 unfold k_cmp_Less_67_m
 rw[e,za,ze]
 exact Def.ret rfl
theorem addD_nodup (ids:List Int) (l:ELive) (hi:l.1.1.Pairwise fun a b=>a.1<b.1):(addD ids l).Nodup/\∀x,x∈addD ids l->x∉l.2:=by
 refine⟨?_,fun x hx=>?_⟩
 .have h1:((alive l).map (·.1)).Nodup:=zbb.2 ((hi.sublist List.filter_sublist).imp fun h e=>by have:=h;omega)
  exact h1.sublist List.filter_sublist
 .obtain ⟨d,hd,rfl⟩:=zab.1 (zaZ.1 hx).1
  have:=(zaZ.1 hd).2
  simpa using this
theorem drop_spec {N:Nat} {c:EConf} {ls:List ELive} (h:FitP N c ls) (ids:List Int) (hids:ids.length<=1000):i_Index_drop_m N ids c.1 c.2 ls=some (((ls.flatMap (addD ids)).length:Int),c.1,c.2,(ls.map (dropL ids)).filter livB):=by
 have hM:=h.big
 have hN:=h.top
 have hf:=h.few
 refine Def.get ?_
 unfold i_Index_drop_m
 have cnt:∀L:List ELive,(∀l,l∈L->l∈ls)->(L.flatMap (addD ids)).length<=16*L.length:=by
  intro L
  induction L with
  |nil=>intro _;exact zaf _
  |cons a L ih=>
   intro hL
   have h3:=(h.good a (hL a (by simp))).dok.few
   have h4:=ih fun l hl=>hL l (by simp[hl])
   have h5:(alive a).length<=a.1.1.length:=zbh _ _
   have h6:(addD ids a).length<=(alive a).length:=by
    have:=zbh (fun n:Int=>decide (n∈ids)) ((alive a).map (·.1))
    rw[zar]at this
    exact this
   rw[zbu,zam,zi]
   omega
 refine Def.upto ls.length (fun n g=>g=(ids,(((ls.take n).flatMap (addD ids)).length:Int),((ls.take n).map (dropL ids)).filter livB,(ls,(n:Int)),(ls.length:Int),(n:Int),c.1,c.2)) ?_ ?_ N 0 _ (zaf _) rfl (by omega)
 .rintro go _ rfl
  dsimp only
  rw[zd (zm _),ze,zq]
  exact Def.ret rfl
 .rintro go n _ hn rfl hgo
  dsimp only
  have hm:=zr hn
  have g:=h.good _ hm
  have hd:=h.dead _ hm
  have hup:=h.up _ hm
  have hfew:=g.dok.few
  have hal:(alive ls[n]).length<=16:=zau (zbh _ _) hfew
  have hcn:=cnt (ls.take n) fun l hl=>zaP hl
  rw[zah]at hcn
  have hci:0<=(n:Int)/\(n:Int)<ls.length:=by omega
  rw[zb (by omega:(n:Int)<ls.length),zg]
  simp only[zai,zf (zae n),zc hn,za,zf hci,if_true]
  rw[alive2_spec N hM hN ls[n] (by omega) (by omega),za]
  dsimp only
  refine Def.upto (alive ls[n]).length (fun k g=>g=(ids,(((ls.take n).flatMap (addD ids)).length:Int)+(((((alive ls[n]).take k).map (·.1)).filter fun n=>decide (n∈ids)).length:Nat),((ls.take n).map (dropL ids)).filter livB,(ls,((n+1:Nat):Int)),(ls.length:Int),(n:Int),alive ls[n],((alive ls[n]).length:Int),(k:Int),ls[n].1.1,ls[n].1.2,ls[n].2++(((alive ls[n]).take k).map (·.1)).filter (fun n=>decide (n∈ids)),c.1,c.2)) ?_ ?_ N 0 _ (zaf _) (by simp) (by omega)
  .rintro go2 _ rfl
   dsimp only
   rw[zd (zm _),ze,zq]
   rw[show(((alive ls[n]).map (·.1)).filter fun n=>decide (n∈ids))=addD ids ls[n]from rfl]
   obtain⟨hnd,hno⟩:=addD_nodup ids ls[n] g.dok.inn.ids
   have hadl:(addD ids ls[n]).length<=16:=by
    have:=zbh (fun n:Int=>decide (n∈ids)) ((alive ls[n]).map (·.1))
    rw[zar]at this
    exact zau this hal
   refine Def.bind (sortWk_287 (fun a b=>decide (a<b)) lessI_ord N hN (by omega) _ ⟨fun x _ y _=>cmpLess_def N x y⟩ (by rw[zam];omega)) fun r ⟨h1,h2⟩=>?_
   obtain rfl:=sort_put h1 h2 hup hnd hno
   refine Def.meet (fun g=>g=(ids,(((ls.take n).flatMap (addD ids)).length:Int)+((addD ids ls[n]).length:Nat),((ls.take n).map (dropL ids)).filter livB,(ls,((n+1:Nat):Int)),(ls.length:Int),(n:Int),livB (dropL ids ls[n]),ls[n].1.1,ls[n].1.2,(dropL ids ls[n]).2,c.1,c.2)) ?_ fun J hJ=>?_
   .rintro _ rfl
    dsimp only
    have ht:=filter_take livB (ls.map (dropL ids)) n (by rw[zar];exact hn)
    rw[<-List.map_take,<-List.map_take,List.getElem_map]at ht
    have hsl:(((ls.take n).map (dropL ids)).filter livB).length<=5:=zau (zbh _ _) (by rw[zar,zah];omega)
    have hmany:(((ls.take (n+1)).flatMap (addD ids)).length:Int)=(((ls.take n).flatMap (addD ids)).length:Int)+((addD ids ls[n]).length:Nat):=by
     rw[zo hn,List.flatMap_append,zam]
     simp
    simp only[zai]
    cases hb:livB (dropL ids ls[n])with
    |true=>
     rw[hb,zg]at ht
     rw[zg]
     refine Def.ite (room_of (by simp only[zbE];omega) (by simp only[zbE];omega)) (Def.ite (fits_nat (n:=n) (by omega)) (hgo _ ?_))
     rw[ht,hmany,cast_succ']
     rfl
    |false=>
     rw[hb,ze]at ht
     rw[ze]
     refine Def.ite (fits_nat (n:=n) (by omega)) (hgo _ ?_)
     rw[ht,hmany,cast_succ']
   .have hpl:=putIs_len (addD ids ls[n]) ls[n].2
    have ha:=alive2_spec N hM hN (dropL ids ls[n]) (by show ls[n].1.1.length<=1000;omega) (by show(putIs ls[n].2 (addD ids ls[n])).length<=1000;omega)
    rw[show(dropL ids ls[n]).1=ls[n].1 from rfl,show(dropL ids ls[n]).2=putIs ls[n].2 (addD ids ls[n])from rfl]at ha
    rw[ha,za]
    refine hJ _ ?_
    simp only[zai]
    rw[show livB (dropL ids ls[n])=decide ((0:Int)<((alive (dropL ids ls[n])).length:Int))from by unfold livB;rw[decide_eq_decide];omega]
    rfl
  .rintro go2 k _ hk rfl hgo2
   dsimp only
   have ht:=add_take ids (alive ls[n]) k hk
   have hlen:((((alive ls[n]).take k).map (·.1)).filter fun n=>decide (n∈ids)).length<=16:=zau (zbh _ _) (by rw[zar,zah];omega)
   simp only[zai]
   rw[zb (by omega:(k:Int)<((alive ls[n]).length:Int)),zg,idx_at hk,za,containsI_spec N _ _ (by omega) (by omega),za]
   cases hb:decide ((alive ls[n])[k].1∈ids)with
   |true=>
    rw[hb,zg]at ht
    rw[zg]
    refine Def.ite (room_of (by rw[zam,zbE];omega) (by rw[zam,zbE];omega)) (Def.ite (by unfold fits;omega) (Def.ite (fits_nat (n:=k) (by omega)) (hgo2 _ ?_)))
    obtain⟨L,hL⟩:∃L,L=((((alive ls[n]).take k).map (·.1)).filter fun n=>decide (n∈ids)).length:=⟨_,rfl⟩
    rw[ht,zam,zbE,zao,cast_succ' k,<-hL,cast_succ' L,Int.add_assoc]
   |false=>
    rw[hb,ze]at ht
    rw[ze]
    refine Def.ite (fits_nat (n:=k) (by omega)) (hgo2 _ ?_)
    rw[ht,cast_succ' k]
theorem FitP.of {N:Nat} {x:EIndex} (h:FitI N x) (hk:okIdx x=true):FitP N x.1 x.2:=by
 obtain⟨k1,k2,k3,k4⟩:=okIdx_ok hk
 have hl:∀l,l∈x.2->okLive x.1 l=true:=zax.1 k3
 refine⟨h.big,h.top,k2,fun l hm=>⟨h.big,h.top,h.oc,(h.each l hm).1,(okLive_ok (hl l hm)).1⟩,fun l hm=>?_,fun l hm=>zau (okLive_ok (hl l hm)).2.2.1 (by omega)⟩
 have:=hl l hm
 unfold okLive at this
 rw[zj,zj]at this
 exact(upB_up this.2.1).1
theorem FitC.of {N:Nat} {c:EConf} (hM:1048576<N) (h:okD Sm TConf c):FitC N c:=⟨hM,h.1.1,h.2.1,fun y hy=>(h.2.2 y hy).1.1⟩
theorem okLive_dead {c:EConf} {l:ELive} (h:okLive c l=true):∀n,n∈l.2->∃d,d∈l.1.1/\d.1=n:=fun n hn=>by
 unfold okLive at h
 simp only[zj]at h
 have h1:=zax.1 h.2.2.2 n hn
 cases hdn:docOf l.1.1 n with
 |none=>rw[hdn]at h1;cases h1
 |some d=>exact⟨d,docOf_some hdn⟩
theorem map_eq {Y β:Type} {f g:Y->β} {l:List Y} (h:∀x,x∈l->f x=g x):l.map f=l.map g:=za0 h
theorem filter_eq {Y:Type} {p q:Y->Bool}:∀ {l:List Y},(∀x,x∈l->p x=q x)->l.filter p=l.filter q:=fun h=>List.filter_congr h
abbrev zeroX :EIndex:=(([],[]),[])
theorem FitI.zero {N:Nat} (hM:Sm<N) (hN:N<=16777216):FitI N zeroX:=
 ⟨hM,hN,⟨⟨zaf _,fun x hx=>by cases hx⟩,⟨zaf _,fun x hx=>by cases hx⟩⟩,zaf _,fun l hl=>by cases hl⟩
theorem goneS_1 (id:Int) (l:ELive):(goneS id l).1=l.1:=by unfold goneS;cases hasL id l<;>rfl
theorem goneS_2 (id:Int) (l:ELive):(goneS id l).2.length<=l.2.length+1/\(upL l.2->upL (goneS id l).2):=by
 unfold goneS
 cases hasL id l with
 |false=>exact⟨Nat.le_succ _,fun h=>h⟩
 |true=>exact⟨putI_len id l.2,putI_up id l.2⟩
def goneN (ds:List EDoc) (l:ELive):ELive:=ds.foldl (fun l d=>goneS d.1 l) l
theorem goneN_1 :∀(ds:List EDoc) (l:ELive),(goneN ds l).1=l.1
 | [],l=>rfl
 |d::ds,l=>(goneN_1 ds (goneS d.1 l)).trans (goneS_1 d.1 l)
theorem goneN_2 :∀(ds:List EDoc) (l:ELive),(goneN ds l).2.length<=l.2.length+ds.length/\(upL l.2->upL (goneN ds l).2)
 | [],l=>⟨zae _,fun h=>h⟩
 |d::ds,l=>by
  obtain⟨h1,h2⟩:=goneN_2 ds (goneS d.1 l)
  obtain⟨h3,h4⟩:=goneS_2 d.1 l
  refine⟨?_,fun h=>h2 (h4 h)⟩
  show(goneN ds (goneS d.1 l)).2.length<=l.2.length+(ds.length+1)
  omega
theorem FitP.goneN {N:Nat} {c:EConf} {ls:List ELive} (h:FitP N c ls) (hd:∀l,l∈ls->l.2.length<=60) (ds:List EDoc) (hds:ds.length<=16):FitP N c (ls.map (goneN ds)):=by
 refine⟨h.big,h.top,by rw[zar];exact h.few,fun l' hl'=>?_,fun l' hl'=>?_,fun l' hl'=>?_⟩<;>obtain⟨l,hl,rfl⟩:=zab.1 hl'
 .rw [goneN_1];exact h.good l hl
 .exact (goneN_2 ds l).2 (h.up l hl)
 .have:=(goneN_2 ds l).1
  have:=hd l hl
  omega
def liveN (l:ELive):Bool:=decide (l.2.length<l.1.1.length)
def addY (docs:List EDoc) (x:EIndex):EIndex:=(x.1,(x.2.map (goneN docs)).filter liveN++ [((docs,entriesS x.1 docs),[])])
def addR (docs:List EDoc) (x:EIndex):EIndex×Bool:=bif okIdx x then(bif okDocs docs&&decide (0<docs.length)then(bif okIdx (addY docs x)then(addY docs x,true)else(x,false))else(x,false))else(zeroX,false)
theorem dead_few {x:EIndex} (hk:okIdx x=true):∀l,l∈x.2->l.2.length<=60:=fun l hl=>(okLive_ok (zax.1 (okIdx_ok hk).2.2.1 l hl)).2.2.1
theorem FitI.addY {N:Nat} {x:EIndex} (h:FitI N x) (hk:okIdx x=true) {docs:List EDoc} (od:∀d,d∈docs->okD Sm TDoc d) (hd:docs.length<=16):FitI N (addY docs x):=by
 obtain⟨k1,k2,k3,k4⟩:=okIdx_ok hk
 refine⟨h.big,h.top,h.oc,?_,fun l' hl'=>?_⟩
 .have h1:=zbh liveN (x.2.map (goneN docs))
  rw[zar]at h1
  show((x.2.map (goneN docs)).filter liveN++ [((docs,entriesS x.1 docs),([]:List Int))]).length<=_
  rw[zam,zbE]
  omega
 .rcases zaB.1 hl' with hl'|hl'
  .obtain ⟨l,hl,rfl⟩:=zab.1 (zaZ.1 hl').1
   have he:=h.each l hl
   have h2:=(goneN_2 docs l).1
   have h3:=dead_few hk l hl
   rw[goneN_1]
   exact⟨he.1,he.2.1,by omega⟩
  .rw [zaD]at hl'
   subst hl'
   exact⟨od,by show docs.length<=_;omega,zaf _⟩
theorem addIndex_s {N:Nat} {x:EIndex} (h:FitI N x) {docs:List EDoc} (od:∀d,d∈docs->okD Sm TDoc d) (hl:docs.length<=1000):s_IndexAdd_m N x.1.1 x.1.2 x.2 docs=some ((addR docs x).1.1.1,(addR docs x).1.1.2,(addR docs x).1.2,(addR docs x).2):=by
 have hM:1048576<N:=h.big
 have hN:=h.top
 unfold s_IndexAdd_m addR
 rw[l18Ok_spec h,za]
 cases hk:okIdx x with
 |false=>rfl
 |true=>
  obtain⟨k1,k2,k3,k4⟩:=okIdx_ok hk
  have hcopy:=copyIndex_spec N x (.of h.big h.oc) (by omega) (fun l hl=>.of (zax.1 k3 l hl))
  rw[zn,ze,zg,l6Docs_spec N h.big (by omega) docs od (by omega),za]
  cases hdo:okDocs docs with
  |false=>
   rw[zaI,zg,hcopy,za]
   rfl
  |true=>
   have hdk:=okDocs_ok hdo
   have hd16:=hdk.few
   rw[zn,ze,zaj]
   by_cases h0:docs.length=0
   .rw [zb (by omega:(docs.length:Int)=0),zg,hcopy,za,zd (by omega)]
    rfl
   .rw [zd (by omega:¬(docs.length:Int)=0),ze,hcopy,za,zb (by omega:0<docs.length),zg]
    dsimp only
    have hp:=FitP.of h hk
    have e0:((docs,(0:Int),x.1.1,x.1.2,x.2,x.1.1,x.1.2,x.2):List EDoc×Int×List (List UInt8)×List ESyn×List ELive×List (List UInt8)×List ESyn×List ELive)=(docs,((0:Nat):Int),x.1.1,x.1.2,x.2,x.1.1,x.1.2,x.2.map (goneN (docs.take 0))):=by
     rw[show goneN (docs.take 0)=id from by funext l;rfl,List.map_id]
     rfl
    refine(congrArg (iter _ N) e0).trans ((iter_scan _ docs.length (fun n=>(docs,(n:Int),x.1.1,x.1.2,x.2,x.1.1,x.1.2,x.2.map (goneN (docs.take n)))) (fun _=>some ((bif okIdx (addY docs x)then(addY docs x,true)else(x,false)).1.1.1,(bif okIdx (addY docs x)then(addY docs x,true)else(x,false)).1.1.2,(bif okIdx (addY docs x)then(addY docs x,true)else(x,false)).1.2,(bif okIdx (addY docs x)then(addY docs x,true)else(x,false)).2)) (fun go=>?_) (fun go n hn hgo=>?_) N 0 (zaf _) (by omega)).trans rfl)
    .dsimp only
     have hY:=h.addY hk od hd16
     have hls:=zbh liveN (x.2.map (goneN docs))
     rw[zar]at hls
     rw[zd (zm _),ze,zq,full_spec N hM x.1 _ (by rw[zar];omega),za]
     dsimp only
     rw[l7Of_spec N x.1 k1 hdk hM,za,zf (room_of (by show(_+1)*72<=_;unfold liveN at hls;omega) (by show((_+1:Nat):Int)<=_;unfold liveN at hls;omega))]
     have e1:=l18Ok_spec hY
     rw[show(x.2.map (goneN docs)).filter (fun l=>decide (l.2.length<l.1.1.length))++ [((docs,entriesS x.1 docs),([]:List Int))]=(addY docs x).2 from rfl]
     rw[show(addY docs x).1=x.1 from rfl]at e1
     rw[e1,za]
     cases okIdx (addY docs x)with
     |false=>rw[zaI,zg,hcopy,za];rfl
     |true=>rfl
    .dsimp only
     have hpn:=hp.goneN (dead_few hk) (docs.take n) (by rw[zah];omega)
     rw[zb (by omega:(n:Int)<docs.length),zg,idx_at hn,za,gone_spec hpn,za,zf (fits_nat (n:=n) (by omega)),<-hgo,cast_succ',zo hn,zbO]
     have ef:(goneS docs[n].1∘goneN (docs.take n))=goneN (docs.take n++ [docs[n]]):=by
      funext l
      show _=goneN _ l
      unfold goneN
      rw[zaX]
      rfl
     rw[ef]
theorem addR_fit {N:Nat} {x:EIndex} (h:FitI N x) {docs:List EDoc} (od:∀d,d∈docs->okD Sm TDoc d):FitI N (addR docs x).1:=by
 unfold addR
 cases hk:okIdx x with
 |false=>exact FitI.zero h.big h.top
 |true=>
  rw[zg]
  cases hd:okDocs docs&&decide (0<docs.length)with
  |false=>exact h
  |true=>
   rw[zg]
   rw[zj]at hd
   cases okIdx (addY docs x)with
   |false=>exact h
   |true=>exact h.addY hk od (okDocs_ok hd.1).few
def dropX (id:Int) (x:EIndex):EIndex:=(x.1,(x.2.map (goneS id)).filter fun l=>decide (l.2.length<l.1.1.length))
def dropR (id:Int) (x:EIndex):EIndex×Bool:=bif okIdx x then(dropX id x,x.2.any (hasL id))else(zeroX,false)
theorem indexDrop_s {N:Nat} {x:EIndex} (h:FitI N x) (id:Int):s_IndexDrop_m N x.1.1 x.1.2 x.2 id=some ((dropR id x).1.1.1,(dropR id x).1.1.2,(dropR id x).1.2,(dropR id x).2):=by
 unfold s_IndexDrop_m dropR
 rw[l18Ok_spec h,za]
 cases hk:okIdx x with
 |false=>rfl
 |true=>
  obtain⟨k1,k2,k3,k4⟩:=okIdx_ok hk
  have hp:=FitP.of h hk
  rw[zn,ze,copyIndex_spec N x (.of h.big h.oc) (by omega) (fun l hl=>.of (zax.1 k3 l hl)),za]
  dsimp only
  rw[gone_spec hp,za]
  dsimp only
  rw[full_spec N h.big x.1 _ (by rw[zar];omega),za]
  rfl
theorem dropR_fit {N:Nat} {x:EIndex} (h:FitI N x) (id:Int):FitI N (dropR id x).1:=by
 unfold dropR
 cases hk:okIdx x with
 |false=>exact FitI.zero h.big h.top
 |true=>
  obtain⟨k1,k2,k3,k4⟩:=okIdx_ok hk
  refine⟨h.big,h.top,h.oc,?_,fun l' hl'=>?_⟩
  .exact zau (zbh _ _) (by rw[zar];omega)
  .obtain ⟨l,hl,rfl⟩:=zab.1 (zaZ.1 hl').1
   have he:=h.each l hl
   have h2:=(goneS_2 id l).1
   have h3:=dead_few hk l hl
   rw[goneS_1]
   exact⟨he.1,he.2.1,by omega⟩
def midD (k:Nat) (x:EIndex):List EDoc:=sortD (allD ((x.2.take (k+2)).drop k))
def mergeX (k:Nat) (x:EIndex):EIndex:=(x.1,x.2.take k++ [((midD k x,entriesS x.1 (midD k x)),[])]++x.2.drop (k+2))
def mergeR (at':Int) (x:EIndex):EIndex×Bool:=bif okIdx x then(bif decide (0<=at')&&decide (at'<=(x.2.length:Int)-2)then(mergeX at'.toNat x,true)else(x,false))else(zeroX,false)
theorem cut_mid {Y:Type} (xs:List Y) (a b:Nat) (h1:a<=b) (h2:b<=xs.length):cut xs (a:Int) (b:Int)=some ((xs.take b).drop a):=by
 unfold cut
 rw[zf ⟨by omega,by omega,by omega⟩]
 rfl
theorem indexMerge_s {N:Nat} {x:EIndex} (h:FitI N x) (at':Int):s_IndexMerge_m N x.1.1 x.1.2 x.2 at'=some ((mergeR at' x).1.1.1,(mergeR at' x).1.1.2,(mergeR at' x).1.2,(mergeR at' x).2):=by
 have hM:1048576<N:=h.big
 have hN:=h.top
 unfold s_IndexMerge_m mergeR
 rw[l18Ok_spec h,za]
 cases hk:okIdx x with
 |false=>rfl
 |true=>
  obtain⟨k1,k2,k3,k4⟩:=okIdx_ok hk
  have hcopy:=copyIndex_spec N x (.of h.big h.oc) (by omega) (fun l hl=>.of (zax.1 k3 l hl))
  rw[zn,ze,zg,zf (by unfold fits;omega),l1In_spec,za]
  cases hin:decide (0<=at')&&decide (at'<=(x.2.length:Int)-2)with
  |false=>
   rw[zaI,zg,hcopy,za]
   rfl
  |true=>
   rw[zj,zw,zw]at hin
   obtain⟨k,rfl⟩:∃k:Nat,at'=(k:Int):=⟨at'.toNat,by omega⟩
   have hk2:k+2<=x.2.length:=by omega
   have hsub:((x.2.take (k+2)).drop k).Sublist x.2:=(List.drop_sublist _ _).trans (List.take_sublist _ _)
   have hpc:Pieces ((x.2.take (k+2)).drop k):=pieces_of (c:=x.1) (by rw[zaQ,zah];omega) (zax.2 fun l hl=>zax.1 k3 l (hsub.subset hl))
   have hdo:okDocs (midD k x)=true:=okDocs_sub k4 (allD_sub hsub)
   rw[zn,ze,zf (by unfold fits;omega),show((k:Int)+2)=((k+2:Nat):Int)from by omega,cut_mid x.2 k (k+2) (by omega) hk2,za]
   have hdocs:=docs_spec N hM hN ([],[]) _ hpc
   rw[hdocs,za,hcopy,za]
   dsimp only
   rw[cut_take' x.2 k (by omega),za,zf (room_of (by rw[zah];simp;omega) (by rw[zah];simp;omega)),show sortD (allD ((x.2.take (k+2)).drop k))=midD k x from rfl,l7Of_spec N x.1 k1 (okDocs_ok hdo) hM,za,
    zf (room_of (by rw[zam,zah,zbE];simp;omega) (by rw[zam,zah,zbE];simp;omega)),zf (by unfold fits;omega),cut_drop' x.2 (k+2) hk2,za,
    zf (room_of (by simp only[zam,zah,zbE,zaQ,zac];omega) (by simp only[zam,zah,zbE,zaQ,zac];omega)),zaW]
   rfl
theorem mergeR_fit {N:Nat} {x:EIndex} (h:FitI N x) (at':Int):FitI N (mergeR at' x).1:=by
 unfold mergeR
 cases hk:okIdx x with
 |false=>exact FitI.zero h.big h.top
 |true=>
  rw[zg]
  cases hin:decide (0<=at')&&decide (at'<=(x.2.length:Int)-2)with
  |false=>exact h
  |true=>
   obtain⟨k1,k2,k3,k4⟩:=okIdx_ok hk
   rw[zg]
   generalize at'.toNat=k
   have hsub:((x.2.take (k+2)).drop k).Sublist x.2:=(List.drop_sublist _ _).trans (List.take_sublist _ _)
   have hpc:Pieces ((x.2.take (k+2)).drop k):=pieces_of (c:=x.1) (zau hsub.length_le k2) (zax.2 fun l hl=>zax.1 k3 l (hsub.subset hl))
   refine⟨h.big,h.top,h.oc,?_,fun l' hl'=>?_⟩
   .show (x.2.take k++ [((midD k x,entriesS x.1 (midD k x)),([]:List Int))]++x.2.drop (k+2)).length<=_
    simp only[zam,zah,zbE,zaQ]
    omega
   .rcases zaB.1 hl' with hl'|hl'
    .rcases zaB.1 hl' with hl'|hl'
     .exact h.each l' (zaP hl')
     .rw [zaD]at hl'
      subst hl'
      refine⟨sort_docs fun l hl=>(h.each l (hsub.subset hl)).1,?_,zaf _⟩
      have:=sort_len hpc
      show(midD k x).length<=_
      unfold midD
      omega
    .exact h.each l' (zbP hl')
theorem indexNew_s {N:Nat} (hM:Sm<N) (hN:N<=16777216) (c:EConf) (oc:okD Sm TConf c):Def (s_IndexNew_m N c.1 c.2) fun r=>FitI N (r,[]):=by
 have hM':1048576<N:=hM
 unfold s_IndexNew_m
 rw[l2Ok_spec N hM (by omega) c oc,za]
 cases okConf c with
 |false=>exact Def.ret (FitI.zero hM hN)
 |true=>
  rw[zn,ze,copyConf_spec N c (.of hM' oc),za]
  exact Def.ret ⟨hM,hN,oc,zaf _,fun l hl=>by cases hl⟩
theorem goneS_mem (id x:Int) (l:ELive):x∈(goneS id l).2↔x∈l.2\/(x=id/\(docOf l.1.1 id).isSome=true):=by
 unfold goneS
 cases hh:hasL id l with
 |true=>
  have h1:(docOf l.1.1 id).isSome=true:=by unfold hasL at hh;rw[zj]at hh;exact hh.1
  rw[zg]
  show x∈putI l.2 id↔_
  rw[putI_mem,h1]
  constructor
  .rintro (h|h)
   .exact .inr ⟨h,rfl⟩
   .exact .inl h
  .rintro (h|h)
   .exact .inr h
   .exact .inl h.1
 |false=>
  rw[ze]
  constructor
  .exact .inl
  .rintro (h|⟨rfl,h⟩)
   .exact h
   .unfold hasL at hh
    rw[h,zaj]at hh
    simpa using hh
theorem goneN_mem (x:Int):∀(ds:List EDoc) (l:ELive),x∈(goneN ds l).2↔x∈l.2\/(x∈ds.map (·.1)/\(docOf l.1.1 x).isSome=true)
 | [],l=>by simp[goneN]
 |d::ds,l=>by
  have ih:=goneN_mem x ds (goneS d.1 l)
  rw[goneS_1,goneS_mem]at ih
  show x∈(goneN ds (goneS d.1 l)).2↔_
  rw[ih,zv,zp]
  constructor
  .rintro ((h|⟨rfl,h⟩)|⟨h1,h2⟩)
   .exact .inl h
   .exact .inr ⟨.inl rfl,h⟩
   .exact .inr ⟨.inr h1,h2⟩
  .rintro (h|⟨(rfl|h1),h2⟩)
   .exact .inl (.inl h)
   .exact .inl (.inr ⟨rfl,h2⟩)
   .exact .inr ⟨h1,h2⟩
theorem doc_some {ds:List EDoc} {d:EDoc} (hi:ds.Pairwise fun a b=>a.1<b.1) (h:d∈ds):(docOf ds d.1).isSome=true:=by rw[docOf_self hi d h];rfl
theorem drop_many (ds:List EDoc) (l:ELive) (hi:l.1.1.Pairwise fun a b=>a.1<b.1) (hu:upL l.2):dropL (ds.map (·.1)) l=goneN ds l:=by
 refine Prod.ext (goneN_1 ds l).symm ?_
 show putIs l.2 (addD (ds.map (·.1)) l)=(goneN ds l).2
 refine up_unique (putIs_up _ _ hu) ((goneN_2 ds l).2 hu) fun x=>?_
 rw[putIs_mem,goneN_mem]
 unfold addD
 rw[zaZ,zw,zab]
 constructor
 .rintro (⟨⟨d,hd,rfl⟩,h⟩|h)
  .exact .inr ⟨h,doc_some hi (zaZ.1 hd).1⟩
  .exact .inl h
 .rintro (h|⟨h1,h2⟩)
  .exact .inr h
  .by_cases e:x∈l.2
   .exact .inr e
   .cases hd:docOf l.1.1 x with
    |none=>rw[hd]at h2;cases h2
    |some d=>
     obtain⟨h5,rfl⟩:=docOf_some hd
     exact .inl ⟨⟨d,zaZ.2 ⟨h5,by rw[zd e];rfl⟩,rfl⟩,h1⟩
theorem dead_in {l:ELive} (hi:l.1.1.Pairwise fun a b=>a.1<b.1) (hs:∀n,n∈l.2->∃d,d∈l.1.1/\d.1=n) (ds:List EDoc):∀n,n∈(goneN ds l).2->∃d,d∈(goneN ds l).1.1/\d.1=n:=fun n hn=>by
 rw[goneN_1]
 rcases(goneN_mem n ds l).1 hn with h|⟨_,h⟩
 .exact hs n h
 .cases hd:docOf l.1.1 n with
  |none=>rw[hd]at h;cases h
  |some d=>exact⟨d,docOf_some hd⟩
theorem alive_goneN {l:ELive} (hi:l.1.1.Pairwise fun a b=>a.1<b.1) (hu:upL l.2) (hs:∀n,n∈l.2->∃d,d∈l.1.1/\d.1=n) (ds:List EDoc):(alive (goneN ds l)).length+(goneN ds l).2.length=(goneN ds l).1.1.length:=
 alive_len (goneN ds l) (by rw[goneN_1];exact hi) (((goneN_2 ds l).2 hu).imp fun h e=>by omega) (dead_in hi hs ds)
theorem live_goneN {l:ELive} (hi:l.1.1.Pairwise fun a b=>a.1<b.1) (hu:upL l.2) (hs:∀n,n∈l.2->∃d,d∈l.1.1/\d.1=n) (ds:List EDoc):livB (goneN ds l)=liveN (goneN ds l):=by
 have:=alive_goneN hi hu hs ds
 unfold livB liveN
 rw[decide_eq_decide]
 omega
theorem idsOf_spec (N:Nat) (docs:List EDoc) (h:docs.length<N) (hl:docs.length<=1000000):i_idsOf_m N docs=some (docs.map (·.1)):=by
 refine Def.get ?_
 unfold i_idsOf_m
 refine Def.upto docs.length (fun n v=>v=((docs.take n).map (·.1),docs,(docs.length:Int),(n:Int))) (fun go v hv=>?_) (fun go n v hn hv hgo=>?_) N 0 _ (zaf _) rfl (by omega)
 .subst hv
  dsimp only
  rw[zd (zm _),ze,zq]
  exact Def.ret rfl
 .subst hv
  dsimp only
  rw[zb (by omega:(n:Int)<docs.length),zg,idx_at hn,za]
  refine Def.ite (room_of (by rw[zar,zah,zbE];omega) (by rw[zar,zah,zbE];omega)) (Def.ite (fits_nat (n:=n) (by omega)) (hgo _ ?_))
  rw[zo hn,zaK,cast_succ']
  rfl
theorem FitX.cloneI {N:Nat} {x:EIndex} (h:FitI N x) (hk:okIdx x=true):i_cloneIndex_m N x.1.1 x.1.2 x.2=some (x.1.1,x.1.2,x.2):=by
 obtain⟨k1,k2,k3,k4⟩:=okIdx_ok hk
 exact cloneIndex_spec N x (.of h.big h.oc) (by omega) (fun l hl=>.of (zax.1 k3 l hl))
theorem indexAdd_i {N:Nat} {x:EIndex} (h:FitI N x) {docs:List EDoc} (od:∀d,d∈docs->okD Sm TDoc d) (hl:docs.length<=1000):i_IndexAdd_m N x.1.1 x.1.2 x.2 docs=some ((addR docs x).1.1.1,(addR docs x).1.1.2,(addR docs x).1.2,(addR docs x).2):=by
 have hM:1048576<N:=h.big
 have hN:=h.top
 unfold i_IndexAdd_m addR
 rw[indexOk_spec h,za]
 cases hk:okIdx x with
 |false=>rfl
 |true=>
  obtain⟨k1,k2,k3,k4⟩:=okIdx_ok hk
  have hcopy:=FitX.cloneI h hk
  rw[zn,ze,zg,hcopy,za]
  dsimp only
  by_cases h0:docs.length=0
  .rw [zb (by omega:(docs.length:Int)=0),zg,zd (by omega:¬0<docs.length),Bool.and_false]
   rfl
  .rw [zd (by omega:¬(docs.length:Int)=0),ze,zb (by omega:0<docs.length),zaV,docsOk_spec N h.big (by omega) docs od (by omega),za]
   cases hdo:okDocs docs with
   |false=>rfl
   |true=>
    have hdk:=okDocs_ok hdo
    have hd16:=hdk.few
    have hp:=FitP.of h hk
    have hids:∀l,l∈x.2->l.1.1.Pairwise fun a b=>a.1<b.1:=fun l hl=>(hp.good l hl).dok.inn.ids
    have hdead:∀l,l∈x.2->∀n,n∈l.2->∃d,d∈l.1.1/\d.1=n:=fun l hl=>okLive_dead (zax.1 k3 l hl)
    have hls:=zbh liveN (x.2.map (goneN docs))
    rw[zar]at hls
    have eL:(x.2.map (dropL (docs.map (·.1)))).filter livB=(x.2.map (goneN docs)).filter liveN:=by
     rw[map_eq (fun l hl=>drop_many docs l (hids l hl) (hp.up l hl))]
     refine filter_eq fun l' hl'=>?_
     obtain⟨l,hl,rfl⟩:=zab.1 hl'
     exact live_goneN (hids l hl) (hp.up l hl) (hdead l hl) docs
    rw[zn,ze,zg,idsOf_spec N docs (by omega) (by omega),za,drop_spec hp _ (by rw[zar];omega),za]
    dsimp only
    rw[eL,segOf_spec N h.big hN x.1 h.oc docs od (by omega),k1,hdo,zaj,zg,za]
    rw[zf (room_of (by show(_+1)*72<=_;omega) (by show((_+1:Nat):Int)<=_;omega))]
    have hY:=h.addY hk od hd16
    have e1:=indexOk_spec hY
    rw[show(x.2.map (goneN docs)).filter liveN++ [((docs,entriesS x.1 docs),([]:List Int))]=(addY docs x).2 from rfl]
    rw[show(addY docs x).1=x.1 from rfl]at e1
    rw[e1,za]
    cases okIdx (addY docs x)with
    |false=>rw[zaI,zg,za];rfl
    |true=>rfl
structure PcOk (l:ELive):Prop where
 ids:l.1.1.Pairwise fun a b=>a.1<b.1
 up:upL l.2
 dead:∀n,n∈l.2->∃d,d∈l.1.1/\d.1=n
theorem PcOk.goneN {l:ELive} (h:PcOk l) (ds:List EDoc):PcOk (goneN ds l):=
 ⟨by rw[goneN_1];exact h.ids,(goneN_2 ds l).2 h.up,dead_in h.ids h.dead ds⟩
theorem PcOk.len {l:ELive} (h:PcOk l):(alive l).length+l.2.length=l.1.1.length:=alive_len l h.ids (h.up.imp fun h e=>by omega) h.dead
def notIn (ds:List EDoc) (e:EDoc):Bool:= !decide (e.1∈ds.map (·.1))
theorem alive_gone {l:ELive} (h:PcOk l) (ds:List EDoc):alive (goneN ds l)=(alive l).filter (notIn ds):=by
 unfold alive
 rw[goneN_1,List.filter_filter]
 refine List.filter_congr fun d hd=>?_
 have h1:=goneN_mem d.1 ds l
 rw[doc_some h.ids hd]at h1
 unfold notIn
 by_cases e1:d.1∈l.2<;>by_cases e2:d.1∈ds.map (·.1)<;>simp[h1,e1,e2]
theorem alive_new (ds:List EDoc) (e:List EEntry):alive ((ds,e),[])=ds:=by
 unfold alive
 exact List.filter_eq_self.2 fun d hd=>rfl
theorem gone_again (ds:List EDoc) (l:ELive):goneN ds (goneN ds l)=goneN ds l:=by
 have key:∀(es:List EDoc) (l':ELive),(∀e,e∈es->hasL e.1 l'=false)->goneN es l'=l':=fun es=>by
  induction es with
  |nil=>exact fun _ _=>rfl
  |cons e es ih=>
   intro l' h
   show goneN es (goneS e.1 l')=l'
   have e1:goneS e.1 l'=l':=by unfold goneS;rw[h e zy];rfl
   rw[e1]
   exact ih l' fun e' he'=>h e' (zl _ he')
 refine key ds _ fun e he=>?_
 unfold hasL
 rw[goneN_1]
 cases hd:(docOf l.1.1 e.1).isSome with
 |false=>rfl
 |true=>
  have:e.1∈(goneN ds l).2:=(goneN_mem e.1 ds l).2 (.inr ⟨zab.2 ⟨e,he,rfl⟩,hd⟩)
  rw[zb this]
  rfl
theorem gone_all {ds:List EDoc} (hi:ds.Pairwise fun a b=>a.1<b.1) (e:List EEntry):liveN (goneN ds ((ds,e),[]))=false:=by
 have hp:PcOk ((ds,e),([]:List Int)):=⟨hi,za4,fun n hn=>by cases hn⟩
 have h1:=(hp.goneN ds).len
 have h2:alive (goneN ds ((ds,e),([]:List Int)))=[]:=by
  rw[alive_gone hp ds,alive_new]
  refine zb4.2 fun d hd=>?_
  unfold notIn
  rw[zb (zab.2 ⟨d,hd,rfl⟩)]
  simp
 rw[h2]at h1
 unfold liveN
 rw[decide_eq_false_iff_not]
 simp only[zac]at h1
 omega
theorem add_twice {x:EIndex} {ds:List EDoc} (hd:okDocs ds=true):addY ds (addY ds x)=addY ds x:=by
 refine Prod.ext rfl ?_
 have hi:=(okDocs_ok hd).inn.ids
 show((addY ds x).2.map (goneN ds)).filter liveN++ [((ds,entriesS x.1 ds),([]:List Int))]=(x.2.map (goneN ds)).filter liveN++ [((ds,entriesS x.1 ds),([]:List Int))]
 congr 1
 show(((x.2.map (goneN ds)).filter liveN++ [((ds,entriesS x.1 ds),([]:List Int))]).map (goneN ds)).filter liveN=_
 rw[zaK,za6,List.map_singleton,show [goneN ds ((ds,entriesS x.1 ds),([]:List Int))].filter liveN=[]from zb4.2 fun l hl=>by rw[zaD.1 hl,gone_all hi];simp,zat]
 have e:((x.2.map (goneN ds)).filter liveN).map (goneN ds)=(x.2.map (goneN ds)).filter liveN:=by
  refine(za0 (g:=id) fun l' hl'=>?_).trans (List.map_id _)
  obtain⟨l,hl,rfl⟩:=zab.1 (zaZ.1 hl').1
  exact gone_again ds l
 rw[e,List.filter_filter]
 simp
theorem addR_yes {docs:List EDoc} {x:EIndex} (h:(addR docs x).2=true):addR docs x=(addY docs x,true)/\okIdx x=true/\okDocs docs=true/\0<docs.length/\okIdx (addY docs x)=true:=by
 unfold addR at h⊢
 cases hk:okIdx x with
 |false=>rw[hk]at h;cases h
 |true=>
  rw[hk]at h
  rw[zg]at h⊢
  cases hd:okDocs docs&&decide (0<docs.length)with
  |false=>rw[hd]at h;cases h
  |true=>
   rw[hd]at h
   rw[zg]at h⊢
   rw[zj,zw]at hd
   cases hy:okIdx (addY docs x)with
   |false=>rw[hy]at h;cases h
   |true=>exact⟨rfl,rfl,hd.1,hd.2,rfl⟩
theorem addR_of {docs:List EDoc} {x:EIndex} (h1:okIdx x=true) (h2:okDocs docs=true) (h3:0<docs.length) (h4:okIdx (addY docs x)=true):addR docs x=(addY docs x,true):=by
 unfold addR
 rw[h1,h2,zb h3,h4]
 rfl
theorem addR_twice {docs:List EDoc} {x:EIndex} (h:(addR docs x).2=true):addR docs (addY docs x)=(addY docs x,true):=by
 obtain⟨_,h1,h2,h3,h4⟩:=addR_yes h
 have:=addR_of (docs:=docs) (x:=addY docs x) h4 h2 h3 (by rw[add_twice h2];exact h4)
 rw[this,add_twice h2]
structure SameX (x z:EIndex):Prop where
 okx:okIdx x=true
 okz:okIdx z=true
 conf:z.1=x.1
 docs:docsX z=docsX x
end Go.Proofs.YtchgdmmcjgmfcaaGreatDoor
