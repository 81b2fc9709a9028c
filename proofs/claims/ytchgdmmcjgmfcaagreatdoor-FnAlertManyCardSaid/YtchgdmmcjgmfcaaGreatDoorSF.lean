import Derived.Test.YtchgdmmcjgmfcaaGreatDoorSC
import Derived.Test.YtchgdmmcjgmfcaaGreatDoorSE
import Derived.Test.YtchgdmmcjgmfcaaGreatDoorQO
set_option linter.unusedVariables false
set_option linter.unusedSimpArgs false
namespace Go.Proofs.YtchgdmmcjgmfcaaGreatDoor
open Go.RowKit
def putD (l:List EDoc) (d:EDoc):List EDoc:=match l with
 | []=>[d]
 |x::r=>if x.1<d.1 then x::putD r d else d::x::r
theorem jRP (d:EDoc):∀l,(putD l d).Perm (d::l)
 | []=>List.Perm.refl _
 |x::r=>by
  unfold putD
  split
  .exact ((jRP d r).cons x).trans (List.Perm.swap d x r)
  .exact List.Perm.refl _
theorem jHS (d:EDoc):∀l,(l.Pairwise fun a b=>a.1<=b.1)->(putD l d).Pairwise fun a b=>a.1<=b.1
 | [],_=>by simp[putD]
 |x::r,h=>by
  rw[zas]at h
  unfold putD
  split
  .rename_i hx
   rw[zas]
   refine⟨fun y hy=>?_,jHS d r h.2⟩
   rcases zp.1 ((jRP d r).mem_iff.1 hy)with rfl|hy
   .omega
   .exact h.1 y hy
  .rename_i hx
   rw[zas,zas]
   refine⟨fun y hy=>?_,h⟩
   rcases zp.1 hy with rfl|hy
   .omega
   .have:=h.1 y hy;omega
def sortD (l:List EDoc):List EDoc:=l.foldl putD []
theorem jHM :∀(l acc:List EDoc),(acc.Pairwise fun a b=>a.1<=b.1)->(l.foldl putD acc).Perm (acc++l)/\(l.foldl putD acc).Pairwise fun a b=>a.1<=b.1
 | [],acc,h=>⟨by simp,h⟩
 |d::l,acc,h=>by
  rw[zaq]
  obtain⟨h1,h2⟩:=jHM l (putD acc d) (jHS d acc h)
  refine⟨h1.trans ?_,h2⟩
  refine((jRP d acc).append_right l).trans ?_
  rw[zbk]
  exact List.perm_middle.symm
theorem sortD_perm (l:List EDoc):(sortD l).Perm l:=by
 have:=(jHM l [] za4).1
 rwa[zaW]at this
theorem sortD_le (l:List EDoc):(sortD l).Pairwise fun a b=>a.1<=b.1:=(jHM l [] za4).2
theorem docs_to {R S:List EDoc} (hp:R.Perm S) (hR:R.Pairwise fun a b=>a.1<=b.1) (hS:S.Pairwise fun a b=>a.1<=b.1) (h:okDocs R=true):R=S:=by
 have hi:=(okDocs_ok h).inn.ids
 have hne:S.Pairwise fun a b=>a.1≠b.1:=(hp.pairwise_iff (fun {x y} h=>fun e=>h e.symm)).1 (hi.imp fun h e=>by omega)
 have hs:S.Pairwise fun a b=>a.1<b.1:=(hS.and hne).imp fun {a b} h=>by have:=h.1;have:=h.2;omega
 exact sorted_unique (fun a b:EDoc=>decide (a.1<b.1)) (fun a=>by simp) (fun a b c h k=>by rw[zw]at*;omega) R S (hi.imp fun h=>by rw[zw];exact h) (hs.imp fun h=>by rw[zw];exact h) fun x=>hp.mem_iff
theorem docs_same {R S:List EDoc} (hp:R.Perm S) (hR:R.Pairwise fun a b=>a.1<=b.1) (hS:S.Pairwise fun a b=>a.1<=b.1):okDocs R=okDocs S:=by
 cases h1:okDocs R with
 |true=>rw[<-docs_to hp hR hS h1,h1]
 |false=>
  cases h2:okDocs S with
  |false=>rfl
  |true=>rw[<-docs_to hp.symm hS hR h2,h2]at h1;cases h1
abbrev ELive :Type:=ESeg×List Int
abbrev EIndex :Type:=EConf×List ELive
def alive (l:ELive):List EDoc:=l.1.1.filter fun d=> !decide (d.1∈l.2)
def allD (ls:List ELive):List EDoc:=ls.flatMap alive
theorem alive_len (l:ELive) (hi:l.1.1.Pairwise fun a b=>a.1<b.1) (hd:l.2.Nodup) (hs:∀n,n∈l.2->∃d,d∈l.1.1/\d.1=n):(alive l).length+l.2.length=l.1.1.length:=by
 have h1:(l.1.1.filter fun d=>decide (d.1∈l.2)).length=l.2.length:=by
  have hp:((l.1.1.filter fun d=>decide (d.1∈l.2)).map (·.1)).Perm l.2:=by
   refine(List.perm_ext_iff_of_nodup ?_ hd).2 fun n=>?_
   .have:((l.1.1.map (·.1))).Nodup:=by
     refine zbb.2 (hi.imp fun h e=>?_)
     have:=h;omega
    exact List.Nodup.sublist (List.filter_sublist.map _) this
   .rw [zab]
    constructor
    .rintro ⟨d,hd,rfl⟩
     exact of_decide_eq_true (zaZ.1 hd).2
    .intro hn
     obtain⟨d,hd,rfl⟩:=hs n hn
     exact⟨d,zaZ.2 ⟨hd,zb hn⟩,rfl⟩
  rw[<-hp.length_eq,zar]
 unfold alive
 rw[<-h1]
 have:∀(xs:List EDoc) (p:EDoc->Bool),(xs.filter fun d=> !p d).length+(xs.filter p).length=xs.length:=by
  intro xs p
  induction xs with
  |nil=>rfl
  |cons x xs ih=>
   rw[za9,za9,zi]
   cases p x<;>simp<;>omega
 exact this l.1.1 _
theorem not_take_succ {l:List Int} {a:Int} {n:Nat} (hn:n<l.length) (h:a∉l.take n) (e:¬a=l[n]):a∉l.take (n+1):=by
 rw[zo hn,zaB,zaD]
 rintro(h'|h')
 .exact h h'
 .exact e h'
theorem jI0 (N:Nat) (l:List Int) (a:Int) (h:l.length<N) (hN:N<=1099511627776):Def (jHJ N l a) fun r=>(r=-1/\a∉l)\/ ∃j:Nat,r=(j:Int)/\j<l.length/\l[j]? =some a/\a∉l.take j:=by
 unfold jHJ
 refine Def.upto l.length (fun n g=>a∉l.take n/\g=(l,a,(l.length:Int),(n:Int))) ?_ ?_ N 0 _ (zaf _) ⟨by simp,rfl⟩ (by omega)
 .rintro go _ ⟨hm,rfl⟩
  dsimp only
  rw[zd (zm _),ze]
  rw[zq]at hm
  exact Def.ret (.inl ⟨rfl,hm⟩)
 .rintro go n _ hn ⟨hm,rfl⟩ hgo
  dsimp only
  rw[zb (by omega:(n:Int)<l.length),zg,idx_at hn,za]
  refine Def.dif (fun e=>Def.ret (.inr ⟨n,rfl,hn,by rw[zc hn,e],hm⟩)) (fun e=>?_)
  exact Def.ite (fits_nat (n:=n) (by omega)) (hgo _ ⟨not_take_succ hn hm e,by rw[cast_succ']⟩)
theorem containsI_spec (N:Nat) (l:List Int) (n:Int) (h:l.length<N) (hN:N<=1099511627776):jHG N l n=some (decide (n∈l)):=by
 obtain⟨r,hr,hc⟩:=jI0 N l n h hN
 unfold jHG
 rw[hr,za]
 rcases hc with⟨rfl,hn⟩|⟨j,rfl,hj,he,_⟩
 .rw [zd hn];rfl
 .have hm:n∈l:=by
   rw[zc hj]at he
   have e:=Option.some.inj he
   exact e▸zr hj
  rw[zb hm,zb (by omega)]
theorem alive_take (l:ELive) {n:Nat} (h:n<l.1.1.length):(l.1.1.take (n+1)).filter (fun d=> !decide (d.1∈l.2))=bif decide (l.1.1[n].1∈l.2)then(l.1.1.take n).filter (fun d=> !decide (d.1∈l.2))else(l.1.1.take n).filter (fun d=> !decide (d.1∈l.2))++ [l.1.1[n]]:=by
 rw[zo h,za6]
 cases e:decide (l.1.1[n].1∈l.2)<;>simp[za9,e]
theorem alive_spec (N:Nat) (hM:1048576<N) (hN:N<=16777216) (l:ELive) (h1:l.1.1.length<=1000) (h2:l.2.length<=1000):jHE N l.1.1 l.1.2 l.2=some (alive l):=by
 unfold jHE alive
 refine(iter_scan _ l.1.1.length (fun n=>((l.1.1.take n).filter (fun d=> !decide (d.1∈l.2)),l.1.1,(l.1.1.length:Int),(n:Int),l.1.1,l.1.2,l.2)) (fun n=>some (l.1.1.filter fun d=> !decide (d.1∈l.2))) (fun go=>?_) (fun go n hn hgo=>?_) N 0 (zaf _) (by omega)).trans rfl
 .dsimp only
  rw[zd (zm _),ze,zq]
 .dsimp only
  have hll:((l.1.1.take n).filter (fun d=> !decide (d.1∈l.2))).length<=1000:=zau (zbh _ _) (by rw[zah];omega)
  simp only[cast_succ',alive_take l hn]at hgo
  generalize(l.1.1.take n).filter (fun d=> !decide (d.1∈l.2))=out at*
  rw[zb (by omega:(n:Int)<l.1.1.length),zg,idx_at hn,za,containsI_spec N _ _ (by omega) (by omega),za,zf (room_of (by rw[zbE];omega) (by rw[zbE];omega)),<-hgo]
  simp only[zf (fits_nat (n:=n) (by omega))]
  cases decide (l.1.1[n].1∈l.2)<;>rfl
def okLive (c:EConf) (l:ELive):Bool:=okSeg c l.1&&(upB l.2&&(decide (l.2.length<l.1.1.length)&&l.2.all fun n=>(docOf l.1.1 n).isSome))
theorem jIJ (c:EConf) (l:ELive):(okSeg c l.1&&(upB l.2&&((l.2.all fun n=>(docOf l.1.1 n).isSome)&&decide (0<(alive l).length))))=okLive c l:=by
 unfold okLive
 cases hs:okSeg c l.1 with
 |false=>rfl
 |true=>
  cases hu:upB l.2 with
  |false=>rfl
  |true=>
   cases ha:l.2.all fun n=>(docOf l.1.1 n).isSome with
   |false=>simp
   |true=>
    have hi:=(okSeg_ok hs).2.1.inn.ids
    have hd:l.2.Nodup:=by
     have:=(upB_up hu).1
     exact this.imp fun h e=>by have:=h;omega
    have:=alive_len l hi hd fun n hn=>by
     have h1:=zax.1 ha n hn
     cases hdn:docOf l.1.1 n with
     |none=>rw[hdn]at h1;cases h1
     |some d=>exact⟨d,docOf_some hdn⟩
    rw[zaj,zaV]
    congr 2
    rw[zbH,zw,zw]
    omega
theorem jR0 {δ:Type} (docs:List EDoc) (xs:List Int) (N:Nat) (hN:xs.length<N) (F:(δ->Option Bool)->δ->Option Bool) (st:Nat->δ) (fin:Option Bool) (hend:∀go,F go (st xs.length)=fin)
  (hstep:∀go n (hn:n<xs.length),F go (st n)=bif(docOf docs xs[n]).isSome then go (st (n+1))else some false):iter F N (st 0)=bif xs.all (fun n=>(docOf docs n).isSome)then fin else some false:=
 check_list F xs st (fun n=>(docOf docs n).isSome) (some false) fin hend hstep N hN
theorem liveOk_spec (N:Nat) (hM:Sm<N) (hN:N<=16777216) (c:EConf) (oc:okD Sm TConf c) (l:ELive) (od:∀x,x∈l.1.1->okD Sm TDoc x) (h1:l.1.1.length<=1048576) (h2:l.2.length<=1048576):jHI N c.1 c.2 l.1.1 l.1.2 l.2=some (okLive c l):=by
 have hM':1048576<N:=hM
 rw[<-jIJ]
 unfold jHI
 rw[segOk_spec N hM hN c oc l.1 od h1,za,jDN N hM (by omega) l.2 h2,za]
 cases hs:okSeg c l.1 with
 |false=>rfl
 |true=>
  cases hu:upB l.2 with
  |false=>rfl
  |true=>
   have hf:=(okSeg_ok hs).2.1.few
   have hul:=(upB_up hu).2.1
   simp only[zn,ze,zaj]
   refine(jR0 l.1.1 l.2 N (by omega) _ (fun n=>(l.2,(l.2.length:Int),(n:Int),l.1.1,l.1.2,l.2)) (some (decide (0<(alive l).length))) (fun go=>?_) (fun go n hn=>?_)).trans ?_
   .dsimp only
    rw[zd (zm _),ze,alive_spec N hM' hN l (by omega) (by omega),za]
    congr 1
    rw[zbH,zw,zw]
    omega
   .dsimp only
    have hsd:=segDoc_spec N l.1 l.2[n] (by omega) hN
    rw[zb (by omega:(n:Int)<l.2.length),zg,idx_at hn,za]
    rw[show((l.1.1,l.1.2):ESeg)=l.1 from rfl,hsd,za,zf (fits_nat (n:=n) (by omega)),cast_succ']
    cases docOf l.1.1 l.2[n]<;>rfl
   .cases l.2.all fun n=>(docOf l.1.1 n).isSome<;>rfl
structure Short (d:EDoc):Prop where
 f:d.2.1.length<=3
 a:d.2.2.length<=3
structure Pieces (ls:List ELive):Prop where
 few:ls.length<=5
 docs:∀l,l∈ls->l.1.1.length<=16/\l.2.length<=60/\∀d,d∈l.1.1->Short d
theorem Pieces.len {ls:List ELive} (h:Pieces ls) (n:Nat):(allD (ls.take n)).length<=80:=by
 have key:∀L:List ELive,(∀l,l∈L->l.1.1.length<=16)->(allD L).length<=16*L.length:=by
  intro L
  induction L with
  |nil=>intro _;exact zaf _
  |cons a L ih=>
   intro hL
   have h3:=hL a (by simp)
   have h4:=ih fun l hl=>hL l (by simp[hl])
   have h5:(alive a).length<=a.1.1.length:=zbh _ _
   unfold allD at*
   rw[zbu,zam,zi]
   omega
 have:=key (ls.take n) fun l hl=>(h.docs l (zaP hl)).1
 have:=h.few
 rw[zah]at*
 omega
theorem check_all {Z δ ρ:Type} (F:(δ->Option ρ)->δ->Option ρ) (xs:List Z) (st:Nat->δ) (P:Z->Bool) (no fin:Option ρ) (hend:xs.all P=true->∀go,F go (st xs.length)=fin)
  (hstep:∀go n (hn:n<xs.length),F go (st n)=bif P xs[n]then go (st (n+1))else no) (N:Nat) (h:xs.length<N):iter F N (st 0)=bif xs.all P then fin else no:=by
 cases ht:xs.all P with
 |true=>
  rw[check_list F xs st P no fin (hend ht) hstep N h,ht]
 |false=>
  rw[ze]
  refine fail_at F xs st P no hstep N 0 (by omega) ?_
  rw[List.all_eq_false]at ht
  obtain⟨a,ha,hp⟩:=ht
  obtain⟨k,hk,rfl⟩:=zav.1 ha
  exact⟨k,hk,zaf _,by simpa using hp⟩
structure FitI (N:Nat) (x:EIndex):Prop where
 big:Sm<N
 top:N<=16777216
 oc:okD Sm TConf x.1
 len:x.2.length<=1048576
 each:∀l,l∈x.2->(∀d,d∈l.1.1->okD Sm TDoc d)/\l.1.1.length<=1048576/\l.2.length<=1048576
theorem okLive_ok {c:EConf} {l:ELive} (h:okLive c l=true):okSeg c l.1=true/\l.1.1.length<=16/\l.2.length<=60/\∀d,d∈l.1.1->Short d:=by
 unfold okLive at h
 rw[zj,zj]at h
 have hd:=(okSeg_ok h.1).2.1
 exact⟨h.1,hd.few,(upB_up h.2.1).2.1,fun d hm=>⟨(hd.each d hm).1,(hd.each d hm).2.1⟩⟩
theorem pieces_of {c:EConf} {ls:List ELive} (h5:ls.length<=5) (h:(ls.all (okLive c))=true):Pieces ls:=
 ⟨h5,fun l hl=>by
  obtain⟨_,h1,h2,h3⟩:=okLive_ok (zax.1 h l hl)
  exact⟨h1,h2,h3⟩⟩
def okIdx (x:EIndex):Bool:=okConf x.1&&(decide ((x.2.length:Int)<=5)&&(x.2.all (okLive x.1)&&okDocs (sortD (allD x.2))))
theorem okIdx_ok {x:EIndex} (h:okIdx x=true):okConf x.1=true/\x.2.length<=5/\(x.2.all (okLive x.1))=true/\okDocs (sortD (allD x.2))=true:=by
 unfold okIdx at h
 rw[zj,zj,zj,zw]at h
 exact⟨h.1,by omega,h.2.2.1,h.2.2.2⟩
theorem all_docs {ls:List ELive} {P:EDoc->Prop} (h:∀l,l∈ls->∀d,d∈l.1.1->P d):∀d,d∈allD ls->P d:=fun d hd=>by
 unfold allD alive at hd
 rw[zaT]at hd
 obtain⟨l,hl,hd⟩:=hd
 exact h l hl d (zaZ.1 hd).1
theorem sort_docs {ls:List ELive} {P:EDoc->Prop} (h:∀l,l∈ls->∀d,d∈l.1.1->P d):∀d,d∈sortD (allD ls)->P d:=fun d hd=>all_docs h d ((sortD_perm _).mem_iff.1 hd)
theorem sort_len {ls:List ELive} (h:Pieces ls):(sortD (allD ls)).length<=80:=by
 rw[(sortD_perm _).length_eq]
 have:=h.len ls.length
 rwa[zq]at this
def ltI (a b:EDoc):Bool:=decide (a.1<b.1)
theorem ltI_ord :WOrd ltI:=by
 refine⟨fun x y h=>?_,fun x y z h k=>?_⟩
 .unfold ltI at*;rw[zw]at h;rw[decide_eq_false_iff_not];omega
 .unfold ltI at*;rw[decide_eq_false_iff_not]at*;omega
theorem cmpI (N:Nat) (a b:EDoc):Def (cmp669 N () a b) fun r=>decide (r<0)=ltI a b:=by
 show Def (i_allAlive_1_m N a.1 a.2.1 a.2.2 b.1 b.2.1 b.2.2) _
 unfold i_allAlive_1_m
 rw[compareI_spec,za]
 refine Def.ret ?_
 unfold ltI
 by_cases h:a.1<b.1
 .simp [h]
 .by_cases h2:b.1<a.1<;>simp[h,h2]
theorem allAlive_def (N:Nat) (hM:1048576<N) (hN:N<=16777216) (ls:List ELive) (h:Pieces ls):Def (i_allAlive_m N ls) fun R=>R.Perm (allD ls)/\R.Pairwise fun a b=>a.1<=b.1:=by
 have hfew:=h.few
 unfold i_allAlive_m
 refine Def.upto ls.length (fun n g=>g=(allD (ls.take n),ls,(ls.length:Int),(n:Int))) ?_ ?_ N 0 _ (zaf _) rfl (by omega)
 .rintro go _ rfl
  dsimp only
  have hl:=h.len ls.length
  rw[zq]at hl⊢
  rw[zd (zm _),ze]
  refine Def.bind (sortWk_669 ltI ltI_ord N hN (by omega) (allD ls) () ⟨fun x _ y _=>cmpI N x y⟩ (by omega)) fun R ⟨h1,h2⟩=>Def.ret ⟨h1,h2.imp fun {a b} hab=>?_⟩
  unfold ltI at hab
  rw[decide_eq_false_iff_not]at hab
  omega
 .rintro go n _ hn rfl hgo
  dsimp only
  have hm:=zr hn
  obtain⟨b1,b2,_⟩:=h.docs _ hm
  have hl:=h.len n
  have hal:(alive ls[n]).length<=16:=zau (zbh _ _) b1
  rw[zb (by omega:(n:Int)<ls.length),zg,idx_at hn,za,alive_spec N hM hN ls[n] (by omega) (by omega),za]
  refine Def.ite (room_of (by omega) (by omega)) (Def.ite (fits_nat (n:=n) (by omega)) (hgo _ ?_))
  rw[zo hn,cast_succ']
  unfold allD
  rw[List.flatMap_append]
  simp
theorem indexOk_spec {N:Nat} {x:EIndex} (h:FitI N x):i_IndexOk_m N x.1.1 x.1.2 x.2=some (okIdx x):=by
 have hM:1048576<N:=h.big
 have hN:=h.top
 have hlx:=h.len
 unfold i_IndexOk_m okIdx
 rw[confOk_spec N h.big (by omega) x.1 h.oc,za]
 cases hc:okConf x.1 with
 |false=>rfl
 |true=>
  rw[zn,ze,zaj]
  by_cases h5:(x.2.length:Int)<=5
  .rw [zb h5,zd (by omega:¬(5:Int)<x.2.length),ze,zaj]
   refine(check_all _ x.2 (fun n=>(x.2,(x.2.length:Int),(n:Int),x.1.1,x.1.2,x.2)) (okLive x.1) (some false) (some (okDocs (sortD (allD x.2)))) (fun hall go=>?_) (fun go n hn=>?_) N (by omega)).trans ?_
   .dsimp only
    have hp:=pieces_of (c:=x.1) (by omega) hall
    obtain⟨R,hR,hperm,hle⟩:=allAlive_def N hM hN x.2 hp
    have hps:=hperm.trans (sortD_perm (allD x.2)).symm
    have hlen:=sort_len hp
    rw[zd (zm _),ze,hR,za,docsOk_spec N h.big (by omega) R (fun d hd=>sort_docs (fun l hl=>(h.each l hl).1) d (hps.mem_iff.1 hd)) (by rw[hps.length_eq];omega),za,docs_same hps hle (sortD_le _)]
   .dsimp only
    have hm:=zr hn
    obtain⟨od,h1,h2⟩:=h.each _ hm
    rw[zb (by omega:(n:Int)<x.2.length),zg,idx_at hn,za,liveOk_spec N h.big hN x.1 h.oc x.2[n] od h1 h2,za,zf (fits_nat (n:=n) (by omega)),cast_succ']
    cases okLive x.1 x.2[n]<;>rfl
   .cases x.2.all (okLive x.1)<;>rfl
  .rw [zd h5,zb (by omega:(5:Int)<x.2.length)]
   rfl
abbrev docsX (x:EIndex):List EDoc:=sortD (allD x.2)
theorem allAlive_ok {N:Nat} {x:EIndex} (h:FitI N x) (hk:okIdx x=true):i_allAlive_m N x.2=some (docsX x):=by
 have hM:1048576<N:=h.big
 obtain⟨k1,k2,k3,k4⟩:=okIdx_ok hk
 have hp:=pieces_of k2 k3
 obtain⟨R,hR,hperm,hle⟩:=allAlive_def N hM h.top x.2 hp
 have hps:=hperm.trans (sortD_perm (allD x.2)).symm
 rw[hR,docs_to hps hle (sortD_le _) (by rw[docs_same hps hle (sortD_le _)];exact k4)]
abbrev segX (x:EIndex):ESeg:=(docsX x,entriesS x.1 (docsX x))
theorem segX_ok {x:EIndex} (hk:okIdx x=true):okSeg x.1 (segX x)=true:=by
 obtain⟨k1,k2,k3,k4⟩:=okIdx_ok hk
 unfold okSeg
 rw[k1,k4,zb rfl]
 rfl
theorem segX_i {N:Nat} {x:EIndex} (h:FitI N x) (hk:okIdx x=true):i_SegOf_m N x.1.1 x.1.2 (docsX x)=some (segX x):=by
 obtain⟨k1,k2,k3,k4⟩:=okIdx_ok hk
 have hl:(docsX x).length<=80:=sort_len (pieces_of k2 k3)
 rw[segOf_spec N h.big h.top x.1 h.oc (docsX x) (sort_docs fun l hl=>(h.each l hl).1) (by omega),k1,k4]
 rfl
theorem FitI.fit {N:Nat} {x:EIndex} (h:FitI N x) (hk:okIdx x=true) {q:DQ} (hq:BQ 4 q):Fit N x.1 (segX x) q:=by
 obtain⟨k1,k2,k3,k4⟩:=okIdx_ok hk
 have hl:(docsX x).length<=80:=sort_len (pieces_of k2 k3)
 exact⟨h.big,h.top,h.oc,sort_docs fun l hl=>(h.each l hl).1,by show(docsX x).length<=_;omega,hq⟩
theorem okDocs_of (xs:List EDoc) (h1:∀d,d∈xs->okDoc d=true) (h2:xs.Pairwise fun a b=>a.1<b.1) (h3:xs.length<=16):okDocs xs=true:=by
 unfold okDocs allN
 rw[zj,zw,zax]
 refine⟨fun n hn=>?_,by omega⟩
 have hn':n<xs.length:=by simpa using hn
 unfold okDc
 rw[zj,<-dAt_eq hn']
 refine⟨h1 _ (zr hn'),?_⟩
 cases n with
 |zero=>rfl
 |succ n=>
  have:=za2.1 h2 n (n+1) (by omega) hn' (by omega)
  rw[show n+1-1=n from rfl,<-dAt_eq (by omega:n<xs.length),zd (by omega:¬n+1=0),zbf,zd (by omega)]
  rfl
structure FitC (N:Nat) (c:EConf):Prop where
 big:1048576<N
 a:c.1.length<=1048576
 b:c.2.length<=1048576
 e:∀y,y∈c.2->y.1.length<=1048576
structure FitL (l:ELive):Prop where
 dok:DOk l.1.1
 small:Small 7680 l.1.2
 dead:l.2.length<=1000
theorem FitL.of {c:EConf} {l:ELive} (h:okLive c l=true):FitL l:=by
 obtain⟨h1,_,h3,_⟩:=okLive_ok h
 obtain⟨_,h5,h6⟩:=okSeg_ok h1
 exact⟨h5,h6▸entries_small c h5,by omega⟩
theorem cloneConf_spec (N:Nat) (c:EConf) (h:FitC N c):i_cloneConf_m N c.1 c.2=some (c.1,c.2):=by
 have hb:=h.big
 have h1:=h.a
 have h2:=h.b
 unfold i_cloneConf_m
 rw[zf (room_of (by simp;omega) (by simp;omega)),zaW]
 refine(iter_scan _ c.2.length (fun n=>(c.2,(c.2.length:Int),(n:Int),c.1,c.2.take n)) (fun _=>some (c.1,c.2)) (fun go=>?_) (fun go n hn hgo=>?_) N 0 (zaf _) (by omega)).trans rfl
 .dsimp only
  rw[zd (zm _),ze,zq]
 .dsimp only
  have hx:=h.e _ (zr hn)
  rw[zb (by omega:(n:Int)<c.2.length),zg,idx_at hn,za,zf (room_of (by simp;omega) (by simp;omega)),zf (room_of (by simp;omega) (by simp;omega)),zf (fits_nat (n:=n) (by omega)),zaW,<-hgo,zo hn,cast_succ']
theorem cloneLive_spec (N:Nat) (hN:1048576<N) (l:ELive) (h:FitL l):i_cloneLive_m N l.1.1 l.1.2 l.2=some (l.1.1,l.1.2,l.2):=by
 have hd:=h.dead
 have hs:=h.small.1
 unfold i_cloneLive_m
 rw[cloneDocs_spec N h.dok (by omega),za,zf (room_of (by simp;omega) (by simp;omega)),zaW]
 refine(iter_scan _ l.1.2.length (fun n=>(l.1.2,(l.1.2.length:Int),(n:Int),l.1.1,l.1.2.take n,l.2)) (fun _=>some (l.1.1,l.1.2,l.2)) (fun go=>?_) (fun go n hn hgo=>?_) N 0 (zaf _) (by omega)).trans rfl
 .dsimp only
  rw[zd (zm _),ze,zq]
 .dsimp only
  have hx:=h.small.2 _ (zr hn)
  have hx1:=hx.1
  rw[zb (by omega:(n:Int)<l.1.2.length),zg,idx_at hn,za]
  refine(iter_scan _ l.1.2[n].2.2.length (fun k=>(l.1.2[n].2.2.take k,l.1.2,(l.1.2.length:Int),(n:Int),l.1.2[n].2.2,(l.1.2[n].2.2.length:Int),(k:Int),l.1.1,l.1.2.take n,l.2,l.1.2[n].1,l.1.2[n].2.1,l.1.2[n].2.2)) (fun _=>some (l.1.1,l.1.2,l.2)) (fun go2=>?_) (fun go2 k hk hgo2=>?_) N 0 (zaf _) (by omega)).trans rfl
  .dsimp only
   rw[zd (zm _),ze,zq,zf (room_of (by simp;omega) (by simp;omega)),zf (fits_nat (n:=n) (by omega)),<-hgo,zo hn,cast_succ']
  .dsimp only
   have hy:=hx.2 _ (zr hk)
   rw[zb (by omega:(k:Int)<l.1.2[n].2.2.length),zg,idx_at hk,za,zf (room_of (by simp;omega) (by simp;omega)),zf (room_of (by simp;omega) (by simp;omega)),zf (fits_nat (n:=k) (by omega)),zaW,<-hgo2,zo hk,cast_succ']
theorem cloneIndex_spec (N:Nat) (x:EIndex) (hc:FitC N x.1) (hl:x.2.length<=1000) (h:∀l,l∈x.2->FitL l):i_cloneIndex_m N x.1.1 x.1.2 x.2=some (x.1.1,x.1.2,x.2):=by
 have hb:=hc.big
 unfold i_cloneIndex_m
 rw[cloneConf_spec N x.1 hc,za]
 refine(iter_scan _ x.2.length (fun n=>(x.2,(x.2.length:Int),(n:Int),x.1.1,x.1.2,x.2.take n)) (fun _=>some (x.1.1,x.1.2,x.2)) (fun go=>?_) (fun go n hn hgo=>?_) N 0 (zaf _) (by omega)).trans rfl
 .dsimp only
  rw[zd (zm _),ze,zq]
 .dsimp only
  rw[zb (by omega:(n:Int)<x.2.length),zg,idx_at hn,za,cloneLive_spec N hb _ (h _ (zr hn)),za,zf (room_of (by simp;omega) (by simp;omega)),zf (fits_nat (n:=n) (by omega)),<-hgo,zo hn,cast_succ']
def putI (l:List Int) (n:Int):List Int:=match l with
 | []=>[n]
 |x::r=>if x<n then x::putI r n else if x=n then x::r else n::x::r
theorem putI_mem (n x:Int):∀l,x∈putI l n↔x=n\/x∈l
 | []=>by simp[putI]
 |y::r=>by
  unfold putI
  have ih:=putI_mem n x r
  split
  .rw [zp,ih,zp];constructor<;>rintro(h|h|h)<;>simp_all
  .split
   .rename_i e;subst e;simp
   .simp
theorem putI_up (n:Int):∀l,upL l->upL (putI l n)
 | [],_=>by simp[putI,upL]
 |y::r,h=>by
  unfold upL at h
  rw[zas]at h
  have ih:upL (putI r n):=putI_up n r h.2
  unfold putI
  split
  .rename_i e
   show List.Pairwise _ _
   rw[zas]
   refine⟨fun x hx=>?_,ih⟩
   rcases(putI_mem n x r).1 hx with rfl|hx
   .exact e
   .exact h.1 x hx
  .split
   .exact zas.2 h
   .rename_i e1 e2
    show List.Pairwise _ _
    rw[zas,zas]
    refine⟨fun x hx=>?_,h⟩
    rcases zp.1 hx with rfl|hx
    .omega
    .have:=h.1 x hx;omega
theorem putI_len (n:Int):∀l,(putI l n).length<=l.length+1
 | []=>by simp[putI]
 |x::r=>by
  unfold putI
  have:=putI_len n r
  split
  .simp;omega
  .split<;>simp
def putIs (l a:List Int):List Int:=a.foldl putI l
theorem putIs_mem (x:Int):∀a l,x∈putIs l a↔x∈a\/x∈l
 | [],l=>by simp[putIs]
 |n::a,l=>by
  have:=putIs_mem x a (putI l n)
  unfold putIs at*
  rw[zaq,this,putI_mem,zp]
  constructor
  .rintro (h|h|h)
   .exact .inl (.inr h)
   .exact .inl (.inl h)
   .exact .inr h
  .rintro ((h|h)|h)
   .exact .inr (.inl h)
   .exact .inl h
   .exact .inr (.inr h)
theorem putIs_up :∀a l,upL l->upL (putIs l a)
 | [],l,h=>h
 |n::a,l,h=>by
  have:=putIs_up a (putI l n) (putI_up n l h)
  unfold putIs at*
  rwa[zaq]
theorem putIs_len :∀a l,(putIs l a).length<=l.length+a.length
 | [],l=>by simp[putIs]
 |n::a,l=>by
  have h1:=putIs_len a (putI l n)
  have h2:=putI_len n l
  unfold putIs at*
  rw[zaq,zi]
  omega
theorem up_unique {R S:List Int} (hR:upL R) (hS:upL S) (h:∀x,x∈R↔x∈S):R=S:=
 sorted_unique (fun a b:Int=>decide (a<b)) (fun a=>by simp) (fun a b c h k=>by rw[zw]at*;omega) R S (hR.imp fun h=>by rw[zw];exact h) (hS.imp fun h=>by rw[zw];exact h) h
theorem sort_put {l a r:List Int} (hp:r.Perm (l++a)) (hs:r.Pairwise fun x y=>decide (y<x)=false) (hl:upL l) (ha:a.Nodup) (hd:∀x,x∈a->x∉l):r=putIs l a:=by
 have hln:l.Nodup:=hl.imp fun h e=>by omega
 have hn:(l++a).Nodup:=List.nodup_append.2 ⟨hln,ha,fun x hx y hy e=>hd y hy (e▸hx)⟩
 have hr:r.Nodup:=hp.symm.nodup hn
 refine up_unique ((hs.and hr).imp fun {x y} h=>?_) (putIs_up a l hl) fun x=>?_
 .obtain ⟨h1,h2⟩:=h
  rw[decide_eq_false_iff_not]at h1
  have h2:x≠y:=h2
  show x<y
  omega
 .rw [hp.mem_iff,putIs_mem,zaB]
  exact Or.comm
def hasL (id:Int) (l:ELive):Bool:=(docOf l.1.1 id).isSome&& !decide (id∈l.2)
def goneS (id:Int) (l:ELive):ELive:=bif hasL id l then(l.1,putI l.2 id)else l
structure FitP (N:Nat) (c:EConf) (ls:List ELive):Prop where
 big:1048576<N
 top:N<=16777216
 few:ls.length<=5
 good:∀l,l∈ls->GoodS N c l.1
 up:∀l,l∈ls->upL l.2
 dead:∀l,l∈ls->l.2.length<=200
theorem filter_take {Z:Type} (p:Z->Bool) (l:List Z) (n:Nat) (h:n<l.length):(l.take (n+1)).filter p=bif p l[n]then(l.take n).filter p++ [l[n]]else(l.take n).filter p:=by
 rw[zo h,za6]
 cases e:p l[n]<;>simp[za9,e]
theorem index2_def (N:Nat) (l:List Int) (a:Int) (h:l.length<N) (hN:N<=1099511627776):Def (k_slices_Index_484_v2_m N l a) fun r=>r.2=l/\((r.1=-1/\a∉l)\/(0<=r.1/\a∈l)):=by
 unfold k_slices_Index_484_v2_m
 refine Def.upto l.length (fun n g=>a∉l.take n/\g=(l,a,(l.length:Int),(n:Int))) ?_ ?_ N 0 _ (zaf _) ⟨by simp,rfl⟩ (by omega)
 .rintro go _ ⟨hm,rfl⟩
  dsimp only
  rw[zd (zm _),ze]
  rw[zq]at hm
  exact Def.ret ⟨rfl,.inl ⟨rfl,hm⟩⟩
 .rintro go n _ hn ⟨hm,rfl⟩ hgo
  dsimp only
  rw[zb (by omega:(n:Int)<l.length),zg,zf ⟨by omega,by omega⟩,zai,zc hn,za]
  refine Def.dif (fun e=>Def.ret ⟨rfl,.inr ⟨by show(0:Int)<=(n:Int);omega,e▸zr hn⟩⟩) (fun e=>?_)
  exact Def.ite (fits_nat (n:=n) (by omega)) (hgo _ ⟨not_take_succ hn hm e,by rw[cast_succ']⟩)
theorem contains2_spec (N:Nat) (l:List Int) (n:Int) (h:l.length<N) (hN:N<=1099511627776):k_slices_Contains_735_v2_m N l n=some (decide (n∈l),l):=by
 obtain⟨r,hr,h2,hc⟩:=index2_def N l n h hN
 unfold k_slices_Contains_735_v2_m
 rw[hr,za,h2]
 rcases hc with⟨h3,hn⟩|⟨h3,hm⟩
 .rw [h3,zd hn];rfl
 .rw [zb hm,zb h3]
theorem alive2_spec (N:Nat) (hM:1048576<N) (hN:N<=16777216) (l:ELive) (h1:l.1.1.length<=1000) (h2:l.2.length<=1000):i_Live_alive_v2_m N l.1.1 l.1.2 l.2=some (alive l,l.2):=by
 unfold i_Live_alive_v2_m alive
 refine(iter_scan _ l.1.1.length (fun n=>((l.1.1.take n).filter (fun d=> !decide (d.1∈l.2)),l.1.1,(l.1.1.length:Int),(n:Int),l.1.1,l.1.2,l.2)) (fun n=>some (l.1.1.filter (fun d=> !decide (d.1∈l.2)),l.2)) (fun go=>?_) (fun go n hn hgo=>?_) N 0 (zaf _) (by omega)).trans rfl
 .dsimp only
  rw[zd (zm _),ze,zq]
 .dsimp only
  have hll:((l.1.1.take n).filter (fun d=> !decide (d.1∈l.2))).length<=1000:=zau (zbh _ _) (by rw[zah];omega)
  simp only[cast_succ',alive_take l hn]at hgo
  generalize(l.1.1.take n).filter (fun d=> !decide (d.1∈l.2))=out at*
  rw[zb (by omega:(n:Int)<l.1.1.length),zg,idx_at hn,za,contains2_spec N _ _ (by omega) (by omega),za,zf (room_of (by rw[zbE];omega) (by rw[zbE];omega)),<-hgo]
  simp only[zf (fits_nat (n:=n) (by omega))]
  cases decide (l.1.1[n].1∈l.2)<;>rfl
def addD (ids:List Int) (l:ELive):List Int:=((alive l).map (·.1)).filter fun n=>decide (n∈ids)
def dropL (ids:List Int) (l:ELive):ELive:=(l.1,putIs l.2 (addD ids l))
def livB (l:ELive):Bool:=decide (0<(alive l).length)
theorem add_take (ids:List Int) (xs:List EDoc) (k:Nat) (h:k<xs.length):((xs.take (k+1)).map (·.1)).filter (fun n=>decide (n∈ids))=bif decide (xs[k].1∈ids)then((xs.take k).map (·.1)).filter (fun n=>decide (n∈ids))++ [xs[k].1]else((xs.take k).map (·.1)).filter (fun n=>decide (n∈ids)):=by
 rw[zo h,zaK,za6]
 by_cases e:xs[k].1∈ids<;>simp[e]
theorem lessI_ord :WOrd fun a b:Int=>decide (a<b):=
 ⟨fun x y h=>by rw[zw]at h;rw[decide_eq_false_iff_not];omega,fun x y z h k=>by rw[decide_eq_false_iff_not]at*;omega⟩
theorem cmpLess_def (N:Nat) (a b:Int):Def (cmp287 N a b) fun r=>r=decide (a<b):=by
 show Def (k_cmp_Less_67_m N a b) _
 have e:k_cmp_isNaN_538_m N a=some false:=by
  unfold k_cmp_isNaN_538_m
  simp
 unfold k_cmp_Less_67_m
 rw[e,za,ze]
 exact Def.ret rfl
theorem addD_nodup (ids:List Int) (l:ELive) (hi:l.1.1.Pairwise fun a b=>a.1<b.1):(addD ids l).Nodup/\∀x,x∈addD ids l->x∉l.2:=by
 refine⟨?_,fun x hx=>?_⟩
 .have h1:((alive l).map (·.1)).Nodup:=zbb.2 ((hi.sublist List.filter_sublist).imp fun h e=>by have:=h;omega)
  exact h1.sublist List.filter_sublist
 .obtain ⟨d,hd,rfl⟩:=zab.1 (zaZ.1 hx).1
  have:=(zaZ.1 hd).2
  simpa using this
theorem drop_spec {N:Nat} {c:EConf} {ls:List ELive} (h:FitP N c ls) (ids:List Int) (hids:ids.length<=1000):i_Index_drop_m N ids c.1 c.2 ls=some (((ls.flatMap (addD ids)).length:Int),c.1,c.2,(ls.map (dropL ids)).filter livB):=by
 have hM:=h.big
 have hN:=h.top
 have hf:=h.few
 refine Def.get ?_
 unfold i_Index_drop_m
 have cnt:∀L:List ELive,(∀l,l∈L->l∈ls)->(L.flatMap (addD ids)).length<=16*L.length:=by
  intro L
  induction L with
  |nil=>intro _;exact zaf _
  |cons a L ih=>
   intro hL
   have h3:=(h.good a (hL a (by simp))).dok.few
   have h4:=ih fun l hl=>hL l (by simp[hl])
   have h5:(alive a).length<=a.1.1.length:=zbh _ _
   have h6:(addD ids a).length<=(alive a).length:=by
    have:=zbh (fun n:Int=>decide (n∈ids)) ((alive a).map (·.1))
    rw[zar]at this
    exact this
   rw[zbu,zam,zi]
   omega
 refine Def.upto ls.length (fun n g=>g=(ids,(((ls.take n).flatMap (addD ids)).length:Int),((ls.take n).map (dropL ids)).filter livB,(ls,(n:Int)),(ls.length:Int),(n:Int),c.1,c.2)) ?_ ?_ N 0 _ (zaf _) rfl (by omega)
 .rintro go _ rfl
  dsimp only
  rw[zd (zm _),ze,zq]
  exact Def.ret rfl
 .rintro go n _ hn rfl hgo
  dsimp only
  have hm:=zr hn
  have g:=h.good _ hm
  have hd:=h.dead _ hm
  have hup:=h.up _ hm
  have hfew:=g.dok.few
  have hal:(alive ls[n]).length<=16:=zau (zbh _ _) hfew
  have hcn:=cnt (ls.take n) fun l hl=>zaP hl
  rw[zah]at hcn
  have hci:0<=(n:Int)/\(n:Int)<ls.length:=by omega
  rw[zb (by omega:(n:Int)<ls.length),zg]
  simp only[zai,zf (zae n),zc hn,za,zf hci,if_true]
  rw[alive2_spec N hM hN ls[n] (by omega) (by omega),za]
  dsimp only
  refine Def.upto (alive ls[n]).length (fun k g=>g=(ids,(((ls.take n).flatMap (addD ids)).length:Int)+(((((alive ls[n]).take k).map (·.1)).filter fun n=>decide (n∈ids)).length:Nat),((ls.take n).map (dropL ids)).filter livB,(ls,((n+1:Nat):Int)),(ls.length:Int),(n:Int),alive ls[n],((alive ls[n]).length:Int),(k:Int),ls[n].1.1,ls[n].1.2,ls[n].2++(((alive ls[n]).take k).map (·.1)).filter (fun n=>decide (n∈ids)),c.1,c.2)) ?_ ?_ N 0 _ (zaf _) (by simp) (by omega)
  .rintro go2 _ rfl
   dsimp only
   rw[zd (zm _),ze,zq]
   rw[show(((alive ls[n]).map (·.1)).filter fun n=>decide (n∈ids))=addD ids ls[n]from rfl]
   obtain⟨hnd,hno⟩:=addD_nodup ids ls[n] g.dok.inn.ids
   have hadl:(addD ids ls[n]).length<=16:=by
    have:=zbh (fun n:Int=>decide (n∈ids)) ((alive ls[n]).map (·.1))
    rw[zar]at this
    exact zau this hal
   refine Def.bind (sortWk_287 (fun a b=>decide (a<b)) lessI_ord N hN (by omega) _ ⟨fun x _ y _=>cmpLess_def N x y⟩ (by rw[zam];omega)) fun r ⟨h1,h2⟩=>?_
   obtain rfl:=sort_put h1 h2 hup hnd hno
   refine Def.meet (fun g=>g=(ids,(((ls.take n).flatMap (addD ids)).length:Int)+((addD ids ls[n]).length:Nat),((ls.take n).map (dropL ids)).filter livB,(ls,((n+1:Nat):Int)),(ls.length:Int),(n:Int),livB (dropL ids ls[n]),ls[n].1.1,ls[n].1.2,(dropL ids ls[n]).2,c.1,c.2)) ?_ fun J hJ=>?_
   .rintro _ rfl
    dsimp only
    have ht:=filter_take livB (ls.map (dropL ids)) n (by rw[zar];exact hn)
    rw[<-List.map_take,<-List.map_take,List.getElem_map]at ht
    have hsl:(((ls.take n).map (dropL ids)).filter livB).length<=5:=zau (zbh _ _) (by rw[zar,zah];omega)
    have hmany:(((ls.take (n+1)).flatMap (addD ids)).length:Int)=(((ls.take n).flatMap (addD ids)).length:Int)+((addD ids ls[n]).length:Nat):=by
     rw[zo hn,List.flatMap_append,zam]
     simp
    simp only[zai]
    cases hb:livB (dropL ids ls[n])with
    |true=>
     rw[hb,zg]at ht
     rw[zg]
     refine Def.ite (room_of (by simp only[zbE];omega) (by simp only[zbE];omega)) (Def.ite (fits_nat (n:=n) (by omega)) (hgo _ ?_))
     rw[ht,hmany,cast_succ']
     rfl
    |false=>
     rw[hb,ze]at ht
     rw[ze]
     refine Def.ite (fits_nat (n:=n) (by omega)) (hgo _ ?_)
     rw[ht,hmany,cast_succ']
   .have hpl:=putIs_len (addD ids ls[n]) ls[n].2
    have ha:=alive2_spec N hM hN (dropL ids ls[n]) (by show ls[n].1.1.length<=1000;omega) (by show(putIs ls[n].2 (addD ids ls[n])).length<=1000;omega)
    rw[show(dropL ids ls[n]).1=ls[n].1 from rfl,show(dropL ids ls[n]).2=putIs ls[n].2 (addD ids ls[n])from rfl]at ha
    rw[ha,za]
    refine hJ _ ?_
    simp only[zai]
    rw[show livB (dropL ids ls[n])=decide ((0:Int)<((alive (dropL ids ls[n])).length:Int))from by unfold livB;rw[decide_eq_decide];omega]
    rfl
  .rintro go2 k _ hk rfl hgo2
   dsimp only
   have ht:=add_take ids (alive ls[n]) k hk
   have hlen:((((alive ls[n]).take k).map (·.1)).filter fun n=>decide (n∈ids)).length<=16:=zau (zbh _ _) (by rw[zar,zah];omega)
   simp only[zai]
   rw[zb (by omega:(k:Int)<((alive ls[n]).length:Int)),zg,idx_at hk,za,containsI_spec N _ _ (by omega) (by omega),za]
   cases hb:decide ((alive ls[n])[k].1∈ids)with
   |true=>
    rw[hb,zg]at ht
    rw[zg]
    refine Def.ite (room_of (by rw[zam,zbE];omega) (by rw[zam,zbE];omega)) (Def.ite (by unfold fits;omega) (Def.ite (fits_nat (n:=k) (by omega)) (hgo2 _ ?_)))
    obtain⟨L,hL⟩:∃L,L=((((alive ls[n]).take k).map (·.1)).filter fun n=>decide (n∈ids)).length:=⟨_,rfl⟩
    rw[ht,zam,zbE,zao,cast_succ' k,<-hL,cast_succ' L,Int.add_assoc]
   |false=>
    rw[hb,ze]at ht
    rw[ze]
    refine Def.ite (fits_nat (n:=k) (by omega)) (hgo2 _ ?_)
    rw[ht,cast_succ' k]
theorem FitP.of {N:Nat} {x:EIndex} (h:FitI N x) (hk:okIdx x=true):FitP N x.1 x.2:=by
 obtain⟨k1,k2,k3,k4⟩:=okIdx_ok hk
 have hl:∀l,l∈x.2->okLive x.1 l=true:=zax.1 k3
 refine⟨h.big,h.top,k2,fun l hm=>⟨h.big,h.top,h.oc,(h.each l hm).1,(okLive_ok (hl l hm)).1⟩,fun l hm=>?_,fun l hm=>zau (okLive_ok (hl l hm)).2.2.1 (by omega)⟩
 have:=hl l hm
 unfold okLive at this
 rw[zj,zj]at this
 exact(upB_up this.2.1).1
theorem FitC.of {N:Nat} {c:EConf} (hM:1048576<N) (h:okD Sm TConf c):FitC N c:=⟨hM,h.1.1,h.2.1,fun y hy=>(h.2.2 y hy).1.1⟩
theorem okLive_dead {c:EConf} {l:ELive} (h:okLive c l=true):∀n,n∈l.2->∃d,d∈l.1.1/\d.1=n:=fun n hn=>by
 unfold okLive at h
 simp only[zj]at h
 have h1:=zax.1 h.2.2.2 n hn
 cases hdn:docOf l.1.1 n with
 |none=>rw[hdn]at h1;cases h1
 |some d=>exact⟨d,docOf_some hdn⟩
theorem map_eq {Z β:Type} {f g:Z->β} {l:List Z} (h:∀x,x∈l->f x=g x):l.map f=l.map g:=za0 h
theorem filter_eq {Z:Type} {p q:Z->Bool}:∀ {l:List Z},(∀x,x∈l->p x=q x)->l.filter p=l.filter q:=fun h=>List.filter_congr h
abbrev zeroX :EIndex:=(([],[]),[])
theorem FitI.zero {N:Nat} (hM:Sm<N) (hN:N<=16777216):FitI N zeroX:=
 ⟨hM,hN,⟨⟨zaf _,fun x hx=>by cases hx⟩,⟨zaf _,fun x hx=>by cases hx⟩⟩,zaf _,fun l hl=>by cases hl⟩
theorem goneS_1 (id:Int) (l:ELive):(goneS id l).1=l.1:=by unfold goneS;cases hasL id l<;>rfl
theorem goneS_2 (id:Int) (l:ELive):(goneS id l).2.length<=l.2.length+1/\(upL l.2->upL (goneS id l).2):=by
 unfold goneS
 cases hasL id l with
 |false=>exact⟨Nat.le_succ _,fun h=>h⟩
 |true=>exact⟨putI_len id l.2,putI_up id l.2⟩
def goneN (ds:List EDoc) (l:ELive):ELive:=ds.foldl (fun l d=>goneS d.1 l) l
theorem goneN_1 :∀(ds:List EDoc) (l:ELive),(goneN ds l).1=l.1
 | [],l=>rfl
 |d::ds,l=>(goneN_1 ds (goneS d.1 l)).trans (goneS_1 d.1 l)
theorem goneN_2 :∀(ds:List EDoc) (l:ELive),(goneN ds l).2.length<=l.2.length+ds.length/\(upL l.2->upL (goneN ds l).2)
 | [],l=>⟨zae _,fun h=>h⟩
 |d::ds,l=>by
  obtain⟨h1,h2⟩:=goneN_2 ds (goneS d.1 l)
  obtain⟨h3,h4⟩:=goneS_2 d.1 l
  refine⟨?_,fun h=>h2 (h4 h)⟩
  show(goneN ds (goneS d.1 l)).2.length<=l.2.length+(ds.length+1)
  omega
def liveN (l:ELive):Bool:=decide (l.2.length<l.1.1.length)
def addY (docs:List EDoc) (x:EIndex):EIndex:=(x.1,(x.2.map (goneN docs)).filter liveN++ [((docs,entriesS x.1 docs),[])])
def addR (docs:List EDoc) (x:EIndex):EIndex×Bool:=bif okIdx x then(bif okDocs docs&&decide (0<docs.length)then(bif okIdx (addY docs x)then(addY docs x,true)else(x,false))else(x,false))else(zeroX,false)
theorem dead_few {x:EIndex} (hk:okIdx x=true):∀l,l∈x.2->l.2.length<=60:=fun l hl=>(okLive_ok (zax.1 (okIdx_ok hk).2.2.1 l hl)).2.2.1
theorem FitI.addY {N:Nat} {x:EIndex} (h:FitI N x) (hk:okIdx x=true) {docs:List EDoc} (od:∀d,d∈docs->okD Sm TDoc d) (hd:docs.length<=16):FitI N (addY docs x):=by
 obtain⟨k1,k2,k3,k4⟩:=okIdx_ok hk
 refine⟨h.big,h.top,h.oc,?_,fun l' hl'=>?_⟩
 .have h1:=zbh liveN (x.2.map (goneN docs))
  rw[zar]at h1
  show((x.2.map (goneN docs)).filter liveN++ [((docs,entriesS x.1 docs),([]:List Int))]).length<=_
  rw[zam,zbE]
  omega
 .rcases zaB.1 hl' with hl'|hl'
  .obtain ⟨l,hl,rfl⟩:=zab.1 (zaZ.1 hl').1
   have he:=h.each l hl
   have h2:=(goneN_2 docs l).1
   have h3:=dead_few hk l hl
   rw[goneN_1]
   exact⟨he.1,he.2.1,by omega⟩
  .rw [zaD]at hl'
   subst hl'
   exact⟨od,by show docs.length<=_;omega,zaf _⟩
theorem addR_fit {N:Nat} {x:EIndex} (h:FitI N x) {docs:List EDoc} (od:∀d,d∈docs->okD Sm TDoc d):FitI N (addR docs x).1:=by
 unfold addR
 cases hk:okIdx x with
 |false=>exact FitI.zero h.big h.top
 |true=>
  rw[zg]
  cases hd:okDocs docs&&decide (0<docs.length)with
  |false=>exact h
  |true=>
   rw[zg]
   rw[zj]at hd
   cases okIdx (addY docs x)with
   |false=>exact h
   |true=>exact h.addY hk od (okDocs_ok hd.1).few
theorem goneS_mem (id x:Int) (l:ELive):x∈(goneS id l).2↔x∈l.2\/(x=id/\(docOf l.1.1 id).isSome=true):=by
 unfold goneS
 cases hh:hasL id l with
 |true=>
  have h1:(docOf l.1.1 id).isSome=true:=by unfold hasL at hh;rw[zj]at hh;exact hh.1
  rw[zg]
  show x∈putI l.2 id↔_
  rw[putI_mem,h1]
  constructor
  .rintro (h|h)
   .exact .inr ⟨h,rfl⟩
   .exact .inl h
  .rintro (h|h)
   .exact .inr h
   .exact .inl h.1
 |false=>
  rw[ze]
  constructor
  .exact .inl
  .rintro (h|⟨rfl,h⟩)
   .exact h
   .unfold hasL at hh
    rw[h,zaj]at hh
    simpa using hh
theorem goneN_mem (x:Int):∀(ds:List EDoc) (l:ELive),x∈(goneN ds l).2↔x∈l.2\/(x∈ds.map (·.1)/\(docOf l.1.1 x).isSome=true)
 | [],l=>by simp[goneN]
 |d::ds,l=>by
  have ih:=goneN_mem x ds (goneS d.1 l)
  rw[goneS_1,goneS_mem]at ih
  show x∈(goneN ds (goneS d.1 l)).2↔_
  rw[ih,zv,zp]
  constructor
  .rintro ((h|⟨rfl,h⟩)|⟨h1,h2⟩)
   .exact .inl h
   .exact .inr ⟨.inl rfl,h⟩
   .exact .inr ⟨.inr h1,h2⟩
  .rintro (h|⟨(rfl|h1),h2⟩)
   .exact .inl (.inl h)
   .exact .inl (.inr ⟨rfl,h2⟩)
   .exact .inr ⟨h1,h2⟩
theorem doc_some {ds:List EDoc} {d:EDoc} (hi:ds.Pairwise fun a b=>a.1<b.1) (h:d∈ds):(docOf ds d.1).isSome=true:=by rw[docOf_self hi d h];rfl
theorem drop_many (ds:List EDoc) (l:ELive) (hi:l.1.1.Pairwise fun a b=>a.1<b.1) (hu:upL l.2):dropL (ds.map (·.1)) l=goneN ds l:=by
 refine Prod.ext (goneN_1 ds l).symm ?_
 show putIs l.2 (addD (ds.map (·.1)) l)=(goneN ds l).2
 refine up_unique (putIs_up _ _ hu) ((goneN_2 ds l).2 hu) fun x=>?_
 rw[putIs_mem,goneN_mem]
 unfold addD
 rw[zaZ,zw,zab]
 constructor
 .rintro (⟨⟨d,hd,rfl⟩,h⟩|h)
  .exact .inr ⟨h,doc_some hi (zaZ.1 hd).1⟩
  .exact .inl h
 .rintro (h|⟨h1,h2⟩)
  .exact .inr h
  .by_cases e:x∈l.2
   .exact .inr e
   .cases hd:docOf l.1.1 x with
    |none=>rw[hd]at h2;cases h2
    |some d=>
     obtain⟨h5,rfl⟩:=docOf_some hd
     exact .inl ⟨⟨d,zaZ.2 ⟨h5,by rw[zd e];rfl⟩,rfl⟩,h1⟩
theorem dead_in {l:ELive} (hi:l.1.1.Pairwise fun a b=>a.1<b.1) (hs:∀n,n∈l.2->∃d,d∈l.1.1/\d.1=n) (ds:List EDoc):∀n,n∈(goneN ds l).2->∃d,d∈(goneN ds l).1.1/\d.1=n:=fun n hn=>by
 rw[goneN_1]
 rcases(goneN_mem n ds l).1 hn with h|⟨_,h⟩
 .exact hs n h
 .cases hd:docOf l.1.1 n with
  |none=>rw[hd]at h;cases h
  |some d=>exact⟨d,docOf_some hd⟩
theorem alive_goneN {l:ELive} (hi:l.1.1.Pairwise fun a b=>a.1<b.1) (hu:upL l.2) (hs:∀n,n∈l.2->∃d,d∈l.1.1/\d.1=n) (ds:List EDoc):(alive (goneN ds l)).length+(goneN ds l).2.length=(goneN ds l).1.1.length:=
 alive_len (goneN ds l) (by rw[goneN_1];exact hi) (((goneN_2 ds l).2 hu).imp fun h e=>by omega) (dead_in hi hs ds)
theorem live_goneN {l:ELive} (hi:l.1.1.Pairwise fun a b=>a.1<b.1) (hu:upL l.2) (hs:∀n,n∈l.2->∃d,d∈l.1.1/\d.1=n) (ds:List EDoc):livB (goneN ds l)=liveN (goneN ds l):=by
 have:=alive_goneN hi hu hs ds
 unfold livB liveN
 rw[decide_eq_decide]
 omega
theorem idsOf_spec (N:Nat) (docs:List EDoc) (h:docs.length<N) (hl:docs.length<=1000000):i_idsOf_m N docs=some (docs.map (·.1)):=by
 refine Def.get ?_
 unfold i_idsOf_m
 refine Def.upto docs.length (fun n v=>v=((docs.take n).map (·.1),docs,(docs.length:Int),(n:Int))) (fun go v hv=>?_) (fun go n v hn hv hgo=>?_) N 0 _ (zaf _) rfl (by omega)
 .subst hv
  dsimp only
  rw[zd (zm _),ze,zq]
  exact Def.ret rfl
 .subst hv
  dsimp only
  rw[zb (by omega:(n:Int)<docs.length),zg,idx_at hn,za]
  refine Def.ite (room_of (by rw[zar,zah,zbE];omega) (by rw[zar,zah,zbE];omega)) (Def.ite (fits_nat (n:=n) (by omega)) (hgo _ ?_))
  rw[zo hn,zaK,cast_succ']
  rfl
theorem FitX.cloneI {N:Nat} {x:EIndex} (h:FitI N x) (hk:okIdx x=true):i_cloneIndex_m N x.1.1 x.1.2 x.2=some (x.1.1,x.1.2,x.2):=by
 obtain⟨k1,k2,k3,k4⟩:=okIdx_ok hk
 exact cloneIndex_spec N x (.of h.big h.oc) (by omega) (fun l hl=>.of (zax.1 k3 l hl))
theorem indexAdd_i {N:Nat} {x:EIndex} (h:FitI N x) {docs:List EDoc} (od:∀d,d∈docs->okD Sm TDoc d) (hl:docs.length<=1000):i_IndexAdd_m N x.1.1 x.1.2 x.2 docs=some ((addR docs x).1.1.1,(addR docs x).1.1.2,(addR docs x).1.2,(addR docs x).2):=by
 have hM:1048576<N:=h.big
 have hN:=h.top
 unfold i_IndexAdd_m addR
 rw[indexOk_spec h,za]
 cases hk:okIdx x with
 |false=>rfl
 |true=>
  obtain⟨k1,k2,k3,k4⟩:=okIdx_ok hk
  have hcopy:=FitX.cloneI h hk
  rw[zn,ze,zg,hcopy,za]
  dsimp only
  by_cases h0:docs.length=0
  .rw [zb (by omega:(docs.length:Int)=0),zg,zd (by omega:¬0<docs.length),Bool.and_false]
   rfl
  .rw [zd (by omega:¬(docs.length:Int)=0),ze,zb (by omega:0<docs.length),zaV,docsOk_spec N h.big (by omega) docs od (by omega),za]
   cases hdo:okDocs docs with
   |false=>rfl
   |true=>
    have hdk:=okDocs_ok hdo
    have hd16:=hdk.few
    have hp:=FitP.of h hk
    have hids:∀l,l∈x.2->l.1.1.Pairwise fun a b=>a.1<b.1:=fun l hl=>(hp.good l hl).dok.inn.ids
    have hdead:∀l,l∈x.2->∀n,n∈l.2->∃d,d∈l.1.1/\d.1=n:=fun l hl=>okLive_dead (zax.1 k3 l hl)
    have hls:=zbh liveN (x.2.map (goneN docs))
    rw[zar]at hls
    have eL:(x.2.map (dropL (docs.map (·.1)))).filter livB=(x.2.map (goneN docs)).filter liveN:=by
     rw[map_eq (fun l hl=>drop_many docs l (hids l hl) (hp.up l hl))]
     refine filter_eq fun l' hl'=>?_
     obtain⟨l,hl,rfl⟩:=zab.1 hl'
     exact live_goneN (hids l hl) (hp.up l hl) (hdead l hl) docs
    rw[zn,ze,zg,idsOf_spec N docs (by omega) (by omega),za,drop_spec hp _ (by rw[zar];omega),za]
    dsimp only
    rw[eL,segOf_spec N h.big hN x.1 h.oc docs od (by omega),k1,hdo,zaj,zg,za]
    rw[zf (room_of (by show(_+1)*72<=_;omega) (by show((_+1:Nat):Int)<=_;omega))]
    have hY:=h.addY hk od hd16
    have e1:=indexOk_spec hY
    rw[show(x.2.map (goneN docs)).filter liveN++ [((docs,entriesS x.1 docs),([]:List Int))]=(addY docs x).2 from rfl]
    rw[show(addY docs x).1=x.1 from rfl]at e1
    rw[e1,za]
    cases okIdx (addY docs x)with
    |false=>rw[zaI,zg,za];rfl
    |true=>rfl
structure PcOk (l:ELive):Prop where
 ids:l.1.1.Pairwise fun a b=>a.1<b.1
 up:upL l.2
 dead:∀n,n∈l.2->∃d,d∈l.1.1/\d.1=n
theorem allD_one (l:ELive):allD [l]=alive l:=zat _
theorem alive_new (ds:List EDoc) (e:List EEntry):alive ((ds,e),[])=ds:=by
 unfold alive
 exact List.filter_eq_self.2 fun d hd=>rfl
theorem sort_id {ds:List EDoc} (h:okDocs ds=true):sortD ds=ds:=
 (docs_to (sortD_perm ds).symm ((okDocs_ok h).inn.ids.imp fun h=>by omega) (sortD_le ds) h).symm
theorem new_live {c:EConf} {ds:List EDoc} (hc:okConf c=true) (hd:okDocs ds=true) (h0:0<ds.length):okLive c ((ds,entriesS c ds),[])=true:=by
 unfold okLive okSeg
 rw[hc,hd,zb rfl,zb (show([]:List Int).length<ds.length from h0)]
 rfl
theorem new_ok {c:EConf} (hc:okConf c=true):okIdx (c,[])=true:=by
 unfold okIdx
 rw[hc]
 rfl
theorem whole_docs {c:EConf} {ds:List EDoc} (hd:okDocs ds=true):docsX (addY ds (c,[]))=ds:=by
 show sortD (allD [((ds,entriesS c ds),[])])=ds
 rw[allD_one,alive_new,sort_id hd]
theorem whole_ok {c:EConf} {ds:List EDoc} (hc:okConf c=true) (hd:okDocs ds=true) (h0:0<ds.length):okIdx (addY ds (c,[]))=true:=by
 have h1:=whole_docs (c:=c) hd
 have h2:=new_live hc hd h0
 unfold okIdx
 rw[show(addY ds (c,[])).1=c from rfl,hc,show sortD (allD (addY ds (c,[])).2)=ds from h1,hd]
 show(true&&(decide (((1:Nat):Int)<=5)&&(([((ds,entriesS c ds),([]:List Int))]:List ELive).all (okLive c)&&true)))=true
 rw[zb7,h2]
 rfl
theorem addR_of {docs:List EDoc} {x:EIndex} (h1:okIdx x=true) (h2:okDocs docs=true) (h3:0<docs.length) (h4:okIdx (addY docs x)=true):addR docs x=(addY docs x,true):=by
 unfold addR
 rw[h1,h2,zb h3,h4]
 rfl
structure SameX (x z:EIndex):Prop where
 okx:okIdx x=true
 okz:okIdx z=true
 conf:z.1=x.1
 docs:docsX z=docsX x
end Go.Proofs.YtchgdmmcjgmfcaaGreatDoor
