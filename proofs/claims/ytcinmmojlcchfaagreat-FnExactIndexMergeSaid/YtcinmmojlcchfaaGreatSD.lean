import Derived.Test.YtcinmmojlcchfaaGreatSC
set_option linter.unusedVariables false
set_option linter.unusedSimpArgs false
namespace Go.Proofs.YtcinmmojlcchfaaGreat
open Go.RowKit
theorem jYH (xs:List EDoc) (h1:∀d,d∈xs->okDoc d=true) (h2:xs.Pairwise fun a b=>a.1<b.1) (h3:xs.length<=16):okDocs xs=true:=by
 unfold okDocs allN
 rw[zj,zw,zax]
 refine⟨fun n hn=>?_,by omega⟩
 have hn':n<xs.length:=by simpa using hn
 unfold okDc
 rw[zj,<-dAt_eq hn']
 refine⟨h1 _ (zr hn'),?_⟩
 cases n with
 |zero=>rfl
 |succ n=>
  have:=za2.1 h2 n (n+1) (by omega) hn' (by omega)
  rw[show n+1-1=n from rfl,<-dAt_eq (by omega:n<xs.length),zd (by omega:¬n+1=0),zbf,zd (by omega)]
  rfl
theorem okDocs_sub {A B:List EDoc} (h:okDocs (sortD A)=true) (hs:B.Sublist A):okDocs (sortD B)=true:=by
 have hd:=okDocs_ok h
 have hA:=sortD_perm A
 have hB:=sortD_perm B
 refine jYH _ (fun d hm=>okDoc_each h d (hA.mem_iff.2 (hs.subset (hB.mem_iff.1 hm)))) ?_ ?_
 .have h1:A.Pairwise fun a b=>a.1≠b.1:=(hA.pairwise_iff (fun {x y} h=>fun e=>h e.symm)).1 (hd.inn.ids.imp fun h e=>by omega)
  have h2:(sortD B).Pairwise fun a b=>a.1≠b.1:=(hB.pairwise_iff (fun {x y} h=>fun e=>h e.symm)).2 (h1.sublist hs)
  exact((sortD_le B).and h2).imp fun {a b} h=>by have:=h.1;have:=h.2;omega
 .have h1:=hs.length_le
  have h2:=hA.length_eq
  have h3:=hB.length_eq
  have:=hd.few
  omega
theorem allD_app (a b:List ELive):allD (a++b)=allD a++allD b:=by unfold allD;rw[List.flatMap_append]
theorem allD_sub {a b:List ELive} (h:a.Sublist b):(allD a).Sublist (allD b):=by
 induction h with
 |slnil=>exact List.Sublist.refl _
 |cons x _ ih=>
  show(allD _).Sublist (alive x++allD _)
  exact ih.trans (List.sublist_append_right _ _)
 |cons_cons x _ ih=>
  show(alive x++allD _).Sublist (alive x++allD _)
  exact(List.Sublist.refl _).append ih
theorem jWX {B:Nat} {x:Int} (h0: -1000000000<=x) (h1:x<=1000000000):okD B (.int .i64) x:=by
 have e1:IntKind.i64.min=-9223372036854775808:=rfl
 have e2:IntKind.i64.max=9223372036854775807:=rfl
 show IntKind.i64.min<=x/\x<=IntKind.i64.max
 rw[e1,e2]
 omega
theorem jW3 {d:EDoc} (h:okDoc d=true):∀f,f∈d.2.1->f.1.length<=12:=by
 unfold okDoc at h
 simp only[zj,zw]at h
 intro f hf
 obtain⟨n,hn,rfl⟩:=zav.1 hf
 have h3:=allN_at h.1.2 hn
 unfold okF at h3
 rw[zj,zj,<-fAt_eq hn]at h3
 exact(jbS h3.1.1).2
theorem jW7 (c:EConf) (hc:okConf c=true) {docs:List EDoc} (h:okDocs docs=true):okD Sm (.sl jk) (entriesS c docs):=by
 have hd:=okDocs_ok h
 have hs:=entries_small c hd
 have hsm:(7680:Nat)<=Sm:=by decide
 have h16:(16:Nat)<=Sm:=by decide
 refine⟨zau hs.1 hsm,fun e he=>?_⟩
 have hw:=jXk c hc hd e he
 have hsme:=hs.2 e he
 have hm:=(entriesS_mem c hd.inn (keyE e)).1 (zca he)
 have hp:e.2.2=postsS c docs (e.1,e.2.1):=by
  unfold entriesS at he
  obtain⟨f,_,he⟩:=zaT.1 he
  obtain⟨t,_,rfl⟩:=zab.1 he
  rfl
 refine⟨?_,zau (jbS hw).2 (zau (by decide) h16),⟨zau hsme.1 hsm,fun p hpm=>?_⟩⟩
 .obtain ⟨o,ho,hk⟩:=hm
  obtain⟨d,hdm,ho⟩:=zaT.1 ho
  obtain⟨f,hf,ho⟩:=zaT.1 ho
  obtain⟨t,ht,rfl⟩:=zab.1 ho
  have:e.1=f.1:=(congrArg Prod.fst hk).symm
  show e.1.length<=Sm
  rw[this]
  exact zau (jW3 (okDoc_each h d hdm) f hf) (zau (by decide) h16)
 .rw [hp]at hpm
  unfold postsS at hpm
  obtain⟨d,hdm,hx⟩:=zbs.1 hpm
  split at hx
  .cases hx
  .cases hx
   have hk:=okDoc_each h d hdm
   unfold okDoc at hk
   simp only[zj,zw]at hk
   have hl:=hd.text hdm e.1
   refine⟨jWX (by omega) (by omega),⟨?_,fun x hx=>?_⟩⟩
   .have h1:(ats c d (e.1,e.2.1)).length<=(terms c (fieldF d.2.1 e.1)).length:=by
     unfold ats
     rw[zar]
     exact zbh _ _
    have h2:=terms_len c (fieldF d.2.1 e.1)
    show(ats c d (e.1,e.2.1)).length<=Sm
    omega
   .unfold ats at hx
    obtain⟨t,h1,rfl⟩:=zab.1 hx
    have:=terms_atOk c (fieldF d.2.1 e.1) (by omega) t (zaZ.1 h1).1
    exact jWX (by omega) (by omega)
structure FitC (N:Nat) (c:EConf):Prop where
 big:1048576<N
 a:c.1.length<=1048576
 b:c.2.length<=1048576
 e:∀y,y∈c.2->y.1.length<=1048576
structure FitL (l:ELive):Prop where
 dok:DOk l.1.1
 small:Small 7680 l.1.2
 dead:l.2.length<=1000
theorem FitL.of {c:EConf} {l:ELive} (h:okLive c l=true):FitL l:=by
 obtain⟨h1,_,h3,_⟩:=okLive_ok h
 obtain⟨_,h5,h6⟩:=okSeg_ok h1
 exact⟨h5,h6▸entries_small c h5,by omega⟩
theorem cloneConf_spec (N:Nat) (c:EConf) (h:FitC N c):i_cloneConf_m N c.1 c.2=some (c.1,c.2):=by
 have hb:=h.big
 have h1:=h.a
 have h2:=h.b
 unfold i_cloneConf_m
 rw[zf (room_of (by simp;omega) (by simp;omega)),zaW]
 refine(iter_scan _ c.2.length (fun n=>(c.2,(c.2.length:Int),(n:Int),c.1,c.2.take n)) (fun _=>some (c.1,c.2)) (fun go=>?_) (fun go n hn hgo=>?_) N 0 (zaf _) (by omega)).trans rfl
 .dsimp only
  rw[zd (zcd _),ze,zq]
 .dsimp only
  have hx:=h.e _ (zr hn)
  rw[zb (by omega:(n:Int)<c.2.length),zg,idx_at hn,za,zf (room_of (by simp;omega) (by simp;omega)),zf (room_of (by simp;omega) (by simp;omega)),zf (fits_nat (n:=n) (by omega)),zaW,<-hgo,zo hn,cast_succ']
theorem copyConf_spec (N:Nat) (c:EConf) (h:FitC N c):s_l18CopyConf_m N c.1 c.2=some (c.1,c.2):=by
 have hb:=h.big
 have h1:=h.a
 have h2:=h.b
 unfold s_l18CopyConf_m
 rw[zf (room_of (by simp;omega) (by simp;omega)),zaW]
 refine(iter_scan _ c.2.length (fun n=>((n:Int),c.1,c.2,c.1,c.2.take n)) (fun _=>some (c.1,c.2)) (fun go=>?_) (fun go n hn hgo=>?_) N 0 (zaf _) (by omega)).trans rfl
 .dsimp only
  rw[zd (zcd _),ze,zq]
 .dsimp only
  have hx:=h.e _ (zr hn)
  rw[zb (by omega:(n:Int)<c.2.length),zg,idx_at hn,za,zf (room_of (by simp;omega) (by simp;omega)),za,zf (room_of (by simp;omega) (by simp;omega)),zf (fits_nat (n:=n) (by omega)),zaW,<-hgo,zo hn,cast_succ']
theorem cloneLive_spec (N:Nat) (hN:1048576<N) (l:ELive) (h:FitL l):i_cloneLive_m N l.1.1 l.1.2 l.2=some (l.1.1,l.1.2,l.2):=by
 have hd:=h.dead
 have hs:=h.small.1
 unfold i_cloneLive_m
 rw[cloneDocs_spec N h.dok (by omega),za,zf (room_of (by simp;omega) (by simp;omega)),zaW]
 refine(iter_scan _ l.1.2.length (fun n=>(l.1.2,(l.1.2.length:Int),(n:Int),l.1.1,l.1.2.take n,l.2)) (fun _=>some (l.1.1,l.1.2,l.2)) (fun go=>?_) (fun go n hn hgo=>?_) N 0 (zaf _) (by omega)).trans rfl
 .dsimp only
  rw[zd (zcd _),ze,zq]
 .dsimp only
  have hx:=h.small.2 _ (zr hn)
  have hx1:=hx.1
  rw[zb (by omega:(n:Int)<l.1.2.length),zg,idx_at hn,za]
  refine(iter_scan _ l.1.2[n].2.2.length (fun k=>(l.1.2[n].2.2.take k,l.1.2,(l.1.2.length:Int),(n:Int),l.1.2[n].2.2,(l.1.2[n].2.2.length:Int),(k:Int),l.1.1,l.1.2.take n,l.2,l.1.2[n].1,l.1.2[n].2.1,l.1.2[n].2.2)) (fun _=>some (l.1.1,l.1.2,l.2)) (fun go2=>?_) (fun go2 k hk hgo2=>?_) N 0 (zaf _) (by omega)).trans rfl
  .dsimp only
   rw[zd (zcd _),ze,zq,zf (room_of (by simp;omega) (by simp;omega)),zf (fits_nat (n:=n) (by omega)),<-hgo,zo hn,cast_succ']
  .dsimp only
   have hy:=hx.2 _ (zr hk)
   rw[zb (by omega:(k:Int)<l.1.2[n].2.2.length),zg,idx_at hk,za,zf (room_of (by simp;omega) (by simp;omega)),zf (room_of (by simp;omega) (by simp;omega)),zf (fits_nat (n:=k) (by omega)),zaW,<-hgo2,zo hk,cast_succ']
theorem copyPosts_spec (N:Nat) (hN:1048576<N) (ps:List EPost) (h1:ps.length<=7680) (h2:∀p,p∈ps->p.2.length<=7680):s_l7CopyPosts_m N ps=some ps:=by
 unfold s_l7CopyPosts_m
 refine(iter_scan _ ps.length (fun k=>(ps,ps.take k,(k:Int))) (fun _=>some ps) (fun go=>?_) (fun go k hk hgo=>?_) N 0 (zaf _) (by omega)).trans rfl
 .dsimp only
  rw[zd (zcd _),ze,zq]
 .dsimp only
  have hy:=h2 _ (zr hk)
  rw[zb (by omega:(k:Int)<ps.length),zg,idx_at hk,za,za,zf (room_of (by simp;omega) (by simp;omega)),zf (room_of (by simp;omega) (by simp;omega)),zf (fits_nat (n:=k) (by omega)),zaW,<-hgo,zo hk,cast_succ']
theorem copySeg_spec (N:Nat) (hN:1048576<N) (l:ELive) (h:FitL l):s_l18CopySeg_m N l.1.1 l.1.2=some l.1:=by
 have hs:=h.small.1
 have hf:=h.dok.few
 unfold s_l18CopySeg_m
 refine(iter_scan _ l.1.1.length (fun n=>((n:Int),l.1.1,l.1.2,l.1.1.take n)) (fun _=>some l.1) (fun go=>?_) (fun go n hn hgo=>?_) N 0 (zaf _) (by omega)).trans rfl
 .dsimp only
  rw[zd (zcd _),ze,zq]
  refine(iter_scan _ l.1.2.length (fun n=>((n:Int),l.1.1,l.1.2,l.1.1,l.1.2.take n)) (fun _=>some l.1) (fun go2=>?_) (fun go2 n hn hgo2=>?_) N 0 (zaf _) (by omega)).trans rfl
  .dsimp only
   rw[zd (zcd _),ze,zq]
  .dsimp only
   have hx:=h.small.2 _ (zr hn)
   rw[zb (by omega:(n:Int)<l.1.2.length),zg,idx_at hn,za,copyPosts_spec N hN _ hx.1 hx.2,za,zf (room_of (by simp;omega) (by simp;omega)),zf (fits_nat (n:=n) (by omega)),<-hgo2,zo hn,cast_succ']
 .dsimp only
  have he:=h.dok.each _ (zr hn)
  rw[zb (by omega:(n:Int)<l.1.1.length),zg,idx_at hn,za,l7CopyDoc_spec N l.1.1[n] he.1 he.2.1,za,zf (room_of (by simp;omega) (by simp;omega)),zf (fits_nat (n:=n) (by omega)),<-hgo,zo hn,cast_succ']
theorem cloneIndex_spec (N:Nat) (x:EIndex) (hc:FitC N x.1) (hl:x.2.length<=1000) (h:∀l,l∈x.2->FitL l):i_cloneIndex_m N x.1.1 x.1.2 x.2=some (x.1.1,x.1.2,x.2):=by
 have hb:=hc.big
 unfold i_cloneIndex_m
 rw[cloneConf_spec N x.1 hc,za]
 refine(iter_scan _ x.2.length (fun n=>(x.2,(x.2.length:Int),(n:Int),x.1.1,x.1.2,x.2.take n)) (fun _=>some (x.1.1,x.1.2,x.2)) (fun go=>?_) (fun go n hn hgo=>?_) N 0 (zaf _) (by omega)).trans rfl
 .dsimp only
  rw[zd (zcd _),ze,zq]
 .dsimp only
  rw[zb (by omega:(n:Int)<x.2.length),zg,idx_at hn,za,cloneLive_spec N hb _ (h _ (zr hn)),za,zf (room_of (by simp;omega) (by simp;omega)),zf (fits_nat (n:=n) (by omega)),<-hgo,zo hn,cast_succ']
theorem copyIndex_spec (N:Nat) (x:EIndex) (hc:FitC N x.1) (hl:x.2.length<=1000) (h:∀l,l∈x.2->FitL l):s_l18Copy_m N x.1.1 x.1.2 x.2=some (x.1.1,x.1.2,x.2):=by
 have hb:=hc.big
 unfold s_l18Copy_m
 rw[copyConf_spec N x.1 hc,za]
 refine(iter_scan _ x.2.length (fun n=>((n:Int),x.1.1,x.1.2,x.2,x.1.1,x.1.2,x.2.take n)) (fun _=>some (x.1.1,x.1.2,x.2)) (fun go=>?_) (fun go n hn hgo=>?_) N 0 (zaf _) (by omega)).trans rfl
 .dsimp only
  rw[zd (zcd _),ze,zq]
 .dsimp only
  have hf:=h _ (zr hn)
  have hd:=hf.dead
  rw[zb (by omega:(n:Int)<x.2.length),zg,idx_at hn,za,copySeg_spec N hb _ hf,za,za,zf (room_of (by simp;omega) (by simp;omega)),zf (room_of (by simp;omega) (by simp;omega)),zf (fits_nat (n:=n) (by omega)),zaW,<-hgo,zo hn,cast_succ']
structure FitP (N:Nat) (c:EConf) (ls:List ELive):Prop where
 big:1048576<N
 top:N<=16777216
 few:ls.length<=5
 good:∀l,l∈ls->GoodS N c l.1
 up:∀l,l∈ls->upL l.2
 dead:∀l,l∈ls->l.2.length<=200
theorem FitC.of {N:Nat} {c:EConf} (hM:1048576<N) (h:okD Sm TConf c):FitC N c:=⟨hM,h.1.1,h.2.1,fun y hy=>(h.2.2 y hy).1.1⟩
theorem okLive_dead {c:EConf} {l:ELive} (h:okLive c l=true):∀n,n∈l.2->∃d,d∈l.1.1/\d.1=n:=fun n hn=>by
 unfold okLive at h
 simp only[zj]at h
 have h1:=zax.1 h.2.2.2 n hn
 cases hdn:docOf l.1.1 n with
 |none=>rw[hdn]at h1;cases h1
 |some d=>exact⟨d,docOf_some hdn⟩
abbrev zeroX :EIndex:=(([],[]),[])
theorem FitI.zero {N:Nat} (hM:Sm<N) (hN:N<=16777216):FitI N zeroX:=
 ⟨hM,hN,⟨⟨zaf _,fun x hx=>by cases hx⟩,⟨zaf _,fun x hx=>by cases hx⟩⟩,zaf _,fun l hl=>by cases hl⟩
def midD (k:Nat) (x:EIndex):List EDoc:=sortD (allD ((x.2.take (k+2)).drop k))
def mergeX (k:Nat) (x:EIndex):EIndex:=(x.1,x.2.take k++ [((midD k x,entriesS x.1 (midD k x)),[])]++x.2.drop (k+2))
def mergeR (at':Int) (x:EIndex):EIndex×Bool:=bif okIdx x then(bif decide (0<=at')&&decide (at'<=(x.2.length:Int)-2)then(mergeX at'.toNat x,true)else(x,false))else(zeroX,false)
theorem cut_mid {α:Type} (xs:List α) (a b:Nat) (h1:a<=b) (h2:b<=xs.length):cut xs (a:Int) (b:Int)=some ((xs.take b).drop a):=by
 unfold cut
 rw[zf ⟨by omega,by omega,by omega⟩]
 rfl
theorem indexMerge_s {N:Nat} {x:EIndex} (h:FitI N x) (at':Int):s_IndexMerge_m N x.1.1 x.1.2 x.2 at'=some ((mergeR at' x).1.1.1,(mergeR at' x).1.1.2,(mergeR at' x).1.2,(mergeR at' x).2):=by
 have hM:1048576<N:=h.big
 have hN:=h.top
 unfold s_IndexMerge_m mergeR
 rw[l18Ok_spec h,za]
 cases hk:okIdx x with
 |false=>rfl
 |true=>
  obtain⟨k1,k2,k3,k4⟩:=okIdx_ok hk
  have hcopy:=copyIndex_spec N x (.of h.big h.oc) (by omega) (fun l hl=>.of (zax.1 k3 l hl))
  rw[zn,ze,zg,zf (by unfold fits;omega),l1In_spec,za]
  cases hin:decide (0<=at')&&decide (at'<=(x.2.length:Int)-2)with
  |false=>
   rw[zaI,zg,hcopy,za]
   rfl
  |true=>
   rw[zj,zw,zw]at hin
   obtain⟨k,rfl⟩:∃k:Nat,at'=(k:Int):=⟨at'.toNat,by omega⟩
   have hk2:k+2<=x.2.length:=by omega
   have hsub:((x.2.take (k+2)).drop k).Sublist x.2:=(List.drop_sublist _ _).trans (List.take_sublist _ _)
   have hpc:Pieces ((x.2.take (k+2)).drop k):=pieces_of (c:=x.1) (by rw[zaQ,zah];omega) (zax.2 fun l hl=>zax.1 k3 l (hsub.subset hl))
   have hdo:okDocs (midD k x)=true:=okDocs_sub k4 (allD_sub hsub)
   rw[zn,ze,zf (by unfold fits;omega),show((k:Int)+2)=((k+2:Nat):Int)from by omega,cut_mid x.2 k (k+2) (by omega) hk2,za]
   have hdocs:=docs_spec N hM hN ([],[]) _ hpc
   rw[hdocs,za,hcopy,za]
   dsimp only
   rw[cut_take' x.2 k (by omega),za,zf (room_of (by rw[zah];simp;omega) (by rw[zah];simp;omega)),show sortD (allD ((x.2.take (k+2)).drop k))=midD k x from rfl,l7Of_spec N x.1 k1 (okDocs_ok hdo) hM,za,
    zf (room_of (by rw[zam,zah,zbE];simp;omega) (by rw[zam,zah,zbE];simp;omega)),zf (by unfold fits;omega),cut_drop' x.2 (k+2) hk2,za,
    zf (room_of (by simp only[zam,zah,zbE,zaQ,zac];omega) (by simp only[zam,zah,zbE,zaQ,zac];omega)),zaW]
   rfl
theorem mergeR_fit {N:Nat} {x:EIndex} (h:FitI N x) (at':Int):FitI N (mergeR at' x).1:=by
 unfold mergeR
 cases hk:okIdx x with
 |false=>exact FitI.zero h.big h.top
 |true=>
  rw[zg]
  cases hin:decide (0<=at')&&decide (at'<=(x.2.length:Int)-2)with
  |false=>exact h
  |true=>
   obtain⟨k1,k2,k3,k4⟩:=okIdx_ok hk
   rw[zg]
   generalize at'.toNat=k
   have hsub:((x.2.take (k+2)).drop k).Sublist x.2:=(List.drop_sublist _ _).trans (List.take_sublist _ _)
   have hpc:Pieces ((x.2.take (k+2)).drop k):=pieces_of (c:=x.1) (zau hsub.length_le k2) (zax.2 fun l hl=>zax.1 k3 l (hsub.subset hl))
   refine⟨h.big,h.top,h.oc,?_,fun l' hl'=>?_⟩
   .show (x.2.take k++ [((midD k x,entriesS x.1 (midD k x)),([]:List Int))]++x.2.drop (k+2)).length<=_
    simp only[zam,zah,zbE,zaQ]
    omega
   .rcases zaB.1 hl' with hl'|hl'
    .rcases zaB.1 hl' with hl'|hl'
     .exact h.each l' (zaP hl')
     .rw [zaD]at hl'
      subst hl'
      refine⟨sort_docs fun l hl=>(h.each l (hsub.subset hl)).1,?_,zaf _⟩
      have:=sort_len hpc
      show(midD k x).length<=_
      unfold midD
      omega
    .exact h.each l' (zbP hl')
theorem FitX.cloneI {N:Nat} {x:EIndex} (h:FitI N x) (hk:okIdx x=true):i_cloneIndex_m N x.1.1 x.1.2 x.2=some (x.1.1,x.1.2,x.2):=by
 obtain⟨k1,k2,k3,k4⟩:=okIdx_ok hk
 exact cloneIndex_spec N x (.of h.big h.oc) (by omega) (fun l hl=>.of (zax.1 k3 l hl))
theorem indexMerge_i {N:Nat} {x:EIndex} (h:FitI N x) (at':Int):i_IndexMerge_m N x.1.1 x.1.2 x.2 at'=some ((mergeR at' x).1.1.1,(mergeR at' x).1.1.2,(mergeR at' x).1.2,(mergeR at' x).2):=by
 have hM:1048576<N:=h.big
 have hN:=h.top
 unfold i_IndexMerge_m mergeR
 rw[indexOk_spec h,za]
 cases hk:okIdx x with
 |false=>rfl
 |true=>
  obtain⟨k1,k2,k3,k4⟩:=okIdx_ok hk
  have hcopy:=FitX.cloneI h hk
  rw[zn,ze,zg,hcopy,za]
  dsimp only
  rw[zf (by unfold fits;omega),within_spec,za]
  cases hin:decide (0<=at')&&decide (at'<=(x.2.length:Int)-2)with
  |false=>rfl
  |true=>
   rw[zj,zw,zw]at hin
   obtain⟨k,rfl⟩:∃k:Nat,at'=(k:Int):=⟨at'.toNat,by omega⟩
   have hk2:k+2<=x.2.length:=by omega
   have hsub:((x.2.take (k+2)).drop k).Sublist x.2:=(List.drop_sublist _ _).trans (List.take_sublist _ _)
   have hpc:Pieces ((x.2.take (k+2)).drop k):=pieces_of (c:=x.1) (by rw[zaQ,zah];omega) (zax.2 fun l hl=>zax.1 k3 l (hsub.subset hl))
   have hdo:okDocs (midD k x)=true:=okDocs_sub k4 (allD_sub hsub)
   obtain⟨R,hR,hperm,hle⟩:=allAlive_def N hM hN _ hpc
   have hps:(midD k x).Perm R:=(sortD_perm _).trans hperm.symm
   have eR:midD k x=R:=docs_to hps (sortD_le _) hle hdo
   have odM:∀d,d∈midD k x->okD Sm TDoc d:=sort_docs fun l hl=>(h.each l (hsub.subset hl)).1
   have hml:(midD k x).length<=80:=sort_len hpc
   rw[zn,ze,zf (by unfold fits;omega),show((k:Int)+2)=((k+2:Nat):Int)from by omega,cut_mid x.2 k (k+2) (by omega) hk2,za,hR,za,<-eR,segOf_spec N h.big hN x.1 h.oc (midD k x) odM (by omega),k1,hdo,zaj,zg,za]
   have e1:(x.2.take ((k:Int)).toNat).drop (Int.toNat 0)=x.2.take k:=by rw[zai];rfl
   have e2:(x.2.take (Int.toNat (x.2.length:Int))).drop ((k+2:Nat):Int).toNat=x.2.drop (k+2):=by rw[zai,zai,List.take_of_length_le (zae _)]
   rw[cut_take' x.2 k (by omega),za,zf (zaf _),e1,e2,zf (room_of (by rw[zah];simp;omega) (by rw[zah];simp;omega)),
    zf (room_of (by rw[zam,zah,zbE];simp;omega) (by rw[zam,zah,zbE];simp;omega)),zf (by unfold fits;omega),cut_drop' x.2 (k+2) hk2,za,zf (by omega),
    zf (room_of (by simp only[zam,zah,zbE,zaQ,zac];omega) (by simp only[zam,zah,zbE,zaQ,zac];omega))]
   rfl
structure PcOk (l:ELive):Prop where
 ids:l.1.1.Pairwise fun a b=>a.1<b.1
 up:upL l.2
 dead:∀n,n∈l.2->∃d,d∈l.1.1/\d.1=n
theorem PcOk.of {c:EConf} {l:ELive} (h:okLive c l=true):PcOk l:=by
 have h1:=okLive_ok h
 refine⟨(okDocs_ok (okSeg_docs h1.1)).inn.ids,?_,okLive_dead h⟩
 unfold okLive at h
 simp only[zj]at h
 exact(upB_up h.2.1).1
theorem PcOk.len {l:ELive} (h:PcOk l):(alive l).length+l.2.length=l.1.1.length:=alive_len l h.ids (h.up.imp fun h e=>by omega) h.dead
theorem allD_one (l:ELive):allD [l]=alive l:=zat _
theorem alive_new (ds:List EDoc) (e:List EEntry):alive ((ds,e),[])=ds:=by
 unfold alive
 exact List.filter_eq_self.2 fun d hd=>rfl
theorem allD_mergeX (k:Nat) (x:EIndex):(allD (mergeX k x).2).Perm (allD x.2):=by
 show(allD (x.2.take k++ [((midD k x,entriesS x.1 (midD k x)),[])]++x.2.drop (k+2))).Perm _
 rw[allD_app,allD_app,allD_one,alive_new]
 have e:x.2=x.2.take k++(x.2.take (k+2)).drop k++x.2.drop (k+2):=by
  have h1:(x.2.take (k+2)).take k=x.2.take k:=by rw[List.take_take,Nat.min_eq_left (by omega)]
  rw[<-h1,zaR,zaR]
 have e2:allD x.2=allD (x.2.take k)++allD ((x.2.take (k+2)).drop k)++allD (x.2.drop (k+2)):=by
  rw[<-allD_app,<-allD_app,<-e]
 rw[e2]
 exact((sortD_perm _).append_left _).append_right _
theorem docs_perm {a b:List EDoc} (h:a.Perm b) (hb:okDocs (sortD b)=true):sortD a=sortD b:=by
 have hp:(sortD b).Perm (sortD a):=(sortD_perm b).trans (h.symm.trans (sortD_perm a).symm)
 exact(docs_to hp (sortD_le b) (sortD_le a) hb).symm
theorem new_live {c:EConf} {ds:List EDoc} (hc:okConf c=true) (hd:okDocs ds=true) (h0:0<ds.length):okLive c ((ds,entriesS c ds),[])=true:=by
 unfold okLive okSeg
 rw[hc,hd,zb rfl,zb (show([]:List Int).length<ds.length from h0)]
 rfl
theorem alive_pos {c:EConf} {l:ELive} (h:okLive c l=true):0<(alive l).length:=by
 have h1:=(PcOk.of h).len
 unfold okLive at h
 simp only[zj,zw]at h
 omega
theorem merge_ok {x:EIndex} (hk:okIdx x=true) {k:Nat} (hk2:k+2<=x.2.length):okIdx (mergeX k x)=true:=by
 obtain⟨k1,k2,k3,k4⟩:=okIdx_ok hk
 have hsub:((x.2.take (k+2)).drop k).Sublist x.2:=(List.drop_sublist _ _).trans (List.take_sublist _ _)
 have hdo:okDocs (midD k x)=true:=okDocs_sub k4 (allD_sub hsub)
 have h0:0<(midD k x).length:=by
  have hm:x.2[k]∈(x.2.take (k+2)).drop k:=zav.2 ⟨0,by rw[zaQ,zah];omega,by simp⟩
  have hp:=alive_pos (zax.1 k3 _ (hsub.subset hm))
  unfold midD
  rw[(sortD_perm _).length_eq]
  cases ha:alive x.2[k]with
  |nil=>rw[ha]at hp;simp at hp
  |cons d r=>
   exact List.length_pos_of_mem (zaT.2 ⟨_,hm,by rw[ha];exact zy⟩:d∈allD ((x.2.take (k+2)).drop k))
 unfold okIdx
 rw[show(mergeX k x).1=x.1 from rfl,k1,docs_perm (allD_mergeX k x) k4,k4,zaV,zaj,zj,zw]
 refine⟨?_,zax.2 fun l' hl'=>?_⟩
 .show ((x.2.take k++ [((midD k x,entriesS x.1 (midD k x)),([]:List Int))]++x.2.drop (k+2)).length:Int)<=5
  simp only[zam,zah,zbE,zaQ]
  omega
 .have hl':l'∈x.2.take k++ [((midD k x,entriesS x.1 (midD k x)),([]:List Int))]++x.2.drop (k+2):=hl'
  rcases zaB.1 hl' with hl'|hl'
  .rcases zaB.1 hl' with hl'|hl'
   .exact zax.1 k3 _ (zaP hl')
   .rw [zaD.1 hl']
    exact new_live k1 hdo h0
  .exact zax.1 k3 _ (zbP hl')
end Go.Proofs.YtcinmmojlcchfaaGreat
