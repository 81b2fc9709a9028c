import Derived.Test.YtcinmmojlcchfaaGreatDoorSC1
import Derived.Test.YtcinmmojlcchfaaGreatDoorP1
set_option linter.unusedVariables false
set_option linter.unusedSimpArgs false
namespace Go.Proofs.YtcinmmojlcchfaaGreatDoor
open Go.RowKit
theorem jYH (xs:List EDoc) (h1:∀d,d∈xs->okDoc d=true) (h2:xs.Pairwise fun a b=>a.1<b.1) (h3:xs.length<=16):okDocs xs=true:=by
 unfold okDocs allN
 rw[zj,zw,zax]
 refine⟨fun n hn=>?_,by omega⟩
 have hn':n<xs.length:=by simpa using hn
 unfold okDc
 rw[zj,<-dAt_eq hn']
 refine⟨h1 _ (zr hn'),?_⟩
 cases n with
 |zero=>rfl
 |succ n=>
  have:=za2.1 h2 n (n+1) (by omega) hn' (by omega)
  rw[show n+1-1=n from rfl,<-dAt_eq (by omega:n<xs.length),zd (by omega:¬n+1=0),zbf,zd (by omega)]
  rfl
theorem okDocs_sub {A B:List EDoc} (h:okDocs (sortD A)=true) (hs:B.Sublist A):okDocs (sortD B)=true:=by
 have hd:=okDocs_ok h
 have hA:=sortD_perm A
 have hB:=sortD_perm B
 refine jYH _ (fun d hm=>okDoc_each h d (hA.mem_iff.2 (hs.subset (hB.mem_iff.1 hm)))) ?_ ?_
 .have h1:A.Pairwise fun a b=>a.1≠b.1:=(hA.pairwise_iff (fun {x y} h=>fun e=>h e.symm)).1 (hd.inn.ids.imp fun h e=>by omega)
  have h2:(sortD B).Pairwise fun a b=>a.1≠b.1:=(hB.pairwise_iff (fun {x y} h=>fun e=>h e.symm)).2 (h1.sublist hs)
  exact((sortD_le B).and h2).imp fun {a b} h=>by have:=h.1;have:=h.2;omega
 .have h1:=hs.length_le
  have h2:=hA.length_eq
  have h3:=hB.length_eq
  have:=hd.few
  omega
theorem allD_sub {a b:List ELive} (h:a.Sublist b):(allD a).Sublist (allD b):=by
 induction h with
 |slnil=>exact List.Sublist.refl _
 |cons x _ ih=>
  show(allD _).Sublist (alive x++allD _)
  exact ih.trans (List.sublist_append_right _ _)
 |cons_cons x _ ih=>
  show(alive x++allD _).Sublist (alive x++allD _)
  exact(List.Sublist.refl _).append ih
theorem jWX {B:Nat} {x:Int} (h0: -1000000000<=x) (h1:x<=1000000000):okD B (.int .i64) x:=by
 have e1:IntKind.i64.min=-9223372036854775808:=rfl
 have e2:IntKind.i64.max=9223372036854775807:=rfl
 show IntKind.i64.min<=x/\x<=IntKind.i64.max
 rw[e1,e2]
 omega
theorem jW3 {d:EDoc} (h:okDoc d=true):∀f,f∈d.2.1->f.1.length<=12:=by
 unfold okDoc at h
 simp only[zj,zw]at h
 intro f hf
 obtain⟨n,hn,rfl⟩:=zav.1 hf
 have h3:=allN_at h.1.2 hn
 unfold okF at h3
 rw[zj,zj,<-fAt_eq hn]at h3
 exact(jbS h3.1.1).2
theorem entries_okD (c:EConf) (hc:okConf c=true) {docs:List EDoc} (h:okDocs docs=true):okD Sm (.sl TEntry) (entriesS c docs):=by
 have hd:=okDocs_ok h
 have hs:=entries_small c hd
 have hsm:(7680:Nat)<=Sm:=by decide
 have h16:(16:Nat)<=Sm:=by decide
 refine⟨zau hs.1 hsm,fun e he=>?_⟩
 have hw:=jXk c hc hd e he
 have hsme:=hs.2 e he
 have hm:=(entriesS_mem c hd.inn (keyE e)).1 (zca he)
 have hp:e.2.2=postsS c docs (e.1,e.2.1):=by
  unfold entriesS at he
  obtain⟨f,_,he⟩:=zaT.1 he
  obtain⟨t,_,rfl⟩:=zab.1 he
  rfl
 refine⟨?_,zau (jbS hw).2 (zau (by decide) h16),⟨zau hsme.1 hsm,fun p hpm=>?_⟩⟩
 .obtain ⟨o,ho,hk⟩:=hm
  obtain⟨d,hdm,ho⟩:=zaT.1 ho
  obtain⟨f,hf,ho⟩:=zaT.1 ho
  obtain⟨t,ht,rfl⟩:=zab.1 ho
  have:e.1=f.1:=(congrArg Prod.fst hk).symm
  show e.1.length<=Sm
  rw[this]
  exact zau (jW3 (okDoc_each h d hdm) f hf) (zau (by decide) h16)
 .rw [hp]at hpm
  unfold postsS at hpm
  obtain⟨d,hdm,hx⟩:=zbs.1 hpm
  split at hx
  .cases hx
  .cases hx
   have hk:=okDoc_each h d hdm
   unfold okDoc at hk
   simp only[zj,zw]at hk
   have hl:=hd.text hdm e.1
   refine⟨jWX (by omega) (by omega),⟨?_,fun x hx=>?_⟩⟩
   .have h1:(ats c d (e.1,e.2.1)).length<=(terms c (fieldF d.2.1 e.1)).length:=by
     unfold ats
     rw[zar]
     exact zbh _ _
    have h2:=terms_len c (fieldF d.2.1 e.1)
    show(ats c d (e.1,e.2.1)).length<=Sm
    omega
   .unfold ats at hx
    obtain⟨t,h1,rfl⟩:=zab.1 hx
    have:=terms_atOk c (fieldF d.2.1 e.1) (by omega) t (zaZ.1 h1).1
    exact jWX (by omega) (by omega)
structure FitC (N:Nat) (c:EConf):Prop where
 big:1048576<N
 a:c.1.length<=1048576
 b:c.2.length<=1048576
 e:∀y,y∈c.2->y.1.length<=1048576
structure FitL (l:ELive):Prop where
 dok:DOk l.1.1
 small:Small 7680 l.1.2
 dead:l.2.length<=1000
theorem FitL.of {c:EConf} {l:ELive} (h:okLive c l=true):FitL l:=by
 obtain⟨h1,_,h3,_⟩:=okLive_ok h
 obtain⟨_,h5,h6⟩:=okSeg_ok h1
 exact⟨h5,h6▸entries_small c h5,by omega⟩
theorem copyConf_spec (N:Nat) (c:EConf) (h:FitC N c):s_l18CopyConf_m N c.1 c.2=some (c.1,c.2):=by
 have hb:=h.big
 have h1:=h.a
 have h2:=h.b
 unfold s_l18CopyConf_m
 rw[zf (room_of (by simp;omega) (by simp;omega)),zaW]
 refine(iter_scan _ c.2.length (fun n=>((n:Int),c.1,c.2,c.1,c.2.take n)) (fun _=>some (c.1,c.2)) (fun go=>?_) (fun go n hn hgo=>?_) N 0 (zaf _) (by omega)).trans rfl
 .dsimp only
  rw[zd (zcd _),ze,zq]
 .dsimp only
  have hx:=h.e _ (zr hn)
  rw[zb (by omega:(n:Int)<c.2.length),zg,idx_at hn,za,zf (room_of (by simp;omega) (by simp;omega)),za,zf (room_of (by simp;omega) (by simp;omega)),zf (fits_nat (n:=n) (by omega)),zaW,<-hgo,zo hn,cast_succ']
theorem copyPosts_spec (N:Nat) (hN:1048576<N) (ps:List EPost) (h1:ps.length<=7680) (h2:∀p,p∈ps->p.2.length<=7680):s_l7CopyPosts_m N ps=some ps:=by
 unfold s_l7CopyPosts_m
 refine(iter_scan _ ps.length (fun k=>(ps,ps.take k,(k:Int))) (fun _=>some ps) (fun go=>?_) (fun go k hk hgo=>?_) N 0 (zaf _) (by omega)).trans rfl
 .dsimp only
  rw[zd (zcd _),ze,zq]
 .dsimp only
  have hy:=h2 _ (zr hk)
  rw[zb (by omega:(k:Int)<ps.length),zg,idx_at hk,za,za,zf (room_of (by simp;omega) (by simp;omega)),zf (room_of (by simp;omega) (by simp;omega)),zf (fits_nat (n:=k) (by omega)),zaW,<-hgo,zo hk,cast_succ']
theorem copySeg_spec (N:Nat) (hN:1048576<N) (l:ELive) (h:FitL l):s_l18CopySeg_m N l.1.1 l.1.2=some l.1:=by
 have hs:=h.small.1
 have hf:=h.dok.few
 unfold s_l18CopySeg_m
 refine(iter_scan _ l.1.1.length (fun n=>((n:Int),l.1.1,l.1.2,l.1.1.take n)) (fun _=>some l.1) (fun go=>?_) (fun go n hn hgo=>?_) N 0 (zaf _) (by omega)).trans rfl
 .dsimp only
  rw[zd (zcd _),ze,zq]
  refine(iter_scan _ l.1.2.length (fun n=>((n:Int),l.1.1,l.1.2,l.1.1,l.1.2.take n)) (fun _=>some l.1) (fun go2=>?_) (fun go2 n hn hgo2=>?_) N 0 (zaf _) (by omega)).trans rfl
  .dsimp only
   rw[zd (zcd _),ze,zq]
  .dsimp only
   have hx:=h.small.2 _ (zr hn)
   rw[zb (by omega:(n:Int)<l.1.2.length),zg,idx_at hn,za,copyPosts_spec N hN _ hx.1 hx.2,za,zf (room_of (by simp;omega) (by simp;omega)),zf (fits_nat (n:=n) (by omega)),<-hgo2,zo hn,cast_succ']
 .dsimp only
  have he:=h.dok.each _ (zr hn)
  rw[zb (by omega:(n:Int)<l.1.1.length),zg,idx_at hn,za,l7CopyDoc_spec N l.1.1[n] he.1 he.2.1,za,zf (room_of (by simp;omega) (by simp;omega)),zf (fits_nat (n:=n) (by omega)),<-hgo,zo hn,cast_succ']
theorem copyIndex_spec (N:Nat) (x:EIndex) (hc:FitC N x.1) (hl:x.2.length<=1000) (h:∀l,l∈x.2->FitL l):s_l18Copy_m N x.1.1 x.1.2 x.2=some (x.1.1,x.1.2,x.2):=by
 have hb:=hc.big
 unfold s_l18Copy_m
 rw[copyConf_spec N x.1 hc,za]
 refine(iter_scan _ x.2.length (fun n=>((n:Int),x.1.1,x.1.2,x.2,x.1.1,x.1.2,x.2.take n)) (fun _=>some (x.1.1,x.1.2,x.2)) (fun go=>?_) (fun go n hn hgo=>?_) N 0 (zaf _) (by omega)).trans rfl
 .dsimp only
  rw[zd (zcd _),ze,zq]
 .dsimp only
  have hf:=h _ (zr hn)
  have hd:=hf.dead
  rw[zb (by omega:(n:Int)<x.2.length),zg,idx_at hn,za,copySeg_spec N hb _ hf,za,za,zf (room_of (by simp;omega) (by simp;omega)),zf (room_of (by simp;omega) (by simp;omega)),zf (fits_nat (n:=n) (by omega)),zaW,<-hgo,zo hn,cast_succ']
theorem FitC.of {N:Nat} {c:EConf} (hM:1048576<N) (h:okD Sm TConf c):FitC N c:=⟨hM,h.1.1,h.2.1,fun y hy=>(h.2.2 y hy).1.1⟩
def putI (l:List Int) (n:Int):List Int:=match l with
 | []=>[n]
 |x::r=>if x<n then x::putI r n else if x=n then x::r else n::x::r
theorem putI_mem (n x:Int):∀l,x∈putI l n↔x=n\/x∈l
 | []=>by simp[putI]
 |y::r=>by
  unfold putI
  have ih:=putI_mem n x r
  split
  .rw [zp,ih,zp];constructor<;>rintro(h|h|h)<;>simp_all
  .split
   .rename_i e;subst e;simp
   .simp
theorem putI_up (n:Int):∀l,upL l->upL (putI l n)
 | [],_=>by simp[putI,upL]
 |y::r,h=>by
  unfold upL at h
  rw[zas]at h
  have ih:upL (putI r n):=putI_up n r h.2
  unfold putI
  split
  .rename_i e
   show List.Pairwise _ _
   rw[zas]
   refine⟨fun x hx=>?_,ih⟩
   rcases(putI_mem n x r).1 hx with rfl|hx
   .exact e
   .exact h.1 x hx
  .split
   .exact zas.2 h
   .rename_i e1 e2
    show List.Pairwise _ _
    rw[zas,zas]
    refine⟨fun x hx=>?_,h⟩
    rcases zp.1 hx with rfl|hx
    .omega
    .have:=h.1 x hx;omega
theorem putI_len (n:Int):∀l,(putI l n).length<=l.length+1
 | []=>by simp[putI]
 |x::r=>by
  unfold putI
  have:=putI_len n r
  split
  .simp;omega
  .split<;>simp
theorem putI_in (n:Int):∀(l:List Int) (k:Nat) (h:k<l.length),(∀x,x∈l.take k->x<n)->l[k]=n->putI l n=l
 |x::r,0,_,_,e=>by
  have e:x=n:=e
  unfold putI
  rw[zu (by omega),zf e]
 |x::r,k+1,h,h1,e=>by
  have hx:=h1 x (by rw[zbG];simp)
  unfold putI
  rw[zf hx,putI_in n r k (by simpa using h) (fun y hy=>h1 y (by rw[zbG];simp[hy])) (by simpa using e)]
theorem putI_new (n:Int):∀(l:List Int) (k:Nat),k<=l.length->(∀x,x∈l.take k->x<n)->(∀h:k<l.length,n<l[k])->putI l n=l.take k++ [n]++l.drop k
 | [],k,h,_,_=>by simp at h;subst h;rfl
 |x::r,0,_,_,h2=>by
  have h2:n<x:=h2 (by simp)
  unfold putI
  rw[zu (by omega),zu (by omega)]
  rfl
 |x::r,k+1,h,h1,h2=>by
  have hx:=h1 x (by rw[zbG];simp)
  unfold putI
  rw[zf hx,putI_new n r k (by simpa using h) (fun y hy=>h1 y (by rw[zbG];simp[hy])) (fun h'=>by
   have:=h2 (by simp;omega)
   simpa using this)]
  rfl
theorem putNum_spec (N:Nat) (hN:1048576<N) (l:List Int) (n:Int) (hl:l.length<=1000):s_l8Put_m N l n=some (putI l n):=by
 refine Def.get ?_
 unfold s_l8Put_m
 have ins:∀k:Nat,k<=l.length->(∀x,x∈l.take k->x<n)->(∀h:k<l.length,n<l[k])->Def (Option.bind (cut l 0 (k:Int)) fun y=>if room ([]:List Int).length y.length 8 then(if room (([]:List Int)++y).length ([n]:List Int).length 8 then Option.bind (cut l (k:Int) (l.length:Int)) fun y2=>if room ((([]:List Int)++y)++([n]:List Int)).length y2.length 8 then some (((([]:List Int)++y)++([n]:List Int))++y2)else none else none)else none) fun r=>r=putI l n:=fun k hk h1 h2=>by
  rw[cut_take' l k hk,za,zf (room_of (by rw[zah];simp;omega) (by rw[zah];simp;omega)),
   zf (room_of (by rw[zam,zah,zbE];simp;omega) (by rw[zam,zah,zbE];simp;omega)),cut_drop' l k hk,za,
   zf (room_of (by simp only[zam,zah,zbE,zaQ,zac];omega) (by simp only[zam,zah,zbE,zaQ,zac];omega))]
  exact Def.ret (by rw[putI_new n l k hk h1 h2,zaW])
 refine Def.upto l.length (fun k g=>(∀x,x∈l.take k->x<n)/\g=(l,n,(k:Int))) ?_ ?_ N 0 _ (zaf _) ⟨fun x hx=>by simp at hx,rfl⟩ (by omega)
 .rintro go _ ⟨h1,rfl⟩
  dsimp only
  rw[zd (zcd _),ze,ze]
  exact ins l.length (zae _) h1 fun h=>absurd h (Nat.lt_irrefl _)
 .rintro go k _ hk ⟨h1,rfl⟩ hgo
  dsimp only
  rw[zb (by omega:(k:Int)<l.length),zg,zg,idx_at hk,za,za]
  refine Def.dif (fun e=>Def.ite (fits_nat (n:=k) (by omega)) (hgo _ ⟨fun x hx=>?_,by rw[cast_succ']⟩)) (fun e=>Def.dif (fun e2=>Def.ret (putI_in n l k hk h1 e2).symm) (fun e2=>ins k (by omega) h1 fun _=>by omega))
  rw[zo hk,zaB,zaD]at hx
  rcases hx with hx|rfl
  .exact h1 x hx
  .exact e
def hasL (id:Int) (l:ELive):Bool:=(docOf l.1.1 id).isSome&& !decide (id∈l.2)
def goneS (id:Int) (l:ELive):ELive:=bif hasL id l then(l.1,putI l.2 id)else l
structure FitP (N:Nat) (c:EConf) (ls:List ELive):Prop where
 big:1048576<N
 top:N<=16777216
 few:ls.length<=5
 good:∀l,l∈ls->GoodS N c l.1
 up:∀l,l∈ls->upL l.2
 dead:∀l,l∈ls->l.2.length<=200
theorem any_take {α:Type} (p:α->Bool) (l:List α) (n:Nat) (h:n<l.length):(l.take (n+1)).any p=((l.take n).any p||p l[n]):=by
 rw[zo h,List.any_append]
 simp
theorem gone_spec {N:Nat} {c:EConf} {ls:List ELive} (h:FitP N c ls) (id:Int):s_l18Gone_m N c.1 c.2 ls id=some (c.1,c.2,ls.map (goneS id),ls.any (hasL id)):=by
 have hM:=h.big
 have hN:=h.top
 have hf:=h.few
 refine Def.get ?_
 unfold s_l18Gone_m
 refine Def.upto ls.length (fun n g=>g=(id,(ls.take n).any (hasL id),(n:Int),c.1,c.2,ls,c.1,c.2,(ls.take n).map (goneS id))) ?_ ?_ N 0 _ (zaf _) rfl (by omega)
 .rintro go _ rfl
  dsimp only
  rw[zd (zcd _),ze,zq]
  exact Def.ret rfl
 .rintro go n _ hn rfl hgo
  dsimp only
  have hm:=zr hn
  have g:=h.good _ hm
  have hd:=h.dead _ hm
  rw[zb (by omega:(n:Int)<ls.length),zg,idx_at hn,za]
  refine Def.meet (fun g=>g=(id,(ls.take (n+1)).any (hasL id),(n:Int),c.1,c.2,ls,c.1,c.2,(ls.take n).map (goneS id),(goneS id ls[n]).1.1,(goneS id ls[n]).1.2,(goneS id ls[n]).2)) ?_ fun J hJ=>?_
  .rintro _ rfl
   dsimp only
   refine Def.ite (room_of (by rw[zar,zah];simp;omega) (by rw[zar,zah];simp;omega)) (Def.ite (fits_nat (n:=n) (by omega)) (hgo _ ?_))
   rw[zo hn,zaK,cast_succ']
   rfl
  .have ht:=any_take (hasL id) ls n hn
   rw[l12Doc_spec N g,za]
   cases hdo:docOf ls[n].1.1 id with
   |none=>
    have e:hasL id ls[n]=false:=by unfold hasL;rw[hdo];rfl
    show Def (bif !decide ((0:Int)=0)then _ else _) _
    rw[zb rfl,zn,ze]
    refine hJ _ ?_
    rw[ht,e,Bool.or_false]
    unfold goneS
    rw[e]
    rfl
   |some d=>
    have hid:¬d.1=0:=fun e=>by
     have h3:=docOf_some hdo
     have h4:=okDoc_each (okSeg_docs g.ok) d h3.1
     unfold okDoc at h4
     simp only[zj,zw]at h4
     omega
    have hd8:s_l18Dead_m N ls[n].1.1 ls[n].1.2 ls[n].2 id=some (decide (id∈ls[n].2)):=by
     unfold s_l18Dead_m
     rw[l8Has_spec N _ _ (by omega) (by omega),za]
    show Def (bif !decide (d.1=0)then _ else _) _
    rw[zd hid,zaI,zg,hd8,za]
    have e:hasL id ls[n]= !decide (id∈ls[n].2):=by unfold hasL;rw[hdo];rfl
    rw[<-e]
    cases hh:hasL id ls[n]with
    |true=>
     rw[zg]
     refine Def.ite (room_of (by simp;omega) (by simp;omega)) ?_
     rw[zaW,putNum_spec N hM _ _ (by omega),za]
     refine hJ _ ?_
     rw[ht,hh,Bool.or_true]
     unfold goneS
     rw[hh]
     rfl
    |false=>
     rw[ze]
     refine hJ _ ?_
     rw[ht,hh,Bool.or_false]
     unfold goneS
     rw[hh]
     rfl
theorem filter_take {α:Type} (p:α->Bool) (l:List α) (n:Nat) (h:n<l.length):(l.take (n+1)).filter p=bif p l[n]then(l.take n).filter p++ [l[n]]else(l.take n).filter p:=by
 rw[zo h,za6]
 cases e:p l[n]<;>simp[za9,e]
theorem full_spec (N:Nat) (hN:1048576<N) (c:EConf) (ls:List ELive) (hl:ls.length<=1000):s_l18Full_m N c.1 c.2 ls=some (c.1,c.2,ls.filter fun l=>decide (l.2.length<l.1.1.length)):=by
 refine Def.get ?_
 unfold s_l18Full_m
 refine Def.upto ls.length (fun n g=>g=((n:Int),c.1,c.2,ls,c.1,c.2,(ls.take n).filter fun l=>decide (l.2.length<l.1.1.length))) ?_ ?_ N 0 _ (zaf _) rfl (by omega)
 .rintro go _ rfl
  dsimp only
  rw[zd (zcd _),ze,zq]
  exact Def.ret rfl
 .rintro go n _ hn rfl hgo
  dsimp only
  have ht:=filter_take (fun l:ELive=>decide (l.2.length<l.1.1.length)) ls n hn
  have hle:((ls.take n).filter fun l:ELive=>decide (l.2.length<l.1.1.length)).length<=1000:=zau (zbh _ _) (by rw[zah];omega)
  rw[zb (by omega:(n:Int)<ls.length),zg,idx_at hn,za,za]
  refine Def.dif (fun e=>?_) (fun e=>?_)
  .rw [za]
   refine Def.ite (room_of (by simp only[zbE];omega) (by simp only[zbE];omega)) (Def.ite (fits_nat (n:=n) (by omega)) (hgo _ ?_))
   rw[ht,zb (by omega),zg,cast_succ']
  .refine Def.ite (fits_nat (n:=n) (by omega)) (hgo _ ?_)
   rw[ht,zd (by omega),ze,cast_succ']
theorem FitP.of {N:Nat} {x:EIndex} (h:FitI N x) (hk:okIdx x=true):FitP N x.1 x.2:=by
 obtain⟨k1,k2,k3,k4⟩:=okIdx_ok hk
 have hl:∀l,l∈x.2->okLive x.1 l=true:=zax.1 k3
 refine⟨h.big,h.top,k2,fun l hm=>⟨h.big,h.top,h.oc,(h.each l hm).1,(okLive_ok (hl l hm)).1⟩,fun l hm=>?_,fun l hm=>zau (okLive_ok (hl l hm)).2.2.1 (by omega)⟩
 have:=hl l hm
 unfold okLive at this
 rw[zj,zj]at this
 exact(upB_up this.2.1).1
abbrev zeroX :EIndex:=(([],[]),[])
theorem FitI.zero {N:Nat} (hM:Sm<N) (hN:N<=16777216):FitI N zeroX:=
 ⟨hM,hN,⟨⟨zaf _,fun x hx=>by cases hx⟩,⟨zaf _,fun x hx=>by cases hx⟩⟩,zaf _,fun l hl=>by cases hl⟩
theorem goneS_1 (id:Int) (l:ELive):(goneS id l).1=l.1:=by unfold goneS;cases hasL id l<;>rfl
theorem goneS_2 (id:Int) (l:ELive):(goneS id l).2.length<=l.2.length+1/\(upL l.2->upL (goneS id l).2):=by
 unfold goneS
 cases hasL id l with
 |false=>exact⟨Nat.le_succ _,fun h=>h⟩
 |true=>exact⟨putI_len id l.2,putI_up id l.2⟩
def goneN (ds:List EDoc) (l:ELive):ELive:=ds.foldl (fun l d=>goneS d.1 l) l
theorem goneN_1 :∀(ds:List EDoc) (l:ELive),(goneN ds l).1=l.1
 | [],l=>rfl
 |d::ds,l=>(goneN_1 ds (goneS d.1 l)).trans (goneS_1 d.1 l)
theorem goneN_2 :∀(ds:List EDoc) (l:ELive),(goneN ds l).2.length<=l.2.length+ds.length/\(upL l.2->upL (goneN ds l).2)
 | [],l=>⟨zae _,fun h=>h⟩
 |d::ds,l=>by
  obtain⟨h1,h2⟩:=goneN_2 ds (goneS d.1 l)
  obtain⟨h3,h4⟩:=goneS_2 d.1 l
  refine⟨?_,fun h=>h2 (h4 h)⟩
  show(goneN ds (goneS d.1 l)).2.length<=l.2.length+(ds.length+1)
  omega
theorem FitP.goneN {N:Nat} {c:EConf} {ls:List ELive} (h:FitP N c ls) (hd:∀l,l∈ls->l.2.length<=60) (ds:List EDoc) (hds:ds.length<=16):FitP N c (ls.map (goneN ds)):=by
 refine⟨h.big,h.top,by rw[zar];exact h.few,fun l' hl'=>?_,fun l' hl'=>?_,fun l' hl'=>?_⟩<;>obtain⟨l,hl,rfl⟩:=zab.1 hl'
 .rw [goneN_1];exact h.good l hl
 .exact (goneN_2 ds l).2 (h.up l hl)
 .have:=(goneN_2 ds l).1
  have:=hd l hl
  omega
def liveN (l:ELive):Bool:=decide (l.2.length<l.1.1.length)
def addY (docs:List EDoc) (x:EIndex):EIndex:=(x.1,(x.2.map (goneN docs)).filter liveN++ [((docs,entriesS x.1 docs),[])])
def addR (docs:List EDoc) (x:EIndex):EIndex×Bool:=bif okIdx x then(bif okDocs docs&&decide (0<docs.length)then(bif okIdx (addY docs x)then(addY docs x,true)else(x,false))else(x,false))else(zeroX,false)
theorem dead_few {x:EIndex} (hk:okIdx x=true):∀l,l∈x.2->l.2.length<=60:=fun l hl=>(okLive_ok (zax.1 (okIdx_ok hk).2.2.1 l hl)).2.2.1
theorem FitI.addY {N:Nat} {x:EIndex} (h:FitI N x) (hk:okIdx x=true) {docs:List EDoc} (od:∀d,d∈docs->okD Sm TDoc d) (hd:docs.length<=16):FitI N (addY docs x):=by
 obtain⟨k1,k2,k3,k4⟩:=okIdx_ok hk
 refine⟨h.big,h.top,h.oc,?_,fun l' hl'=>?_⟩
 .have h1:=zbh liveN (x.2.map (goneN docs))
  rw[zar]at h1
  show((x.2.map (goneN docs)).filter liveN++ [((docs,entriesS x.1 docs),([]:List Int))]).length<=_
  rw[zam,zbE]
  omega
 .rcases zaB.1 hl' with hl'|hl'
  .obtain ⟨l,hl,rfl⟩:=zab.1 (zaZ.1 hl').1
   have he:=h.each l hl
   have h2:=(goneN_2 docs l).1
   have h3:=dead_few hk l hl
   rw[goneN_1]
   exact⟨he.1,he.2.1,by omega⟩
  .rw [zaD]at hl'
   subst hl'
   exact⟨od,by show docs.length<=_;omega,zaf _⟩
theorem addIndex_s {N:Nat} {x:EIndex} (h:FitI N x) {docs:List EDoc} (od:∀d,d∈docs->okD Sm TDoc d) (hl:docs.length<=1000):s_IndexAdd_m N x.1.1 x.1.2 x.2 docs=some ((addR docs x).1.1.1,(addR docs x).1.1.2,(addR docs x).1.2,(addR docs x).2):=by
 have hM:1048576<N:=h.big
 have hN:=h.top
 unfold s_IndexAdd_m addR
 rw[l18Ok_spec h,za]
 cases hk:okIdx x with
 |false=>rfl
 |true=>
  obtain⟨k1,k2,k3,k4⟩:=okIdx_ok hk
  have hcopy:=copyIndex_spec N x (.of h.big h.oc) (by omega) (fun l hl=>.of (zax.1 k3 l hl))
  rw[zn,ze,zg,l6Docs_spec N h.big (by omega) docs od (by omega),za]
  cases hdo:okDocs docs with
  |false=>
   rw[zaI,zg,hcopy,za]
   rfl
  |true=>
   have hdk:=okDocs_ok hdo
   have hd16:=hdk.few
   rw[zn,ze,zaj]
   by_cases h0:docs.length=0
   .rw [zb (by omega:(docs.length:Int)=0),zg,hcopy,za,zd (by omega)]
    rfl
   .rw [zd (by omega:¬(docs.length:Int)=0),ze,hcopy,za,zb (by omega:0<docs.length),zg]
    dsimp only
    have hp:=FitP.of h hk
    have e0:((docs,(0:Int),x.1.1,x.1.2,x.2,x.1.1,x.1.2,x.2):List EDoc×Int×List (List UInt8)×List ESyn×List ELive×List (List UInt8)×List ESyn×List ELive)=(docs,((0:Nat):Int),x.1.1,x.1.2,x.2,x.1.1,x.1.2,x.2.map (goneN (docs.take 0))):=by
     rw[show goneN (docs.take 0)=id from by funext l;rfl,List.map_id]
     rfl
    refine(congrArg (iter _ N) e0).trans ((iter_scan _ docs.length (fun n=>(docs,(n:Int),x.1.1,x.1.2,x.2,x.1.1,x.1.2,x.2.map (goneN (docs.take n)))) (fun _=>some ((bif okIdx (addY docs x)then(addY docs x,true)else(x,false)).1.1.1,(bif okIdx (addY docs x)then(addY docs x,true)else(x,false)).1.1.2,(bif okIdx (addY docs x)then(addY docs x,true)else(x,false)).1.2,(bif okIdx (addY docs x)then(addY docs x,true)else(x,false)).2)) (fun go=>?_) (fun go n hn hgo=>?_) N 0 (zaf _) (by omega)).trans rfl)
    .dsimp only
     have hY:=h.addY hk od hd16
     have hls:=zbh liveN (x.2.map (goneN docs))
     rw[zar]at hls
     rw[zd (zcd _),ze,zq,full_spec N hM x.1 _ (by rw[zar];omega),za]
     dsimp only
     rw[l7Of_spec N x.1 k1 hdk hM,za,zf (room_of (by show(_+1)*72<=_;unfold liveN at hls;omega) (by show((_+1:Nat):Int)<=_;unfold liveN at hls;omega))]
     have e1:=l18Ok_spec hY
     rw[show(x.2.map (goneN docs)).filter (fun l=>decide (l.2.length<l.1.1.length))++ [((docs,entriesS x.1 docs),([]:List Int))]=(addY docs x).2 from rfl]
     rw[show(addY docs x).1=x.1 from rfl]at e1
     rw[e1,za]
     cases okIdx (addY docs x)with
     |false=>rw[zaI,zg,hcopy,za];rfl
     |true=>rfl
    .dsimp only
     have hpn:=hp.goneN (dead_few hk) (docs.take n) (by rw[zah];omega)
     rw[zb (by omega:(n:Int)<docs.length),zg,idx_at hn,za,gone_spec hpn,za,zf (fits_nat (n:=n) (by omega)),<-hgo,cast_succ',zo hn,zbO]
     have ef:(goneS docs[n].1∘goneN (docs.take n))=goneN (docs.take n++ [docs[n]]):=by
      funext l
      show _=goneN _ l
      unfold goneN
      rw[zaX]
      rfl
     rw[ef]
theorem addR_fit {N:Nat} {x:EIndex} (h:FitI N x) {docs:List EDoc} (od:∀d,d∈docs->okD Sm TDoc d):FitI N (addR docs x).1:=by
 unfold addR
 cases hk:okIdx x with
 |false=>exact FitI.zero h.big h.top
 |true=>
  rw[zg]
  cases hd:okDocs docs&&decide (0<docs.length)with
  |false=>exact h
  |true=>
   rw[zg]
   rw[zj]at hd
   cases okIdx (addY docs x)with
   |false=>exact h
   |true=>exact h.addY hk od (okDocs_ok hd.1).few
def dropX (id:Int) (x:EIndex):EIndex:=(x.1,(x.2.map (goneS id)).filter fun l=>decide (l.2.length<l.1.1.length))
def dropR (id:Int) (x:EIndex):EIndex×Bool:=bif okIdx x then(dropX id x,x.2.any (hasL id))else(zeroX,false)
theorem indexDrop_s {N:Nat} {x:EIndex} (h:FitI N x) (id:Int):s_IndexDrop_m N x.1.1 x.1.2 x.2 id=some ((dropR id x).1.1.1,(dropR id x).1.1.2,(dropR id x).1.2,(dropR id x).2):=by
 unfold s_IndexDrop_m dropR
 rw[l18Ok_spec h,za]
 cases hk:okIdx x with
 |false=>rfl
 |true=>
  obtain⟨k1,k2,k3,k4⟩:=okIdx_ok hk
  have hp:=FitP.of h hk
  rw[zn,ze,copyIndex_spec N x (.of h.big h.oc) (by omega) (fun l hl=>.of (zax.1 k3 l hl)),za]
  dsimp only
  rw[gone_spec hp,za]
  dsimp only
  rw[full_spec N h.big x.1 _ (by rw[zar];omega),za]
  rfl
theorem dropR_fit {N:Nat} {x:EIndex} (h:FitI N x) (id:Int):FitI N (dropR id x).1:=by
 unfold dropR
 cases hk:okIdx x with
 |false=>exact FitI.zero h.big h.top
 |true=>
  obtain⟨k1,k2,k3,k4⟩:=okIdx_ok hk
  refine⟨h.big,h.top,h.oc,?_,fun l' hl'=>?_⟩
  .exact zau (zbh _ _) (by rw[zar];omega)
  .obtain ⟨l,hl,rfl⟩:=zab.1 (zaZ.1 hl').1
   have he:=h.each l hl
   have h2:=(goneS_2 id l).1
   have h3:=dead_few hk l hl
   rw[goneS_1]
   exact⟨he.1,he.2.1,by omega⟩
def midD (k:Nat) (x:EIndex):List EDoc:=sortD (allD ((x.2.take (k+2)).drop k))
def mergeX (k:Nat) (x:EIndex):EIndex:=(x.1,x.2.take k++ [((midD k x,entriesS x.1 (midD k x)),[])]++x.2.drop (k+2))
def mergeR (at':Int) (x:EIndex):EIndex×Bool:=bif okIdx x then(bif decide (0<=at')&&decide (at'<=(x.2.length:Int)-2)then(mergeX at'.toNat x,true)else(x,false))else(zeroX,false)
theorem cut_mid {α:Type} (xs:List α) (a b:Nat) (h1:a<=b) (h2:b<=xs.length):cut xs (a:Int) (b:Int)=some ((xs.take b).drop a):=by
 unfold cut
 rw[zf ⟨by omega,by omega,by omega⟩]
 rfl
theorem indexMerge_s {N:Nat} {x:EIndex} (h:FitI N x) (at':Int):s_IndexMerge_m N x.1.1 x.1.2 x.2 at'=some ((mergeR at' x).1.1.1,(mergeR at' x).1.1.2,(mergeR at' x).1.2,(mergeR at' x).2):=by
 have hM:1048576<N:=h.big
 have hN:=h.top
 unfold s_IndexMerge_m mergeR
 rw[l18Ok_spec h,za]
 cases hk:okIdx x with
 |false=>rfl
 |true=>
  obtain⟨k1,k2,k3,k4⟩:=okIdx_ok hk
  have hcopy:=copyIndex_spec N x (.of h.big h.oc) (by omega) (fun l hl=>.of (zax.1 k3 l hl))
  rw[zn,ze,zg,zf (by unfold fits;omega),l1In_spec,za]
  cases hin:decide (0<=at')&&decide (at'<=(x.2.length:Int)-2)with
  |false=>
   rw[zaI,zg,hcopy,za]
   rfl
  |true=>
   rw[zj,zw,zw]at hin
   obtain⟨k,rfl⟩:∃k:Nat,at'=(k:Int):=⟨at'.toNat,by omega⟩
   have hk2:k+2<=x.2.length:=by omega
   have hsub:((x.2.take (k+2)).drop k).Sublist x.2:=(List.drop_sublist _ _).trans (List.take_sublist _ _)
   have hpc:Pieces ((x.2.take (k+2)).drop k):=pieces_of (c:=x.1) (by rw[zaQ,zah];omega) (zax.2 fun l hl=>zax.1 k3 l (hsub.subset hl))
   have hdo:okDocs (midD k x)=true:=okDocs_sub k4 (allD_sub hsub)
   rw[zn,ze,zf (by unfold fits;omega),show((k:Int)+2)=((k+2:Nat):Int)from by omega,cut_mid x.2 k (k+2) (by omega) hk2,za]
   have hdocs:=docs_spec N hM hN ([],[]) _ hpc
   rw[hdocs,za,hcopy,za]
   dsimp only
   rw[cut_take' x.2 k (by omega),za,zf (room_of (by rw[zah];simp;omega) (by rw[zah];simp;omega)),show sortD (allD ((x.2.take (k+2)).drop k))=midD k x from rfl,l7Of_spec N x.1 k1 (okDocs_ok hdo) hM,za,
    zf (room_of (by rw[zam,zah,zbE];simp;omega) (by rw[zam,zah,zbE];simp;omega)),zf (by unfold fits;omega),cut_drop' x.2 (k+2) hk2,za,
    zf (room_of (by simp only[zam,zah,zbE,zaQ,zac];omega) (by simp only[zam,zah,zbE,zaQ,zac];omega)),zaW]
   rfl
theorem mergeR_fit {N:Nat} {x:EIndex} (h:FitI N x) (at':Int):FitI N (mergeR at' x).1:=by
 unfold mergeR
 cases hk:okIdx x with
 |false=>exact FitI.zero h.big h.top
 |true=>
  rw[zg]
  cases hin:decide (0<=at')&&decide (at'<=(x.2.length:Int)-2)with
  |false=>exact h
  |true=>
   obtain⟨k1,k2,k3,k4⟩:=okIdx_ok hk
   rw[zg]
   generalize at'.toNat=k
   have hsub:((x.2.take (k+2)).drop k).Sublist x.2:=(List.drop_sublist _ _).trans (List.take_sublist _ _)
   have hpc:Pieces ((x.2.take (k+2)).drop k):=pieces_of (c:=x.1) (zau hsub.length_le k2) (zax.2 fun l hl=>zax.1 k3 l (hsub.subset hl))
   refine⟨h.big,h.top,h.oc,?_,fun l' hl'=>?_⟩
   .show (x.2.take k++ [((midD k x,entriesS x.1 (midD k x)),([]:List Int))]++x.2.drop (k+2)).length<=_
    simp only[zam,zah,zbE,zaQ]
    omega
   .rcases zaB.1 hl' with hl'|hl'
    .rcases zaB.1 hl' with hl'|hl'
     .exact h.each l' (zaP hl')
     .rw [zaD]at hl'
      subst hl'
      refine⟨sort_docs fun l hl=>(h.each l (hsub.subset hl)).1,?_,zaf _⟩
      have:=sort_len hpc
      show(midD k x).length<=_
      unfold midD
      omega
    .exact h.each l' (zbP hl')
theorem indexNew_s {N:Nat} (hM:Sm<N) (hN:N<=16777216) (c:EConf) (oc:okD Sm TConf c):Def (s_IndexNew_m N c.1 c.2) fun r=>FitI N (r,[]):=by
 have hM':1048576<N:=hM
 unfold s_IndexNew_m
 rw[l2Ok_spec N hM (by omega) c oc,za]
 cases okConf c with
 |false=>exact Def.ret (FitI.zero hM hN)
 |true=>
  rw[zn,ze,copyConf_spec N c (.of hM' oc),za]
  exact Def.ret ⟨hM,hN,oc,zaf _,fun l hl=>by cases hl⟩
theorem cut_spec {α:Type} (xs:List α) (n:Nat) (h:n<=xs.length):cut xs 0 (n:Int)=some (xs.take n):=by
 unfold cut
 rw[zf (by omega)]
 simp
theorem open_spec (N:Nat) (code:List Int) (hb:Bs code):∃y,s_l30Open_m N code=some (y,0)/\Bs y/\y.length<=2000:=by
 unfold s_l30Open_m
 by_cases h:(2000:Int)<code.length
 .simp only [h,decide_true,zg]
  rw[show(2000:Int)=((2000:Nat):Int)from rfl,cut_spec code 2000 (by omega)]
  exact⟨_,rfl,fun x hx=>hb x (zaP hx),by simp;omega⟩
 .simp only [h,decide_false,ze]
  exact⟨_,rfl,hb,by omega⟩
def Rdr (b:List Int) (k:Int) (j:Nat):Prop:=Bs b/\b.length<=2000/\0<=k/\k<=j
theorem Rdr.le {b:List Int} {k:Int} {j j':Nat} (h:Rdr b k j) (hj:j<=j'):Rdr b k j':=⟨h.1,h.2.1,h.2.2.1,by have:=h.2.2.2;omega⟩
theorem pick_def (N:Nat) (n:Int) {b:List Int} {k:Int} {j:Nat} (h:Rdr b k j) (hj:j<=1000000):Def (s_l30Rd_pick_m N n b k) fun r=>0<=r.1/\(1<=n->r.1<n)/\(n<1->r.1=0)/\Rdr r.2.1 r.2.2 (j+1):=by
 obtain⟨v,h1,h2,h3,h4⟩:=pick_spec N n b k h.1 h.2.2.1 (by have:=h.2.2.2;omega) h.2.1
 exact⟨_,h1,h2,h3,h4,h.1,h.2.1,by have:=h.2.2.1;show(0:Int)<=k+1;omega,by have:=h.2.2.2;show k+1<=((j+1:Nat):Int);omega⟩
theorem of_def (N:Nat) {l:List (List UInt8)} {b:List Int} {k:Int} {j:Nat} (hl:0<l.length) (h:Rdr b k j) (hj:j<=1000000):Def (s_l30Rd_of_m N l b k) fun r=>r.1∈l/\Rdr r.2.1 r.2.2 (j+1):=by
 unfold s_l30Rd_of_m
 refine Def.bind (pick_def N _ h hj) fun r ⟨h0,h1,_,h3⟩=>?_
 exact Def.idx h0 (h1 (by omega)) fun x hx _=>Def.ret ⟨hx,h3⟩
theorem open_def (N:Nat) {code:List Int} (hb:Bs code):Def (s_l30Open_m N code) fun r=>Rdr r.1 r.2 0:=by
 obtain⟨y,h1,h2,h3⟩:=open_spec N code hb
 exact⟨_,h1,h2,h3,zbD _,zbD _⟩
def okC (c:UInt8):Bool:=decide (32<=c.toNat)&&decide (c.toNat<=126)
def okS (n:Nat) (s:List UInt8):Bool:=s.all okC&&decide (s.length<=n)
theorem okS_app {n m:Nat} {s t:List UInt8} (h:okS n s=true) (k:okS m t=true):okS (n+m) (s++t)=true:=by
 unfold okS at*
 simp only[zj,zw,List.all_append,zam]at*
 exact⟨⟨h.1,k.1⟩,by omega⟩
theorem okS_le {n m:Nat} {s:List UInt8} (h:okS n s=true) (hm:n<=m):okS m s=true:=by
 unfold okS at*
 simp only[zj,zw]at*
 exact⟨h.1,by omega⟩
theorem okS_len {n:Nat} {s:List UInt8} (h:okS n s=true):s.length<=n:=by
 unfold okS at h
 simp only[zj,zw]at h
 exact h.2
theorem raw_def (N:Nat) {b:List Int} {k:Int} {j:Nat} (h:Rdr b k j) (hj:j<=100000):Def (s_l30Raw_m N b k) fun r=>okS 17 r.1=true/\Rdr r.2.1 r.2.2 (j+1):=by
 unfold s_l30Raw_m
 refine Def.bind (of_def N (by decide) h (by omega)) fun r ⟨m1,h1⟩=>Def.ret ⟨?_,h1⟩
 exact(by decide:∀w,w∈([([99,97,116]:List UInt8),([67,97,116,115]:List UInt8),([100,111,103]:List UInt8),([100,111,103,115]:List UInt8),([114,117,110]:List UInt8),([82,85,78,78,73,78,71]:List UInt8),([116,104,101]:List UInt8),([114,101,100]:List UInt8),([98,105,103]:List UInt8),([110,101,119,32,121,111,114,107]:List UInt8),([78,101,119,32,32,89,111,114,107]:List UInt8),([110,121]:List UInt8),([102,111,120]:List UInt8),([112,97,115,115,101,100]:List UInt8),([120,49]:List UInt8),([97,118,101,114,121,118,101,114,121,108,111,110,103,119,111,114,100]:List UInt8)]:List (List UInt8))->okS 17 w=true) _ m1
theorem text_def (N:Nat) {b:List Int} {k:Int} {j:Nat} (h:Rdr b k j) (hj:j<=30000) (hN:20<=N):Def (s_l30Text_m N b k) fun r=>okS 160 r.1=true/\Rdr r.2.1 r.2.2 (j+30):=by
 unfold s_l30Text_m
 refine Def.bind (pick_def N 9 h (by omega)) fun r ⟨p0,p1,_,h1⟩=>?_
 have p1:=p1 (by omega)
 refine Def.iter (fun g=>∃s:List UInt8,∃n:Nat,∃x y,n<=8/\okS (19*(8-n)) s=true/\Rdr x y (j+1+2*(8-n))/\g=(s,(n:Int),x,y)) (fun g=>g.2.1.toNat) ?_ N _ ⟨[],r.1.toNat,_,_,by omega,by unfold okS;simp,h1.le (by omega),by rw[zbU p0]⟩ (by show r.1.toNat<N;omega)
 rintro go _ ⟨s,n,x,y,hn,hs,hr,rfl⟩ hgo
 dsimp only
 have hsl:=okS_len hs
 refine Def.dif (fun e=>?_) (fun e=>Def.ret ⟨okS_le hs (by omega),hr.le (by omega)⟩)
 refine Def.bind (raw_def N hr (by omega)) fun r2 ⟨l2,h2⟩=>?_
 have hl2:=okS_len l2
 refine Def.ite (by omega) ?_
 refine Def.bind (of_def N (by decide) h2 (by omega)) fun r3 ⟨m3,h3⟩=>?_
 have l3:okS 2 r3.1=true:=(by decide:∀w,w∈([([32]:List UInt8),([32]:List UInt8),([44,32]:List UInt8),([45]:List UInt8),([46,32]:List UInt8)]:List (List UInt8))->okS 2 w=true) _ m3
 have hl3:=okS_len l3
 refine Def.ite (by rw[zam];omega) (Def.ite (by unfold fits;omega) (hgo _ ⟨(s++r2.1)++r3.1,n-1,_,_,by omega,okS_le (okS_app (okS_app hs l2) l3) (by omega),h3.le (by omega),?_⟩ ?_))
 .rw [show((n:Int)-1)=((n-1:Nat):Int)from by omega]
 .show ((n:Int)-1).toNat<(n:Int).toNat
  omega
structure SmallDoc (fs:List EField) (ats:List EAttr) (n:Nat):Prop where
 fl:fs.length<=n
 al:ats.length<=n
 f:∀x,x∈fs->x.1.length<=1000/\x.2.length<=1000
 a:∀x,x∈ats->x.1.length<=4/\ -1<=x.2/\x.2<=1000000000
theorem SmallDoc.ok {fs:List EField} {ats:List EAttr} {n:Nat} (h:SmallDoc fs ats n) (hn:n<=1000) {id:Int} (h0:0<=id/\id<=1000000):okD Sm TDoc (id,fs,ats):=by
 have e1:IntKind.i64.min=-9223372036854775808:=by decide
 have e2:IntKind.i64.max=9223372036854775807:=by decide
 have hfl:=h.fl;have hal:=h.al
 refine⟨⟨by rw[e1];show _<=id;omega,by rw[e2];show id<=_;omega⟩,⟨by show fs.length<=1048576;omega,fun x hx=>?_⟩,⟨by show ats.length<=1048576;omega,fun x hx=>?_⟩⟩
 .have:=h.f x hx
  exact⟨by show x.1.length<=1048576;omega,by show x.2.length<=1048576;omega⟩
 .have:=h.a x hx
  exact⟨by show x.1.length<=1048576;omega,by rw[e1];exact Int.le_trans (by decide) this.2.1,by rw[e2];exact Int.le_trans this.2.2 (by decide)⟩
theorem SmallDoc.addF {fs:List EField} {ats:List EAttr} {n:Nat} (h:SmallDoc fs ats n) {x:EField} (h1:x.1.length<=1000) (h2:x.2.length<=1000):SmallDoc (fs++ [x]) ats (n+1):=by
 have hfl:=h.fl;have hal:=h.al
 refine⟨by simp only[zam,zi,zac];omega,by omega,fun y hy=>?_,h.a⟩
 rcases zaB.1 hy with hy|hy
 .exact h.f y hy
 .rw [zaD.1 hy];exact⟨h1,h2⟩
theorem SmallDoc.addA {fs:List EField} {ats:List EAttr} {n:Nat} (h:SmallDoc fs ats n) {x:EAttr} (h1:x.1.length<=4) (h2: -1<=x.2) (h3:x.2<=1000000000):SmallDoc fs (ats++ [x]) (n+1):=by
 have hfl:=h.fl;have hal:=h.al
 refine⟨by omega,by simp only[zam,zi,zac];omega,h.f,fun y hy=>?_⟩
 rcases zaB.1 hy with hy|hy
 .exact h.a y hy
 .rw [zaD.1 hy];exact⟨h1,h2,h3⟩
theorem SmallDoc.le {fs:List EField} {ats:List EAttr} {n m:Nat} (h:SmallDoc fs ats n) (hm:n<=m):SmallDoc fs ats m:=⟨zau h.fl hm,zau h.al hm,h.f,h.a⟩
theorem SmallDoc.nil :SmallDoc [] [] 0:=⟨zae _,zae _,(fun x hx=>by cases hx),(fun x hx=>by cases hx)⟩
theorem SmallDoc.room {n:Nat} {b:Nat} (hn:n<=1000) (hb:b<=1000):room n 1 b:=by
 have:(n+1)*b<=1001*1000:=Nat.mul_le_mul (by omega) hb
 exact room_of (by omega) (by omega)
abbrev nBody :List UInt8:=[98,111,100,121]
abbrev nTitle :List UInt8:=[116,105,116,108,101]
structure FG (fs:List EField) (ns:List (List UInt8)):Prop where
 names:(fs.map (·.1)).Sublist ns
 texts:∀x,x∈fs->okS 160 x.2=true
theorem FG.add {fs:List EField} {ns:List (List UInt8)} (h:FG fs ns) (n t:List UInt8) (ht:okS 160 t=true):FG (fs++ [(n,t)]) (ns++ [n]):=by
 refine⟨?_,fun x hx=>?_⟩
 .rw [zaK]
  exact List.Sublist.append h.names (List.Sublist.refl _)
 .rcases zaB.1 hx with hx|hx
  .exact h.texts x hx
  .rw [zaD]at hx;subst hx;exact ht
theorem FG.skip {fs:List EField} {ns:List (List UInt8)} (h:FG fs ns) (n:List UInt8):FG fs (ns++ [n]):=⟨h.names.trans (List.sublist_append_left _ _),h.texts⟩
theorem doc_def (N:Nat) (id:Int) {b:List Int} {k:Int} {j:Nat} (h:Rdr b k j) (hj:j<=20000) (hN:20<=N):Def (s_l30Doc_m N id b k) fun r=>r.1=id/\(SmallDoc r.2.1 r.2.2.1 4/\FG r.2.1 [nBody,nTitle]/\r.2.2.1.length<=2)/\Rdr r.2.2.2.1 r.2.2.2.2 (j+100):=by
 unfold s_l30Doc_m
 refine Def.meet (fun g=>∃fs x y,SmallDoc fs [] 1/\FG fs [nBody]/\Rdr x y (j+31)/\g=(0,id,fs,x,y)) ?_ fun J hJ=>?_
 .rintro _ ⟨fs,x,y,hs,hg,hr,rfl⟩
  dsimp only
  refine Def.meet (fun g=>∃fs x y,SmallDoc fs [] 2/\FG fs [nBody,nTitle]/\Rdr x y (j+65)/\g=(0,id,fs,x,y)) ?_ fun J hJ=>?_
  .rintro _ ⟨fs,x,y,hs,hg,hr,rfl⟩
   dsimp only
   refine Def.meet (fun g=>∃fs ats x y,SmallDoc fs ats 3/\(FG fs [nBody,nTitle]/\ats.length<=1)/\Rdr x y (j+70)/\g=(0,id,fs,ats,x,y)) ?_ fun J hJ=>?_
   .rintro _ ⟨fs,ats,x,y,hs,⟨hg,ha⟩,hr,rfl⟩
    dsimp only
    refine Def.bind (pick_def N 3 hr (by omega)) fun r7 ⟨_,_,_,h7⟩=>?_
    refine Def.dif (fun _=>?_) (fun _=>Def.ret ⟨rfl,⟨hs.le (by omega),hg,by dsimp only;omega⟩,h7.le (by omega)⟩)
    refine Def.bind (pick_def N 30 h7 (by omega)) fun r8 ⟨q0,q1,_,h8⟩=>?_
    have q1:=q1 (by omega)
    have hal:=hs.al
    exact Def.ite (by unfold fits;omega) (Def.ite (SmallDoc.room (by omega) (by omega)) (Def.ret ⟨rfl,⟨hs.addA (by simp) (by dsimp only;omega) (by dsimp only;omega),hg,by simp only[zam,zi,zac];omega⟩,h8.le (by omega)⟩))
   .refine Def.bind (pick_def N 3 hr (by omega)) fun r5 ⟨_,_,_,h5⟩=>?_
    refine Def.dif (fun _=>?_) (fun _=>hJ _ ⟨_,_,_,_,hs.le (by omega),⟨hg,by simp⟩,h5.le (by omega),rfl⟩)
    refine Def.bind (pick_def N 4 h5 (by omega)) fun r6 ⟨q0,q1,_,h6⟩=>?_
    have q1:=q1 (by omega)
    exact Def.ite (SmallDoc.room (by simp) (by omega)) (hJ _ ⟨_,_,_,_,hs.addA (x:=(([114,97,116,101]:List UInt8),r6.1)) (by simp) (by dsimp only;omega) (by dsimp only;omega),⟨hg,by simp⟩,h6.le (by omega),rfl⟩)
  .refine Def.bind (pick_def N 3 hr (by omega)) fun r3 ⟨_,_,_,h3⟩=>?_
   refine Def.dif (fun _=>?_) (fun _=>hJ _ ⟨_,_,_,hs.le (by omega),hg.skip nTitle,h3.le (by omega),rfl⟩)
   refine Def.bind (text_def N h3 (by omega) hN) fun r4 ⟨l4,h4⟩=>?_
   have hfl:=hs.fl
   have hl4:=okS_len l4
   exact Def.ite (SmallDoc.room (by omega) (by omega)) (hJ _ ⟨_,_,_,hs.addF (x:=(([116,105,116,108,101]:List UInt8),r4.1)) (by simp) (by dsimp only;omega),hg.add nTitle _ l4,h4.le (by omega),rfl⟩)
 .refine Def.bind (pick_def N 6 h (by omega)) fun r ⟨_,_,_,h1⟩=>?_
  have g0:FG [] []:=⟨List.Sublist.refl _,fun x hx=>by cases hx⟩
  refine Def.dif (fun _=>?_) (fun _=>hJ _ ⟨_,_,_,SmallDoc.nil.le (by omega),g0.skip nBody,h1.le (by omega),rfl⟩)
  refine Def.bind (text_def N h1 (by omega) hN) fun r2 ⟨l2,h2⟩=>?_
  have hl2:=okS_len l2
  exact Def.ite (SmallDoc.room (by simp) (by omega)) (hJ _ ⟨_,_,_,SmallDoc.nil.addF (x:=(([98,111,100,121]:List UInt8),r2.1)) (by simp) (by dsimp only;omega),g0.add nBody _ l2,h2.le (by omega),rfl⟩)
structure DrawnDocs (docs:List EDoc) (m:Int):Prop where
 few:docs.length<=6
 ids:docs.Pairwise fun a b=>a.1<b.1
 top:∀d,d∈docs->1<=d.1/\d.1<=m
 each:∀d,d∈docs->okD Sm TDoc d/\FG d.2.1 [nBody,nTitle]/\d.2.2.length<=2
theorem docs_def (N:Nat) {b:List Int} {k:Int} {j:Nat} (h:Rdr b k j) (hj:j<=19000) (hN:20<=N):Def (s_l30Docs_m N b k) fun r=>DrawnDocs r.1 100/\Rdr r.2.1 r.2.2 (j+700):=by
 unfold s_l30Docs_m
 refine Def.bind (pick_def N 6 h (by omega)) fun r ⟨p0,p1,_,h1⟩=>?_
 have p1:=p1 (by omega)
 refine Def.iter (fun g=>∃out:List EDoc,∃id:Int,∃n:Nat,∃x y,n<=6/\out.length+n<=6/\(0<=id/\id<=4*(6-n))/\DrawnDocs out id/\Rdr x y (j+1+110*(6-n))/\g=(out,id,(n:Int),x,y)) (fun g=>g.2.2.1.toNat) ?_ N _ ⟨[],0,r.1.toNat,_,_,by omega,by simp;omega,by omega,⟨by simp,za4,(fun z hz=>by cases hz),(fun z hz=>by cases hz)⟩,h1.le (by omega),by rw[zbU p0]⟩ (by show r.1.toNat<N;omega)
 rintro go _ ⟨out,id,n,x,y,hn,hl,hid,ho,hr,rfl⟩ hgo
 dsimp only
 refine Def.dif (fun e=>?_) (fun e=>Def.ret ⟨⟨ho.few,ho.ids,fun d hd=>⟨(ho.top d hd).1,by have:=(ho.top d hd).2;omega⟩,ho.each⟩,hr.le (by omega)⟩)
 refine Def.ite (by unfold fits;omega) ?_
 refine Def.bind (pick_def N 3 hr (by omega)) fun r2 ⟨q0,q1,_,h2⟩=>?_
 have q1:=q1 (by omega)
 refine Def.ite (by unfold fits;omega) ?_
 refine Def.bind (doc_def N _ h2 (by omega) hN) fun r3 ⟨e3,s3,h3⟩=>?_
 refine Def.ite (room_of (by simp;omega) (by simp;omega)) (Def.ite (by unfold fits;omega) (hgo _ ⟨out++ [(r3.1,r3.2.1,r3.2.2.1)],id+1+r2.1,n-1,_,_,by omega,?_,by omega,⟨?_,?_,fun z hz=>?_,fun z hz=>?_⟩,h3.le (by omega),?_⟩ ?_))
 .simp only [zam,zi,zac];omega
 .simp only [zam,zi,zac];omega
 .refine List.pairwise_append.2 ⟨ho.ids,by simp,fun a ha b hb=>?_⟩
  rw[zaD]at hb
  subst hb
  have:=(ho.top a ha).2
  show a.1<r3.1
  omega
 .rcases zaB.1 hz with hz|hz
  .have:=ho.top z hz;omega
  .rw [zaD]at hz;subst hz;dsimp only;omega
 .rcases zaB.1 hz with hz|hz
  .exact ho.each z hz
  .rw [zaD.1 hz];exact⟨s3.1.ok (by omega) (by rw[e3];omega),s3.2.1,s3.2.2⟩
 .rw [show((n:Int)-1)=((n-1:Nat):Int)from by omega]
 .show ((n:Int)-1).toNat<(n:Int).toNat
  omega
def okSynW' (st:List (List UInt8)) (w:List UInt8):Bool:=okW w&&(decide (once w=none)&& !decide (w∈st))
def okSyn' (st:List (List UInt8)) (y:ESyn):Bool:=(decide ((1:Int)<=y.1.length)&&decide ((y.1.length:Int)<=3))&&(okW y.2&&(decide (once y.2=none)&&y.1.all (okSynW' st)))
def okConf' (c:EConf):Bool:=decide ((c.1.length:Int)<=6)&&(allN c.1.length (okUp c.1)&&(decide ((c.2.length:Int)<=4)&&c.2.all (okSyn' c.1)))
theorem okConf_of (c:EConf) (h:okConf' c=true):okConf c=true:=by
 unfold okConf' at h
 unfold okConf
 simp only[zj,zw,zax]at h⊢
 refine⟨h.1,h.2.1,h.2.2.1,fun y hy=>?_⟩
 have h1:=h.2.2.2 y hy
 unfold okSyn' at h1
 unfold okSyn
 simp only[zj,zw,zax]at h1⊢
 refine⟨h1.1,h1.2.1,stemF_none h1.2.2.1,fun w hw=>?_⟩
 have h2:=h1.2.2.2 w hw
 unfold okSynW' at h2
 unfold okSynW
 simp only[zj,zw]at h2⊢
 exact⟨h2.1,stemF_none h2.2.1,h2.2.2⟩
def fewC (c:EConf):Bool:=decide (c.1.length<=10)&&c.1.all (fun w=>decide (w.length<=20))&&decide (c.2.length<=10)&&c.2.all (fun y=>decide (y.1.length<=10)&&y.1.all (fun w=>decide (w.length<=20))&&decide (y.2.length<=20))
theorem fewC_ok (c:EConf) (h:fewC c=true):okD Sm TConf c:=by
 unfold fewC at h
 simp only[zj,zw,zax]at h
 obtain⟨⟨⟨h1,h2⟩,h3⟩,h4⟩:=h
 refine⟨⟨by show c.1.length<=1048576;omega,fun x hx=>by have:=h2 x hx;show x.length<=1048576;omega⟩,⟨by show c.2.length<=1048576;omega,fun y hy=>?_⟩⟩
 have h5:=h4 y hy
 exact⟨⟨by show y.1.length<=1048576;omega,fun x hx=>by have:=h5.1.2 x hx;show x.length<=1048576;omega⟩,by show y.2.length<=1048576;omega⟩
def stops3 :List (List (List UInt8)):=[[],[[116,104,101]],[[100,111,103],[116,104,101]]]
def syns3 :List (List ESyn):=[[],[([[110,101,119],[121,111,114,107]],[110,121])],[([[98,105,103]],[108,97,114,103]),([[98,105,103],[114,101,100],[102,111,120]],[102,111,120]),([[110,101,119],[121,111,114,107]],[110,121])]]
theorem confs_ok :∀s,s∈stops3->∀y,y∈syns3->okConf' (s,y)=true/\fewC (s,y)=true:=by decide+kernel
theorem conf_def (N:Nat) {b:List Int} {k:Int} {j:Nat} (h:Rdr b k j) (hj:j<=10000):Def (s_l30Conf_m N b k) fun r=>(okConf (r.1,r.2.1)=true/\okD Sm TConf (r.1,r.2.1))/\Rdr r.2.2.1 r.2.2.2 (j+3):=by
 have fin:∀s y,s∈stops3->y∈syns3->okConf (s,y)=true/\okD Sm TConf (s,y):=fun s y hs hy=>⟨okConf_of _ (confs_ok s hs y hy).1,fewC_ok _ (confs_ok s hs y hy).2⟩
 unfold s_l30Conf_m
 refine Def.meet (fun g=>∃c x y,c∈stops3/\Rdr x y (j+1)/\g=(c,x,y)) ?_ fun J hJ=>?_
 .rintro _ ⟨c,x,y,hc,hr,rfl⟩
  dsimp only
  refine Def.meet (fun g=>∃c x y,c∈stops3/\Rdr x y (j+2)/\g=(c,x,y)) ?_ fun J hJ=>?_
  .rintro _ ⟨c,x,y,hc,hr,rfl⟩
   dsimp only
   refine Def.bind (pick_def N 4 hr (by omega)) fun r3 ⟨_,_,_,h3⟩=>?_
   refine Def.dif (fun _=>Def.ret ⟨fin _ _ hc (by simp[syns3]),h3⟩) (fun _=>?_)
   exact Def.dif (fun _=>Def.ret ⟨fin _ _ hc (by simp[syns3]),h3⟩) (fun _=>Def.ret ⟨fin _ _ hc (by simp[syns3]),h3⟩)
  .refine Def.bind (pick_def N 4 hr (by omega)) fun r2 ⟨_,_,_,h2⟩=>?_
   exact Def.dif (fun _=>hJ _ ⟨_,_,_,by decide,h2,rfl⟩) (fun _=>hJ _ ⟨_,_,_,hc,h2,rfl⟩)
 .refine Def.bind (pick_def N 3 h (by omega)) fun r ⟨_,_,_,h1⟩=>?_
  exact Def.dif (fun _=>hJ _ ⟨_,_,_,by decide,h1,rfl⟩) (fun _=>hJ _ ⟨_,_,_,by decide,h1,rfl⟩)
structure Drawn (c:EConf) (s:ESeg):Prop where
 conf:okD Sm TConf c
 docs:∀x,x∈s.1->okD Sm TDoc x
 few:s.1.length<=1048576
theorem one_def (N:Nat) {l:List Int} {b:List Int} {k:Int} {j:Nat} (hl:0<l.length) (h:Rdr b k j) (hj:j<=1000000):Def (s_l30Rd_one_m N l b k) fun r=>r.1∈l/\Rdr r.2.1 r.2.2 (j+1):=by
 unfold s_l30Rd_one_m
 refine Def.bind (pick_def N _ h hj) fun r ⟨h0,h1,_,h3⟩=>?_
 exact Def.idx h0 (h1 (by omega)) fun x hx _=>Def.ret ⟨hx,h3⟩
structure NumL (l:ELive):Prop where
 ok:okDocs l.1.1=true
 num:∀n,n∈l.2-> -9223372036854775808<=n/\n<=9223372036854775807
theorem NumL.of {c:EConf} {l:ELive} (h:okLive c l=true):NumL l:=⟨okSeg_docs (okLive_ok h).1,fun n hn=>by
 unfold okLive at h
 simp only[zj]at h
 have:=(upB_up h.2.1).2.2 n hn
 omega⟩
structure FitX (N:Nat) (x:EIndex):Prop where
 fit:FitI N x
 few:x.2.length<=6
 each:∀l,l∈x.2->FitL l
 nums:∀l,l∈x.2->NumL l
theorem FitX.zero {N:Nat} (hM:Sm<N) (hN:N<=16777216):FitX N zeroX:=
 ⟨FitI.zero hM hN,zaf _,(fun l hl=>by cases hl),(fun l hl=>by cases hl)⟩
theorem FitX.of {N:Nat} {x:EIndex} (h:FitI N x) (hk:okIdx x=true):FitX N x:=by
 obtain⟨k1,k2,k3,k4⟩:=okIdx_ok hk
 exact⟨h,by omega,fun l hl=>.of (zax.1 k3 l hl),fun l hl=>.of (zax.1 k3 l hl)⟩
theorem dropR_fitx {N:Nat} {x:EIndex} (h:FitI N x) (id:Int) (hid: -9223372036854775808<=id/\id<=9223372036854775807):FitX N (dropR id x).1:=by
 have hf:=dropR_fit h id
 unfold dropR at hf⊢
 cases hk:okIdx x with
 |false=>exact FitX.zero h.big h.top
 |true=>
  rw[hk]at hf
  obtain⟨k1,k2,k3,k4⟩:=okIdx_ok hk
  rw[zg]at hf⊢
  have hlen:=zbh (fun l:ELive=>decide (l.2.length<l.1.1.length)) (x.2.map (goneS id))
  rw[zar]at hlen
  refine⟨hf,zau hlen (by omega),fun l' hl'=>?_,fun l' hl'=>?_⟩
  rotate_left
  .obtain ⟨l,hl,rfl⟩:=zab.1 (zaZ.1 hl').1
   have hn:=NumL.of (zax.1 k3 l hl)
   unfold goneS
   cases hasL id l with
   |false=>exact hn
   |true=>
    refine⟨hn.ok,fun n hm=>?_⟩
    rw[zg]at hm
    rcases(putI_mem id n l.2).1 hm with rfl|hm
    .exact hid
    .exact hn.num n hm
  obtain⟨l,hl,rfl⟩:=zab.1 (zaZ.1 hl').1
  have he:=FitL.of (zax.1 k3 l hl)
  have h2:=(goneS_2 id l).1
  have h3:=dead_few hk l hl
  exact⟨by rw[goneS_1];exact he.dok,by rw[goneS_1];exact he.small,by omega⟩
theorem addR_fitx {N:Nat} {x:EIndex} (h:FitI N x) {docs:List EDoc} (od:∀d,d∈docs->okD Sm TDoc d):FitX N (addR docs x).1:=by
 have hf:=addR_fit h od
 unfold addR at hf⊢
 cases hk:okIdx x with
 |false=>exact FitX.zero h.big h.top
 |true=>
  rw[hk]at hf
  rw[zg]at hf⊢
  cases hd:okDocs docs&&decide (0<docs.length)with
  |false=>exact FitX.of h hk
  |true=>
   rw[hd]at hf
   rw[zg]at hf⊢
   cases hy:okIdx (addY docs x)with
   |false=>exact FitX.of h hk
   |true=>
    rw[hy]at hf
    exact FitX.of hf hy
theorem mergeR_fitx {N:Nat} {x:EIndex} (h:FitI N x) (at':Int):FitX N (mergeR at' x).1:=by
 have hf:=mergeR_fit h at'
 unfold mergeR at hf⊢
 cases hk:okIdx x with
 |false=>exact FitX.zero h.big h.top
 |true=>
  rw[hk]at hf
  rw[zg]at hf⊢
  cases hin:decide (0<=at')&&decide (at'<=(x.2.length:Int)-2)with
  |false=>exact FitX.of h hk
  |true=>
   rw[hin]at hf
   rw[zg]at hf⊢
   obtain⟨k1,k2,k3,k4⟩:=okIdx_ok hk
   generalize at'.toNat=k at*
   have hsub:((x.2.take (k+2)).drop k).Sublist x.2:=(List.drop_sublist _ _).trans (List.take_sublist _ _)
   have hdo:okDocs (midD k x)=true:=okDocs_sub k4 (allD_sub hsub)
   refine⟨hf,?_,fun l' hl'=>?_,fun l' hl'=>?_⟩
   rotate_right
   .rcases zaB.1 hl' with hl'|hl'
    .rcases zaB.1 hl' with hl'|hl'
     .exact NumL.of (zax.1 k3 _ (zaP hl'))
     .rw [zaD]at hl'
      subst hl'
      exact⟨hdo,fun n h=>by cases h⟩
    .exact NumL.of (zax.1 k3 _ (zbP hl'))
   .show (x.2.take k++ [((midD k x,entriesS x.1 (midD k x)),([]:List Int))]++x.2.drop (k+2)).length<=_
    simp only[zam,zah,zbE,zaQ]
    omega
   .rcases zaB.1 hl' with hl'|hl'
    .rcases zaB.1 hl' with hl'|hl'
     .exact FitL.of (zax.1 k3 _ (zaP hl'))
     .rw [zaD]at hl'
      subst hl'
      exact⟨okDocs_ok hdo,entries_small x.1 (okDocs_ok hdo),zaf _⟩
    .exact FitL.of (zax.1 k3 _ (zbP hl'))
theorem indexNew_x {N:Nat} (hM:Sm<N) (hN:N<=16777216) (c:EConf) (oc:okD Sm TConf c):Def (s_IndexNew_m N c.1 c.2) fun r=>FitX N (r,[]):=
 (indexNew_s hM hN c oc).mono fun r h=>⟨h,zaf _,(fun l hl=>by cases hl),(fun l hl=>by cases hl)⟩
theorem drawIndex_def (N:Nat) (hM:Sm<N) (hN:N<=16777216) {b:List Int} {k:Int} {j:Nat} (h:Rdr b k j) (hj:j<=10):Def (s_l30Index_m N b k) fun r=>FitX N ((r.1,r.2.1),r.2.2.1)/\Rdr r.2.2.2.1 r.2.2.2.2 7000:=by
 have hM':1048576<N:=hM
 unfold s_l30Index_m
 refine Def.bind (conf_def N h (by omega)) fun r ⟨⟨_,oc⟩,h1⟩=>?_
 refine Def.bind (indexNew_x hM hN (r.1,r.2.1) oc) fun r2 F2=>?_
 refine Def.bind (pick_def N 7 h1 (by omega)) fun r3 ⟨p0,p1,_,h3⟩=>?_
 have p1:=p1 (by omega)
 refine Def.iter (fun g=>∃(n:Nat) (x:EIndex) (y:List Int) (z:Int),n<=6/\FitX N x/\Rdr y z (j+10+900*(6-n))/\g=((n:Int),x.1.1,x.1.2,x.2,y,z)) (fun g=>g.1.toNat) ?_ N _ ⟨r3.1.toNat,((r2.1,r2.2),[]),_,_,by omega,F2,h3.le (by omega),by rw[zbU p0]⟩ (by show r3.1.toNat<N;omega)
 rintro go _ ⟨n,x,y,z,hn,F,hr,rfl⟩ hgo
 dsimp only
 refine Def.dif (fun e=>?_) (fun e=>Def.ret ⟨F,hr.le (by omega)⟩)
 refine Def.bind (pick_def N 5 hr (by omega)) fun r4 ⟨q0,q1,_,h4⟩=>?_
 have hdec:((n:Int)-1)=((n-1:Nat):Int):=by omega
 refine Def.dif (fun _=>?_) (fun _=>Def.dif (fun _=>?_) (fun _=>?_))
 .refine Def.bind (pick_def N 8 h4 (by omega)) fun r5 ⟨s0,s1,_,h5⟩=>?_
  have s1:=s1 (by omega)
  refine Def.ite (by unfold fits;omega) ?_
  rw[indexDrop_s F.fit,za]
  refine Def.ite (by unfold fits;omega) (hgo _ ⟨n-1,(dropR (1+r5.1) x).1,_,_,by omega,dropR_fitx F.fit _ (by omega),h5.le (by omega),by dsimp only;rw[hdec]⟩ (by show((n:Int)-1).toNat<(n:Int).toNat;omega))
 .refine Def.bind (pick_def N 3 h4 (by omega)) fun r7 ⟨s0,s1,_,h7⟩=>?_
  rw[indexMerge_s F.fit,za]
  refine Def.ite (by unfold fits;omega) (hgo _ ⟨n-1,(mergeR r7.1 x).1,_,_,by omega,mergeR_fitx F.fit _,h7.le (by omega),by dsimp only;rw[hdec]⟩ (by show((n:Int)-1).toNat<(n:Int).toNat;omega))
 .refine Def.bind (docs_def N h4 (by omega) (by omega)) fun r9 ⟨dd,h9⟩=>?_
  have od:∀d,d∈r9.1->okD Sm TDoc d:=fun d hd=>(dd.each d hd).1
  rw[addIndex_s F.fit od (by have:=dd.few;omega),za]
  refine Def.ite (by unfold fits;omega) (hgo _ ⟨n-1,(addR r9.1 x).1,_,_,by omega,addR_fitx F.fit od,h9.le (by omega),by dsimp only;rw[hdec]⟩ (by show((n:Int)-1).toNat<(n:Int).toNat;omega))
theorem set_mem {α:Type} {l:List α} {n:Nat} {a x:α} (h:x∈l.set n a):x=a\/x∈l:=by
 rcases List.mem_or_eq_of_mem_set h with h|h
 .exact .inr h
 .exact .inl h
theorem foInts_same (N:Nat) (hN:1048576<N) (l:List Int) (hl:l.length<=1048576):l_foInts_m N l l=some true:=by
 unfold l_foInts_m
 rw[zb rfl,zn,ze]
 refine(iter_scan _ l.length (fun n=>(l,l,(n:Int))) (fun _=>some true) (fun go=>?_) (fun go n hn hgo=>?_) N 0 (zaf _) (by omega)).trans rfl
 .dsimp only
  rw[zd (zcd _),ze]
 .dsimp only
  rw[zb (by omega:(n:Int)<l.length),zg,idx_at hn,za,za,zb rfl,zn,ze,zf (fits_nat (n:=n) (by omega)),<-hgo,cast_succ']
theorem foPosts_same (N:Nat) (hN:1048576<N) (l:List EPost) (hl:l.length<=1048576) (he:∀p,p∈l->p.2.length<=1048576):l_foPosts_m N l l=some true:=by
 unfold l_foPosts_m
 rw[zb rfl,zn,ze]
 refine(iter_scan _ l.length (fun n=>(l,l,(n:Int))) (fun _=>some true) (fun go=>?_) (fun go n hn hgo=>?_) N 0 (zaf _) (by omega)).trans rfl
 .dsimp only
  rw[zd (zcd _),ze]
 .dsimp only
  rw[zb (by omega:(n:Int)<l.length),zg,idx_at hn,za,za,zb rfl,zn,ze,za,za,foInts_same N hN _ (he _ (zr hn)),za,zn,ze,zf (fits_nat (n:=n) (by omega)),<-hgo,cast_succ']
theorem foDoc_same (N:Nat) (hN:1048576<N) (d:EDoc) (h:okD Sm TDoc d):l_foDoc_m N d.1 d.2.1 d.2.2 d.1 d.2.1 d.2.2=some true:=by
 have h1:d.2.1.length<=1048576:=h.2.1.1
 have h2:d.2.2.length<=1048576:=h.2.2.1
 unfold l_foDoc_m
 rw[zb rfl,zn,ze,zb rfl,zn,ze,zb rfl,zn,ze]
 refine(iter_scan _ d.2.1.length (fun n=>((n:Int),d.1,d.2.1,d.2.2,d.1,d.2.1,d.2.2)) (fun _=>some true) (fun go=>?_) (fun go n hn hgo=>?_) N 0 (zaf _) (by omega)).trans rfl
 .dsimp only
  rw[zd (zcd _),ze]
  refine(iter_scan _ d.2.2.length (fun n=>((n:Int),d.1,d.2.1,d.2.2,d.1,d.2.1,d.2.2)) (fun _=>some true) (fun go=>?_) (fun go n hn hgo=>?_) N 0 (zaf _) (by omega)).trans rfl
  .dsimp only
   rw[zd (zcd _),ze]
  .dsimp only
   rw[zb (by omega:(n:Int)<d.2.2.length),zg,idx_at hn,za,za,zb rfl,zb rfl,zb5,zn,ze,zf (fits_nat (n:=n) (by omega)),<-hgo,cast_succ']
 .dsimp only
  rw[zb (by omega:(n:Int)<d.2.1.length),zg,idx_at hn,za,za,zb rfl,zb rfl,zb5,zn,ze,zf (fits_nat (n:=n) (by omega)),<-hgo,cast_succ']
theorem foDocs_same (N:Nat) (hN:1048576<N) (l:List EDoc) (hl:l.length<=1048576) (he:∀d,d∈l->okD Sm TDoc d):l_foDocs_m N l l=some true:=by
 unfold l_foDocs_m
 rw[zb rfl,zn,ze]
 refine(iter_scan _ l.length (fun n=>(l,l,(n:Int))) (fun _=>some true) (fun go=>?_) (fun go n hn hgo=>?_) N 0 (zaf _) (by omega)).trans rfl
 .dsimp only
  rw[zd (zcd _),ze]
 .dsimp only
  rw[zb (by omega:(n:Int)<l.length),zg,idx_at hn,za,za,foDoc_same N hN _ (he _ (zr hn)),za,zn,ze,zf (fits_nat (n:=n) (by omega)),<-hgo,cast_succ']
theorem foSeg_same (N:Nat) (hN:1048576<N) (s:ESeg) (hl:s.1.length<=1048576) (he:∀d,d∈s.1->okD Sm TDoc d) (hs:Small 7680 s.2):l_foSeg_m N s.1 s.2 s.1 s.2=some true:=by
 have h1:=hs.1
 unfold l_foSeg_m
 rw[foDocs_same N hN _ hl he,za,zn,ze,zb rfl,zn,ze]
 refine(iter_scan _ s.2.length (fun n=>((n:Int),s.1,s.2,s.1,s.2)) (fun _=>some true) (fun go=>?_) (fun go n hn hgo=>?_) N 0 (zaf _) (by omega)).trans rfl
 .dsimp only
  rw[zd (zcd _),ze]
 .dsimp only
  obtain⟨e1,e2⟩:=hs.2 _ (zr hn)
  rw[zb (by omega:(n:Int)<s.2.length),zg,idx_at hn,za,za,zb rfl,zn,ze,za,za,zb rfl,zn,ze,za,za,foPosts_same N hN _ (by omega) (fun p hp=>by have:=e2 p hp;omega),za,zn,ze,zf (fits_nat (n:=n) (by omega)),<-hgo,cast_succ']
end Go.Proofs.YtcinmmojlcchfaaGreatDoor
