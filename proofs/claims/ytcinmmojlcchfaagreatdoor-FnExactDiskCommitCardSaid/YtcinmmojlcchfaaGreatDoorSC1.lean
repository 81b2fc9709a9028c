import Derived.Test.YtcinmmojlcchfaaGreatDoorSB1
import Derived.Test.YtcinmmojlcchfaaGreatDoorQA
set_option linter.unusedVariables false
set_option linter.unusedSimpArgs false
namespace Go.Proofs.YtcinmmojlcchfaaGreatDoor
open Go.RowKit
theorem ji8 {a b:EKey} (h:a≠b):ltK a b=true\/ltK b a=true:=by
 unfold ltK
 cases h1:Op.bytesLess a.1 b.1
 .cases h2:Op.bytesLess b.1 a.1
  .have he:a.1=b.1:=by
    have:=bytesLess_or a.1 b.1
    rw[h1,h2]at this
    simpa using this
   have hne:a.2≠b.2:=fun e=>h (Prod.ext he e)
   cases h3:Op.bytesLess a.2 b.2
   .right;simp[he,bl_total h3 hne]
   .left;simp[he]
  .right;simp
 .left;simp
theorem jWY (d:List EEntry) (hk:(d.map keyE).Nodup):∃R:List EEntry,R.Perm d/\R.Pairwise fun x y=>ltK (keyE x) (keyE y)=true:=by
 induction d with
 |nil=>exact⟨[],List.Perm.refl _,za4⟩
 |cons e l ih=>
  rw[zv,zbg]at hk
  obtain⟨R,h1,h2⟩:=ih hk.2
  have hne:∀x,x∈R->keyE e≠keyE x:=fun x hx h=>hk.1 (h▸List.mem_map_of_mem (h1.mem_iff.1 hx))
  have ins:∀R:List EEntry,(∀x,x∈R->keyE e≠keyE x)->(R.Pairwise fun x y=>ltK (keyE x) (keyE y)=true)->∃S:List EEntry,S.Perm (e::R)/\S.Pairwise fun x y=>ltK (keyE x) (keyE y)=true:=fun R=>by
   induction R with
   |nil=>exact fun _ _=>⟨[e],List.Perm.refl _,List.pairwise_singleton _ _⟩
   |cons a R ihR=>
    intro hn hp
    rcases ji8 (hn a zy)with h|h
    .refine ⟨e::a::R,List.Perm.refl _,zas.2 ⟨fun x hx=>?_,hp⟩⟩
     rcases zp.1 hx with rfl|hx
     .exact h
     .exact ltK_trans h ((zas.1 hp).1 x hx)
    .obtain ⟨S,s1,s2⟩:=ihR (fun x hx=>hn x (zl _ hx)) (zas.1 hp).2
     refine⟨a::S,(s1.cons a).trans (List.Perm.swap e a R),zas.2 ⟨fun x hx=>?_,s2⟩⟩
     rcases zp.1 (s1.mem_iff.1 hx)with rfl|hx
     .exact h
     .exact (zas.1 hp).1 x hx
  obtain⟨S,s1,s2⟩:=ins R hne h2
  exact⟨S,s1.trans (h1.cons e),s2⟩
theorem jXh (a b:EKey):cfE a b<0↔ltK a b=true:=by
 unfold cfE orI cmpS ltK
 cases h1:Op.bytesLess a.1 b.1
 .cases h2:Op.bytesLess b.1 a.1
  .have he:a.1=b.1:=by
    have:=bytesLess_or a.1 b.1
    rw[h1,h2]at this
    simpa using this
   cases h3:Op.bytesLess a.2 b.2
   .cases h4:Op.bytesLess b.2 a.2<;>simp[he]
   .simp [he]
  .have he:a.1≠b.1:=by
    rintro e
    rw[e,bl_irrefl]at h2
    cases h2
   simp[he]
 .simp
theorem jW1 (N:Nat) (d:List EEntry) (hl:d.length<=1000000000) (hk:(d.map keyE).Nodup):Def (jaS N d ()) fun r=>r.Perm d/\r.Pairwise fun x y=>ltK (keyE x) (keyE y)=true:=by
 obtain⟨R,h1,h2⟩:=jWY d hk
 refine⟨R,?_,h1,h2⟩
 unfold jaS jWO
 rw[zf hl]
 exact sortE_some jWN ⟨h1,h2.imp fun h=>(jXh _ _).2 h⟩
def Small (m:Nat) (es:List EEntry):Prop:=es.length<=m/\∀e,e∈es->e.2.2.length<=m/\∀p,p∈e.2.2->p.2.length<=m
theorem jjx {m:Nat} {ps:List EPost} (id a:Int) (h:ps.length<=m/\∀p,p∈ps->p.2.length<=m):(addPost ps id a).length<=m+1/\∀p,p∈addPost ps id a->p.2.length<=m+1:=by
 rcases List.eq_nil_or_concat ps with rfl|⟨q,p,rfl⟩
 .unfold addPost
  simp
 .rw [List.concat_eq_append]at*
  unfold addPost
  rw[show(q++ [p]).getLast? =some p from by simp]
  dsimp only
  have hp:=h.2 p (by simp)
  have hq:∀y,y∈q->y.2.length<=m:=fun y hy=>h.2 y (by simp[hy])
  have hl:=h.1
  simp only[zam,zi,zac]at hl
  by_cases e:p.1=id
  .rw [zf e,List.dropLast_concat]
   refine⟨by simp only[zam,zi,zac];omega,fun y hy=>?_⟩
   rcases zaB.1 hy with hy|hy
   .exact Nat.le_succ_of_le (hq y hy)
   .rw [zaD]at hy
    subst hy
    simp only[zam,zi,zac];omega
  .rw [zu e]
   refine⟨by simp only[zam,zi,zac];omega,fun y hy=>?_⟩
   rcases zaB.1 hy with hy|hy
   .exact Nat.le_succ_of_le (h.2 y hy)
   .rw [zaD]at hy
    subst hy
    simp
theorem jgc {m:Nat} (o:EOcc):∀es:List EEntry,(∀e,e∈es->e.2.2.length<=m/\∀p,p∈e.2.2->p.2.length<=m)->(putE o es).length<=es.length+1/\∀e,e∈putE o es->e.2.2.length<=m+1/\∀p,p∈e.2.2->p.2.length<=m+1
 | [],_=>by
  unfold putE
  refine⟨by simp,fun e he=>?_⟩
  rw[zaD]at he
  subst he
  exact jjx _ _ (m:=m) (ps:=[]) ⟨by simp,by simp⟩
 |d::l,h=>by
  have hm:∀e,e∈d::l->e.2.2.length<=m+1/\∀p,p∈e.2.2->p.2.length<=m+1:=fun e he=>⟨Nat.le_succ_of_le (h e he).1,fun p hp=>Nat.le_succ_of_le ((h e he).2 p hp)⟩
  unfold putE
  by_cases hk:keyE d=o.1
  .rw [zf hk]
   refine⟨by simp,fun e he=>?_⟩
   rcases zp.1 he with rfl|he
   .exact jjx _ _ (h d zy)
   .exact hm e (zl _ he)
  .rw [zu hk]
   have ih:=jgc o l fun e he=>h e (zl _ he)
   refine⟨by simp only[zi];omega,fun e he=>?_⟩
   rcases zp.1 he with rfl|he
   .exact hm _ zy
   .exact ih.2 e he
theorem jcS (l:List EOcc):Small l.length (putAll l):=by
 have key:∀(l:List EOcc) (es:List EEntry) (m:Nat),Small m es->Small (m+l.length) (l.foldl (fun es o=>putE o es) es):=by
  intro l
  induction l with
  |nil=>intro es m h;exact h
  |cons o l ih=>
   intro es m h
   have h2:=jgc o es h.2
   have:=ih (putE o es) (m+1) ⟨by have:=h.1;omega,h2.2⟩
   rw[zi,show m+(l.length+1)=m+1+l.length from by omega]
   exact this
 have:=key l [] 0 ⟨by simp,fun e he=>by cases he⟩
 rwa[zaY]at this
theorem jnq (N:Nat) (d:EDoc) (h1:d.2.1.length<=3) (h2:d.2.2.length<=3):jbO N d.1 d.2.1 d.2.2=some d:=by
 unfold jbO
 rw[zf (room_of (by simp;omega) (by simp;omega)),zf (room_of (by simp;omega) (by simp;omega))]
 rfl
theorem jrH (N:Nat) {docs:List EDoc} (hd:DOk docs) (hN:16<N):jbV N docs=some docs:=by
 unfold jbV
 have hf:=hd.few
 refine(iter_scan _ docs.length (fun k=>(docs.take k,docs,(docs.length:Int),(k:Int))) (fun _=>some docs) (fun go=>?_) (fun go k hk hgo=>?_) N 0 (zaf _) (by omega)).trans rfl
 .dsimp only
  rw[zd (zcd _),ze,zq]
 .dsimp only
  have he:=hd.each _ (zr hk)
  rw[zb (by omega:(k:Int)<docs.length),zg,idx_at hk,za,jnq N docs[k] he.1 he.2.1,za,zf (room_of (by simp;omega) (by simp;omega)),zf (fits_nat (n:=k) (by omega)),<-hgo,zo hk,cast_succ']
theorem jfD (c:EConf) {docs:List EDoc} (hd:DOk docs) {d:EDoc} (h:d∈docs) (k:Nat):(occF c d.1 (d.2.1.take k)).length<=480:=by
 unfold occF
 have he:=hd.each d h
 have h1:=flat_len (fun f:EField=>(terms c f.2).map fun t=>(((f.1,t.1),d.1,t.2):EOcc)) 160 (d.2.1.take k) fun f hf=>by
  rw[zar]
  exact zau (terms_len c _) (he.2.2 f (zaP hf)).2
 have h2:(d.2.1.take k).length<=3:=by rw[zah];omega
 omega
theorem jdD (c:EConf) {docs:List EDoc} (hd:DOk docs) (n:Nat):(occ c (docs.take n)).length<=7680:=by
 unfold occ
 have hf:=hd.few
 have h1:=flat_len (fun d:EDoc=>occF c d.1 d.2.1) 480 (docs.take n) fun d hx=>by
  have:=jfD c hd (zaP hx) d.2.1.length
  rw[zq]at this
  exact this
 have h2:(docs.take n).length<=16:=by rw[zah];omega
 omega
theorem jme (N:Nat) (hM:Sm<N) (hN:N<=16777216) (c:EConf) (ho:okD Sm TConf c) (docs:List EDoc) (hod:∀x,x∈docs->okD Sm TDoc x) (hl:docs.length<=1048576):jbT N c.1 c.2 docs=some (bif okConf c&&okDocs docs then(docs,entriesS c docs)else([],[])):=by
 have hM':1048576<N:=hM
 refine Def.get ?_
 unfold jbT
 rw[confOk_spec N hM (by omega) c ho,za]
 cases hc:okConf c with
 |false=>exact Def.ret rfl
 |true=>
 rw[zn,ze,docsOk_spec N hM (by omega) docs hod hl,za]
 cases hdd:okDocs docs with
 |false=>exact Def.ret rfl
 |true=>
 have hd:=okDocs_ok hdd
 have hf:=hd.few
 rw[zn,ze,jrH N hd (by omega),za,Bool.and_self,zg]
 refine Def.upto docs.length (fun n g=>g=(docs,(docs.length:Int),(n:Int),c.1,c.2,docs,putAll (occ c (docs.take n)))) (fun go g hg=>?_) (fun go n g hn hg hgo=>?_) N 0 _ (zaf _) rfl (by omega)
 .subst hg
  dsimp only
  rw[zd (zcd _),ze,zq]
  have hsm:=jcS (occ c docs)
  have hol:=jdD c hd docs.length
  rw[zq]at hol
  refine Def.bind (jW1 N (putAll (occ c docs)) (by have:=hsm.1;omega) (putAll_canon (occ c docs)).nodup) fun R hR=>Def.ret ?_
  rw[sorted_entries c hd.inn hR.1 hR.2]
 .subst hg
  dsimp only
  have hmem:=zr hn
  have he:=hd.each _ hmem
  rw[zb (by omega:(n:Int)<docs.length),zg,idx_at hn,za]
  have ho1:=jdD c hd n
  refine Def.upto docs[n].2.1.length (fun k g=>g=(docs,(docs.length:Int),(n:Int),docs[n].2.1,(docs[n].2.1.length:Int),(k:Int),c.1,c.2,docs,putAll (occ c (docs.take n)++occF c docs[n].1 (docs[n].2.1.take k)),docs[n].1,docs[n].2.1,docs[n].2.2)) (fun go2 g hg=>?_) (fun go2 k g hk hg hgo2=>?_) N 0 _ (zaf _) (by rw[List.take_zero,show occF c docs[n].1 []=[]from rfl,zat];rfl) (by omega)
  .subst hg
   dsimp only
   rw[zd (zcd _),ze,zq,zf (fits_nat (n:=n) (by omega))]
   refine hgo _ ?_
   rw[cast_succ']
   unfold occ
   rw[flat_step _ _ _ hn]
  .subst hg
   dsimp only
   have hok:=he.2.2 _ (zr hk)
   rw[zb (by omega:(k:Int)<docs[n].2.1.length),zg,idx_at hk,za,jLp N c _ (by omega) hM (by omega) ho,za,hc,hok.1,Bool.and_self,zg]
   have htl:=terms_len c docs[n].2.1[k].2
   have ho2:=jfD c hd hmem k
   refine Def.upto (terms c docs[n].2.1[k].2).length (fun j g=>g=(docs,(docs.length:Int),(n:Int),docs[n].2.1,(docs[n].2.1.length:Int),(k:Int),terms c docs[n].2.1[k].2,((terms c docs[n].2.1[k].2).length:Int),(j:Int),c.1,c.2,docs,putAll (occ c (docs.take n)++occF c docs[n].1 (docs[n].2.1.take k)++((terms c docs[n].2.1[k].2).take j).map fun t=>((docs[n].2.1[k].1,t.1),docs[n].1,t.2)),docs[n].1,docs[n].2.1,docs[n].2.2,docs[n].2.1[k].1,docs[n].2.1[k].2)) (fun go3 g hg=>?_) (fun go3 j g hj hg hgo3=>?_) N 0 _ (zaf _) (by rw[List.take_zero,List.map_nil,zat];rfl) (by omega)
   .subst hg
    dsimp only
    rw[zd (zcd _),ze,zq,zf (fits_nat (n:=k) (by omega))]
    refine hgo2 _ ?_
    rw[cast_succ']
    unfold occF
    rw[flat_step _ _ _ hk,zao]
   .subst hg
    dsimp only
    rw[zb (by omega:(j:Int)<((terms c docs[n].2.1[k].2).length:Int)),zg,idx_at hj,za]
    have hsm:=jcS (occ c (docs.take n)++occF c docs[n].1 (docs[n].2.1.take k)++((terms c docs[n].2.1[k].2).take j).map fun t=>(((docs[n].2.1[k].1,t.1),docs[n].1,t.2):EOcc))
    have hlen:(occ c (docs.take n)++occF c docs[n].1 (docs[n].2.1.take k)++((terms c docs[n].2.1[k].2).take j).map fun t=>(((docs[n].2.1[k].1,t.1),docs[n].1,t.2):EOcc)).length<=8320:=by
     rw[zam,zam,zar,zah]
     omega
    rw[put_spec N _ _ _ _ _ (by have:=hsm.1;omega) (by have:=hsm.1;omega) (fun e h=>⟨by have:=(hsm.2 e h).1;omega,fun p hp=>by have:=(hsm.2 e h).2 p hp;omega⟩),za,zf (fits_nat (n:=j) (by omega))]
    refine hgo3 _ ?_
    rw[cast_succ',map_step _ _ _ hj,<-zao,joA]
theorem j37 (c:EConf) {docs:List EDoc} (hd:DOk docs):Small 7680 (entriesS c docs):=by
 have hsm:=jcS (occ c docs)
 have hol:=jdD c hd docs.length
 rw[zq]at hol
 obtain⟨R,hp,hs⟩:=jWY (putAll (occ c docs)) (putAll_canon (occ c docs)).nodup
 rw[<-sorted_entries c hd.inn hp hs]
 refine⟨by rw[hp.length_eq];exact zau hsm.1 hol,fun e he=>?_⟩
 have:=hsm.2 e (hp.mem_iff.1 he)
 exact⟨zau this.1 hol,fun p hp=>zau (this.2 p hp) hol⟩
theorem jaH {α δ:Type} [DecidableEq α] (F:(δ->Option Bool)->δ->Option Bool) (a b:List α) (h:a.length=b.length) (st:Nat->δ) (hend:∀go,F go (st a.length)=some true) (hstep:∀go (n:Nat) (hn:n<a.length) (hb:n<b.length),F go (st n)=bif decide (a[n]=b[n])then go (st (n+1))else some false) (N:Nat) (hN:a.length<N):iter F N (st 0)=some (decide (a=b)):=by
 refine(iter_scan F a.length st (fun n=>some (decide (a.drop n=b.drop n))) (fun go=>?_) (fun go n hn hgo=>?_) N 0 (zaf _) (by omega)).trans (by rw[List.drop_zero,List.drop_zero])
 .rw [hend,zbp,h,zbp];simp
 .rw [hstep go n hn (by omega),jhZ hn (by omega),hgo]
  cases decide (a[n]=b[n])<;>rfl
theorem jat {α:Type} {a b:List α} (h:¬(a.length:Int)=(b.length:Int)):¬a=b:=fun e=>h (by rw[e])
theorem jp3 (N:Nat) (a b:List Int) (hN:a.length<N) (hl:a.length<=1000000):jbX N a b=some (decide (a=b)):=by
 unfold jbX
 by_cases h:(a.length:Int)=(b.length:Int)
 .rw [zb h,zn,ze]
  refine jaH _ a b (by omega) (fun n=>(a,b,(a.length:Int),(n:Int))) (fun go=>?_) (fun go n hn hb=>?_) N hN
  .dsimp only
   rw[zd (zcd _),ze]
  .dsimp only
   rw[zb (by omega:(n:Int)<a.length),zg,idx_at hn,za,idx_at hb,za,zf (fits_nat (n:=n) (by omega)),cast_succ']
   cases decide (a[n]=b[n])<;>rfl
 .rw [zd h,zaI,zg,zd (jat h)]
theorem jsm (N:Nat) (a b:List Int) (hN:a.length<N) (hl:a.length<=1000000):jb1 N a b=some (decide (a=b)):=by
 unfold jb1
 by_cases h:(a.length:Int)=(b.length:Int)
 .rw [zb h,zn,ze]
  refine jaH _ a b (by omega) (fun n=>(a,b,(n:Int))) (fun go=>?_) (fun go n hn hb=>?_) N hN
  .dsimp only
   rw[zd (zcd _),ze]
  .dsimp only
   rw[zb (by omega:(n:Int)<a.length),zg,idx_at hn,za,idx_at hb,za,zf (fits_nat (n:=n) (by omega)),cast_succ']
   cases decide (a[n]=b[n])<;>rfl
 .rw [zd h,zaI,zg,zd (jat h)]
theorem je2 (a b:EPost):decide (a=b)=(decide (a.1=b.1)&&decide (a.2=b.2)):=by
 rw[zbH,zj,zw,zw,zw,Prod.ext_iff]
theorem jjZ (a b:EEntry):decide (a=b)=(decide (a.1=b.1)&&(decide (a.2.1=b.2.1)&&decide (a.2.2=b.2.2))):=by
 rw[zbH,zj,zj,zw,zw,zw,zw,Prod.ext_iff,Prod.ext_iff]
theorem jls (N:Nat) (a b:EPost) (hN:a.2.length<N) (hl:a.2.length<=1000000):jcp N a.1 a.2 b.1 b.2=some (decide (a=b)):=by
 unfold jcp
 rw[jp3 N _ _ hN hl,za,je2]
 cases decide (a.1=b.1)<;>rfl
theorem jpo (N:Nat) (a b:List EPost) (hN:a.length<N) (hl:a.length<=1000000) (hp:∀p,p∈a->p.2.length<N/\p.2.length<=1000000):jb6 N a b ()=some (decide (a=b)):=by
 unfold jb6
 by_cases h:(a.length:Int)=(b.length:Int)
 .rw [zb h,zn,ze]
  refine jaH _ a b (by omega) (fun n=>(b,(),a,(a.length:Int),(n:Int))) (fun go=>?_) (fun go n hn hb=>?_) N hN
  .dsimp only
   rw[zd (zcd _),ze]
  .dsimp only
   have hpn:=hp _ (zr hn)
   rw[zb (by omega:(n:Int)<a.length),zg,idx_at hn,za,idx_at hb,za,jls N _ _ hpn.1 hpn.2,za,zf (fits_nat (n:=n) (by omega)),cast_succ']
   cases decide (a[n]=b[n])<;>rfl
 .rw [zd h,zaI,zg,zd (jat h)]
theorem jkm (N:Nat) (a b:EEntry) (hN:a.2.2.length<N) (hl:a.2.2.length<=1000000) (hp:∀p,p∈a.2.2->p.2.length<N/\p.2.length<=1000000):jcz N a.1 a.2.1 a.2.2 b.1 b.2.1 b.2.2=some (decide (a=b)):=by
 unfold jcz
 rw[jpo N _ _ hN hl hp,za,jjZ]
 cases decide (a.1=b.1)<;>cases decide (a.2.1=b.2.1)<;>rfl
theorem jqe (N:Nat) (a b:List EEntry) (m:Nat) (hm:m<N) (hm2:m<=1000000) (hs:Small m a):jcn N a b ()=some (decide (a=b)):=by
 unfold jcn
 have hal:=hs.1
 by_cases h:(a.length:Int)=(b.length:Int)
 .rw [zb h,zn,ze]
  refine jaH _ a b (by omega) (fun n=>(b,(),a,(a.length:Int),(n:Int))) (fun go=>?_) (fun go n hn hb=>?_) N (by omega)
  .dsimp only
   rw[zd (zcd _),ze]
  .dsimp only
   have hpn:=hs.2 _ (zr hn)
   rw[zb (by omega:(n:Int)<a.length),zg,idx_at hn,za,idx_at hb,za,jkm N _ _ (by omega) (by omega) (fun p hp=>by have:=hpn.2 p hp;omega),za,zf (fits_nat (n:=n) (by omega)),cast_succ']
   cases decide (a[n]=b[n])<;>rfl
 .rw [zd h,zaI,zg,zd (jat h)]
theorem jqj (N:Nat) (a b:EEntry) (hN:a.2.2.length<N) (hl:a.2.2.length<=1000000) (hp:∀p,p∈a.2.2->p.2.length<N/\p.2.length<=1000000):jbQ N a.1 a.2.1 a.2.2 b.1 b.2.1 b.2.2=some (decide (a=b)):=by
 unfold jbQ
 rw[jjZ]
 by_cases h1:a.1=b.1
 .rw [zb h1,zn,ze,zaj]
  by_cases h2:a.2.1=b.2.1
  .rw [zb h2,zn,ze,zaj]
   by_cases h:(a.2.2.length:Int)=(b.2.2.length:Int)
   .rw [zb h,zn,ze]
    refine jaH _ a.2.2 b.2.2 (by omega) (fun n=>((n:Int),a.1,a.2.1,a.2.2,b.1,b.2.1,b.2.2)) (fun go=>?_) (fun go n hn hb=>?_) N hN
    .dsimp only
     rw[zd (zcd _),ze]
    .dsimp only
     have hpn:=hp _ (zr hn)
     rw[zb (by omega:(n:Int)<a.2.2.length),zg,idx_at hn,za,idx_at hb,za,za,za,jsm N _ _ hpn.1 hpn.2,za,zf (fits_nat (n:=n) (by omega)),cast_succ',je2]
     cases decide (a.2.2[n].1=b.2.2[n].1)<;>cases decide (a.2.2[n].2=b.2.2[n].2)<;>rfl
   .rw [zd h,zaI,zg,zd (jat h)]
  .rw [zd h2];rfl
 .rw [zd h1];rfl
def okSeg (c:EConf) (s:ESeg):Bool:=okConf c&&(okDocs s.1&&decide (entriesS c s.1=s.2))
theorem segOk_spec (N:Nat) (hM:Sm<N) (hN:N<=16777216) (c:EConf) (ho:okD Sm TConf c) (s:ESeg) (hod:∀x,x∈s.1->okD Sm TDoc x) (hl:s.1.length<=1048576):jbN N c.1 c.2 s.1 s.2=some (okSeg c s):=by
 have hM':1048576<N:=hM
 unfold jbN okSeg
 rw[confOk_spec N hM (by omega) c ho,za]
 cases hc:okConf c with
 |false=>rfl
 |true=>
 rw[zn,ze,docsOk_spec N hM (by omega) s.1 hod hl,za]
 cases hdd:okDocs s.1 with
 |false=>rfl
 |true=>
 rw[zn,ze,jme N hM hN c ho s.1 hod hl,za,hc,hdd,Bool.and_self,zg]
 rw[jqe N _ _ 7680 (by omega) (by omega) (j37 c (okDocs_ok hdd))]
 rfl
theorem l7Ok_spec (N:Nat) (hM:Sm<N) (hN:N<=16777216) (c:EConf) (ho:okD Sm TConf c) (s:ESeg) (hod:∀x,x∈s.1->okD Sm TDoc x) (hl:s.1.length<=1048576):jcR N c.1 c.2 s.1 s.2=some (okSeg c s):=by
 have hM':1048576<N:=hM
 unfold jcR okSeg
 rw[l2Ok_spec N hM (by omega) c ho,za]
 cases hc:okConf c with
 |false=>rfl
 |true=>
 rw[zn,ze,l6Docs_spec N hM (by omega) s.1 hod hl,za]
 cases hdd:okDocs s.1 with
 |false=>rfl
 |true=>
 have hs:=j37 c (okDocs_ok hdd)
 have hal:=hs.1
 rw[zn,ze,l7Of_spec N c hc (okDocs_ok hdd) hM',za,zaj,zaj]
 generalize entriesS c s.1=a at*
 obtain⟨d,b⟩:=s
 by_cases h:(a.length:Int)=(b.length:Int)
 .rw [zb h,zn,ze]
  refine jaH _ a b (by omega) (fun n=>((n:Int),d,b,d,a)) (fun go=>?_) (fun go n hn hb=>?_) N (by omega)
  .dsimp only
   rw[zd (zcd _),ze]
  .dsimp only
   have hpn:=hs.2 _ (zr hn)
   rw[zb (by omega:(n:Int)<a.length),zg,idx_at hn,za,idx_at hb,za,jqj N _ _ (by omega) (by omega) (fun p hp=>by have:=hpn.2 p hp;omega),za,zf (fits_nat (n:=n) (by omega)),cast_succ']
   cases decide (a[n]=b[n])<;>rfl
 .rw [zd h,zaI,zg,zd (jat h)]
theorem okW_iff (s:List UInt8):okW s=true↔(∀c,c∈s->wB (c.toNat:Int)=true)/\1<=s.length/\s.length<=12:=by
 unfold okW allN
 simp only[zj,zw,zax]
 constructor
 .rintro ⟨h1,h2,h3⟩
  refine⟨fun c hc=>?_,by omega,by omega⟩
  obtain⟨n,hn,rfl⟩:=zav.1 hc
  rw[jbL hn]
  exact h1 n (by simp;omega)
 .rintro ⟨h1,h2,h3⟩
  refine⟨fun n hn=>?_,by omega,by omega⟩
  have hn':n<s.length:=by simpa using hn
  rw[<-jbL hn']
  exact h1 _ (zr hn')
def upL (l:List Int):Prop:=l.Pairwise fun a b=>a<b
def iAt (l:List Int) (n:Nat):Int:=l[n]?.getD 0
theorem jxP {l:List Int} {n:Nat} (h:n<l.length):l[n]=iAt l n:=by unfold iAt;rw[zc h];rfl
def upC (l:List Int) (n:Nat):Bool:=(decide (0<=iAt l n)&&decide (iAt l n<=999999999))&&(decide (n=0)|| !decide (iAt l n<=iAt l (n-1)))
def upB (l:List Int):Bool:=allN l.length (upC l)&&decide ((l.length:Int)<=60)
theorem upOk_spec (N:Nat) (hM:Sm<N) (hN:N<=1099511627776) (l:List Int) (hl:l.length<=1048576):jx1 N l=some (upB l):=by
 have hM':1048576<N:=hM
 unfold jx1
 refine check_loop _ l.length (fun n=>(l,l,(l.length:Int),(n:Int))) (upC l) _ (fun go=>?_) (fun go n hn=>?_) N (by omega)
 .dsimp only
  rw[zd (zcd _),ze]
 .dsimp only
  have hf:fits ((n:Int)+1):=fits_nat (by omega)
  rw[zb (by omega:(n:Int)<l.length),zg,idx_at hn]
  simp only[za,jJR,zf hf,cast_succ',jxP hn]
  unfold upC
  match n,hn with
  |0,hn=>
   rw[zd (by omega:¬(0:Int)<((0:Nat):Int)),ze,zb (rfl:0=0),Bool.true_or,zaV]
   cases(decide (0<=iAt l 0)&&decide (iAt l 0<=999999999))<;>rfl
  |n+1,hn=>
   rw[zb (by omega:(0:Int)<((n+1:Nat):Int)),zg,show((n+1:Nat):Int)-1=(n:Int)from by omega,zf (by unfold fits;omega),idx_at (by omega:n<l.length),za,jxP (by omega:n<l.length),zd (by omega:¬n+1=0),zbf,zbq]
   cases(decide (0<=iAt l (n+1))&&decide (iAt l (n+1)<=999999999))<;>cases decide (iAt l (n+1)<=iAt l n)<;>rfl
theorem l3Up_spec (N:Nat) (hM:Sm<N) (hN:N<=1099511627776) (l:List Int) (hl:l.length<=1048576):jx3 N l=some (upB l):=by
 have hM':1048576<N:=hM
 unfold jx3
 refine check_loop _ l.length (fun n=>(l,(n:Int))) (upC l) _ (fun go=>?_) (fun go n hn=>?_) N (by omega)
 .dsimp only
  rw[zd (zcd _),ze]
 .dsimp only
  have hf:fits ((n:Int)+1):=fits_nat (by omega)
  rw[zb (by omega:(n:Int)<l.length),zg,idx_at hn]
  simp only[za,jJO,zf hf,cast_succ',jxP hn]
  unfold upC
  match n,hn with
  |0,hn=>
   rw[zd (by omega:¬(0:Int)<((0:Nat):Int)),ze,zb (rfl:0=0),Bool.true_or,zaV]
   cases(decide (0<=iAt l 0)&&decide (iAt l 0<=999999999))<;>rfl
  |n+1,hn=>
   rw[zb (by omega:(0:Int)<((n+1:Nat):Int)),zg,show((n+1:Nat):Int)-1=(n:Int)from by omega,zf (by unfold fits;omega),idx_at (by omega:n<l.length),za,jxP (by omega:n<l.length),zd (by omega:¬n+1=0),zbf,zbq]
   cases(decide (0<=iAt l (n+1))&&decide (iAt l (n+1)<=999999999))<;>cases decide (iAt l (n+1)<=iAt l n)<;>rfl
theorem upB_up {l:List Int} (h:upB l=true):upL l/\l.length<=60/\∀x,x∈l->0<=x/\x<=999999999:=by
 unfold upB allN at h
 rw[zj,zax,zw]at h
 obtain⟨h1,h2⟩:=h
 have hc:∀(n:Nat) (hn:n<l.length),(0<=l[n]/\l[n]<=999999999)/\(n=0\/ ∃h:n-1<l.length,l[n-1]<l[n]):=fun n hn=>by
  have:=h1 n (by simp;omega)
  unfold upC at this
  simp only[zj,za1,zw,zb2,decide_eq_false_iff_not]at this
  rw[<-jxP hn]at this
  refine⟨this.1,this.2.imp id fun h3=>⟨by omega,?_⟩⟩
  rw[jxP (by omega:n-1<l.length)]
  omega
 have hs:∀(d i:Nat) (hi:i+d+1<l.length),l[i]<l[i+d+1]:=fun d=>by
  induction d with
  |zero=>
   intro i hi
   rcases(hc (i+1) hi).2 with h3|⟨_,h3⟩
   .omega
   .simpa using h3
  |succ d ih=>
   intro i hi
   have h4:=ih i (by omega)
   rcases(hc (i+d+2) (by omega)).2 with h3|⟨_,h3⟩
   .omega
   .have h5:l[i+d+1]<l[i+d+2]:=by simpa using h3
    exact Int.lt_trans h4 h5
 refine⟨za2.2 fun i j hi hj hij=>?_,by omega,fun x hx=>?_⟩
 .have:=hs (j-i-1) i (by omega)
  have e:i+(j-i-1)+1=j:=by omega
  simpa only[e]using this
 .obtain ⟨n,hn,rfl⟩:=zav.1 hx
  exact(hc n hn).1
theorem scan_find {α δ ρ:Type} (F:(δ->Option ρ)->δ->Option ρ) (xs:List α) (st:Nat->δ) (p:α->Bool) (r:α->ρ) (r0:ρ) (z:δ) (R:ρ) (hz:z=st 0) (hR:(xs.find? p).elim r0 r=R) (hend:∀go,F go (st xs.length)=some r0)
  (hstep:∀go (n:Nat) (h:n<xs.length),F go (st n)=bif p xs[n]then some (r xs[n])else go (st (n+1))) (N:Nat) (h:xs.length<N):iter F N z=some R:=by
 subst hz
 have:=iter_scan F xs.length st (fun n=>some (((xs.drop n).find? p).elim r0 r)) (fun go=>by rw[hend,zbp];rfl) (fun go n hn hgo=>by
  rw[hstep go n hn,hgo,zan hn,List.find?_cons]
  cases p xs[n]<;>rfl) N 0 (zaf _) (by omega)
 rw[this,<-hR]
 rfl
theorem okDoc_each {docs:List EDoc} (h:okDocs docs=true):∀d,d∈docs->okDoc d=true:=fun d hd=>by
 unfold okDocs at h
 rw[zj,zw]at h
 obtain⟨n,hn,rfl⟩:=zav.1 hd
 have:=allN_at h.1 hn
 unfold okDc at this
 rw[zj,<-dAt_eq hn]at this
 exact this.1
structure GoodS (N:Nat) (c:EConf) (s:ESeg):Prop where
 big:Sm<N
 top:N<=16777216
 oc:okD Sm TConf c
 od:∀x,x∈s.1->okD Sm TDoc x
 ok:okSeg c s=true
theorem okSeg_ok {c:EConf} {s:ESeg} (h:okSeg c s=true):okConf c=true/\DOk s.1/\s.2=entriesS c s.1:=by
 unfold okSeg at h
 simp only[zj,zw]at h
 exact⟨h.1,okDocs_ok h.2.1,h.2.2.symm⟩
theorem okSeg_docs {c:EConf} {s:ESeg} (h:okSeg c s=true):okDocs s.1=true:=by
 unfold okSeg at h
 simp only[zj,zw]at h
 exact h.2.1
theorem GoodS.dok {N:Nat} {c:EConf} {s:ESeg} (h:GoodS N c s):DOk s.1:=(okSeg_ok h.ok).2.1
theorem GoodS.m {N:Nat} {c:EConf} {s:ESeg} (h:GoodS N c s):1048576<N:=h.big
def docOf (docs:List EDoc) (id:Int):Option EDoc:=docs.find? fun d=>decide (d.1=id)
theorem segDoc_spec (N:Nat) (s:ESeg) (id:Int) (h:s.1.length<N) (hN:N<=16777216):i_Seg_doc_m N s id=some (match docOf s.1 id with
  |some d=>(d.1,d.2.1,d.2.2,true)
  |none=>(0,[],[],false)):=by
 unfold i_Seg_doc_m docOf
 refine scan_find _ s.1 (fun n=>(id,s.1,(s.1.length:Int),(n:Int),(0:Int))) (fun d=>decide (d.1=id)) (fun d:EDoc=>(d.1,d.2.1,d.2.2,true)) (0,[],[],false) _ _ rfl (by cases s.1.find? fun d=>decide (d.1=id)<;>rfl) (fun go=>?_) (fun go n hn=>?_) N h
 .dsimp only
  rw[zd (zcd _),ze]
 .dsimp only
  rw[zb (by omega:(n:Int)<s.1.length),zg,idx_at hn,za,zf (fits_nat (n:=n) (by omega)),cast_succ']
theorem fail_at {α δ ρ:Type} (F:(δ->Option ρ)->δ->Option ρ) (xs:List α) (st:Nat->δ) (P:α->Bool) (no:Option ρ) (hstep:∀go n (hn:n<xs.length),F go (st n)=bif P xs[n]then go (st (n+1))else no):
  ∀N n,xs.length-n<N->(∃(k:Nat) (hk:k<xs.length),n<=k/\P xs[k]=false)->iter F N (st n)=no
 |0,n,h,_=>by omega
 |N+1,n,h,⟨k,hk,hnk,hf⟩=>by
  show F (iter F N) (st n)=no
  rw[hstep _ n (by omega)]
  cases hP:P xs[n]with
  |false=>rfl
  |true=>
   have:n≠k:=fun e=>by subst e;rw[hP]at hf;cases hf
   exact fail_at F xs st P no hstep N (n+1) (by omega) ⟨k,hk,by omega,hf⟩
theorem l12Doc_spec (N:Nat) {c:EConf} {s:ESeg} (g:GoodS N c s) (id:Int):s_l12Doc_m N s.1 s.2 id=some ((docOf s.1 id).getD (0,[],[])):=by
 have hM:=g.m
 have hN:=g.top
 have hfew:=g.dok.few
 unfold s_l12Doc_m docOf
 refine scan_find _ s.1 (fun n=>(id,(n:Int),s.1,s.2,(0:Int))) (fun d=>decide (d.1=id)) (fun d=>d) (0,[],[]) _ _ rfl (by cases s.1.find? fun d=>decide (d.1=id)<;>rfl) (fun go=>?_) (fun go n hn=>?_) N (by omega)
 .dsimp only
  rw[zd (zcd _),ze]
 .dsimp only
  rw[zb (by omega:(n:Int)<s.1.length),zg,idx_at hn,za,za,zf (fits_nat (n:=n) (by omega)),cast_succ']
theorem docOf_some {docs:List EDoc} {id:Int} {d:EDoc} (h:docOf docs id=some d):d∈docs/\d.1=id:=by
 refine⟨List.mem_of_find?_eq_some h,?_⟩
 have:=List.find?_some h
 exact of_decide_eq_true this
theorem compareI_spec (N:Nat) (x y:Int):k_cmp_Compare_992_m N x y=some (if x<y then-1 else if y<x then 1 else 0):=by
 simp only[k_cmp_Compare_992_m,k_cmp_isNaN_538_m,za,decide_true,zn,ze]
 by_cases h:x<y
 .simp [h]
 .by_cases h2:y<x<;>simp[h,h2]
def putD (l:List EDoc) (d:EDoc):List EDoc:=match l with
 | []=>[d]
 |x::r=>if x.1<d.1 then x::putD r d else d::x::r
theorem putD_perm (d:EDoc):∀l,(putD l d).Perm (d::l)
 | []=>List.Perm.refl _
 |x::r=>by
  unfold putD
  split
  .exact ((putD_perm d r).cons x).trans (List.Perm.swap d x r)
  .exact List.Perm.refl _
theorem putD_le (d:EDoc):∀l,(l.Pairwise fun a b=>a.1<=b.1)->(putD l d).Pairwise fun a b=>a.1<=b.1
 | [],_=>by simp[putD]
 |x::r,h=>by
  rw[zas]at h
  unfold putD
  split
  .rename_i hx
   rw[zas]
   refine⟨fun y hy=>?_,putD_le d r h.2⟩
   rcases zp.1 ((putD_perm d r).mem_iff.1 hy)with rfl|hy
   .omega
   .exact h.1 y hy
  .rename_i hx
   rw[zas,zas]
   refine⟨fun y hy=>?_,h⟩
   rcases zp.1 hy with rfl|hy
   .omega
   .have:=h.1 y hy;omega
def sortD (l:List EDoc):List EDoc:=l.foldl putD []
theorem foldD :∀(l acc:List EDoc),(acc.Pairwise fun a b=>a.1<=b.1)->(l.foldl putD acc).Perm (acc++l)/\(l.foldl putD acc).Pairwise fun a b=>a.1<=b.1
 | [],acc,h=>⟨by simp,h⟩
 |d::l,acc,h=>by
  rw[zaq]
  obtain⟨h1,h2⟩:=foldD l (putD acc d) (putD_le d acc h)
  refine⟨h1.trans ?_,h2⟩
  refine((putD_perm d acc).append_right l).trans ?_
  rw[zbk]
  exact List.perm_middle.symm
theorem sortD_perm (l:List EDoc):(sortD l).Perm l:=by
 have:=(foldD l [] za4).1
 rwa[zaW]at this
theorem sortD_le (l:List EDoc):(sortD l).Pairwise fun a b=>a.1<=b.1:=(foldD l [] za4).2
theorem docs_to {R S:List EDoc} (hp:R.Perm S) (hR:R.Pairwise fun a b=>a.1<=b.1) (hS:S.Pairwise fun a b=>a.1<=b.1) (h:okDocs R=true):R=S:=by
 have hi:=(okDocs_ok h).inn.ids
 have hne:S.Pairwise fun a b=>a.1≠b.1:=(hp.pairwise_iff (fun {x y} h=>fun e=>h e.symm)).1 (hi.imp fun h e=>by omega)
 have hs:S.Pairwise fun a b=>a.1<b.1:=(hS.and hne).imp fun {a b} h=>by have:=h.1;have:=h.2;omega
 exact sorted_unique (fun a b:EDoc=>decide (a.1<b.1)) (fun a=>by simp) (fun a b c h k=>by rw[zw]at*;omega) R S (hi.imp fun h=>by rw[zw];exact h) (hs.imp fun h=>by rw[zw];exact h) fun x=>hp.mem_iff
theorem docs_same {R S:List EDoc} (hp:R.Perm S) (hR:R.Pairwise fun a b=>a.1<=b.1) (hS:S.Pairwise fun a b=>a.1<=b.1):okDocs R=okDocs S:=by
 cases h1:okDocs R with
 |true=>rw[<-docs_to hp hR hS h1,h1]
 |false=>
  cases h2:okDocs S with
  |false=>rfl
  |true=>rw[<-docs_to hp.symm hS hR h2,h2]at h1;cases h1
abbrev ELive :Type:=ESeg×List Int
abbrev EIndex :Type:=EConf×List ELive
def alive (l:ELive):List EDoc:=l.1.1.filter fun d=> !decide (d.1∈l.2)
def allD (ls:List ELive):List EDoc:=ls.flatMap alive
theorem alive_len (l:ELive) (hi:l.1.1.Pairwise fun a b=>a.1<b.1) (hd:l.2.Nodup) (hs:∀n,n∈l.2->∃d,d∈l.1.1/\d.1=n):(alive l).length+l.2.length=l.1.1.length:=by
 have h1:(l.1.1.filter fun d=>decide (d.1∈l.2)).length=l.2.length:=by
  have hp:((l.1.1.filter fun d=>decide (d.1∈l.2)).map (·.1)).Perm l.2:=by
   refine(List.perm_ext_iff_of_nodup ?_ hd).2 fun n=>?_
   .have:((l.1.1.map (·.1))).Nodup:=by
     refine List.pairwise_map.2 (hi.imp fun h e=>?_)
     have:=h;omega
    exact List.Nodup.sublist (List.filter_sublist.map _) this
   .rw [zab]
    constructor
    .rintro ⟨d,hd,rfl⟩
     exact of_decide_eq_true (zaZ.1 hd).2
    .intro hn
     obtain⟨d,hd,rfl⟩:=hs n hn
     exact⟨d,zaZ.2 ⟨hd,zb hn⟩,rfl⟩
  rw[<-hp.length_eq,zar]
 unfold alive
 rw[<-h1]
 have:∀(xs:List EDoc) (p:EDoc->Bool),(xs.filter fun d=> !p d).length+(xs.filter p).length=xs.length:=by
  intro xs p
  induction xs with
  |nil=>rfl
  |cons x xs ih=>
   rw[List.filter_cons,List.filter_cons,zi]
   cases p x<;>simp<;>omega
 exact this l.1.1 _
theorem not_take_succ {l:List Int} {a:Int} {n:Nat} (hn:n<l.length) (h:a∉l.take n) (e:¬a=l[n]):a∉l.take (n+1):=by
 rw[zo hn,zaB,zaD]
 rintro(h'|h')
 .exact h h'
 .exact e h'
theorem index_def (N:Nat) (l:List Int) (a:Int) (h:l.length<N) (hN:N<=1099511627776):Def (k_slices_Index_484_m N l a) fun r=>(r=-1/\a∉l)\/ ∃j:Nat,r=(j:Int)/\j<l.length/\l[j]? =some a/\a∉l.take j:=by
 unfold k_slices_Index_484_m
 refine Def.upto l.length (fun n g=>a∉l.take n/\g=(l,a,(l.length:Int),(n:Int))) ?_ ?_ N 0 _ (zaf _) ⟨by simp,rfl⟩ (by omega)
 .rintro go _ ⟨hm,rfl⟩
  dsimp only
  rw[zd (zcd _),ze]
  rw[zq]at hm
  exact Def.ret (.inl ⟨rfl,hm⟩)
 .rintro go n _ hn ⟨hm,rfl⟩ hgo
  dsimp only
  rw[zb (by omega:(n:Int)<l.length),zg,idx_at hn,za]
  refine Def.dif (fun e=>Def.ret (.inr ⟨n,rfl,hn,by rw[zc hn,e],hm⟩)) (fun e=>?_)
  exact Def.ite (fits_nat (n:=n) (by omega)) (hgo _ ⟨not_take_succ hn hm e,by rw[cast_succ']⟩)
theorem containsI_spec (N:Nat) (l:List Int) (n:Int) (h:l.length<N) (hN:N<=1099511627776):k_slices_Contains_735_m N l n=some (decide (n∈l)):=by
 obtain⟨r,hr,hc⟩:=index_def N l n h hN
 unfold k_slices_Contains_735_m
 rw[hr,za]
 rcases hc with⟨rfl,hn⟩|⟨j,rfl,hj,he,_⟩
 .rw [zd hn];rfl
 .have hm:n∈l:=by
   rw[zc hj]at he
   have e:=Option.some.inj he
   exact e▸zr hj
  rw[zb hm,zb (by omega)]
theorem l8Has_spec (N:Nat) (l:List Int) (n:Int) (h:l.length<N) (hN:N<=1099511627776):s_l8Has_m N l n=some (decide (n∈l)):=by
 unfold s_l8Has_m
 refine(iter_scan _ l.length (fun k=>(l,n,(k:Int))) (fun k=>some (decide (n∈l.drop k))) (fun go=>?_) (fun go k hk hgo=>?_) N 0 (zaf _) (by omega)).trans (by simp)
 .dsimp only
  rw[zd (zcd _),ze]
  simp
 .dsimp only
  rw[zb (by omega:(k:Int)<l.length),zg,idx_at hk,za,zan hk]
  by_cases e:l[k]=n
  .rw [zb e,zg,e];simp
  .rw [zd e,ze,zf (fits_nat (n:=k) (by omega))]
   simp only[cast_succ']at hgo
   rw[hgo]
   have e':¬n=l[k]:=fun h=>e h.symm
   simp only[zp,e',false_or]
theorem alive_take (l:ELive) {n:Nat} (h:n<l.1.1.length):(l.1.1.take (n+1)).filter (fun d=> !decide (d.1∈l.2))=bif decide (l.1.1[n].1∈l.2)then(l.1.1.take n).filter (fun d=> !decide (d.1∈l.2))else(l.1.1.take n).filter (fun d=> !decide (d.1∈l.2))++ [l.1.1[n]]:=by
 rw[zo h,za6]
 cases e:decide (l.1.1[n].1∈l.2)<;>simp[List.filter_cons,e]
theorem alive_spec (N:Nat) (hM:1048576<N) (hN:N<=16777216) (l:ELive) (h1:l.1.1.length<=1000) (h2:l.2.length<=1000):i_Live_alive_m N l.1.1 l.1.2 l.2=some (alive l):=by
 unfold i_Live_alive_m alive
 refine(iter_scan _ l.1.1.length (fun n=>((l.1.1.take n).filter (fun d=> !decide (d.1∈l.2)),l.1.1,(l.1.1.length:Int),(n:Int),l.1.1,l.1.2,l.2)) (fun n=>some (l.1.1.filter fun d=> !decide (d.1∈l.2))) (fun go=>?_) (fun go n hn hgo=>?_) N 0 (zaf _) (by omega)).trans rfl
 .dsimp only
  rw[zd (zcd _),ze,zq]
 .dsimp only
  have hll:((l.1.1.take n).filter (fun d=> !decide (d.1∈l.2))).length<=1000:=zau (zbh _ _) (by rw[zah];omega)
  simp only[cast_succ',alive_take l hn]at hgo
  generalize(l.1.1.take n).filter (fun d=> !decide (d.1∈l.2))=out at*
  rw[zb (by omega:(n:Int)<l.1.1.length),zg,idx_at hn,za,containsI_spec N _ _ (by omega) (by omega),za,zf (room_of (by rw[zbE];omega) (by rw[zbE];omega)),<-hgo]
  simp only[zf (fits_nat (n:=n) (by omega))]
  cases decide (l.1.1[n].1∈l.2)<;>rfl
def okLive (c:EConf) (l:ELive):Bool:=okSeg c l.1&&(upB l.2&&(decide (l.2.length<l.1.1.length)&&l.2.all fun n=>(docOf l.1.1 n).isSome))
theorem okLive_live (c:EConf) (l:ELive):(okSeg c l.1&&(upB l.2&&((l.2.all fun n=>(docOf l.1.1 n).isSome)&&decide (0<(alive l).length))))=okLive c l:=by
 unfold okLive
 cases hs:okSeg c l.1 with
 |false=>rfl
 |true=>
  cases hu:upB l.2 with
  |false=>rfl
  |true=>
   cases ha:l.2.all fun n=>(docOf l.1.1 n).isSome with
   |false=>simp
   |true=>
    have hi:=(okSeg_ok hs).2.1.inn.ids
    have hd:l.2.Nodup:=by
     have:=(upB_up hu).1
     exact this.imp fun h e=>by have:=h;omega
    have:=alive_len l hi hd fun n hn=>by
     have h1:=zax.1 ha n hn
     cases hdn:docOf l.1.1 n with
     |none=>rw[hdn]at h1;cases h1
     |some d=>exact⟨d,docOf_some hdn⟩
    rw[zaj,zaV]
    congr 2
    rw[zbH,zw,zw]
    omega
theorem dead_scan {δ:Type} (docs:List EDoc) (xs:List Int) (N:Nat) (hN:xs.length<N) (F:(δ->Option Bool)->δ->Option Bool) (st:Nat->δ) (fin:Option Bool) (hend:∀go,F go (st xs.length)=fin)
  (hstep:∀go n (hn:n<xs.length),F go (st n)=bif(docOf docs xs[n]).isSome then go (st (n+1))else some false):iter F N (st 0)=bif xs.all (fun n=>(docOf docs n).isSome)then fin else some false:=
 check_list F xs st (fun n=>(docOf docs n).isSome) (some false) fin hend hstep N hN
theorem liveOk_spec (N:Nat) (hM:Sm<N) (hN:N<=16777216) (c:EConf) (oc:okD Sm TConf c) (l:ELive) (od:∀x,x∈l.1.1->okD Sm TDoc x) (h1:l.1.1.length<=1048576) (h2:l.2.length<=1048576):i_liveOk_m N c.1 c.2 l.1.1 l.1.2 l.2=some (okLive c l):=by
 have hM':1048576<N:=hM
 rw[<-okLive_live]
 unfold i_liveOk_m
 rw[segOk_spec N hM hN c oc l.1 od h1,za,upOk_spec N hM (by omega) l.2 h2,za]
 cases hs:okSeg c l.1 with
 |false=>rfl
 |true=>
  cases hu:upB l.2 with
  |false=>rfl
  |true=>
   have hf:=(okSeg_ok hs).2.1.few
   have hul:=(upB_up hu).2.1
   simp only[zn,ze,zaj]
   refine(dead_scan l.1.1 l.2 N (by omega) _ (fun n=>(l.2,(l.2.length:Int),(n:Int),l.1.1,l.1.2,l.2)) (some (decide (0<(alive l).length))) (fun go=>?_) (fun go n hn=>?_)).trans ?_
   .dsimp only
    rw[zd (zcd _),ze,alive_spec N hM' hN l (by omega) (by omega),za]
    congr 1
    rw[zbH,zw,zw]
    omega
   .dsimp only
    have hsd:=segDoc_spec N l.1 l.2[n] (by omega) hN
    rw[zb (by omega:(n:Int)<l.2.length),zg,idx_at hn,za]
    rw[show((l.1.1,l.1.2):ESeg)=l.1 from rfl,hsd,za,zf (fits_nat (n:=n) (by omega)),cast_succ']
    cases docOf l.1.1 l.2[n]<;>rfl
   .cases l.2.all fun n=>(docOf l.1.1 n).isSome<;>rfl
structure Short (d:EDoc):Prop where
 f:d.2.1.length<=3
 a:d.2.2.length<=3
theorem cut_take' {α:Type} (xs:List α) (n:Nat) (h:n<=xs.length):cut xs 0 (n:Int)=some (xs.take n):=by
 unfold cut
 rw[zf ⟨by omega,by omega,by omega⟩]
 simp
theorem cut_drop' {α:Type} (xs:List α) (n:Nat) (h:n<=xs.length):cut xs (n:Int) (xs.length:Int)=some (xs.drop n):=by
 unfold cut
 rw[zf ⟨by omega,by omega,by omega⟩]
 simp
theorem putD_at (d:EDoc):∀(l:List EDoc) (n:Nat),n<=l.length->(∀x,x∈l.take n->x.1<d.1)->(∀h:n<l.length,¬l[n].1<d.1)->putD l d=l.take n++ [d]++l.drop n
 | [],n,h,_,_=>by simp at h;subst h;rfl
 |x::r,0,_,_,h2=>by
  have:=h2 (by simp)
  unfold putD
  rw[zu (by simpa using this)]
  rfl
 |x::r,n+1,h,h1,h2=>by
  have hx:=h1 x (by rw[zbG];simp)
  unfold putD
  rw[zf hx,putD_at d r n (by simpa using h) (fun y hy=>h1 y (by rw[zbG];simp[hy])) (fun h'=>by
   have:=h2 (by simp;omega)
   simpa using this)]
  rfl
theorem putDoc_spec (N:Nat) (hM:1048576<N) (l:List EDoc) (d:EDoc) (hd:Short d) (hl:l.length<=1000):s_l18Put_m N l d.1 d.2.1 d.2.2=some (putD l d):=by
 refine Def.get ?_
 unfold s_l18Put_m
 have stop:∀n:Nat,n<=l.length->(∀x,x∈l.take n->x.1<d.1)->(∀h:n<l.length,¬l[n].1<d.1)->Def (Option.bind (cut l 0 (n:Int)) fun y=>if room ([]:List EDoc).length y.length 56 then Option.bind (s_l7CopyDoc_m N d.1 d.2.1 d.2.2) fun r=>if room (([]:List EDoc)++y).length ([r]:List EDoc).length 56 then Option.bind (cut l (n:Int) (l.length:Int)) fun y2=>if room ((([]:List EDoc)++y)++([r]:List EDoc)).length y2.length 56 then some (((([]:List EDoc)++y)++([r]:List EDoc))++y2)else none else none else none) fun r=>r=putD l d:=fun n hn h1 h2=>by
  rw[cut_take' l n hn,za,zf (room_of (by rw[zah];simp;omega) (by rw[zah];simp;omega)),l7CopyDoc_spec N d hd.f hd.a,za,
   zf (room_of (by rw[zam,zah,zbE];simp;omega) (by rw[zam,zah,zbE];simp;omega)),cut_drop' l n hn,za,
   zf (room_of (by simp only[zam,zah,zbE,zaQ,zac];omega) (by simp only[zam,zah,zbE,zaQ,zac];omega))]
  exact Def.ret (by rw[putD_at d l n hn h1 h2,zaW])
 refine Def.upto l.length (fun n g=>(∀x,x∈l.take n->x.1<d.1)/\g=(l,(n:Int),d.1,d.2.1,d.2.2)) ?_ ?_ N 0 _ (zaf _) ⟨fun x hx=>by simp at hx,rfl⟩ (by omega)
 .rintro go _ ⟨h1,rfl⟩
  dsimp only
  rw[zd (zcd _),ze]
  exact stop l.length (zae _) h1 fun h=>absurd h (Nat.lt_irrefl _)
 .rintro go n _ hn ⟨h1,rfl⟩ hgo
  dsimp only
  rw[zb (by omega:(n:Int)<l.length),zg,idx_at hn,za]
  refine Def.dif (fun e=>Def.ite (fits_nat (n:=n) (by omega)) (hgo _ ⟨fun x hx=>?_,by rw[cast_succ']⟩)) (fun e=>stop n (by omega) h1 fun _=>e)
  rw[zo hn,zaB,zaD]at hx
  rcases hx with hx|rfl
  .exact h1 x hx
  .exact e
theorem putD_len (l:List EDoc) (d:EDoc):(putD l d).length=l.length+1:=(putD_perm d l).length_eq
theorem foldD_len (l acc:List EDoc):(l.foldl putD acc).length=acc.length+l.length:=by
 induction l generalizing acc with
 |nil=>rfl
 |cons d l ih=>rw[zaq,ih,putD_len,zi];omega
structure Pieces (ls:List ELive):Prop where
 few:ls.length<=5
 docs:∀l,l∈ls->l.1.1.length<=16/\l.2.length<=60/\∀d,d∈l.1.1->Short d
theorem Pieces.len {ls:List ELive} (h:Pieces ls) (n:Nat):(allD (ls.take n)).length<=80:=by
 have key:∀L:List ELive,(∀l,l∈L->l.1.1.length<=16)->(allD L).length<=16*L.length:=by
  intro L
  induction L with
  |nil=>intro _;exact zaf _
  |cons a L ih=>
   intro hL
   have h3:=hL a (by simp)
   have h4:=ih fun l hl=>hL l (by simp[hl])
   have h5:(alive a).length<=a.1.1.length:=zbh _ _
   unfold allD at*
   rw[zbu,zam,zi]
   omega
 have:=key (ls.take n) fun l hl=>(h.docs l (zaP hl)).1
 have:=h.few
 rw[zah]at*
 omega
theorem docs_spec (N:Nat) (hM:1048576<N) (hN:N<=16777216) (c:EConf) (ls:List ELive) (h:Pieces ls):s_l18Docs_m N c.1 c.2 ls=some (sortD (allD ls)):=by
 have hfew:=h.few
 refine Def.get ?_
 unfold s_l18Docs_m
 refine Def.upto ls.length (fun n g=>g=(sortD (allD (ls.take n)),(n:Int),c.1,c.2,ls)) ?_ ?_ N 0 _ (zaf _) rfl (by omega)
 .rintro go _ rfl
  dsimp only
  rw[zd (zcd _),ze,zq]
  exact Def.ret rfl
 .rintro go n _ hn rfl hgo
  dsimp only
  have hm:=zr hn
  obtain⟨b1,b2,b3⟩:=h.docs _ hm
  have hlen:=h.len n
  rw[zb (by omega:(n:Int)<ls.length),zg]
  refine Def.upto ls[n].1.1.length (fun k g=>g=(((ls[n].1.1.take k).filter (fun d=> !decide (d.1∈ls[n].2))).foldl putD (sortD (allD (ls.take n))),(n:Int),(k:Int),c.1,c.2,ls)) ?_ ?_ N 0 _ (zaf _) rfl (by omega)
  .rintro go2 _ rfl
   dsimp only
   rw[idx_at hn,za,zd (zcd _),ze]
   refine Def.ite (fits_nat (n:=n) (by omega)) (hgo _ ?_)
   rw[zq,zo hn,cast_succ']
   unfold allD sortD
   rw[List.flatMap_append,zaX]
   simp[alive]
  .rintro go2 k _ hk rfl hgo2
   dsimp only
   have hol:(((ls[n].1.1.take k).filter (fun d=> !decide (d.1∈ls[n].2))).foldl putD (sortD (allD (ls.take n)))).length<=200:=by
    rw[foldD_len,(sortD_perm _).length_eq]
    have:=zbh (fun d:EDoc=> !decide (d.1∈ls[n].2)) (ls[n].1.1.take k)
    rw[zah]at this
    omega
   have hd8:s_l18Dead_m N ls[n].1.1 ls[n].1.2 ls[n].2 ls[n].1.1[k].1=some (decide (ls[n].1.1[k].1∈ls[n].2)):=by
    unfold s_l18Dead_m
    rw[l8Has_spec N _ _ (by omega) (by omega),za]
   rw[idx_at hn,za,zb (by omega:(k:Int)<ls[n].1.1.length),zg,za,idx_at hk,za,za,hd8,za]
   have hnx:=alive_take ls[n] hk
   cases hv:decide (ls[n].1.1[k].1∈ls[n].2)with
   |true=>
    rw[hv,zg]at hnx
    rw[zn,ze]
    exact Def.ite (fits_nat (n:=k) (by omega)) (hgo2 _ (by rw[hnx,cast_succ']))
   |false=>
    rw[hv,ze]at hnx
    rw[zaI,zg,putDoc_spec N hM _ _ (b3 _ (zr hk)) (by omega),za]
    exact Def.ite (fits_nat (n:=k) (by omega)) (hgo2 _ (by rw[hnx,cast_succ',zaX];rfl))
theorem check_all {α δ ρ:Type} (F:(δ->Option ρ)->δ->Option ρ) (xs:List α) (st:Nat->δ) (P:α->Bool) (no fin:Option ρ) (hend:xs.all P=true->∀go,F go (st xs.length)=fin)
  (hstep:∀go n (hn:n<xs.length),F go (st n)=bif P xs[n]then go (st (n+1))else no) (N:Nat) (h:xs.length<N):iter F N (st 0)=bif xs.all P then fin else no:=by
 cases ht:xs.all P with
 |true=>
  rw[check_list F xs st P no fin (hend ht) hstep N h,ht]
 |false=>
  rw[ze]
  refine fail_at F xs st P no hstep N 0 (by omega) ?_
  rw[List.all_eq_false]at ht
  obtain⟨a,ha,hp⟩:=ht
  obtain⟨k,hk,rfl⟩:=zav.1 ha
  exact⟨k,hk,zaf _,by simpa using hp⟩
structure FitI (N:Nat) (x:EIndex):Prop where
 big:Sm<N
 top:N<=16777216
 oc:okD Sm TConf x.1
 len:x.2.length<=1048576
 each:∀l,l∈x.2->(∀d,d∈l.1.1->okD Sm TDoc d)/\l.1.1.length<=1048576/\l.2.length<=1048576
theorem okLive_ok {c:EConf} {l:ELive} (h:okLive c l=true):okSeg c l.1=true/\l.1.1.length<=16/\l.2.length<=60/\∀d,d∈l.1.1->Short d:=by
 unfold okLive at h
 rw[zj,zj]at h
 have hd:=(okSeg_ok h.1).2.1
 exact⟨h.1,hd.few,(upB_up h.2.1).2.1,fun d hm=>⟨(hd.each d hm).1,(hd.each d hm).2.1⟩⟩
theorem pieces_of {c:EConf} {ls:List ELive} (h5:ls.length<=5) (h:(ls.all (okLive c))=true):Pieces ls:=
 ⟨h5,fun l hl=>by
  obtain⟨_,h1,h2,h3⟩:=okLive_ok (zax.1 h l hl)
  exact⟨h1,h2,h3⟩⟩
def okIdx (x:EIndex):Bool:=okConf x.1&&(decide ((x.2.length:Int)<=5)&&(x.2.all (okLive x.1)&&okDocs (sortD (allD x.2))))
theorem okIdx_ok {x:EIndex} (h:okIdx x=true):okConf x.1=true/\x.2.length<=5/\(x.2.all (okLive x.1))=true/\okDocs (sortD (allD x.2))=true:=by
 unfold okIdx at h
 rw[zj,zj,zj,zw]at h
 exact⟨h.1,by omega,h.2.2.1,h.2.2.2⟩
theorem all_docs {ls:List ELive} {P:EDoc->Prop} (h:∀l,l∈ls->∀d,d∈l.1.1->P d):∀d,d∈allD ls->P d:=fun d hd=>by
 unfold allD alive at hd
 rw[zaT]at hd
 obtain⟨l,hl,hd⟩:=hd
 exact h l hl d (zaZ.1 hd).1
theorem sort_docs {ls:List ELive} {P:EDoc->Prop} (h:∀l,l∈ls->∀d,d∈l.1.1->P d):∀d,d∈sortD (allD ls)->P d:=fun d hd=>all_docs h d ((sortD_perm _).mem_iff.1 hd)
theorem sort_len {ls:List ELive} (h:Pieces ls):(sortD (allD ls)).length<=80:=by
 rw[(sortD_perm _).length_eq]
 have:=h.len ls.length
 rwa[zq]at this
theorem l18Ok_spec {N:Nat} {x:EIndex} (h:FitI N x):s_l18Ok_m N x.1.1 x.1.2 x.2=some (okIdx x):=by
 have hM:1048576<N:=h.big
 have hN:=h.top
 have hlx:=h.len
 have e0:okIdx x=bif x.2.all (okLive x.1)then(okConf x.1&&(decide ((x.2.length:Int)<=5)&&okDocs (sortD (allD x.2))))else false:=by
  unfold okIdx
  cases okConf x.1<;>cases decide ((x.2.length:Int)<=5)<;>cases x.2.all (okLive x.1)<;>rfl
 unfold s_l18Ok_m
 refine(check_all _ x.2 (fun n=>((n:Int),x.1.1,x.1.2,x.2)) (okLive x.1) (some false) (some (okConf x.1&&(decide ((x.2.length:Int)<=5)&&okDocs (sortD (allD x.2))))) (fun hall go=>?_) (fun go n hn=>?_) N (by omega)).trans ?_
 .dsimp only
  rw[zd (zcd _),ze,l2Ok_spec N h.big (by omega) x.1 h.oc,za]
  cases hc:okConf x.1 with
  |false=>rfl
  |true=>
   by_cases h5:(x.2.length:Int)<=5
   .have hp:=pieces_of (c:=x.1) (by omega) hall
    rw[zb h5,zg,zg,docs_spec N hM hN x.1 x.2 hp,za,l6Docs_spec N h.big (by omega) _ (sort_docs fun l hl=>(h.each l hl).1) (by have:=sort_len hp;omega),za]
    rfl
   .rw [zd h5]
    rfl
 .dsimp only
  have hm:=zr hn
  obtain⟨od,h1,h2⟩:=h.each _ hm
  rw[zb (by omega:(n:Int)<x.2.length),zg,idx_at hn,za,l7Ok_spec N h.big hN x.1 h.oc x.2[n].1 od h1,za]
  have e1:okLive x.1 x.2[n]=(okSeg x.1 x.2[n].1&&(upB x.2[n].2&&(decide (x.2[n].2.length<x.2[n].1.1.length)&&x.2[n].2.all fun m=>(docOf x.2[n].1.1 m).isSome))):=rfl
  rw[e1]
  cases hs:okSeg x.1 x.2[n].1 with
  |false=>rfl
  |true=>
   rw[zn,ze,l3Up_spec N h.big (by omega) _ h2,za]
   cases hu:upB x.2[n].2 with
   |false=>rfl
   |true=>
    have hf:=(okSeg_ok hs).2.1.few
    have hul:=(upB_up hu).2.1
    have g:GoodS N x.1 x.2[n].1:=⟨h.big,hN,h.oc,od,hs⟩
    rw[zn,ze,zaj,zaj]
    by_cases hlen:x.2[n].2.length<x.2[n].1.1.length
    .rw [zb hlen,zaj,zd (by omega:¬((x.2[n].1.1.length:Int)<=(x.2[n].2.length:Int))),ze]
     refine(dead_scan x.2[n].1.1 x.2[n].2 N (by omega) _ (fun k=>((n:Int),(k:Int),false,false,x.1.1,x.1.2,x.2,x.2[n].1.1,x.2[n].1.2,x.2[n].2)) (go (((n+1:Nat):Int),x.1.1,x.1.2,x.2)) (fun go2=>?_) (fun go2 k hk=>?_)).trans ?_
     .dsimp only
      rw[zd (zcd _),ze,zf (fits_nat (n:=n) (by omega)),cast_succ']
     .dsimp only
      have hid:∀d,docOf x.2[n].1.1 x.2[n].2[k]=some d->¬d.1=0:=fun d hd e=>by
       have h3:=docOf_some hd
       have h4:=okDoc_each (okSeg_docs hs) d h3.1
       unfold okDoc at h4
       simp only[zj,zw]at h4
       omega
      rw[zb (by omega:(k:Int)<x.2[n].2.length),zg,idx_at hk,za,l12Doc_spec N g,za,zf (fits_nat (n:=k) (by omega)),cast_succ']
      cases hd:docOf x.2[n].1.1 x.2[n].2[k]with
      |none=>rfl
      |some d=>
       show(bif decide (d.1=0)then _ else _)=_
       rw[zd (hid d hd)]
       rfl
     .cases x.2[n].2.all fun m=>(docOf x.2[n].1.1 m).isSome<;>rfl
    .rw [zd hlen,Bool.false_and,zb (by omega:((x.2[n].1.1.length:Int)<=(x.2[n].2.length:Int))),zg]
     rfl
 .rw [e0]
  cases x.2.all (okLive x.1)<;>rfl
def ltI (a b:EDoc):Bool:=decide (a.1<b.1)
theorem ltI_ord :WOrd ltI:=by
 refine⟨fun x y h=>?_,fun x y z h k=>?_⟩
 .unfold ltI at*;rw[zw]at h;rw[decide_eq_false_iff_not];omega
 .unfold ltI at*;rw[decide_eq_false_iff_not]at*;omega
theorem cmpI (N:Nat) (a b:EDoc):Def (cmp669 N () a b) fun r=>decide (r<0)=ltI a b:=by
 show Def (i_allAlive_1_m N a.1 a.2.1 a.2.2 b.1 b.2.1 b.2.2) _
 unfold i_allAlive_1_m
 rw[compareI_spec,za]
 refine Def.ret ?_
 unfold ltI
 by_cases h:a.1<b.1
 .simp [h]
 .by_cases h2:b.1<a.1<;>simp[h,h2]
theorem allAlive_def (N:Nat) (hM:1048576<N) (hN:N<=16777216) (ls:List ELive) (h:Pieces ls):Def (i_allAlive_m N ls) fun R=>R.Perm (allD ls)/\R.Pairwise fun a b=>a.1<=b.1:=by
 have hfew:=h.few
 unfold i_allAlive_m
 refine Def.upto ls.length (fun n g=>g=(allD (ls.take n),ls,(ls.length:Int),(n:Int))) ?_ ?_ N 0 _ (zaf _) rfl (by omega)
 .rintro go _ rfl
  dsimp only
  have hl:=h.len ls.length
  rw[zq]at hl⊢
  rw[zd (zcd _),ze]
  refine Def.bind (sortWk_669 ltI ltI_ord N hN (by omega) (allD ls) () ⟨fun x _ y _=>cmpI N x y⟩ (by omega)) fun R ⟨h1,h2⟩=>Def.ret ⟨h1,h2.imp fun {a b} hab=>?_⟩
  unfold ltI at hab
  rw[decide_eq_false_iff_not]at hab
  omega
 .rintro go n _ hn rfl hgo
  dsimp only
  have hm:=zr hn
  obtain⟨b1,b2,_⟩:=h.docs _ hm
  have hl:=h.len n
  have hal:(alive ls[n]).length<=16:=zau (zbh _ _) b1
  rw[zb (by omega:(n:Int)<ls.length),zg,idx_at hn,za,alive_spec N hM hN ls[n] (by omega) (by omega),za]
  refine Def.ite (room_of (by omega) (by omega)) (Def.ite (fits_nat (n:=n) (by omega)) (hgo _ ?_))
  rw[zo hn,cast_succ']
  unfold allD
  rw[List.flatMap_append]
  simp
theorem indexOk_spec {N:Nat} {x:EIndex} (h:FitI N x):i_IndexOk_m N x.1.1 x.1.2 x.2=some (okIdx x):=by
 have hM:1048576<N:=h.big
 have hN:=h.top
 have hlx:=h.len
 unfold i_IndexOk_m okIdx
 rw[confOk_spec N h.big (by omega) x.1 h.oc,za]
 cases hc:okConf x.1 with
 |false=>rfl
 |true=>
  rw[zn,ze,zaj]
  by_cases h5:(x.2.length:Int)<=5
  .rw [zb h5,zd (by omega:¬(5:Int)<x.2.length),ze,zaj]
   refine(check_all _ x.2 (fun n=>(x.2,(x.2.length:Int),(n:Int),x.1.1,x.1.2,x.2)) (okLive x.1) (some false) (some (okDocs (sortD (allD x.2)))) (fun hall go=>?_) (fun go n hn=>?_) N (by omega)).trans ?_
   .dsimp only
    have hp:=pieces_of (c:=x.1) (by omega) hall
    obtain⟨R,hR,hperm,hle⟩:=allAlive_def N hM hN x.2 hp
    have hps:=hperm.trans (sortD_perm (allD x.2)).symm
    have hlen:=sort_len hp
    rw[zd (zcd _),ze,hR,za,docsOk_spec N h.big (by omega) R (fun d hd=>sort_docs (fun l hl=>(h.each l hl).1) d (hps.mem_iff.1 hd)) (by rw[hps.length_eq];omega),za,docs_same hps hle (sortD_le _)]
   .dsimp only
    have hm:=zr hn
    obtain⟨od,h1,h2⟩:=h.each _ hm
    rw[zb (by omega:(n:Int)<x.2.length),zg,idx_at hn,za,liveOk_spec N h.big hN x.1 h.oc x.2[n] od h1 h2,za,zf (fits_nat (n:=n) (by omega)),cast_succ']
    cases okLive x.1 x.2[n]<;>rfl
   .cases x.2.all (okLive x.1)<;>rfl
  .rw [zd h5,zb (by omega:(5:Int)<x.2.length)]
   rfl
end Go.Proofs.YtcinmmojlcchfaaGreatDoor
