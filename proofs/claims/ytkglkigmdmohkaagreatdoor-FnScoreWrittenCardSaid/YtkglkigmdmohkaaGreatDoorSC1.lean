import Derived.Test.YtkglkigmdmohkaaGreatDoorSB1
import Derived.Test.YtkglkigmdmohkaaGreatDoorQA
set_option linter.unusedVariables false
set_option linter.unusedSimpArgs false
namespace Go.Proofs.YtkglkigmdmohkaaGreatDoor
open Go.RowKit
theorem jzI (N:Nat) (x y:List UInt8):jam N x y=some (if Op.bytesLess x y then-1 else if Op.bytesLess y x then 1 else 0):=by
 unfold jam
 have h:∀z:List UInt8,jbn N z=some false:=fun z=>by unfold jbn;simp
 rw[h,h]
 simp only[za,ze]
 rw[jqg]
 cases h1:Op.bytesLess x y
 .cases h2:Op.bytesLess y x<;>simp
 .simp
theorem jz2 (N:Nat) (hN:4<=N) (x y:Int):jbe N [x,y]=some (if x≠0 then x else if y≠0 then y else 0):=by
 unfold jbe
 obtain⟨N,rfl⟩:∃m,N=m+4:=⟨N-4,by omega⟩
 by_cases h1:x=0
 .by_cases h2:y=0
  .subst h1;subst h2
   simp[iter,idx,fits]
  .subst h1
   simp[iter,idx,fits,h2]
 .simp [iter,idx,fits,h1]
theorem jgq (N:Nat) (hN:4<=N) (a b:EEntry):Def (cmp105 N () a b) fun r=>decide (r<0)=ltK (keyE a) (keyE b):=by
 show Def (je N a.1 a.2.1 a.2.2 b.1 b.2.1 b.2.2) _
 unfold je
 rw[jzI,za,jzI,za,jz2 N hN,za]
 refine Def.ret ?_
 unfold ltK keyE
 dsimp only
 cases h1:Op.bytesLess a.1 b.1
 .cases h2:Op.bytesLess b.1 a.1
  .have he:a.1=b.1:=by
    have:=bytesLess_or a.1 b.1
    rw[h1,h2]at this
    simpa using this
   cases h3:Op.bytesLess a.2.1 b.2.1
   .cases h4:Op.bytesLess b.2.1 a.2.1<;>simp[he]
   .simp [he]
  .have he:a.1≠b.1:=by
    rintro e
    rw[e,bl_irrefl]at h2
    cases h2
   simp[he]
 .simp
theorem jlu {a b:EKey} (h:ltK a b=true):ltK b a=false:=by
 cases h2:ltK b a
 .rfl
 .have:=ltK_trans h h2
  rw[ltK_irrefl]at this
  cases this
theorem ji8 {a b:EKey} (h:a≠b):ltK a b=true\/ltK b a=true:=by
 unfold ltK
 cases h1:Op.bytesLess a.1 b.1
 .cases h2:Op.bytesLess b.1 a.1
  .have he:a.1=b.1:=by
    have:=bytesLess_or a.1 b.1
    rw[h1,h2]at this
    simpa using this
   have hne:a.2≠b.2:=fun e=>h (Prod.ext he e)
   cases h3:Op.bytesLess a.2 b.2
   .right;simp[he,bl_total h3 hne]
   .left;simp[he]
  .right;simp
 .left;simp
theorem ji6 :Ordr fun a b:EEntry=>ltK (keyE a) (keyE b):=⟨fun x y h=>jlu h,fun x y z h k=>ltK_trans h k⟩
def Small (m:Nat) (es:List EEntry):Prop:=es.length<=m/\∀e,e∈es->e.2.2.length<=m/\∀p,p∈e.2.2->p.2.length<=m
theorem jjx {m:Nat} {ps:List EPost} (id a:Int) (h:ps.length<=m/\∀p,p∈ps->p.2.length<=m):(addPost ps id a).length<=m+1/\∀p,p∈addPost ps id a->p.2.length<=m+1:=by
 rcases List.eq_nil_or_concat ps with rfl|⟨q,p,rfl⟩
 .unfold addPost
  simp
 .rw [List.concat_eq_append]at*
  unfold addPost
  rw[show(q++ [p]).getLast? =some p from by simp]
  dsimp only
  have hp:=h.2 p (by simp)
  have hq:∀y,y∈q->y.2.length<=m:=fun y hy=>h.2 y (by simp[hy])
  have hl:=h.1
  simp only[zam,zi,zac]at hl
  by_cases e:p.1=id
  .rw [zf e,List.dropLast_concat]
   refine⟨by simp only[zam,zi,zac];omega,fun y hy=>?_⟩
   rcases zaB.1 hy with hy|hy
   .exact Nat.le_succ_of_le (hq y hy)
   .rw [zaD]at hy
    subst hy
    simp only[zam,zi,zac];omega
  .rw [zu e]
   refine⟨by simp only[zam,zi,zac];omega,fun y hy=>?_⟩
   rcases zaB.1 hy with hy|hy
   .exact Nat.le_succ_of_le (h.2 y hy)
   .rw [zaD]at hy
    subst hy
    simp
theorem jgc {m:Nat} (o:EOcc):∀es:List EEntry,(∀e,e∈es->e.2.2.length<=m/\∀p,p∈e.2.2->p.2.length<=m)->(putE o es).length<=es.length+1/\∀e,e∈putE o es->e.2.2.length<=m+1/\∀p,p∈e.2.2->p.2.length<=m+1
 | [],_=>by
  unfold putE
  refine⟨by simp,fun e he=>?_⟩
  rw[zaD]at he
  subst he
  exact jjx _ _ (m:=m) (ps:=[]) ⟨by simp,by simp⟩
 |d::l,h=>by
  have hm:∀e,e∈d::l->e.2.2.length<=m+1/\∀p,p∈e.2.2->p.2.length<=m+1:=fun e he=>⟨Nat.le_succ_of_le (h e he).1,fun p hp=>Nat.le_succ_of_le ((h e he).2 p hp)⟩
  unfold putE
  by_cases hk:keyE d=o.1
  .rw [zf hk]
   refine⟨by simp,fun e he=>?_⟩
   rcases zp.1 he with rfl|he
   .exact jjx _ _ (h d zy)
   .exact hm e (zl _ he)
  .rw [zu hk]
   have ih:=jgc o l fun e he=>h e (zl _ he)
   refine⟨by simp only[zi];omega,fun e he=>?_⟩
   rcases zp.1 he with rfl|he
   .exact hm _ zy
   .exact ih.2 e he
theorem jcS (l:List EOcc):Small l.length (putAll l):=by
 have key:∀(l:List EOcc) (es:List EEntry) (m:Nat),Small m es->Small (m+l.length) (l.foldl (fun es o=>putE o es) es):=by
  intro l
  induction l with
  |nil=>intro es m h;exact h
  |cons o l ih=>
   intro es m h
   have h2:=jgc o es h.2
   have:=ih (putE o es) (m+1) ⟨by have:=h.1;omega,h2.2⟩
   rw[zi,show m+(l.length+1)=m+1+l.length from by omega]
   exact this
 have:=key l [] 0 ⟨by simp,fun e he=>by cases he⟩
 rwa[zaY]at this
theorem jnq (N:Nat) (d:EDoc) (h1:d.2.1.length<=3) (h2:d.2.2.length<=3):jbO N d.1 d.2.1 d.2.2=some d:=by
 unfold jbO
 rw[zf (room_of (by simp;omega) (by simp;omega)),zf (room_of (by simp;omega) (by simp;omega))]
 rfl
theorem jrH (N:Nat) {docs:List EDoc} (hd:DOk docs) (hN:16<N):jbV N docs=some docs:=by
 unfold jbV
 have hf:=hd.few
 refine(iter_scan _ docs.length (fun k=>(docs.take k,docs,(docs.length:Int),(k:Int))) (fun _=>some docs) (fun go=>?_) (fun go k hk hgo=>?_) N 0 (zaf _) (by omega)).trans rfl
 .dsimp only
  rw[zd (zcd _),ze,zq]
 .dsimp only
  have he:=hd.each _ (zr hk)
  rw[zb (by omega:(k:Int)<docs.length),zg,idx_at hk,za,jnq N docs[k] he.1 he.2.1,za,zf (room_of (by simp;omega) (by simp;omega)),zf (fits_nat (n:=k) (by omega)),<-hgo,zo hk,cast_succ']
theorem jfD (c:EConf) {docs:List EDoc} (hd:DOk docs) {d:EDoc} (h:d∈docs) (k:Nat):(occF c d.1 (d.2.1.take k)).length<=480:=by
 unfold occF
 have he:=hd.each d h
 have h1:=flat_len (fun f:EField=>(terms c f.2).map fun t=>(((f.1,t.1),d.1,t.2):EOcc)) 160 (d.2.1.take k) fun f hf=>by
  rw[zar]
  exact zau (terms_len c _) (he.2.2 f (zaP hf)).2
 have h2:(d.2.1.take k).length<=3:=by rw[zah];omega
 omega
theorem jdD (c:EConf) {docs:List EDoc} (hd:DOk docs) (n:Nat):(occ c (docs.take n)).length<=7680:=by
 unfold occ
 have hf:=hd.few
 have h1:=flat_len (fun d:EDoc=>occF c d.1 d.2.1) 480 (docs.take n) fun d hx=>by
  have:=jfD c hd (zaP hx) d.2.1.length
  rw[zq]at this
  exact this
 have h2:(docs.take n).length<=16:=by rw[zah];omega
 omega
theorem jme (N:Nat) (hM:Sm<N) (hN:N<=16777216) (c:EConf) (ho:okD Sm TConf c) (docs:List EDoc) (hod:∀x,x∈docs->okD Sm TDoc x) (hl:docs.length<=1048576):jbT N c.1 c.2 docs=some (bif okConf c&&okDocs docs then(docs,entriesS c docs)else([],[])):=by
 have hM':1048576<N:=hM
 refine Def.get ?_
 unfold jbT
 rw[jdu N hM (by omega) c ho,za]
 cases hc:okConf c with
 |false=>exact Def.ret rfl
 |true=>
 rw[zn,ze,jjB N hM (by omega) docs hod hl,za]
 cases hdd:okDocs docs with
 |false=>exact Def.ret rfl
 |true=>
 have hd:=okDocs_ok hdd
 have hf:=hd.few
 rw[zn,ze,jrH N hd (by omega),za,Bool.and_self,zg]
 refine Def.upto docs.length (fun n g=>g=(docs,(docs.length:Int),(n:Int),c.1,c.2,docs,putAll (occ c (docs.take n)))) (fun go g hg=>?_) (fun go n g hn hg hgo=>?_) N 0 _ (zaf _) rfl (by omega)
 .subst hg
  dsimp only
  rw[zd (zcd _),ze,zq]
  have hsm:=jcS (occ c docs)
  have hol:=jdD c hd docs.length
  rw[zq]at hol
  refine Def.bind (sortAny_105 (fun a b=>ltK (keyE a) (keyE b)) ji6 N hN (by omega) (putAll (occ c docs)) () ⟨fun x hx y hy=>jgq N (by omega) x y,?_⟩ (by have:=hsm.1;omega)) fun R hR=>Def.ret ?_
  .exact (zbb.1 (putAll_canon (occ c docs)).nodup).imp fun h=>ji8 h
  .rw [sorted_entries c hd.inn hR.1 hR.2]
 .subst hg
  dsimp only
  have hmem:=zr hn
  have he:=hd.each _ hmem
  rw[zb (by omega:(n:Int)<docs.length),zg,idx_at hn,za]
  have ho1:=jdD c hd n
  refine Def.upto docs[n].2.1.length (fun k g=>g=(docs,(docs.length:Int),(n:Int),docs[n].2.1,(docs[n].2.1.length:Int),(k:Int),c.1,c.2,docs,putAll (occ c (docs.take n)++occF c docs[n].1 (docs[n].2.1.take k)),docs[n].1,docs[n].2.1,docs[n].2.2)) (fun go2 g hg=>?_) (fun go2 k g hk hg hgo2=>?_) N 0 _ (zaf _) (by rw[List.take_zero,show occF c docs[n].1 []=[]from rfl,zat];rfl) (by omega)
  .subst hg
   dsimp only
   rw[zd (zcd _),ze,zq,zf (fits_nat (n:=n) (by omega))]
   refine hgo _ ?_
   rw[cast_succ']
   unfold occ
   rw[flat_step _ _ _ hn]
  .subst hg
   dsimp only
   have hok:=he.2.2 _ (zr hk)
   rw[zb (by omega:(k:Int)<docs[n].2.1.length),zg,idx_at hk,za,termsOf_spec N c _ (by omega) hM (by omega) ho,za,hc,hok.1,Bool.and_self,zg]
   have htl:=terms_len c docs[n].2.1[k].2
   have ho2:=jfD c hd hmem k
   refine Def.upto (terms c docs[n].2.1[k].2).length (fun j g=>g=(docs,(docs.length:Int),(n:Int),docs[n].2.1,(docs[n].2.1.length:Int),(k:Int),terms c docs[n].2.1[k].2,((terms c docs[n].2.1[k].2).length:Int),(j:Int),c.1,c.2,docs,putAll (occ c (docs.take n)++occF c docs[n].1 (docs[n].2.1.take k)++((terms c docs[n].2.1[k].2).take j).map fun t=>((docs[n].2.1[k].1,t.1),docs[n].1,t.2)),docs[n].1,docs[n].2.1,docs[n].2.2,docs[n].2.1[k].1,docs[n].2.1[k].2)) (fun go3 g hg=>?_) (fun go3 j g hj hg hgo3=>?_) N 0 _ (zaf _) (by rw[List.take_zero,zck,zat];rfl) (by omega)
   .subst hg
    dsimp only
    rw[zd (zcd _),ze,zq,zf (fits_nat (n:=k) (by omega))]
    refine hgo2 _ ?_
    rw[cast_succ']
    unfold occF
    rw[flat_step _ _ _ hk,zao]
   .subst hg
    dsimp only
    rw[zb (by omega:(j:Int)<((terms c docs[n].2.1[k].2).length:Int)),zg,idx_at hj,za]
    have hsm:=jcS (occ c (docs.take n)++occF c docs[n].1 (docs[n].2.1.take k)++((terms c docs[n].2.1[k].2).take j).map fun t=>(((docs[n].2.1[k].1,t.1),docs[n].1,t.2):EOcc))
    have hlen:(occ c (docs.take n)++occF c docs[n].1 (docs[n].2.1.take k)++((terms c docs[n].2.1[k].2).take j).map fun t=>(((docs[n].2.1[k].1,t.1),docs[n].1,t.2):EOcc)).length<=8320:=by
     rw[zam,zam,zar,zah]
     omega
    rw[put_spec N _ _ _ _ _ (by have:=hsm.1;omega) (by have:=hsm.1;omega) (fun e h=>⟨by have:=(hsm.2 e h).1;omega,fun p hp=>by have:=(hsm.2 e h).2 p hp;omega⟩),za,zf (fits_nat (n:=j) (by omega))]
    refine hgo3 _ ?_
    rw[cast_succ',map_step _ _ _ hj,<-zao,joA]
theorem entries_small (c:EConf) {docs:List EDoc} (hd:DOk docs):Small 7680 (entriesS c docs):=by
 have hsm:=jcS (occ c docs)
 have hol:=jdD c hd docs.length
 rw[zq]at hol
 obtain⟨R,_,hp,hs⟩:=sortAny_105 (fun a b=>ltK (keyE a) (keyE b)) ji6 16777216 (zae _) (by omega) (putAll (occ c docs)) () ⟨fun x hx y hy=>jgq _ (by omega) x y,(zbb.1 (putAll_canon (occ c docs)).nodup).imp fun h=>ji8 h⟩ (by have:=hsm.1;omega)
 rw[<-sorted_entries c hd.inn hp hs]
 refine⟨by rw[hp.length_eq];exact zau hsm.1 hol,fun e he=>?_⟩
 have:=hsm.2 e (hp.mem_iff.1 he)
 exact⟨zau this.1 hol,fun p hp=>zau (this.2 p hp) hol⟩
theorem jaH {α δ:Type} [DecidableEq α] (F:(δ->Option Bool)->δ->Option Bool) (a b:List α) (h:a.length=b.length) (st:Nat->δ) (hend:∀go,F go (st a.length)=some true) (hstep:∀go (n:Nat) (hn:n<a.length) (hb:n<b.length),F go (st n)=bif decide (a[n]=b[n])then go (st (n+1))else some false) (N:Nat) (hN:a.length<N):iter F N (st 0)=some (decide (a=b)):=by
 refine(iter_scan F a.length st (fun n=>some (decide (a.drop n=b.drop n))) (fun go=>?_) (fun go n hn hgo=>?_) N 0 (zaf _) (by omega)).trans (by rw[zbQ,zbQ])
 .rw [hend,zbp,h,zbp];simp
 .rw [hstep go n hn (by omega),jhZ hn (by omega),hgo]
  cases decide (a[n]=b[n])<;>rfl
theorem jat {α:Type} {a b:List α} (h:¬(a.length:Int)=(b.length:Int)):¬a=b:=fun e=>h (by rw[e])
theorem jp3 (N:Nat) (a b:List Int) (hN:a.length<N) (hl:a.length<=1000000):jbX N a b=some (decide (a=b)):=by
 unfold jbX
 by_cases h:(a.length:Int)=(b.length:Int)
 .rw [zb h,zn,ze]
  refine jaH _ a b (by omega) (fun n=>(a,b,(a.length:Int),(n:Int))) (fun go=>?_) (fun go n hn hb=>?_) N hN
  .dsimp only
   rw[zd (zcd _),ze]
  .dsimp only
   rw[zb (by omega:(n:Int)<a.length),zg,idx_at hn,za,idx_at hb,za,zf (fits_nat (n:=n) (by omega)),cast_succ']
   cases decide (a[n]=b[n])<;>rfl
 .rw [zd h,zaI,zg,zd (jat h)]
theorem jsm (N:Nat) (a b:List Int) (hN:a.length<N) (hl:a.length<=1000000):jb1 N a b=some (decide (a=b)):=by
 unfold jb1
 by_cases h:(a.length:Int)=(b.length:Int)
 .rw [zb h,zn,ze]
  refine jaH _ a b (by omega) (fun n=>(a,b,(n:Int))) (fun go=>?_) (fun go n hn hb=>?_) N hN
  .dsimp only
   rw[zd (zcd _),ze]
  .dsimp only
   rw[zb (by omega:(n:Int)<a.length),zg,idx_at hn,za,idx_at hb,za,zf (fits_nat (n:=n) (by omega)),cast_succ']
   cases decide (a[n]=b[n])<;>rfl
 .rw [zd h,zaI,zg,zd (jat h)]
theorem je2 (a b:EPost):decide (a=b)=(decide (a.1=b.1)&&decide (a.2=b.2)):=by
 rw[zbH,zj,zw,zw,zw,Prod.ext_iff]
theorem jjZ (a b:EEntry):decide (a=b)=(decide (a.1=b.1)&&(decide (a.2.1=b.2.1)&&decide (a.2.2=b.2.2))):=by
 rw[zbH,zj,zj,zw,zw,zw,zw,Prod.ext_iff,Prod.ext_iff]
theorem jls (N:Nat) (a b:EPost) (hN:a.2.length<N) (hl:a.2.length<=1000000):jcp N a.1 a.2 b.1 b.2=some (decide (a=b)):=by
 unfold jcp
 rw[jp3 N _ _ hN hl,za,je2]
 cases decide (a.1=b.1)<;>rfl
theorem jpo (N:Nat) (a b:List EPost) (hN:a.length<N) (hl:a.length<=1000000) (hp:∀p,p∈a->p.2.length<N/\p.2.length<=1000000):jb6 N a b ()=some (decide (a=b)):=by
 unfold jb6
 by_cases h:(a.length:Int)=(b.length:Int)
 .rw [zb h,zn,ze]
  refine jaH _ a b (by omega) (fun n=>(b,(),a,(a.length:Int),(n:Int))) (fun go=>?_) (fun go n hn hb=>?_) N hN
  .dsimp only
   rw[zd (zcd _),ze]
  .dsimp only
   have hpn:=hp _ (zr hn)
   rw[zb (by omega:(n:Int)<a.length),zg,idx_at hn,za,idx_at hb,za,jls N _ _ hpn.1 hpn.2,za,zf (fits_nat (n:=n) (by omega)),cast_succ']
   cases decide (a[n]=b[n])<;>rfl
 .rw [zd h,zaI,zg,zd (jat h)]
theorem jkm (N:Nat) (a b:EEntry) (hN:a.2.2.length<N) (hl:a.2.2.length<=1000000) (hp:∀p,p∈a.2.2->p.2.length<N/\p.2.length<=1000000):jcz N a.1 a.2.1 a.2.2 b.1 b.2.1 b.2.2=some (decide (a=b)):=by
 unfold jcz
 rw[jpo N _ _ hN hl hp,za,jjZ]
 cases decide (a.1=b.1)<;>cases decide (a.2.1=b.2.1)<;>rfl
theorem jqe (N:Nat) (a b:List EEntry) (m:Nat) (hm:m<N) (hm2:m<=1000000) (hs:Small m a):jcn N a b ()=some (decide (a=b)):=by
 unfold jcn
 have hal:=hs.1
 by_cases h:(a.length:Int)=(b.length:Int)
 .rw [zb h,zn,ze]
  refine jaH _ a b (by omega) (fun n=>(b,(),a,(a.length:Int),(n:Int))) (fun go=>?_) (fun go n hn hb=>?_) N (by omega)
  .dsimp only
   rw[zd (zcd _),ze]
  .dsimp only
   have hpn:=hs.2 _ (zr hn)
   rw[zb (by omega:(n:Int)<a.length),zg,idx_at hn,za,idx_at hb,za,jkm N _ _ (by omega) (by omega) (fun p hp=>by have:=hpn.2 p hp;omega),za,zf (fits_nat (n:=n) (by omega)),cast_succ']
   cases decide (a[n]=b[n])<;>rfl
 .rw [zd h,zaI,zg,zd (jat h)]
theorem jqj (N:Nat) (a b:EEntry) (hN:a.2.2.length<N) (hl:a.2.2.length<=1000000) (hp:∀p,p∈a.2.2->p.2.length<N/\p.2.length<=1000000):jbQ N a.1 a.2.1 a.2.2 b.1 b.2.1 b.2.2=some (decide (a=b)):=by
 unfold jbQ
 rw[jjZ]
 by_cases h1:a.1=b.1
 .rw [zb h1,zn,ze,zaj]
  by_cases h2:a.2.1=b.2.1
  .rw [zb h2,zn,ze,zaj]
   by_cases h:(a.2.2.length:Int)=(b.2.2.length:Int)
   .rw [zb h,zn,ze]
    refine jaH _ a.2.2 b.2.2 (by omega) (fun n=>((n:Int),a.1,a.2.1,a.2.2,b.1,b.2.1,b.2.2)) (fun go=>?_) (fun go n hn hb=>?_) N hN
    .dsimp only
     rw[zd (zcd _),ze]
    .dsimp only
     have hpn:=hp _ (zr hn)
     rw[zb (by omega:(n:Int)<a.2.2.length),zg,idx_at hn,za,idx_at hb,za,za,za,jsm N _ _ hpn.1 hpn.2,za,zf (fits_nat (n:=n) (by omega)),cast_succ',je2]
     cases decide (a.2.2[n].1=b.2.2[n].1)<;>cases decide (a.2.2[n].2=b.2.2[n].2)<;>rfl
   .rw [zd h,zaI,zg,zd (jat h)]
  .rw [zd h2];rfl
 .rw [zd h1];rfl
def okSeg (c:EConf) (s:ESeg):Bool:=okConf c&&(okDocs s.1&&decide (entriesS c s.1=s.2))
theorem segOk_spec (N:Nat) (hM:Sm<N) (hN:N<=16777216) (c:EConf) (ho:okD Sm TConf c) (s:ESeg) (hod:∀x,x∈s.1->okD Sm TDoc x) (hl:s.1.length<=1048576):i_SegOk_m N c.1 c.2 s.1 s.2=some (okSeg c s):=by
 have hM':1048576<N:=hM
 unfold i_SegOk_m okSeg
 rw[jdu N hM (by omega) c ho,za]
 cases hc:okConf c with
 |false=>rfl
 |true=>
 rw[zn,ze,jjB N hM (by omega) s.1 hod hl,za]
 cases hdd:okDocs s.1 with
 |false=>rfl
 |true=>
 rw[zn,ze,jme N hM hN c ho s.1 hod hl,za,hc,hdd,Bool.and_self,zg]
 rw[jqe N _ _ 7680 (by omega) (by omega) (entries_small c (okDocs_ok hdd))]
 rfl
theorem l7Ok_spec (N:Nat) (hM:Sm<N) (hN:N<=16777216) (c:EConf) (ho:okD Sm TConf c) (s:ESeg) (hod:∀x,x∈s.1->okD Sm TDoc x) (hl:s.1.length<=1048576):s_l7Ok_m N c.1 c.2 s.1 s.2=some (okSeg c s):=by
 have hM':1048576<N:=hM
 unfold s_l7Ok_m okSeg
 rw[jsb N hM (by omega) c ho,za]
 cases hc:okConf c with
 |false=>rfl
 |true=>
 rw[zn,ze,jk7 N hM (by omega) s.1 hod hl,za]
 cases hdd:okDocs s.1 with
 |false=>rfl
 |true=>
 have hs:=entries_small c (okDocs_ok hdd)
 have hal:=hs.1
 rw[zn,ze,l7Of_spec N c hc (okDocs_ok hdd) hM',za,zaj,zaj]
 generalize entriesS c s.1=a at*
 obtain⟨d,b⟩:=s
 by_cases h:(a.length:Int)=(b.length:Int)
 .rw [zb h,zn,ze]
  refine jaH _ a b (by omega) (fun n=>((n:Int),d,b,d,a)) (fun go=>?_) (fun go n hn hb=>?_) N (by omega)
  .dsimp only
   rw[zd (zcd _),ze]
  .dsimp only
   have hpn:=hs.2 _ (zr hn)
   rw[zb (by omega:(n:Int)<a.length),zg,idx_at hn,za,idx_at hb,za,jqj N _ _ (by omega) (by omega) (fun p hp=>by have:=hpn.2 p hp;omega),za,zf (fits_nat (n:=n) (by omega)),cast_succ']
   cases decide (a[n]=b[n])<;>rfl
 .rw [zd h,zaI,zg,zd (jat h)]
theorem fits_abs {n:Int} (h0: -9223372036854775800<=n) (h1:n<=9223372036854775800):fits n:=by unfold fits;omega
theorem jes (a b:Nat) (h:b≠0):Nat.gcd b (a%b)=Nat.gcd a b:=by rw[Nat.gcd_comm a b,Nat.gcd_rec b a,Nat.gcd_comm]
theorem jhW (N:Nat) (a b:Nat) (h:b<N) (ha:(a:Int)<=1000000000000) (hb:(b:Int)<=1000000000000):ja2 N a b=some (Nat.gcd a b:Int):=by
 refine Def.get ?_
 unfold ja2
 refine Def.iter (fun g=>∃x y:Nat,g=((x:Int),(y:Int))/\Nat.gcd x y=Nat.gcd a b/\x<=1000000000000/\y<=1000000000000) (fun g=>g.2.toNat) (fun go g hI hgo=>?_) N _ ⟨a,b,rfl,rfl,by omega,by omega⟩ (by simpa using h)
 obtain⟨x,y,rfl,he,hx,hy⟩:=hI
 dsimp only
 by_cases e:(y:Int)=0
 .have e':y=0:=by omega
  rw[zb e,zn,ze,zf (fits_abs (by omega) (by omega)),zu (by omega)]
  refine Def.ret ?_
  rw[<-he,e',Nat.gcd_zero_right]
 .rw [zd e,zaI,zg,zf e]
  have e':y≠0:=by omega
  have ht:(x:Int).tmod (y:Int)=((x%y:Nat):Int):=by rw[Int.tmod_eq_emod_of_nonneg (by omega)];rfl
  rw[ht]
  have hl:=zct x (by omega:0<y)
  refine hgo _ ⟨y,x%y,rfl,by rw[jes x y e',he],hy,by omega⟩ ?_
  show(((x%y:Nat):Int)).toNat<((y:Nat):Int).toNat
  rw[zai,zai]
  exact hl
theorem jf8 (N:Nat):∀(D a b:Nat),b<D->(a:Int)<=1000000000000->(b:Int)<=1000000000000->jaY N D a b=some (Nat.gcd a b:Int)
 |0,a,b,h,_,_=>by omega
 |D+1,a,b,h,ha,hb=>by
  refine Def.get ?_
  unfold jaY
  refine Def.meet (fun g=>g=((a:Int),(b:Int))) (fun g hg=>?_) (fun J hJ=>?_)
  .subst hg
   dsimp only
   by_cases e:(b:Int)=0
   .have e':b=0:=by omega
    rw[zb e,zg]
    exact Def.ret (by rw[e',Nat.gcd_zero_right])
   .have e':b≠0:=by omega
    have ht:(a:Int).tmod (b:Int)=((a%b:Nat):Int):=by rw[Int.tmod_eq_emod_of_nonneg (by omega)];rfl
    have hl:=zct a (by omega:0<b)
    rw[zd e,ze,zf e,ht,jf8 N D b (a%b) (by omega) hb (by omega),za]
    exact Def.ret (by rw[jes a b e'])
  .rw [zd (by omega),ze]
   exact hJ _ rfl
theorem fits_div {a b:Nat} (ha:(a:Int)<=1000000000000):fits ((a:Int).tdiv (b:Int)):=by
 rw[tdiv_nat]
 have:=za5 a b
 generalize a/b=z at*
 exact fits_abs (by omega) (by omega)
theorem gcd_pos' {a b:Nat} (hb:0<b):0<Nat.gcd a b:=Nat.gcd_pos_of_pos_right a hb
theorem make_spec (N a b:Nat) (h:b<N) (hb0:0<b) (ha:(a:Int)<=1000000000000) (hb:(b:Int)<=1000000000000):jcf N a b=some (((a/Nat.gcd a b:Nat):Int),((b/Nat.gcd a b:Nat):Int)):=by
 refine Def.get ?_
 unfold jcf
 have hg:=gcd_pos' (a:=a) hb0
 refine Def.meet (fun g=>g=((a:Int),(b:Int),0,0)) (fun g hg2=>?_) (fun J hJ=>?_)
 .subst hg2
  dsimp only
  rw[jf8 N N a b h ha hb,za,zf (by omega),zf (fits_div ha),zf (by omega),zf (fits_div hb),tdiv_nat,tdiv_nat]
  exact Def.ret rfl
 .rw [zd (by omega),ze]
  exact hJ _ rfl
theorem jeE (N a b:Nat) (h:b<N) (ha:(a:Int)<=1000000000) (hb0:0<b) (hb:(b:Int)<=1000000000):jbk N a b=some (decide (Nat.gcd a b=1)):=by
 unfold jbk
 rw[within_spec,za,zb (by omega),zb ha,zaV,zg,within_spec,za,zb (by omega),zb hb,zaV,zg,jhW N a b h (by omega) (by omega),za]
 congr 1
 rw[decide_eq_decide]
 omega
theorem ratOf_spec (N a b:Nat) (h:b<N) (ha:(a:Int)<=1000000000) (hb0:0<b) (hb:(b:Int)<=1000000000):jb7 N a b=some (((a/Nat.gcd a b:Nat):Int),((b/Nat.gcd a b:Nat):Int),true):=by
 have hg:=gcd_pos' (a:=a) hb0
 have h1:=za5 a (Nat.gcd a b)
 have h2:=za5 b (Nat.gcd a b)
 have h3:0<b/Nat.gcd a b:=Nat.div_pos (Nat.le_of_dvd hb0 (Nat.gcd_dvd_right a b)) hg
 have hl:jcl N a b=some (((a/Nat.gcd a b:Nat):Int),((b/Nat.gcd a b:Nat):Int),true):=by
  refine Def.get ?_
  unfold jcl
  refine Def.meet (fun g=>g=((a:Int),(b:Int),0,0)) (fun g hg2=>?_) (fun J hJ=>?_)
  .subst hg2
   dsimp only
   rw[jhW N a b h (by omega) (by omega),za,zf (by omega),zf (fits_div (by omega)),zf (by omega),zf (fits_div (by omega)),tdiv_nat,tdiv_nat,jeE N _ _ (by omega) (by omega) h3 (by omega),za,zb (Nat.gcd_div_gcd_div_gcd_of_pos_right hb0),zn,ze]
   exact Def.ret rfl
  .rw [zd (by omega),ze]
   exact hJ _ rfl
 unfold jb7
 rw[within_spec,za,zb (by omega),zb ha,zaV,zn,ze,within_spec,za,zb (by omega),zb hb,zaV,zn,ze,zd (by omega),ze,hl,za]
theorem ratFloor_spec (N a b:Nat) (h:b<N) (ha:(a:Int)<=1000000000) (hb0:0<b) (hb:(b:Int)<=1000000000) (hg:Nat.gcd a b=1):i_RatFloor_m N a b 1000=some ((a*1000/b:Nat):Int):=by
 unfold i_RatFloor_m
 rw[jeE N a b h ha hb0 hb,za,zb hg,zn,ze,within_spec,za,zb (by omega),zb (by omega),zaV,zn,ze,show(a:Int)*1000=((a*1000:Nat):Int)from by omega,zf (fits_abs (by omega) (by omega)),zb (by omega),zg,zf (by omega),zf (fits_div (by omega)),tdiv_nat]
def rareF (df docs:Nat):Nat:=Nat.log2 (docs/df)
def jfF (docs df:Nat):Bool:=decide (rareF df docs<=4)&&((List.range 5).all (fun l=> !decide (l<rareF df docs)||decide (df*2^(l+1)<=docs))&&decide (docs<df*2^(rareF df docs+1)))
theorem jrj :((List.range 17).all fun docs=>(List.range 17).all fun df=> !decide (1<=df)||(!decide (df<=docs)||jfF docs df))=true:=by decide+kernel
theorem rare_ok {df docs:Nat} (h0:1<=df) (h1:df<=docs) (h2:docs<=16):rareF df docs<=4/\(∀l,l<rareF df docs->df*2^(l+1)<=docs)/\docs<df*2^(rareF df docs+1):=by
 have h:=zax.1 (zax.1 jrj docs (List.mem_range.2 (by omega))) df (List.mem_range.2 (by omega))
 rw[zb h0,zb h1,zn,zbf,zbf]at h
 unfold jfF at h
 rw[zj,zj,zw,zw]at h
 refine⟨h.1,fun l hl=>?_,h.2.2⟩
 have h3:=zax.1 h.2.1 l (List.mem_range.2 (by omega))
 rw[zb hl,zn,zbf,zw]at h3
 exact h3
theorem l12Rare_spec (N:Nat) (df docs:Nat) (hN:20<N) (h0:1<=df) (h1:df<=docs) (h2:docs<=16):jbz N df docs=some (rareF df docs:Int):=by
 obtain⟨a,b,c⟩:=rare_ok h0 h1 h2
 refine Def.get ?_
 unfold jbz
 refine Def.upto (rareF df docs) (fun n g=>g=(((df*2^n:Nat):Int),(docs:Int),(n:Int))) (fun go g hg=>?_) (fun go n g hn hg hgo=>?_) N 0 _ (zaf _) (by simp) (by omega)
 .subst hg
  dsimp only
  rw[Nat.pow_succ,<-Nat.mul_assoc]at c
  have h3:0<df*2^rareF df docs:=Nat.mul_pos h0 (Nat.two_pow_pos _)
  have h4:df*2^rareF df docs<=16*16:=zbX (by omega) (by have:=Nat.pow_le_pow_right (n:=2) (by omega) a;omega)
  generalize df*2^rareF df docs=z at*
  rw[zb (by omega),zg,zf (fits_abs (by omega) (by omega)),zd (by omega),ze]
  exact Def.ret rfl
 .subst hg
  dsimp only
  have hb:=b n hn
  rw[Nat.pow_succ,<-Nat.mul_assoc]at hb
  have h3:0<df*2^n:=Nat.mul_pos h0 (Nat.two_pow_pos _)
  have hz:(((df*2^n:Nat):Int))*2=((df*2^(n+1):Nat):Int):=by rw[Nat.pow_succ,<-Nat.mul_assoc];omega
  rw[zb (by omega),zg,zf (fits_abs (by omega) (by omega)),zb (by omega),zg,zf (fits_abs (by omega) (by omega)),zf (fits_nat (n:=n) (by omega)),hz]
  exact hgo _ (by rw[cast_succ'])
def termUp (tf docs df:Nat):Nat:=22*tf*(rareF df docs+1)
def termDown (tf long total docs:Nat):Nat:=10*tf+3+9*long*docs/total
def worth (tf long total docs df:Nat):Nat:=
 let u:=termUp tf docs df
 let d:=termDown tf long total docs
 u/Nat.gcd u d*1000/(d/Nat.gcd u d)
structure Fair (tf long total docs df:Nat):Prop where
 tf0:1<=tf
 tf1:tf<=long
 long1:long<=80
 docs1:docs<=16
 df0:1<=df
 df1:df<=docs
 total0:long<=total
 total1:total<=1280
theorem Fair.up {tf long total docs df:Nat} (h:Fair tf long total docs df):termUp tf docs df<=8800:=by
 have h1:=(rare_ok h.df0 h.df1 h.docs1).1
 have:=h.tf1;have:=h.long1
 unfold termUp
 exact zau (zbX (by omega:22*tf<=1760) (by omega:rareF df docs+1<=5)) (by omega)
theorem Fair.mul {tf long total docs df:Nat} (h:Fair tf long total docs df):9*long*docs<=11520:=by
 have:=h.long1
 exact zau (zbX (by omega:9*long<=720) h.docs1) (by omega)
theorem Fair.down {tf long total docs df:Nat} (h:Fair tf long total docs df):0<termDown tf long total docs/\termDown tf long total docs<=12400:=by
 unfold termDown
 have h1:=h.mul
 have h2:=za5 (9*long*docs) total
 have:=h.tf1;have:=h.long1
 generalize 9*long*docs/total=z at*
 exact⟨by omega,by omega⟩
theorem termScore_spec (N:Nat) (hN:1048576<N) {tf long total docs df:Nat} (h:Fair tf long total docs df):i_TermScore_m N tf long total docs df=some (((termUp tf docs df/Nat.gcd (termUp tf docs df) (termDown tf long total docs):Nat):Int),((termDown tf long total docs/Nat.gcd (termUp tf docs df) (termDown tf long total docs):Nat):Int),true):=by
 have t0:=h.tf0;have t1:=h.tf1;have t2:=h.long1;have t3:=h.docs1;have t4:=h.df0;have t5:=h.df1;have t6:=h.total0;have t7:=h.total1
 obtain⟨a,b,c⟩:=rare_ok t4 t5 t3
 have hd:=h.down
 have hu:=h.up
 have hm:=h.mul
 refine Def.get ?_
 unfold i_TermScore_m
 rw[within_spec,za,zb (by omega),zb (by omega),zaV,zn,ze]
 rw[within_spec,za,zb (by omega),zb (by omega),zaV,zn,ze]
 rw[within_spec,za,zb (by omega),zb (by omega),zaV,zn,ze]
 rw[within_spec,za,zb (by omega),zb (by omega),zaV,zn,ze]
 rw[within_spec,za,zb (by omega),zb (by omega),zaV,zn,ze]
 have hbits:IntKind.bits .i64=64:=rfl
 have hpow:∀n:Nat,n<=4->(df:Int)*2^(min ((n:Int)+1).toNat (IntKind.bits .i64))=((df*2^(n+1):Nat):Int):=fun n hn=>by
  rw[hbits,show((n:Int)+1).toNat=n+1 from by omega,Nat.min_eq_left (by omega),zbo,Int.natCast_pow]
  rfl
 have hsm:∀n:Nat,n<=4->df*2^(n+1)<=16*32:=fun n hn=>zbX (by omega) (by have:=Nat.pow_le_pow_right (n:=2) (by omega) (show n+1<=5 by omega);omega)
 refine Def.upto (rareF df docs) (fun n g=>g=((tf:Int),(long:Int),(total:Int),(docs:Int),(df:Int),(n:Int),0,0)) (fun go g hg=>?_) (fun go n g hn hg hgo=>?_) N 0 _ (zaf _) rfl (by omega)
 .subst hg
  dsimp only
  have hs:=hsm _ a
  rw[zf (fits_nat (by omega)),zf (by omega),hpow _ a]
  rw[zf (fits_abs (by omega) (by omega)),zd (by omega),ze,zf (fits_abs (by omega) (by omega)),zf (fits_abs (by omega) (by omega))]
  have e1:22*(tf:Int)*((rareF df docs:Int)+1)=((termUp tf docs df:Nat):Int):=by unfold termUp;rw[zbo,zbo];rfl
  have e2:9*(long:Int)*(docs:Int)=((9*long*docs:Nat):Int):=by rw[zbo,zbo];rfl
  have e3:10*(tf:Int)+3+((9*long*docs/total:Nat):Int)=((termDown tf long total docs:Nat):Int):=by unfold termDown;omega
  have hdv:=za5 (9*long*docs) total
  rw[e1,e2,tdiv_nat,e3]
  have hz:(0:Int)<=((9*long*docs/total:Nat):Int)/\((9*long*docs/total:Nat):Int)<=11520:=⟨Int.natCast_nonneg _,by omega⟩
  generalize((9*long*docs/total:Nat):Int)=z at*
  rw[zf (fits_abs (by omega) (by omega)),zf (fits_abs (by omega) (by omega)),zf (fits_abs (by omega) (by omega)),zf (fits_abs (by omega) (by omega)),zf (fits_abs (by omega) (by omega)),zf (by omega),zf (fits_abs (by omega) (by omega)),zf (fits_abs (by omega) (by omega)),ratOf_spec N _ _ (by omega) (by omega) hd.1 (by omega),za]
  exact Def.ret rfl
 .subst hg
  dsimp only
  have hs:=hsm n (by omega)
  have hb:=b n hn
  rw[zf (fits_nat (by omega)),zf (by omega),hpow _ (by omega),zf (fits_abs (by omega) (by omega)),zb (by omega),zg,zf (fits_nat (by omega))]
  exact hgo _ (by rw[cast_succ'])
theorem l12Term_spec (N:Nat) (hN:1048576<N) {tf long total docs df:Nat} (h:Fair tf long total docs df):s_l12Term_m N tf long total docs df=some (((termUp tf docs df/Nat.gcd (termUp tf docs df) (termDown tf long total docs):Nat):Int),((termDown tf long total docs/Nat.gcd (termUp tf docs df) (termDown tf long total docs):Nat):Int)):=by
 have t0:=h.tf0;have t1:=h.tf1;have t2:=h.long1;have t3:=h.docs1;have t4:=h.df0;have t5:=h.df1;have t6:=h.total0;have t7:=h.total1
 obtain⟨a,b,c⟩:=rare_ok t4 t5 t3
 have hd:=h.down
 have hu:=h.up
 have hm:=h.mul
 have hdv:=za5 (9*long*docs) total
 refine Def.get ?_
 unfold s_l12Term_m
 refine Def.meet (fun g=>g=((tf:Int),(docs:Int),(df:Int),((9*long*docs/total:Nat):Int),0,0)) (fun g hg=>?_) (fun J hJ=>?_)
 .subst hg
  dsimp only
  rw[l12Rare_spec N df docs (by omega) t4 t5 t3,za]
  have e1:(1+(rareF df docs:Int))*22*(tf:Int)=((termUp tf docs df:Nat):Int):=by unfold termUp;rw[zbo,zbo,Int.mul_assoc,Int.mul_comm];congr 1;omega
  have e3:10*(tf:Int)+3+((9*long*docs/total:Nat):Int)=((termDown tf long total docs:Nat):Int):=by unfold termDown;omega
  rw[e1,e3]
  rw[zf (fits_abs (by omega) (by omega)),zf (fits_abs (by omega) (by omega)),zf (fits_abs (by omega) (by omega)),zf (fits_abs (by omega) (by omega)),zf (fits_abs (by omega) (by omega)),zf (fits_abs (by omega) (by omega)),make_spec N _ _ (by omega) hd.1 (by omega) (by omega),za]
  exact Def.ret rfl
 .have e2:(long:Int)*(docs:Int)*9=((9*long*docs:Nat):Int):=by rw[zbo,zbo,Int.mul_comm,Int.mul_assoc];rfl
  have e4:(long:Int)*(docs:Int)=((long*docs:Nat):Int):=rfl
  have h5:long*docs<=1280:=zau (zbX t2 t3) (by omega)
  have hz:(0:Int)<=((9*long*docs/total:Nat):Int)/\((9*long*docs/total:Nat):Int)<=11520:=⟨Int.natCast_nonneg _,by omega⟩
  rw[zb (by omega),zg,e2,tdiv_nat,e4]
  generalize((9*long*docs/total:Nat):Int)=z at*
  rw[zf (fits_abs (by omega) (by omega)),zf (fits_abs (by omega) (by omega)),zf (by omega),zf (fits_abs (by omega) (by omega))]
  exact hJ _ rfl
theorem worth_impl (N:Nat) (hN:1048576<N) {tf long total docs df:Nat} (h:Fair tf long total docs df):i_RatFloor_m N ((termUp tf docs df/Nat.gcd (termUp tf docs df) (termDown tf long total docs):Nat):Int) ((termDown tf long total docs/Nat.gcd (termUp tf docs df) (termDown tf long total docs):Nat):Int) 1000=some (worth tf long total docs df:Int):=by
 have hd:=h.down
 have hu:=h.up
 have hg:=gcd_pos' (a:=termUp tf docs df) hd.1
 have h1:=za5 (termUp tf docs df) (Nat.gcd (termUp tf docs df) (termDown tf long total docs))
 have h2:=za5 (termDown tf long total docs) (Nat.gcd (termUp tf docs df) (termDown tf long total docs))
 have h3:0<termDown tf long total docs/Nat.gcd (termUp tf docs df) (termDown tf long total docs):=Nat.div_pos (Nat.le_of_dvd hd.1 (Nat.gcd_dvd_right _ _)) hg
 rw[ratFloor_spec N _ _ (by omega) (by omega) h3 (by omega) (Nat.gcd_div_gcd_div_gcd_of_pos_right hd.1)]
 rfl
theorem worth_pos {tf long total docs df:Nat} (h:Fair tf long total docs df):worth tf long total docs df<=8800000:=by
 have hd:=h.down
 have hu:=h.up
 unfold worth
 dsimp only
 refine zau (za5 _ _) ?_
 have:=za5 (termUp tf docs df) (Nat.gcd (termUp tf docs df) (termDown tf long total docs))
 omega
theorem lead_drop (t:List UInt8):∀x r,t.drop (lead t)=x::r->isL x=false:=by
 induction t with
 |nil=>intro x r h;simp at h
 |cons c t ih=>
  intro x r h
  cases hc:isL c with
  |true=>rw[lead_cons hc,List.drop_succ_cons]at h;exact ih x r h
  |false=>rw[lead_zero hc,zbQ,List.cons.injEq]at h;rw[<-h.1];exact hc
theorem wordsF_half (l:List UInt8) (p a:Int):2*(wordsF l p a).length<=l.length+1:=by
 match l with
 | []=>rw[wordsF_nil];simp
 |c::t=>
  rw[wordsF]
  split
  .cases hr:t.drop (lead t)with
   |nil=>rw[wordsF_nil];simp
   |cons x r=>
    have hx:=lead_drop t x r hr
    have hl:r.length+1<=t.length:=by
     have:=congrArg List.length hr
     simp only[zaQ,zi]at this
     omega
    rw[wordsF_skip hx]
    have:=wordsF_half r (p+(lead t+1:Nat)+1) (a+1)
    simp only[zi]at this⊢
    omega
  .have:=wordsF_half t (p+1) a
   simp only[zi];omega
termination_by l.length
decreasing_by all_goals (simp; try omega)
theorem terms_half (c:EConf) (s:List UInt8) (h:s.length<=160):(terms c s).length<=80:=by
 have h1:(terms c s).length<=(plain c.1 s).length:=termsF_len _ _
 have h2:(plain c.1 s).length<=(words s).length:=za3 _ _
 have h3:=wordsF_half s 0 0
 unfold words at h2
 omega
def sumL (l:List Nat):Nat:=l.foldr (· + ·) 0
theorem sumL_cons (a:Nat) (l:List Nat):sumL (a::l)=a+sumL l:=rfl
theorem sumL_append (a b:List Nat):sumL (a++b)=sumL a+sumL b:=by
 induction a with
 |nil=>simp[sumL]
 |cons x a ih=>rw[zbk,sumL_cons,ih,sumL_cons];omega
theorem sumL_take (l:List Nat) (n:Nat) (h:n<l.length):sumL (l.take (n+1))=sumL (l.take n)+l[n]:=by
 rw[zo h,sumL_append]
 rfl
theorem sumL_le (B:Nat):∀l:List Nat,(∀x,x∈l->x<=B)->sumL l<=l.length*B
 | [],_=>by simp[sumL]
 |x::l,h=>by
  have h1:=h x (by simp)
  have h2:=sumL_le B l fun y hy=>h y (by simp[hy])
  rw[sumL_cons,zi,Nat.succ_mul]
  omega
theorem sumL_zero {α:Type} (f:α->Nat):∀l:List α,(∀x,x∈l->f x=0)->sumL (l.map f)=0
 | [],_=>rfl
 |x::l,h=>by rw[zv,sumL_cons,h x (by simp),sumL_zero f l fun y hy=>h y (by simp[hy])]
theorem sumL_add {α:Type} (f g:α->Nat):∀l:List α,sumL (l.map fun x=>f x+g x)=sumL (l.map f)+sumL (l.map g)
 | []=>rfl
 |x::l=>by rw[zv,zv,zv,sumL_cons,sumL_cons,sumL_cons,sumL_add f g l];omega
theorem sumL_swap {α β:Type} (f:α->β->Nat) (a:List α):∀b:List β,sumL (a.map fun x=>sumL (b.map fun y=>f x y))=sumL (b.map fun y=>sumL (a.map fun x=>f x y))
 | []=>by rw[zck];exact sumL_zero _ _ fun x _=>rfl
 |y::b=>by
  rw[zv,sumL_cons,<-sumL_swap f a b,<-sumL_add]
  rfl
theorem sumL_mem {α:Type} (f:α->Nat):∀(l:List α) (x:α),x∈l->f x<=sumL (l.map f)
 |y::l,x,h=>by
  rw[zv,sumL_cons]
  rcases zp.1 h with rfl|h
  .omega
  .have:=sumL_mem f l x h;omega
def inField (field:List UInt8) (es:List EEntry):List EEntry:=es.filter fun e=>decide (e.1=field)
def lensOf (ps:List EPost):Nat:=sumL (ps.map fun p=>p.2.length)
def longS (es:List EEntry) (field:List UInt8) (id:Int):Nat:=sumL ((inField field es).map fun e=>lensOf (e.2.2.filter fun p=>decide (p.1=id)))
def totalS (es:List EEntry) (field:List UInt8):Nat:=sumL ((inField field es).map fun e=>lensOf e.2.2)
theorem filter_both {α:Type} (p:α->Bool):∀l:List α,(l.filter p).length+(l.filter fun x=> !p x).length=l.length
 | []=>rfl
 |x::l=>by
  have ih:=filter_both p l
  rw[za9,za9]
  cases h:p x
  .simp only [za7,if_false,zaI,if_true,zi];omega
  .simp only [zn,za7,if_false,if_true,zi];omega
theorem sum_cover :∀(T:List (List UInt8)) (ts:List ETerm),T.Nodup->(∀t,t∈ts->t.1∈T)->sumL (T.map fun k=>(ts.filter fun t=>decide (t.1=k)).length)=ts.length
 | [],ts,_,h=>by
  cases ts with
  |nil=>rfl
  |cons t ts=>exact absurd (h t (by simp)) (by simp)
 |k::T,ts,hn,h=>by
  rw[zbg]at hn
  rw[zv,sumL_cons]
  have h1:=sum_cover T (ts.filter fun t=> !decide (t.1=k)) hn.2 fun t ht=>by
   obtain⟨h2,h3⟩:=zaZ.1 ht
   rcases zp.1 (h t h2)with e|e
   .rw [zb e]at h3;cases h3
   .exact e
  have h2:(T.map fun k'=>((ts.filter fun t=> !decide (t.1=k)).filter fun t=>decide (t.1=k')).length)=T.map fun k'=>(ts.filter fun t=>decide (t.1=k')).length:=by
   apply za0
   intro k' hk'
   have hne:k'≠k:=fun e=>hn.1 (e▸hk')
   rw[List.filter_filter]
   congr 1
   apply List.filter_congr
   intro t _
   by_cases e:t.1=k'
   .rw [zb e,zd (fun e2=>hne (e.symm.trans e2))];rfl
   .rw [zd e];rfl
  rw[h2]at h1
  rw[h1,filter_both]
def tl (c:EConf) (field:List UInt8) (d:EDoc):Nat:=(terms c (fieldF d.2.1 field)).length
theorem ats_len (c:EConf) (d:EDoc) (k:EKey):(ats c d k).length=((terms c (fieldF d.2.1 k.1)).filter fun t=>decide (t.1=k.2)).length:=by unfold ats;rw[zar]
theorem posts_sum (c:EConf) (P:Int->Bool) (k:EKey):∀docs:List EDoc,lensOf ((postsS c docs k).filter fun p=>P p.1)=sumL (docs.map fun d=>if P d.1=true then(ats c d k).length else 0)
 | []=>rfl
 |d::l=>by
  have ih:=posts_sum c P k l
  rw[zv,sumL_cons,<-ih]
  unfold postsS
  rw[List.filterMap_cons]
  by_cases e:ats c d k=[]
  .rw [zf e,e]
   simp
  .rw [zu e]
   dsimp only
   rw[za9]
   split
   .rename_i hp
    unfold lensOf
    rw[zv,sumL_cons]
   .rename_i hp
    rw[zaY]
theorem entry_posts {c:EConf} {docs:List EDoc} {e:EEntry} (he:e∈entriesS c docs):e.2.2=postsS c docs (e.1,e.2.1):=by
 unfold entriesS at he
 obtain⟨f,_,he⟩:=zaT.1 he
 obtain⟨t,_,rfl⟩:=zab.1 he
 rfl
theorem entries_nodup (c:EConf) (docs:List EDoc):((entriesS c docs).map keyE).Nodup:=(entriesS_up c docs).imp fun {a b} h e=>by rw[e,ltK_irrefl]at h;cases h
def termsIn (c:EConf) (docs:List EDoc) (field:List UInt8):List (List UInt8):=(inField field (entriesS c docs)).map fun e=>e.2.1
theorem termsIn_nodup (c:EConf) (docs:List EDoc) (field:List UInt8):(termsIn c docs field).Nodup:=by
 unfold termsIn inField
 have h:=zbb.1 (entries_nodup c docs)
 refine zbb.2 ?_
 refine List.Pairwise.imp_of_mem (fun {a b} ha hb hab e=>hab ?_) (h.sublist (List.filter_sublist (p:=fun e:EEntry=>decide (e.1=field))))
 have h1:=of_decide_eq_true (zaZ.1 ha).2
 have h2:=of_decide_eq_true (zaZ.1 hb).2
 exact Prod.ext (h1.trans h2.symm) e
theorem term_in (c:EConf) {docs:List EDoc} (hd:DOk docs) (field:List UInt8) {d:EDoc} (h:d∈docs) {t:ETerm} (ht:t∈terms c (fieldF d.2.1 field)):(field,t.1)∈(entriesS c docs).map keyE:=by
 rw[entriesS_mem c hd.inn]
 by_cases hn:field∈d.2.1.map (·.1)
 .obtain ⟨g,hg,rfl⟩:=zab.1 hn
  rw[fieldF_mem _ (hd.inn.names d h) g hg]at ht
  exact⟨((g.1,t.1),d.1,t.2),zaT.2 ⟨d,h,zaT.2 ⟨g,hg,zab.2 ⟨t,ht,rfl⟩⟩⟩,rfl⟩
 .rw [fieldF_none _ _ hn,terms_nil]at ht;cases ht
theorem term_cover (c:EConf) {docs:List EDoc} (hd:DOk docs) (field:List UInt8) {d:EDoc} (h:d∈docs):∀t,t∈terms c (fieldF d.2.1 field)->t.1∈termsIn c docs field:=fun t ht=>by
 obtain⟨e,he,hk⟩:=zab.1 (term_in c hd field h ht)
 have h1:e.1=field:=congrArg Prod.fst hk
 have h2:e.2.1=t.1:=congrArg Prod.snd hk
 exact zab.2 ⟨e,zaZ.2 ⟨he,zb h1⟩,h2⟩
theorem sum_posts (c:EConf) {docs:List EDoc} (hd:DOk docs) (P:Int->Bool) (field:List UInt8):sumL ((inField field (entriesS c docs)).map fun e=>lensOf (e.2.2.filter fun p=>P p.1))=sumL (docs.map fun d=>if P d.1=true then tl c field d else 0):=by
 have h1:((inField field (entriesS c docs)).map fun e=>lensOf (e.2.2.filter fun p=>P p.1))=(termsIn c docs field).map fun t=>sumL (docs.map fun d=>if P d.1=true then(ats c d (field,t)).length else 0):=by
  unfold termsIn
  rw[zbO]
  apply za0
  intro e he
  obtain⟨h1,h2⟩:=zaZ.1 he
  show lensOf (e.2.2.filter fun p=>P p.1)=sumL (docs.map fun d=>if P d.1=true then(ats c d (field,e.2.1)).length else 0)
  rw[entry_posts h1,of_decide_eq_true h2]
  exact posts_sum c P (field,e.2.1) docs
 rw[h1,sumL_swap]
 congr 1
 apply za0
 intro d hdm
 split
 .have:=sum_cover (termsIn c docs field) (terms c (fieldF d.2.1 field)) (termsIn_nodup c docs field) (term_cover c hd field hdm)
  rw[<-show _=tl c field d from this]
  congr 1
  apply za0
  intro t _
  exact ats_len c d (field,t)
 .exact sumL_zero _ _ fun _ _=>rfl
def total (c:EConf) (docs:List EDoc) (field:List UInt8):Nat:=sumL (docs.map (tl c field))
def docOf (docs:List EDoc) (id:Int):Option EDoc:=docs.find? fun d=>decide (d.1=id)
def long (c:EConf) (docs:List EDoc) (field:List UInt8) (id:Int):Nat:=match docOf docs id with
 |some d=>tl c field d
 |none=>0
theorem total_eq (c:EConf) {docs:List EDoc} (hd:DOk docs) (field:List UInt8):totalS (entriesS c docs) field=total c docs field:=by
 have h:=sum_posts c hd (fun _=>true) field
 unfold totalS total
 rw[show(docs.map fun d=>if(fun _:Int=>true) d.1=true then tl c field d else 0)=docs.map (tl c field)from za0 fun d _=>zf rfl]at h
 rw[<-h]
 congr 1
 apply za0
 intro e _
 rw[List.filter_eq_self.2 fun _ _=>rfl]
theorem find_uniq {id:Int}:∀ {docs:List EDoc},(docs.Pairwise fun a b=>a.1<b.1)->∀(f:EDoc->Nat),sumL (docs.map fun d=>if decide (d.1=id)=true then f d else 0)=match docOf docs id with
  |some d=>f d
  |none=>0
 | [],_,f=>rfl
 |d::l,h,f=>by
  rw[zas]at h
  rw[zv,sumL_cons]
  unfold docOf
  rw[zbA]
  by_cases e:d.1=id
  .rw [zb e,zf rfl,sumL_zero _ l fun x hx=>zu (by have:=h.1 x hx;simp;omega)]
   rfl
  .rw [zd e,zu (by simp),find_uniq h.2 f]
   simp only[zaY]
   rfl
theorem long_eq (c:EConf) {docs:List EDoc} (hd:DOk docs) (field:List UInt8) (id:Int):longS (entriesS c docs) field id=long c docs field id:=by
 have h:=sum_posts c hd (fun n=>decide (n=id)) field
 rw[find_uniq hd.inn.ids]at h
 exact h
def postsP (es:List EEntry) (field term:List UInt8):List EPost:=match es.find? fun e=>decide (e.1=field)&&decide (e.2.1=term)with
 |some e=>e.2.2
 |none=>[]
def atP (ps:List EPost) (id:Int):List Int:=match ps.find? fun p=>decide (p.1=id)with
 |some p=>p.2
 |none=>[]
theorem postsP_eq (c:EConf) {docs:List EDoc} (hd:DOk docs) (field term:List UInt8):postsP (entriesS c docs) field term=postsS c docs (field,term):=by
 unfold postsP
 cases h:(entriesS c docs).find? fun e=>decide (e.1=field)&&decide (e.2.1=term)with
 |some e=>
  have h1:=List.find?_some h
  rw[zj,zw,zw]at h1
  dsimp only
  rw[entry_posts (zbe h),h1.1,h1.2]
 |none=>
  dsimp only
  symm
  unfold postsS
  rw[List.filterMap_eq_nil_iff]
  intro d hdm
  have:ats c d (field,term)=[]:=by
   unfold ats
   rw[List.map_eq_nil_iff,List.filter_eq_nil_iff]
   intro t ht hk
   have hm:=term_in c hd field hdm ht
   rw[of_decide_eq_true hk]at hm
   obtain⟨e,he,hke⟩:=zab.1 hm
   have:=zbM.1 h e he
   rw[show e.1=field from congrArg Prod.fst hke,show e.2.1=term from congrArg Prod.snd hke]at this
   simp at this
  rw[zf this]
def atS (c:EConf) (docs:List EDoc) (k:EKey) (id:Int):List Int:=match docOf docs id with
 |some d=>ats c d k
 |none=>[]
theorem atP_eq (c:EConf) (k:EKey) (id:Int):∀ {docs:List EDoc},(docs.Pairwise fun a b=>a.1<b.1)->atP (postsS c docs k) id=atS c docs k id
 | [],_=>rfl
 |d::l,h=>by
  rw[zas]at h
  have ih:=atP_eq c k id h.2
  unfold atS docOf
  rw[zbA]
  unfold postsS
  rw[List.filterMap_cons]
  by_cases e:d.1=id
  .rw [zb e]
   dsimp only
   by_cases ha:ats c d k=[]
   .rw [zf ha,ha]
    dsimp only
    unfold atP
    rw[zbM.2]
    intro p hp
    obtain⟨x,hx,hpx⟩:=zbs.1 hp
    split at hpx
    .cases hpx
    .cases hpx
     have:=h.1 x hx
     simp
     omega
   .rw [zu ha]
    dsimp only
    unfold atP
    rw[zbA,zb e]
  .rw [zd e]
   dsimp only
   unfold atS docOf at ih
   rw[<-ih]
   by_cases ha:ats c d k=[]
   .rw [zf ha]
    rfl
   .rw [zu ha]
    dsimp only
    unfold atP
    rw[zbA,zd e]
    rfl
def ptsF (c:EConf) (docs:List EDoc) (field term:List UInt8) (id:Int):Nat:=
 if(atS c docs (field,term) id).length=0 then 0 else worth (atS c docs (field,term) id).length (long c docs field id) (total c docs field) docs.length (postsS c docs (field,term)).length
theorem tl_le (c:EConf) {docs:List EDoc} (hd:DOk docs) (field:List UInt8) {d:EDoc} (h:d∈docs):tl c field d<=80:=terms_half c _ (hd.text h field)
theorem total_le (c:EConf) {docs:List EDoc} (hd:DOk docs) (field:List UInt8):total c docs field<=1280:=by
 unfold total
 refine zau (sumL_le 80 _ fun x hx=>?_) (by rw[zar];have:=hd.few;omega)
 obtain⟨d,hdm,rfl⟩:=zab.1 hx
 exact tl_le c hd field hdm
theorem pts_fair (c:EConf) {docs:List EDoc} (hd:DOk docs) (field term:List UInt8) (id:Int) (h:(atS c docs (field,term) id).length≠0):Fair (atS c docs (field,term) id).length (long c docs field id) (total c docs field) docs.length (postsS c docs (field,term)).length:=by
 unfold atS long at*
 cases hf:docOf docs id with
 |none=>rw[hf]at h;exact absurd rfl h
 |some d=>
  rw[hf]at h
  dsimp only at*
  have hm:d∈docs:=zbe hf
  have ht:=tl_le c hd field hm
  have hle:(ats c d (field,term)).length<=tl c field d:=by rw[ats_len];exact zbh _ _
  have hp:(postsS c docs (field,term)).length<=docs.length:=za3 _ _
  have hp1:1<=(postsS c docs (field,term)).length:=by
   have:(d.1,ats c d (field,term))∈postsS c docs (field,term):=zbs.2 ⟨d,hm,by rw[zu (fun e=>h (by rw[e];rfl))]⟩
   exact List.length_pos_of_mem this
  exact⟨by omega,hle,ht,hd.few,hp1,hp,sumL_mem (tl c field) docs d hm,total_le c hd field⟩
theorem ptsF_le (c:EConf) {docs:List EDoc} (hd:DOk docs) (field term:List UInt8) (id:Int):ptsF c docs field term id<=8800000:=by
 unfold ptsF
 split
 .omega
 .rename_i h
  exact worth_pos (pts_fair c hd field term id h)
theorem scan_find {α δ ρ:Type} (F:(δ->Option ρ)->δ->Option ρ) (xs:List α) (st:Nat->δ) (p:α->Bool) (r:α->ρ) (r0:ρ) (z:δ) (R:ρ) (hz:z=st 0) (hR:(xs.find? p).elim r0 r=R) (hend:∀go,F go (st xs.length)=some r0)
  (hstep:∀go (n:Nat) (h:n<xs.length),F go (st n)=bif p xs[n]then some (r xs[n])else go (st (n+1))) (N:Nat) (h:xs.length<N):iter F N z=some R:=by
 subst hz
 have:=iter_scan F xs.length st (fun n=>some (((xs.drop n).find? p).elim r0 r)) (fun go=>by rw[hend,zbp];rfl) (fun go n hn hgo=>by
  rw[hstep go n hn,hgo,zan hn,zbA]
  cases p xs[n]<;>rfl) N 0 (zaf _) (by omega)
 rw[this,<-hR]
 rfl
theorem okDoc_each {docs:List EDoc} (h:okDocs docs=true):∀d,d∈docs->okDoc d=true:=fun d hd=>by
 unfold okDocs at h
 rw[zj,zw]at h
 obtain⟨n,hn,rfl⟩:=zav.1 hd
 have:=allN_at h.1 hn
 unfold okDc at this
 rw[zj,<-dAt_eq hn]at this
 exact this.1
theorem okDoc_text {d:EDoc} (h:okDoc d=true):d.2.1.length<=3/\d.2.2.length<=3/\∀f,f∈d.2.1->okT f.2=true:=by
 unfold okDoc at h
 simp only[zj,zw]at h
 refine⟨by omega,by omega,fun f hf=>?_⟩
 obtain⟨n,hn,rfl⟩:=zav.1 hf
 have h3:=allN_at h.1.2 hn
 unfold okF at h3
 rw[zj,zj,<-fAt_eq hn]at h3
 exact h3.1.2
theorem fieldF_okT {fs:List EField} (h:∀f,f∈fs->okT f.2=true) (name:List UInt8):okT (fieldF fs name)=true:=by
 induction fs with
 |nil=>rfl
 |cons f l ih=>
  unfold fieldF
  split
  .exact h f zy
  .exact ih fun g hg=>h g (zl _ hg)
structure GoodS (N:Nat) (c:EConf) (s:ESeg):Prop where
 big:Sm<N
 top:N<=16777216
 oc:okD Sm TConf c
 od:∀x,x∈s.1->okD Sm TDoc x
 ok:okSeg c s=true
theorem okSeg_ok {c:EConf} {s:ESeg} (h:okSeg c s=true):okConf c=true/\DOk s.1/\s.2=entriesS c s.1:=by
 unfold okSeg at h
 simp only[zj,zw]at h
 exact⟨h.1,okDocs_ok h.2.1,h.2.2.symm⟩
theorem okSeg_docs {c:EConf} {s:ESeg} (h:okSeg c s=true):okDocs s.1=true:=by
 unfold okSeg at h
 simp only[zj,zw]at h
 exact h.2.1
theorem GoodS.dok {N:Nat} {c:EConf} {s:ESeg} (h:GoodS N c s):DOk s.1:=(okSeg_ok h.ok).2.1
theorem GoodS.ent {N:Nat} {c:EConf} {s:ESeg} (h:GoodS N c s):s.2=entriesS c s.1:=(okSeg_ok h.ok).2.2
theorem GoodS.m {N:Nat} {c:EConf} {s:ESeg} (h:GoodS N c s):1048576<N:=h.big
theorem GoodS.small {N:Nat} {c:EConf} {s:ESeg} (h:GoodS N c s):Small 7680 s.2:=by rw[h.ent];exact entries_small c h.dok
theorem docField_spec (N:Nat) (hM:Sm<N) (hN:N<=16777216) (d:EDoc) (ho:okD Sm TDoc d) (hk:okDoc d=true) (name:List UInt8):i_DocField_m N d.1 d.2.1 d.2.2 name=some (fieldF d.2.1 name):=by
 have hM':1048576<N:=hM
 have hl:=(okDoc_text hk).1
 unfold i_DocField_m
 rw[docOk_spec N hM (by omega) d.1 d.2.1 d.2.2 ho,za,hk,zg]
 have hf:∀fs:List EField,(match fs.find? (fun f=>decide (f.1=name))with
   |some f=>f.2
   |none=>[])=fieldF fs name:=fun fs=>by
  induction fs with
  |nil=>rfl
  |cons f l ih=>
   unfold fieldF
   rw[zbA,<-ih]
   by_cases e:f.1=name
   .rw [zb e,zf e]
   .rw [zd e,zu e]
 rw[<-hf]
 refine scan_find _ d.2.1 (fun n=>(name,d.2.1,(d.2.1.length:Int),(n:Int))) (fun f=>decide (f.1=name)) (·.2) [] _ _ rfl (by cases d.2.1.find? fun f=>decide (f.1=name)<;>rfl) (fun go=>?_) (fun go n hn=>?_) N (by omega)
 .dsimp only
  rw[zd (zcd _),ze]
 .dsimp only
  rw[zb (by omega:(n:Int)<d.2.1.length),zg,idx_at hn,za,zf (fits_nat (n:=n) (by omega)),cast_succ']
theorem segDoc_spec (N:Nat) (s:ESeg) (id:Int) (h:s.1.length<N) (hN:N<=16777216):i_Seg_doc_m N s id=some (match docOf s.1 id with
  |some d=>(d.1,d.2.1,d.2.2,true)
  |none=>(0,[],[],false)):=by
 unfold i_Seg_doc_m docOf
 refine scan_find _ s.1 (fun n=>(id,s.1,(s.1.length:Int),(n:Int),(0:Int))) (fun d=>decide (d.1=id)) (fun d:EDoc=>(d.1,d.2.1,d.2.2,true)) (0,[],[],false) _ _ rfl (by cases s.1.find? fun d=>decide (d.1=id)<;>rfl) (fun go=>?_) (fun go n hn=>?_) N h
 .dsimp only
  rw[zd (zcd _),ze]
 .dsimp only
  rw[zb (by omega:(n:Int)<s.1.length),zg,idx_at hn,za,zf (fits_nat (n:=n) (by omega)),cast_succ']
theorem segLong_spec (N:Nat) {c:EConf} {s:ESeg} (g:GoodS N c s) (field:List UInt8) (id:Int):i_Seg_long_m N s c.1 c.2 field id=some (long c s.1 field id:Int):=by
 have hM:=g.m
 have hN:=g.top
 have hf:=g.dok.few
 unfold i_Seg_long_m long
 rw[segDoc_spec N s id (by omega) hN,za]
 cases h:docOf s.1 id with
 |none=>rfl
 |some d=>
  dsimp only
  have hm:d∈s.1:=zbe h
  have hk:=okDoc_each (okSeg_docs g.ok) d hm
  have hlen:=g.dok.text hm field
  rw[zn,ze,docField_spec N g.big hN d (g.od d hm) hk field,za,termsOf_spec N c _ (by omega) g.big (by omega) g.oc,(okSeg_ok g.ok).1,fieldF_okT (okDoc_text hk).2.2 field,zaV,zg,za]
  rfl
theorem segPosts_spec (N:Nat) (s:ESeg) (field term:List UInt8) (h:s.2.length<N) (hN:N<=16777216):i_Seg_posts_m N s field term=some (postsP s.2 field term):=by
 unfold i_Seg_posts_m postsP
 refine scan_find _ s.2 (fun n=>(field,term,s.2,(s.2.length:Int),(n:Int))) (fun e=>decide (e.1=field)&&decide (e.2.1=term)) (·.2.2) [] _ _ rfl (by cases s.2.find? fun e=>decide (e.1=field)&&decide (e.2.1=term)<;>rfl) (fun go=>?_) (fun go n hn=>?_) N h
 .dsimp only
  rw[zd (zcd _),ze]
 .dsimp only
  rw[zb (by omega:(n:Int)<s.2.length),zg,idx_at hn,za,zf (fits_nat (n:=n) (by omega)),cast_succ']
  by_cases h1:s.2[n].1=field
  .rw [zb h1,zg,zaj]
  .rw [zd h1,ze,Bool.false_and,ze]
theorem l7Posts_spec (N:Nat) (s:ESeg) (field term:List UInt8) (h:s.2.length<N) (hN:N<=16777216):s_l7Posts_m N s.1 s.2 field term=some (postsP s.2 field term):=by
 unfold s_l7Posts_m postsP
 refine scan_find _ s.2 (fun n=>(field,term,(n:Int),s.1,s.2)) (fun e=>decide (e.1=field)&&decide (e.2.1=term)) (·.2.2) [] _ _ rfl (by cases s.2.find? fun e=>decide (e.1=field)&&decide (e.2.1=term)<;>rfl) (fun go=>?_) (fun go n hn=>?_) N h
 .dsimp only
  rw[zd (zcd _),ze]
 .dsimp only
  rw[zb (by omega:(n:Int)<s.2.length),zg,idx_at hn,za,za,za,zf (fits_nat (n:=n) (by omega)),cast_succ']
  by_cases h1:s.2[n].1=field
  .rw [zb h1,zg,zaj]
  .rw [zd h1,ze,Bool.false_and,ze]
theorem postsP_len {es:List EEntry} {m:Nat} (h:Small m es) (field term:List UInt8):(postsP es field term).length<=m:=by
 unfold postsP
 cases hf:es.find? fun e=>decide (e.1=field)&&decide (e.2.1=term)with
 |none=>simp
 |some e=>exact(h.2 e (zbe hf)).1
theorem places_spec (N:Nat) {c:EConf} {s:ESeg} (g:GoodS N c s) (x:EConf) (field term:List UInt8) (id:Int):i_scorer_places_m N (x,s) field term id=some (atS c s.1 (field,term) id):=by
 have hM:=g.m
 have hN:=g.top
 have hsl:=g.small.1
 have hpl:=postsP_len g.small field term
 unfold i_scorer_places_m
 rw[segPosts_spec N s field term (by omega) hN,za]
 have h:=atP_eq c (field,term) id g.dok.inn.ids
 rw[<-postsP_eq c g.dok,<-g.ent]at h
 rw[<-h]
 unfold atP
 generalize postsP s.2 field term=ps at*
 refine scan_find _ ps (fun n=>(id,ps,(ps.length:Int),(n:Int))) (fun p=>decide (p.1=id)) (·.2) [] _ _ rfl (by cases ps.find? fun p=>decide (p.1=id)<;>rfl) (fun go=>?_) (fun go n hn=>?_) N (by omega)
 .dsimp only
  rw[zd (zcd _),ze]
 .dsimp only
  rw[zb (by omega:(n:Int)<ps.length),zg,idx_at hn,za,zf (fits_nat (n:=n) (by omega)),cast_succ']
theorem l12At_spec (N:Nat) {c:EConf} {s:ESeg} (g:GoodS N c s) (field term:List UInt8) (id:Int):s_l12At_m N s.1 s.2 field term id=some (atS c s.1 (field,term) id):=by
 have hM:=g.m
 have hN:=g.top
 have hsl:=g.small.1
 have hpl:=postsP_len g.small field term
 unfold s_l12At_m
 rw[l7Posts_spec N s field term (by omega) hN,za]
 have h:=atP_eq c (field,term) id g.dok.inn.ids
 rw[<-postsP_eq c g.dok,<-g.ent]at h
 rw[<-h]
 unfold atP
 generalize postsP s.2 field term=ps at*
 refine scan_find _ ps (fun n=>(id,ps,(n:Int))) (fun p=>decide (p.1=id)) (·.2) [] _ _ rfl (by cases ps.find? fun p=>decide (p.1=id)<;>rfl) (fun go=>?_) (fun go n hn=>?_) N (by omega)
 .dsimp only
  rw[zd (zcd _),ze]
 .dsimp only
  rw[zb (by omega:(n:Int)<ps.length),zg,idx_at hn,za,za,zf (fits_nat (n:=n) (by omega)),cast_succ']
theorem lens_le {m:Nat} {ps:List EPost} (h1:ps.length<=m) (h2:∀p,p∈ps->p.2.length<=m):lensOf ps<=m*m:=by
 unfold lensOf
 refine zau (sumL_le m _ fun x hx=>?_) (by rw[zar];exact zag m h1)
 obtain⟨p,hp,rfl⟩:=zab.1 hx
 exact h2 p hp
theorem l12Total_spec (N:Nat) {c:EConf} {s:ESeg} (g:GoodS N c s) (field:List UInt8):s_l12Total_m N s.1 s.2 field=some (total c s.1 field:Int):=by
 have hM:=g.m
 have hN:=g.top
 have hsm:=g.small
 rw[<-total_eq c g.dok,<-g.ent]
 let ins:EEntry->Nat:=fun e=>if e.1=field then lensOf e.2.2 else 0
 have hins:∀es:List EEntry,totalS es field=sumL (es.map ins):=fun es=>by
  unfold totalS inField
  induction es with
  |nil=>rfl
  |cons e es ih=>
   rw[zv,sumL_cons,<-ih,za9]
   by_cases h:e.1=field
   .rw [zf (zb h),zv,sumL_cons,show ins e=lensOf e.2.2 from zf h]
   .rw [zu (by simp[h]),show ins e=0 from zu h,zaY]
 have hb:∀e,e∈s.2->ins e<=7680*7680:=fun e he=>by
  show(if e.1=field then lensOf e.2.2 else 0)<=_
  split
  .exact lens_le (hsm.2 e he).1 (hsm.2 e he).2
  .omega
 have hpre:∀n,sumL ((s.2.take n).map ins)<=7680*(7680*7680):=fun n=>by
  refine zau (sumL_le (7680*7680) _ fun x hx=>?_) (zag _ ?_)
  .obtain ⟨e,he,rfl⟩:=zab.1 hx
   exact hb e (zaP he)
  .rw [zar,zah];have:=hsm.1;omega
 refine Def.get ?_
 unfold s_l12Total_m
 refine Def.upto s.2.length (fun n v=>v=(field,((sumL ((s.2.take n).map ins):Nat):Int),(n:Int),s.1,s.2)) (fun go v hv=>?_) (fun go n v hn hv hgo=>?_) N 0 _ (zaf _) rfl (by have:=hsm.1;omega)
 .subst hv
  dsimp only
  rw[zd (zcd _),ze,zq]
  exact Def.ret (by rw[hins])
 .subst hv
  dsimp only
  have hm:s.2[n]∈s.2:=zr hn
  have hse:=hsm.2 _ hm
  have hstep:sumL ((s.2.take (n+1)).map ins)=sumL ((s.2.take n).map ins)+ins s.2[n]:=by
   rw[zo hn,zaK,sumL_append]
   rfl
  have hp1:=hpre n
  rw[zb (by omega:(n:Int)<s.2.length),zg]
  have hsl:=hsm.1
  have hback:∀k:Nat,k=ins s.2[n]->Def (if fits ((n:Int)+1)then go (field,((sumL ((s.2.take n).map ins)+k:Nat):Int),(n:Int)+1,s.1,s.2)else none) fun r=>r=(totalS s.2 field:Int):=fun k hk=>by
   rw[zf (fits_nat (n:=n) (by omega))]
   exact hgo _ (by rw[hstep,hk,cast_succ'])
  generalize sumL ((s.2.take n).map ins)=acc at*
  by_cases hf:s.2[n].1=field
  .have hi:ins s.2[n]=lensOf s.2[n].2.2:=zf hf
   have hpl:∀j,lensOf (s.2[n].2.2.take j)<=7680*7680:=fun j=>lens_le (by rw[zah];omega) fun p hp=>hse.2 p (zaP hp)
   refine Def.upto s.2[n].2.2.length (fun j v=>v=(field,((acc+lensOf (s.2[n].2.2.take j):Nat):Int),(n:Int),(j:Int),s.1,s.2)) (fun go2 v hv=>?_) (fun go2 j v hj hv hgo2=>?_) N 0 _ (zaf _) rfl (by omega)
   .subst hv
    dsimp only
    rw[idx_at hn,za,zd (zcd _),ze,zq]
    exact hback _ hi.symm
   .subst hv
    dsimp only
    have hpj:=hse.2 _ (zr hj)
    have hl:=hpl j
    rw[idx_at hn,za,zb (by omega:(j:Int)<s.2[n].2.2.length),zg,za,zb hf,zg,za,idx_at hj,za,zf (fits_abs (by omega) (by omega)),zf (fits_nat (n:=j) (by omega))]
    refine hgo2 _ ?_
    have hls:lensOf (s.2[n].2.2.take (j+1))=lensOf (s.2[n].2.2.take j)+s.2[n].2.2[j].2.length:=by
     unfold lensOf
     rw[zo hj,zaK,sumL_append]
     rfl
    rw[hls,cast_succ',<-zbv,Int.natCast_add (acc+_)]
  .have hi:ins s.2[n]=0:=zu hf
   have h0:=hback 0 hi.symm
   rw[zbz]at h0
   cases N with
   |zero=>omega
   |succ N=>
    show Def (Option.bind (idx s.2 n) _) _
    rw[idx_at hn,za]
    by_cases hz:(0:Int)<s.2[n].2.2.length
    .rw [zb hz,zg,za]
     dsimp only
     rw[zd hf,ze]
     exact h0
    .rw [zd hz,ze]
     exact h0
theorem l7Long_spec (N:Nat) {c:EConf} {s:ESeg} (g:GoodS N c s) (field:List UInt8) (id:Int):s_l7Long_m N s.1 s.2 field id=some (long c s.1 field id:Int):=by
 have hM:=g.m
 have hN:=g.top
 have hsm:=g.small
 rw[<-long_eq c g.dok,<-g.ent]
 let inp:List EPost->Nat:=fun ps=>lensOf (ps.filter fun p=>decide (p.1=id))
 have hinp:∀(ps:List EPost) (j:Nat) (hj:j<ps.length),inp (ps.take (j+1))=inp (ps.take j)+(if ps[j].1=id then ps[j].2.length else 0):=fun ps j hj=>by
  show lensOf _=lensOf _+_
  rw[zo hj,za6]
  unfold lensOf
  rw[zaK,sumL_append]
  congr 1
  by_cases e:ps[j].1=id
  .rw [zf e,za9,zf (zb e)];rfl
  .rw [zu e,za9,zu (by simp[e])];rfl
 let ins:EEntry->Nat:=fun e=>if e.1=field then inp e.2.2 else 0
 have hins:∀es:List EEntry,longS es field id=sumL (es.map ins):=fun es=>by
  unfold longS inField
  induction es with
  |nil=>rfl
  |cons e es ih=>
   rw[zv,sumL_cons,<-ih,za9]
   by_cases h:e.1=field
   .rw [zf (zb h),zv,sumL_cons,show ins e=inp e.2.2 from zf h]
   .rw [zu (by simp[h]),show ins e=0 from zu h,zaY]
 have hib:∀(ps:List EPost),ps.length<=7680->(∀p,p∈ps->p.2.length<=7680)->inp ps<=7680*7680:=fun ps h1 h2=>
  lens_le (zau (zbh _ _) h1) fun p hp=>h2 p (zaZ.1 hp).1
 have hb:∀e,e∈s.2->ins e<=7680*7680:=fun e he=>by
  show(if e.1=field then inp e.2.2 else 0)<=_
  split
  .exact hib _ (hsm.2 e he).1 (hsm.2 e he).2
  .omega
 have hpre:∀n,sumL ((s.2.take n).map ins)<=7680*(7680*7680):=fun n=>by
  refine zau (sumL_le (7680*7680) _ fun x hx=>?_) (zag _ ?_)
  .obtain ⟨e,he,rfl⟩:=zab.1 hx
   exact hb e (zaP he)
  .rw [zar,zah];have:=hsm.1;omega
 refine Def.get ?_
 unfold s_l7Long_m
 refine Def.upto s.2.length (fun n v=>v=(field,id,((sumL ((s.2.take n).map ins):Nat):Int),(n:Int),s.1,s.2)) (fun go v hv=>?_) (fun go n v hn hv hgo=>?_) N 0 _ (zaf _) rfl (by have:=hsm.1;omega)
 .subst hv
  dsimp only
  rw[zd (zcd _),ze,zq]
  exact Def.ret (by rw[hins])
 .subst hv
  dsimp only
  have hm:s.2[n]∈s.2:=zr hn
  have hse:=hsm.2 _ hm
  have hstep:sumL ((s.2.take (n+1)).map ins)=sumL ((s.2.take n).map ins)+ins s.2[n]:=by
   rw[zo hn,zaK,sumL_append]
   rfl
  have hp1:=hpre n
  rw[zb (by omega:(n:Int)<s.2.length),zg]
  have hsl:=hsm.1
  have hback:∀k:Nat,k=ins s.2[n]->Def (if fits ((n:Int)+1)then go (field,id,((sumL ((s.2.take n).map ins)+k:Nat):Int),(n:Int)+1,s.1,s.2)else none) fun r=>r=(longS s.2 field id:Int):=fun k hk=>by
   rw[zf (fits_nat (n:=n) (by omega))]
   exact hgo _ (by rw[hstep,hk,cast_succ'])
  generalize sumL ((s.2.take n).map ins)=acc at*
  by_cases hf:s.2[n].1=field
  .have hi:ins s.2[n]=inp s.2[n].2.2:=zf hf
   have hpl:∀j,inp (s.2[n].2.2.take j)<=7680*7680:=fun j=>hib _ (by rw[zah];omega) fun p hp=>hse.2 p (zaP hp)
   refine Def.upto s.2[n].2.2.length (fun j v=>v=(field,id,((acc+inp (s.2[n].2.2.take j):Nat):Int),(n:Int),(j:Int),s.1,s.2)) (fun go2 v hv=>?_) (fun go2 j v hj hv hgo2=>?_) N 0 _ (zaf _) rfl (by omega)
   .subst hv
    dsimp only
    rw[idx_at hn,za,zd (zcd _),ze,zq]
    exact hback _ hi.symm
   .subst hv
    dsimp only
    have hpj:=hse.2 _ (zr hj)
    have hl:=hpl j
    have hls:=hinp s.2[n].2.2 j hj
    rw[idx_at hn,za,zb (by omega:(j:Int)<s.2[n].2.2.length),zg,za,zb hf,zg,za,idx_at hj,za]
    by_cases e:s.2[n].2.2[j].1=id
    .rw [zb e,zg,za,idx_at hj,za,zf (fits_abs (by omega) (by omega)),zf (fits_nat (n:=j) (by omega))]
     refine hgo2 _ ?_
     rw[zf e]at hls
     rw[hls,cast_succ',<-zbv,Int.natCast_add (acc+_)]
    .rw [zd e,ze,zf (fits_nat (n:=j) (by omega))]
     refine hgo2 _ ?_
     rw[zu e]at hls
     rw[hls,cast_succ',zbz]
  .have hi:ins s.2[n]=0:=zu hf
   have h0:=hback 0 hi.symm
   rw[zbz]at h0
   cases N with
   |zero=>omega
   |succ N=>
    show Def (Option.bind (idx s.2 n) _) _
    rw[idx_at hn,za]
    by_cases hz:(0:Int)<s.2[n].2.2.length
    .rw [zb hz,zg,za]
     dsimp only
     rw[zd hf,ze]
     exact h0
    .rw [zd hz,ze]
     exact h0
theorem l12Points_spec (N:Nat) {c:EConf} {s:ESeg} (g:GoodS N c s) (field term:List UInt8) (id:Int):s_l12Points_m N s.1 s.2 field term id=some (ptsF c s.1 field term id:Int):=by
 have hM:=g.m
 have hN:=g.top
 have hsl:=g.small.1
 have hf:=fun h=>pts_fair c g.dok field term id h
 unfold s_l12Points_m ptsF
 rw[l12At_spec N g field term id,za]
 by_cases h:(atS c s.1 (field,term) id).length=0
 .rw [zb (by omega),zg,zf h];rfl
 .have hq:=hf h
  have hd:=hq.down
  have hu:=hq.up
  have hgp:=gcd_pos' (a:=termUp (atS c s.1 (field,term) id).length s.1.length (postsS c s.1 (field,term)).length) hd.1
  have h1:=za5 (termUp (atS c s.1 (field,term) id).length s.1.length (postsS c s.1 (field,term)).length) (Nat.gcd (termUp (atS c s.1 (field,term) id).length s.1.length (postsS c s.1 (field,term)).length) (termDown (atS c s.1 (field,term) id).length (long c s.1 field id) (total c s.1 field) s.1.length))
  have h3:0<termDown (atS c s.1 (field,term) id).length (long c s.1 field id) (total c s.1 field) s.1.length/Nat.gcd (termUp (atS c s.1 (field,term) id).length s.1.length (postsS c s.1 (field,term)).length) (termDown (atS c s.1 (field,term) id).length (long c s.1 field id) (total c s.1 field) s.1.length):=Nat.div_pos (Nat.le_of_dvd hd.1 (Nat.gcd_dvd_right _ _)) hgp
  rw[zd (by omega),ze,zu h,l7Long_spec N g,za,l12Total_spec N g,za,l7Posts_spec N s field term (by omega) hN,za,g.ent,postsP_eq c g.dok,l12Term_spec N hM hq,za]
  dsimp only
  unfold worth
  dsimp only
  generalize termUp (atS c s.1 (field,term) id).length s.1.length (postsS c s.1 (field,term)).length/Nat.gcd (termUp (atS c s.1 (field,term) id).length s.1.length (postsS c s.1 (field,term)).length) (termDown (atS c s.1 (field,term) id).length (long c s.1 field id) (total c s.1 field) s.1.length)=u at*
  generalize termDown (atS c s.1 (field,term) id).length (long c s.1 field id) (total c s.1 field) s.1.length/Nat.gcd (termUp (atS c s.1 (field,term) id).length s.1.length (postsS c s.1 (field,term)).length) (termDown (atS c s.1 (field,term) id).length (long c s.1 field id) (total c s.1 field) s.1.length)=v at*
  rw[show(u:Int)*1000=((u*1000:Nat):Int)from by omega,zf (fits_abs (by omega) (by omega)),zf (by omega),zf (fits_div (by omega)),tdiv_nat]
theorem points_spec (N:Nat) {c:EConf} {s:ESeg} (g:GoodS N c s) (field term:List UInt8) (id:Int):i_scorer_points_m N (c,s) field term id=some (ptsF c s.1 field term id:Int):=by
 have hM:=g.m
 have hN:=g.top
 have hsl:=g.small.1
 have hfew:=g.dok.few
 have hf:=fun h=>pts_fair c g.dok field term id h
 refine Def.get ?_
 unfold i_scorer_points_m ptsF
 rw[places_spec N g c field term id,za]
 by_cases h:(atS c s.1 (field,term) id).length=0
 .rw [zb (by omega),zg,zf h]
  exact Def.ret rfl
 .have hq:=hf h
  have htl:∀n,sumL ((s.1.take n).map (tl c field))<=16*80:=fun n=>by
   refine zau (sumL_le 80 _ fun x hx=>?_) (zag 80 ?_)
   .obtain ⟨d,hd,rfl⟩:=zab.1 hx
    exact tl_le c g.dok field (zaP hd)
   .rw [zar,zah];omega
  rw[zd (by omega),ze,zu h]
  generalize atS c s.1 (field,term) id=at' at*
  refine Def.upto s.1.length (fun n v=>v=((c,s),field,term,id,at',((sumL ((s.1.take n).map (tl c field)):Nat):Int),s.1,(s.1.length:Int),(n:Int))) (fun go v hv=>?_) (fun go n v hn hv hgo=>?_) N 0 _ (zaf _) rfl (by omega)
  .subst hv
   dsimp only
   rw[zd (zcd _),ze,zq,segLong_spec N g,za,segPosts_spec N s field term (by omega) hN,za,g.ent,postsP_eq c g.dok,show sumL (s.1.map (tl c field))=total c s.1 field from rfl,termScore_spec N hM hq,za]
   dsimp only
   rw[worth_impl N hM hq,za]
   exact Def.ret rfl
  .subst hv
   dsimp only
   have hl1:=htl n
   have hmem:s.1[n]∈s.1:=zr hn
   have hlong:long c s.1 field s.1[n].1=tl c field s.1[n]:=by
    unfold long docOf
    have:(s.1.find? fun d=>decide (d.1=s.1[n].1))=some s.1[n]:=by
     cases hfd:s.1.find? fun d=>decide (d.1=s.1[n].1)with
     |none=>have:=zbM.1 hfd _ hmem;simp at this
     |some d=>
      have h1:d.1=s.1[n].1:=of_decide_eq_true (List.find?_some (p:=fun d:EDoc=>decide (d.1=s.1[n].1)) hfd)
      obtain⟨m,hm,rfl⟩:=zav.1 (zbe hfd)
      have hp:=za2.1 g.dok.inn.ids
      rcases zbl m n with hlt|hlt|hlt
      .have:=hp m n hm hn hlt;omega
      .subst hlt;rfl
      .have:=hp n m hn hm hlt;omega
    rw[this]
   have htn:=tl_le c g.dok field hmem
   rw[zb (by omega:(n:Int)<s.1.length),zg,idx_at hn,za,segLong_spec N g,za,hlong,zf (fits_abs (by omega) (by omega)),zf (fits_nat (n:=n) (by omega))]
   refine hgo _ ?_
   rw[zo hn,zaK,sumL_append,cast_succ',Int.natCast_add]
   rfl
def farCell (x:UInt8) (b:List UInt8) (s:List Int×Int) (k:Nat):List Int×Int:=
 (s.1.set (k+1) (min (s.2+(if x=b.getD k 0 then 0 else 1)) (min (s.1.getD k 0) (s.1.getD (k+1) 0)+1)),s.1.getD (k+1) 0)
def farCells (x:UInt8) (b:List UInt8) (row:List Int) (i k:Nat):List Int×Int:=(List.range k).foldl (farCell x b) (row.set 0 ((i:Int)+1),row.getD 0 0)
def farRow (a b:List UInt8) (row:List Int) (i:Nat):List Int:=(farCells (a.getD i 0) b row i b.length).1
def initRow (n k:Nat):List Int:=(List.range k).foldl (fun row j=>row.set j (j:Int)) (List.replicate n 0)
def farRows (a b:List UInt8) (i:Nat):List Int:=(List.range i).foldl (farRow a b) (initRow (b.length+1) (b.length+1))
def far (a b:List UInt8):Int:=(farRows a b a.length).getD b.length 0
theorem farCells_succ (x:UInt8) (b:List UInt8) (row:List Int) (i k:Nat):farCells x b row i (k+1)=farCell x b (farCells x b row i k) k:=by unfold farCells;rw[List.range_succ,zaX];rfl
theorem initRow_succ (n k:Nat):initRow n (k+1)=(initRow n k).set k (k:Int):=by unfold initRow;rw[List.range_succ,zaX];rfl
theorem farRows_succ (a b:List UInt8) (i:Nat):farRows a b (i+1)=farRow a b (farRows a b i) i:=by unfold farRows;rw[List.range_succ,zaX];rfl
def RowIn (L m:Nat) (row:List Int):Prop:=row.length=L+1/\∀v,v∈row->0<=v/\v<=(m:Int)
theorem RowIn.at {L m:Nat} {row:List Int} (h:RowIn L m row) (k:Nat):0<=row.getD k 0/\row.getD k 0<=(m:Int):=by
 rw[zbF]
 by_cases hk:k<row.length
 .rw [zc hk]
  exact h.2 _ (zr hk)
 .rw [zaM (by omega)]
  exact⟨zbD _,Int.natCast_nonneg _⟩
theorem RowIn.set {L m:Nat} {row:List Int} (h:RowIn L m row) (k:Nat) {v:Int} (h0:0<=v) (h1:v<=(m:Int)):RowIn L m (row.set k v):=by
 refine⟨by rw[List.length_set];exact h.1,fun x hx=>?_⟩
 rcases List.mem_or_eq_of_mem_set hx with h2|rfl
 .exact h.2 x h2
 .exact ⟨h0,h1⟩
theorem RowIn.mono {L m n:Nat} {row:List Int} (h:RowIn L m row) (hm:m<=n):RowIn L n row:=⟨h.1,fun v hv=>⟨(h.2 v hv).1,by have:=(h.2 v hv).2;omega⟩⟩
theorem initRow_in (L k:Nat) (hk:k<=L+1):RowIn L L (initRow (L+1) k):=by
 induction k with
 |zero=>
  refine⟨by simp[initRow],fun v hv=>?_⟩
  have:v=0:=List.eq_of_mem_replicate (n:=L+1) hv
  omega
 |succ k ih=>
  rw[initRow_succ]
  exact(ih (by omega)).set k (by omega) (by omega)
theorem getD_set_ne {l:List Int} {i j:Nat} (v:Int) (h:i≠j):(l.set i v).getD j 0=l.getD j 0:=by
 rw[zbF,zbF,List.getElem?_set_ne h]
theorem farCells_keep (x:UInt8) (b:List UInt8) (row:List Int) (i k:Nat):(farCells x b row i k).2=row.getD k 0/\∀j,k<j->(farCells x b row i k).1.getD j 0=row.getD j 0:=by
 induction k with
 |zero=>exact⟨rfl,fun j hj=>getD_set_ne _ (by omega)⟩
 |succ k ih=>
  rw[farCells_succ]
  refine⟨ih.2 (k+1) (by omega),fun j hj=>?_⟩
  show((farCells x b row i k).1.set (k+1) _).getD j 0=_
  rw[getD_set_ne _ (by omega)]
  exact ih.2 j (by omega)
theorem farCells_in (x:UInt8) (b:List UInt8) {row:List Int} (i k:Nat) {L m:Nat} (h:RowIn L m row) (hi:i<=m):RowIn L (m+1) (farCells x b row i k).1:=by
 induction k with
 |zero=>exact(h.mono (Nat.le_succ m)).set 0 (by omega) (by omega)
 |succ k ih=>
  have h1:=h.at k
  have h2:=ih.at k
  have h3:=ih.at (k+1)
  have hk:=(farCells_keep x b row i k).1
  rw[farCells_succ]
  show RowIn L (m+1) ((farCells x b row i k).1.set (k+1) _)
  refine ih.set (k+1) ?_ ?_
  .rw [hk];split<;>omega
  .rw [hk];split<;>omega
theorem farRows_in (a b:List UInt8) (i:Nat):RowIn b.length (b.length+i) (farRows a b i):=by
 induction i with
 |zero=>exact initRow_in _ _ (zae _)
 |succ i ih=>
  rw[farRows_succ]
  exact farCells_in _ b i _ ih (Nat.le_add_left _ _)
theorem get_at {l:List Int} {i:Nat} (h:i<l.length):l[i]? =some (l.getD i 0):=by
 rw[zbF,zc h];rfl
theorem min_spec (N:Nat) (a b:Int):s_l5Min_m N a b=some (min a b):=by
 unfold s_l5Min_m
 by_cases h:a<b
 .rw [zb h,zg,Int.min_eq_left (by omega)]
 .rw [zd h,ze,Int.min_eq_right (by omega)]
theorem u8_ne (c c2:UInt8):(!decide ((c.toNat:Int)=(c2.toNat:Int)))= !decide (c=c2):=by
 congr 1
 rw[decide_eq_decide]
 constructor
 .intro h
  exact UInt8.toNat_inj.1 (by omega)
 .rintro rfl;rfl
theorem l5Far_spec (N:Nat) (a b:List UInt8) (ha:a.length<=1000) (hb:b.length<=1000) (hN:1010<N):s_l5Far_m N a b=some (far a b):=by
 refine Def.get ?_
 unfold s_l5Far_m
 rw[zf (fits_nat (n:=b.length) (by omega)),zf (by omega),show((b.length:Int)+1).toNat=b.length+1 from by omega]
 refine Def.upto (b.length+1) (fun k g=>g=(a,b,initRow (b.length+1) k,(k:Int))) (fun go g hg=>?_) (fun go k g hk hg hgo=>?_) N 0 _ (zaf _) rfl (by omega)
 .subst hg
  dsimp only
  rw[zd (by omega),ze]
  refine Def.upto a.length (fun i g=>g=(a,b,farRows a b i,(i:Int))) (fun go2 g hg=>?_) (fun go2 i g hi hg hgo2=>?_) N 0 _ (zaf _) rfl (by omega)
  .subst hg
   dsimp only
   have hr:=farRows_in a b a.length
   have hl:=hr.1
   rw[zd (zcd _),ze,zf (by omega),zai,get_at (by omega),za]
   exact Def.ret rfl
  .subst hg
   dsimp only
   have hr:=farRows_in a b i
   have hl:=hr.1
   have h0:(0:Int)<=0/\(0:Int)<((farRows a b i).length:Int):=⟨zbD _,by omega⟩
   rw[zb (by omega:(i:Int)<a.length),zg,zf h0,show(0:Int).toNat=0 from rfl,get_at (by omega),za,zf (fits_nat (n:=i) (by omega)),zf h0,za]
   refine Def.upto b.length (fun k g=>g=(a,b,(farCells (a.getD i 0) b (farRows a b i) i k).1,(i:Int),(farCells (a.getD i 0) b (farRows a b i) i k).2,(k:Int))) (fun go3 g hg=>?_) (fun go3 k g hk hg hgo3=>?_) N 0 _ (zaf _) rfl (by omega)
   .subst hg
    dsimp only
    rw[zd (zcd _),ze,zf (fits_nat (n:=i) (by omega))]
    refine hgo2 _ ?_
    rw[cast_succ',farRows_succ]
    rfl
   .subst hg
    dsimp only
    have hc:=farCells_in (a.getD i 0) b i k hr (by omega)
    have hkp:=(farCells_keep (a.getD i 0) b (farRows a b i) i k).1
    have hsucc:=farCells_succ (a.getD i 0) b (farRows a b i) i k
    have hv:=hr.at k
    rw[<-hkp]at hv
    generalize farCells (a.getD i 0) b (farRows a b i) i k=s at*
    obtain⟨row,ah⟩:=s
    have hcl:=hc.1
    have hv1:=hc.at k
    have hv2:=hc.at (k+1)
    dsimp only at*
    rw[zb (by omega:(k:Int)<b.length),zg]
    refine Def.meet (fun g=>g=(a,b,row,(i:Int),(k:Int),ah+(if a.getD i 0=b.getD k 0 then 0 else 1))) (fun g hg=>?_) (fun J hJ=>?_)
    .subst hg
     dsimp only
     have hkk:((k:Int)+1).toNat=k+1:=by omega
     have hb1:(0:Int)<=(k:Int)+1/\(k:Int)+1<(row.length:Int):=by omega
     have hf1:=fits_nat (n:=k) (by omega)
     rw[zf hf1,zf hb1,hkk,get_at (by omega),za,zf hf1,zf (by omega),zai,get_at (by omega),za,zf hf1,zf hb1,za,min_spec,za,zf (by unfold fits;omega),min_spec,za,zf hb1,za,zf hf1]
     refine hgo3 _ ?_
     rw[hsucc,cast_succ']
     rfl
    .have ea:a.getD i 0=a[i]:=by rw[zbF,zc hi];rfl
     have eb:b.getD k 0=b[k]:=by rw[zbF,zc hk];rfl
     rw[idx_at hi,za,idx_at hk,za,u8_ne]
     by_cases he:a[i]=b[k]
     .rw [zb he,zn,ze]
      exact hJ _ (by rw[ea,eb,zf he,Int.add_zero])
     .rw [zd he,zaI,zg,zf (by unfold fits;omega)]
      exact hJ _ (by rw[ea,eb,zu he])
 .subst hg
  dsimp only
  have hr:=(initRow_in b.length k (by omega)).1
  rw[zb (by omega:(k:Int)<=b.length),zg,zf (by omega),zai,get_at (by omega),za,zf (fits_nat (n:=k) (by omega))]
  refine hgo _ ?_
  rw[cast_succ',initRow_succ]
theorem min3 (n r q:Int):(if(r+1)<(if(q+1)<n then(q+1)else n)then(r+1)else(if(q+1)<n then(q+1)else n))=min n (min r q+1):=by
 by_cases h1:q+1<n
 .rw [zf h1]
  by_cases h2:r+1<q+1
  .rw [zf h2];omega
  .rw [zu h2];omega
 .rw [zu h1]
  by_cases h2:r+1<n
  .rw [zf h2];omega
  .rw [zu h2];omega
theorem nearFar_spec (N:Nat) (a b:List UInt8) (ha:a.length<=1000) (hb:b.length<=1000) (hN:1010<N) (hN2:N<=1099511627776):i_NearFar_m N a b=some (bif okW a&&okW b then far a b else-1):=by
 refine Def.get ?_
 unfold i_NearFar_m
 refine Def.meet (fun g=>g=(a,b)/\okW a=true/\okW b=true) (fun g hg=>?_) (fun J hJ=>?_)
 .obtain ⟨rfl,h1,h2⟩:=hg
  rw[h1,h2,Bool.and_self,zg]
  dsimp only
  refine Def.meet (fun g=>g=(a,b,List.replicate (b.length+1) 0)) (fun g hg=>?_) (fun J hJ=>?_)
  .subst hg
   dsimp only
   rw[show((List.replicate (b.length+1) (0:Int)).length:Int)=((b.length+1:Nat):Int)from by rw[zcs]]
   refine Def.upto (b.length+1) (fun k g=>g=(a,b,initRow (b.length+1) k,((b.length+1:Nat):Int),(k:Int))) (fun go g hg=>?_) (fun go k g hk hg hgo=>?_) N 0 _ (zaf _) rfl (by omega)
   .subst hg
    dsimp only
    rw[zd (zcd _),ze]
    refine Def.upto a.length (fun i g=>g=(a,b,farRows a b i,(i:Int)+1)) (fun go2 g hg=>?_) (fun go2 i g hi hg hgo2=>?_) N 0 _ (zaf _) rfl (by omega)
    .subst hg
     dsimp only
     have hr:=farRows_in a b a.length
     have hl:=hr.1
     rw[zd (by omega),ze,zf (by omega),zai,get_at (by omega),za]
     exact Def.ret rfl
    .subst hg
     dsimp only
     have hr:=farRows_in a b i
     have hl:=hr.1
     have h0:(0:Int)<=0/\(0:Int)<((farRows a b i).length:Int):=⟨zbD _,by omega⟩
     rw[zb (by omega:(i:Int)+1<=(a.length:Int)),zg,zf h0,show(0:Int).toNat=0 from rfl,get_at (by omega),za,zf h0,za]
     refine Def.upto b.length (fun k g=>g=(a,b,(farCells (a.getD i 0) b (farRows a b i) i k).1,(i:Int)+1,(farCells (a.getD i 0) b (farRows a b i) i k).2,(k:Int)+1)) (fun go3 g hg=>?_) (fun go3 k g hk hg hgo3=>?_) N 0 _ (zaf _) rfl (by omega)
     .subst hg
      dsimp only
      rw[zd (by omega),ze,zf (by unfold fits;omega)]
      refine hgo2 _ ?_
      rw[cast_succ',farRows_succ]
      rfl
     .subst hg
      dsimp only
      have hc:=farCells_in (a.getD i 0) b i k hr (by omega)
      have hkp:=(farCells_keep (a.getD i 0) b (farRows a b i) i k).1
      have hsucc:=farCells_succ (a.getD i 0) b (farRows a b i) i k
      have hv:=hr.at k
      rw[<-hkp]at hv
      generalize farCells (a.getD i 0) b (farRows a b i) i k=s at*
      obtain⟨row,ah⟩:=s
      have hcl:=hc.1
      have hv1:=hc.at k
      have hv2:=hc.at (k+1)
      dsimp only at*
      rw[zb (by omega:(k:Int)+1<=(b.length:Int)),zg]
      refine Def.meet (fun g=>g=(a,b,row,(i:Int)+1,(k:Int)+1,ah+(if a.getD i 0=b.getD k 0 then 0 else 1))) (fun g hg=>?_) (fun J hJ=>?_)
      .subst hg
       dsimp only
       have hkk:((k:Int)+1).toNat=k+1:=by omega
       have hk1:(k:Int)+1-1=(k:Int):=by omega
       have hb1:(0:Int)<=(k:Int)+1/\(k:Int)+1<(row.length:Int):=by omega
       rw[zf hb1,hkk,get_at (by omega),za,zf hb1,za,zf (by unfold fits;omega),hk1,zf (by unfold fits;omega),zf (by omega),zai,get_at (by omega),za,zf (by unfold fits;omega),zf hb1,za,zf (by unfold fits;omega),min3]
       refine hgo3 _ ?_
       rw[hsucc,cast_succ']
       rfl
      .have ea:a.getD i 0=a[i]:=by rw[zbF,zc hi];rfl
       have eb:b.getD k 0=b[k]:=by rw[zbF,zc hk];rfl
       rw[show(i:Int)+1-1=(i:Int)from by omega,show(k:Int)+1-1=(k:Int)from by omega,zf (by unfold fits;omega),idx_at hi,za,zf (by unfold fits;omega),idx_at hk,za,u8_ne]
       by_cases he:a[i]=b[k]
       .rw [zb he,zn,ze]
        exact hJ _ (by rw[ea,eb,zf he,Int.add_zero])
       .rw [zd he,zaI,zg,zf (by unfold fits;omega)]
        exact hJ _ (by rw[ea,eb,zu he])
   .subst hg
    dsimp only
    have hr:=(initRow_in b.length k (by omega)).1
    rw[zb (by omega:(k:Int)<((b.length+1:Nat):Int)),zg,zf (by omega),zai,get_at (by omega),za,zf (fits_nat (n:=k) (by omega))]
    refine hgo _ ?_
    rw[cast_succ' k,initRow_succ]
  .rw [zf (fits_nat (n:=b.length) (by omega)),zf (by omega),show((b.length:Int)+1).toNat=b.length+1 from by omega]
   exact hJ _ rfl
 .rw [wordOk_spec N a (by omega) hN2,za]
  cases h1:okW a with
  |false=>exact Def.ret rfl
  |true=>
  rw[zn,ze,wordOk_spec N b (by omega) hN2,za]
  cases h2:okW b with
  |false=>exact Def.ret rfl
  |true=>
  rw[zn,ze]
  have:=hJ (a,b) ⟨rfl,h1,h2⟩
  rwa[h1,h2]at this
theorem okW_iff (s:List UInt8):okW s=true↔(∀c,c∈s->wB (c.toNat:Int)=true)/\1<=s.length/\s.length<=12:=by
 unfold okW allN
 simp only[zj,zw,zax]
 constructor
 .rintro ⟨h1,h2,h3⟩
  refine⟨fun c hc=>?_,by omega,by omega⟩
  obtain⟨n,hn,rfl⟩:=zav.1 hc
  rw[atB_eq hn]
  exact h1 n (by simp;omega)
 .rintro ⟨h1,h2,h3⟩
  refine⟨fun n hn=>?_,by omega,by omega⟩
  have hn':n<s.length:=by simpa using hn
  rw[<-atB_eq hn']
  exact h1 _ (zr hn')
theorem foB_byte {c:UInt8} (h:isL c=true):wB ((UInt8.ofNat (foB c).toNat).toNat:Int)=true:=by
 obtain⟨h1,h2,h3⟩:=foB_ok h
 rw[UInt8.toNat_ofNat_of_lt' (by show(foB _).toNat<256;omega),zbU h2]
 exact h1
theorem take_lead (l:List UInt8):l.take (lead l)=l.takeWhile isL:=((List.prefix_iff_eq_take).1 (List.takeWhile_prefix isL)).symm
theorem words_ok (l:List UInt8) (p a:Int):∀w,w∈wordsF l p a->okW w.1=true:=by
 intro w hw
 match l with
 | []=>rw[wordsF_nil]at hw;cases hw
 |c::t=>
  cases hc:isL c with
  |false=>
   rw[wordsF_skip hc]at hw
   exact words_ok t _ _ w hw
  |true=>
   have hl:0<lead (c::t):=by rw[lead_cons hc];omega
   rw[wordsF_word hl rfl]at hw
   rcases zp.1 hw with rfl|hw
   .rw [okW_iff]
    refine⟨fun x hx=>?_,?_,?_⟩
    .obtain ⟨n,hn,rfl⟩:=zab.1 hx
     obtain⟨y,hy,rfl⟩:=zab.1 (zaP hn)
     rw[take_lead]at hy
     exact foB_byte (zax.1 (List.all_takeWhile (l:=c::t)) y hy)
    .have:=lead_le (c::t)
     simp only[bytesOf,zar,zah];omega
    .simp only [bytesOf,zar,zah];omega
   .have hlt:((c::t).drop (lead (c::t))).length<(c::t).length:=by rw[zaQ,zi];omega
    exact words_ok _ _ _ w hw
termination_by l.length
decreasing_by
 all_goals simp only[zaQ,zi]at*
 all_goals omega
theorem cutEnd_ok {s e t:List UInt8} (h:cutEnd s e=some t) (hs:okW s=true):okW t=true:=by
 unfold cutEnd at h
 split at h
 .rename_i hh
  cases h
  rw[okW_iff]at hs⊢
  refine⟨fun c hc=>hs.1 c (zaP hc),?_,?_⟩
  .rw [zah];omega
  .rw [zah];omega
 .cases h
theorem stem_ok (s:List UInt8) (hs:okW s=true):okW (stemF s)=true:=by
 cases h:once s with
 |none=>rw[stemF_none h];exact hs
 |some t=>
  rw[stemF_some h]
  have hlt:=once_lt h
  have ht:okW t=true:=by
   unfold once at h
   obtain⟨e,_,h⟩:=List.exists_of_findSome?_eq_some h
   exact cutEnd_ok h hs
  exact stem_ok t ht
termination_by s.length
theorem plain_ok (st:List (List UInt8)) (s:List UInt8):∀x,x∈plain st s->okW x.1=true:=by
 intro x hx
 obtain⟨w,hw,hp⟩:=zbs.1 hx
 unfold plainW at hp
 split at hp
 .cases hp
 .cases hp
  exact stem_ok _ (words_ok _ _ _ w hw)
theorem termsF_ok (c2:List ESyn) (hc:∀y,y∈c2->okW y.2=true) (l:List ETerm) (hl:∀x,x∈l->okW x.1=true):∀x,x∈termsF c2 l->okW x.1=true:=by
 intro x hx
 match l with
 | []=>rw[termsF_nil]at hx;cases hx
 |t::r=>
  rw[termsF]at hx
  split at hx
  .rcases zp.1 hx with rfl|hx
   .exact hl _ zy
   .exact termsF_ok c2 hc r (fun y hy=>hl y (zl _ hy)) x hx
  .rename_i y hy
   rcases zp.1 hx with rfl|hx
   .exact hc _ (syn_mem c2 _ hy).1
   .exact termsF_ok c2 hc _ (fun z hz=>hl z (zl _ (zbP hz))) x hx
termination_by l.length
decreasing_by all_goals (simp; try omega)
theorem terms_ok (c:EConf) (hc:okConf c=true) (s:List UInt8):∀x,x∈terms c s->okW x.1=true:=
 termsF_ok c.2 (fun y hy=>((okConf_stops hc).2.2 y hy).2.2.1) _ (plain_ok c.1 s)
theorem entries_ok (c:EConf) (hc:okConf c=true) {docs:List EDoc} (hd:DOk docs):∀e,e∈entriesS c docs->okW e.2.1=true:=by
 intro e he
 have hm:=(entriesS_mem c hd.inn (keyE e)).1 (zca he)
 obtain⟨o,ho,hk⟩:=hm
 obtain⟨d,_,ho⟩:=zaT.1 ho
 obtain⟨f,_,ho⟩:=zaT.1 ho
 obtain⟨t,ht,rfl⟩:=zab.1 ho
 have:e.2.1=t.1:=(congrArg Prod.snd hk).symm
 rw[this]
 exact terms_ok c hc _ t ht
end Go.Proofs.YtkglkigmdmohkaaGreatDoor
