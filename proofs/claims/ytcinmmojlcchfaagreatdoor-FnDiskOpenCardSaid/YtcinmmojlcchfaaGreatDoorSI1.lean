import Derived.Test.YtcinmmojlcchfaaGreatDoorSH1
import Derived.Test.YtcinmmojlcchfaaGreatDoorD5
import Derived.Test.YtcinmmojlcchfaaGreatDoorSF1
import Derived.Test.YtcinmmojlcchfaaGreatDoorSG1
set_option linter.unusedVariables false
set_option linter.unusedSimpArgs false
namespace Go.Proofs.YtcinmmojlcchfaaGreatDoor
open Go.RowKit
theorem writeAll_mem (x:EFile):∀(fs d:List EFile),x∈writeAll fs d->x∈fs\/x∈d
 | [],d,h=>.inr h
 |f::fs,d,h=>by
  rw[writeAll_cons]at h
  rcases writeAll_mem x fs _ h with h|h
  .exact .inl (zl _ h)
  .rcases write_mem f x d h with rfl|h
   .exact .inl zy
   .exact .inr h
theorem takeW_mem {w:Int} {fs:List EFile} {f:EFile} (h:f∈takeW w fs):f∈fs:=by
 unfold takeW at h
 cases hw:decide (w<0)with
 |true=>rw[hw]at h;exact h
 |false=>rw[hw]at h;exact zaP h
theorem j1J (N:Nat) (hN:1048576<N) (l:List (List UInt8)) (hl:l.length<=1048576):j0Z N l l=some true:=by
 unfold j0Z
 rw[zb rfl,zn,ze]
 refine(iter_scan _ l.length (fun n=>(l,l,(n:Int))) (fun _=>some true) (fun go=>?_) (fun go n hn hgo=>?_) N 0 (zaf _) (by omega)).trans rfl
 .dsimp only
  rw[zd (zcd _),ze]
 .dsimp only
  rw[zb (by omega:(n:Int)<l.length),zg,idx_at hn,za,za,zb rfl,zn,ze,zf (fits_nat (n:=n) (by omega)),<-hgo,cast_succ']
theorem j2v (N:Nat) (hN:1048576<N) (c:EConf) (h:okD Sm TConf c):j1a N c.1 c.2 c.1 c.2=some true:=by
 have h1:c.1.length<=1048576:=h.1.1
 have h2:c.2.length<=1048576:=h.2.1
 have h3:∀y,y∈c.2->y.1.length<=1048576:=fun y hy=>(h.2.2 y hy).1.1
 unfold j1a
 rw[j1J N hN _ h1,za,zn,ze,zb rfl,zn,ze]
 refine(iter_scan _ c.2.length (fun n=>((n:Int),c.1,c.2,c.1,c.2)) (fun _=>some true) (fun go=>?_) (fun go n hn hgo=>?_) N 0 (zaf _) (by omega)).trans rfl
 .dsimp only
  rw[zd (zcd _),ze]
 .dsimp only
  rw[zb (by omega:(n:Int)<c.2.length),zg,idx_at hn,za,za,zb rfl,zn,ze,za,za,j1J N hN _ (h3 _ (zr hn)),za,zn,ze,zf (fits_nat (n:=n) (by omega)),<-hgo,cast_succ']
theorem foIndex_same {N:Nat} {x:EIndex} (h:FitX N x):j4w N x.1.1 x.1.2 x.2 x.1.1 x.1.2 x.2=some true:=by
 have hN:1048576<N:=h.fit.big
 have hl:=h.few
 unfold j4w
 rw[j2v N hN _ h.fit.oc,za,zn,ze,zb rfl,zn,ze]
 refine(iter_scan _ x.2.length (fun n=>((n:Int),x.1.1,x.1.2,x.2,x.1.1,x.1.2,x.2)) (fun _=>some true) (fun go=>?_) (fun go n hn hgo=>?_) N 0 (zaf _) (by omega)).trans rfl
 .dsimp only
  rw[zd (zcd _),ze]
 .dsimp only
  have hm:=zr hn
  obtain⟨e1,e2,e3⟩:=h.fit.each _ hm
  have e4:=h.each _ hm
  have e5:j06 N x.2[n].1.1 x.2[n].1.2 x.2[n].2 x.2[n].1.1 x.2[n].1.2 x.2[n].2=some true:=by
   unfold j06
   rw[foSeg_same N hN _ e2 e1 e4.small,za,zg,foInts_same N hN _ e3,za]
  rw[zb (by omega:(n:Int)<x.2.length),zg,idx_at hn,za,za,e5,za,zn,ze,zf (fits_nat (n:=n) (by omega)),<-hgo,cast_succ']
theorem filesC_b {x:EIndex} (hl5:x.2.length<=6) {B:Nat} (hB:500<=B) (hx:∀l,l∈x.2->(liveT l.1.1 l.2).length<=B) {n:Int} (h0:0<=n) (h1:n<=1000):∀f,f∈filesC x n->f.1.length<=44/\f.2.length<=B:=fun f hf=>by
 have seg:∀(ls:List ELive) (k:Nat),(∀l,l∈ls->(liveT l.1.1 l.2).length<=B)->k+ls.length<=1000->(∀f,f∈segFrom n k ls->f.1.length<=44/\f.2.length<=B)/\(manR (segFrom n k ls)).length<=70*ls.length:=fun ls=>by
  induction ls with
  |nil=>exact fun k _ _=>⟨(fun f hf=>by cases hf),zaf _⟩
  |cons l ls ih=>
   intro k h hk
   rw[zi]at hk
   obtain⟨g1,g2⟩:=ih (k+1) (fun l hl=>h l (zl _ hl)) (by omega)
   have b4:=j1b h0 h1 (k:=(k:Int)) (by omega) (by omega)
   refine⟨fun f hf=>?_,?_⟩
   .rcases zp.1 (show f∈(segN n (k:Int),liveT l.1.1 l.2)::segFrom n (k+1) ls from hf)with rfl|hf
    .exact ⟨b4,h l zy⟩
    .exact g1 f hf
   .have:=j1f (f:=(segN n (k:Int),liveT l.1.1 l.2)) b4
    rw[show segFrom n k (l::ls)=(segN n (k:Int),liveT l.1.1 l.2)::segFrom n (k+1) ls from rfl,j1e,zam,zi]
    omega
 obtain⟨g1,g2⟩:=seg x.2 0 hx (by omega)
 unfold filesC at hf
 rw[zaB,zaD]at hf
 rcases hf with hf|rfl
 .exact g1 f hf
 .have e1:=itoa_len20 (n:=1000+n) (by omega) (by omega)
  refine⟨?_,?_⟩
  .unfold genN
   rw[zam,zi,zi,zi,zac]
   omega
  .show (manR (segFrom n 0 x.2)++endT).length<=B
   rw[zam,show endT.length=3 from rfl]
   omega
structure DrawnD (B m:Nat) (P:Nat->List UInt8->Prop) (d:List EFile):Prop where
 few:d.length<=30
 each:∀f,f∈d->f.1.length<=44/\f.2.length<=B
 inv:InvM m P d
theorem DrawnD.nil (B m:Nat) (P:Nat->List UInt8->Prop):DrawnD B m P []:=⟨zaf _,(fun f hf=>by cases hf),(fun f hf=>by cases hf)⟩
theorem DrawnD.fit {B m:Nat} {P:Nat->List UInt8->Prop} {d:List EFile} (h:DrawnD B m P d) (hB:B<=1048576):FitD d:=⟨by have:=h.few;omega,fun f hf=>by have:=h.each f hf;omega⟩
theorem DrawnD.commit {N m:Nat} {d:List EFile} (h:DrawnD 1000000 m MkP d) (hm:m+1<=9) {x:EIndex} (F:FitX N x) (w:Int):DrawnD 1000000 (m+1) MkP (commitR d x w).1:=by
 have up:InvM (m+1) MkP d:=fun f hf k h1 h2 e=>⟨zcn (h.inv f hf k h1 h2 e).1,(h.inv f hf k h1 h2 e).2⟩
 unfold commitR
 cases hdo:okDisk d with
 |false=>exact .nil _ _ _
 |true=>
  cases hk:okIdx x with
  |false=>exact .nil _ _ _
  |true=>
   rw[zaV,zg]
   have hinv:=commit_inv (x:=x) h.inv hm w
   cases hn:decide (99<mostD d+1)||decide (24<d.length+6)with
   |true=>
    rw[commit_full hn]at hinv⊢
    exact⟨h.few,h.each,hinv⟩
   |false=>
    have hmost:mostD d<=99:=mostFrom_le d 99
    have h24:d.length<=24:=(okDisk_ok hdo).few
    have hfit:=filesC_b F.few (B:=1000000) (by omega) (fun l hl=>(F.one hl).2) (n:=((mostD d+1:Nat):Int)) (by omega) (by omega)
    have hl5:x.2.length<=5:=(okIdx_ok hk).2.1
    have hfl:(filesC x ((mostD d+1:Nat):Int)).length<=6:=by rw[filesC_len];omega
    rw[commit_room hn]at hinv⊢
    have hw:∀f,f∈writeAll (takeW w (filesC x ((mostD d+1:Nat):Int))) d->f.1.length<=44/\f.2.length<=1000000:=fun f hf=>by
     rcases writeAll_mem f _ d hf with hf|hf
     .exact hfit f (takeW_mem hf)
     .exact h.each f hf
    have hln:=fin_len w _ d hfl h24
    dsimp only at hinv⊢
    cases hc:decide (w<0)||decide (((filesC x ((mostD d+1:Nat):Int)).length:Int)<w)with
    |false=>
     rw[hc,ze]at hinv
     exact⟨hln,hw,hinv⟩
    |true=>
     rw[hc,zg]at hinv
     exact⟨zau (clean_len _ _) hln,fun f hf=>hw f (zaZ.1 hf).1,hinv⟩
theorem addR_any {N:Nat} {x:EIndex} (F:FitX N x) {docs:List EDoc} (h:DrawnDocs docs 100):FitX N (addR docs x).1:=addR_fitx F.fit fun d hd=>(h.each d hd).1
theorem disk_def (N:Nat) (hN:1048600<=N) (hN2:N<=16777216) {b:List Int} {k:Int} (h:Rdr b k 0):Def (s_l30Disk_m N b k) fun r=>DrawnD 1000000 3 MkP r.1/\FitX N ((r.2.1,r.2.2.1),r.2.2.2.1)/\Rdr r.2.2.2.2.1 r.2.2.2.2.2 20000:=by
 have hM:Sm<N:=by show 1048576<N;omega
 unfold s_l30Disk_m
 refine Def.bind (drawIndex_def N hM hN2 h (by omega)) fun r ⟨F,h1⟩=>?_
 refine Def.bind (pick_def N 4 h1 (by omega)) fun r2 ⟨p0,p1,_,h2⟩=>?_
 have p1:=p1 (by omega)
 refine Def.iter (fun g=>∃(n m:Nat) (d:List EFile) (x:EIndex) (b3:List Int) (b4:Int),g=((n:Int),d,x.1.1,x.1.2,x.2,b3,b4)/\n+m<=3/\DrawnD 1000000 m MkP d/\FitX N x/\Rdr b3 b4 (7001+701*m)) (fun g=>g.1.toNat) (fun go g hI ih=>?_) N _ ⟨r2.1.toNat,0,[],((r.1,r.2.1),r.2.2.1),r2.2.1,r2.2.2,?_,by omega,.nil _ _ _,F,h2⟩ (by dsimp only;omega)
 .obtain ⟨n,m,d,x,b3,b4,rfl,hnm,D,FX,hr⟩:=hI
  dsimp only
  cases n with
  |zero=>
   rw[zd (by decide:¬(0:Int)<((0:Nat):Int)),ze]
   refine Def.ret ⟨⟨D.few,D.each,fun f hf k h1 h2 e=>⟨by have:=(D.inv f hf k h1 h2 e).1;omega,(D.inv f hf k h1 h2 e).2⟩⟩,FX,hr.le (by omega)⟩
  |succ n=>
   rw[zb (by omega:(0:Int)<((n+1:Nat):Int)),zg]
   refine Def.bind (one_def N (by decide) hr (by omega)) fun r3 ⟨_,h3⟩=>?_
   rw[diskCommit_s hN hN2 d (D.fit (by omega)) FX.fit r3.1,za]
   refine Def.bind (docs_def N h3 (by omega) (by omega)) fun r5 ⟨hd,h5⟩=>?_
   have hfew:=hd.few
   rw[addIndex_s FX.fit (fun d hm=>(hd.each d hm).1) (by omega),za]
   refine Def.ite (by unfold fits;omega) (ih _ ⟨n,m+1,(commitR d x r3.1).1,(addR r5.1 x).1,r5.2.1,r5.2.2,?_,by omega,D.commit (by omega) FX _,addR_any FX hd,h5.le (by omega)⟩ (by dsimp only;omega))
   rw[show((n+1:Nat):Int)-1=(n:Int)from by omega]
 .rw [zbU p0]
theorem bent_spec (N:Nat) (s:List UInt8) (hs:s.length<=1000000) {b:List Int} {k:Int} {j:Nat} (h:Rdr b k j) (hj:j<=100000):Def (s_l30Bent_m N s b k) fun r=>r.1.length<=1048576/\Bent s r.1/\Rdr r.2.1 r.2.2 (j+3):=by
 unfold s_l30Bent_m
 refine Def.ite (fits_nat (by omega)) ?_
 refine Def.bind (pick_def N _ h (by omega)) fun r ⟨p0,p1,_,h1⟩=>?_
 have p1:=p1 (by omega)
 refine Def.bind (pick_def N 5 h1 (by omega)) fun r2 ⟨_,_,_,h2⟩=>?_
 obtain⟨n,hn⟩:∃n:Nat,r.1=(n:Int):=⟨r.1.toNat,by omega⟩
 rw[hn]at p1⊢
 have same:Def (some (s,r2.2.1,r2.2.2)) fun r:List UInt8×List Int×Int=>r.1.length<=1048576/\Bent s r.1/\Rdr r.2.1 r.2.2 (j+3):=Def.ret ⟨by dsimp only;omega,.same,h2.le (by omega)⟩
 refine Def.dif (fun _=>?_) (fun _=>Def.dif (fun _=>?_) (fun _=>Def.dif (fun _=>?_) (fun _=>same)))
 .refine Def.dif (fun hlt=>?_) (fun _=>same)
  refine Def.cut (by omega) (by omega) (by omega) ?_
  refine Def.bind (of_def N (by decide) h2 (by omega)) fun r3 ⟨hm,h3⟩=>?_
  have hb:∃c:UInt8,r3.1=[c]/\c∈([48,49,32,40,41,10,58,128]:List UInt8):=by
   simp only[zp,zco,or_false]at hm
   rcases hm with e|e|e|e|e|e|e|e<;>exact⟨_,e,by decide⟩
  obtain⟨c,hc,hcm⟩:=hb
  rw[hc]
  have e1:(s.take ((n:Int)).toNat).drop (Int.toNat 0)=s.take n:=by rw[zai];rfl
  rw[e1]
  have e2:(s.take n).length<=s.length:=by rw[zah];omega
  refine Def.ite (by rw[zbE];omega) (Def.ite (fits_nat (by omega)) ?_)
  refine Def.cut (by omega) (by omega) (by omega) ?_
  have e3:(s.take (Int.toNat (s.length:Int))).drop ((n:Int)+1).toNat=s.drop (n+1):=by
   rw[zai,zba (zae _),show((n:Int)+1).toNat=n+1 from by omega]
  rw[e3]
  have e4:(s.drop (n+1)).length<=s.length:=by rw[zaQ];omega
  refine Def.ite (by rw[zam,zbE];omega) (Def.ret ⟨?_,.set n c hcm,h3.le (by omega)⟩)
  dsimp only
  rw[zam,zam,zbE,zah,zaQ]
  omega
 .refine Def.cut (by omega) (by omega) (by omega) (Def.ret ⟨?_,?_,h2.le (by omega)⟩)
  .dsimp only
   rw[zaQ,zah]
   omega
  .show Bent s ((s.take ((n:Int)).toNat).drop (Int.toNat 0))
   exact .pre _
 .refine Def.bind (of_def N (by decide) h2 (by omega)) fun r3 ⟨hm,h3⟩=>?_
  have hb:∃c:UInt8,r3.1=[c]/\c∈([48,32,41,10]:List UInt8):=by
   simp only[zp,zco,or_false]at hm
   rcases hm with e|e|e|e<;>exact⟨_,e,by decide⟩
  obtain⟨c,hc,hcm⟩:=hb
  rw[hc]
  refine Def.ite (by rw[zbE];omega) (Def.ret ⟨?_,.post c hcm,h3.le (by omega)⟩)
  dsimp only
  rw[zam,zbE]
  omega
theorem genN_head {k:Int} {nm:List UInt8} (h:nm∈([[],[122,122],[65]]:List (List UInt8))):nm≠genN k:=fun e=>by
 have h3:∀l:List UInt8,genN k=l->3<=l.length:=fun l e=>by
  rw[<-e]
  unfold genN
  rw[zam]
  exact Nat.le_add_right _ _
 simp only[zp,zco,or_false]at h
 rcases h with rfl|rfl|rfl
 .exact absurd (h3 _ e.symm) (by decide)
 .exact absurd (h3 _ e.symm) (by decide)
 .exact absurd (h3 _ e.symm) (by decide)
theorem anyDisk_def (N:Nat) (hN:1048600<=N) (hN2:N<=16777216) {b:List Int} {k:Int} (h:Rdr b k 0):Def (s_l30AnyDisk_m N b k) fun r=>DrawnD 1048576 3 Mk r.1/\FitX N ((r.2.1,r.2.2.1),r.2.2.2.1)/\Rdr r.2.2.2.2.1 r.2.2.2.2.2 30000:=by
 unfold s_l30AnyDisk_m
 refine Def.bind (disk_def N hN hN2 h) fun r ⟨D,F,h1⟩=>?_
 have hfew:=D.few
 have D0:DrawnD 1048576 3 Mk r.1:=⟨D.few,fun f hf=>by have:=D.each f hf;omega,D.inv.mk (by omega)⟩
 simp only[zaW]
 refine Def.ite (room_of (by rw[show([]:List EFile).length=0 from rfl,zaY];omega) (by rw[show([]:List EFile).length=0 from rfl,zaY];omega)) ?_
 refine Def.dif (fun hne=>?_) (fun _=>Def.ret ⟨D0,F,h1.le (by omega)⟩)
 refine Def.bind (pick_def N _ h1 (by omega)) fun r2 ⟨p0,p1,_,h2⟩=>?_
 have p1:=p1 (by omega)
 refine Def.bind (pick_def N 12 h2 (by omega)) fun r3 ⟨_,_,_,h3⟩=>?_
 obtain⟨n,hn⟩:∃n:Nat,r2.1=(n:Int):=⟨r2.1.toNat,by omega⟩
 rw[hn]at p1⊢
 have hlt:n<r.1.length:=by omega
 have hgt:r.1[((n:Int)).toNat]? =some r.1[n]:=by rw[zai];exact zc hlt
 have hin:(0:Int)<=(n:Int)/\(n:Int)<r.1.length:=⟨by omega,p1⟩
 have hmem:=zr hlt
 have he:=D.each _ hmem
 refine Def.dif (fun _=>?_) (fun _=>Def.dif (fun _=>?_) (fun _=>Def.dif (fun _=>?_) (fun _=>Def.ret ⟨D0,F,h3.le (by omega)⟩)))
 .rw [zf hin,hgt,za]
  refine Def.bind (bent_spec N r.1[n].2 he.2 h3 (by omega)) fun r4 ⟨g1,g2,g3⟩=>?_
  rw[zf hin,za]
  refine Def.ret ⟨⟨by dsimp only;rw[zap];exact hfew,fun f hf=>?_,fun f hf k h1 h2 e=>?_⟩,F,g3.le (by omega)⟩
  .rcases set_mem hf with rfl|hf
   .exact ⟨he.1,g1⟩
   .have:=D.each f hf;omega
  .rcases set_mem hf with rfl|hf
   .have h5:=D.inv _ hmem k h1 h2 e
    exact⟨h5.1,g2.mk h5.2 (by have:=h5.1;omega)⟩
   .have h5:=D.inv _ hf k h1 h2 e
    exact⟨h5.1,h5.2.mk (by have:=h5.1;omega)⟩
 .refine Def.bind (of_def N (by decide) h3 (by omega)) fun r5 ⟨hm,h5⟩=>?_
  rw[zf hin,hgt,za]
  refine Def.ret ⟨⟨by dsimp only;rw[zap];exact hfew,fun f hf=>?_,fun f hf k h1 h2 e=>?_⟩,F,h5.le (by omega)⟩
  .rcases set_mem hf with rfl|hf
   .refine ⟨?_,by have:=he.2;dsimp only;omega⟩
    simp only[zp,zco,or_false]at hm
    rcases hm with e|e|e<;>rw[e]<;>decide
   .have:=D.each f hf;omega
  .rcases set_mem hf with rfl|hf
   .exact absurd e (genN_head hm)
   .have h5:=D.inv _ hf k h1 h2 e
    exact⟨h5.1,h5.2.mk (by have:=h5.1;omega)⟩
 .refine Def.cut (by omega) (by omega) (by omega) (Def.ite (fits_nat (by omega)) (Def.cut (by omega) (by omega) (by omega) (Def.ite (by omega) (Def.ret ⟨⟨?_,fun f hf=>?_,fun f hf k h1 h2 e=>?_⟩,F,h3.le (by omega)⟩))))
  .dsimp only
   rw[zam,zah,zaQ,zah]
   omega
  .dsimp only at hf
   have hf':f∈r.1:=by
    rcases zaB.1 hf with hf|hf
    .exact zaP hf
    .exact zaP (zbP hf)
   have:=D.each f hf';omega
  .dsimp only at hf
   have hf':f∈r.1:=by
    rcases zaB.1 hf with hf|hf
    .exact zaP hf
    .exact zaP (zbP hf)
   have h5:=D.inv _ hf' k h1 h2 e
   exact⟨h5.1,h5.2.mk (by have:=h5.1;omega)⟩
theorem lastT_eq (c:EConf) (d:List EFile):∀n,lastT c d n=openFrom c d n
 |0=>rfl
 |n+1=>by
  unfold lastT openFrom
  rw[lastT_eq c d n]<;>cases openG c d ((n+1:Nat):Int)<;>rfl
theorem openD2_eq {c:EConf} {d:List EFile} (hc:okConf c=true) (hd:okDisk d=true):openD2 c d=openD c d:=by
 unfold openD2 openD
 rw[hc,hd,zb5,zg,lastT_eq]
theorem openFrom_ok {c:EConf} {d:List EFile}:∀n,(okIdx (openFrom c d n).1=true/\(openFrom c d n).1.1=c/\0<(openFrom c d n).2)\/(openFrom c d n=((c,[]),0))
 |0=>.inr rfl
 |n+1=>by
  unfold openFrom
  cases hg:openG c d ((n+1:Nat):Int)with
  |none=>exact openFrom_ok n
  |some x=>
   obtain⟨e,hk⟩:=openG_ok hg
   exact .inl ⟨hk,e,by dsimp only;omega⟩
theorem okIdx_nil {c:EConf} (h:okConf c=true):okIdx (c,[])=true:=by
 unfold okIdx
 rw[h]
 rfl
theorem fitx_opened {N:Nat} (hM:Sm<N) (hN:N<=16777216) {c:EConf} (oc:okD Sm TConf c) {d:List EFile}:FitX N (openD2 c d).1:=by
 have o:=(openD2_ok (d:=d) oc).1
 have F:=fitI_of hM hN o
 unfold openD2 at*
 cases hcd:okConf c&&okDisk d with
 |false=>exact⟨by rw[hcd]at F;exact F,zaf _,(fun l hl=>by cases hl),(fun l hl=>by cases hl)⟩
 |true=>
  rw[hcd,zg]at F
  rw[zg]
  rw[lastT_eq]at F⊢
  rcases openFrom_ok (c:=c) (d:=d) 99 with⟨h1,_⟩|h1
  .exact FitX.of F h1
  .rw [h1]at F⊢
   exact⟨F,zaf _,(fun l hl=>by cases hl),(fun l hl=>by cases hl)⟩
theorem drawOpen_def (N:Nat) (hN:1048600<=N) (hN2:N<=16777216) {code:List Int} (hb:Bs code):Def (s_DrawDiskOpen_m N code) fun r=>DrawnD 1048576 3 Mk r.2.2/\okD Sm TConf (r.1,r.2.1):=by
 unfold s_DrawDiskOpen_m
 refine Def.bind (open_def N hb) fun r h1=>?_
 refine Def.bind (anyDisk_def N hN hN2 h1) fun r2 ⟨D,F,_⟩=>Def.ret ⟨D,F.fit.oc⟩
theorem okDisk_nil :okDisk []=true:=by decide
theorem open_none (c:EConf):∀n,openFrom c [] n=((c,[]),0)
 |0=>rfl
 |n+1=>by
  unfold openFrom
  exact open_none c n
theorem diskOk_S (N:Nat) (hM:1048576<N) (hN:N<=16777216) (d:List EFile) (h:FitD d):s_DiskOk_m N d=some (okDisk d):=by
 unfold s_DiskOk_m
 rw[diskOk_s N hM hN d h,za]
theorem fnDiskOpen_gen {N:Nat} (hN:1048600<=N) (hN2:N<=16777216) (code:List Int) (hb:Bs code):l_FnDiskOpen_m N code=some true:=by
 have hM:Sm<N:=by show 1048576<N;omega
 refine Def.get ?_
 unfold l_FnDiskOpen_m
 refine Def.dif (fun _=>Def.ret rfl) (fun _=>?_)
 refine Def.bind (drawOpen_def N hN hN2 hb) fun r ⟨D,oc⟩=>?_
 obtain⟨c1,c2,d⟩:=r
 dsimp only at D oc⊢
 have F:=D.fit (zae _)
 have h1:i_DiskOpen_m N c1 c2 d=some (outO (openD2 (c1,c2) d)):=diskOpen_i hN hN2 (c1,c2) oc d F
 have h2:s_DiskOpen_m N c1 c2 d=some (outO (openD2 (c1,c2) d)):=diskOpen_s hN hN2 (c1,c2) oc d F
 have h3:=foIndex_same (fitx_opened hM hN2 oc (d:=d))
 have h4:=diskOk_i N (by omega) hN2 d F
 have h5:=diskOk_S N (by omega) hN2 d F
 have h6:i_DiskOpen_m N c1 c2 []=some (outO (openD2 (c1,c2) [])):=diskOpen_i hN hN2 (c1,c2) oc [] ⟨zaf _,(fun f hf=>by cases hf)⟩
 have h7:=indexOk_spec (fitx_opened hM hN2 oc (d:=d)).fit
 unfold outO at h1 h2
 simp only[h1,h2,h3,h4,h5,h6,h7,za,decide_true,zn,ze,zg,beq_self_eq_true]
 by_cases hcd:(okConf (c1,c2)&&okDisk d)=true
 .obtain ⟨k1,k2⟩:=Bool.and_eq_true_iff.1 hcd
  rw[openD2_eq k1 k2,openD2_eq k1 okDisk_nil]
  have e0:openD (c1,c2) []=(((c1,c2),[]),0):=open_none (c1,c2) 99
  have h8:=openFrom_le (c1,c2) d 99
  have h9:=mostFrom_le d 99
  unfold outO
  rw[e0]
  unfold openD
  dsimp only
  rcases openFrom_ok (c:=(c1,c2)) (d:=d) 99 with⟨g1,_,g3⟩|g1
  .rw [g1,zd (by omega),ze,zg,zb (by omega),zg,zb (by omega:(openFrom (c1,c2) d 99).2<=99),zg,zb g3]
   exact Def.ret rfl
  .rw [g1,okIdx_nil k1]
   exact Def.ret rfl
 .have e0:openD2 (c1,c2) d=((([],[]),[]),-1):=by
   unfold openD2
   rw[zci]at hcd
   rw[hcd]
   rfl
  rw[e0]
  exact Def.ret rfl
theorem fnDiskOpen_law (x0:List Int) (o0:okD BigN (.sl (.int .u8)) x0):l_FnDiskOpen_m 1048700 x0=some true:=fnDiskOpen_gen (by omega) (by omega) x0 (bytes_ok o0)
end Go.Proofs.YtcinmmojlcchfaaGreatDoor
