import Derived.Test.YtchgdmmcjgmfcaaGreatDoorSC
import Derived.Test.YtchgdmmcjgmfcaaGreatDoorQA
import Derived.Test.YtchgdmmcjgmfcaaGreatDoorSD
set_option linter.unusedVariables false
set_option linter.unusedSimpArgs false
namespace Go.Proofs.YtchgdmmcjgmfcaaGreatDoor
open Go.RowKit
theorem compareI_spec (N:Nat) (x y:Int):jxY N x y=some (if x<y then-1 else if y<x then 1 else 0):=by
 simp only[jxY,k_cmp_isNaN_538_m,za,decide_true,zn,ze]
 by_cases h:x<y
 .simp [h]
 .by_cases h2:y<x<;>simp[h,h2]
theorem docOf_self :∀ {docs:List EDoc},(docs.Pairwise fun a b=>a.1<b.1)->∀d,d∈docs->docOf docs d.1=some d
 | [],_,d,h=>by cases h
 |x::l,hp,d,h=>by
  rw[zas]at hp
  unfold docOf
  rw[zbA]
  rcases zp.1 h with rfl|h
  .rw [zb rfl]
  .have:=hp.1 d h
   rw[zd (by omega)]
   exact docOf_self hp.2 d h
theorem docOf_some {docs:List EDoc} {id:Int} {d:EDoc} (h:docOf docs id=some d):d∈docs/\d.1=id:=by
 refine⟨zbe h,?_⟩
 have:=List.find?_some h
 exact of_decide_eq_true this
theorem queryOk_i (N:Nat) (hM:Sm<N) (hN:N<=1099511627776) (q:DQ) (hq:BQ 4 q):i_QueryOk_m N q.kind q.field q.words q.lo q.hi q.kids=some (okQ 4 q):=by
 have hM':1048576<N:=hM
 unfold i_QueryOk_m
 rw[show(4:Int)=((4:Nat):Int)from rfl,jAo N hM hN 4 N (by omega) (by omega) q hq,za]
theorem queryOk_s (N:Nat) (hM:Sm<N) (hN:N<=1099511627776) (q:DQ) (hq:BQ 4 q):jE5 N q.kind q.field q.words q.lo q.hi q.kids=some (okQ 4 q):=by
 have hM':1048576<N:=hM
 unfold jE5
 rw[show(4:Int)=((4:Nat):Int)from rfl,jzi N hM hN 4 N (by omega) (by omega) q hq,za]
structure Fit (N:Nat) (c:EConf) (s:ESeg) (q:DQ):Prop where
 big:Sm<N
 top:N<=16777216
 oc:okD Sm TConf c
 od:∀x,x∈s.1->okD Sm TDoc x
 len:s.1.length<=1048576
 bq:BQ 4 q
theorem Fit.good {N:Nat} {c:EConf} {s:ESeg} {q:DQ} (h:Fit N c s q) (hs:okSeg c s=true):GoodS N c s:=⟨h.big,h.top,h.oc,h.od,hs⟩
theorem Fit.segI {N:Nat} {c:EConf} {s:ESeg} {q:DQ} (h:Fit N c s q):i_SegOk_m N c.1 c.2 s.1 s.2=some (okSeg c s):=segOk_spec N h.big h.top c h.oc s h.od h.len
theorem Fit.qI {N:Nat} {c:EConf} {s:ESeg} {q:DQ} (h:Fit N c s q):i_QueryOk_m N q.kind q.field q.words q.lo q.hi q.kids=some (okQ 4 q):=queryOk_i N h.big (by have:=h.top;omega) q h.bq
def scoreR (N:Nat) (c:EConf) (s:ESeg) (q:DQ) (id:Int):Int:=bif okSeg c s&&okQ 4 q then(match docOf s.1 id with|some d=>valS N N c s d q|none=>0)else 0
theorem score_i {N:Nat} {c:EConf} {s:ESeg} {q:DQ} (h:Fit N c s q) (id:Int):i_ScoreOf_m N c.1 c.2 s.1 s.2 q.kind q.field q.words q.lo q.hi q.kids id=some (scoreR N c s q id):=by
 have hM:1048576<N:=h.big
 have hl:=h.len
 unfold i_ScoreOf_m scoreR
 rw[segDoc_spec N s id (by omega) h.top,za,h.segI,za,h.qI,za]
 cases hs:okSeg c s with
 |false=>rfl
 |true=>
  cases hq:okQ 4 q with
  |false=>rfl
  |true=>
   rw[zn,ze,ze,zaV,zg]
   cases hd:docOf s.1 id with
   |none=>rfl
   |some d=>
    dsimp only
    have he:docOf s.1 d.1=some d:=by rw[(docOf_some hd).2];exact hd
    have hb:=score_both N (h.good hs) d he q hq
    rw[zn,ze]
    rw[hb.eng,za]
def hitP (V:EDoc->Int) (P:EHit->Bool) (d:EDoc):Option EHit:=bif decide (0<V d)&&P (d.1,V d)then some (d.1,V d)else none
def hitsP (V:EDoc->Int) (P:EHit->Bool) (docs:List EDoc):List EHit:=docs.filterMap (hitP V P)
def allP (_:EHit):Bool:=true
theorem hitsP_mem {V:EDoc->Int} {P:EHit->Bool} {docs:List EDoc} {x:EHit} (h:x∈hitsP V P docs):∃d,d∈docs/\x=(d.1,V d)/\0<V d/\P x=true:=by
 obtain⟨d,hd,hx⟩:=zbs.1 h
 unfold hitP at hx
 cases hc:decide (0<V d)&&P (d.1,V d)with
 |false=>rw[hc,ze]at hx;cases hx
 |true=>
  rw[hc,zg]at hx
  cases hx
  rw[zj,zw]at hc
  exact⟨d,hd,rfl,hc.1,hc.2⟩
theorem hitsP_len (V:EDoc->Int) (P:EHit->Bool) (docs:List EDoc):(hitsP V P docs).length<=docs.length:=za3 _ _
theorem hitsP_take (V:EDoc->Int) (P:EHit->Bool) (docs:List EDoc) {n:Nat} (h:n<docs.length):hitsP V P (docs.take (n+1))=bif decide (0<V docs[n])&&P (docs[n].1,V docs[n])then hitsP V P (docs.take n)++ [(docs[n].1,V docs[n])]else hitsP V P (docs.take n):=by
 unfold hitsP
 rw[filterMap_step _ _ _ h]
 unfold hitP
 cases decide (0<V docs[n])&&P (docs[n].1,V docs[n])
 .exact zat _
 .rfl
def hitsR (N:Nat) (c:EConf) (s:ESeg) (q:DQ) (P:EHit->Bool):List EHit:=bif okSeg c s&&okQ 4 q then hitsP (fun d=>valS N N c s d q) P s.1 else []
theorem scores_spec {N:Nat} {c:EConf} {s:ESeg} {q:DQ} (h:Fit N c s q):i_scores_m N c.1 c.2 s.1 s.2 q.kind q.field q.words q.lo q.hi q.kids=some (hitsR N c s q allP):=by
 have hM:1048576<N:=h.big
 have hl:=h.len
 unfold i_scores_m hitsR
 rw[h.segI,za,h.qI,za]
 cases hs:okSeg c s with
 |false=>rfl
 |true=>
  cases hq:okQ 4 q with
  |false=>rfl
  |true=>
   have g:=h.good hs
   rw[zn,ze,ze,zaV,zg]
   refine(iter_scan _ s.1.length (fun n=>(hitsP (fun d=>valS N N c s d q) allP (s.1.take n),s.1,(s.1.length:Int),(n:Int),q.kind,q.field,q.words,q.lo,q.hi,q.kids,c.1,c.2,s.1,s.2)) (fun n=>some (hitsP (fun d=>valS N N c s d q) allP s.1)) (fun go=>?_) (fun go n hn hgo=>?_) N 0 (zaf _) (by omega)).trans rfl
   .dsimp only
    rw[zd (zm _),ze,zq]
   .dsimp only
    have hm:=zr hn
    have hb:=score_both N g s.1[n] (docOf_self g.dok.inn.ids _ hm) q hq
    have he:=hb.eng
    have hll:=hitsP_len (fun d=>valS N N c s d q) allP (s.1.take n)
    rw[zah]at hll
    simp only[cast_succ',hitsP_take (fun d=>valS N N c s d q) allP s.1 hn]at hgo
    generalize hitsP (fun d=>valS N N c s d q) allP (s.1.take n)=out at*
    generalize valS N N c s s.1[n] q=v at*
    rw[zb (by omega:(n:Int)<s.1.length),zg,idx_at hn,za,he,za,zf (room_of (by rw[zbE];omega) (by rw[zbE];omega)),<-hgo]
    simp only[zf (fits_nat (n:=n) (by omega)),allP,zaV]
    cases decide (0<v)<;>rfl
def matchR (N:Nat) (c:EConf) (s:ESeg) (q:DQ):List Int:=(hitsR N c s q allP).map (·.1)
theorem hitsR_len (N:Nat) (c:EConf) (s:ESeg) (q:DQ) (P:EHit->Bool):(hitsR N c s q P).length<=16:=by
 unfold hitsR
 cases hs:okSeg c s with
 |false=>exact zaf _
 |true=>
  cases hq:okQ 4 q with
  |false=>exact zaf _
  |true=>exact zau (hitsP_len _ _ _) (okSeg_ok hs).2.1.few
theorem match_i {N:Nat} {c:EConf} {s:ESeg} {q:DQ} (h:Fit N c s q):i_MatchOf_m N c.1 c.2 s.1 s.2 q.kind q.field q.words q.lo q.hi q.kids=some (matchR N c s q):=by
 have hM:1048576<N:=h.big
 have hl:=hitsR_len N c s q allP
 unfold i_MatchOf_m matchR
 rw[scores_spec h,za]
 generalize hitsR N c s q allP=hs at*
 refine(iter_scan _ hs.length (fun n=>((hs.take n).map (·.1),hs,(hs.length:Int),(n:Int))) (fun n=>some (hs.map (·.1))) (fun go=>?_) (fun go n hn hgo=>?_) N 0 (zaf _) (by omega)).trans rfl
 .dsimp only
  rw[zd (zm _),ze,zq]
 .dsimp only
  simp only[cast_succ',zo hn,zaK]at hgo
  rw[zb (by omega:(n:Int)<hs.length),zg,idx_at hn,za,zf (room_of (by rw[zar,zah,zbE];omega) (by rw[zar,zah,zbE];omega)),zf (fits_nat (n:=n) (by omega))]
  exact hgo
abbrev EAl :Type:=List UInt8×DQ
def GB (x:EAl):Prop:=x.1.length<=1048576/\BQ 4 x.2
def alAt (xs:List EAl) (n:Nat):EAl:=xs[n]?.getD ([],.mk 0 [] [] 0 0 [])
theorem alAt_eq {xs:List EAl} {n:Nat} (h:n<xs.length):xs[n]=alAt xs n:=by unfold alAt;rw[zc h];rfl
def okAl (xs:List EAl) (n:Nat):Bool:=okW (alAt xs n).1&&okQ 4 (alAt xs n).2&&(decide (n=0)||Op.bytesLess (alAt xs (n-1)).1 (alAt xs n).1)
def okAls (xs:List EAl):Bool:=allN xs.length (okAl xs)&&decide ((xs.length:Int)<=6)
theorem al_impl (N:Nat) (hM:Sm<N) (hN:N<=1099511627776) (xs:List EAl) (h:xs.length<=1048576) (hx:∀x,x∈xs->GB x):i_AlertsOk_m N xs=some (okAls xs):=by
 have hM':1048576<N:=hM
 unfold i_AlertsOk_m okAls
 refine check_loop _ xs.length (fun n=>(xs,xs,(xs.length:Int),(n:Int))) (okAl xs) _ (fun go=>?_) (fun go n hn=>?_) N (by omega)
 .dsimp only
  rw[zd (zm _),ze]
 .dsimp only
  have hm:=hx _ (zr hn)
  have hf:fits ((n:Int)+1):=fits_nat (by omega)
  rw[zb (by omega:(n:Int)<xs.length),zg,idx_at hn,za,wordOk_spec N _ (by have:=hm.1;omega) hN,za,queryOk_i N hM hN _ hm.2,za]
  simp only[zf hf,cast_succ',alAt_eq hn]
  unfold okAl
  match n,hn with
  |0,hn=>
   rw[zd (by omega),ze,zb rfl,zbV,zaV]
   cases okW (alAt xs 0).1<;>cases okQ 4 (alAt xs 0).2<;>rfl
  |n+1,hn=>
   rw[zb (by omega),zg,show((n+1:Nat):Int)-1=(n:Int)from by omega,zf (by unfold fits;omega),idx_at (by omega:n<xs.length),za,alAt_eq (by omega:n<xs.length),zd (by omega),zbf,zbq]
   cases okW (alAt xs (n+1)).1<;>cases okQ 4 (alAt xs (n+1)).2<;>cases Op.bytesLess (alAt xs n).1 (alAt xs (n+1)).1<;>rfl
theorem al_spec (N:Nat) (hM:Sm<N) (hN:N<=1099511627776) (xs:List EAl) (h:xs.length<=1048576) (hx:∀x,x∈xs->GB x):s_l25Ok_m N xs=some (okAls xs):=by
 have hM':1048576<N:=hM
 unfold s_l25Ok_m okAls
 refine check_loop _ xs.length (fun n=>(xs,(n:Int))) (okAl xs) (decide ((xs.length:Int)<=6)) (fun go=>?_) (fun go n hn=>?_) N (by omega)
 .dsimp only
  rw[zd (zm _),ze]
 .dsimp only
  have hm:=hx _ (zr hn)
  rw[alAt_eq hn]at hm
  have hf:fits ((n:Int)+1):=fits_nat (by omega)
  rw[zb (by omega:(n:Int)<xs.length),zg,idx_at hn]
  simp only[za,alAt_eq hn,l1WordOk_spec N _ (by have:=hm.1;omega:(alAt xs n).1.length<N) hN,queryOk_s N hM hN _ hm.2,zf hf,cast_succ',bytesLess_or]
  unfold okAl
  match n,hn with
  |0,hn=>
   rw[zd (by omega),ze,zb rfl,zbV,zaV]
   cases okW (alAt xs 0).1<;>cases okQ 4 (alAt xs 0).2<;>rfl
  |n+1,hn=>
   rw[zb (by omega),zg,show((n+1:Nat):Int)-1=(n:Int)from by omega,zf (by unfold fits;omega),idx_at (by omega:n<xs.length),za,alAt_eq (by omega:n<xs.length),zd (by omega),zbf,zbq]
   cases okW (alAt xs (n+1)).1<;>cases okQ 4 (alAt xs (n+1)).2<;>cases Op.bytesLess (alAt xs n).1 (alAt xs (n+1)).1<;>rfl
theorem okAls_each {xs:List EAl} (h:okAls xs=true):xs.length<=6/\∀x,x∈xs->okW x.1=true/\okQ 4 x.2=true:=by
 unfold okAls at h
 rw[zj,zw]at h
 refine⟨by omega,fun x hx=>?_⟩
 obtain⟨n,hn,rfl⟩:=zav.1 hx
 have:=allN_at h.1 hn
 unfold okAl at this
 rw[zj,zj,<-alAt_eq hn]at this
 exact this.1
abbrev oneS (c:EConf) (d:EDoc):ESeg:=([d],entriesS c [d])
theorem okDocs_one (d:EDoc):okDocs [d]=okDoc d:=by
 unfold okDocs
 rw[zb (by simp:(([d]:List EDoc).length:Int)<=16),zaV]
 simp[allN,okDc,dAt,List.range_succ]
theorem okSeg_one {c:EConf} {d:EDoc} (hc:okConf c=true) (hd:okDoc d=true):okSeg c (oneS c d)=true:=by
 unfold okSeg
 rw[hc,okDocs_one,hd,zb rfl]
 rfl
theorem fit_one {N:Nat} (hM:Sm<N) (hN:N<=16777216) {c:EConf} {d:EDoc} (oc:okD Sm TConf c) (od:okD Sm TDoc d) {q:DQ} (hq:BQ 4 q):Fit N c (oneS c d) q:=
 ⟨hM,hN,oc,fun x hx=>by rw[zaD.1 hx];exact od,by show(1:Nat)<=_;decide,hq⟩
theorem docOf_one (d:EDoc):docOf [d] d.1=some d:=by
 unfold docOf
 rw[zbA,zb rfl]
def alP (N:Nat) (c:EConf) (d:EDoc) (x:EAl):Bool:=decide (0<valS N N c (oneS c d) d x.2)
def alR (N:Nat) (xs:List EAl) (c:EConf) (d:EDoc):List (List UInt8):=bif okAls xs&&(okConf c&&okDoc d)then(xs.filter (alP N c d)).map (·.1)else []
def alT (N:Nat) (c:EConf) (d:EDoc) (l:List EAl):List (List UInt8):=(l.filter (alP N c d)).map (·.1)
theorem alT_take (N:Nat) (c:EConf) (d:EDoc) (xs:List EAl) {n:Nat} (h:n<xs.length):alT N c d (xs.take (n+1))=bif alP N c d xs[n]then alT N c d (xs.take n)++ [xs[n].1]else alT N c d (xs.take n):=by
 unfold alT
 rw[zo h,za6,zaK]
 cases e:alP N c d xs[n]<;>simp[e]
theorem alT_len (N:Nat) (c:EConf) (d:EDoc) (l:List EAl):(alT N c d l).length<=l.length:=by
 unfold alT
 rw[zar]
 exact zbh _ _
structure FitA (N:Nat) (xs:List EAl) (c:EConf) (d:EDoc):Prop where
 big:Sm<N
 top:N<=16777216
 oc:okD Sm TConf c
 od:okD Sm TDoc d
 len:xs.length<=1048576
 each:∀x,x∈xs->GB x
theorem FitA.fit {N:Nat} {xs:List EAl} {c:EConf} {d:EDoc} (h:FitA N xs c d) {x:EAl} (hx:x∈xs):Fit N c (oneS c d) x.2:=fit_one h.big h.top h.oc h.od (h.each x hx).2
theorem score_one (N:Nat) {c:EConf} {d:EDoc} (hs:okSeg c (oneS c d)=true) {q:DQ} (hq:okQ 4 q=true):scoreR N c (oneS c d) q d.1=valS N N c (oneS c d) d q:=by
 unfold scoreR
 rw[hs,hq,zaV,zg]
 show(match docOf [d] d.1 with|some d'=>valS N N c (oneS c d) d' q|none=>0)=_
 rw[docOf_one]
theorem alertOf_i {N:Nat} {xs:List EAl} {c:EConf} {d:EDoc} (h:FitA N xs c d):i_AlertOf_m N xs c.1 c.2 d.1 d.2.1 d.2.2=some (alR N xs c d):=by
 have hM:1048576<N:=h.big
 have hN:=h.top
 unfold i_AlertOf_m alR
 rw[al_impl N h.big (by omega) xs h.len h.each,za,confOk_spec N h.big (by omega) c h.oc,za,docOk_spec N h.big (by omega) d.1 d.2.1 d.2.2 h.od,za]
 cases ha:okAls xs with
 |false=>rfl
 |true=>
  cases hc:okConf c with
  |false=>rfl
  |true=>
   cases hd:okDoc d with
   |false=>rfl
   |true=>
    have hs:=okSeg_one hc hd
    obtain⟨hl,he⟩:=okAls_each ha
    have hsg:i_SegOf_m N c.1 c.2 ([(d.1,d.2.1,d.2.2)]:List EDoc)=some (oneS c d):=by
     rw[segOf_spec N h.big h.top c h.oc [d] (fun x hx=>by rw[zaD.1 hx];exact h.od) (by show(1:Nat)<=_;decide),hc,okDocs_one,hd]
     rfl
    simp only[zn,ze,zb5,zg]
    rw[hsg,za]
    refine(iter_scan _ xs.length (fun n=>(alT N c d (xs.take n),xs,(xs.length:Int),(n:Int),c.1,c.2,d.1,d.2.1,d.2.2,(oneS c d).1,(oneS c d).2)) (fun n=>some (alT N c d xs)) (fun go=>?_) (fun go n hn hgo=>?_) N 0 (zaf _) (by omega)).trans rfl
    .dsimp only
     rw[zd (zm _),ze,zq]
    .dsimp only
     have hm:=zr hn
     have hll:=alT_len N c d (xs.take n)
     rw[zah]at hll
     have hsc:i_ScoreOf_m N c.1 c.2 (oneS c d).1 (oneS c d).2 xs[n].2.kind xs[n].2.field xs[n].2.words xs[n].2.lo xs[n].2.hi xs[n].2.kids d.1=some (valS N N c (oneS c d) d xs[n].2):=by
      rw[score_i (h.fit hm) d.1,score_one N hs (he _ hm).2]
     simp only[cast_succ',alT_take N c d xs hn,alP]at hgo
     generalize alT N c d (xs.take n)=out at*
     rw[zb (by omega:(n:Int)<xs.length),zg,idx_at hn,za,hsc,za,zf (room_of (by rw[zbE];omega) (by rw[zbE];omega)),<-hgo]
     simp only[zf (fits_nat (n:=n) (by omega))]
     cases decide (0<valS N N c (oneS c d) d xs[n].2)<;>rfl
theorem alertOf_s {N:Nat} {xs:List EAl} {c:EConf} {d:EDoc} (h:FitA N xs c d):s_AlertOf_m N xs c.1 c.2 d.1 d.2.1 d.2.2=some (alR N xs c d):=by
 have hM:1048576<N:=h.big
 have hN:=h.top
 unfold s_AlertOf_m alR
 rw[al_spec N h.big (by omega) xs h.len h.each,za,l2Ok_spec N h.big (by omega) c h.oc,za,l6Ok_spec N h.big (by omega) d.1 d.2.1 d.2.2 h.od,za]
 cases ha:okAls xs with
 |false=>rfl
 |true=>
  cases hc:okConf c with
  |false=>rfl
  |true=>
   cases hd:okDoc d with
   |false=>rfl
   |true=>
    have hs:=okSeg_one hc hd
    obtain⟨hl,he⟩:=okAls_each ha
    have hk:okDocs [d]=true:=by rw[okDocs_one,hd]
    have hsg:s_l7Of_m N c.1 c.2 ([(d.1,d.2.1,d.2.2)]:List EDoc)=some (oneS c d):=l7Of_spec N c hc (okDocs_ok hk) hM
    simp only[zn,ze,zb5,zg]
    rw[hsg,za]
    refine(iter_scan _ xs.length (fun n=>(xs,alT N c d (xs.take n),(n:Int),c.1,c.2,d.1,d.2.1,d.2.2,(oneS c d).1,(oneS c d).2)) (fun n=>some (alT N c d xs)) (fun go=>?_) (fun go n hn hgo=>?_) N 0 (zaf _) (by omega)).trans rfl
    .dsimp only
     rw[zd (zm _),ze,zq]
    .dsimp only
     have hm:=zr hn
     have hll:=alT_len N c d (xs.take n)
     rw[zah]at hll
     have g:=(h.fit hm).good hs
     have hb:=score_both N g d (docOf_one d) xs[n].2 (he _ hm).2
     have hsc:=hb.ref
     simp only[cast_succ',alT_take N c d xs hn,alP]at hgo
     generalize alT N c d (xs.take n)=out at*
     rw[zb (by omega:(n:Int)<xs.length),zg,idx_at hn,za,hsc,za,za,zf (room_of (by rw[zbE];omega) (by rw[zbE];omega)),<-hgo]
     simp only[zf (fits_nat (n:=n) (by omega))]
     cases decide (0<valS N N c (oneS c d) d xs[n].2)<;>rfl
theorem alR_len (N:Nat) (xs:List EAl) (c:EConf) (d:EDoc):(alR N xs c d).length<=6:=by
 unfold alR
 cases ha:okAls xs with
 |false=>exact zaf _
 |true=>
  cases okConf c&&okDoc d
  .exact zaf _
  .exact zau (alT_len N c d xs) (okAls_each ha).1
end Go.Proofs.YtchgdmmcjgmfcaaGreatDoor
