import Derived.Test.YtchgdmmcjgmfcaaGreatDoorSC
import Derived.Test.YtchgdmmcjgmfcaaGreatDoorQA
import Derived.Test.YtchgdmmcjgmfcaaGreatDoorSD
set_option linter.unusedVariables false
set_option linter.unusedSimpArgs false
namespace Go.Proofs.YtchgdmmcjgmfcaaGreatDoor
open Go.RowKit
theorem docOf_self :∀ {docs:List EDoc},(docs.Pairwise fun a b=>a.1<b.1)->∀d,d∈docs->docOf docs d.1=some d
 | [],_,d,h=>by cases h
 |x::l,hp,d,h=>by
  rw[zas]at hp
  unfold docOf
  rw[zbA]
  rcases zp.1 h with rfl|h
  .rw [zb rfl]
  .have:=hp.1 d h
   rw[zd (by omega)]
   exact docOf_self hp.2 d h
theorem queryOk_i (N:Nat) (hM:Sm<N) (hN:N<=1099511627776) (q:DQ) (hq:BQ 4 q):i_QueryOk_m N q.kind q.field q.words q.lo q.hi q.kids=some (okQ 4 q):=by
 have hM':1048576<N:=hM
 unfold i_QueryOk_m
 rw[show(4:Int)=((4:Nat):Int)from rfl,jAo N hM hN 4 N (by omega) (by omega) q hq,za]
theorem queryOk_s (N:Nat) (hM:Sm<N) (hN:N<=1099511627776) (q:DQ) (hq:BQ 4 q):s_l11Ok_m N q.kind q.field q.words q.lo q.hi q.kids=some (okQ 4 q):=by
 have hM':1048576<N:=hM
 unfold s_l11Ok_m
 rw[show(4:Int)=((4:Nat):Int)from rfl,jzi N hM hN 4 N (by omega) (by omega) q hq,za]
structure Fit (N:Nat) (c:EConf) (s:ESeg) (q:DQ):Prop where
 big:Sm<N
 top:N<=16777216
 oc:okD Sm TConf c
 od:∀x,x∈s.1->okD Sm TDoc x
 len:s.1.length<=1048576
 bq:BQ 4 q
theorem Fit.good {N:Nat} {c:EConf} {s:ESeg} {q:DQ} (h:Fit N c s q) (hs:okSeg c s=true):GoodS N c s:=⟨h.big,h.top,h.oc,h.od,hs⟩
theorem Fit.segI {N:Nat} {c:EConf} {s:ESeg} {q:DQ} (h:Fit N c s q):i_SegOk_m N c.1 c.2 s.1 s.2=some (okSeg c s):=segOk_spec N h.big h.top c h.oc s h.od h.len
theorem Fit.segS {N:Nat} {c:EConf} {s:ESeg} {q:DQ} (h:Fit N c s q):s_l7Ok_m N c.1 c.2 s.1 s.2=some (okSeg c s):=l7Ok_spec N h.big h.top c h.oc s h.od h.len
theorem Fit.qI {N:Nat} {c:EConf} {s:ESeg} {q:DQ} (h:Fit N c s q):i_QueryOk_m N q.kind q.field q.words q.lo q.hi q.kids=some (okQ 4 q):=queryOk_i N h.big (by have:=h.top;omega) q h.bq
theorem Fit.qS {N:Nat} {c:EConf} {s:ESeg} {q:DQ} (h:Fit N c s q):s_l11Ok_m N q.kind q.field q.words q.lo q.hi q.kids=some (okQ 4 q):=queryOk_s N h.big (by have:=h.top;omega) q h.bq
def hitP (V:EDoc->Int) (P:EHit->Bool) (d:EDoc):Option EHit:=bif decide (0<V d)&&P (d.1,V d)then some (d.1,V d)else none
def hitsP (V:EDoc->Int) (P:EHit->Bool) (docs:List EDoc):List EHit:=docs.filterMap (hitP V P)
def allP (_:EHit):Bool:=true
theorem hitsP_len (V:EDoc->Int) (P:EHit->Bool) (docs:List EDoc):(hitsP V P docs).length<=docs.length:=za3 _ _
theorem hitsP_take (V:EDoc->Int) (P:EHit->Bool) (docs:List EDoc) {n:Nat} (h:n<docs.length):hitsP V P (docs.take (n+1))=bif decide (0<V docs[n])&&P (docs[n].1,V docs[n])then hitsP V P (docs.take n)++ [(docs[n].1,V docs[n])]else hitsP V P (docs.take n):=by
 unfold hitsP
 rw[filterMap_step _ _ _ h]
 unfold hitP
 cases decide (0<V docs[n])&&P (docs[n].1,V docs[n])
 .exact zat _
 .rfl
def hitsR (N:Nat) (c:EConf) (s:ESeg) (q:DQ) (P:EHit->Bool):List EHit:=bif okSeg c s&&okQ 4 q then hitsP (fun d=>valS N N c s d q) P s.1 else []
theorem scores_spec {N:Nat} {c:EConf} {s:ESeg} {q:DQ} (h:Fit N c s q):i_scores_m N c.1 c.2 s.1 s.2 q.kind q.field q.words q.lo q.hi q.kids=some (hitsR N c s q allP):=by
 have hM:1048576<N:=h.big
 have hl:=h.len
 unfold i_scores_m hitsR
 rw[h.segI,za,h.qI,za]
 cases hs:okSeg c s with
 |false=>rfl
 |true=>
  cases hq:okQ 4 q with
  |false=>rfl
  |true=>
   have g:=h.good hs
   rw[zn,ze,ze,zaV,zg]
   refine(iter_scan _ s.1.length (fun n=>(hitsP (fun d=>valS N N c s d q) allP (s.1.take n),s.1,(s.1.length:Int),(n:Int),q.kind,q.field,q.words,q.lo,q.hi,q.kids,c.1,c.2,s.1,s.2)) (fun n=>some (hitsP (fun d=>valS N N c s d q) allP s.1)) (fun go=>?_) (fun go n hn hgo=>?_) N 0 (zaf _) (by omega)).trans rfl
   .dsimp only
    rw[zd (zm _),ze,zq]
   .dsimp only
    have hm:=zr hn
    have hb:=score_both N g s.1[n] (docOf_self g.dok.inn.ids _ hm) q hq
    have he:=hb.eng
    have hll:=hitsP_len (fun d=>valS N N c s d q) allP (s.1.take n)
    rw[zah]at hll
    simp only[cast_succ',hitsP_take (fun d=>valS N N c s d q) allP s.1 hn]at hgo
    generalize hitsP (fun d=>valS N N c s d q) allP (s.1.take n)=out at*
    generalize valS N N c s s.1[n] q=v at*
    rw[zb (by omega:(n:Int)<s.1.length),zg,idx_at hn,za,he,za,zf (room_of (by rw[zbE];omega) (by rw[zbE];omega)),<-hgo]
    simp only[zf (fits_nat (n:=n) (by omega)),allP,zaV]
    cases decide (0<v)<;>rfl
def matchR (N:Nat) (c:EConf) (s:ESeg) (q:DQ):List Int:=(hitsR N c s q allP).map (·.1)
theorem hitsR_len (N:Nat) (c:EConf) (s:ESeg) (q:DQ) (P:EHit->Bool):(hitsR N c s q P).length<=16:=by
 unfold hitsR
 cases hs:okSeg c s with
 |false=>exact zaf _
 |true=>
  cases hq:okQ 4 q with
  |false=>exact zaf _
  |true=>exact zau (hitsP_len _ _ _) (okSeg_ok hs).2.1.few
theorem match_i {N:Nat} {c:EConf} {s:ESeg} {q:DQ} (h:Fit N c s q):i_MatchOf_m N c.1 c.2 s.1 s.2 q.kind q.field q.words q.lo q.hi q.kids=some (matchR N c s q):=by
 have hM:1048576<N:=h.big
 have hl:=hitsR_len N c s q allP
 unfold i_MatchOf_m matchR
 rw[scores_spec h,za]
 generalize hitsR N c s q allP=hs at*
 refine(iter_scan _ hs.length (fun n=>((hs.take n).map (·.1),hs,(hs.length:Int),(n:Int))) (fun n=>some (hs.map (·.1))) (fun go=>?_) (fun go n hn hgo=>?_) N 0 (zaf _) (by omega)).trans rfl
 .dsimp only
  rw[zd (zm _),ze,zq]
 .dsimp only
  simp only[cast_succ',zo hn,zaK]at hgo
  rw[zb (by omega:(n:Int)<hs.length),zg,idx_at hn,za,zf (room_of (by rw[zar,zah,zbE];omega) (by rw[zar,zah,zbE];omega)),zf (fits_nat (n:=n) (by omega))]
  exact hgo
theorem match_s {N:Nat} {c:EConf} {s:ESeg} {q:DQ} (h:Fit N c s q):s_MatchOf_m N c.1 c.2 s.1 s.2 q.kind q.field q.words q.lo q.hi q.kids=some (matchR N c s q):=by
 have hM:1048576<N:=h.big
 have hl:=h.len
 unfold s_MatchOf_m matchR hitsR
 rw[h.segS,za,h.qS,za]
 cases hs:okSeg c s with
 |false=>rfl
 |true=>
  cases hq:okQ 4 q with
  |false=>rfl
  |true=>
   have g:=h.good hs
   rw[zn,ze,ze,zaV,zg]
   refine(iter_scan _ s.1.length (fun n=>((hitsP (fun d=>valS N N c s d q) allP (s.1.take n)).map (·.1),(n:Int),c.1,c.2,s.1,s.2,q.kind,q.field,q.words,q.lo,q.hi,q.kids)) (fun n=>some ((hitsP (fun d=>valS N N c s d q) allP s.1).map (·.1))) (fun go=>?_) (fun go n hn hgo=>?_) N 0 (zaf _) (by omega)).trans rfl
   .dsimp only
    rw[zd (zm _),ze,zq]
   .dsimp only
    have hm:=zr hn
    have hb:=score_both N g s.1[n] (docOf_self g.dok.inn.ids _ hm) q hq
    have he:=hb.ref
    have hll:=hitsP_len (fun d=>valS N N c s d q) allP (s.1.take n)
    rw[zah]at hll
    simp only[cast_succ',hitsP_take (fun d=>valS N N c s d q) allP s.1 hn]at hgo
    generalize hitsP (fun d=>valS N N c s d q) allP (s.1.take n)=out at*
    generalize valS N N c s s.1[n] q=v at*
    rw[zb (by omega:(n:Int)<s.1.length),zg,idx_at hn,za,he,za,za,zf (room_of (by rw[zar,zbE];omega) (by rw[zar,zbE];omega)),<-hgo]
    simp only[zf (fits_nat (n:=n) (by omega)),allP,zaV]
    cases decide (0<v)
    .rfl
    .rw [zg,zg,zaK]
     rfl
abbrev EAl :Type:=List UInt8×DQ
def GB (x:EAl):Prop:=x.1.length<=1048576/\BQ 4 x.2
structure FitA (N:Nat) (xs:List EAl) (c:EConf) (d:EDoc):Prop where
 big:Sm<N
 top:N<=16777216
 oc:okD Sm TConf c
 od:okD Sm TDoc d
 len:xs.length<=1048576
 each:∀x,x∈xs->GB x
end Go.Proofs.YtchgdmmcjgmfcaaGreatDoor
