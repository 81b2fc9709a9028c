import Derived.Test.YtchgdmmcjgmfcaaGreatDoorSC
import Derived.Test.YtchgdmmcjgmfcaaGreatDoorQA
import Derived.Test.YtchgdmmcjgmfcaaGreatDoorSD
set_option linter.unusedVariables false
set_option linter.unusedSimpArgs false
namespace Go.Proofs.YtchgdmmcjgmfcaaGreatDoor
open Go.RowKit
theorem jAs (N:Nat) (x y:Int):jxY N x y=some (if x<y then-1 else if y<x then 1 else 0):=by
 simp only[jxY,jxH,za,decide_true,zn,ze]
 by_cases h:x<y
 .simp [h]
 .by_cases h2:y<x<;>simp[h,h2]
theorem cut_take {Y:Type} (xs:List Y) (n:Nat) (h:n<=xs.length):cut xs 0 (n:Int)=some (xs.take n):=by
 unfold cut
 rw[zf ⟨by omega,by omega,by omega⟩]
 simp
def ltH (a b:EHit):Bool:=decide (b.2<a.2)||(decide (a.2=b.2)&&decide (a.1<b.1))
theorem jxZ (a b:EHit):ltH a b=true↔b.2<a.2\/(a.2=b.2/\a.1<b.1):=by
 unfold ltH
 simp only[za1,zj,zw]
theorem ltH_irrefl (a:EHit):ltH a a=false:=by
 cases h:ltH a a
 .rfl
 .rw [jxZ]at h;omega
theorem ltH_trans {a b c:EHit} (h:ltH a b=true) (k:ltH b c=true):ltH a c=true:=by
 rw[jxZ]at*;omega
theorem jC0 {a b:EHit} (h:ltH a b=true):ltH b a=false:=by
 cases h2:ltH b a
 .rfl
 .rw [jxZ]at*;omega
theorem ltH_total {a b:EHit} (h:a.1≠b.1):ltH a b=true\/ltH b a=true:=by
 rw[jxZ,jxZ];omega
theorem ltH_ordr :Ordr ltH:=⟨fun x y h=>jC0 h,fun x y z h k=>ltH_trans h k⟩
def insH (l:List EHit) (h:EHit):List EHit:=match l with
 | []=>[h]
 |x::r=>if ltH x h=true then x::insH r h else h::x::r
theorem jyo (h x:EHit):∀l,x∈insH l h↔x=h\/x∈l
 | []=>by simp[insH]
 |y::r=>by
  unfold insH
  have ih:=jyo h x r
  split
  .rw [zp,ih,zp];constructor<;>rintro(h|h|h)<;>simp_all
  .simp
theorem jAk (h:EHit):∀l,(insH l h).length=l.length+1
 | []=>rfl
 |y::r=>by
  unfold insH
  split
  .rw [zi,jAk h r];rfl
  .rfl
theorem jze (h:EHit):∀l,(l.Pairwise fun a b=>ltH a b=true)->(∀x,x∈l->x.1≠h.1)->(insH l h).Pairwise fun a b=>ltH a b=true
 | [],_,_=>by simp[insH]
 |y::r,hp,hd=>by
  rw[zas]at hp
  unfold insH
  split
  .rename_i hy
   rw[zas]
   refine⟨fun z hz=>?_,jze h r hp.2 fun x hx=>hd x (by simp[hx])⟩
   rcases(jyo h z r).1 hz with rfl|hz
   .exact hy
   .exact hp.1 z hz
  .rename_i hy
   have hhy:ltH h y=true:=by
    rcases ltH_total (hd y (by simp))with h1|h1
    .exact absurd h1 hy
    .exact h1
   rw[zas,zas]
   refine⟨fun z hz=>?_,hp⟩
   rcases zp.1 hz with rfl|hz
   .exact hhy
   .exact ltH_trans hhy (hp.1 z hz)
def sortH (l:List EHit):List EHit:=l.foldl insH []
abbrev DistH (l:List EHit):Prop:=l.Pairwise fun a b=>a.1≠b.1
theorem jAn :∀(l acc:List EHit),DistH l->(∀x,x∈acc->∀y,y∈l->x.1≠y.1)->(acc.Pairwise fun a b=>ltH a b=true)->((l.foldl insH acc).Pairwise fun a b=>ltH a b=true)/\(∀x,x∈l.foldl insH acc↔x∈acc\/x∈l)
 | [],acc,_,_,h=>⟨h,fun x=>by simp⟩
 |h::l,acc,hd,hx,hp=>by
  rw[DistH,zas]at hd
  rw[zaq]
  obtain⟨h1,h2⟩:=jAn l (insH acc h) hd.2 (fun x hxm y hy=>by
   rcases(jyo h x acc).1 hxm with rfl|hxm
   .exact hd.1 y hy
   .exact hx x hxm y (by simp[hy])) (jze h acc hp fun x hxm=>hx x hxm h (by simp))
  refine⟨h1,fun x=>?_⟩
  rw[h2,jyo,zp]
  constructor<;>rintro(h|h)<;>simp_all
  .rcases h with h|h<;>simp_all
  .rcases h with h|h<;>simp_all
theorem sortH_len :∀(l acc:List EHit),(l.foldl insH acc).length=acc.length+l.length
 | [],acc=>by simp
 |h::l,acc=>by rw[zaq,sortH_len l,jAk,zi];omega
theorem sortH_ok {l:List EHit} (hd:DistH l):((sortH l).Pairwise fun a b=>ltH a b=true)/\∀x,x∈sortH l↔x∈l:=by
 obtain⟨h1,h2⟩:=jAn l [] hd (fun x hx=>by cases hx) za4
 exact⟨h1,fun x=>by rw[show sortH l=l.foldl insH []from rfl,h2];simp⟩
theorem jBh {l R:List EHit} (hd:DistH l) (hp:R.Perm l) (hs:R.Pairwise fun a b=>ltH a b=true):R=sortH l:=by
 obtain⟨h1,h2⟩:=sortH_ok hd
 exact sorted_unique ltH ltH_irrefl (fun a b c h k=>ltH_trans h k) R _ hs h1 fun x=>by rw[hp.mem_iff,h2]
theorem hitOrder_cmp (N:Nat) (hN:4<=N) (a b:EHit):Def (cmp454 N () a b) fun r=>decide (r<0)=ltH a b:=by
 show Def (jx4 N a.1 a.2 b.1 b.2) _
 unfold jx4
 rw[jAs,za,jAs,za,jz2 N hN,za]
 refine Def.ret ?_
 unfold ltH
 by_cases h1:b.2<a.2
 .rw [zf h1,zb h1]
  simp
 .rw [zu h1,zd h1]
  by_cases h2:a.2<b.2
  .rw [zf h2,zd (by omega:¬a.2=b.2)]
   simp
  .rw [zu h2,zb (by omega:a.2=b.2)]
   by_cases h3:a.1<b.1
   .simp [h3]
   .by_cases h4:b.1<a.1<;>simp[h3,h4]
theorem firstHits_spec (N:Nat) (hM:1048576<N) (hN:N<=16777216) (l:List EHit) (hl:l.length<=100000) (hd:DistH l) (most:Nat) (hm:most<=100000):i_firstHits_m N l most=some ((sortH l).take most):=by
 refine Def.get ?_
 unfold i_firstHits_m
 rw[zf (room_of (by simp;omega) (by simp;omega)),zaW]
 refine Def.bind (sortAny_454 ltH ltH_ordr N hN (by omega) l () ⟨fun x hx y hy=>hitOrder_cmp N (by omega) x y,hd.imp fun h=>ltH_total h⟩ (by omega)) fun R hR=>?_
 have hRl:=hR.1.length_eq
 rw[jBh hd hR.1 hR.2]at hRl⊢
 generalize sortH l=L at*
 have hmin:(if(most:Int)<L.length then(most:Int)else(L.length:Int))=((min most L.length:Nat):Int):=by split<;>omega
 rw[hmin,cut_take L _ (Nat.min_le_right _ _),za,zf (room_of (by simp;omega) (by simp;omega)),zaW]
 refine Def.ret ?_
 rw[<-List.take_take,zq]
theorem docOf_self :∀ {docs:List EDoc},(docs.Pairwise fun a b=>a.1<b.1)->∀d,d∈docs->docOf docs d.1=some d
 | [],_,d,h=>by cases h
 |x::l,hp,d,h=>by
  rw[zas]at hp
  unfold docOf
  rw[zbA]
  rcases zp.1 h with rfl|h
  .rw [zb rfl]
  .have:=hp.1 d h
   rw[zd (by omega)]
   exact docOf_self hp.2 d h
theorem queryOk_i (N:Nat) (hM:Sm<N) (hN:N<=1099511627776) (q:DQ) (hq:BQ 4 q):i_QueryOk_m N q.kind q.field q.words q.lo q.hi q.kids=some (okQ 4 q):=by
 have hM':1048576<N:=hM
 unfold i_QueryOk_m
 rw[show(4:Int)=((4:Nat):Int)from rfl,jAo N hM hN 4 N (by omega) (by omega) q hq,za]
theorem queryOk_s (N:Nat) (hM:Sm<N) (hN:N<=1099511627776) (q:DQ) (hq:BQ 4 q):s_l11Ok_m N q.kind q.field q.words q.lo q.hi q.kids=some (okQ 4 q):=by
 have hM':1048576<N:=hM
 unfold s_l11Ok_m
 rw[show(4:Int)=((4:Nat):Int)from rfl,jzi N hM hN 4 N (by omega) (by omega) q hq,za]
structure Fit (N:Nat) (c:EConf) (s:ESeg) (q:DQ):Prop where
 big:Sm<N
 top:N<=16777216
 oc:okD Sm TConf c
 od:∀x,x∈s.1->okD Sm TDoc x
 len:s.1.length<=1048576
 bq:BQ 4 q
theorem Fit.good {N:Nat} {c:EConf} {s:ESeg} {q:DQ} (h:Fit N c s q) (hs:okSeg c s=true):GoodS N c s:=⟨h.big,h.top,h.oc,h.od,hs⟩
theorem Fit.segI {N:Nat} {c:EConf} {s:ESeg} {q:DQ} (h:Fit N c s q):i_SegOk_m N c.1 c.2 s.1 s.2=some (okSeg c s):=segOk_spec N h.big h.top c h.oc s h.od h.len
theorem Fit.segS {N:Nat} {c:EConf} {s:ESeg} {q:DQ} (h:Fit N c s q):s_l7Ok_m N c.1 c.2 s.1 s.2=some (okSeg c s):=l7Ok_spec N h.big h.top c h.oc s h.od h.len
theorem Fit.qI {N:Nat} {c:EConf} {s:ESeg} {q:DQ} (h:Fit N c s q):i_QueryOk_m N q.kind q.field q.words q.lo q.hi q.kids=some (okQ 4 q):=queryOk_i N h.big (by have:=h.top;omega) q h.bq
theorem Fit.qS {N:Nat} {c:EConf} {s:ESeg} {q:DQ} (h:Fit N c s q):s_l11Ok_m N q.kind q.field q.words q.lo q.hi q.kids=some (okQ 4 q):=queryOk_s N h.big (by have:=h.top;omega) q h.bq
def hitP (V:EDoc->Int) (P:EHit->Bool) (d:EDoc):Option EHit:=bif decide (0<V d)&&P (d.1,V d)then some (d.1,V d)else none
def hitsP (V:EDoc->Int) (P:EHit->Bool) (docs:List EDoc):List EHit:=docs.filterMap (hitP V P)
def allP (_:EHit):Bool:=true
theorem hitsP_mem {V:EDoc->Int} {P:EHit->Bool} {docs:List EDoc} {x:EHit} (h:x∈hitsP V P docs):∃d,d∈docs/\x=(d.1,V d)/\0<V d/\P x=true:=by
 obtain⟨d,hd,hx⟩:=zbs.1 h
 unfold hitP at hx
 cases hc:decide (0<V d)&&P (d.1,V d)with
 |false=>rw[hc,ze]at hx;cases hx
 |true=>
  rw[hc,zg]at hx
  cases hx
  rw[zj,zw]at hc
  exact⟨d,hd,rfl,hc.1,hc.2⟩
theorem hitsP_len (V:EDoc->Int) (P:EHit->Bool) (docs:List EDoc):(hitsP V P docs).length<=docs.length:=za3 _ _
theorem hitsP_dist (V:EDoc->Int) (P:EHit->Bool):∀ {docs:List EDoc},(docs.Pairwise fun a b=>a.1<b.1)->DistH (hitsP V P docs)
 | [],_=>za4
 |d::l,hp=>by
  rw[zas]at hp
  have ih:=hitsP_dist V P hp.2
  unfold hitsP at ih⊢
  rw[zbK]
  have hd:∀x,x∈l.filterMap (hitP V P)->d.1≠x.1:=fun x hx=>by
   obtain⟨e,he,rfl,_⟩:=hitsP_mem (V:=V) (P:=P) hx
   have:=hp.1 e he
   show d.1≠e.1
   omega
  unfold hitP
  cases decide (0<V d)&&P (d.1,V d)
  .exact ih
  .exact zas.2 ⟨hd,ih⟩
theorem hitsP_take (V:EDoc->Int) (P:EHit->Bool) (docs:List EDoc) {n:Nat} (h:n<docs.length):hitsP V P (docs.take (n+1))=bif decide (0<V docs[n])&&P (docs[n].1,V docs[n])then hitsP V P (docs.take n)++ [(docs[n].1,V docs[n])]else hitsP V P (docs.take n):=by
 unfold hitsP
 rw[filterMap_step _ _ _ h]
 unfold hitP
 cases decide (0<V docs[n])&&P (docs[n].1,V docs[n])
 .exact zat _
 .rfl
def hitsR (N:Nat) (c:EConf) (s:ESeg) (q:DQ) (P:EHit->Bool):List EHit:=bif okSeg c s&&okQ 4 q then hitsP (fun d=>valS N N c s d q) P s.1 else []
theorem scores_spec {N:Nat} {c:EConf} {s:ESeg} {q:DQ} (h:Fit N c s q):i_scores_m N c.1 c.2 s.1 s.2 q.kind q.field q.words q.lo q.hi q.kids=some (hitsR N c s q allP):=by
 have hM:1048576<N:=h.big
 have hl:=h.len
 unfold i_scores_m hitsR
 rw[h.segI,za,h.qI,za]
 cases hs:okSeg c s with
 |false=>rfl
 |true=>
  cases hq:okQ 4 q with
  |false=>rfl
  |true=>
   have g:=h.good hs
   rw[zn,ze,ze,zaV,zg]
   refine(iter_scan _ s.1.length (fun n=>(hitsP (fun d=>valS N N c s d q) allP (s.1.take n),s.1,(s.1.length:Int),(n:Int),q.kind,q.field,q.words,q.lo,q.hi,q.kids,c.1,c.2,s.1,s.2)) (fun n=>some (hitsP (fun d=>valS N N c s d q) allP s.1)) (fun go=>?_) (fun go n hn hgo=>?_) N 0 (zaf _) (by omega)).trans rfl
   .dsimp only
    rw[zd (zm _),ze,zq]
   .dsimp only
    have hm:=zr hn
    have hb:=score_both N g s.1[n] (docOf_self g.dok.inn.ids _ hm) q hq
    have he:=hb.eng
    have hll:=hitsP_len (fun d=>valS N N c s d q) allP (s.1.take n)
    rw[zah]at hll
    simp only[cast_succ',hitsP_take (fun d=>valS N N c s d q) allP s.1 hn]at hgo
    generalize hitsP (fun d=>valS N N c s d q) allP (s.1.take n)=out at*
    generalize valS N N c s s.1[n] q=v at*
    rw[zb (by omega:(n:Int)<s.1.length),zg,idx_at hn,za,he,za,zf (room_of (by rw[zbE];omega) (by rw[zbE];omega)),<-hgo]
    simp only[zf (fits_nat (n:=n) (by omega)),allP,zaV]
    cases decide (0<v)<;>rfl
def matchR (N:Nat) (c:EConf) (s:ESeg) (q:DQ):List Int:=(hitsR N c s q allP).map (·.1)
theorem hitsR_len (N:Nat) (c:EConf) (s:ESeg) (q:DQ) (P:EHit->Bool):(hitsR N c s q P).length<=16:=by
 unfold hitsR
 cases hs:okSeg c s with
 |false=>exact zaf _
 |true=>
  cases hq:okQ 4 q with
  |false=>exact zaf _
  |true=>exact zau (hitsP_len _ _ _) (okSeg_ok hs).2.1.few
theorem hitsR_dist (N:Nat) (c:EConf) (s:ESeg) (q:DQ) (P:EHit->Bool):DistH (hitsR N c s q P):=by
 unfold hitsR
 cases hs:okSeg c s with
 |false=>exact za4
 |true=>
  cases hq:okQ 4 q with
  |false=>exact za4
  |true=>exact hitsP_dist _ _ (okSeg_ok hs).2.1.inn.ids
theorem match_i {N:Nat} {c:EConf} {s:ESeg} {q:DQ} (h:Fit N c s q):i_MatchOf_m N c.1 c.2 s.1 s.2 q.kind q.field q.words q.lo q.hi q.kids=some (matchR N c s q):=by
 have hM:1048576<N:=h.big
 have hl:=hitsR_len N c s q allP
 unfold i_MatchOf_m matchR
 rw[scores_spec h,za]
 generalize hitsR N c s q allP=hs at*
 refine(iter_scan _ hs.length (fun n=>((hs.take n).map (·.1),hs,(hs.length:Int),(n:Int))) (fun n=>some (hs.map (·.1))) (fun go=>?_) (fun go n hn hgo=>?_) N 0 (zaf _) (by omega)).trans rfl
 .dsimp only
  rw[zd (zm _),ze,zq]
 .dsimp only
  simp only[cast_succ',zo hn,zaK]at hgo
  rw[zb (by omega:(n:Int)<hs.length),zg,idx_at hn,za,zf (room_of (by rw[zar,zah,zbE];omega) (by rw[zar,zah,zbE];omega)),zf (fits_nat (n:=n) (by omega))]
  exact hgo
theorem match_s {N:Nat} {c:EConf} {s:ESeg} {q:DQ} (h:Fit N c s q):s_MatchOf_m N c.1 c.2 s.1 s.2 q.kind q.field q.words q.lo q.hi q.kids=some (matchR N c s q):=by
 have hM:1048576<N:=h.big
 have hl:=h.len
 unfold s_MatchOf_m matchR hitsR
 rw[h.segS,za,h.qS,za]
 cases hs:okSeg c s with
 |false=>rfl
 |true=>
  cases hq:okQ 4 q with
  |false=>rfl
  |true=>
   have g:=h.good hs
   rw[zn,ze,ze,zaV,zg]
   refine(iter_scan _ s.1.length (fun n=>((hitsP (fun d=>valS N N c s d q) allP (s.1.take n)).map (·.1),(n:Int),c.1,c.2,s.1,s.2,q.kind,q.field,q.words,q.lo,q.hi,q.kids)) (fun n=>some ((hitsP (fun d=>valS N N c s d q) allP s.1).map (·.1))) (fun go=>?_) (fun go n hn hgo=>?_) N 0 (zaf _) (by omega)).trans rfl
   .dsimp only
    rw[zd (zm _),ze,zq]
   .dsimp only
    have hm:=zr hn
    have hb:=score_both N g s.1[n] (docOf_self g.dok.inn.ids _ hm) q hq
    have he:=hb.ref
    have hll:=hitsP_len (fun d=>valS N N c s d q) allP (s.1.take n)
    rw[zah]at hll
    simp only[cast_succ',hitsP_take (fun d=>valS N N c s d q) allP s.1 hn]at hgo
    generalize hitsP (fun d=>valS N N c s d q) allP (s.1.take n)=out at*
    generalize valS N N c s s.1[n] q=v at*
    rw[zb (by omega:(n:Int)<s.1.length),zg,idx_at hn,za,he,za,za,zf (room_of (by rw[zar,zbE];omega) (by rw[zar,zbE];omega)),<-hgo]
    simp only[zf (fits_nat (n:=n) (by omega)),allP,zaV]
    cases decide (0<v)
    .rfl
    .rw [zg,zg,zaK]
     rfl
def topR (N:Nat) (c:EConf) (s:ESeg) (q:DQ) (P:EHit->Bool) (most:Nat):List EHit:=(sortH (hitsR N c s q P)).take most
def inM (most:Int):Bool:=decide (1<=most)&&decide (most<=16)
theorem inM_nat {m:Int} (h:inM m=true):∃k:Nat,m=(k:Int)/\1<=k/\k<=16:=by
 unfold inM at h
 simp only[zj,zw]at h
 exact⟨m.toNat,by omega,by omega,by omega⟩
def topRR (N:Nat) (c:EConf) (s:ESeg) (q:DQ) (P:EHit->Bool) (most:Int):List EHit:=bif inM most then topR N c s q P most.toNat else []
theorem first_spec {N:Nat} (hM:1048576<N) (hN:N<=16777216) (c:EConf) (s:ESeg) (q:DQ) (P:EHit->Bool) (most:Nat) (hm:most<=16):i_firstHits_m N (hitsR N c s q P) most=some (topR N c s q P most):=by
 have hl:=hitsR_len N c s q P
 exact firstHits_spec N hM hN _ (by omega) (hitsR_dist N c s q P) most (by omega)
theorem topOf_i {N:Nat} {c:EConf} {s:ESeg} {q:DQ} (h:Fit N c s q) (most:Int):i_TopOf_m N c.1 c.2 s.1 s.2 q.kind q.field q.words q.lo q.hi q.kids most=some (topRR N c s q allP most):=by
 unfold i_TopOf_m topRR
 rw[within_spec,za,show(decide ((1:Int)<=most)&&decide (most<=16))=inM most from rfl]
 cases hm:inM most with
 |false=>rfl
 |true=>
  obtain⟨k,rfl,h1,h2⟩:=inM_nat hm
  rw[zn,ze,scores_spec h,za,first_spec h.big h.top c s q allP k h2,za]
  rfl
abbrev EAl :Type:=List UInt8×DQ
def GB (x:EAl):Prop:=x.1.length<=1048576/\BQ 4 x.2
structure FitA (N:Nat) (xs:List EAl) (c:EConf) (d:EDoc):Prop where
 big:Sm<N
 top:N<=16777216
 oc:okD Sm TConf c
 od:okD Sm TDoc d
 len:xs.length<=1048576
 each:∀x,x∈xs->GB x
end Go.Proofs.YtchgdmmcjgmfcaaGreatDoor
