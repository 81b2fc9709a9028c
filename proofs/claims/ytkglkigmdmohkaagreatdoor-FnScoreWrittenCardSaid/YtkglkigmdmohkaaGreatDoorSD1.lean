import Derived.Test.YtkglkigmdmohkaaGreatDoorSA1
import Derived.Test.YtkglkigmdmohkaaGreatDoorSC1
import Derived.Test.YtkglkigmdmohkaaGreatDoorG1
import Derived.Test.YtkglkigmdmohkaaGreatDoorQ1
set_option linter.unusedVariables false
set_option linter.unusedSimpArgs false
namespace Go.Proofs.YtkglkigmdmohkaaGreatDoor
open Go.RowKit
theorem jyF (c2:List ESyn) (l:List ETerm):∀x,x∈termsF c2 l->∃y,y∈l/\x.2=y.2:=by
 intro x hx
 match l with
 | []=>rw[termsF_nil]at hx;cases hx
 |t::r=>
  rw[termsF]at hx
  split at hx
  .rcases zp.1 hx with rfl|hx
   .exact ⟨_,zy,rfl⟩
   .obtain ⟨y,hy,e⟩:=jyF c2 r x hx
    exact⟨y,zl _ hy,e⟩
  .rename_i y hy
   rcases zp.1 hx with rfl|hx
   .exact ⟨_,zy,rfl⟩
   .obtain ⟨z,hz,e⟩:=jyF c2 _ x hx
    exact⟨z,zl _ (zbP hz),e⟩
termination_by l.length
decreasing_by all_goals (simp; try omega)
theorem jyL (c:EConf) (s:List UInt8) (hs:s.length<=10000):AtOk (terms c s):=fun x hx=>by
 obtain⟨y,hy,e⟩:=jyF c.2 _ x hx
 rw[e]
 exact jfV c.1 s hs y hy
theorem jyP (c:EConf) {docs:List EDoc} (hd:DOk docs) (k:EKey) (id:Int):(atS c docs k id).length<=160/\∀x,x∈atS c docs k id->0<=x/\x<1000000:=by
 unfold atS
 cases h:docOf docs id with
 |none=>exact⟨zaf _,fun x hx=>by cases hx⟩
 |some d=>
  have ht:=hd.text (zbe h) k.1
  refine⟨?_,fun x hx=>?_⟩
  .dsimp only
   rw[ats_len]
   have h1:=zbh (fun t:ETerm=>decide (t.1=k.2)) (terms c (fieldF d.2.1 k.1))
   have h2:=terms_len c (fieldF d.2.1 k.1)
   omega
  .dsimp only [ats]at hx
   obtain⟨t,h1,rfl⟩:=zab.1 hx
   exact jyL c _ (by omega) t (zaZ.1 h1).1
theorem jy4 (P:UInt8->Prop) (xs:List (List UInt8)) (sep:List UInt8) (hs:∀c,c∈sep->P c) (hx:∀x,x∈xs->∀c,c∈x->P c) (L:Nat) (hL:∀x,x∈xs->x.length+sep.length<=L):∀n,n<=xs.length->(∀c,c∈joinL (xs.take n) sep->P c)/\(joinL (xs.take n) sep).length<=n*L
 |0,_=>⟨fun c hc=>(by cases hc),zaf _⟩
 |n+1,hn=>by
  obtain⟨h1,h2⟩:=jy4 P xs sep hs hx L hL n (by omega)
  have hm:=zr (show n<xs.length from hn)
  have hm1:=hx _ hm
  have hm2:=hL _ hm
  rw[zo (show n<xs.length from hn),jyG,Nat.succ_mul]
  rcases hp:xs.take n with _|⟨a,r⟩
  .exact ⟨hm1,by dsimp only;omega⟩
  .rw [hp]at h1 h2
   dsimp only
   refine⟨fun c hc=>?_,?_⟩
   .rcases zaB.1 hc with hc|hc
    .rcases zaB.1 hc with hc|hc
     .exact h1 c hc
     .exact hs c hc
    .exact hm1 c hc
   .rw [zam,zam]
    omega
theorem jyi (xs:List (List UInt8)) (hx:∀x,x∈xs->okW x=true) (hl:xs.length<=4):okT (joinL xs [32])=true/\(joinL xs [32]).length<=160:=by
 obtain⟨h1,h2⟩:=jy4 (fun c=>32<=c.toNat/\c.toNat<=126) xs [32] (fun c hc=>by rw[zaD.1 hc];decide) (fun x h c hc=>by
  have:=((okW_iff x).1 (hx x h)).1 c hc
  unfold wB at this
  simp only[za1,zj,zw]at this
  omega) 13 (fun x h=>by
  have:=((okW_iff x).1 (hx x h)).2.2
  rw[zbE]
  omega) xs.length (zae _)
 rw[zq]at h1 h2
 refine⟨?_,by omega⟩
 unfold okT allN
 rw[zj,zax,zw]
 refine⟨fun n hn=>?_,by omega⟩
 have hn':n<(joinL xs [32]).length:=by have:=List.mem_range'.1 hn;omega
 have:=h1 _ (zr hn')
 rw[<-atB_eq hn',zd (by omega),zd (by omega)]
 rfl
def jQM (k:Int) (l:List Int):List Int:=(l.filter fun x=>decide (k<=x)).map fun x=>x-k
theorem jy8 (k:Int) (l:List Int) {n:Nat} (h:n<l.length):jQM k (l.take (n+1))=bif decide (k<=l[n])then jQM k (l.take n)++ [l[n]-k]else jQM k (l.take n):=by
 unfold jQM
 rw[zo h,za6,zaK]
 cases hk:decide (k<=l[n])
 .rw [List.filter_cons_of_neg (p:=fun x=>decide (k<=x)) (by rw[hk];decide),ze]
  exact zat _
 .rw [List.filter_cons_of_pos (p:=fun x=>decide (k<=x)) hk,zg]
  rfl
theorem jyT (k:Int) (l:List Int):(jQM k l).length<=l.length:=by
 unfold jQM
 rw[zar]
 exact zbh _ _
def kAt (ts:List ETerm) (i:Nat):Int:=(tAt ts i).2-(tAt ts 0).2-i
def jxT (c:EConf) (docs:List EDoc) (field:List UInt8) (ts:List ETerm) (id:Int) (i:Nat):List Int:=jQM (kAt ts i) (atS c docs (field,(tAt ts i).1) id)
def jQL (c:EConf) (docs:List EDoc) (field:List UInt8) (ts:List ETerm) (id:Int) (n:Nat):List (List Int):=(List.range n).map (jxT c docs field ts id)
theorem jzN (c:EConf) (docs:List EDoc) (field:List UInt8) (ts:List ETerm) (id:Int) (n:Nat):jQL c docs field ts id (n+1)=jQL c docs field ts id n++ [jxT c docs field ts id n]:=by
 unfold jQL
 rw[List.range_succ,zaK]
 rfl
theorem jxU (c:EConf) (docs:List EDoc) (field:List UInt8) (ts:List ETerm) (id:Int) (n:Nat):(jQL c docs field ts id n).length=n:=by
 unfold jQL
 rw[zar,List.length_range]
theorem jzb (c:EConf) {docs:List EDoc} (hd:DOk docs) (field:List UInt8) (ts:List ETerm) (id:Int) (n:Nat):∀l,l∈jQL c docs field ts id n->l.length<=1048576:=fun l hl=>by
 obtain⟨i,_,rfl⟩:=zab.1 hl
 have h1:=(jyP c hd (field,(tAt ts i).1) id).1
 have h2:=jyT (kAt ts i) (atS c docs (field,(tAt ts i).1) id)
 unfold jxT
 omega
theorem jBP (N:Nat) {c:EConf} {s:ESeg} (g:GoodS N c s) (q:Int) (q2:List UInt8) (q3:List (List UInt8)) (q4 q5:Int) (q6:List DQ) (id:Int) (hw:∀w,w∈q3->okW w=true) (hl:q3.length<=4):
  jyf N c.1 c.2 s.1 s.2 q q2 q3 q4 q5 q6 id=some (jQL c s.1 q2 (terms c (joinL q3 [32])) id (terms c (joinL q3 [32])).length):=by
 have hM:=g.m
 have hN:=g.top
 obtain⟨hj1,hj2⟩:=jyi q3 hw hl
 have hat:=jyL c (joinL q3 [32]) (by omega)
 have htl:=terms_len c (joinL q3 [32])
 unfold jyf
 rw[jy5 N hM (by omega) q3 [32] (by omega) (by decide) (fun x hx=>by have:=((okW_iff x).1 (hw x hx)).2.2;omega),za,l2Terms_spec N c _ (by omega) hM (okSeg_ok g.ok).1,za]
 generalize terms c (joinL q3 [32])=ts at*
 have h0:=hat.at 0
 refine(iter_scan _ ts.length (fun n=>(id,jQL c s.1 q2 ts id n,ts,(n:Int),s.1,s.2,q,q2,q3,q4,q5,q6)) (fun n=>some (jQL c s.1 q2 ts id ts.length)) (fun go=>?_) (fun go n hn hgo=>?_) N 0 (zaf _) (by omega)).trans rfl
 .dsimp only
  rw[zd (zcd _),ze]
 .dsimp only
  have hn0:=hat.at n
  have e0:idx ts (0:Int)=some (tAt ts 0):=by rw[<-jau (show 0<ts.length by omega)];exact idx_at (n:=0) (by omega)
  obtain⟨ha1,ha2⟩:=jyP c g.dok (q2,(tAt ts n).1) id
  simp only[cast_succ']at hgo
  rw[zb (by omega:(n:Int)<ts.length),zg,idx_at hn,za,e0,za,jau hn,zf (by unfold fits;omega),zf (by unfold fits;omega),za,l12At_spec N g q2 (tAt ts n).1 id,za]
  have hK:(tAt ts n).2-(tAt ts 0).2-(n:Int)=kAt ts n:=rfl
  rw[hK]
  have hKb: -2000000<=kAt ts n/\kAt ts n<=2000000:=by unfold kAt;omega
  have hF:jxT c s.1 q2 ts id n=jQM (kAt ts n) (atS c s.1 (q2,(tAt ts n).1) id):=rfl
  have hlf:=jxU c s.1 q2 ts id n
  rw[jzN,hF]at hgo
  generalize kAt ts n=K at*
  generalize atS c s.1 (q2,(tAt ts n).1) id=at0 at*
  generalize jQL c s.1 q2 ts id n=out at*
  refine(iter_scan _ at0.length (fun k=>(id,out,ts,(n:Int),K,at0,jQM K (at0.take k),(k:Int),s.1,s.2,q,q2,q3,q4,q5,q6)) (fun k=>go (id,out++ [jQM K at0],ts,(n:Int)+1,s.1,s.2,q,q2,q3,q4,q5,q6)) (fun go2=>?_) (fun go2 k hk hgo2=>?_) N 0 (zaf _) (by omega)).trans hgo
  .dsimp only
   rw[zd (zcd _),ze,zq,zf (room_of (by rw[zbE];omega) (by rw[zbE];omega)),zf (fits_nat (n:=n) (by omega))]
  .dsimp only
   have hx:=ha2 _ (zr hk)
   have hsl:=jyT K (at0.take k)
   rw[zah]at hsl
   simp only[cast_succ',jy8 K at0 hk]at hgo2
   rw[zb (by omega:(k:Int)<at0.length),zg,idx_at hk,za,za,zf (by unfold fits;omega),zf (room_of (by rw[zbE];omega) (by rw[zbE];omega)),<-hgo2]
   simp only[zf (fits_nat (n:=k) (by omega))]
   cases decide (K<=at0[k])<;>rfl
theorem jBW {δ ρ:Type} {J:δ->Option ρ} {X:(δ->Option ρ)->Option ρ} {w:Option ρ} (g0:δ) (v:Option ρ) (hJ:J g0=v) (hX:∀J':δ->Option ρ,J' g0=v->X J'=w):meet J X=w:=hX J hJ
def jxA (c:EConf) (docs:List EDoc) (field:List UInt8) (ts:List ETerm) (id:Int):Nat:=sumL (ts.map fun t=>ptsF c docs field t.1 id)
theorem jz1 (c:EConf) (docs:List EDoc) (field:List UInt8) (ts:List ETerm) (id:Int) {n:Nat} (h:n<ts.length):jxA c docs field (ts.take (n+1)) id=jxA c docs field (ts.take n) id+ptsF c docs field (tAt ts n).1 id:=by
 unfold jxA
 rw[List.map_take,sumL_take _ n (by rw[zar];exact h),List.map_take,List.getElem_map,jau h]
theorem jyJ (c:EConf) {docs:List EDoc} (hd:DOk docs) (field:List UInt8) (ts:List ETerm) (id:Int):jxA c docs field ts id<=ts.length*8800000:=by
 have:=sumL_le 8800000 (ts.map fun t=>ptsF c docs field t.1 id) (fun x hx=>by
  obtain⟨t,_,rfl⟩:=zab.1 hx
  exact ptsF_le c hd field t.1 id)
 rwa[zar]at this
def jxX (c:EConf) (docs:List EDoc) (field:List UInt8) (ts:List ETerm) (slop:Int) (id:Int):Nat:=jxA c docs field ts id*min (phrF (jQL c docs field ts id ts.length) slop).length 3
def phraseF (c:EConf) (docs:List EDoc) (field:List UInt8) (ws:List (List UInt8)) (slop:Int) (id:Int):Nat:=jxX c docs field (terms c (joinL ws [32])) slop id
theorem jyH (c:EConf) {docs:List EDoc} (hd:DOk docs) (field:List UInt8) (ts:List ETerm) (hl:ts.length<=160) (slop id:Int):jxX c docs field ts slop id<=4224000000:=by
 unfold jxX
 have h1:=jyJ c hd field ts id
 have h2:min (phrF (jQL c docs field ts id ts.length) slop).length 3<=3:=Nat.min_le_right _ _
 calc _<=1408000000*3:=zbX (by omega) h2
  _=4224000000:=rfl
theorem phraseF_le (c:EConf) {docs:List EDoc} (hd:DOk docs) (field:List UInt8) (ws:List (List UInt8)) (hw:∀w,w∈ws->okW w=true) (hl:ws.length<=4) (slop id:Int):phraseF c docs field ws slop id<=4224000000:=by
 have h1:=(jyi ws hw hl).2
 have h2:=terms_len c (joinL ws [32])
 exact jyH c hd field _ (by omega) slop id
theorem l12Phrase_spec (N:Nat) {c:EConf} {s:ESeg} (g:GoodS N c s) (q:Int) (q2:List UInt8) (q3:List (List UInt8)) (q4 q5:Int) (q6:List DQ) (id:Int) (hw:∀w,w∈q3->okW w=true) (hl:q3.length<=4):
  jx2 N c.1 c.2 s.1 s.2 q q2 q3 q4 q5 q6 id=some (phraseF c s.1 q2 q3 q4 id:Int):=by
 have hM:=g.m
 have hN:=g.top
 obtain⟨hj1,hj2⟩:=jyi q3 hw hl
 have htl:=terms_len c (joinL q3 [32])
 have hj:=jy5 N hM (by omega) q3 [32] (by omega) (by decide) (fun x hx=>by have:=((okW_iff x).1 (hw x hx)).2.2;omega)
 have ht:=l2Terms_spec N c (joinL q3 [32]) (by omega) hM (okSeg_ok g.ok).1
 unfold jx2 phraseF
 rw[jBP N g q q2 q3 q4 q5 q6 id hw hl,za,jxU]
 generalize terms c (joinL q3 [32])=ts at*
 have hple:=jyH c g.dok q2 ts (by omega) q4 id
 by_cases h0:ts.length=0
 .have e:ts=[]:=zbI.1 h0
  subst e
  rw[zb (by omega),zg]
  show some (0:Int)=some ((0*_:Nat):Int)
  rw[Nat.zero_mul]
  rfl
 .rw [zd (by omega),ze,jBy N hM (by omega) _ q4 (by rw[jxU];omega) (jzb c g.dok q2 ts id ts.length),za]
  unfold jxX at*
  generalize hp:phrF (jQL c s.1 q2 ts id ts.length) q4=ps at*
  refine jBW (id,((min ps.length 3:Nat):Int),c.1,c.2,s.1,s.2,q,q2,q3,q4,q5,q6) (some ((jxA c s.1 q2 ts id*min ps.length 3:Nat):Int)) ?_ (fun J hJ=>?_)
  .dsimp only
   rw[hj,za,ht,za]
   refine(iter_scan _ ts.length (fun n=>(id,((min ps.length 3:Nat):Int),(jxA c s.1 q2 (ts.take n) id:Int),ts,(n:Int),s.1,s.2,q,q2,q3,q4,q5,q6)) (fun n=>some ((jxA c s.1 q2 ts id*min ps.length 3:Nat):Int)) (fun go=>?_) (fun go n hn hgo=>?_) N 0 (zaf _) (by omega)).trans rfl
   .dsimp only
    rw[zd (zcd _),ze,zq,<-zbo,zf (fits_abs (by omega) (by omega))]
   .dsimp only
    have hb:=jyJ c g.dok q2 (ts.take n) id
    have hb2:=ptsF_le c g.dok q2 (tAt ts n).1 id
    rw[zah]at hb
    simp only[cast_succ',jz1 c s.1 q2 ts id hn]at hgo
    rw[zb (by omega:(n:Int)<ts.length),zg,idx_at hn,za,jau hn,l12Points_spec N g q2 (tAt ts n).1 id,za,zf (fits_abs (by omega) (by omega)),zf (fits_nat (n:=n) (by omega)),<-hgo,Int.natCast_add]
  .by_cases h3:(3:Int)<ps.length
   .rw [zb h3,zg,<-hJ,Nat.min_eq_right (by omega)]
    rfl
   .rw [zd h3,ze,<-hJ,Nat.min_eq_left (by omega)]
theorem jEb {n:Nat}:(if(n:Int)<3 then(n:Int)else 3)=((min n 3:Nat):Int):=by
 split<;>omega
theorem iPhrasePts_spec (N:Nat) {c:EConf} {s:ESeg} (g:GoodS N c s) (q:Int) (q2:List UInt8) (q3:List (List UInt8)) (q4 q5:Int) (q6:List DQ) (id:Int) (d2:List EField) (d3:List EAttr) (hw:∀w,w∈q3->okW w=true) (hl:q3.length<=4):
  jyB N (c,s) q q2 q3 q4 q5 q6 id d2 d3=some (phraseF c s.1 q2 q3 q4 id:Int):=by
 have hM:=g.m
 have hN:=g.top
 obtain⟨hj1,hj2⟩:=jyi q3 hw hl
 have htl:=terms_len c (joinL q3 [32])
 have hat:=jyL c (joinL q3 [32]) (by omega)
 have ht:=termsOf_spec N c (joinL q3 [32]) (by omega) hM (by omega) g.oc
 rw[(okSeg_ok g.ok).1,hj1,zaV,zg]at ht
 unfold jyB phraseF
 dsimp only
 rw[join_spec N q3 [32] (by omega) (by decide) (fun x hx=>by have:=((okW_iff x).1 (hw x hx)).2.2;omega),za,ht,za]
 generalize terms c (joinL q3 [32])=ts at*
 have hple:=jyH c g.dok q2 ts (by omega) q4 id
 by_cases h0:ts.length=0
 .have e:ts=[]:=zbI.1 h0
  subst e
  rw[zb (by rfl),zg]
  show some (0:Int)=some ((0*_:Nat):Int)
  rw[Nat.zero_mul]
  rfl
 .rw [zd (by omega),ze]
  unfold jxX at*
  have hz:=hat.at 0
  refine(iter_scan _ ts.length (fun n=>((c,s),ts,jQL c s.1 q2 ts id n,(jxA c s.1 q2 (ts.take n) id:Int),ts,(ts.length:Int),(n:Int),q,q2,q3,q4,q5,q6,id,d2,d3)) (fun n=>some ((jxA c s.1 q2 ts id*min (phrF (jQL c s.1 q2 ts id ts.length) q4).length 3:Nat):Int)) (fun go=>?_) (fun go n hn hgo=>?_) N 0 (zaf _) (by omega)).trans rfl
  .dsimp only
   rw[zd (zcd _),ze,zq,jBo N hM (by omega) _ q4 (by rw[jxU];omega) (jzb c g.dok q2 ts id ts.length),za,jEb,<-zbo,zbx (min _ _),zf (fits_abs (by omega) (by omega))]
  .dsimp only
   have hn0:=hat.at n
   have e0:idx ts (0:Int)=some (tAt ts 0):=by rw[<-jau (show 0<ts.length by omega)];exact idx_at (n:=0) (by omega)
   obtain⟨ha1,ha2⟩:=jyP c g.dok (q2,(tAt ts n).1) id
   have hb:=jyJ c g.dok q2 (ts.take n) id
   have hb2:=ptsF_le c g.dok q2 (tAt ts n).1 id
   rw[zah]at hb
   simp only[cast_succ',jz1 c s.1 q2 ts id hn]at hgo
   rw[zb (by omega:(n:Int)<ts.length),zg,idx_at hn,za,jau hn,places_spec N g c q2 (tAt ts n).1 id,za]
   have hK:(tAt ts n).2-(tAt ts 0).2-(n:Int)=kAt ts n:=rfl
   have hKb: -2000000<=kAt ts n/\kAt ts n<=2000000:=by unfold kAt;omega
   have hF:jxT c s.1 q2 ts id n=jQM (kAt ts n) (atS c s.1 (q2,(tAt ts n).1) id):=rfl
   have hlf:=jxU c s.1 q2 ts id n
   have hpt:=points_spec N g q2 (tAt ts n).1 id
   rw[jzN,hF]at hgo
   generalize atS c s.1 (q2,(tAt ts n).1) id=at0 at*
   generalize jQL c s.1 q2 ts id n=out at*
   generalize jxA c s.1 q2 (ts.take n) id=all at*
   generalize ptsF c s.1 q2 (tAt ts n).1 id=pt at*
   refine(iter_scan _ at0.length (fun k=>((c,s),ts,out,(all:Int),(n:Int),jQM (kAt ts n) (at0.take k),ts,(ts.length:Int),(n:Int),at0,(at0.length:Int),(k:Int),q,q2,q3,q4,q5,q6,id,d2,d3,(tAt ts n).1,(tAt ts n).2)) (fun k=>go ((c,s),ts,out++ [jQM (kAt ts n) at0],((all+pt:Nat):Int),ts,(ts.length:Int),(n:Int)+1,q,q2,q3,q4,q5,q6,id,d2,d3)) (fun go2=>?_) (fun go2 k hk hgo2=>?_) N 0 (zaf _) (by omega)).trans hgo
   .dsimp only
    rw[zd (zcd _),ze,zq,zf (room_of (by rw[zbE];omega) (by rw[zbE];omega)),hpt,za,zf (fits_abs (by omega) (by omega)),zf (fits_nat (n:=n) (by omega)),Int.natCast_add]
   .dsimp only
    have hx:=ha2 _ (zr hk)
    have hsl:=jyT (kAt ts n) (at0.take k)
    rw[zah]at hsl
    simp only[cast_succ',jy8 (kAt ts n) at0 hk]at hgo2
    rw[zb (by omega:(k:Int)<at0.length),zg,idx_at hk,za,e0,za,hK,zf (by unfold fits;omega),zf (by unfold fits;omega),zf (by unfold fits;omega),zf (room_of (by rw[zbE];omega) (by rw[zbE];omega)),<-hgo2,show decide ((0:Int)<=at0[k]-kAt ts n)=decide (kAt ts n<=at0[k])from by rw[decide_eq_decide];omega]
    simp only[zf (fits_nat (n:=k) (by omega))]
    cases decide (kAt ts n<=at0[k])<;>rfl
def gB (n:Int):Bool:=wB n||(decide (n=42)||decide (n=63))
def okG (s:List UInt8):Bool:=allN s.length (fun n=>gB (atB s n))&&(decide ((1:Int)<=s.length)&&decide ((s.length:Int)<=12))
theorem jzB (N:Nat) (s:List UInt8) (h:s.length<N) (hN:N<=1099511627776):jxV N s=some (okG s):=by
 unfold jxV
 refine jG _ s.length (fun n=>(s,(s.length:Int),(n:Int))) (fun n=>gB (atB s n)) _ (fun go=>?_) (fun go n hn=>?_) N h
 .dsimp only
  rw[zd (zcd _),ze,within_spec,za]
 .dsimp only
  rw[zb (by omega:(n:Int)<s.length),zg,idx_at hn]
  simp only[za,jeg,atB_eq hn]
  have hf:fits ((n:Int)+1):=fits_nat (by omega)
  simp only[zf hf,cast_succ']
  unfold gB
  cases wB (atB s n)<;>cases decide (atB s n=42)<;>cases decide (atB s n=63)<;>rfl
theorem jCl (N:Nat) (s:List UInt8) (n:Nat) (hn:n<s.length) (h:2<N) (hN:N<=1099511627776):jT N ((s.take (n+1)).drop n)=some (wB (atB s n)):=by
 have hl:((s.take (n+1)).drop n).length=1:=by rw[zaQ,zah];omega
 rw[ja7 N _ (by omega) hN]
 congr 1
 unfold okW
 rw[hl]
 have:atB ((s.take (n+1)).drop n) 0=atB s n:=by
  unfold atB
  rw[zaL,zaH,zf (by omega),zbz]
 show((List.range' 0 1).all _&&_)=_
 rw[show List.range' 0 1=[0]from rfl,zb7,List.all_nil,this]
 cases wB (atB s n)<;>rfl
theorem jAS (N:Nat) (s:List UInt8) (h:s.length<N) (h2:2<N) (hN:N<=1099511627776):jyk N s=some (okG s):=by
 unfold jyk
 refine jG _ s.length (fun n=>(s,(n:Int))) (fun n=>gB (atB s n)) _ (fun go=>?_) (fun go n hn=>?_) N h
 .dsimp only
  rw[zd (zcd _),ze,l1In_spec,za]
 .dsimp only
  have hc:cut s (n:Int) ((n:Int)+1)=some ((s.take (n+1)).drop n):=by
   unfold cut
   rw[zf ⟨by omega,by omega,by omega⟩,show((n:Int)+1).toNat=n+1 from by omega,zai]
  rw[zb (by omega:(n:Int)<s.length),zg,idx_at hn]
  simp only[za,atB_eq hn]
  have hf:fits ((n:Int)+1):=fits_nat (by omega)
  simp only[zf hf,hc,za]
  have hw:=jCl N s n hn h2 hN
  generalize jT N ((s.take (n+1)).drop n)=w at*
  subst hw
  rw[za,cast_succ']
  unfold gB
  generalize wB (atB s n)=p
  cases p<;>cases decide (atB s n=42)<;>cases decide (atB s n=63)<;>rfl
def nilB {α:Type} (l:List α):Bool:=decide ((l.length:Int)=0)
def oneQ (k:Int) (f:List UInt8) (ws:List (List UInt8)) (a b:Int) (kids:List DQ):Bool:=
 bif decide (k=1)then decide (f=[])&&(nilB ws&&((decide (a=0)&&decide (b=0))&&nilB kids))
 else bif decide (k=2)then(decide (a=0)&&decide (b=0)&&nilB kids)&&(okW f&&(ws.all okW&&decide ((ws.length:Int)=1)))
 else bif decide (k=3)then nilB kids&&(okW f&&(ws.all okW&&(decide ((2:Int)<=ws.length)&&decide ((ws.length:Int)<=4))&&(decide (b=0)&&(decide (0<=a)&&decide (a<=5)))))
 else bif decide (k=4)then nilB kids&&(okW f&&(ws.all okW&&decide ((ws.length:Int)=1)&&(decide (b=0)&&(decide (1<=a)&&decide (a<=2)))))
 else bif decide (k=5)then(decide (a=0)&&decide (b=0)&&nilB kids)&&(okW f&&(ws.all (fun w=>okG w&& !okW w)&&decide ((ws.length:Int)=1)))
 else bif decide (k=6)then nilB ws&&nilB kids&&(okW f&&((decide (0<=a)&&decide (a<=999999999))&&(decide (a<=b)&&decide (b<=999999999))))
 else bif decide (k=7)||decide (k=8)then decide (f=[])&&(nilB ws&&((decide (a=0)&&decide (b=0))&&(decide ((2:Int)<=kids.length)&&decide ((kids.length:Int)<=4))))
 else bif decide (k=9)then decide (f=[])&&(nilB ws&&((decide (a=0)&&decide (b=0))&&decide ((kids.length:Int)=2)))
 else bif decide (k=10)then decide (f=[])&&(nilB ws&&(decide ((kids.length:Int)=1)&&(decide (b=0)&&(decide (2<=a)&&decide (a<=9)))))
 else false
def okQ :Nat->DQ->Bool
 |0,_=>false
 |n+1,.mk k f ws a b kids=>oneQ k f ws a b kids&&kids.all (okQ n)
theorem jxI (N:Nat) (k:Int) (f:List UInt8) (ws:List (List UInt8)) (a b:Int) (kids:List DQ) (p q r s:Bool):jxz N k f ws a b kids p q r s=some ((p||decide (f=[]))&&((q||nilB ws)&&((r||(decide (a=0)&&decide (b=0)))&&(s||nilB kids)))):=by
 unfold jxz nilB
 cases p<;>cases q<;>cases r<;>cases s<;>cases decide (f=[])<;>cases decide ((ws.length:Int)=0)<;>cases decide (a=0)<;>cases decide (b=0)<;>cases decide ((kids.length:Int)=0)<;>rfl
theorem jCC (N:Nat) (hM:Sm<N) (hN:N<=1099511627776) (ws:List (List UInt8)) (most:Int) (h:ws.length<=1048576) (hw:∀w,w∈ws->w.length<=1048576):jxL N ws most=some (ws.all okW&&(decide ((1:Int)<=ws.length)&&decide ((ws.length:Int)<=most))):=by
 have hM':1048576<N:=hM
 unfold jxL
 refine(jcE _ ws (fun n=>(ws,most,(n:Int))) okW (some false) (some (decide ((1:Int)<=ws.length)&&decide ((ws.length:Int)<=most))) (fun go=>?_) (fun go n hn=>?_) N (by omega)).trans (by cases ws.all okW<;>rfl)
 .dsimp only
  rw[zd (zcd _),ze,l1In_spec,za]
 .dsimp only
  have:=hw _ (zr hn)
  rw[zb (by omega:(n:Int)<ws.length),zg,idx_at hn,za,ja7 N _ (by omega) hN,za,zf (fits_nat (n:=n) (by omega)),cast_succ']
  cases okW ws[n]<;>rfl
theorem jxN {c:Bool} {x y:Option Bool} {p q:Bool} (h1:c=true->x=some p) (h2:c=false->y=some q):(bif c then x else y)=some (bif c then p else q):=by
 cases c
 .exact h2 rfl
 .exact h1 rfl
theorem jAV {α:Type} {xs:List α} (h:decide ((xs.length:Int)=1)=true):∃x,xs=[x]:=by
 have:=of_decide_eq_true h
 match xs,this with
 | [x],_=>exact⟨x,rfl⟩
theorem jBm (N:Nat) (hM:Sm<N) (hN:N<=1099511627776) (k:Int) (f:List UInt8) (ws:List (List UInt8)) (a b:Int) (kids:List DQ) (hf:f.length<=1048576) (h:ws.length<=1048576) (hw:∀w,w∈ws->w.length<=1048576):jyq N k f ws a b kids=some (oneQ k f ws a b kids):=by
 have hM':1048576<N:=hM
 have hfw:=ja7 N f (by omega) hN
 have hW:=jCC N hM hN ws
 unfold jyq oneQ
 refine jxN (fun _=>?_) (fun _=>jxN (fun _=>?_) (fun _=>jxN (fun _=>?_) (fun _=>jxN (fun _=>?_) (fun _=>jxN (fun _=>?_) (fun _=>jxN (fun _=>?_) (fun _=>?_))))))
 .rw [jxI,za]
  rfl
 .rw [jxI,za]
  simp only[hfw,hW _ h hw,za,zbV,zbf,zaj]
  generalize(decide (a=0)&&decide (b=0))=p
  generalize nilB kids=q
  generalize okW f=r
  rw[show(decide ((1:Int)<=ws.length)&&decide ((ws.length:Int)<=1))=decide ((ws.length:Int)=1)from by rw[zbH];simp only[zj,zw];omega]
  cases p<;>cases q<;>cases r<;>rfl
 .rw [jxI,za]
  simp only[hfw,hW _ h hw,l1In_spec,za,zbV,zbf,zaj]
  generalize nilB kids=q
  generalize okW f=r
  generalize ws.all okW=t
  rw[show decide ((2:Int)<=ws.length)=(decide ((1:Int)<ws.length))from by congr 1]
  by_cases h1:(1:Int)<ws.length
  .rw [zb h1,zb (by omega:(1:Int)<=ws.length)]
   cases q<;>cases r<;>cases t<;>cases decide ((ws.length:Int)<=4)<;>cases decide (b=0)<;>rfl
  .rw [zd h1]
   cases q<;>cases r<;>cases t<;>cases(decide ((1:Int)<=ws.length))<;>cases decide ((ws.length:Int)<=4)<;>rfl
 .rw [jxI,za]
  simp only[hfw,hW _ h hw,l1In_spec,za,zbV,zbf,zaj]
  rw[show(decide ((1:Int)<=ws.length)&&decide ((ws.length:Int)<=1))=decide ((ws.length:Int)=1)from by rw[zbH];simp only[zj,zw];omega]
  generalize nilB kids=q
  generalize okW f=r
  generalize ws.all okW=t
  cases q<;>cases r<;>cases t<;>cases decide ((ws.length:Int)=1)<;>cases decide (b=0)<;>rfl
 .rw [jxI,za]
  simp only[hfw,za,zbV,zbf,zaj]
  generalize(decide (a=0)&&decide (b=0))=p
  generalize nilB kids=q
  generalize okW f=r
  cases h1:decide ((ws.length:Int)=1)with
  |false=>
   cases p<;>cases q<;>cases r<;>cases(ws.all fun w=>okG w&& !okW w)<;>rfl
  |true=>
   obtain⟨w,rfl⟩:=jAV h1
   have h2:=hw w zy
   have e:idx [w] (0:Int)=some w:=rfl
   simp only[e,za,jAS N w (by omega) (by omega) hN,ja7 N w (by omega) hN,zb7,List.all_nil]
   generalize okG w=x
   generalize okW w=y
   cases p<;>cases q<;>cases r<;>cases x<;>cases y<;>rfl
 .rw [jxI,za]
  simp only[hfw,l1In_spec,za,zbV,zbf,zaj]
  generalize nilB kids=q
  generalize nilB ws=p
  generalize okW f=r
  generalize(decide (0<=a)&&decide (a<=999999999))=s
  cases p<;>cases q<;>cases r<;>cases s<;>rfl
 .simp only [meet,jxI,l1In_spec,za,zbV,zbf,zaj,zaV]
  generalize decide (f=[])=p
  generalize nilB ws=q
  generalize decide (a=0)=r
  generalize hs:decide (b=0)=s
  generalize decide (k=7)=k7
  generalize decide (k=8)=k8
  generalize decide (k=9)=k9
  generalize decide (k=10)=k10
  generalize(decide ((2:Int)<=kids.length)&&decide ((kids.length:Int)<=4))=x
  generalize(decide ((kids.length:Int)=2))=x2
  generalize(decide ((kids.length:Int)=1))=x1
  generalize(decide (2<=a)&&decide (a<=9))=y
  cases k7<;>cases k8<;>cases k9<;>cases k10<;>cases p<;>cases q<;>cases r<;>cases s<;>cases x1<;>rfl
def BQ :Nat->DQ->Prop
 |0,_=>True
 |n+1,q=>q.field.length<=1048576/\q.words.length<=1048576/\(∀w,w∈q.words->w.length<=1048576)/\q.kids.length<=1048576/\∀c,c∈q.kids->BQ n c
theorem jzi (N:Nat) (hM:Sm<N) (hN:N<=1099511627776):∀(n D:Nat),n<D->n<=1000->∀q,BQ n q->jxO N D q.kind q.field q.words q.lo q.hi q.kids (n:Int)=some (okQ n q)
 |0,D+1,_,_,q,_=>by
  rw[jxO,zb (by rfl),zg]
  rfl
 |n+1,D+1,hD,hn,q,hq=>by
  have hM':1048576<N:=hM
  have ih:=jzi N hM hN n D (by omega) (by omega)
  obtain⟨k,f,ws,a,b,kids⟩:=q
  obtain⟨h1,h2,h3,h4,h5⟩:=hq
  dsimp only[DQ.kind,DQ.field,DQ.words,DQ.lo,DQ.hi,DQ.kids]at h1 h2 h3 h4 h5⊢
  rw[jxO,zd (by omega),ze,jBm N hM hN k f ws a b kids h1 h2 h3,za,okQ]
  have e:((n+1:Nat):Int)-1=(n:Int):=by omega
  cases hb:oneQ k f ws a b kids
  .rfl
  .rw [zn,ze,zaj]
   refine Eq.trans (jcE _ kids (fun i=>(((n+1:Nat):Int),(i:Int),k,f,ws,a,b,kids)) (okQ n) (some false) (some true) (fun go=>?_) (fun go i hi=>?_) N (by omega)) ?_
   .dsimp only
    rw[zd (zcd _),ze]
   .dsimp only
    have hm:=zr hi
    rw[zb (by omega:(i:Int)<kids.length),zg,idx_at hi,za,e,zf (by unfold fits;omega),ih _ (h5 _ hm),za,zf (fits_nat (n:=i) (by omega)),cast_succ']
    cases okQ n kids[i]<;>rfl
   .cases kids.all (okQ n)<;>rfl
theorem jyI {δ ρ:Type} {J:δ->Option ρ} {X:(δ->Option ρ)->Option ρ} {w:Option ρ} (g0:δ) (v:Option ρ) (hJ:J g0=v) (hX:∀J':δ->Option ρ,J' g0=v->X J'=w):meet J X=w:=hX J hJ
abbrev ESh :Type:=Bool×Int×Int×Int×Int×Bool×Int×Int
def shp (k:Int):Option ESh:=mget (.int .i64) (.pair .bool (.pair (.int .i64) (.pair (.int .i64) (.pair (.int .i64) (.pair (.int .i64) (.pair .bool (.pair (.int .i64) (.int .i64)))))))) gm_shapes k
theorem jDh {k:Int} (h1:¬k=1) (h2:¬k=2) (h3:¬k=3) (h4:¬k=4) (h5:¬k=5) (h6:¬k=6) (h7:¬k=7) (h8:¬k=8) (h9:¬k=9) (h10:¬k=10):shp k=none:=by
 unfold shp mget gm_shapes
 simp only[List.find?,Tp.eqB,zd h1,zd h2,zd h3,zd h4,zd h5,zd h6,zd h7,zd h8,zd h9,zd h10,Option.map_none]
def inB (n lo hi:Int):Bool:=decide (lo<=n)&&decide (n<=hi)
def wK (k:Int) (w:List UInt8):Bool:=bif decide (k=5)then okG w&& !okW w else okW w
def jQK (s:ESh) (k:Int) (f:List UInt8) (ws:List (List UInt8)) (a b:Int) (kids:List DQ) (P:DQ->Bool):Bool:=
 (s.1== !decide (f=[]))&&((!s.1||okW f)&&(inB ws.length s.2.1 s.2.2.1&&(inB kids.length s.2.2.2.2.2.2.1 s.2.2.2.2.2.2.2&&(inB a s.2.2.2.1 s.2.2.2.2.1&&((!s.2.2.2.2.2.1||inB b a 999999999)&&((s.2.2.2.2.2.1||decide (b=0))&&(ws.all (wK k)&&kids.all P)))))))
def jy3 (s:Option ESh) (k:Int) (f:List UInt8) (ws:List (List UInt8)) (a b:Int) (kids:List DQ) (P:DQ->Bool):Bool:=
 match s with
 |none=>false
 |some s=>jQK s k f ws a b kids P
theorem jDU (N:Nat) (hM:Sm<N) (hN:N<=1099511627776) (n D:Nat) (hn:n<=1000) (ih:∀q,BQ n q->jxE N D q.kind q.field q.words q.lo q.hi q.kids (n:Int)=some (okQ n q)) (k:Int) (f:List UInt8) (ws:List (List UInt8)) (a b:Int) (kids:List DQ) (h1:f.length<=1048576) (h2:ws.length<=1048576) (h3:∀w,w∈ws->w.length<=1048576) (h4:kids.length<=1048576) (h5:∀c,c∈kids->BQ n c):jxE N (D+1) k f ws a b kids ((n+1:Nat):Int)=some (jy3 (shp k) k f ws a b kids (okQ n)):=by
 have hM':1048576<N:=hM
 have e:((n+1:Nat):Int)-1=(n:Int):=by omega
 rw[jxE]
 unfold shp
 generalize mget (.int .i64) (.pair .bool (.pair (.int .i64) (.pair (.int .i64) (.pair (.int .i64) (.pair (.int .i64) (.pair .bool (.pair (.int .i64) (.int .i64)))))))) gm_shapes k=o
 cases o with
 |none=>rfl
 |some sh=>
  obtain⟨x,x2,x3,x4,x5,x6,x7,x8⟩:=sh
  show _=some (jQK _ k f ws a b kids (okQ n))
  unfold jQK
  dsimp only
  generalize hv3:(ws.all (wK k)&&kids.all (okQ n))=v3
  generalize hv2:((!x6||inB b a 999999999)&&((x6||decide (b=0))&&v3))=v2
  refine jyI (((n+1:Nat):Int),k,f,ws,a,b,kids,x,x2,x3,x4,x5,x6,x7,x8) (some (inB ws.length x2 x3&&(inB kids.length x7 x8&&(inB a x4 x5&&v2)))) ?_ (fun J hJ=>?_)
  .dsimp only
   refine jyI (((n+1:Nat):Int),k,f,ws,a,b,kids,x,x2,x3,x4,x5,x6,x7,x8) (some v2) ?_ (fun J2 hJ2=>?_)
   .dsimp only
    refine jyI (((n+1:Nat):Int),k,f,ws,a,b,kids) (some v3) ?_ (fun J3 hJ3=>?_)
    .dsimp only
     refine Eq.trans (jcE _ ws (fun i=>(((n+1:Nat):Int),ws,(ws.length:Int),(i:Int),k,f,ws,a,b,kids)) (wK k) (some false) (some (kids.all (okQ n))) (fun go=>?_) (fun go i hi=>?_) N (by omega)) ?_
     .dsimp only
      rw[zd (zcd _),ze]
      refine Eq.trans (jcE _ kids (fun i=>(((n+1:Nat):Int),kids,(kids.length:Int),(i:Int))) (okQ n) (some false) (some true) (fun go=>?_) (fun go i hi=>?_) N (by omega)) ?_
      .dsimp only
       rw[zd (zcd _),ze]
      .dsimp only
       have hm:=zr hi
       rw[zb (by omega:(i:Int)<kids.length),zg,idx_at hi,za,e,zf (by unfold fits;omega),ih _ (h5 _ hm),za,zf (fits_nat (n:=i) (by omega)),cast_succ']
       cases okQ n kids[i]<;>rfl
      .cases kids.all (okQ n)<;>rfl
     .dsimp only
      have hm:=h3 _ (zr hi)
      have hf:fits ((i:Int)+1):=fits_nat (by omega)
      rw[zb (by omega:(i:Int)<ws.length),zg,idx_at hi,za]
      simp only[jzB N _ (by omega:ws[i].length<N) hN,wordOk_spec N _ (by omega:ws[i].length<N) hN,za,zf hf,cast_succ']
      unfold wK
      cases decide (k=5)<;>cases okG ws[i]<;>cases okW ws[i]<;>rfl
     .rw [<-hv3]
      cases ws.all (wK k)<;>rfl
    .simp only [within_spec,za,hJ3]
     rw[<-hv2]
     unfold inB
     cases x6<;>cases decide (a<=b)<;>cases decide (b<=999999999)<;>cases decide (b=0)<;>rfl
   .simp only [within_spec,za,hJ2]
    unfold inB
    cases(decide (x2<=(ws.length:Int))&&decide ((ws.length:Int)<=x3))<;>cases(decide (x7<=(kids.length:Int))&&decide ((kids.length:Int)<=x8))<;>cases(decide (x4<=a)&&decide (a<=x5))<;>rfl
  .dsimp only [Option.isSome,Option.getD]
   rw[zd (by omega:¬((n+1:Nat):Int)<1)]
   simp only[wordOk_spec N f (by omega) hN,za,hJ]
   cases x<;>cases decide (f=[])<;>cases okW f<;>rfl
theorem jxC {m v:Int}:inB m v v=decide (m=v):=by unfold inB;rw[zbH];simp only[zj,zw];omega
theorem jAR (k:Int) (f:List UInt8) (ws:List (List UInt8)) (a b:Int) (kids:List DQ) (P:DQ->Bool):jy3 (shp k) k f ws a b kids P=(oneQ k f ws a b kids&&kids.all P):=by
 have e1:decide ((ws.length:Int)=0)=true->ws.all (wK k)=true:=fun h=>by
  have:=of_decide_eq_true h
  rw[zbI.1 (by omega:ws.length=0)]
  rfl
 have e2:decide ((kids.length:Int)=0)=true->kids.all P=true:=fun h=>by
  have:=of_decide_eq_true h
  rw[zbI.1 (by omega:kids.length=0)]
  rfl
 have e3:decide (f=[])=true->okW f=false:=fun h=>by rw[of_decide_eq_true h];rfl
 by_cases k1:k=1
 .subst k1
  show jQK (false,0,0,0,0,false,0,0) 1 f ws a b kids P=_
  rw[show wK 1=okW from rfl]at e1
  unfold jQK oneQ nilB
  rw[show wK 1=okW from rfl]
  dsimp only
  simp only[jxC]
  unfold inB
  generalize ws.all okW=q at*
  generalize kids.all P=p at*
  generalize decide ((ws.length:Int)=0)=l at*
  generalize decide ((kids.length:Int)=0)=m at*
  generalize decide (a=0)=u at*
  generalize decide (b=0)=v at*
  generalize decide (f=[])=z at*
  generalize okW f=o at*
  cases q<;>cases p<;>cases l<;>cases m<;>cases u<;>cases v<;>cases z<;>cases o<;>first|rfl|simp_all
 by_cases k2:k=2
 .subst k2
  show jQK (true,1,1,0,0,false,0,0) 2 f ws a b kids P=_
  clear e1
  unfold jQK oneQ nilB
  rw[show wK 2=okW from rfl]
  dsimp only
  simp only[jxC]
  unfold inB
  generalize ws.all okW=q at*
  generalize kids.all P=p at*
  generalize decide ((ws.length:Int)=1)=l at*
  generalize decide ((kids.length:Int)=0)=m at*
  generalize decide (a=0)=u at*
  generalize decide (b=0)=v at*
  generalize decide (f=[])=z at*
  generalize okW f=o at*
  cases q<;>cases p<;>cases l<;>cases m<;>cases u<;>cases v<;>cases z<;>cases o<;>first|rfl|simp_all
 by_cases k3:k=3
 .subst k3
  show jQK (true,2,4,0,5,false,0,0) 3 f ws a b kids P=_
  clear e1
  unfold jQK oneQ nilB
  rw[show wK 3=okW from rfl]
  dsimp only
  simp only[jxC]
  unfold inB
  generalize ws.all okW=q at*
  generalize kids.all P=p at*
  generalize decide ((2:Int)<=ws.length)=l1 at*
  generalize decide ((ws.length:Int)<=4)=l2 at*
  generalize decide ((kids.length:Int)=0)=m at*
  generalize decide ((0:Int)<=a)=u1 at*
  generalize decide (a<=5)=u2 at*
  generalize decide (b=0)=v at*
  generalize decide (f=[])=z at*
  generalize okW f=o at*
  cases q<;>cases p<;>cases l1<;>cases l2<;>cases m<;>cases u1<;>cases u2<;>cases v<;>cases z<;>cases o<;>first|rfl|simp_all
 by_cases k4:k=4
 .subst k4
  show jQK (true,1,1,1,2,false,0,0) 4 f ws a b kids P=_
  clear e1
  unfold jQK oneQ nilB
  rw[show wK 4=okW from rfl]
  dsimp only
  simp only[jxC]
  unfold inB
  generalize ws.all okW=q at*
  generalize kids.all P=p at*
  generalize decide ((ws.length:Int)=1)=l at*
  generalize decide ((kids.length:Int)=0)=m at*
  generalize decide ((1:Int)<=a)=u1 at*
  generalize decide (a<=2)=u2 at*
  generalize decide (b=0)=v at*
  generalize decide (f=[])=z at*
  generalize okW f=o at*
  cases q<;>cases p<;>cases l<;>cases m<;>cases u1<;>cases u2<;>cases v<;>cases z<;>cases o<;>first|rfl|simp_all
 by_cases k5:k=5
 .subst k5
  show jQK (true,1,1,0,0,false,0,0) 5 f ws a b kids P=_
  clear e1
  unfold jQK oneQ nilB
  rw[show wK 5=(fun w=>okG w&& !okW w)from rfl]
  dsimp only
  simp only[jxC]
  unfold inB
  generalize ws.all (fun w=>okG w&& !okW w)=q at*
  generalize kids.all P=p at*
  generalize decide ((ws.length:Int)=1)=l at*
  generalize decide ((kids.length:Int)=0)=m at*
  generalize decide (a=0)=u at*
  generalize decide (b=0)=v at*
  generalize decide (f=[])=z at*
  generalize okW f=o at*
  cases q<;>cases p<;>cases l<;>cases m<;>cases u<;>cases v<;>cases z<;>cases o<;>first|rfl|simp_all
 by_cases k6:k=6
 .subst k6
  show jQK (true,0,0,0,999999999,true,0,0) 6 f ws a b kids P=_
  rw[show wK 6=okW from rfl]at e1
  unfold jQK oneQ nilB
  rw[show wK 6=okW from rfl]
  dsimp only
  simp only[jxC]
  unfold inB
  generalize ws.all okW=q at*
  generalize kids.all P=p at*
  generalize decide ((ws.length:Int)=0)=l at*
  generalize decide ((kids.length:Int)=0)=m at*
  generalize decide ((0:Int)<=a)=u1 at*
  generalize decide (a<=999999999)=u2 at*
  generalize decide (a<=b)=v1 at*
  generalize decide (b<=999999999)=v2 at*
  generalize decide (f=[])=z at*
  generalize okW f=o at*
  cases q<;>cases p<;>cases l<;>cases m<;>cases u1<;>cases u2<;>cases v1<;>cases v2<;>cases z<;>cases o<;>first|rfl|simp_all
 by_cases k7:k=7
 .subst k7
  show jQK (false,0,0,0,0,false,2,4) 7 f ws a b kids P=_
  rw[show wK 7=okW from rfl]at e1
  clear e2
  unfold jQK oneQ nilB
  rw[show wK 7=okW from rfl]
  dsimp only
  simp only[jxC]
  unfold inB
  generalize ws.all okW=q at*
  generalize kids.all P=p at*
  generalize decide ((ws.length:Int)=0)=l at*
  generalize decide ((2:Int)<=kids.length)=m1 at*
  generalize decide ((kids.length:Int)<=4)=m2 at*
  generalize decide (a=0)=u at*
  generalize decide (b=0)=v at*
  generalize decide (f=[])=z at*
  generalize okW f=o at*
  cases q<;>cases p<;>cases l<;>cases m1<;>cases m2<;>cases u<;>cases v<;>cases z<;>cases o<;>first|rfl|simp_all
 by_cases k8:k=8
 .subst k8
  show jQK (false,0,0,0,0,false,2,4) 8 f ws a b kids P=_
  rw[show wK 8=okW from rfl]at e1
  clear e2
  unfold jQK oneQ nilB
  rw[show wK 8=okW from rfl]
  dsimp only
  simp only[jxC]
  unfold inB
  generalize ws.all okW=q at*
  generalize kids.all P=p at*
  generalize decide ((ws.length:Int)=0)=l at*
  generalize decide ((2:Int)<=kids.length)=m1 at*
  generalize decide ((kids.length:Int)<=4)=m2 at*
  generalize decide (a=0)=u at*
  generalize decide (b=0)=v at*
  generalize decide (f=[])=z at*
  generalize okW f=o at*
  cases q<;>cases p<;>cases l<;>cases m1<;>cases m2<;>cases u<;>cases v<;>cases z<;>cases o<;>first|rfl|simp_all
 by_cases k9:k=9
 .subst k9
  show jQK (false,0,0,0,0,false,2,2) 9 f ws a b kids P=_
  rw[show wK 9=okW from rfl]at e1
  clear e2
  unfold jQK oneQ nilB
  rw[show wK 9=okW from rfl]
  dsimp only
  simp only[jxC]
  unfold inB
  generalize ws.all okW=q at*
  generalize kids.all P=p at*
  generalize decide ((ws.length:Int)=0)=l at*
  generalize decide ((kids.length:Int)=2)=m at*
  generalize decide (a=0)=u at*
  generalize decide (b=0)=v at*
  generalize decide (f=[])=z at*
  generalize okW f=o at*
  cases q<;>cases p<;>cases l<;>cases m<;>cases u<;>cases v<;>cases z<;>cases o<;>first|rfl|simp_all
 by_cases k10:k=10
 .subst k10
  show jQK (false,0,0,2,9,false,1,1) 10 f ws a b kids P=_
  rw[show wK 10=okW from rfl]at e1
  clear e2
  unfold jQK oneQ nilB
  rw[show wK 10=okW from rfl]
  dsimp only
  simp only[jxC]
  unfold inB
  generalize ws.all okW=q at*
  generalize kids.all P=p at*
  generalize decide ((ws.length:Int)=0)=l at*
  generalize decide ((kids.length:Int)=1)=m at*
  generalize decide ((2:Int)<=a)=u1 at*
  generalize decide (a<=9)=u2 at*
  generalize decide (b=0)=v at*
  generalize decide (f=[])=z at*
  generalize okW f=o at*
  cases q<;>cases p<;>cases l<;>cases m<;>cases u1<;>cases u2<;>cases v<;>cases z<;>cases o<;>first|rfl|simp_all
 rw[jDh k1 k2 k3 k4 k5 k6 k7 k8 k9 k10]
 unfold oneQ
 simp only[zd k1,zd k2,zd k3,zd k4,zd k5,zd k6,zd k7,zd k8,zd k9,zd k10,Bool.or_false,ze,Bool.false_and]
 rfl
theorem jAo (N:Nat) (hM:Sm<N) (hN:N<=1099511627776):∀(n D:Nat),n<D->n<=1000->∀q,BQ n q->jxE N D q.kind q.field q.words q.lo q.hi q.kids (n:Int)=some (okQ n q)
 |0,D+1,_,_,q,_=>by
  rw[jxE]
  generalize mget (.int .i64) (.pair .bool (.pair (.int .i64) (.pair (.int .i64) (.pair (.int .i64) (.pair (.int .i64) (.pair .bool (.pair (.int .i64) (.int .i64)))))))) gm_shapes q.kind=o
  cases o<;>rfl
 |n+1,D+1,hD,hn,q,hq=>by
  have ih:=jAo N hM hN n D (by omega) (by omega)
  obtain⟨k,f,ws,a,b,kids⟩:=q
  obtain⟨h1,h2,h3,h4,h5⟩:=hq
  rw[show jxE N (D+1) (DQ.mk k f ws a b kids).kind (DQ.mk k f ws a b kids).field (DQ.mk k f ws a b kids).words (DQ.mk k f ws a b kids).lo (DQ.mk k f ws a b kids).hi (DQ.mk k f ws a b kids).kids ((n+1:Nat):Int)=jxE N (D+1) k f ws a b kids ((n+1:Nat):Int)from rfl,jDU N hM hN n D (by omega) ih k f ws a b kids h1 h2 h3 h4 h5,jAR,okQ]
theorem jyM {α:Type} (c:α) (p:List α):cut (c::p) 1 (((c::p).length:Nat):Int)=some p:=by
 unfold cut
 rw[zf ⟨by omega,by rw[zi];omega,zbD _⟩,zai,zq]
 rfl
theorem jyn (N:Nat):∀(D:Nat) (p s:List UInt8),p.length+s.length<D->∃b,jxG N D p s=some b/\jxB N D p s=some b
 |D+1,[],s,_=>⟨decide (s=[]),rfl,rfl⟩
 |D+1,c::p,s,h=>by
  have hp:idx (c::p) 0=some c:=rfl
  rw[jxG,jxB]
  simp only[zd (List.cons_ne_nil c p),ze,hp,za,jyM]
  have hl:p.length+s.length<D:=by rw[zi]at h;omega
  by_cases hc:(c.toNat:Int)=42
  .simp only [zb hc,zg]
   obtain⟨b,h1,h2⟩:=jyn N D p s hl
   rw[h1,h2]
   cases b with
   |true=>exact⟨true,rfl,rfl⟩
   |false=>
    match s,h with
    | [],_=>exact⟨false,rfl,rfl⟩
    |d::s,h=>
     obtain⟨b2,h3,h4⟩:=jyn N D (c::p) s (by simp only[zi]at h⊢;omega)
     simp only[za,ze,zd (List.cons_ne_nil d s),zaI,zg,jyM,h3,h4]
     exact⟨b2,rfl,rfl⟩
  .simp only [zd hc,ze]
   match s,h with
   | [],_=>exact⟨false,rfl,rfl⟩
   |d::s,h=>
    obtain⟨b,h1,h2⟩:=jyn N D p s (by simp only[zi]at h⊢;omega)
    have hd:idx (d::s) 0=some d:=rfl
    simp only[zd (List.cons_ne_nil d s),ze,zaI,zg,za,jyM,hd,h1,h2]
    cases decide ((c.toNat:Int)=63)with
    |true=>exact⟨b,rfl,rfl⟩
    |false=>
     cases decide ((c.toNat:Int)=(d.toNat:Int))with
     |true=>exact⟨b,rfl,rfl⟩
     |false=>exact⟨false,rfl,rfl⟩
theorem segTerms_spec (N:Nat) (s:ESeg) (field:List UInt8) (hl:s.2.length<N) (hl2:s.2.length<=1000000):i_Seg_terms_m N s field=some ((inField field s.2).map fun e=>e.2.1):=by
 refine Def.get ?_
 unfold i_Seg_terms_m
 refine Def.upto s.2.length (fun n g=>g=(field,(inField field (s.2.take n)).map (fun e=>e.2.1),s.2,(s.2.length:Int),(n:Int))) (fun go g hg=>?_) (fun go n g hn hg hgo=>?_) N 0 _ (zaf _) rfl (by omega)
 .subst hg
  dsimp only
  rw[zd (zcd _),ze,zq]
  exact Def.ret rfl
 .subst hg
  dsimp only
  have hil:(inField field (s.2.take n)).length<=n:=zau (zbh _ _) (by rw[zah];omega)
  have hf:=fits_nat (n:=n) (by omega)
  rw[zb (by omega:(n:Int)<s.2.length),zg,idx_at hn,za]
  have hs:inField field (s.2.take (n+1))=inField field (s.2.take n)++(if s.2[n].1=field then [s.2[n]]else []):=by
   unfold inField
   rw[zo hn,za6]
   by_cases h:s.2[n].1=field
   .simp [h]
   .simp [h]
  by_cases h:s.2[n].1=field
  .rw [zb h,zg,zf (room_of (by rw[zar];simp only[zi,zac];omega) (by rw[zar];simp only[zi,zac];omega)),zf hf]
   refine hgo _ ?_
   rw[hs,zf h,zaK,cast_succ']
   rfl
  .rw [zd h,ze,zf hf]
   refine hgo _ ?_
   rw[hs,zu h,zat,cast_succ']
def trms (s:ESeg) (field:List UInt8):List (List UInt8):=(inField field s.2).map fun e=>e.2.1
theorem trms_ok (N:Nat) {c:EConf} {s:ESeg} (g:GoodS N c s) (field:List UInt8):(trms s field).length<=7680/\∀t,t∈trms s field->okW t=true:=by
 refine⟨?_,fun t ht=>?_⟩
 .unfold trms
  rw[zar]
  exact zau (zbh _ _) g.small.1
 .obtain ⟨e,he,rfl⟩:=zab.1 ht
  have:=(zaZ.1 he).1
  rw[g.ent]at this
  exact entries_ok c (okSeg_ok g.ok).1 g.dok e this
theorem far_pos (a b:List UInt8):0<=far a b:=((farRows_in a b a.length).at b.length).1
def nearV (c:EConf) (docs:List EDoc) (field w:List UInt8) (id:Int) (t:List UInt8):Int:=((ptsF c docs field t id:Int)*(3-far t w)).tdiv 3
def nearS (c:EConf) (docs:List EDoc) (field w:List UInt8) (slop id:Int) (best:Int) (t:List UInt8):Int:=bif decide (far t w<=slop)then(if best<nearV c docs field w id t then nearV c docs field w id t else best)else best
def nearF (c:EConf) (s:ESeg) (field w:List UInt8) (slop id:Int):Int:=(trms s field).foldl (nearS c s.1 field w slop id) 0
theorem nearV_in (c:EConf) {docs:List EDoc} (hd:DOk docs) (field w:List UInt8) (slop id:Int) (hs:slop<=2) (t:List UInt8) (h:far t w<=slop):0<=(ptsF c docs field t id:Int)*(3-far t w)/\(ptsF c docs field t id:Int)*(3-far t w)<=26400000/\0<=nearV c docs field w id t/\nearV c docs field w id t<=8800000:=by
 have h1:=ptsF_le c hd field t id
 have h2:=far_pos t w
 have h0:0<=(ptsF c docs field t id:Int)*(3-far t w):=Int.mul_nonneg (by omega) (by omega)
 have h3:(ptsF c docs field t id:Int)*(3-far t w)<=8800000*3:=Int.mul_le_mul (by omega) (by omega) (by omega) (by omega)
 refine⟨h0,by omega,?_,?_⟩
 .unfold nearV
  rw[zbW h0]
  omega
 .unfold nearV
  rw[zbW h0]
  omega
theorem jDF (c:EConf) {docs:List EDoc} (hd:DOk docs) (field w:List UInt8) (slop id:Int) (hs:slop<=2) (best:Int) (hb:0<=best/\best<=8800000) (t:List UInt8):0<=nearS c docs field w slop id best t/\nearS c docs field w slop id best t<=8800000:=by
 unfold nearS
 by_cases h:far t w<=slop
 .have:=nearV_in c hd field w slop id hs t h
  rw[zb h,zg]
  split<;>omega
 .rw [zd h,ze]
  exact hb
theorem nearFold_in (c:EConf) {docs:List EDoc} (hd:DOk docs) (field w:List UInt8) (slop id:Int) (hs:slop<=2):∀(l:List (List UInt8)) (best:Int),0<=best/\best<=8800000->0<=l.foldl (nearS c docs field w slop id) best/\l.foldl (nearS c docs field w slop id) best<=8800000
 | [],_,hb=>hb
 |t::l,best,hb=>nearFold_in c hd field w slop id hs l _ (jDF c hd field w slop id hs best hb t)
theorem jyR {β:Type} (field:List UInt8) (f:β->List UInt8->β):∀(es:List EEntry) (b:β),(es.foldl (fun a e=>bif decide (e.1=field)then f a e.2.1 else a) b)=((inField field es).map fun e=>e.2.1).foldl f b
 | [],_=>rfl
 |e::l,b=>by
  have ih:=jyR field f l
  unfold inField at ih⊢
  rw[zaq,ih]
  cases h:decide (e.1=field)
  .rw [List.filter_cons_of_neg (p:=fun e:EEntry=>decide (e.1=field)) (by rw[h];decide),ze]
  .rw [List.filter_cons_of_pos (p:=fun e:EEntry=>decide (e.1=field)) h,zg]
   rfl
theorem l12Near_spec (N:Nat) {c:EConf} {s:ESeg} (g:GoodS N c s) (q:Int) (q2 w:List UInt8) (q4 q5:Int) (q6:List DQ) (id:Int) (hw:okW w=true) (h4:q4<=2):jx5 N s.1 s.2 q q2 [w] q4 q5 q6 id=some (nearF c s q2 w q4 id):=by
 have hM:=g.m
 have hN:=g.top
 have hsl:=g.small.1
 have hwl:=((okW_iff w).1 hw).2.2
 have key:nearF c s q2 w q4 id=s.2.foldl (fun a e=>bif decide (e.1=q2)then nearS c s.1 q2 w q4 id a e.2.1 else a) 0:=(jyR q2 (nearS c s.1 q2 w q4 id) s.2 0).symm
 have hin:∀n,0<=(s.2.take n).foldl (fun a e=>bif decide (e.1=q2)then nearS c s.1 q2 w q4 id a e.2.1 else a) 0/\(s.2.take n).foldl (fun a e=>bif decide (e.1=q2)then nearS c s.1 q2 w q4 id a e.2.1 else a) 0<=8800000:=fun n=>by
  rw[jyR]
  exact nearFold_in c g.dok q2 w q4 id h4 _ 0 (by omega)
 unfold jx5
 rw[key]
 refine(iter_scan _ s.2.length (fun n=>(id,(s.2.take n).foldl (fun a e=>bif decide (e.1=q2)then nearS c s.1 q2 w q4 id a e.2.1 else a) 0,(n:Int),s.1,s.2,q,q2,[w],q4,q5,q6)) (fun n=>some (s.2.foldl (fun a e=>bif decide (e.1=q2)then nearS c s.1 q2 w q4 id a e.2.1 else a) 0)) (fun go=>?_) (fun go n hn hgo=>?_) N 0 (zaf _) (by omega)).trans rfl
 .dsimp only
  rw[zd (zcd _),ze,zq]
 .dsimp only
  have hb:=hin n
  have hf:fits ((n:Int)+1):=fits_nat (by omega)
  have hm:s.2[n]∈entriesS c s.1:=by rw[<-g.ent];exact zr hn
  have htl:=((okW_iff _).1 (entries_ok c (okSeg_ok g.ok).1 g.dok _ hm)).2.2
  have e0:idx [w] (0:Int)=some w:=rfl
  simp only[cast_succ',foldl_step _ _ _ _ hn]at hgo
  generalize(s.2.take n).foldl (fun a e=>bif decide (e.1=q2)then nearS c s.1 q2 w q4 id a e.2.1 else a) 0=best at*
  rw[zb (by omega:(n:Int)<s.2.length),zg,idx_at hn,za,e0,za,l5Far_spec N s.2[n].2.1 w (by omega) (by omega) (by omega),za]
  simp only[zf hf]
  by_cases he:s.2[n].1=q2
  .rw [zb he,zg]at hgo
   rw[zb he,zn,ze]
   unfold nearS at hgo
   by_cases hfar:far s.2[n].2.1 w<=q4
   .have hv:=nearV_in c g.dok q2 w q4 id h4 _ hfar
    have hp:=far_pos s.2[n].2.1 w
    rw[zb hfar,zg]at hgo
    rw[zd (by omega),ze,l12Points_spec N g q2 s.2[n].2.1 id,za,zf (by unfold fits;omega),zf (fits_abs (by omega) (by omega)),zf (by decide)]
    have e:((ptsF c s.1 q2 s.2[n].2.1 id:Int)*(3-far s.2[n].2.1 w)).tdiv 3=nearV c s.1 q2 w id s.2[n].2.1:=rfl
    rw[e,zf (fits_abs (by omega) (by omega))]
    by_cases hlt:best<nearV c s.1 q2 w id s.2[n].2.1
    .rw [zf hlt]at hgo
     rw[zb hlt,zg]
     exact hgo
    .rw [zu hlt]at hgo
     rw[zd hlt,ze]
     exact hgo
   .rw [zd hfar,ze]at hgo
    rw[zb (by omega),zg]
    exact hgo
  .rw [zd he,ze]at hgo
   rw[zd he,zaI,zg]
   exact hgo
def gHas (N:Nat) (p t:List UInt8):Bool:=(jxB N N p t).getD false
theorem jzC (N:Nat) (p t:List UInt8) (h:p.length+t.length<N):jxB N N p t=some (gHas N p t)/\jxG N N p t=some (gHas N p t):=by
 obtain⟨b,h1,h2⟩:=jyn N N p t h
 unfold gHas
 rw[h2]
 exact⟨rfl,h1⟩
theorem globHas_spec (N:Nat) (hN:N<=1099511627776) (p t:List UInt8) (h:p.length+t.length<N) (hp:okG p=true) (ht:okW t=true):jx0 N p t=some (gHas N p t):=by
 unfold jx0
 rw[jzB N p (by omega) hN,za,hp,zg,wordOk_spec N t (by omega) hN,za,ht,zg,(jzC N p t h).2,za]
def globT (N:Nat) (c:EConf) (docs:List EDoc) (field p:List UInt8) (id:Int) (t:List UInt8):Bool:=gHas N p t&&decide ((0:Int)<(atS c docs (field,t) id).length)
def globF (N:Nat) (c:EConf) (s:ESeg) (field p:List UInt8) (id:Int):Bool:=(trms s field).any (globT N c s.1 field p id)
theorem jAf (field:List UInt8) (f:List UInt8->Bool):∀es:List EEntry,es.any (fun e=>decide (e.1=field)&&f e.2.1)=((inField field es).map fun e=>e.2.1).any f
 | []=>rfl
 |e::l=>by
  have ih:=jAf field f l
  unfold inField at ih⊢
  rw[List.any_cons,ih]
  cases h:decide (e.1=field)
  .rw [List.filter_cons_of_neg (p:=fun e:EEntry=>decide (e.1=field)) (by rw[h];decide),Bool.false_and,zbf]
  .rw [List.filter_cons_of_pos (p:=fun e:EEntry=>decide (e.1=field)) h,zaj]
   rfl
theorem any_scan {α δ ρ:Type} (F:(δ->Option ρ)->δ->Option ρ) (xs:List α) (st:Nat->δ) (p:α->Bool) (yes no:Option ρ) (hend:∀go,F go (st xs.length)=no)
  (hstep:∀go n (hn:n<xs.length),F go (st n)=bif p xs[n]then yes else go (st (n+1))) (N:Nat) (h:xs.length<N):iter F N (st 0)=bif xs.any p then yes else no:=by
 refine(iter_scan F xs.length st (fun n=>bif(xs.drop n).any p then yes else no) (fun go=>by rw[hend,zbp];rfl) (fun go n hn hgo=>?_) N 0 (zaf _) (by omega)).trans (by rw[zbQ])
 rw[hstep go n hn,hgo,zan hn,List.any_cons]
 cases p xs[n]<;>rfl
theorem l12Glob_spec (N:Nat) {c:EConf} {s:ESeg} (g:GoodS N c s) (q:Int) (q2 w:List UInt8) (q4 q5:Int) (q6:List DQ) (id:Int) (hw:w.length<=12):jyd N s.1 s.2 q q2 [w] q4 q5 q6 id=some (globF N c s q2 w id):=by
 have hM:=g.m
 have hN:=g.top
 have hsl:=g.small.1
 unfold jyd globF trms
 rw[<-jAf]
 refine(any_scan _ s.2 (fun n=>(id,(n:Int),s.1,s.2,q,q2,[w],q4,q5,q6)) (fun e=>decide (e.1=q2)&&globT N c s.1 q2 w id e.2.1) (some true) (some false) (fun go=>?_) (fun go n hn=>?_) N (by omega)).trans (by cases s.2.any (fun e=>decide (e.1=q2)&&globT N c s.1 q2 w id e.2.1)<;>rfl)
 .dsimp only
  rw[zd (zcd _),ze]
 .dsimp only
  have hf:fits ((n:Int)+1):=fits_nat (by omega)
  have hm:s.2[n]∈entriesS c s.1:=by rw[<-g.ent];exact zr hn
  have htl:=((okW_iff _).1 (entries_ok c (okSeg_ok g.ok).1 g.dok _ hm)).2.2
  have e0:idx [w] (0:Int)=some w:=rfl
  unfold globT
  rw[zb (by omega:(n:Int)<s.2.length),zg,idx_at hn,za,e0,za,(jzC N w s.2[n].2.1 (by omega)).1,za,l12At_spec N g q2 s.2[n].2.1 id,za,cast_succ']
  simp only[zf hf]
  cases decide (s.2[n].1=q2)<;>cases gHas N w s.2[n].2.1<;>cases decide ((0:Int)<(atS c s.1 (q2,s.2[n].2.1) id).length)<;>rfl
theorem l12Doc_spec (N:Nat) {c:EConf} {s:ESeg} (g:GoodS N c s) (id:Int):jyv N s.1 s.2 id=some ((docOf s.1 id).getD (0,[],[])):=by
 have hM:=g.m
 have hN:=g.top
 have hfew:=g.dok.few
 unfold jyv docOf
 refine scan_find _ s.1 (fun n=>(id,(n:Int),s.1,s.2,(0:Int))) (fun d=>decide (d.1=id)) (fun d=>d) (0,[],[]) _ _ rfl (by cases s.1.find? fun d=>decide (d.1=id)<;>rfl) (fun go=>?_) (fun go n hn=>?_) N (by omega)
 .dsimp only
  rw[zd (zcd _),ze]
 .dsimp only
  rw[zb (by omega:(n:Int)<s.1.length),zg,idx_at hn,za,za,zf (fits_nat (n:=n) (by omega)),cast_succ']
def valS (N D:Nat) (c:EConf) (s:ESeg) (d:EDoc) (q:DQ):Int:=(s_l12Score_m N D c.1 c.2 s.1 s.2 q.kind q.field q.words q.lo q.hi q.kids d.1).getD 0
def bnd :Nat->Int
 |0=>4224000000
 |k+1=>9*bnd k
theorem bnd_in :∀k:Nat,k<=4->4224000000<=bnd k/\bnd k<=30000000000000
 |0,_=>by decide
 |1,_=>by decide
 |2,_=>by decide
 |3,_=>by decide
 |4,_=>by decide
 |k+5,h=>by omega
structure Both (N D:Nat) (c:EConf) (s:ESeg) (d:EDoc) (B:Int) (kind:Int) (f:List UInt8) (ws:List (List UInt8)) (a b:Int) (kids:List DQ) (v:Int):Prop where
 ref:s_l12Score_m N D c.1 c.2 s.1 s.2 kind f ws a b kids d.1=some v
 eng:i_scorer_score_m N D (c,s) kind f ws a b kids d.1 d.2.1 d.2.2=some v
 low:0<=v
 top:v<=B
theorem both_all (N D:Nat) {c:EConf} {s:ESeg} (d:EDoc) (f:List UInt8) (ws:List (List UInt8)) (a b:Int) (kids:List DQ):Both N (D+1) c s d 4224000000 1 f ws a b kids 100:=⟨rfl,rfl,by decide,by decide⟩
theorem both_term (N D:Nat) {c:EConf} {s:ESeg} (g:GoodS N c s) (d:EDoc) (f w:List UInt8) (a b:Int) (kids:List DQ) (hw:okW w=true):Both N (D+1) c s d 4224000000 2 f [w] a b kids (ptsF c s.1 f (termF c w) d.1):=by
 have hM:=g.m
 have hN:=g.top
 have hp:=ptsF_le c g.dok f (termF c w) d.1
 have e0:idx [w] (0:Int)=some w:=rfl
 refine⟨?_,?_,by omega,by omega⟩
 .rw [s_l12Score_m,zd (by decide),ze,zb rfl,zg,e0,za,sTermOf_spec N c w hM (by omega) g.oc (okSeg_ok g.ok).1 hw,za,l12Points_spec N g,za]
 .rw [i_scorer_score_m,zd (by decide),ze,zb rfl,zg,e0,za]
  dsimp only
  rw[iTermOf_spec N c w hM (by omega) g.oc (okSeg_ok g.ok).1 hw,za,points_spec N g,za]
theorem both_phrase (N D:Nat) {c:EConf} {s:ESeg} (g:GoodS N c s) (d:EDoc) (f:List UInt8) (ws:List (List UInt8)) (a b:Int) (kids:List DQ) (hw:∀w,w∈ws->okW w=true) (hl:ws.length<=4):Both N (D+1) c s d 4224000000 3 f ws a b kids (phraseF c s.1 f ws a d.1):=by
 have hp:=phraseF_le c g.dok f ws hw hl a d.1
 refine⟨?_,?_,by omega,by omega⟩
 .rw [s_l12Score_m,zd (by decide),ze,zd (by decide),ze,zb rfl,zg,l12Phrase_spec N g 3 f ws a b kids d.1 hw hl,za]
 .rw [i_scorer_score_m,zd (by decide),ze,zd (by decide),ze,zb rfl,zg,iPhrasePts_spec N g 3 f ws a b kids d.1 d.2.1 d.2.2 hw hl,za]
theorem both_near (N D:Nat) {c:EConf} {s:ESeg} (g:GoodS N c s) (d:EDoc) (f w:List UInt8) (a b:Int) (kids:List DQ) (hw:okW w=true) (ha:a<=2):Both N (D+1) c s d 4224000000 4 f [w] a b kids (nearF c s f w a d.1):=by
 have hM:=g.m
 have hN:=g.top
 have hp:0<=nearF c s f w a d.1/\nearF c s f w a d.1<=8800000:=nearFold_in c g.dok f w a d.1 ha _ 0 (by omega)
 obtain⟨hl,hok⟩:=trms_ok N g f
 have hwl:=((okW_iff w).1 hw).2.2
 have e0:idx [w] (0:Int)=some w:=rfl
 have hs0:i_Seg_terms_m N s f=some (trms s f):=segTerms_spec N s f (by have:=g.small.1;omega) (by have:=g.small.1;omega)
 refine⟨?_,?_,hp.1,by omega⟩
 .rw [s_l12Score_m,zd (by decide),ze,zd (by decide),ze,zd (by decide),ze,zb rfl,zg,l12Near_spec N g 4 f w a b kids d.1 hw ha,za]
 .rw [i_scorer_score_m,zd (by decide),ze,zd (by decide),ze,zd (by decide),ze,zb rfl,zg]
  dsimp only
  rw[hs0,za]
  have hin:∀n,0<=((trms s f).take n).foldl (nearS c s.1 f w a d.1) 0/\((trms s f).take n).foldl (nearS c s.1 f w a d.1) 0<=8800000:=fun n=>nearFold_in c g.dok f w a d.1 ha _ 0 (by omega)
  unfold nearF
  generalize trms s f=ts at*
  refine(iter_scan _ ts.length (fun n=>((c,s),(ts.take n).foldl (nearS c s.1 f w a d.1) 0,ts,(ts.length:Int),(n:Int),4,f,[w],a,b,kids,d.1,d.2.1,d.2.2)) (fun n=>some (ts.foldl (nearS c s.1 f w a d.1) 0)) (fun go=>?_) (fun go n hn hgo=>?_) N 0 (zaf _) (by omega)).trans rfl
  .dsimp only
   rw[zd (zcd _),ze,zq]
  .dsimp only
   have hb:=hin n
   have hf:fits ((n:Int)+1):=fits_nat (by omega)
   have ho:=hok _ (zr hn)
   have htl:=((okW_iff _).1 ho).2.2
   have hfp:=far_pos ts[n] w
   simp only[cast_succ',foldl_step _ _ _ _ hn]at hgo
   generalize(ts.take n).foldl (nearS c s.1 f w a d.1) 0=best at*
   rw[zb (by omega:(n:Int)<ts.length),zg,idx_at hn,za,e0,za,nearFar_spec N ts[n] w (by omega) (by omega) (by omega) (by omega),ho,hw,zaV,zg,za,within_spec,za,zb hfp,zaj]
   simp only[zf hf]
   unfold nearS at hgo
   by_cases hfar:far ts[n] w<=a
   .have hv:=nearV_in c g.dok f w a d.1 ha _ hfar
    rw[zb hfar,zg]at hgo
    rw[zb hfar,zg,points_spec N g f ts[n] d.1,za,zf (by unfold fits;omega),zf (fits_abs (by omega) (by omega)),zf (by decide)]
    have e:((ptsF c s.1 f ts[n] d.1:Int)*(3-far ts[n] w)).tdiv 3=nearV c s.1 f w d.1 ts[n]:=rfl
    rw[e,zf (fits_abs (by omega) (by omega))]
    exact hgo
   .rw [zd hfar,ze]at hgo
    rw[zd hfar,ze]
    exact hgo
theorem both_glob (N D:Nat) {c:EConf} {s:ESeg} (g:GoodS N c s) (d:EDoc) (f w:List UInt8) (a b:Int) (kids:List DQ) (hw:okG w=true) (hwl:w.length<=12):Both N (D+1) c s d 4224000000 5 f [w] a b kids (bif globF N c s f w d.1 then 100 else 0):=by
 have hM:=g.m
 have hN:=g.top
 obtain⟨hl,hok⟩:=trms_ok N g f
 have e0:idx [w] (0:Int)=some w:=rfl
 have hs0:i_Seg_terms_m N s f=some (trms s f):=segTerms_spec N s f (by have:=g.small.1;omega) (by have:=g.small.1;omega)
 refine⟨?_,?_,by cases globF N c s f w d.1<;>decide,by cases globF N c s f w d.1<;>decide⟩
 .rw [s_l12Score_m,zd (by decide),ze,zd (by decide),ze,zd (by decide),ze,zd (by decide),ze,zb rfl,zg,l12Glob_spec N g 5 f w a b kids d.1 hwl,za]
  cases globF N c s f w d.1<;>rfl
 .rw [i_scorer_score_m,zd (by decide),ze,zd (by decide),ze,zd (by decide),ze,zd (by decide),ze,zb rfl,zg]
  dsimp only
  rw[hs0,za]
  unfold globF
  generalize trms s f=ts at*
  refine(any_scan _ ts (fun n=>((c,s),ts,(ts.length:Int),(n:Int),5,f,[w],a,b,kids,d.1,d.2.1,d.2.2)) (globT N c s.1 f w d.1) (some 100) (some 0) (fun go=>?_) (fun go n hn=>?_) N (by omega)).trans (by cases ts.any (globT N c s.1 f w d.1)<;>rfl)
  .dsimp only
   rw[zd (zcd _),ze]
  .dsimp only
   have hf:fits ((n:Int)+1):=fits_nat (by omega)
   have ho:=hok _ (zr hn)
   have htl:=((okW_iff _).1 ho).2.2
   unfold globT
   rw[zb (by omega:(n:Int)<ts.length),zg,idx_at hn,za,e0,za,globHas_spec N (by omega) w ts[n] (by omega) hw ho,za,places_spec N g c f ts[n] d.1,za,cast_succ']
   simp only[zf hf]
   cases gHas N w ts[n]<;>cases decide ((0:Int)<(atS c s.1 (f,ts[n]) d.1).length)<;>rfl
def rangeF (d:EDoc) (f:List UInt8) (a b:Int):Int:=bif decide (a<=numF d.2.2 f)&&decide (numF d.2.2 f<=b)then 100 else 0
theorem both_range (N D:Nat) {c:EConf} {s:ESeg} (g:GoodS N c s) (d:EDoc) (hd:docOf s.1 d.1=some d) (f:List UInt8) (ws:List (List UInt8)) (a b:Int) (kids:List DQ):Both N (D+1) c s d 4224000000 6 f ws a b kids (rangeF d f a b):=by
 have hM:=g.m
 have hN:=g.top
 have hm:=zbe hd
 have hk:=okDoc_each (okSeg_docs g.ok) d hm
 have hl:=(okDoc_text hk).2.1
 unfold rangeF
 refine⟨?_,?_,by cases decide (a<=numF d.2.2 f)&&decide (numF d.2.2 f<=b)<;>decide,by cases decide (a<=numF d.2.2 f)&&decide (numF d.2.2 f<=b)<;>decide⟩
 .rw [s_l12Score_m,zd (by decide),ze,zd (by decide),ze,zd (by decide),ze,zd (by decide),ze,zd (by decide),ze,zb rfl,zg,l12Doc_spec N g d.1,hd,za8,za,l6Num_spec N hM (by omega) d.1 d.2.1 d.2.2 f (by omega),za,l1In_spec,za]
  cases decide (a<=numF d.2.2 f)&&decide (numF d.2.2 f<=b)<;>rfl
 .rw [i_scorer_score_m,zd (by decide),ze,zd (by decide),ze,zd (by decide),ze,zd (by decide),ze,zd (by decide),ze,zb rfl,zg,docNum_spec N hM (by omega) d.1 d.2.1 d.2.2 f (g.od d hm) hk (by omega),za,within_spec,za]
  cases decide (a<=numF d.2.2 f)&&decide (numF d.2.2 f<=b)<;>rfl
abbrev BothQ (N D:Nat) (c:EConf) (s:ESeg) (d:EDoc) (B:Int) (q:DQ) (v:Int):Prop:=Both N D c s d B q.kind q.field q.words q.lo q.hi q.kids v
theorem Both.mono {N D:Nat} {c:EConf} {s:ESeg} {d:EDoc} {B B':Int} {kind:Int} {f:List UInt8} {ws:List (List UInt8)} {a b:Int} {kids:List DQ} {v:Int} (h:Both N D c s d B kind f ws a b kids v) (hB:B<=B'):Both N D c s d B' kind f ws a b kids v:=⟨h.ref,h.eng,h.low,Int.le_trans h.top hB⟩
theorem both_times (N D:Nat) {c:EConf} {s:ESeg} (d:EDoc) (f:List UInt8) (ws:List (List UInt8)) (a b:Int) (x:DQ) (B v:Int) (hB:B<=30000000000000) (h:BothQ N D c s d B x v) (ha:2<=a/\a<=9):Both N (D+1) c s d (9*B) 10 f ws a b [x] (a*v):=by
 have h1:=h.low
 have h2:=h.top
 have h3:0<=a*v:=Int.mul_nonneg (by omega) h1
 have h4:a*v<=9*B:=Int.mul_le_mul (by omega) h2 h1 (by omega)
 have hf:fits (a*v):=fits_abs (by omega) (by omega)
 have e0:idx [x] (0:Int)=some x:=rfl
 refine⟨?_,?_,h3,h4⟩
 .rw [s_l12Score_m,zd (by decide),ze,zd (by decide),ze,zd (by decide),ze,zd (by decide),ze,zd (by decide),ze,zd (by decide),ze,zb rfl,zg,e0,za,h.ref,za,zf hf]
 .rw [i_scorer_score_m,zd (by decide),ze,zd (by decide),ze,zd (by decide),ze,zd (by decide),ze,zd (by decide),ze,zd (by decide),ze,zb rfl,zg,e0,za,h.eng,za,zf hf]
theorem both_less (N D:Nat) {c:EConf} {s:ESeg} (d:EDoc) (f:List UInt8) (ws:List (List UInt8)) (a b:Int) (x y:DQ) (B v w:Int) (h:BothQ N D c s d B x v) (hy:BothQ N D c s d B y w):Both N (D+1) c s d B 9 f ws a b [x,y] (bif decide (0<w)then 0 else v):=by
 have e0:idx [x,y] (0:Int)=some x:=rfl
 have e1:idx [x,y] (1:Int)=some y:=rfl
 have h1:=h.low
 have h2:=h.top
 refine⟨?_,?_,?_,?_⟩
 .rw [s_l12Score_m,zd (by decide),ze,zd (by decide),ze,zd (by decide),ze,zd (by decide),ze,zd (by decide),ze,zd (by decide),ze,zd (by decide),ze,zb rfl,zg,e1,za,hy.ref,za,e0,za,h.ref,za]
  cases decide (0<w)<;>rfl
 .rw [i_scorer_score_m,zd (by decide),ze,zd (by decide),ze,zd (by decide),ze,zd (by decide),ze,zd (by decide),ze,zd (by decide),ze,zd (by decide),ze,zb rfl,zg,e1,za,hy.eng,za,e0,za,h.eng,za]
  cases decide (0<w)<;>rfl
 .cases decide (0<w)
  .exact h1
  .exact zbD _
 .cases decide (0<w)
  .exact h2
  .exact Int.le_trans h1 h2
def sumV (V:DQ->Int) (l:List DQ):Int:=l.foldl (fun a x=>a+V x) 0
theorem sumV_in (V:DQ->Int) (B:Int) (l:List DQ) (h:∀x,x∈l->0<=V x/\V x<=B):∀n,n<=l.length->0<=sumV V (l.take n)/\sumV V (l.take n)<=n*B
 |0,_=>⟨zbD _,by show(0:Int)<=((0:Nat):Int)*B;rw[show((0:Nat):Int)=0 from rfl,Int.zero_mul];exact zbD _⟩
 |n+1,hn=>by
  have ih:=sumV_in V B l h n (by omega)
  have hx:=h _ (zr (show n<l.length from hn))
  unfold sumV at ih⊢
  rw[foldl_step _ _ _ _ (show n<l.length from hn),cast_succ',Int.add_mul,Int.one_mul]
  exact⟨by omega,by omega⟩
def manyF (V:DQ->Int) (kind:Int) (kids:List DQ):Int:=bif kids.any (fun x=>decide (V x=0)&&decide (kind=7))then 0 else sumV V kids
theorem both_many (N D:Nat) (hN:1048576<N) {c:EConf} {s:ESeg} (d:EDoc) (kind:Int) (hk:kind=7\/kind=8) (f:List UInt8) (ws:List (List UInt8)) (a b:Int) (kids:List DQ) (hl:kids.length<=4) (V:DQ->Int) (B:Int) (hB:0<=B) (hB2:B<=30000000000000) (h:∀x,x∈kids->BothQ N D c s d B x (V x)):Both N (D+1) c s d (9*B) kind f ws a b kids (manyF V kind kids):=by
 have hV:∀x,x∈kids->0<=V x/\V x<=B:=fun x hx=>⟨(h x hx).low,(h x hx).top⟩
 have hs:=sumV_in V B kids hV
 have hall:=hs kids.length (zae _)
 rw[zq]at hall
 have hmul:∀n:Nat,n<=4->(n:Int)*B<=4*B:=fun n hn=>Int.mul_le_mul_of_nonneg_right (by omega) hB
 have h4:=hmul kids.length hl
 have hb:0<=manyF V kind kids/\manyF V kind kids<=9*B:=by
  unfold manyF
  cases kids.any (fun x=>decide (V x=0)&&decide (kind=7))
  .exact ⟨hall.1,by rw[ze];omega⟩
  .exact ⟨zbD _,by rw[zg];omega⟩
 have key:∀ {δ:Type} (F:(δ->Option Int)->δ->Option Int) (st:Nat->δ),(∀go,F go (st kids.length)=some (sumV V kids))->(∀go n (hn:n<kids.length),F go (st n)=bif decide (V kids[n]=0)&&decide (kind=7)then some 0 else go (st (n+1)))->iter F N (st 0)=some (manyF V kind kids):=fun F st h1 h2=>by
  refine(any_scan F kids st (fun x=>decide (V x=0)&&decide (kind=7)) (some 0) (some (sumV V kids)) h1 h2 N (by omega)).trans ?_
  unfold manyF
  cases kids.any (fun x=>decide (V x=0)&&decide (kind=7))<;>rfl
 refine⟨?_,?_,hb.1,hb.2⟩
 .rw [s_l12Score_m,zd (by omega),ze,zd (by omega),ze,zd (by omega),ze,zd (by omega),ze,zd (by omega),ze,zd (by omega),ze,zd (by omega),ze,zd (by omega),ze]
  refine key _ (fun n=>(d.1,sumV V (kids.take n),(n:Int),c.1,c.2,s.1,s.2,kind,f,ws,a,b,kids)) (fun go=>?_) (fun go n hn=>?_)
  .dsimp only
   rw[zd (zcd _),ze,zq]
  .dsimp only
   have hx:=h _ (zr hn)
   have hxl:=hx.low
   have hxt:=hx.top
   have hsn:=hs n (by omega)
   have hmn:=hmul n (by omega)
   have e:sumV V (kids.take (n+1))=sumV V (kids.take n)+V kids[n]:=by unfold sumV;rw[foldl_step _ _ _ _ hn]
   rw[zb (by omega:(n:Int)<kids.length),zg,idx_at hn,za,hx.ref,za,e,cast_succ']
   generalize sumV V (kids.take n)=t at*
   generalize V kids[n]=v at*
   simp only[zf (show fits (t+v)from fits_abs (by omega) (by omega)),zf (fits_nat (n:=n) (by omega))]
   cases decide (v=0)<;>cases decide (kind=7)<;>rfl
 .rw [i_scorer_score_m,zd (by omega),ze,zd (by omega),ze,zd (by omega),ze,zd (by omega),ze,zd (by omega),ze,zd (by omega),ze,zd (by omega),ze,zd (by omega),ze]
  refine key _ (fun n=>((c,s),sumV V (kids.take n),kids,(kids.length:Int),(n:Int),kind,f,ws,a,b,kids,d.1,d.2.1,d.2.2)) (fun go=>?_) (fun go n hn=>?_)
  .dsimp only
   rw[zd (zcd _),ze,zq]
  .dsimp only
   have hx:=h _ (zr hn)
   have hxl:=hx.low
   have hxt:=hx.top
   have hsn:=hs n (by omega)
   have hmn:=hmul n (by omega)
   have e:sumV V (kids.take (n+1))=sumV V (kids.take n)+V kids[n]:=by unfold sumV;rw[foldl_step _ _ _ _ hn]
   rw[zb (by omega:(n:Int)<kids.length),zg,idx_at hn,za,hx.eng,za,e,cast_succ']
   generalize sumV V (kids.take n)=t at*
   generalize V kids[n]=v at*
   simp only[zf (show fits (t+v)from fits_abs (by omega) (by omega)),zf (fits_nat (n:=n) (by omega))]
   cases decide (v=0)<;>cases decide (kind=7)<;>rfl
theorem two_list {α:Type} {xs:List α} (h:(xs.length:Int)=2):∃x y,xs=[x,y]:=by
 match xs,h with
 | [x,y],_=>exact⟨x,y,rfl⟩
theorem one_list' {α:Type} {xs:List α} (h:(xs.length:Int)=1):∃x,xs=[x]:=by
 match xs,h with
 | [x],_=>exact⟨x,rfl⟩
theorem score_ex (N:Nat) {c:EConf} {s:ESeg} (g:GoodS N c s) (d:EDoc) (hd:docOf s.1 d.1=some d):∀k:Nat,k<=4->∀q:DQ,okQ k q=true->∀D,k<D->∃v,BothQ N D c s d (bnd k) q v
 |0,_,q,hq,_,_=>by rw[okQ]at hq;cases hq
 |k+1,hk,.mk kind f ws a b kids,hq,0,hD=>by omega
 |k+1,hk,.mk kind f ws a b kids,hq,D+1,hD=>by
  rw[okQ,zj,zax]at hq
  obtain⟨ho,hkids⟩:=hq
  have hb:=bnd_in k (by omega)
  have hb1:=bnd_in (k+1) hk
  have ih:=score_ex N g d hd k (by omega)
  have hbe:bnd (k+1)=9*bnd k:=rfl
  show ∃v,Both N (D+1) c s d (bnd (k+1)) kind f ws a b kids v
  by_cases h1:kind=1
  .subst h1
   exact⟨_,(both_all N D d f ws a b kids).mono hb1.1⟩
  by_cases h2:kind=2
  .subst h2
   have h:((decide (a=0)&&decide (b=0)&&nilB kids)&&(okW f&&(ws.all okW&&decide ((ws.length:Int)=1))))=true:=ho
   simp only[zj,zw]at h
   obtain⟨w,rfl⟩:=one_list' h.2.2.2
   have hw:okW w=true:=zax.1 h.2.2.1 w zy
   exact⟨_,(both_term N D g d f w a b kids hw).mono hb1.1⟩
  by_cases h3:kind=3
  .subst h3
   have h:(nilB kids&&(okW f&&(ws.all okW&&(decide ((2:Int)<=ws.length)&&decide ((ws.length:Int)<=4))&&(decide (b=0)&&(decide (0<=a)&&decide (a<=5))))))=true:=ho
   simp only[zj,zw]at h
   exact⟨_,(both_phrase N D g d f ws a b kids (zax.1 h.2.2.1.1) (by omega)).mono hb1.1⟩
  by_cases h4:kind=4
  .subst h4
   have h:(nilB kids&&(okW f&&(ws.all okW&&decide ((ws.length:Int)=1)&&(decide (b=0)&&(decide (1<=a)&&decide (a<=2))))))=true:=ho
   simp only[zj,zw]at h
   obtain⟨w,rfl⟩:=one_list' h.2.2.1.2
   have hw:okW w=true:=zax.1 h.2.2.1.1 w zy
   exact⟨_,(both_near N D g d f w a b kids hw h.2.2.2.2.2).mono hb1.1⟩
  by_cases h5:kind=5
  .subst h5
   have h:((decide (a=0)&&decide (b=0)&&nilB kids)&&(okW f&&(ws.all (fun w=>okG w&& !okW w)&&decide ((ws.length:Int)=1))))=true:=ho
   simp only[zj,zw]at h
   obtain⟨w,rfl⟩:=one_list' h.2.2.2
   have hw:=zax.1 h.2.2.1 w zy
   rw[zj]at hw
   have hl:w.length<=12:=by
    have:=hw.1
    unfold okG at this
    simp only[zj,zw]at this
    omega
   exact⟨_,(both_glob N D g d f w a b kids hw.1 hl).mono hb1.1⟩
  by_cases h6:kind=6
  .subst h6
   exact⟨_,(both_range N D g d hd f ws a b kids).mono hb1.1⟩
  by_cases h78:kind=7\/kind=8
  .have hl:kids.length<=4:=by
    unfold oneQ at ho
    rw[zd h1,ze,zd h2,ze,zd h3,ze,zd h4,ze,zd h5,ze,zd h6,ze,show(decide (kind=7)||decide (kind=8))=true from by rcases h78 with h|h<;>subst h<;>rfl,zg]at ho
    simp only[zj,zw]at ho
    omega
   have hex:∀x,x∈kids->BothQ N D c s d (bnd k) x (valS N D c s d x):=fun x hx=>by
    obtain⟨v,hv⟩:=ih x (hkids x hx) D (by omega)
    have:valS N D c s d x=v:=by unfold valS;rw[hv.ref];rfl
    rw[this]
    exact hv
   exact⟨_,both_many N D g.m d kind h78 f ws a b kids hl (valS N D c s d) (bnd k) (by omega) hb.2 hex⟩
  have hn78:(decide (kind=7)||decide (kind=8))=false:=by
   rw[zd (fun h=>h78 (.inl h)),zd (fun h=>h78 (.inr h))]
   rfl
  unfold oneQ at ho
  rw[zd h1,ze,zd h2,ze,zd h3,ze,zd h4,ze,zd h5,ze,zd h6,ze,hn78,ze]at ho
  by_cases h9:kind=9
  .subst h9
   rw[zb rfl,zg]at ho
   simp only[zj,zw]at ho
   obtain⟨x,y,rfl⟩:=two_list ho.2.2.2
   obtain⟨v,hv⟩:=ih x (hkids x zy) D (by omega)
   obtain⟨w,hw⟩:=ih y (hkids y (zl _ zy)) D (by omega)
   exact⟨_,(both_less N D d f ws a b x y _ v w hv hw).mono (by omega)⟩
  rw[zd h9,ze]at ho
  by_cases h10:kind=10
  .subst h10
   rw[zb rfl,zg]at ho
   simp only[zj,zw]at ho
   obtain⟨x,rfl⟩:=one_list' ho.2.2.1
   obtain⟨v,hv⟩:=ih x (hkids x zy) D (by omega)
   exact⟨_,both_times N D d f ws a b x _ v hb.2 hv ho.2.2.2.2⟩
  rw[zd h10,ze]at ho
  cases ho
theorem score_both (N:Nat) {c:EConf} {s:ESeg} (g:GoodS N c s) (d:EDoc) (hd:docOf s.1 d.1=some d) (q:DQ) (hq:okQ 4 q=true):BothQ N N c s d 30000000000000 q (valS N N c s d q):=by
 have hM:=g.m
 obtain⟨v,hv⟩:=score_ex N g d hd 4 (zae _) q hq N (by omega)
 have:valS N N c s d q=v:=by unfold valS;rw[hv.ref];rfl
 rw[this]
 exact hv.mono (bnd_in 4 (zae _)).2
end Go.Proofs.YtkglkigmdmohkaaGreatDoor
