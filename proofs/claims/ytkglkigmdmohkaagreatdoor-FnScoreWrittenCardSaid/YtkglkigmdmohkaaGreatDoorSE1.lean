import Derived.Test.YtkglkigmdmohkaaGreatDoorSD1
import Derived.Test.YtkglkigmdmohkaaGreatDoorKZ
set_option linter.unusedVariables false
set_option linter.unusedSimpArgs false
namespace Go.Proofs.YtkglkigmdmohkaaGreatDoor
open Go.RowKit
theorem docOf_some {docs:List EDoc} {id:Int} {d:EDoc} (h:docOf docs id=some d):d∈docs/\d.1=id:=by
 refine⟨zbe h,?_⟩
 have:=List.find?_some h
 exact of_decide_eq_true this
theorem queryOk_i (N:Nat) (hM:Sm<N) (hN:N<=1099511627776) (q:DQ) (hq:BQ 4 q):i_QueryOk_m N q.kind q.field q.words q.lo q.hi q.kids=some (okQ 4 q):=by
 have hM':1048576<N:=hM
 unfold i_QueryOk_m
 rw[show(4:Int)=((4:Nat):Int)from rfl,jAo N hM hN 4 N (by omega) (by omega) q hq,za]
theorem queryOk_s (N:Nat) (hM:Sm<N) (hN:N<=1099511627776) (q:DQ) (hq:BQ 4 q):s_l11Ok_m N q.kind q.field q.words q.lo q.hi q.kids=some (okQ 4 q):=by
 have hM':1048576<N:=hM
 unfold s_l11Ok_m
 rw[show(4:Int)=((4:Nat):Int)from rfl,jzi N hM hN 4 N (by omega) (by omega) q hq,za]
structure Fit (N:Nat) (c:EConf) (s:ESeg) (q:DQ):Prop where
 big:Sm<N
 top:N<=16777216
 oc:okD Sm TConf c
 od:∀x,x∈s.1->okD Sm TDoc x
 len:s.1.length<=1048576
 bq:BQ 4 q
theorem Fit.good {N:Nat} {c:EConf} {s:ESeg} {q:DQ} (h:Fit N c s q) (hs:okSeg c s=true):GoodS N c s:=⟨h.big,h.top,h.oc,h.od,hs⟩
theorem Fit.segI {N:Nat} {c:EConf} {s:ESeg} {q:DQ} (h:Fit N c s q):i_SegOk_m N c.1 c.2 s.1 s.2=some (okSeg c s):=segOk_spec N h.big h.top c h.oc s h.od h.len
theorem Fit.segS {N:Nat} {c:EConf} {s:ESeg} {q:DQ} (h:Fit N c s q):s_l7Ok_m N c.1 c.2 s.1 s.2=some (okSeg c s):=l7Ok_spec N h.big h.top c h.oc s h.od h.len
theorem Fit.qI {N:Nat} {c:EConf} {s:ESeg} {q:DQ} (h:Fit N c s q):i_QueryOk_m N q.kind q.field q.words q.lo q.hi q.kids=some (okQ 4 q):=queryOk_i N h.big (by have:=h.top;omega) q h.bq
theorem Fit.qS {N:Nat} {c:EConf} {s:ESeg} {q:DQ} (h:Fit N c s q):s_l11Ok_m N q.kind q.field q.words q.lo q.hi q.kids=some (okQ 4 q):=queryOk_s N h.big (by have:=h.top;omega) q h.bq
def scoreR (N:Nat) (c:EConf) (s:ESeg) (q:DQ) (id:Int):Int:=bif okSeg c s&&okQ 4 q then(match docOf s.1 id with|some d=>valS N N c s d q|none=>0)else 0
theorem score_i {N:Nat} {c:EConf} {s:ESeg} {q:DQ} (h:Fit N c s q) (id:Int):i_ScoreOf_m N c.1 c.2 s.1 s.2 q.kind q.field q.words q.lo q.hi q.kids id=some (scoreR N c s q id):=by
 have hM:1048576<N:=h.big
 have hl:=h.len
 unfold i_ScoreOf_m scoreR
 rw[segDoc_spec N s id (by omega) h.top,za,h.segI,za,h.qI,za]
 cases hs:okSeg c s with
 |false=>rfl
 |true=>
  cases hq:okQ 4 q with
  |false=>rfl
  |true=>
   rw[zn,ze,ze,zaV,zg]
   cases hd:docOf s.1 id with
   |none=>rfl
   |some d=>
    dsimp only
    have he:docOf s.1 d.1=some d:=by rw[(docOf_some hd).2];exact hd
    have hb:=score_both N (h.good hs) d he q hq
    rw[zn,ze]
    rw[hb.eng,za]
theorem score_s {N:Nat} {c:EConf} {s:ESeg} {q:DQ} (h:Fit N c s q) (id:Int):s_ScoreOf_m N c.1 c.2 s.1 s.2 q.kind q.field q.words q.lo q.hi q.kids id=some (scoreR N c s q id):=by
 unfold s_ScoreOf_m scoreR
 rw[h.segS,za,h.qS,za]
 cases hs:okSeg c s with
 |false=>rfl
 |true=>
  cases hq:okQ 4 q with
  |false=>rfl
  |true=>
   rw[zn,ze,ze,zaV,zg,l12Doc_spec N (h.good hs) id,za]
   cases hd:docOf s.1 id with
   |none=>rfl
   |some d=>
    have hm:=docOf_some hd
    have he:docOf s.1 d.1=some d:=by rw[hm.2];exact hd
    have hb:=score_both N (h.good hs) d he q hq
    have hk:=okDoc_each (okSeg_docs hs) d hm.1
    have h1:1<=d.1:=by
     unfold okDoc at hk
     simp only[zj,zw]at hk
     exact hk.1.1.1.1.1
    rw[za8,zd (by omega),ze,<-hm.2,hb.ref,za]
theorem scoreR_nn {N:Nat} {c:EConf} {s:ESeg} {q:DQ} (h:Fit N c s q) (id:Int):0<=scoreR N c s q id:=by
 unfold scoreR
 cases hs:okSeg c s with
 |false=>exact zbD _
 |true=>
  cases hq:okQ 4 q with
  |false=>exact zbD _
  |true=>
   rw[zaV,zg]
   cases hd:docOf s.1 id with
   |none=>exact zbD _
   |some d=>exact(score_both N (h.good hs) d (by rw[(docOf_some hd).2];exact hd) q hq).low
theorem digits_len :∀(D u:Nat),u<10^(D+1)->(Lib.decDigits u).length<=D+1
 |D,u,h=>by
  rw[digits_eq]
  split
  .simp
  .rename_i hu
   match D,h with
   |0,h=>omega
   |D+1,h=>
    have:=digits_len D (u/10) (by rw[Nat.pow_succ]at h;omega)
    rw[zam,zbE]
    omega
theorem itoa_len {n:Int} (h0:0<=n) (h1:n<=999999999):(itoaL n).length<=10:=by
 have hp:(10:Nat)^(9+1)=10000000000:=by decide
 unfold itoaL Lib.itoa
 rw[zu (by omega)]
 exact digits_len 9 n.toNat (by omega)
theorem itoa_spec (N:Nat) (n:Int) (h0: -9223372036854775808<=n) (h1:n<=9223372036854775807):k_strconv_Itoa_m N n=some (itoaL n):=by
 unfold k_strconv_Itoa_m itoaM
 rw[zf ⟨h0,h1⟩]
def headQ (k a:Int):List UInt8:=bif decide (k=7)then [97,110,100]else bif decide (k=8)then [111,114]else bif decide (k=9)then [108,101,115,115]else [116,105,109,101,115,32]++itoaL a
def putQ :Nat->DQ->List UInt8
 |0,_=>[]
 |n+1,.mk k f ws a b kids=>
  bif decide (k=1)then [97,108,108]
  else bif decide (k=2)||decide (k=5)then f++ [58]++ws.headD []
  else bif decide (k=3)then f++ [58]++joinL ws [43]++ [126]++itoaL a
  else bif decide (k=4)then f++ [58]++ws.headD []++ [37]++itoaL a
  else bif decide (k=6)then f++ [61]++itoaL a++ [46,46]++itoaL b
  else [40]++headQ k a++kids.flatMap (fun c=>[32]++putQ n c)++ [41]
def bndQ :Nat->Nat
 |0=>0
 |n+1=>4*bndQ n+20000000
theorem bndQ_le :∀n,n<=4->bndQ n<=100000000000:=by decide
theorem one_k {k:Int} {f:List UInt8} {ws:List (List UInt8)} {a b:Int} {kids:List DQ} (h:oneQ k f ws a b kids=true):k=1\/k=2\/k=3\/k=4\/k=5\/k=6\/k=7\/k=8\/k=9\/k=10:=by
 by_cases h1:k=1; · exact .inl h1
 by_cases h2:k=2; · exact .inr (.inl h2)
 by_cases h3:k=3; · exact .inr (.inr (.inl h3))
 by_cases h4:k=4; · exact .inr (.inr (.inr (.inl h4)))
 by_cases h5:k=5; · exact .inr (.inr (.inr (.inr (.inl h5))))
 by_cases h6:k=6; · exact .inr (.inr (.inr (.inr (.inr (.inl h6)))))
 by_cases h7:k=7; · exact .inr (.inr (.inr (.inr (.inr (.inr (.inl h7))))))
 by_cases h8:k=8; · exact .inr (.inr (.inr (.inr (.inr (.inr (.inr (.inl h8)))))))
 by_cases h9:k=9; · exact .inr (.inr (.inr (.inr (.inr (.inr (.inr (.inr (.inl h9))))))))
 by_cases h10:k=10; · exact .inr (.inr (.inr (.inr (.inr (.inr (.inr (.inr (.inr h10))))))))
 unfold oneQ at h
 simp[h1,h2,h3,h4,h5,h6,h7,h8,h9,h10]at h
structure OneOk (k:Int) (f:List UInt8) (ws:List (List UInt8)) (a b:Int) (kids:List DQ):Prop where
 kind:k=1\/k=2\/k=3\/k=4\/k=5\/k=6\/k=7\/k=8\/k=9\/k=10
 wn:ws.length<=4
 w1:k=2\/k=4\/k=5->0<ws.length
 a:0<=a/\a<=999999999
 b:0<=b/\b<=999999999
 kn:kids.length<=4
theorem one_facts {k:Int} {f:List UInt8} {ws:List (List UInt8)} {a b:Int} {kids:List DQ} (h:oneQ k f ws a b kids=true):OneOk k f ws a b kids:=by
 have hk:=one_k h
 rcases hk with rfl|rfl|rfl|rfl|rfl|rfl|rfl|rfl|rfl|rfl<;>simp only[oneQ,nilB,Int.reduceEq,decide_false,decide_true,ze,zg,zj,zw,Bool.or_true,zbV,Bool.or_false]at h<;>exact⟨by omega,by omega,by omega,by omega,by omega,by omega⟩
theorem head_at {ws:List (List UInt8)} (h:0<ws.length):idx ws 0=some (ws.headD [])/\(ws.headD []∈ws):=by
 cases ws with
 |nil=>simp at h
 |cons w r=>exact⟨rfl,by simp⟩
theorem kid_len (n B:Nat):∀(kids:List DQ),(∀c,c∈kids->(putQ n c).length<=B)->(kids.flatMap fun c=>[32]++putQ n c).length<=kids.length*(B+1)
 | [],_=>by simp
 |c::r,h=>by
  have ih:=kid_len n B r fun c hc=>h c (zl _ hc)
  have:=h c zy
  rw[zbu,zam,zam,zbE,zi,Nat.succ_mul]
  omega
theorem putQ_len :∀(n:Nat),n<=4->∀q,okQ n q=true->BQ n q->(putQ n q).length<=bndQ n
 |0,_,q,h,_=>by cases q;simp[okQ]at h
 |n+1,hn,.mk k f ws a b kids,h,hb=>by
  unfold okQ at h
  rw[zj]at h
  obtain⟨hf,hw,hw2,hkb,hkc⟩:=hb
  have hf:f.length<=1048576:=hf
  have hw2:∀w,w∈ws->w.length<=1048576:=hw2
  have o:=one_facts h.1
  have hk:=kid_len n (bndQ n) kids fun c hc=>putQ_len n (by omega) c (zax.1 h.2 c hc) (hkc c hc)
  have ha:=itoa_len o.a.1 o.a.2
  have hb:=itoa_len o.b.1 o.b.2
  have hwn:=o.wn
  have hkn:=o.kn
  have hj:=joinL_len ws [43] (by decide) hw2 ws.length (zae _)
  rw[zq]at hj
  have hh:(ws.headD []).length<=1048576:=by
   cases ws with
   |nil=>exact zaf _
   |cons w r=>exact hw2 w (by simp)
  have hk2:kids.length*(bndQ n+1)<=4*(bndQ n+1):=zag _ hkn
  show(putQ (n+1) _).length<=4*bndQ n+20000000
  have hq:(headQ k a).length<=30:=by
   unfold headQ
   cases decide (k=7)<;>cases decide (k=8)<;>cases decide (k=9)<;>simp<;>omega
  unfold putQ
  cases decide (k=1)<;>cases(decide (k=2)||decide (k=5))<;>cases decide (k=3)<;>cases decide (k=4)<;>cases decide (k=6)<;>simp only[zg,ze,zam,zi,zac]at* <;>omega
structure Parts (n:Nat) (f:List UInt8) (ws:List (List UInt8)) (a b:Int) (kids:List DQ):Prop where
 f:f.length<=1048576
 h:(ws.headD []).length<=1048576
 j:(joinL ws [43]).length<=4*2097152
 a:(itoaL a).length<=10
 b:(itoaL b).length<=10
 k:∀m,m<=kids.length->((kids.take m).flatMap fun c=>[32]++putQ n c).length<=500000000000
theorem Parts.of {n:Nat} (hn:n<=3) {k:Int} {f:List UInt8} {ws:List (List UInt8)} {a b:Int} {kids:List DQ} (h:oneQ k f ws a b kids=true) (hk:kids.all (okQ n)=true) (hb:BQ (n+1) (.mk k f ws a b kids)):Parts n f ws a b kids:=by
 obtain⟨hf,hw,hw2,hkb,hkc⟩:=hb
 have hw2:∀w,w∈ws->w.length<=1048576:=hw2
 have o:=one_facts h
 have hj:=joinL_len ws [43] (by decide) hw2 ws.length (zae _)
 rw[zq]at hj
 have hf':f.length<=1048576:=hf
 clear hw hkb hf
 have hwn:=o.wn
 have hj2:(joinL ws [43]).length<=4*2097152:=zau hj (zag _ hwn)
 refine⟨hf',?_,hj2,itoa_len o.a.1 o.a.2,itoa_len o.b.1 o.b.2,fun m hm=>?_⟩
 .cases ws with
  |nil=>exact zaf _
  |cons w r=>exact hw2 w (by simp)
 .have h1:=kid_len n (bndQ n) (kids.take m) fun c hc=>by
   have hc:=zaP hc
   exact putQ_len n (by omega) c (zax.1 hk c hc) (hkc c hc)
  have h2:=bndQ_le n (by omega)
  have h3:(kids.take m).length*(bndQ n+1)<=4*(bndQ n+1):=zag _ (by rw[zah];have:=o.kn;omega)
  omega
theorem kid_take (n:Nat) (kids:List DQ) (m:Nat) (h:m<kids.length):(kids.take (m+1)).flatMap (fun c=>[32]++putQ n c)=(kids.take m).flatMap (fun c=>[32]++putQ n c)++([32]++putQ n kids[m]):=by
 rw[zo h,List.flatMap_append]
 simp
theorem put_kids (n:Nat) (kids:List DQ) {N:Nat} (hN:kids.length<N) {δ:Type} (F:(δ->Option (List UInt8))->δ->Option (List UInt8)) (st:List UInt8->Int->δ) (pre:List UInt8) (hend:∀go,F go (st (pre++kids.flatMap fun c=>[32]++putQ n c) (kids.length:Int))=some ((pre++kids.flatMap fun c=>[32]++putQ n c)++ [41]))
  (hstep:∀go (m:Nat) (hm:m<kids.length),F go (st (pre++(kids.take m).flatMap fun c=>[32]++putQ n c) (m:Int))=go (st ((pre++(kids.take m).flatMap fun c=>[32]++putQ n c)++([32]++putQ n kids[m])) ((m:Int)+1))):iter F N (st pre 0)=some ((pre++kids.flatMap fun c=>[32]++putQ n c)++ [41]):=by
 have e:st pre 0=st (pre++(kids.take 0).flatMap fun c=>[32]++putQ n c) ((0:Nat):Int):=by simp
 rw[e]
 refine(iter_scan F kids.length (fun m=>st (pre++(kids.take m).flatMap fun c=>[32]++putQ n c) (m:Int)) (fun _=>some ((pre++kids.flatMap fun c=>[32]++putQ n c)++ [41])) (fun go=>?_) (fun go m hm hgo=>?_) N 0 (zaf _) (by omega)).trans rfl
 .rw [zq]
  exact hend go
 .rw [hstep go m hm,<-hgo,kid_take n kids m hm,zao,cast_succ']
theorem text_spec (N:Nat) (hM:1048576<N) (hN:N<=16777216):∀(n D:Nat),n<=4->n<=D->∀q,okQ n q=true->BQ n q->i_Query_text_m N D q.kind q.field q.words q.lo q.hi q.kids=some (putQ n q)
 |0,_,_,_,q,h,_=>by cases q;simp[okQ]at h
 |n+1,0,_,hd,_,_,_=>absurd hd (by omega)
 |n+1,D+1,hn,hd,.mk k f ws a b kids,h,hb=>by
  have h0:=h
  unfold okQ at h
  rw[zj]at h
  have P:=Parts.of (by omega) h.1 h.2 hb
  have o:=one_facts h.1
  obtain⟨_,hw,hw2,hkb,hkc⟩:=hb
  have hw2:∀w,w∈ws->w.length<=1048576:=hw2
  obtain⟨pf,ph,pj,pa,pb,pk⟩:=P
  have ia:=itoa_spec N a (by have:=o.a;omega) (by have:=o.a;omega)
  have ib:=itoa_spec N b (by have:=o.b;omega) (by have:=o.b;omega)
  have jn:=join_spec N ws [43] (by have:=o.wn;omega) (by decide) hw2
  have hkl:=o.kn
  have kn:=pk kids.length (zae _)
  rw[zq]at kn
  dsimp only[DQ.kind,DQ.field,DQ.words,DQ.lo,DQ.hi,DQ.kids]
  rw[i_Query_text_m]
  have loop:∀(k':Int) (pre:List UInt8),pre.length<=100->iter (fun(go:((List UInt8)×(List DQ)×Int×Int)->Option ((List UInt8))) (g:(List UInt8)×(List DQ)×Int×Int)=>
    match g with
    |(out2,t79,t80,t81)=>
    (bif(decide (t81<t80))then
    (Option.bind (idx t79 t81) fun(e3:DQ)=>
    (Option.bind (i_Query_text_m N D e3.kind e3.field e3.words e3.lo e3.hi e3.kids) fun(r7:(List UInt8))=>
    (if([32]:List UInt8).length+r7.length<=9223372036854775807 then
    (if out2.length+(([32]:List UInt8)++r7).length<=9223372036854775807 then
    (if fits (t81+1)then(go ((out2++(([32]:List UInt8)++r7)),t79,t80,(t81+1)))else none)
    else none)
    else none)))
    else
    (if out2.length+([41]:List UInt8).length<=9223372036854775807 then
    (some (out2++([41]:List UInt8)))
    else none))) N (pre,kids,(kids.length:Int),0)=some ((pre++kids.flatMap fun c=>[32]++putQ n c)++ [41]):=fun k' pre hpre=>by
   refine put_kids n kids (by omega) _ (fun out i=>(out,kids,(kids.length:Int),i)) pre (fun go=>?_) (fun go m hm=>?_)
   .dsimp only
    rw[zd (zcd _),ze,zf (by rw[zam,zbE];omega)]
   .dsimp only
    have hc:=zr hm
    have hkm:=pk m (by omega)
    have hl:=putQ_len n (by omega) _ (zax.1 h.2 _ hc) (hkc _ hc)
    have hl2:=bndQ_le n (by omega)
    rw[zb (by omega:(m:Int)<kids.length),zg,idx_at hm,za,text_spec N hM hN n D (by omega) (by omega) _ (zax.1 h.2 _ hc) (hkc _ hc),za,
     zf (by rw[zbE];omega),zf (by simp only[zam,zbE];omega),zf (fits_nat (n:=m) (by omega))]
  rcases o.kind with rfl|rfl|rfl|rfl|rfl|rfl|rfl|rfl|rfl|rfl
  .rfl
  .have hh:=(head_at (o.w1 (.inl rfl))).1
   simp only[meet,Int.reduceEq,decide_false,decide_true,ze,zg]
   rw[zf (by rw[zbE];omega),hh,za,zf (by simp only[zam,zbE];omega)]
   rfl
  .simp only [meet,Int.reduceEq,decide_false,decide_true,ze,zg]
   rw[zf (by rw[zbE];omega),jn,za,zf (by simp only[zam,zbE];omega),zf (by simp only[zam,zbE];omega),ia,za,zf (by simp only[zam,zbE];omega)]
   rfl
  .have hh:=(head_at (o.w1 (.inr (.inl rfl)))).1
   simp only[meet,Int.reduceEq,decide_false,decide_true,ze,zg]
   rw[zf (by rw[zbE];omega),hh,za,zf (by simp only[zam,zbE];omega),zf (by simp only[zam,zbE];omega),ia,za,zf (by simp only[zam,zbE];omega)]
   rfl
  .have hh:=(head_at (o.w1 (.inr (.inr rfl)))).1
   simp only[meet,Int.reduceEq,decide_false,decide_true,ze,zg]
   rw[zf (by rw[zbE];omega),hh,za,zf (by simp only[zam,zbE];omega)]
   rfl
  .simp only [meet,Int.reduceEq,decide_false,decide_true,ze,zg]
   rw[zf (by rw[zbE];omega),ia,za,zf (by simp only[zam,zbE];omega),zf (by simp only[zam,zbE,zi,zac];omega),ib,za,zf (by simp only[zam,zbE,zi,zac];omega)]
   rfl
  .simp only [meet,Int.reduceEq,decide_false,decide_true,ze,zg]
   rw[zf (by decide)]
   exact loop 7 _ (by decide)
  .simp only [meet,Int.reduceEq,decide_false,decide_true,ze,zg]
   rw[zf (by decide)]
   exact loop 8 _ (by decide)
  .simp only [meet,Int.reduceEq,decide_false,decide_true,ze,zg]
   rw[zf (by decide)]
   exact loop 9 _ (by decide)
  .simp only [meet,Int.reduceEq,decide_false,decide_true,ze,zg]
   rw[zf (by decide),ia,za,zf (by rw[zbE];omega),zf (by
    have e:((mget (.int .i64) .str gm_opNames (10:Int)).getD ([]:List UInt8))=[116,105,109,101,115]:=rfl
    rw[e]
    simp only[zam,zbE,zi,zac];omega)]
   have e:((mget (.int .i64) .str gm_opNames (10:Int)).getD ([]:List UInt8))=[116,105,109,101,115]:=rfl
   rw[e]
   refine(loop 10 _ (by simp only[zam,zbE,zi,zac];omega)).trans ?_
   rfl
theorem queryPut_i (N:Nat) (hM:1048576<N) (hN:N<=16777216) (q:DQ) (hq:BQ 4 q):i_QueryPut_m N q.kind q.field q.words q.lo q.hi q.kids=some (bif okQ 4 q then putQ 4 q else []):=by
 unfold i_QueryPut_m
 rw[queryOk_i N hM (by omega) q hq,za]
 cases h:okQ 4 q with
 |false=>rfl
 |true=>rw[zn,ze,text_spec N hM hN 4 N (by omega) (by omega) q h hq,za];rfl
end Go.Proofs.YtkglkigmdmohkaaGreatDoor
