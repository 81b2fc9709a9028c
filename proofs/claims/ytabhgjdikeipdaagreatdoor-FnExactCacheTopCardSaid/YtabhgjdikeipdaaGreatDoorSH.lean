import Derived.Test.YtabhgjdikeipdaaGreatDoorSE
import Derived.Test.YtabhgjdikeipdaaGreatDoorSG
import Derived.Test.YtabhgjdikeipdaaGreatDoorSF
set_option linter.unusedVariables false
set_option linter.unusedSimpArgs false
namespace Go.Proofs.YtabhgjdikeipdaaGreatDoor
open Go.RowKit
theorem jOB :∀u:Nat,u<10->bytesOf [IntKind.u8.wrap (48+(u:Int))]=[UInt8.ofNat (48+u)]:=by decide
theorem jON (u:Nat):Lib.decDigits u=if u<10 then [UInt8.ofNat (48+u)]else Lib.decDigits (u/10)++ [UInt8.ofNat (48+u%10)]:=by
 rw[Lib.decDigits]
 by_cases h:u<10
 .rw [dif_pos h,zf h]
 .rw [dif_neg h,zu h]
theorem dec_nat (N:Nat):∀(D u:Nat),D<=100000000->u<10^(D+1)->(u:Int)<=9223372036854775807->s_l1Dec_m N (D+1) (u:Int)=some (Lib.decDigits u)/\(Lib.decDigits u).length<=D+1
 |D,u,hD,h1,h2=>by
  rw[jON,s_l1Dec_m,zd (by omega:¬(u:Int)< -9223372036854775807),ze,zd (by omega:¬(u:Int)<0),ze]
  by_cases h:u<10
  .rw [zb (by omega:(u:Int)<10),zg,zf h,zf (by unfold fits;omega),jOB u h]
   exact⟨rfl,by simp⟩
  .rw [zd (by omega:¬(u:Int)<10),ze,zu h]
   have hne:D≠0:=fun e=>by
    subst e
    rw[Nat.pow_succ,Nat.pow_zero]at h1
    omega
   obtain⟨E,rfl⟩:∃E,D=E+1:=⟨D-1,by omega⟩
   have e1:(u:Int).tdiv 10=((u/10:Nat):Int):=rfl
   have e2:(u:Int).tmod 10=((u%10:Nat):Int):=rfl
   have hm:u%10<10:=Nat.mod_lt _ (by decide)
   obtain⟨h3,h4⟩:=dec_nat N E (u/10) (by omega) (by rw[Nat.pow_succ]at h1;omega) (by omega)
   have h5:(Lib.decDigits (u/10)).length+1<=E+1+1:=by omega
   rw[e1,e2,zf (by decide:(10:Nat)≠0),zf (by unfold fits;omega),h3,za,zf (by decide:(10:Nat)≠0),zf (by unfold fits;omega),jOB _ hm,zf (by rw[zbE];omega)]
   exact⟨rfl,by rw[zam,zbE];exact h5⟩
theorem itoa_len {n:Int} (h0:0<=n) (h1:n<=999999999):(itoaL n).length<=10:=by
 have hp:(10:Nat)^(9+1)=10000000000:=by decide
 obtain⟨h3,h4⟩:=dec_nat 0 9 n.toNat (by omega) (by omega) (by omega)
 unfold itoaL Lib.itoa
 rw[zu (by omega)]
 exact h4
theorem itoa_spec (N:Nat) (n:Int) (h0: -9223372036854775808<=n) (h1:n<=9223372036854775807):jOm N n=some (itoaL n):=by
 unfold jOm jOn
 rw[zf ⟨h0,h1⟩]
def headQ (k a:Int):List UInt8:=bif decide (k=7)then [97,110,100]else bif decide (k=8)then [111,114]else bif decide (k=9)then [108,101,115,115]else [116,105,109,101,115,32]++itoaL a
def putQ :Nat->DQ->List UInt8
 |0,_=>[]
 |n+1,.mk k f ws a b kids=>
  bif decide (k=1)then [97,108,108]
  else bif decide (k=2)||decide (k=5)then f++ [58]++ws.headD []
  else bif decide (k=3)then f++ [58]++joinL ws [43]++ [126]++itoaL a
  else bif decide (k=4)then f++ [58]++ws.headD []++ [37]++itoaL a
  else bif decide (k=6)then f++ [61]++itoaL a++ [46,46]++itoaL b
  else [40]++headQ k a++kids.flatMap (fun c=>[32]++putQ n c)++ [41]
def bndQ :Nat->Nat
 |0=>0
 |n+1=>4*bndQ n+20000000
theorem bndQ_le :∀n,n<=4->bndQ n<=100000000000:=by decide
theorem one_k {k:Int} {f:List UInt8} {ws:List (List UInt8)} {a b:Int} {kids:List DQ} (h:oneQ k f ws a b kids=true):k=1\/k=2\/k=3\/k=4\/k=5\/k=6\/k=7\/k=8\/k=9\/k=10:=by
 by_cases h1:k=1; · exact .inl h1
 by_cases h2:k=2; · exact .inr (.inl h2)
 by_cases h3:k=3; · exact .inr (.inr (.inl h3))
 by_cases h4:k=4; · exact .inr (.inr (.inr (.inl h4)))
 by_cases h5:k=5; · exact .inr (.inr (.inr (.inr (.inl h5))))
 by_cases h6:k=6; · exact .inr (.inr (.inr (.inr (.inr (.inl h6)))))
 by_cases h7:k=7; · exact .inr (.inr (.inr (.inr (.inr (.inr (.inl h7))))))
 by_cases h8:k=8; · exact .inr (.inr (.inr (.inr (.inr (.inr (.inr (.inl h8)))))))
 by_cases h9:k=9; · exact .inr (.inr (.inr (.inr (.inr (.inr (.inr (.inr (.inl h9))))))))
 by_cases h10:k=10; · exact .inr (.inr (.inr (.inr (.inr (.inr (.inr (.inr (.inr h10))))))))
 unfold oneQ at h
 simp[h1,h2,h3,h4,h5,h6,h7,h8,h9,h10]at h
structure OneOk (k:Int) (f:List UInt8) (ws:List (List UInt8)) (a b:Int) (kids:List DQ):Prop where
 kind:k=1\/k=2\/k=3\/k=4\/k=5\/k=6\/k=7\/k=8\/k=9\/k=10
 wn:ws.length<=4
 w1:k=2\/k=4\/k=5->0<ws.length
 a:0<=a/\a<=999999999
 b:0<=b/\b<=999999999
 kn:kids.length<=4
theorem one_facts {k:Int} {f:List UInt8} {ws:List (List UInt8)} {a b:Int} {kids:List DQ} (h:oneQ k f ws a b kids=true):OneOk k f ws a b kids:=by
 have hk:=one_k h
 rcases hk with rfl|rfl|rfl|rfl|rfl|rfl|rfl|rfl|rfl|rfl<;>simp only[oneQ,nilB,Int.reduceEq,decide_false,decide_true,ze,zg,zj,zw,Bool.or_true,zbV,Bool.or_false]at h<;>exact⟨by omega,by omega,by omega,by omega,by omega,by omega⟩
theorem head_at {ws:List (List UInt8)} (h:0<ws.length):idx ws 0=some (ws.headD [])/\(ws.headD []∈ws):=by
 cases ws with
 |nil=>simp at h
 |cons w r=>exact⟨rfl,by simp⟩
theorem kid_len (n B:Nat):∀(kids:List DQ),(∀c,c∈kids->(putQ n c).length<=B)->(kids.flatMap fun c=>[32]++putQ n c).length<=kids.length*(B+1)
 | [],_=>by simp
 |c::r,h=>by
  have ih:=kid_len n B r fun c hc=>h c (zl _ hc)
  have:=h c zy
  rw[zbu,zam,zam,zbE,zi,Nat.succ_mul]
  omega
theorem putQ_len :∀(n:Nat),n<=4->∀q,okQ n q=true->BQ n q->(putQ n q).length<=bndQ n
 |0,_,q,h,_=>by cases q;simp[okQ]at h
 |n+1,hn,.mk k f ws a b kids,h,hb=>by
  unfold okQ at h
  rw[zj]at h
  obtain⟨hf,hw,hw2,hkb,hkc⟩:=hb
  have hf:f.length<=1048576:=hf
  have hw2:∀w,w∈ws->w.length<=1048576:=hw2
  have o:=one_facts h.1
  have hk:=kid_len n (bndQ n) kids fun c hc=>putQ_len n (by omega) c (zax.1 h.2 c hc) (hkc c hc)
  have ha:=itoa_len o.a.1 o.a.2
  have hb:=itoa_len o.b.1 o.b.2
  have hwn:=o.wn
  have hkn:=o.kn
  have hj:=joinL_len ws [43] (by decide) hw2 ws.length (zae _)
  rw[zq]at hj
  have hh:(ws.headD []).length<=1048576:=by
   cases ws with
   |nil=>exact zaf _
   |cons w r=>exact hw2 w (by simp)
  have hk2:kids.length*(bndQ n+1)<=4*(bndQ n+1):=zag _ hkn
  show(putQ (n+1) _).length<=4*bndQ n+20000000
  have hq:(headQ k a).length<=30:=by
   unfold headQ
   cases decide (k=7)<;>cases decide (k=8)<;>cases decide (k=9)<;>simp<;>omega
  unfold putQ
  cases decide (k=1)<;>cases(decide (k=2)||decide (k=5))<;>cases decide (k=3)<;>cases decide (k=4)<;>cases decide (k=6)<;>simp only[zg,ze,zam,zi,zac]at* <;>omega
structure Parts (n:Nat) (f:List UInt8) (ws:List (List UInt8)) (a b:Int) (kids:List DQ):Prop where
 f:f.length<=1048576
 h:(ws.headD []).length<=1048576
 j:(joinL ws [43]).length<=4*2097152
 a:(itoaL a).length<=10
 b:(itoaL b).length<=10
 k:∀m,m<=kids.length->((kids.take m).flatMap fun c=>[32]++putQ n c).length<=500000000000
theorem Parts.of {n:Nat} (hn:n<=3) {k:Int} {f:List UInt8} {ws:List (List UInt8)} {a b:Int} {kids:List DQ} (h:oneQ k f ws a b kids=true) (hk:kids.all (okQ n)=true) (hb:BQ (n+1) (.mk k f ws a b kids)):Parts n f ws a b kids:=by
 obtain⟨hf,hw,hw2,hkb,hkc⟩:=hb
 have hw2:∀w,w∈ws->w.length<=1048576:=hw2
 have o:=one_facts h
 have hj:=joinL_len ws [43] (by decide) hw2 ws.length (zae _)
 rw[zq]at hj
 have hf':f.length<=1048576:=hf
 clear hw hkb hf
 have hwn:=o.wn
 have hj2:(joinL ws [43]).length<=4*2097152:=zau hj (zag _ hwn)
 refine⟨hf',?_,hj2,itoa_len o.a.1 o.a.2,itoa_len o.b.1 o.b.2,fun m hm=>?_⟩
 .cases ws with
  |nil=>exact zaf _
  |cons w r=>exact hw2 w (by simp)
 .have h1:=kid_len n (bndQ n) (kids.take m) fun c hc=>by
   have hc:=zaP hc
   exact putQ_len n (by omega) c (zax.1 hk c hc) (hkc c hc)
  have h2:=bndQ_le n (by omega)
  have h3:(kids.take m).length*(bndQ n+1)<=4*(bndQ n+1):=zag _ (by rw[zah];have:=o.kn;omega)
  omega
theorem kid_take (n:Nat) (kids:List DQ) (m:Nat) (h:m<kids.length):(kids.take (m+1)).flatMap (fun c=>[32]++putQ n c)=(kids.take m).flatMap (fun c=>[32]++putQ n c)++([32]++putQ n kids[m]):=by
 rw[zo h,List.flatMap_append]
 simp
theorem put_kids (n:Nat) (kids:List DQ) {N:Nat} (hN:kids.length<N) {δ:Type} (F:(δ->Option (List UInt8))->δ->Option (List UInt8)) (st:List UInt8->Int->δ) (pre:List UInt8) (hend:∀go,F go (st (pre++kids.flatMap fun c=>[32]++putQ n c) (kids.length:Int))=some ((pre++kids.flatMap fun c=>[32]++putQ n c)++ [41]))
  (hstep:∀go (m:Nat) (hm:m<kids.length),F go (st (pre++(kids.take m).flatMap fun c=>[32]++putQ n c) (m:Int))=go (st ((pre++(kids.take m).flatMap fun c=>[32]++putQ n c)++([32]++putQ n kids[m])) ((m:Int)+1))):iter F N (st pre 0)=some ((pre++kids.flatMap fun c=>[32]++putQ n c)++ [41]):=by
 have e:st pre 0=st (pre++(kids.take 0).flatMap fun c=>[32]++putQ n c) ((0:Nat):Int):=by simp
 rw[e]
 refine(iter_scan F kids.length (fun m=>st (pre++(kids.take m).flatMap fun c=>[32]++putQ n c) (m:Int)) (fun _=>some ((pre++kids.flatMap fun c=>[32]++putQ n c)++ [41])) (fun go=>?_) (fun go m hm hgo=>?_) N 0 (zaf _) (by omega)).trans rfl
 .rw [zq]
  exact hend go
 .rw [hstep go m hm,<-hgo,kid_take n kids m hm,zao,cast_succ']
theorem text_spec (N:Nat) (hM:1048576<N) (hN:N<=16777216):∀(n D:Nat),n<=4->n<=D->∀q,okQ n q=true->BQ n q->i_Query_text_m N D q.kind q.field q.words q.lo q.hi q.kids=some (putQ n q)
 |0,_,_,_,q,h,_=>by cases q;simp[okQ]at h
 |n+1,0,_,hd,_,_,_=>absurd hd (by omega)
 |n+1,D+1,hn,hd,.mk k f ws a b kids,h,hb=>by
  have h0:=h
  unfold okQ at h
  rw[zj]at h
  have P:=Parts.of (by omega) h.1 h.2 hb
  have o:=one_facts h.1
  obtain⟨_,hw,hw2,hkb,hkc⟩:=hb
  have hw2:∀w,w∈ws->w.length<=1048576:=hw2
  obtain⟨pf,ph,pj,pa,pb,pk⟩:=P
  have ia:=itoa_spec N a (by have:=o.a;omega) (by have:=o.a;omega)
  have ib:=itoa_spec N b (by have:=o.b;omega) (by have:=o.b;omega)
  have jn:=join_spec N ws [43] (by have:=o.wn;omega) (by decide) hw2
  have hkl:=o.kn
  have kn:=pk kids.length (zae _)
  rw[zq]at kn
  dsimp only[DQ.kind,DQ.field,DQ.words,DQ.lo,DQ.hi,DQ.kids]
  rw[i_Query_text_m]
  have loop:∀(k':Int) (pre:List UInt8),pre.length<=100->iter (fun(go:((List UInt8)×(List DQ)×Int×Int)->Option ((List UInt8))) (g:(List UInt8)×(List DQ)×Int×Int)=>
    match g with
    |(out2,t79,t80,t81)=>
    (bif(decide (t81<t80))then
    (Option.bind (idx t79 t81) fun(e3:DQ)=>
    (Option.bind (i_Query_text_m N D e3.kind e3.field e3.words e3.lo e3.hi e3.kids) fun(r7:(List UInt8))=>
    (if([32]:List UInt8).length+r7.length<=9223372036854775807 then
    (if out2.length+(([32]:List UInt8)++r7).length<=9223372036854775807 then
    (if fits (t81+1)then(go ((out2++(([32]:List UInt8)++r7)),t79,t80,(t81+1)))else none)
    else none)
    else none)))
    else
    (if out2.length+([41]:List UInt8).length<=9223372036854775807 then
    (some (out2++([41]:List UInt8)))
    else none))) N (pre,kids,(kids.length:Int),0)=some ((pre++kids.flatMap fun c=>[32]++putQ n c)++ [41]):=fun k' pre hpre=>by
   refine put_kids n kids (by omega) _ (fun out i=>(out,kids,(kids.length:Int),i)) pre (fun go=>?_) (fun go m hm=>?_)
   .dsimp only
    rw[zd (zm _),ze,zf (by rw[zam,zbE];omega)]
   .dsimp only
    have hc:=zr hm
    have hkm:=pk m (by omega)
    have hl:=putQ_len n (by omega) _ (zax.1 h.2 _ hc) (hkc _ hc)
    have hl2:=bndQ_le n (by omega)
    rw[zb (by omega:(m:Int)<kids.length),zg,idx_at hm,za,text_spec N hM hN n D (by omega) (by omega) _ (zax.1 h.2 _ hc) (hkc _ hc),za,
     zf (by rw[zbE];omega),zf (by simp only[zam,zbE];omega),zf (fits_nat (n:=m) (by omega))]
  rcases o.kind with rfl|rfl|rfl|rfl|rfl|rfl|rfl|rfl|rfl|rfl
  .rfl
  .have hh:=(head_at (o.w1 (.inl rfl))).1
   simp only[meet,Int.reduceEq,decide_false,decide_true,ze,zg]
   rw[zf (by rw[zbE];omega),hh,za,zf (by simp only[zam,zbE];omega)]
   rfl
  .simp only [meet,Int.reduceEq,decide_false,decide_true,ze,zg]
   rw[zf (by rw[zbE];omega),jn,za,zf (by simp only[zam,zbE];omega),zf (by simp only[zam,zbE];omega),ia,za,zf (by simp only[zam,zbE];omega)]
   rfl
  .have hh:=(head_at (o.w1 (.inr (.inl rfl)))).1
   simp only[meet,Int.reduceEq,decide_false,decide_true,ze,zg]
   rw[zf (by rw[zbE];omega),hh,za,zf (by simp only[zam,zbE];omega),zf (by simp only[zam,zbE];omega),ia,za,zf (by simp only[zam,zbE];omega)]
   rfl
  .have hh:=(head_at (o.w1 (.inr (.inr rfl)))).1
   simp only[meet,Int.reduceEq,decide_false,decide_true,ze,zg]
   rw[zf (by rw[zbE];omega),hh,za,zf (by simp only[zam,zbE];omega)]
   rfl
  .simp only [meet,Int.reduceEq,decide_false,decide_true,ze,zg]
   rw[zf (by rw[zbE];omega),ia,za,zf (by simp only[zam,zbE];omega),zf (by simp only[zam,zbE,zi,zac];omega),ib,za,zf (by simp only[zam,zbE,zi,zac];omega)]
   rfl
  .simp only [meet,Int.reduceEq,decide_false,decide_true,ze,zg]
   rw[zf (by decide)]
   exact loop 7 _ (by decide)
  .simp only [meet,Int.reduceEq,decide_false,decide_true,ze,zg]
   rw[zf (by decide)]
   exact loop 8 _ (by decide)
  .simp only [meet,Int.reduceEq,decide_false,decide_true,ze,zg]
   rw[zf (by decide)]
   exact loop 9 _ (by decide)
  .simp only [meet,Int.reduceEq,decide_false,decide_true,ze,zg]
   rw[zf (by decide),ia,za,zf (by rw[zbE];omega),zf (by
    have e:((mget (.int .i64) .str gm_opNames (10:Int)).getD ([]:List UInt8))=[116,105,109,101,115]:=rfl
    rw[e]
    simp only[zam,zbE,zi,zac];omega)]
   have e:((mget (.int .i64) .str gm_opNames (10:Int)).getD ([]:List UInt8))=[116,105,109,101,115]:=rfl
   rw[e]
   refine(loop 10 _ (by simp only[zam,zbE,zi,zac];omega)).trans ?_
   rfl
theorem queryPut_i (N:Nat) (hM:1048576<N) (hN:N<=16777216) (q:DQ) (hq:BQ 4 q):i_QueryPut_m N q.kind q.field q.words q.lo q.hi q.kids=some (bif okQ 4 q then putQ 4 q else []):=by
 unfold i_QueryPut_m
 rw[queryOk_i N hM (by omega) q hq,za]
 cases h:okQ 4 q with
 |false=>rfl
 |true=>rw[zn,ze,text_spec N hM hN 4 N (by omega) (by omega) q h hq,za];rfl
theorem dec_big (N:Nat) (n':Int) (hN:30<=N) (hN2:N<=16777216) (h0:0<=n') (h1:n'<=999999999):s_l1Dec_m N N n'=some (itoaL n'):=by
 obtain⟨E,rfl⟩:∃E,N=E+1:=⟨N-1,by omega⟩
 unfold itoaL Lib.itoa
 rw[zu (by omega)]
 have e:n'=((n'.toNat:Nat):Int):=by omega
 have hv:(10:Nat)^(9+1)=10000000000:=by decide
 have hp:(10:Nat)^(9+1)<=10^(E+1):=Nat.pow_le_pow_right (by decide) (by omega)
 have:=(dec_nat (E+1) E n'.toNat (by omega) (by omega) (by omega)).1
 rw[<-e]at this
 exact this
theorem qput_spec (N:Nat) (hM:1048576<N) (hN:N<=16777216):∀(n D:Nat),n<=4->n<=D->∀q,okQ n q=true->BQ n q->s_l11Put_m N D q.kind q.field q.words q.lo q.hi q.kids=some (putQ n q)
 |0,_,_,_,q,h,_=>by cases q;simp[okQ]at h
 |n+1,0,_,hd,_,_,_=>absurd hd (by omega)
 |n+1,D+1,hn,hd,.mk k f ws a b kids,h,hb=>by
  unfold okQ at h
  rw[zj]at h
  have P:=Parts.of (by omega) h.1 h.2 hb
  have o:=one_facts h.1
  obtain⟨_,hw,hw2,hkb,hkc⟩:=hb
  have hw2:∀w,w∈ws->w.length<=1048576:=hw2
  obtain⟨pf,ph,pj,pa,pb,pk⟩:=P
  have ia:s_l1Dec_m N N a=some (itoaL a):=dec_big N a (by omega) hN o.a.1 o.a.2
  have ib:s_l1Dec_m N N b=some (itoaL b):=dec_big N b (by omega) hN o.b.1 o.b.2
  have jn:=l11Join_spec N hM (by omega) ws [43] (by have:=o.wn;omega) (by decide) hw2
  have hkl:=o.kn
  have kn:=pk kids.length (zae _)
  rw[zq]at kn
  dsimp only[DQ.kind,DQ.field,DQ.words,DQ.lo,DQ.hi,DQ.kids]
  rw[s_l11Put_m,ia,za,zf (by simp only[zi,zac];omega)]
  have loop:∀(k':Int) (f':List UInt8) (ws':List (List UInt8)) (a' b':Int) (pre:List UInt8),pre.length<=100->iter (fun(go:((List UInt8)×Int×Int×(List UInt8)×(List (List UInt8))×Int×Int×(List DQ))->Option ((List UInt8))) (g:(List UInt8)×Int×Int×(List UInt8)×(List (List UInt8))×Int×Int×(List DQ))=>
    match g with
    |(out,i,q13,q14,q15,q16,q17,q18)=>
    (bif(decide (i<(q18.length:Int)))then
    (if out.length+([32]:List UInt8).length<=9223372036854775807 then
    (Option.bind (idx q18 i) fun(e4:DQ)=>
    (Option.bind (s_l11Put_m N D e4.kind e4.field e4.words e4.lo e4.hi e4.kids) fun(r7:(List UInt8))=>
    (if(out++([32]:List UInt8)).length+r7.length<=9223372036854775807 then
    (if fits (i+1)then(go (((out++([32]:List UInt8))++r7),(i+1),q13,q14,q15,q16,q17,q18))else none)
    else none)))
    else none)
    else
    (if out.length+([41]:List UInt8).length<=9223372036854775807 then
    (some (out++([41]:List UInt8)))
    else none))) N (pre,0,k',f',ws',a',b',kids)=some ((pre++kids.flatMap fun c=>[32]++putQ n c)++ [41]):=fun k' f' ws' a' b' pre hpre=>by
   refine put_kids n kids (by omega) _ (fun out i=>(out,i,k',f',ws',a',b',kids)) pre (fun go=>?_) (fun go m hm=>?_)
   .dsimp only
    rw[zd (zm _),ze,zf (by rw[zam,zbE];omega)]
   .dsimp only
    have hc:=zr hm
    have hkm:=pk m (by omega)
    have hl:=putQ_len n (by omega) _ (zax.1 h.2 _ hc) (hkc _ hc)
    have hl2:=bndQ_le n (by omega)
    rw[zb (by omega:(m:Int)<kids.length),zg,zf (by simp only[zam,zbE];omega),idx_at hm,za,qput_spec N hM hN n D (by omega) (by omega) _ (zax.1 h.2 _ hc) (hkc _ hc),za,
     zf (by simp only[zam,zbE];omega),zf (fits_nat (n:=m) (by omega)),zao (pre++_) [32] _]
  rcases o.kind with rfl|rfl|rfl|rfl|rfl|rfl|rfl|rfl|rfl|rfl
  .rfl
  .have hh:=(head_at (o.w1 (.inl rfl))).1
   simp only[meet,Int.reduceEq,decide_false,decide_true,ze,zg]
   rw[zf (by rw[zbE];omega),hh,za,zf (by simp only[zam,zbE];omega)]
   rfl
  .simp only [meet,Int.reduceEq,decide_false,decide_true,ze,zg]
   rw[zf (by rw[zbE];omega),jn,za,zf (by simp only[zam,zbE];omega),zf (by simp only[zam,zbE];omega),ia,za,zf (by simp only[zam,zbE];omega)]
   rfl
  .have hh:=(head_at (o.w1 (.inr (.inl rfl)))).1
   simp only[meet,Int.reduceEq,decide_false,decide_true,ze,zg]
   rw[zf (by rw[zbE];omega),hh,za,zf (by simp only[zam,zbE];omega),zf (by simp only[zam,zbE];omega),ia,za,zf (by simp only[zam,zbE];omega)]
   rfl
  .have hh:=(head_at (o.w1 (.inr (.inr rfl)))).1
   simp only[meet,Int.reduceEq,decide_false,decide_true,ze,zg]
   rw[zf (by rw[zbE];omega),hh,za,zf (by simp only[zam,zbE];omega)]
   rfl
  .simp only [meet,Int.reduceEq,decide_false,decide_true,ze,zg]
   rw[zf (by rw[zbE];omega),ia,za,zf (by simp only[zam,zbE];omega),zf (by simp only[zam,zbE,zi,zac];omega),ib,za,zf (by simp only[zam,zbE,zi,zac];omega)]
   rfl
  .simp only [meet,Int.reduceEq,decide_false,decide_true,ze,zg]
   rw[show idx [([]:List UInt8),[],[],[],[],[],[],[97,110,100],[111,114],[108,101,115,115],[116,105,109,101,115,32]++itoaL a] 7=some [97,110,100]from rfl,za,zf (by decide)]
   exact loop 7 _ _ _ _ _ (by decide)
  .simp only [meet,Int.reduceEq,decide_false,decide_true,ze,zg]
   rw[show idx [([]:List UInt8),[],[],[],[],[],[],[97,110,100],[111,114],[108,101,115,115],[116,105,109,101,115,32]++itoaL a] 8=some [111,114]from rfl,za,zf (by decide)]
   exact loop 8 _ _ _ _ _ (by decide)
  .simp only [meet,Int.reduceEq,decide_false,decide_true,ze,zg]
   rw[show idx [([]:List UInt8),[],[],[],[],[],[],[97,110,100],[111,114],[108,101,115,115],[116,105,109,101,115,32]++itoaL a] 9=some [108,101,115,115]from rfl,za,zf (by decide)]
   exact loop 9 _ _ _ _ _ (by decide)
  .simp only [meet,Int.reduceEq,decide_false,decide_true,ze,zg]
   rw[show idx [([]:List UInt8),[],[],[],[],[],[],[97,110,100],[111,114],[108,101,115,115],[116,105,109,101,115,32]++itoaL a] 10=some ([116,105,109,101,115,32]++itoaL a)from rfl,za,zf (by simp only[zam,zi,zac];omega)]
   exact loop 10 _ _ _ _ _ (by simp only[zam,zi,zac];omega)
theorem within_specP (N:Nat) (n a b:Int):i_within_m N n a b=some (decide (a<=n/\n<=b)):=by
 unfold i_within_m
 by_cases h:a<=n<;>simp[h]
theorem l1In_specP (N:Nat) (n a b:Int):s_l1In_m N n a b=some (decide (a<=n/\n<=b)):=by
 unfold s_l1In_m
 by_cases h:a<=n<;>simp[h]
abbrev DHit2 :=Int×Int
abbrev DItem2 :=List UInt8×List (Int×Int)
def findFrom (ask:List UInt8):List DItem2->Int->Int
 | [],_=> -1
 |x::xs,i=>if x.1=ask then i else findFrom ask xs (i+1)
theorem find_spec (N:Nat) (c c2:Int) (xs:List DItem2) (ask:List UInt8) (h:xs.length<N) (hl:(xs.length:Int)<=9223372036854775806):i_Cache_find_m N c c2 xs ask=some (findFrom ask xs 0):=by
 unfold i_Cache_find_m
 refine(iter_scan _ xs.length (fun n=>(ask,xs,(xs.length:Int),(n:Int))) (fun n=>some (findFrom ask (xs.drop n) n)) (fun go=>?_) (fun go n hn hgo=>?_) N 0 (zaf _) (by omega)).trans (by simp)
 .simp [findFrom]
 .have hn':(n:Int)<xs.length:=by omega
  dsimp only
  rw[zb hn',zg,idx_at hn,za,zan hn]
  by_cases hx:xs[n].1=ask
  .rw [zb hx,zg,findFrom,zf hx]
  .rw [zd hx,ze,zf (fits_nat (n:=n) (by omega)),findFrom,zu hx]
   simp only[cast_succ']at hgo
   exact hgo
def docIn (d:Int) (xs:List DHit2):Bool:=xs.any fun x=>decide (x.1=d)
def findDoc (d:Int):List DHit2->Int->Int
 | [],_=> -1
 |x::xs,i=>if x.1=d then i else findDoc d xs (i+1)
theorem findDoc_pos (d:Int):∀(xs:List DHit2) (i:Int),0<=i->(decide (0<=findDoc d xs i))=docIn d xs
 | [],i,_=>rfl
 |x::xs,i,h=>by
  simp only[findDoc,docIn,zb3]
  by_cases e:x.1=d
  .simp [e,h]
  .simp only [e,if_false,decide_false,zbf]
   exact findDoc_pos d xs (i+1) (by omega)
theorem hasDoc_spec (N:Nat) (xs:List DHit2) (d:Int) (h:xs.length<N) (hl:(xs.length:Int)<=9223372036854775806):i_hasDoc_m N xs d=some (docIn d xs):=by
 have h1:k_slices_IndexFunc_200_m N xs d=some (findDoc d xs 0):=by
  unfold k_slices_IndexFunc_200_m
  refine(iter_scan _ xs.length (fun n=>(xs,d,(xs.length:Int),(n:Int))) (fun n=>some (findDoc d (xs.drop n) n)) (fun go=>?_) (fun go n hn hgo=>?_) N 0 (zaf _) (by omega)).trans (by simp)
  .simp [findDoc]
  .have hn':(n:Int)<xs.length:=by omega
   dsimp only
   rw[zb hn',zg,idx_at hn,za,i_hasDoc_1_m,za,zan hn]
   by_cases hx:xs[n].1=d
   .rw [zb hx,zg,findDoc,zf hx]
   .rw [zd hx,ze,zf (fits_nat (n:=n) (by omega)),findDoc,zu hx]
    simp only[cast_succ']at hgo
    exact hgo
 simp only[i_hasDoc_m,k_slices_ContainsFunc_50_m,h1,za,findDoc_pos d xs 0 (zbD _)]
theorem cmp_specP (N:Nat) (x y:Int):k_cmp_Compare_992_m N x y=some (if x<y then-1 else if y<x then 1 else 0):=by
 simp only[k_cmp_Compare_992_m,k_cmp_isNaN_538_m,za,decide_true,zn,ze]
 by_cases h:x<y
 .simp [h]
 .by_cases h2:y<x<;>simp[h,h2]
theorem or_spec (M:Nat) (x y:Int):k_cmp_Or_892_m (M+3) [x,y]=some (if x=0 then y else x):=by
 unfold k_cmp_Or_892_m
 by_cases h:x=0
 .by_cases h2:y=0<;>simp[iter,idx,h,h2,fits]
 .simp [iter,idx,h]
def aheadH (x y:DHit2):Bool:=decide (y.2<x.2\/x.2=y.2/\x.1<y.1)
theorem order_spec (M:Nat) (x y:DHit2):∃r,i_hitOrder_m (M+3) x.1 x.2 y.1 y.2=some r/\(decide (0<=r))= !aheadH x y:=by
 simp only[i_hitOrder_m,cmp_specP,za,or_spec]
 refine⟨_,rfl,?_⟩
 unfold aheadH
 by_cases h1:y.2<x.2
 .simp [h1]
 .by_cases h2:x.2<y.2
  .have:¬(x.2=y.2):=by omega
   simp[h1,h2,this]
  .have e:x.2=y.2:=by omega
   by_cases h3:x.1<y.1
   .simp [e,h3]
   .by_cases h4:y.1<x.1<;>simp[e,h3,h4]
theorem less_specP (N:Nat) (x y:DHit2):s_l13Less_m N x.1 x.2 y.1 y.2=some (aheadH x y):=by
 unfold s_l13Less_m aheadH
 by_cases h1:y.2<x.2
 .simp [h1]
 .by_cases h2:x.2=y.2<;>simp[h1,h2]
def okAt (xs:List DHit2) (n:Nat) (x:DHit2):Bool:=decide (1<=x.1/\x.1<=9999)&& !decide (x.2<1)&& !docIn x.1 (xs.take n)&&(decide (n=0)||(match xs[n-1]? with|some y=>aheadH y x|none=>false))
def okFrom (xs:List DHit2):List DHit2->Nat->Bool
 | [],_=>decide ((xs.length:Int)<=16)
 |x::l,n=>okAt xs n x&&okFrom xs l (n+1)
theorem hitsOk_spec (M:Nat) (xs:List DHit2) (h:xs.length<M+3) (hl:(xs.length:Int)<=9223372036854775806):i_HitsOk_m (M+3) xs=some (okFrom xs xs 0):=by
 unfold i_HitsOk_m
 refine(iter_scan _ xs.length (fun n=>(xs,xs,(xs.length:Int),(n:Int))) (fun n=>some (okFrom xs (xs.drop n) n)) (fun go=>?_) (fun go n hn hgo=>?_) (M+3) 0 (zaf _) (by omega)).trans (by simp)
 .simp [okFrom]
 .have hn':(n:Int)<xs.length:=by omega
  dsimp only
  rw[zb hn',zg,idx_at hn,za,within_specP,za,zan hn,okFrom,okAt]
  by_cases h1:1<=xs[n].1/\xs[n].1<=9999
  .rw [zb h1,zn,ze,zaj]
   by_cases h2:xs[n].2<1
   .rw [zb h2,zg];rfl
   .have hs:i_hasDoc_m (M+3) (xs.take n) xs[n].1=some (docIn xs[n].1 (xs.take n)):=hasDoc_spec _ _ _ (by simp;omega) (by simp;omega)
    rw[zd h2,ze,cut_spec xs n (by omega),za,hs,za]
    cases h3:docIn xs[n].1 (xs.take n)with
    |true=>rfl
    |false=>
     rw[ze]
     by_cases h4:n=0
     .subst h4
      rw[show(decide ((0:Int)<((0:Nat):Int)))=false from rfl,ze,zf (fits_nat (n:=0) (by omega))]
      simp only[zaI,zaj,decide_true,zbV]
      simp only[cast_succ']at hgo
      exact hgo
     .have hp:(0:Int)<(n:Int):=by omega
      have e1:(n:Int)-1=((n-1:Nat):Int):=by omega
      have hlt:n-1<xs.length:=by omega
      obtain⟨r,hr,hr2⟩:=order_spec M xs[n-1] xs[n]
      have hfit:fits (((n-1:Nat):Int)):=by unfold fits;omega
      rw[zb hp,zg,e1,zf hfit,idx_at hlt,za,hr,za,hr2,zf (fits_nat (n:=n) (by omega)),zd h4,zc hlt]
      cases hah:aheadH xs[n-1] xs[n]with
      |true=>
       simp only[cast_succ']at hgo
       rw[zn,ze,hgo]
       simp[hah]
      |false=>
       rw[zaI,zg]
       simp[hah]
  .rw [zd h1];rfl
def fewHits (M:Nat) (xs:List DItem2):Prop:=∀x,x∈xs->x.2.length<M
theorem docIn_cons {xs:List DHit2} {n k:Nat} (d:Int) (h:k<n) (hn:n<=xs.length):docIn d ((xs.take n).drop k)=(decide ((xs[k]'(by omega)).1=d)||docIn d ((xs.take n).drop (k+1))):=by
 have hk:k<(xs.take n).length:=by simp;omega
 rw[zan hk]
 simp[docIn,zb3]
theorem l13inner (N:Nat) (go:List DHit2×Int->Option Bool) (xs:List DHit2) (n:Nat) (hn:n<xs.length) (t u:Bool) (h:n<N) (hl:(xs.length:Int)<=9223372036854775806):
  (iter (fun(go2:((List (Int×Int))×Int×Int×Bool×Bool)->Option Bool) (g:(List (Int×Int))×Int×Int×Bool×Bool)=>
   match g with
   |(list3,i2,k,t24,t41)=>
   (bif(decide (k<i2))then
    (Option.bind (idx list3 k) fun(e5:Int×Int)=>
     (Option.bind (idx list3 i2) fun(e6:Int×Int)=>
      (bif(decide (e5.1=e6.1))then
       (some false)
       else
       (if fits (k+1)then(go2 (list3,i2,(k+1),t24,t41))else none))))
    else
    (if fits (i2+1)then(go (list3,(i2+1)))else none))) N (xs,(n:Int),0,t,u))=bif docIn xs[n].1 (xs.take n)then some false else go (xs,(n:Int)+1):=by
 refine(iter_scan _ n (fun k=>(xs,(n:Int),(k:Int),t,u)) (fun k=>bif docIn xs[n].1 ((xs.take n).drop k)then some false else go (xs,(n:Int)+1)) (fun go2=>?_) (fun go2 k hk hgo=>?_) N 0 (zaf _) (by omega)).trans (by simp)
 .have e1:(xs.take n).drop n=[]:=by simp
  dsimp only
  rw[zd (zm _),ze,zf (fits_nat (n:=n) (by omega)),e1]
  rfl
 .have hk':(k:Int)<(n:Int):=by omega
  have hkl:k<xs.length:=by omega
  dsimp only
  rw[zb hk',zg,idx_at hkl,za,idx_at hn,za,docIn_cons _ hk (by omega)]
  by_cases hd:xs[k].1=xs[n].1
  .rw [zb hd,zg,zbV,zg]
  .rw [zd hd,ze,zf (fits_nat (n:=k) (by omega)),zbf]
   simp only[cast_succ']at hgo
   exact hgo
theorem l13Ok_spec (N:Nat) (xs:List DHit2) (h:xs.length<N) (hl:(xs.length:Int)<=9223372036854775806):s_l13Ok_m N xs=some (okFrom xs xs 0):=by
 unfold s_l13Ok_m
 refine(iter_scan _ xs.length (fun n=>(xs,(n:Int))) (fun n=>some (okFrom xs (xs.drop n) n)) (fun go=>?_) (fun go n hn hgo=>?_) N 0 (zaf _) (by omega)).trans (by simp)
 .simp [okFrom]
 .have hn':(n:Int)<xs.length:=by omega
  simp only[cast_succ']at hgo
  have fin:(bif docIn xs[n].1 (xs.take n)then some false else go (xs,(n:Int)+1))=some (!docIn xs[n].1 (xs.take n)&&okFrom xs (xs.drop (n+1)) (n+1)):=by
   rw[hgo]
   cases docIn xs[n].1 (xs.take n)<;>rfl
  dsimp only
  rw[zb hn',zg,idx_at hn,za,l1In_specP,za,za,zan hn,okFrom,okAt]
  by_cases h1:1<=xs[n].1/\xs[n].1<=9999
  .rw [zb h1,zn,ze,zaj]
   by_cases h2:xs[n].2<1
   .rw [zb h2,zg];rfl
   .rw [zd h2,ze]
    by_cases h4:n=0
    .subst h4
     rw[show(decide ((0:Int)<((0:Nat):Int)))=false from rfl,ze]
     refine(l13inner N go xs 0 hn _ _ (by omega) hl).trans (fin.trans ?_)
     simp
    .have hp:(0:Int)<(n:Int):=by omega
     have e1:(n:Int)-1=((n-1:Nat):Int):=by omega
     have hlt:n-1<xs.length:=by omega
     have hfit:fits (((n-1:Nat):Int)):=by unfold fits;omega
     rw[zb hp,zg,e1,zf hfit,idx_at hlt,za,za,less_specP,za,zd h4,zc hlt]
     cases hah:aheadH xs[n-1] xs[n]with
     |true=>
      rw[zn,ze]
      refine(l13inner N go xs n hn _ _ (by omega) hl).trans (fin.trans ?_)
      simp[hah]
     |false=>
      rw[zaI,zg]
      simp[hah]
  .rw [zd h1];rfl
def askIn (a:List UInt8) (xs:List DItem2):Bool:=xs.any fun x=>decide (x.1=a)
theorem find_at :∀(xs:List DItem2) (i n:Nat) (hn:n<xs.length),(decide (findFrom xs[n].1 xs (i:Int)=((i+n:Nat):Int)))= !askIn xs[n].1 (xs.take n)
 | [],_,_,h=>absurd h (zbN _)
 |x::xs,i,0,_=>by simp[findFrom,askIn]
 |x::xs,i,n+1,h=>by
  have hn:n<xs.length:=by simpa using h
  simp only[List.getElem_cons_succ,findFrom,zbG]
  by_cases e:x.1=xs[n].1
  .have h1:¬((i:Int)=((i+(n+1):Nat):Int)):=by omega
   simp only[zf e,zd h1,askIn,zb3,zb e,zbV,zn]
  .have ih:=find_at xs (i+1) n hn
   have e2:((i+1+n:Nat):Int)=((i+(n+1):Nat):Int):=by omega
   rw[e2,cast_succ']at ih
   simp only[zu e,askIn,zb3,zd e,zbf]
   exact ih
def okItem (xs:List DItem2) (n:Nat) (x:DItem2):Bool:= !decide (x.1=[])&&okFrom x.2 x.2 0&& !askIn x.1 (xs.take n)
def okItems (xs:List DItem2):List DItem2->Nat->Bool
 | [],_=>true
 |x::l,n=>okItem xs n x&&okItems xs l (n+1)
def okCache (c g:Int) (xs:List DItem2):Bool:=decide (1<=c/\c<=5)&&decide (0<=g/\g<=999999999)&&decide ((xs.length:Int)<=c)&&okItems xs xs 0
theorem cacheOk_spec (M:Nat) (c g:Int) (xs:List DItem2) (h:xs.length<M+3) (hN:(M:Int)<=9223372036854775000) (hf:fewHits (M+3) xs):i_CacheOk_m (M+3) c g xs=some (okCache c g xs):=by
 unfold i_CacheOk_m okCache
 rw[within_specP,za,within_specP,za]
 cases h1:decide (1<=c/\c<=5)with
 |false=>rfl
 |true=>
  cases h2:decide (0<=g/\g<=999999999)with
  |false=>rfl
  |true=>
   rw[zn,ze,ze]
   by_cases h3:c<(xs.length:Int)
   .have h3':¬(xs.length:Int)<=c:=by omega
    rw[zb h3,zg,zd h3'];rfl
   .have h3':(xs.length:Int)<=c:=by omega
    rw[zd h3,ze,zb h3',zaj,zaj,zaj]
    refine(iter_scan _ xs.length (fun n=>(xs,(xs.length:Int),(n:Int),c,g,xs)) (fun n=>some (okItems xs (xs.drop n) n)) (fun go=>?_) (fun go n hn hgo=>?_) (M+3) 0 (zaf _) (by omega)).trans (by simp)
    .simp [okItems]
    .have hn':(n:Int)<xs.length:=by omega
     have hx:=hf xs[n] (zr hn)
     simp only[cast_succ']at hgo
     dsimp only
     rw[zb hn',zg,idx_at hn,za,zan hn,okItems,okItem,hitsOk_spec M _ hx (by omega),za,find_spec (M+3) c g xs _ h (by omega),za]
     cases h4:decide (xs[n].1=[])with
     |true=>rfl
     |false=>
      rw[ze]
      cases h5:okFrom xs[n].2 xs[n].2 0 with
      |false=>rfl
      |true=>
       have h6:decide (findFrom xs[n].1 xs 0=(n:Int))= !askIn xs[n].1 (xs.take n):=by
        have h7:=find_at xs 0 n hn
        rw[zaY]at h7
        exact h7
       rw[zn,ze,h6,zf (fits_nat (n:=n) (by omega)),hgo]
       cases askIn xs[n].1 (xs.take n)<;>rfl
theorem askIn_cons {xs:List DItem2} {n k:Nat} (a:List UInt8) (h:k<n) (hn:n<=xs.length):askIn a ((xs.take n).drop k)=(decide ((xs[k]'(by omega)).1=a)||askIn a ((xs.take n).drop (k+1))):=by
 have hk:k<(xs.take n).length:=by simp;omega
 rw[zan hk]
 simp[askIn,zb3]
theorem l24inner (N:Nat) (go:Int×Int×Int×List DItem2->Option Bool) (c g0:Int) (xs:List DItem2) (n:Nat) (hn:n<xs.length) (t:Bool) (h:n<N) (hl:(xs.length:Int)<=9223372036854775806):
  (iter (fun(go2:(Int×Int×Bool×Int×Int×(List ((List UInt8)×(List (Int×Int)))))->Option Bool) (g:Int×Int×Bool×Int×Int×(List ((List UInt8)×(List (Int×Int)))))=>
   match g with
   |(i2,k,t27,c7,c8,c9)=>
   (bif(decide (k<i2))then
    (Option.bind (idx c9 k) fun(e3:(List UInt8)×(List (Int×Int)))=>
     (Option.bind (idx c9 i2) fun(e4:(List UInt8)×(List (Int×Int)))=>
      (bif(decide (e3.1=e4.1))then
       (some false)
       else
       (if fits (k+1)then(go2 (i2,(k+1),t27,c7,c8,c9))else none))))
    else
    (if fits (i2+1)then(go ((i2+1),c7,c8,c9))else none))) N ((n:Int),0,t,c,g0,xs))=bif askIn xs[n].1 (xs.take n)then some false else go ((n:Int)+1,c,g0,xs):=by
 refine(iter_scan _ n (fun k=>((n:Int),(k:Int),t,c,g0,xs)) (fun k=>bif askIn xs[n].1 ((xs.take n).drop k)then some false else go ((n:Int)+1,c,g0,xs)) (fun go2=>?_) (fun go2 k hk hgo=>?_) N 0 (zaf _) (by omega)).trans (by simp)
 .have e1:(xs.take n).drop n=[]:=by simp
  dsimp only
  rw[zd (zm _),ze,zf (fits_nat (n:=n) (by omega)),e1]
  rfl
 .have hk':(k:Int)<(n:Int):=by omega
  have hkl:k<xs.length:=by omega
  dsimp only
  rw[zb hk',zg,idx_at hkl,za,idx_at hn,za,askIn_cons _ hk (by omega)]
  by_cases hd:xs[k].1=xs[n].1
  .rw [zb hd,zg,zbV,zg]
  .rw [zd hd,ze,zf (fits_nat (n:=k) (by omega)),zbf]
   simp only[cast_succ']at hgo
   exact hgo
theorem l24Ok_spec (N:Nat) (c g:Int) (xs:List DItem2) (h:xs.length<N) (hN:(N:Int)<=9223372036854775000) (hf:fewHits N xs):s_l24Ok_m N c g xs=some (okCache c g xs):=by
 unfold s_l24Ok_m
 refine(iter_scan _ xs.length (fun n=>((n:Int),c,g,xs)) (fun n=>some (okItems xs (xs.drop n) n&&(decide (1<=c/\c<=5)&&decide ((xs.length:Int)<=c)&&decide (0<=g/\g<=999999999)))) (fun go=>?_) (fun go n hn hgo=>?_) N 0 (zaf _) (by omega)).trans ?_
 .dsimp only
  rw[zd (zm _),ze,l1In_specP,za,zbp,okItems,zaj]
  cases h1:decide (1<=c/\c<=5)with
  |false=>rfl
  |true=>
   rw[zg,zaj]
   cases h2:decide ((xs.length:Int)<=c)with
   |false=>rfl
   |true=>rw[zg,l1In_specP,za,zaj]
 .have hn':(n:Int)<xs.length:=by omega
  have hx:=hf xs[n] (zr hn)
  simp only[cast_succ']at hgo
  dsimp only
  rw[zb hn',zg,idx_at hn,za,zan hn,okItems,okItem,za,l13Ok_spec N _ hx (by omega),za]
  cases h4:decide (xs[n].1=[])with
  |true=>rfl
  |false=>
   rw[ze]
   cases h5:okFrom xs[n].2 xs[n].2 0 with
   |false=>rfl
   |true=>
    rw[zn,ze]
    refine(l24inner N go c g xs n hn _ (by omega) (by omega)).trans ?_
    rw[hgo]
    cases askIn xs[n].1 (xs.take n)<;>rfl
 .rw [zbQ]
  unfold okCache
  cases okItems xs xs 0<;>cases decide (1<=c/\c<=5)<;>cases decide (0<=g/\g<=999999999)<;>cases decide ((xs.length:Int)<=c)<;>rfl
def others (ask:List UInt8) (xs:List DItem2):List DItem2:=xs.filter fun x=> !decide (x.1=ask)
theorem others_take (ask:List UInt8) (xs:List DItem2) (n:Nat) (h:n<xs.length):others ask (xs.take (n+1))=others ask (xs.take n)++(if xs[n].1=ask then []else [xs[n]]):=by
 unfold others
 rw[zo h,za6]
 congr 1
 by_cases e:xs[n].1=ask<;>simp[e]
theorem without_spec (N:Nat) (c c2:Int) (xs:List DItem2) (ask:List UInt8) (h:xs.length<N) (hN:N<=1099511627776) (hf:fewHits N xs):i_Cache_without_m N c c2 xs ask=some (others ask xs):=by
 unfold i_Cache_without_m
 refine(iter_scan _ xs.length (fun n=>(ask,others ask (xs.take n),xs,(xs.length:Int),(n:Int))) (fun n=>some (others ask xs)) (fun go=>?_) (fun go n hn hgo=>?_) N 0 (zaf _) (by omega))
 .dsimp only
  rw[zd (zm _),ze,zq]
 .have hn':(n:Int)<xs.length:=by omega
  have hx:=hf xs[n] (zr hn)
  have hol:(others ask (xs.take n)).length<=n:=by
   have:=zbh (fun x:DItem2=> !decide (x.1=ask)) (xs.take n)
   simp only[zah]at this
   unfold others
   omega
  simp only[cast_succ']at hgo
  rw[others_take ask xs n hn]at hgo
  dsimp only
  rw[zb hn',zg,idx_at hn,za]
  by_cases e:xs[n].1=ask
  .rw [zf e,zat]at hgo
   rw[zb e,zn,ze,zf (fits_nat (n:=n) (by omega))]
   exact hgo
  .rw [zu e]at hgo
   rw[zd e,zaI,zg,zf (room_of (by simp only[zac];omega) (by simp only[zac];omega)),zf (room_of (by simp only[zi,zac];omega) (by simp only[zi,zac];omega)),zf (fits_nat (n:=n) (by omega)),zaW]
   exact hgo
theorem copy_spec (N:Nat) (c c2:Int) (xs:List DItem2) (h:xs.length<N) (hN:N<=1099511627776) (hf:fewHits N xs):s_l24Copy_m N c c2 xs=some (c,c2,xs):=by
 unfold s_l24Copy_m
 refine(iter_scan _ xs.length (fun n=>((n:Int),c,c2,xs,0,0,c,c2,xs.take n)) (fun n=>some (c,c2,xs)) (fun go=>?_) (fun go n hn hgo=>?_) N 0 (zaf _) (by omega))
 .dsimp only
  rw[zd (zm _),ze,zq]
 .have hn':(n:Int)<xs.length:=by omega
  have hx:=hf xs[n] (zr hn)
  have hol:(xs.take n).length<=n:=by simp only[zah];omega
  simp only[cast_succ']at hgo
  rw[zo hn]at hgo
  dsimp only
  rw[zb hn',zg,idx_at hn,za,za,zf (room_of (by simp only[zac];omega) (by simp only[zac];omega)),zf (room_of (by simp only[zi,zac];omega) (by simp only[zi,zac];omega)),zf (fits_nat (n:=n) (by omega)),zaW]
  exact hgo
theorem okItems_at (xs:List DItem2):∀(l:List DItem2) (n i:Nat) (hi:i<l.length),okItems xs l n=true->okItem xs (n+i) l[i]=true
 | [],_,_,h,_=>absurd h (zbN _)
 |x::l,n,0,_,h=>by simp only[okItems,zj]at h;exact h.1
 |x::l,n,i+1,hi,h=>by
  simp only[okItems,zj]at h
  have:=okItems_at xs l (n+1) i (by simpa using hi) h.2
  rw[show n+(i+1)=n+1+i by omega]
  exact this
theorem ok_ask {xs:List DItem2} (h:okItems xs xs 0=true) {i:Nat} (hi:i<xs.length):xs[i].1≠ []:=by
 have:=okItems_at xs xs 0 i hi h
 simp only[okItem,zj]at this
 simpa using this.1.1
theorem ok_once {xs:List DItem2} (h:okItems xs xs 0=true) {i k:Nat} (hi:i<xs.length) (hk:k<i):xs[k].1≠xs[i].1:=by
 have:=okItems_at xs xs 0 i hi h
 simp only[okItem,zj,zaY,askIn,zb2,zb0]at this
 have h2:=this.2 xs[k] (by
  rw[List.mem_take_iff_getElem]
  exact⟨k,by omega,rfl⟩)
 simpa using h2
theorem others_none {xs:List DItem2} (h:okItems xs xs 0=true):others [] xs=xs:=by
 unfold others
 rw[List.filter_eq_self]
 intro x hx
 obtain⟨i,hi,rfl⟩:=zav.1 hx
 simpa using ok_ask h hi
theorem others_at {xs:List DItem2} (h:okItems xs xs 0=true) {i:Nat} (hi:i<xs.length):others xs[i].1 xs=xs.take i++xs.drop (i+1):=by
 have e:xs=xs.take i++xs[i]::xs.drop (i+1):=by
  rw[<-zan hi,zaR]
 have h1:others xs[i].1 (xs.take i)=xs.take i:=by
  unfold others
  rw[List.filter_eq_self]
  intro x hx
  obtain⟨k,hk,rfl⟩:=zav.1 hx
  have hk':k<i:=by simp at hk;omega
  have:=ok_once h hi hk'
  simpa using this
 have h2:others xs[i].1 (xs.drop (i+1))=xs.drop (i+1):=by
  unfold others
  rw[List.filter_eq_self]
  intro x hx
  obtain⟨k,hk,rfl⟩:=zav.1 hx
  simp only[zaQ]at hk
  have:=ok_once h (i:=i+1+k) (k:=i) (by omega) (by omega)
  simp only[List.getElem_drop]
  simpa using fun e=>this e.symm
 have h3:others xs[i].1 xs=others xs[i].1 (xs.take i++xs[i]::xs.drop (i+1)):=by rw[<-e]
 rw[h3]
 unfold others at h1 h2⊢
 rw[za6,za9,h1,h2]
 simp
theorem find_pos :∀(a:List UInt8) (xs:List DItem2) (i:Nat),(findFrom a xs (i:Int)=-1/\askIn a xs=false)\/ ∃n:Nat,∃hn:n<xs.length,findFrom a xs (i:Int)=((i+n:Nat):Int)/\xs[n].1=a/\askIn a (xs.take n)=false
 |a,[],i=>.inl ⟨rfl,rfl⟩
 |a,x::xs,i=>by
  by_cases e:x.1=a
  .exact .inr ⟨0,by simp,by simp[findFrom,e],e,rfl⟩
  .rcases find_pos a xs (i+1)with⟨h1,h2⟩|⟨n,hn,h1,h2,h3⟩
   .rw [cast_succ']at h1
    exact .inl ⟨by simp only[findFrom,zu e];exact h1,by simp only[askIn,zb3,zd e,zbf];exact h2⟩
   .rw [cast_succ']at h1
    refine .inr ⟨n+1,by simpa using hn,?_,h2,?_⟩
    .simp only [findFrom,zu e]
     rw[h1];omega
    .simp only [zbG,askIn,zb3,zd e,zbf]
     exact h3
theorem okCache_items {c g:Int} {xs:List DItem2} (h:okCache c g xs=true):okItems xs xs 0=true:=by
 simp only[okCache,zj]at h;exact h.2
inductive Got (c g:Int) (xs:List DItem2) (ask:List UInt8) (gen:Int):Int×Int×List DItem2×List DHit2×Bool->Prop
 |bad (h:okCache c g xs=false):Got c g xs ask gen (0,0,[],[],false)
 |none (h:okCache c g xs=true) (hn:gen≠g\/askIn ask xs=false):Got c g xs ask gen (c,g,xs,[],false)
 |got (h:okCache c g xs=true) (hg:gen=g) (n:Nat) (hn:n<xs.length) (ha:xs[n].1=ask):Got c g xs ask gen (c,g,xs[n]::(xs.take n++xs.drop (n+1)),xs[n].2,true)
theorem implGet_spec (M:Nat) (c g:Int) (xs:List DItem2) (ask:List UInt8) (gen:Int) (h:xs.length<M+3) (hN:M+3<=1099511627776) (hf:fewHits (M+3) xs):∃r,i_CacheGet_m (M+3) c g xs ask gen=some r/\Got c g xs ask gen r:=by
 unfold i_CacheGet_m
 rw[cacheOk_spec M c g xs h (by omega) hf,za]
 cases hok:okCache c g xs with
 |false=>exact⟨_,rfl,.bad hok⟩
 |true=>
  have hit:=okCache_items hok
  rw[zn,ze,find_spec (M+3) c g xs ask h (by omega),za,without_spec (M+3) c g xs [] h hN hf,others_none hit]
  by_cases hg:gen=g
  .rw [zb hg,zn,ze]
   rcases find_pos ask xs 0 with⟨h1,h2⟩|⟨n,hn,h1,h2,h3⟩
   .have h1':findFrom ask xs 0=-1:=h1
    rw[h1']
    exact⟨_,rfl,.none hok (.inr h2)⟩
   .have h1':findFrom ask xs 0=(n:Int):=by
     have:findFrom ask xs 0=((0+n:Nat):Int):=h1
     rwa[zaY]at this
    have hneg:¬(n:Int)<0:=by omega
    have hx:=hf xs[n] (zr hn)
    have ho:=others_at hit hn
    rw[h2]at ho
    rw[h1',zd hneg,ze,idx_at hn,za,zf (room_of (by simp only[zac];omega) (by simp only[zac];omega)),without_spec (M+3) c g xs ask h hN hf,za,ho,
     zf (room_of (by simp only[zi,zac,zam,zah,zaQ];omega) (by simp only[zi,zac,zam,zah,zaQ];omega))]
    rw[zf (room_of (by simp only[zac];omega) (by simp only[zac];omega))]
    refine⟨_,rfl,?_⟩
    have e:(ask,([]:List DHit2)++xs[n].2)=xs[n]:=by rw[zaW,<-h2]
    rw[e]
    exact .got hok hg n hn h2
  .rw [zd hg,zaI,zg]
   exact⟨_,rfl,.none hok (.inl hg)⟩
theorem cut_tailP {α:Type} (xs:List α) (n:Nat) (h:n<=xs.length):cut xs (n:Int) (xs.length:Int)=some (xs.drop n):=by
 unfold cut
 rw[zf (by omega)]
 simp
theorem specGet_spec (M:Nat) (c g:Int) (xs:List DItem2) (ask:List UInt8) (gen:Int) (h:xs.length<M+3) (hN:M+3<=1099511627776) (hf:fewHits (M+3) xs):∃r,s_CacheGet_m (M+3) c g xs ask gen=some r/\Got c g xs ask gen r:=by
 unfold s_CacheGet_m
 rw[l24Ok_spec (M+3) c g xs h (by omega) hf,za]
 cases hok:okCache c g xs with
 |false=>exact⟨_,rfl,.bad hok⟩
 |true=>
  rw[zn,ze,copy_spec (M+3) c g xs h hN hf,za]
  by_cases hg:gen=g
  .rcases find_pos ask xs 0 with⟨h1,h2⟩|⟨m,hm,h1,h2,h3⟩
   .refine ⟨(c,g,xs,[],false),?_,.none hok (.inr h2)⟩
    refine(iter_scan _ xs.length (fun n=>(ask,gen,(n:Int),c,g,xs,0,0,c,g,xs)) (fun n=>some (c,g,xs,[],false)) (fun go=>?_) (fun go n hn hgo=>?_) (M+3) 0 (zaf _) (by omega))
    .dsimp only
     rw[zd (zm _),ze]
    .have hn':(n:Int)<xs.length:=by omega
     have hne:¬xs[n].1=ask:=by
      simp only[askIn,zb0]at h2
      simpa using h2 xs[n] (zr hn)
     simp only[cast_succ']at hgo
     dsimp only
     rw[zb hn',zg,zb hg,zg,idx_at hn,za,zd hne,ze,zf (fits_nat (n:=n) (by omega))]
     exact hgo
   .refine ⟨(c,g,xs[m]::(xs.take m++xs.drop (m+1)),xs[m].2,true),?_,.got hok hg m hm h2⟩
    have hx:=hf xs[m] (zr hm)
    refine(iter_scan _ m (fun n=>(ask,gen,(n:Int),c,g,xs,0,0,c,g,xs)) (fun n=>some (c,g,xs[m]::(xs.take m++xs.drop (m+1)),xs[m].2,true)) (fun go=>?_) (fun go n hn hgo=>?_) (M+3) 0 (zaf _) (by omega))
    .have hm':(m:Int)<xs.length:=by omega
     have ec:cut xs ((m:Int)+1) (xs.length:Int)=some (xs.drop (m+1)):=by
      rw[<-cast_succ'];exact cut_tailP xs (m+1) (by omega)
     dsimp only
     rw[zb hm',zg,zb hg,zg,idx_at hm,za,zb h2,zg,za,cut_spec xs m (by omega),za,
      zf (room_of (by simp only[zi,zac,zah];omega) (by simp only[zi,zac,zah];omega)),zf (fits_nat (n:=m) (by omega)),ec,za,
      zf (room_of (by simp only[zi,zac,zam,zah,zaQ];omega) (by simp only[zi,zac,zam,zah,zaQ];omega)),
      zf (room_of (by simp only[zac];omega) (by simp only[zac];omega))]
     rfl
    .have hml:n<xs.length:=by omega
     have hn':(n:Int)<xs.length:=by omega
     have hne:¬xs[n].1=ask:=by
      simp only[askIn,zb0]at h3
      simpa using h3 xs[n] (by rw[List.mem_take_iff_getElem];exact⟨n,by omega,rfl⟩)
     simp only[cast_succ']at hgo
     dsimp only
     rw[zb hn',zg,zb hg,zg,idx_at hml,za,zd hne,ze,zf (fits_nat (n:=n) (by omega))]
     exact hgo
  .refine ⟨(c,g,xs,[],false),?_,.none hok (.inl hg)⟩
   refine(iter_scan _ 0 (fun n=>(ask,gen,(n:Int),c,g,xs,0,0,c,g,xs)) (fun n=>some (c,g,xs,[],false)) (fun go=>?_) (fun go n hn hgo=>by omega) (M+3) 0 (zaf _) (by omega))
   dsimp only
   rw[zd hg,ze]
   cases decide (((0:Nat):Int)<(xs.length:Int))<;>rfl
theorem askIn_of {a:List UInt8} {xs:List DItem2} {n:Nat} (hn:n<xs.length) (h:xs[n].1=a):askIn a xs=true:=by
 simp only[askIn,List.any_eq_true]
 exact⟨xs[n],zr hn,by simpa using h⟩
theorem Got.same {c g:Int} {xs:List DItem2} {ask:List UInt8} {gen:Int} {r r':Int×Int×List DItem2×List DHit2×Bool} (h:Got c g xs ask gen r) (h':Got c g xs ask gen r'):r=r':=by
 cases h with
 |bad h1=>cases h' with
  |bad _=>rfl
  |none h2 _=>rw[h1]at h2;cases h2
  |got h2 _ _ _ _=>rw[h1]at h2;cases h2
 |none h1 hn=>cases h' with
  |bad h2=>rw[h1]at h2;cases h2
  |none _ _=>rfl
  |got h2 hg n hl ha=>
   rcases hn with hn|hn
   .exact absurd hg hn
   .rw [askIn_of hl ha]at hn;cases hn
 |got h1 hg n hl ha=>cases h' with
  |bad h2=>rw[h1]at h2;cases h2
  |none _ hn=>
   rcases hn with hn|hn
   .exact absurd hg hn
   .rw [askIn_of hl ha]at hn;cases hn
  |got _ _ m hm hb=>
   have hit:=okCache_items h1
   have e:n=m:=by
    rcases zbl n m with hlt|he|hlt
    .exact absurd (ha.trans hb.symm) (ok_once hit hm hlt)
    .exact he
    .exact absurd (hb.trans ha.symm) (ok_once hit hl hlt)
   subst e
   rfl
theorem get_same (M:Nat) (c g:Int) (xs:List DItem2) (ask:List UInt8) (gen:Int) (h:xs.length<M+3) (hN:M+3<=1099511627776) (hf:fewHits (M+3) xs):∃r,i_CacheGet_m (M+3) c g xs ask gen=some r/\s_CacheGet_m (M+3) c g xs ask gen=some r/\Got c g xs ask gen r:=by
 obtain⟨r,h1,h2⟩:=implGet_spec M c g xs ask gen h hN hf
 obtain⟨r',h3,h4⟩:=specGet_spec M c g xs ask gen h hN hf
 obtain rfl:=h2.same h4
 exact⟨r,h1,h3,h2⟩
theorem front_perm (xs:List DItem2) (n:Nat) (hn:n<xs.length):(xs[n]::(xs.take n++xs.drop (n+1))).Perm xs:=by
 have h1:xs.take n++xs[n]::xs.drop (n+1)=xs:=by
  rw[<-zan hn,zaR]
 refine(List.perm_middle (a:=xs[n]) (l₁:=xs.take n) (l₂:=xs.drop (n+1))).symm.trans ?_
 rw[h1]
theorem few_step {ask:List UInt8} {xs:List DItem2} {n:Nat} (h:n<xs.length):others ask (xs.take (n+1))=others ask (xs.take n)++(if xs[n].1=ask then []else [xs[n]]):=others_take ask xs n h
def putOk (ask:List UInt8) (gen:Int) (hits:List DHit2):Bool:= !decide (ask=[])&&decide (0<=gen/\gen<=999999999)&&okFrom hits hits 0
def restC (c g:Int) (xs:List DItem2) (ask:List UInt8) (gen:Int):List DItem2:=if gen=g then(others ask xs).take (c-1).toNat else []
inductive Put (c g:Int) (xs:List DItem2) (ask:List UInt8) (gen:Int) (hits:List DHit2):Int×Int×List DItem2->Prop
 |bad (h:okCache c g xs=false):Put c g xs ask gen hits (0,0,[])
 |none (h:okCache c g xs=true) (hn:putOk ask gen hits=false):Put c g xs ask gen hits (c,g,xs)
 |put (h:okCache c g xs=true) (hp:putOk ask gen hits=true):Put c g xs ask gen hits (c,gen,(ask,hits)::restC c g xs ask gen)
theorem Put.same {c g:Int} {xs:List DItem2} {ask:List UInt8} {gen:Int} {hits:List DHit2} {r r':Int×Int×List DItem2} (h:Put c g xs ask gen hits r) (h':Put c g xs ask gen hits r'):r=r':=by
 cases h with
 |bad h1=>cases h' with
  |bad _=>rfl
  |none h2 _=>rw[h1]at h2;cases h2
  |put h2 _=>rw[h1]at h2;cases h2
 |none h1 hn=>cases h' with
  |bad h2=>rw[h1]at h2;cases h2
  |none _ _=>rfl
  |put _ h3=>rw[hn]at h3;cases h3
 |put h1 hp=>cases h' with
  |bad h2=>rw[h1]at h2;cases h2
  |none _ h3=>rw[hp]at h3;cases h3
  |put _ _=>rfl
theorem okCache_c {c g:Int} {xs:List DItem2} (h:okCache c g xs=true):(1<=c/\c<=5)/\(0<=g/\g<=999999999)/\(xs.length:Int)<=c:=by
 simp only[okCache,zj,zw]at h
 exact⟨h.1.1.1,h.1.1.2,h.1.2⟩
theorem put_room {N:Nat} (hits:List DHit2) (h:hits.length<N) (hN:N<=1099511627776):room ([]:List (Int×Int)).length hits.length 16:=room_of (by simp only[zac];omega) (by simp only[zac];omega)
theorem implPut_spec (M:Nat) (c g:Int) (xs:List DItem2) (ask:List UInt8) (gen:Int) (hits:List DHit2) (h:xs.length<M+3) (hN:M+3<=1099511627776) (hf:fewHits (M+3) xs) (hh:hits.length<M+3):
  Def (i_CachePut_m (M+3) c g xs ask gen hits) (Put c g xs ask gen hits):=by
 unfold i_CachePut_m
 rw[cacheOk_spec M c g xs h (by omega) hf,za]
 refine Def.bif (fun e=>Def.ret (.bad (by simpa using e))) (fun e=>?_)
 have hok:okCache c g xs=true:=by simpa using e
 obtain⟨hc,hg,hl⟩:=okCache_c hok
 have hw:∀a,i_Cache_without_m (M+3) c g xs a=some (others a xs):=fun a=>without_spec (M+3) c g xs a h hN hf
 rw[hw [],others_none (okCache_items hok),within_specP,hitsOk_spec M hits hh (by omega)]
 simp only[za]
 refine Def.dif (fun ha=>Def.ret (.none hok (by simp[putOk,ha]))) (fun ha=>?_)
 refine Def.bif (fun hg'=>Def.ret (.none hok ?_)) (fun hg'=>?_)
 .have:decide (0<=gen/\gen<=999999999)=false:=by rw[zb2]at hg';exact hg'
  unfold putOk;rw[this];simp
 refine Def.bif (fun hh'=>Def.ret (.none hok ?_)) (fun hh'=>?_)
 .have:okFrom hits hits 0=false:=by simpa using hh'
  unfold putOk;rw[this];simp
 have hp:putOk ask gen hits=true:=by
  have h1:decide (0<=gen/\gen<=999999999)=true:=by simpa using hg'
  have h2:okFrom hits hits 0=true:=by simpa using hh'
  unfold putOk;rw[h1,h2];simp[ha]
 refine Def.ite (put_room hits hh hN) ?_
 refine Def.meet (fun g'=>g'=(gen,(ask,hits)::restC c g xs ask gen,c,g,xs,0,0)) (fun g' hg'=>by subst hg';exact Def.ret (.put hok hp)) fun J hJ=>?_
 rw[hw ask,za,zaW]
 have hol:(others ask xs).length<=xs.length:=zbh _ _
 refine Def.dif (fun eg=>?_) (fun eg=>hJ _ ?_)
 .refine Def.ite (by unfold fits;omega) ?_
  have em:(if(c-1)<((others ask xs).length:Int)then(c-1)else((others ask xs).length:Int))=((min (c-1).toNat (others ask xs).length:Nat):Int):=by
   by_cases hlt:(c-1)<((others ask xs).length:Int)
   .rw [zf hlt];omega
   .rw [zu hlt];omega
  rw[em]
  refine Def.cut (by omega) (by omega) (by omega) ?_
  have et:((others ask xs).take (((min (c-1).toNat (others ask xs).length:Nat):Int)).toNat).drop ((0:Int)).toNat=restC c g xs ask gen:=by
   rw[zai,restC,zf eg]
   by_cases hlt:(c-1).toNat<=(others ask xs).length
   .rw [Nat.min_eq_left hlt];rfl
   .rw [Nat.min_eq_right (by omega),zq,zba (by omega)];rfl
  have hr:(restC c g xs ask gen).length<=5:=by
   rw[restC,zf eg,zah];omega
  rw[et]
  refine Def.ite (room_of (by simp only[zi,zac];omega) (by simp only[zi,zac];omega)) (hJ _ ?_)
  rfl
 .rw [restC,zu eg]
theorem specPut_spec (N:Nat) (c g:Int) (xs:List DItem2) (ask:List UInt8) (gen:Int) (hits:List DHit2) (h:xs.length<N) (hN:N<=1099511627776) (hf:fewHits N xs) (hh:hits.length<N):
  Def (s_CachePut_m N c g xs ask gen hits) (Put c g xs ask gen hits):=by
 unfold s_CachePut_m
 rw[l24Ok_spec N c g xs h (by omega) hf,za,copy_spec N c g xs h hN hf]
 refine Def.bif (fun e=>Def.ret (.bad (by simpa using e))) (fun e=>?_)
 have hok:okCache c g xs=true:=by simpa using e
 obtain⟨hc,hg,hl⟩:=okCache_c hok
 rw[l13Ok_spec N hits hh (by omega),l1In_specP]
 simp only[za]
 refine Def.dif (fun ha=>Def.ret (.none hok (by simp[putOk,ha]))) (fun ha=>?_)
 refine Def.bif (fun hh'=>Def.ret (.none hok ?_)) (fun hh'=>?_)
 .have:okFrom hits hits 0=false:=by simpa using hh'
  unfold putOk;rw[this];simp
 refine Def.bif (fun hg'=>Def.ret (.none hok ?_)) (fun hg'=>?_)
 .have:decide (0<=gen/\gen<=999999999)=false:=by rw[zb2]at hg';exact hg'
  unfold putOk;rw[this];simp
 have hp:putOk ask gen hits=true:=by
  have h1:decide (0<=gen/\gen<=999999999)=true:=by simpa using hg'
  have h2:okFrom hits hits 0=true:=by simpa using hh'
  unfold putOk;rw[h1,h2];simp[ha]
 refine Def.ite (put_room hits hh hN) ?_
 rw[zaW]
 have hpre:∀n,others ask xs=others ask (xs.take n)++others ask (xs.drop n):=fun n=>by
  unfold others
  rw[<-za6,zaR]
 refine Def.upto xs.length (fun n g'=>(gen=g->((others ask (xs.take n)).length:Int)<=c-1)/\(gen≠g->n=0)/\g'=(ask,gen,(n:Int),c,g,xs,0,0,c,gen,(ask,hits)::others ask (xs.take n),c,g,xs)) ?_ ?_ N 0 _ (zaf _) ⟨fun _=>by simp[others];omega,fun _=>rfl,rfl⟩ (by omega)
 .rintro go _ ⟨h1,h2,rfl⟩
  dsimp only
  rw[zd (zm _),ze]
  have er:restC c g xs ask gen=others ask (xs.take xs.length):=by
   rw[zq,restC]
   by_cases eg:gen=g
   .have:=h1 eg
    rw[zq]at this
    rw[zf eg,zba (by omega)]
   .have h0:=h2 eg
    rw[zu eg,zbI.1 h0];rfl
  rw[<-er]
  exact Def.ret (.put hok hp)
 .rintro go n _ hn ⟨h1,h2,rfl⟩ hgo
  dsimp only
  refine Def.dif (fun e=>?_) (fun e=>absurd (by omega) e)
  refine Def.dif (fun eg=>?_) (fun eg=>?_)
  .have h1:=h1 eg
   refine Def.dif (fun hlt=>?_) (fun hlt=>?_)
   .simp only [zi]at hlt
    have he:idx xs (n:Int)=some xs[n]:=idx_at hn
    have hol:(others ask (xs.take n)).length<=xs.length:=zau (zbh _ _) (by simp;omega)
    rw[he,za,za]
    refine Def.bif (fun hne=>?_) (fun hne=>?_)
    .have hne:¬xs[n].1=ask:=by simpa using hne
     refine Def.ite (room_of (by simp only[zi,zac];omega) (by simp only[zi,zac];omega)) ?_
     refine Def.ite (by unfold fits;omega) (hgo _ ⟨fun _=>?_,fun e=>absurd eg e,?_⟩)
     .rw [few_step hn,zu hne,zam,zi,zac];omega
     .rw [cast_succ',few_step hn,zu hne];rfl
    .have hne:xs[n].1=ask:=by simpa using hne
     refine Def.ite (by unfold fits;omega) (hgo _ ⟨fun _=>?_,fun e=>absurd eg e,?_⟩)
     .rw [few_step hn,zf hne,zat];omega
     .rw [cast_succ',few_step hn,zf hne,zat]
   .simp only [zi]at hlt
    have er:restC c g xs ask gen=others ask (xs.take n):=by
     rw[restC,zf eg,hpre n,List.take_append_of_le_length (by omega),zba (by omega)]
    rw[<-er]
    exact Def.ret (.put hok hp)
  .obtain rfl:=h2 eg
   have er:restC c g xs ask gen=others ask (xs.take 0):=by rw[restC,zu eg];rfl
   rw[<-er]
   exact Def.ret (.put hok hp)
theorem put_same (M:Nat) (c g:Int) (xs:List DItem2) (ask:List UInt8) (gen:Int) (hits:List DHit2) (h:xs.length<M+3) (hN:M+3<=1099511627776) (hf:fewHits (M+3) xs) (hh:hits.length<M+3):∃r,i_CachePut_m (M+3) c g xs ask gen hits=some r/\s_CachePut_m (M+3) c g xs ask gen hits=some r/\Put c g xs ask gen hits r:=by
 obtain⟨r,h1,h2⟩:=implPut_spec M c g xs ask gen hits h hN hf hh
 obtain⟨r',h3,h4⟩:=specPut_spec (M+3) c g xs ask gen hits h hN hf hh
 obtain rfl:=h2.same h4
 exact⟨r,h1,h3,h2⟩
theorem restC_mem {c g:Int} {xs:List DItem2} {ask:List UInt8} {gen:Int} {x:DItem2} (h:x∈restC c g xs ask gen):gen=g/\x∈xs/\x.1≠ask:=by
 unfold restC at h
 by_cases eg:gen=g
 .rw [zf eg]at h
  have:=zaP h
  simp only[others,zaZ]at this
  exact⟨eg,this.1,by simpa using this.2⟩
 .rw [zu eg]at h;cases h
theorem restC_len {c g:Int} {xs:List DItem2} {ask:List UInt8} {gen:Int} (hc:1<=c/\c<=5):((restC c g xs ask gen).length:Int)<=c-1:=by
 unfold restC
 by_cases eg:gen=g
 .rw [zf eg,zah];omega
 .rw [zu eg];simp only[zac];omega
theorem ltH_ahead (a b:EHit):ltH a b=aheadH a b:=by
 unfold ltH aheadH
 by_cases h1:b.2<a.2<;>by_cases h2:a.2=b.2<;>by_cases h3:a.1<b.1<;>simp[h1,h2,h3]
theorem okFrom_of (xs:List DHit2) (h1:∀x,x∈xs->(1<=x.1/\x.1<=9999)/\1<=x.2) (h2:xs.Pairwise fun a b=>aheadH a b=true) (h3:xs.Pairwise fun a b=>a.1≠b.1) (h4:xs.length<=16):∀(l:List DHit2) (n:Nat),xs.drop n=l->okFrom xs l n=true
 | [],n,_=>by
  unfold okFrom
  exact zb (by omega)
 |x::l,n,e=>by
  have hn:n<xs.length:=by
   have:=congrArg List.length e
   rw[zaQ,zi]at this
   omega
  have ex:xs[n]=x:=by
   have:=congrArg (·[0]?) e
   simpa[zaL,zc hn]using this
  have el:xs.drop (n+1)=l:=by
   have:=congrArg List.tail e
   simpa[List.tail_drop]using this
  unfold okFrom
  rw[zj]
  refine⟨?_,okFrom_of xs h1 h2 h3 h4 l (n+1) el⟩
  have hx:=h1 x (ex▸zr hn)
  unfold okAt
  simp only[zj,za1,zw,zb2,decide_eq_false_iff_not]
  refine⟨⟨⟨hx.1,by omega⟩,?_⟩,?_⟩
  .unfold docIn
   rw[zb0]
   intro y hy
   obtain⟨i,hi,rfl⟩:=zav.1 hy
   rw[zah]at hi
   rw[List.getElem_take]
   have:=za2.1 h3 i n (by omega) hn (by omega)
   rw[ex]at this
   simpa using this
  .by_cases h0:n=0
   .exact .inl h0
   .refine .inr ?_
    rw[zc (by omega:n-1<xs.length)]
    have:=za2.1 h2 (n-1) n (by omega) hn (by omega)
    rw[ex]at this
    exact this
theorem top_okHits {N:Nat} {c:EConf} {s:ESeg} {q:DQ} (most:Nat):okFrom (topR N c s q allP most) (topR N c s q allP most) 0=true:=by
 have hd:=hitsR_dist N c s q allP
 obtain⟨h1,h2⟩:=sortH_ok hd
 have hl:=hitsR_len N c s q allP
 have hsub:((sortH (hitsR N c s q allP)).take most).Sublist (sortH (hitsR N c s q allP)):=List.take_sublist _ _
 have hsl:(sortH (hitsR N c s q allP)).length<=16:=by
  rw[show sortH _=List.foldl insH [] _ from rfl,sortH_len]
  simp only[zac]
  omega
 have hne:(sortH (hitsR N c s q allP)).Pairwise fun a b=>a.1≠b.1:=by
  refine za2.2 fun i j hi hj hij e=>?_
  have hlt:=za2.1 h1 i j hi hj hij
  have hmi:=(h2 _).1 (zr hi)
  have hmj:=(h2 _).1 (zr hj)
  obtain⟨a,ha,ea⟩:=zav.1 hmi
  obtain⟨b,hb,eb⟩:=zav.1 hmj
  rw[<-ea,<-eb]at e hlt
  rcases zbl a b with h|h|h
  .exact za2.1 hd a b ha hb h e
  .subst h
   rw[ltH_irrefl]at hlt
   cases hlt
  .exact za2.1 hd b a hb ha h e.symm
 refine okFrom_of _ (fun x hx=>?_) ((h1.imp fun {a b} h=>(ltH_ahead a b)▸h).sublist hsub) (hne.sublist hsub) (by show((sortH (hitsR N c s q allP)).take most).length<=16;rw[zah];omega) _ 0 rfl
 have hm:=(h2 x).1 (hsub.subset hx)
 unfold hitsR at hm
 cases hs:okSeg c s with
 |false=>rw[hs]at hm;cases hm
 |true=>
  cases hq:okQ 4 q with
  |false=>rw[hs,hq]at hm;cases hm
  |true=>
   rw[hs,hq]at hm
   obtain⟨d,hdm,rfl,h0,_⟩:=hitsP_mem (V:=fun d=>valS N N c s d q) hm
   have h5:=okDoc_each (okSeg_docs hs) d hdm
   unfold okDoc at h5
   simp only[zj,zw]at h5
   exact⟨⟨h5.1.1.1.1.1,h5.1.1.1.1.2⟩,by dsimp only at h0⊢;omega⟩
theorem putQ_ne {n:Nat} {q:DQ} (h:okQ n q=true):putQ n q≠ []:=by
 cases n with
 |zero=>cases q;simp[okQ]at h
 |succ n=>
  cases q with
  |mk k f ws a b kids=>
   unfold putQ
   cases decide (k=1)<;>cases(decide (k=2)||decide (k=5))<;>cases decide (k=3)<;>cases decide (k=4)<;>cases decide (k=6)<;>simp
structure FitK (N:Nat) (c:ECache):Prop where
 len:c.2.2.length<N
 few:fewHits N c.2.2
def genB (gen:Int):Bool:=decide (0<=gen)&&decide (gen<=999999999)
abbrev hits16 (N:Nat) (x:EIndex) (q:DQ):List EHit:=topRR N x.1 (segX x) q allP 16
inductive CTop (N:Nat) (c:ECache) (x:EIndex) (gen:Int) (q:DQ):Int×Int×List DItem2×List DHit2×Bool->Prop
 |bad (h:(okCache c.1 c.2.1 c.2.2&&(okIdx x&&(okQ 4 q&&genB gen)))=false):CTop N c x gen q (0,0,[],[],false)
 |had (h:(okCache c.1 c.2.1 c.2.2&&(okIdx x&&(okQ 4 q&&genB gen)))=true) (hg:gen=c.2.1) (n:Nat) (hn:n<c.2.2.length) (ha:c.2.2[n].1=putQ 4 q):CTop N c x gen q (c.1,c.2.1,c.2.2[n]::(c.2.2.take n++c.2.2.drop (n+1)),c.2.2[n].2,true)
 |new (h:(okCache c.1 c.2.1 c.2.2&&(okIdx x&&(okQ 4 q&&genB gen)))=true) (hn:gen≠c.2.1\/askIn (putQ 4 q) c.2.2=false):CTop N c x gen q (c.1,gen,(putQ 4 q,hits16 N x q)::restC c.1 c.2.1 c.2.2 (putQ 4 q) gen,hits16 N x q,false)
theorem hits16_len (N:Nat) (x:EIndex) (q:DQ):(hits16 N x q).length<=16:=by
 show(topR N x.1 (segX x) q allP (16:Int).toNat).length<=16
 unfold topR
 rw[zah]
 exact Nat.min_le_left _ _
theorem hits16_ok {N:Nat} {x:EIndex} {q:DQ} {gen:Int} (hq:okQ 4 q=true) (hg:genB gen=true):putOk (putQ 4 q) gen (hits16 N x q)=true:=by
 unfold genB at hg
 simp only[zj,zw]at hg
 unfold putOk
 rw[zd (putQ_ne hq),zb hg]
 exact top_okHits (N:=N) (c:=x.1) (s:=segX x) (q:=q) 16
theorem put_hits {N:Nat} {x:EIndex} {q:DQ} {gen:Int} {c g:Int} {xs:List DItem2} {r:Int×Int×List DItem2} (hok:okCache c g xs=true) (hq:okQ 4 q=true) (hg:genB gen=true) (h:Put c g xs (putQ 4 q) gen (hits16 N x q) r):r=(c,gen,(putQ 4 q,hits16 N x q)::restC c g xs (putQ 4 q) gen):=
 h.same (.put hok (hits16_ok hq hg))
theorem cacheTop_both {N:Nat} {c:ECache} (K:FitK N c) {x:EIndex} (h:FitI N x) {q:DQ} (hq:BQ 4 q) (gen:Int):∃r,i_CacheTop_m N c.1 c.2.1 c.2.2 x.1.1 x.1.2 x.2 gen q.kind q.field q.words q.lo q.hi q.kids=some r/\s_CacheTop_m N c.1 c.2.1 c.2.2 x.1.1 x.1.2 x.2 gen q.kind q.field q.words q.lo q.hi q.kids=some r/\CTop N c x gen q r:=by
 have hM:1048576<N:=h.big
 have hN:=h.top
 have e1:i_CacheOk_m N c.1 c.2.1 c.2.2=some (okCache c.1 c.2.1 c.2.2):=by
  obtain⟨M,rfl⟩:∃M,N=M+3:=⟨N-3,by omega⟩
  exact cacheOk_spec M _ _ _ K.len (by omega) K.few
 have e2:=l24Ok_spec N c.1 c.2.1 c.2.2 K.len (by omega) K.few
 unfold i_CacheTop_m s_CacheTop_m
 rw[e1,e2,za,za]
 cases hc:okCache c.1 c.2.1 c.2.2 with
 |false=>exact⟨_,rfl,rfl,.bad (by rw[hc];rfl)⟩
 |true=>
  rw[zn,ze,ze,indexOk_spec h,l18Ok_spec h,za,za]
  cases hk:okIdx x with
  |false=>exact⟨_,rfl,rfl,.bad (by rw[hc,hk];rfl)⟩
  |true=>
   rw[zn,ze,ze,queryOk_i N h.big (by omega) q hq,queryOk_s N h.big (by omega) q hq,za,za]
   cases hqk:okQ 4 q with
   |false=>exact⟨_,rfl,rfl,.bad (by rw[hc,hk,hqk];rfl)⟩
   |true=>
    rw[zn,ze,ze,within_spec,l1In_spec,za,za,show(decide ((0:Int)<=gen)&&decide (gen<=999999999))=genB gen from rfl]
    cases hg:genB gen with
    |false=>exact⟨_,rfl,rfl,.bad (by rw[hc,hk,hqk,hg];rfl)⟩
    |true=>
     have hall:(okCache c.1 c.2.1 c.2.2&&(okIdx x&&(okQ 4 q&&genB gen)))=true:=by rw[hc,hk,hqk,hg];rfl
     have p1:=queryPut_i N hM hN q hq
     rw[hqk,zg]at p1
     have p2:=qput_spec N hM hN 4 N (by omega) (by omega) q hqk hq
     obtain⟨r,g1,g2,G⟩:∃r,i_CacheGet_m N c.1 c.2.1 c.2.2 (putQ 4 q) gen=some r/\s_CacheGet_m N c.1 c.2.1 c.2.2 (putQ 4 q) gen=some r/\Got c.1 c.2.1 c.2.2 (putQ 4 q) gen r:=by
      obtain⟨M,rfl⟩:∃M,N=M+3:=⟨N-3,by omega⟩
      exact get_same M _ _ _ _ _ K.len (by omega) K.few
     rw[zn,ze,ze,p1,p2,za,za,g1,g2,za,za]
     have hl16:=hits16_len N x q
     obtain⟨y,y1,y2,Y⟩:∃y,i_CachePut_m N c.1 c.2.1 c.2.2 (putQ 4 q) gen (hits16 N x q)=some y/\s_CachePut_m N c.1 c.2.1 c.2.2 (putQ 4 q) gen (hits16 N x q)=some y/\Put c.1 c.2.1 c.2.2 (putQ 4 q) gen (hits16 N x q) y:=by
      obtain⟨M,rfl⟩:∃M,N=M+3:=⟨N-3,by omega⟩
      exact put_same M _ _ _ _ _ _ K.len (by omega) K.few (by omega)
     have ey:=put_hits hc hqk hg Y
     have t1:=indexTop_i h hq 16
     have et:idxTop N x q 16=hits16 N x q:=by unfold idxTop;rw[hk,hqk];rfl
     rw[et]at t1
     have t2:=l13Top_spec (h.fit hk hq) (segX_ok hk) hqk 16 (by omega)
     have t2:s_l13Top_m N x.1.1 x.1.2 (segX x).1 (segX x).2 q.kind q.field q.words q.lo q.hi q.kids 16=some (hits16 N x q):=t2
     cases G with
     |bad h0=>rw[hc]at h0;cases h0
     |none _ hn=>
      refine⟨_,?_,?_,.new hall hn⟩
      .dsimp only
       rw[ze,t1,za,y1,ey,za]
      .dsimp only
       rw[ze,docsX_spec h hk,za,segX_s h hk,za,t2,za,za,y2,ey,za]
     |got _ hge n hn ha=>exact⟨_,rfl,rfl,.had hall hge n hn ha⟩
theorem okW_most {w:List UInt8} (h:okW w=true):w.length<=12:=(okW_len h).2
theorem okG_len {w:List UInt8} (h:okG w=true):w.length<=12:=by
 unfold okG at h
 simp only[zj,zw]at h
 omega
theorem join_short :∀ws:List (List UInt8),(∀w,w∈ws->w.length<=12)->∀n,n<=ws.length->(joinL (ws.take n) [43]).length<=n*13
 |ws,h,0,_=>by simp[joinL_nil]
 |ws,h,n+1,hn=>by
  have ih:=join_short ws h n (by omega)
  have:=h _ (zr (show n<ws.length by omega))
  rw[zo (by omega:n<ws.length),joinL_snoc]
  split
  .omega
  .rw [zam,zam,zbE]
   omega
theorem one_short {k:Int} {f:List UInt8} {ws:List (List UInt8)} {a b:Int} {kids:List DQ} (h:oneQ k f ws a b kids=true):f.length<=12/\∀w,w∈ws->w.length<=12:=by
 have nl:∀ {l:List (List UInt8)},(l.length:Int)=0->∀w,w∈l->w.length<=12:=fun h w hw=>by
  have:=List.length_pos_of_mem hw
  omega
 rcases one_k h with rfl|rfl|rfl|rfl|rfl|rfl|rfl|rfl|rfl|rfl<;>simp only[oneQ,nilB,Int.reduceEq,decide_false,decide_true,ze,zg,zj,zw,Bool.or_true,zbV,Bool.or_false,zax]at h
 .exact ⟨by rw[h.1];simp,nl h.2.1⟩
 .exact ⟨okW_most h.2.1,fun w hw=>okW_most (h.2.2.1 w hw)⟩
 .exact ⟨okW_most h.2.1,fun w hw=>okW_most (h.2.2.1.1 w hw)⟩
 .exact ⟨okW_most h.2.1,fun w hw=>okW_most (h.2.2.1.1 w hw)⟩
 .exact ⟨okW_most h.2.1,fun w hw=>okG_len (h.2.2.1 w hw).1⟩
 .exact ⟨okW_most h.2.1,nl h.1.1⟩
 .exact ⟨by rw[h.1];simp,nl h.2.1⟩
 .exact ⟨by rw[h.1];simp,nl h.2.1⟩
 .exact ⟨by rw[h.1];simp,nl h.2.1⟩
 .exact ⟨by rw[h.1];simp,nl h.2.1⟩
def bndS :Nat->Nat
 |0=>0
 |n+1=>4*bndS n+200
theorem putQ_short :∀(n:Nat),∀q,okQ n q=true->(putQ n q).length<=bndS n
 |0,q,h=>by cases q;simp[okQ]at h
 |n+1,.mk k f ws a b kids,h=>by
  unfold okQ at h
  rw[zj]at h
  have o:=one_facts h.1
  obtain⟨hf,hw⟩:=one_short h.1
  have hk:=kid_len n (bndS n) kids fun c hc=>putQ_short n c (zax.1 h.2 c hc)
  have ha:=itoa_len o.a.1 o.a.2
  have hb:=itoa_len o.b.1 o.b.2
  have hwn:=o.wn
  have hkn:=o.kn
  have hj:=join_short ws hw ws.length (zae _)
  rw[zq]at hj
  have hh:(ws.headD []).length<=12:=by
   cases ws with
   |nil=>exact zaf _
   |cons w r=>exact hw w (by simp)
  have hk2:kids.length*(bndS n+1)<=4*(bndS n+1):=zag _ hkn
  show(putQ (n+1) _).length<=4*bndS n+200
  have hq:(headQ k a).length<=30:=by
   unfold headQ
   cases decide (k=7)<;>cases decide (k=8)<;>cases decide (k=9)<;>simp<;>omega
  unfold putQ
  cases decide (k=1)<;>cases(decide (k=2)||decide (k=5))<;>cases decide (k=3)<;>cases decide (k=4)<;>cases decide (k=6)<;>simp only[zg,ze,zam,zi,zac]at* <;>omega
theorem fitK_of {N:Nat} (hM:Sm<N) {c:ECache} (h:okD Sm TCache c):FitK N c:=
 ⟨zal h.2.2.1 hM,fun x hx=>zal (h.2.2.2 x hx).2.1 hM⟩
theorem i64_of {n:Int} (h0:0<=n) (h1:n<=999999999):okD Sm (.int .i64) n:=by
 show IntKind.i64.min<=_/\_<=IntKind.i64.max
 have h4:IntKind.i64.min=-9223372036854775808:=rfl
 have h5:IntKind.i64.max=9223372036854775807:=rfl
 rw[h4,h5]
 omega
theorem ctop_ok {N:Nat} {c:ECache} {x:EIndex} {gen:Int} {q:DQ} {r:Int×Int×List DItem2×List DHit2×Bool} (h:CTop N c x gen q r) (hc:okD Sm TCache c) (F:FitI N x) (hq:BQ 4 q):okD Sm TCache (r.1,r.2.1,r.2.2.1)/\okD Sm (.sl THit) r.2.2.2.1:=by
 cases h with
 |bad=>exact⟨⟨i64_of (by decide) (by decide),i64_of (by decide) (by decide),zaf _,fun x hx=>by cases hx⟩,zaf _,fun x hx=>by cases hx⟩
 |had _ _ n hn _=>
  have hp:=front_perm c.2.2 n hn
  exact⟨⟨hc.1,hc.2.1,by rw[hp.length_eq];exact hc.2.2.1,fun y hy=>hc.2.2.2 y (hp.mem_iff.1 hy)⟩,(hc.2.2.2 _ (zr hn)).2⟩
 |new h _=>
  simp only[zj]at h
  have hk:=h.2.1
  have hcc:=okCache_c h.1
  have hr:=restC_len (g:=c.2.1) (xs:=c.2.2) (ask:=putQ 4 q) (gen:=gen) hcc.1
  have hg:=h.2.2.2
  unfold genB at hg
  simp only[zj,zw]at hg
  have hh:okD Sm (.sl THit) (hits16 N x q):=(topRR_ok (F.fit hk hq) allP 16).2
  have hs:=putQ_short 4 q h.2.2.1
  have hb:bndS 4=17000:=rfl
  refine⟨⟨hc.1,i64_of hg.1 hg.2,?_,fun y hy=>?_⟩,hh⟩
  .show ((putQ 4 q,hits16 N x q)::restC c.1 c.2.1 c.2.2 (putQ 4 q) gen).length<=1048576
   rw[zi]
   have:=hcc.1
   omega
  .rcases zp.1 hy with rfl|hy
   .exact ⟨by show(putQ 4 q).length<=1048576;omega,hh⟩
   .exact hc.2.2.2 _ (restC_mem hy).2.1
theorem markCache_spec (N:Nat) (hM:Sm<N) (hN:N<=1099511627776) (c:ECache) (k:Int) (hk:0<=k) (hK:k+(mcnt cItem c.2.2:Nat)<=1000000000000000000) (ho:okD Sm TCache c):l_markCache_m N c.1 c.2.1 c.2.2 k=some (k+(mcnt cItem c.2.2:Nat),markL (mItem N) cItem c.2.2 k):=by
 unfold l_markCache_m
 rw[markItemS_spec N hM hN c.2.2 k hk hK ho.2.2,za]
theorem heldCache_spec (N:Nat) (hM:Sm<N) (hN:N<=1099511627776) (c:ECache) (k:Int) (hk:0<=k) (hK:k+(mcnt cItem c.2.2:Nat)<=1000000000000000000) (ho:okD Sm TCache c):l_heldCache_m N c.1 c.2.1 (markL (mItem N) cItem c.2.2 k) k=some (k+(mcnt cItem c.2.2:Nat)):=by
 unfold l_heldCache_m
 rw[heldItemS_spec N hM hN c.2.2 k hk hK ho.2.2,za,zd (by omega),ze]
theorem mcnt_hits {l:List EHit} (h:okD Sm (.sl THit) l):mcnt cHit l<=2097152:=by
 have:=mcnt_hit l
 have h1:l.length<=1048576:=h.1
 omega
theorem mcnt_items {l:List EItem} (h:okD Sm (.sl TItem) l):mcnt cItem l<=2200000000000:=by
 have h1:l.length<=1048576:=h.1
 have:=mcnt_le (c:=cItem) 2097153 l fun x hx=>by
  have:=mcnt_hits (h.2 x hx).2
  unfold cItem
  omega
 have h2:l.length*2097153<=1048576*2097153:=zag _ h1
 omega
theorem fnExactCacheTop_gen (N:Nat) (hM:Sm<N) (hN:N<=16777216) (c:ECache) (x:EIndex) (gen:Int) (q:DQ) (hc:okD BigN TCache c) (hx:okD BigN TIndex x) (hq:OkQ BigN q):l_FnExactCacheTop_m N c.1 c.2.1 c.2.2 x.1.1 x.1.2 x.2 gen q.kind q.field q.words q.lo q.hi q.kids=some true:=by
 have hM':1048576<N:=hM
 have hN':N<=1099511627776:=by omega
 refine Def.get ?_
 unfold l_FnExactCacheTop_m
 refine Def.bind (szCache_spec N hM c 1048576 (by omega) (by omega) hc) fun r hr=>?_
 refine Def.dif (fun e=>Def.ret rfl) (fun e1=>?_)
 rcases hr with hr|⟨r0,r1,oc⟩
 .omega
 refine Def.bind (szIndex_spec N hM x r r0 (by omega) hx) fun r2 hr2=>?_
 refine Def.dif (fun e=>Def.ret rfl) (fun e3=>?_)
 rcases hr2 with hr2|⟨r3,r4,ox⟩
 .omega
 refine Def.bind (sz_query N hM' N q hq r2 r3 (by omega) (by omega)) fun r5 hr5=>?_
 refine Def.dif (fun e=>Def.ret rfl) (fun e5=>?_)
 rcases hr5 with hr5|⟨r6,r7,gq⟩
 .omega
 have F:=fitI_of hM hN ox
 have hb:BQ 4 q:=GQ.bq 4 N q gq
 have K:=fitK_of hM oc
 have t1:=toIndex_spec N hM hN' x ox
 have t2:=toCache_spec N hM hN' c oc
 have t3:=to_query N hN' hM' N q gq
 have t4:=eqIndex_self N hM hN' x ox
 have t5:=eqCache_spec N hM hN' c c oc
 have t6:=eq_query N hN' hM' N q gq
 obtain⟨y,t8,t7,T⟩:=cacheTop_both K F hb gen
 obtain⟨oy,oh⟩:=ctop_ok T oc F hb
 have c1:=cConf_le x.1
 have c2:=mcntLive_le x.2
 have c3:tot TIndex x=tot (.sl TLive) x.2+tot TConf x.1:=rfl
 have c4:=mcntItem_le c.2.2
 have c7:tot TCache c=tot (.sl TItem) c.2.2+tot (.int .i64) c.2.1+tot (.int .i64) c.1:=rfl
 have c5:=mcnt_items oy.2.2
 have c6:=mcnt_hits oh
 have t9:=eqCache_spec N hM hN' (y.1,y.2.1,y.2.2.1) (y.1,y.2.1,y.2.2.1) oy
 have t10:=eqHitS_spec N hM hN' y.2.2.2.1 y.2.2.2.1 oh
 dsimp only at c5 t9
 have m0:=markCache_spec N hM hN' c 1 (by omega) (by omega) oc
 have m4:=markCache_spec N hM hN' (y.1,y.2.1,y.2.2.1) 1 (by omega) (by dsimp only;omega) oy
 have m5:=markHitS_spec N hM hN' y.2.2.2.1 (1+(mcnt cItem y.2.2.1:Nat)) (by omega) (by omega) oh
 have m6:=heldCache_spec N hM hN' (y.1,y.2.1,y.2.2.1) 1 (by omega) (by dsimp only;omega) oy
 have m7:=heldHitS_spec N hM hN' y.2.2.2.1 (1+(mcnt cItem y.2.2.1:Nat)) (by omega) (by omega) oh
 dsimp only at m4 m6
 have beq:(y.2.2.2.2==y.2.2.2.2)=true:=by simp
 have n1:¬(1:Int)+(mcnt cItem y.2.2.1:Nat)<0:=by omega
 have n2:¬(1:Int)+(mcnt cItem y.2.2.1:Nat)+(mcnt cHit y.2.2.2.1:Nat)<0:=by omega
 simp only[t1,t2,t3,t4,t5,t6,t7,t8,t9,t10,m0,beq,za,decide_true,zn,ze]
 have m1:=markConf_spec N hM hN' x.1 (1+(mcnt cItem c.2.2:Nat)) (by omega) (by omega) ox.1
 have mi:Def (l_markIndex_m N x.1.1 x.1.2 x.2 (1+(mcnt cItem c.2.2:Nat))) fun r=>0<=r.1/\r.1<=100000000:=by
  unfold l_markIndex_m
  rw[m1,za]
  refine Def.bind (mark_lives N hM hN' x.2 _ ox.2 (by dsimp only;omega) (by dsimp only;omega)) fun r hr=>Def.ret ⟨by dsimp only at hr⊢;omega,by dsimp only at hr⊢;omega⟩
 refine Def.bind mi fun r8 hr8=>?_
 refine Def.bind (mark_query N hM hN' q gq _ (by omega) (by omega)) fun r9 hr9=>?_
 rw[zd (by omega),ze]
 simp only[m4,m5,m6,m7,za,decide_true,zn,ze,zd n1,zd n2]
 exact Def.ret rfl
theorem fnExactCacheTop_law (x0:ECache) (x1:EIndex) (x2:Int) (x3:EQuery) (o0:okD BigN TCache x0) (o1:okD BigN TIndex x1) (o2:okD BigN (.int .i64) x2) (o3:okD BigN TQuery x3):l_FnExactCacheTop_m 1048700 x0.1 x0.2.1 x0.2.2 x1.1.1 x1.1.2 x1.2 x2 x3.1 x3.2.1 x3.2.2.1 x3.2.2.2.1 x3.2.2.2.2.1 x3.2.2.2.2.2=some true:=
 fnExactCacheTop_gen 1048700 (by decide) (by decide) x0 x1 x2 (qOf x3) o0 o1 (qOf_ok o3)
end Go.Proofs.YtabhgjdikeipdaaGreatDoor
