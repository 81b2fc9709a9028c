
import Derived.Test.YtnkagklajgimlaaGreatDoorSI1
import Derived.Test.YtnkagklajgimlaaGreatDoorSJ1
import Derived.Test.YtnkagklajgimlaaGreatDoorSE1
set_option linter.unusedVariables false
set_option linter.unusedSimpArgs false
namespace Go.Proofs.YtnkagklajgimlaaGreatDoor
open Go.RowKit
def GX (k a:Int):List UInt8:=bif decide (k=7)then [97,110,100]else bif decide (k=8)then [111,114]else bif decide (k=9)then [108,101,115,115]else [116,105,109,101,115,32]++jC a
def dX :Nat->aN->List UInt8
 |0,_=>[]
 |n+1,.mk k f ws a b kids=>
  bif decide (k=1)then [97,108,108]
  else bif decide (k=2)||decide (k=5)then f++ [58]++ws.headD []
  else bif decide (k=3)then f++ [58]++e9 ws [43]++ [126]++jC a
  else bif decide (k=4)then f++ [58]++ws.headD []++ [37]++jC a
  else bif decide (k=6)then f++ [61]++jC a++ [46,46]++jC b
  else [40]++GX k a++kids.flatMap (fun c=>[32]++dX n c)++ [41]
def od :Nat->Nat
 |0=>0
 |n+1=>4*od n+20000000
theorem LG :∀n,n<=4->od n<=100000000000:=by decide
theorem aoX {k:Int} {f:List UInt8} {ws:List (List UInt8)} {a b:Int} {kids:List aN} (h:hA k f ws a b kids=true):k=1\/k=2\/k=3\/k=4\/k=5\/k=6\/k=7\/k=8\/k=9\/k=10:=by
 by_cases e:k=1; · exact .inl e
 by_cases i:k=2; · exact .inr (.inl i)
 by_cases l:k=3; · exact .inr (.inr (.inl l))
 by_cases o:k=4; · exact .inr (.inr (.inr (.inl o)))
 by_cases p:k=5; · exact .inr (.inr (.inr (.inr (.inl p))))
 by_cases r:k=6; · exact .inr (.inr (.inr (.inr (.inr (.inl r)))))
 by_cases s:k=7; · exact .inr (.inr (.inr (.inr (.inr (.inr (.inl s))))))
 by_cases t:k=8; · exact .inr (.inr (.inr (.inr (.inr (.inr (.inr (.inl t)))))))
 by_cases u:k=9; · exact .inr (.inr (.inr (.inr (.inr (.inr (.inr (.inr (.inl u))))))))
 by_cases d:k=10; · exact .inr (.inr (.inr (.inr (.inr (.inr (.inr (.inr (.inr d))))))))
 unfold hA at h
 simp[e,i,l,o,p,r,s,t,u,d]at h
structure V7 (k:Int) (f:List UInt8) (ws:List (List UInt8)) (a b:Int) (kids:List aN):Prop where
 kind:k=1\/k=2\/k=3\/k=4\/k=5\/k=6\/k=7\/k=8\/k=9\/k=10
 wn:ws.length<=4
 ev:k=2\/k=4\/k=5->0<ws.length
 a:0<=a/\a<=999999999
 b:0<=b/\b<=999999999
 vv:kids.length<=4
theorem JY {k:Int} {f:List UInt8} {ws:List (List UInt8)} {a b:Int} {kids:List aN} (h:hA k f ws a b kids=true):V7 k f ws a b kids:=by
 have d:=aoX h
 rcases d with rfl|rfl|rfl|rfl|rfl|rfl|rfl|rfl|rfl|rfl<;>simp only[hA,eX,Int.reduceEq,decide_false,decide_true,aj,ao,a6,bo,Bool.or_true,ly,Bool.or_false]at h<;>exact⟨by omega,by omega,by omega,by omega,by omega,by omega⟩
theorem GY {ws:List (List UInt8)} (h:0<ws.length):idx ws 0=some (ws.headD [])/\(ws.headD []∈ws):=by
 cases ws with
 |nil=>simp at h
 |cons w r=>exact⟨rfl,by simp⟩
theorem Ja (n B:Nat):∀(kids:List aN),(∀c,c∈kids->(dX n c).length<=B)->(kids.flatMap fun c=>[32]++dX n c).length<=kids.length*(B+1)
 | [],_=>by simp
 |c::r,h=>by
  have e:=Ja n B r fun c d=>h c (ch _ d)
  have:=h c cb
  rw[lA,bh,bh,bS,ba,Nat.succ_mul]
  omega
theorem Kj :∀(n:Nat),n<=4->∀q,cZ n q=true->ie n q->(dX n q).length<=od n
 |0,_,q,h,_=>by cases q;simp[cZ]at h
 |n+1,bj,.mk k f ws a b kids,h,l=>by
  unfold cZ at h
  rw[a6]at h
  obtain⟨p,hw,d,t,e⟩:=l
  have p:f.length<=1048576:=p
  have d:∀w,w∈ws->w.length<=1048576:=d
  have o:=JY h.1
  have z:=Ja n (od n) kids fun c s=>Kj n (by omega) c (cz.1 h.2 c s) (e c s)
  have cJ:=Bv o.a.1 o.a.2
  have l:=Bv o.b.1 o.b.2
  have u:=o.wn
  have i:=o.vv
  have v:=yd ws [43] (by decide) d ws.length (bE _)
  rw[cj]at v
  have A:(ws.headD []).length<=1048576:=by
   cases ws with
   |nil=>exact bg _
   |cons w r=>exact d w (by simp)
  have y:kids.length*(od n+1)<=4*(od n+1):=ek _ i
  show(dX (n+1) _).length<=4*od n+20000000
  have B:(GX k a).length<=30:=by
   unfold GX
   cases decide (k=7)<;>cases decide (k=8)<;>cases decide (k=9)<;>simp<;>omega
  unfold dX
  cases decide (k=1)<;>cases(decide (k=2)||decide (k=5))<;>cases decide (k=3)<;>cases decide (k=4)<;>cases decide (k=6)<;>simp only[ao,aj,bh,ba,bH]at* <;>omega
structure Ff (n:Nat) (f:List UInt8) (ws:List (List UInt8)) (a b:Int) (kids:List aN):Prop where
 f:f.length<=1048576
 h:(ws.headD []).length<=1048576
 j:(e9 ws [43]).length<=4*2097152
 a:(jC a).length<=10
 b:(jC b).length<=10
 k:∀m,m<=kids.length->((kids.take m).flatMap fun c=>[32]++dX n c).length<=500000000000
theorem Ff.of {n:Nat} (bj:n<=3) {k:Int} {f:List UInt8} {ws:List (List UInt8)} {a b:Int} {kids:List aN} (h:hA k f ws a b kids=true) (y:kids.all (cZ n)=true) (z:ie (n+1) (.mk k f ws a b kids)):Ff n f ws a b kids:=by
 obtain⟨u,hw,d,i,l⟩:=z
 have d:∀w,w∈ws->w.length<=1048576:=d
 have o:=JY h
 have v:=yd ws [43] (by decide) d ws.length (bE _)
 rw[cj]at v
 have p:f.length<=1048576:=u
 clear hw i u
 have s:=o.wn
 have t:(e9 ws [43]).length<=4*2097152:=dS v (ek _ s)
 refine⟨p,?_,t,Bv o.a.1 o.a.2,Bv o.b.1 o.b.2,fun m hm=>?_⟩
 .cases ws with
  |nil=>exact bg _
  |cons w r=>exact d w (by simp)
 .have A:=Ja n (od n) (kids.take m) fun c e=>by
   have e:=fC e
   exact Kj n (by omega) c (cz.1 y c e) (l c e)
  have B:=LG n (by omega)
  have C:(kids.take m).length*(od n+1)<=4*(od n+1):=ek _ (by rw[bN];have:=o.vv;omega)
  omega
theorem anB (n:Nat) (kids:List aN) (m:Nat) (h:m<kids.length):(kids.take (m+1)).flatMap (fun c=>[32]++dX n c)=(kids.take m).flatMap (fun c=>[32]++dX n c)++([32]++dX n kids[m]):=by
 rw[dT h,wA]
 simp
theorem apz (n:Nat) (kids:List aN) {N:Nat} (p:kids.length<N) {l:Type} (F:(l->Option (List UInt8))->l->Option (List UInt8)) (st:List UInt8->Int->l) (pre:List UInt8) (i:∀go,F go (st (pre++kids.flatMap fun c=>[32]++dX n c) (kids.length:Int))=some ((pre++kids.flatMap fun c=>[32]++dX n c)++ [41]))
  (d:∀go (m:Nat) (hm:m<kids.length),F go (st (pre++(kids.take m).flatMap fun c=>[32]++dX n c) (m:Int))=go (st ((pre++(kids.take m).flatMap fun c=>[32]++dX n c)++([32]++dX n kids[m])) ((m:Int)+1))):iter F N (st pre 0)=some ((pre++kids.flatMap fun c=>[32]++dX n c)++ [41]):=by
 have e:st pre 0=st (pre++(kids.take 0).flatMap fun c=>[32]++dX n c) ((0:Nat):Int):=by simp
 rw[e]
 refine(dh F kids.length (fun m=>st (pre++(kids.take m).flatMap fun c=>[32]++dX n c) (m:Int)) (fun _=>some ((pre++kids.flatMap fun c=>[32]++dX n c)++ [41])) (fun go=>?_) (fun go m hm o=>?_) N 0 (bg _) (by omega)).trans rfl
 .rw [cj]
  exact i go
 .rw [d go m hm,<-o,anB n kids m hm,e5,aS]
theorem UB (N:Nat) (C:1048576<N) (F:N<=16777216):∀(n D:Nat),n<=4->n<=D->∀q,cZ n q=true->ie n q->u0 N D q.kind q.field q.words q.lo q.hi q.kids=some (dX n q)
 |0,_,_,_,q,h,_=>by cases q;simp[cZ]at h
 |n+1,0,_,y,_,_,_=>absurd y (by omega)
 |n+1,D+1,bj,y,.mk k f ws a b kids,h,z=>by
  have O:=h
  unfold cZ at h
  rw[a6]at h
  have P:=Ff.of (by omega) h.1 h.2 z
  have o:=JY h.1
  obtain⟨_,hw,l,G,r⟩:=z
  have l:∀w,w∈ws->w.length<=1048576:=l
  obtain⟨Q,S,T,U,V,A⟩:=P
  have t:=oF N a (by have:=o.a;omega) (by have:=o.a;omega)
  have H:=oF N b (by have:=o.b;omega) (by have:=o.b;omega)
  have I:=Q9 N ws [43] (by have:=o.wn;omega) (by decide) l
  have J:=o.vv
  have vv:=A kids.length (bE _)
  rw[cj]at vv
  dsimp only[aN.kind,aN.field,aN.words,aN.lo,aN.hi,aN.kids]
  rw[u0]
  have loop:∀(K:Int) (pre:List UInt8),pre.length<=100->iter (fun(go:((List UInt8)×(List aN)×Int×Int)->Option ((List UInt8))) (g:(List UInt8)×(List aN)×Int×Int)=>
    match g with
    |(d,t79,t80,t81)=>
    (bif(decide (t81<t80))then
    (Option.bind (idx t79 t81) fun(p:aN)=>
    (Option.bind (u0 N D p.kind p.field p.words p.lo p.hi p.kids) fun(v:(List UInt8))=>
    (if([32]:List UInt8).length+v.length<=9223372036854775807 then
    (if d.length+(([32]:List UInt8)++v).length<=9223372036854775807 then
    (if fits (t81+1)then(go ((d++(([32]:List UInt8)++v)),t79,t80,(t81+1)))else none)
    else none)
    else none)))
    else
    (if d.length+([41]:List UInt8).length<=9223372036854775807 then
    (some (d++([41]:List UInt8)))
    else none))) N (pre,kids,(kids.length:Int),0)=some ((pre++kids.flatMap fun c=>[32]++dX n c)++ [41]):=fun K pre B=>by
   refine apz n kids (by omega) _ (fun out i=>(out,kids,(kids.length:Int),i)) pre (fun go=>?_) (fun go m hm=>?_)
   .dsimp only
    rw[an (bm _),aj,ai (by rw[bh,bS];omega)]
   .dsimp only
    have u:=br hm
    have L:=A m (by omega)
    have W:=Kj n (by omega) _ (cz.1 h.2 _ u) (r _ u)
    have M:=LG n (by omega)
    rw[aq (by omega:(m:Int)<kids.length),ao,aP hm,ag,UB N C F n D (by omega) (by omega) _ (cz.1 h.2 _ u) (r _ u),ag,
     ai (by rw[bS];omega),ai (by simp only[bh,bS];omega),ai (aO (n:=m) (by omega))]
  rcases o.kind with rfl|rfl|rfl|rfl|rfl|rfl|rfl|rfl|rfl|rfl
  .rfl
  .have s:=(GY (o.ev (.inl rfl))).1
   simp only[meet,Int.reduceEq,decide_false,decide_true,aj,ao]
   rw[ai (by rw[bS];omega),s,ag,ai (by simp only[bh,bS];omega)]
   rfl
  .simp only [meet,Int.reduceEq,decide_false,decide_true,aj,ao]
   rw[ai (by rw[bS];omega),I,ag,ai (by simp only[bh,bS];omega),ai (by simp only[bh,bS];omega),t,ag,ai (by simp only[bh,bS];omega)]
   rfl
  .have s:=(GY (o.ev (.inr (.inl rfl)))).1
   simp only[meet,Int.reduceEq,decide_false,decide_true,aj,ao]
   rw[ai (by rw[bS];omega),s,ag,ai (by simp only[bh,bS];omega),ai (by simp only[bh,bS];omega),t,ag,ai (by simp only[bh,bS];omega)]
   rfl
  .have s:=(GY (o.ev (.inr (.inr rfl)))).1
   simp only[meet,Int.reduceEq,decide_false,decide_true,aj,ao]
   rw[ai (by rw[bS];omega),s,ag,ai (by simp only[bh,bS];omega)]
   rfl
  .simp only [meet,Int.reduceEq,decide_false,decide_true,aj,ao]
   rw[ai (by rw[bS];omega),t,ag,ai (by simp only[bh,bS];omega),ai (by simp only[bh,bS,ba,bH];omega),H,ag,ai (by simp only[bh,bS,ba,bH];omega)]
   rfl
  .simp only [meet,Int.reduceEq,decide_false,decide_true,aj,ao]
   rw[ai (by decide)]
   exact loop 7 _ (by decide)
  .simp only [meet,Int.reduceEq,decide_false,decide_true,aj,ao]
   rw[ai (by decide)]
   exact loop 8 _ (by decide)
  .simp only [meet,Int.reduceEq,decide_false,decide_true,aj,ao]
   rw[ai (by decide)]
   exact loop 9 _ (by decide)
  .simp only [meet,Int.reduceEq,decide_false,decide_true,aj,ao]
   rw[ai (by decide),t,ag,ai (by rw[bS];omega),ai (by
    have e:((ea (.int .i64) .str nh (10:Int)).getD ([]:List UInt8))=[116,105,109,101,115]:=rfl
    rw[e]
    simp only[bh,bS,ba,bH];omega)]
   have e:((ea (.int .i64) .str nh (10:Int)).getD ([]:List UInt8))=[116,105,109,101,115]:=rfl
   rw[e]
   refine(loop 10 _ (by simp only[bh,bS,ba,bH];omega)).trans ?_
   rfl
theorem apN (N:Nat) (d:1048576<N) (i:N<=16777216) (q:aN) (e:ie 4 q):Bk N q.kind q.field q.words q.lo q.hi q.kids=some (bif cZ 4 q then dX 4 q else []):=by
 unfold Bk
 rw[yQ N d (by omega) q e,ag]
 cases h:cZ 4 q with
 |false=>rfl
 |true=>rw[bf,aj,UB N d i 4 N (by omega) (by omega) q h e,ag];rfl
theorem EW (N:Nat) (n a b:Int):dV N n a b=some (decide (a<=n/\n<=b)):=by
 unfold dV
 by_cases h:a<=n<;>simp[h]
abbrev gI :=Int×Int
abbrev dp :=List UInt8×List (Int×Int)
def jc (ask:List UInt8):List dp->Int->Int
 | [],_=> -1
 |x::xs,i=>if x.1=ask then i else jc ask xs (i+1)
theorem find_spec (N:Nat) (c c2:Int) (xs:List dp) (ask:List UInt8) (h:xs.length<N) (l:(xs.length:Int)<=9223372036854775806):xF N c c2 xs ask=some (jc ask xs 0):=by
 unfold xF
 refine(dh _ xs.length (fun n=>(ask,xs,(xs.length:Int),(n:Int))) (fun n=>some (jc ask (xs.drop n) n)) (fun go=>?_) (fun go n bj d=>?_) N 0 (bg _) (by omega)).trans (by simp)
 .simp [jc]
 .have i:(n:Int)<xs.length:=by omega
  dsimp only
  rw[aq i,ao,aP bj,ag,eY bj]
  by_cases e:xs[n].1=ask
  .rw [aq e,ao,jc,ai e]
  .rw [an e,aj,ai (aO (n:=n) (by omega)),jc,aC e]
   simp only[aS]at d
   exact d
def sb (d:Int) (xs:List gI):Bool:=xs.any fun x=>decide (x.1=d)
def qO (d:Int):List gI->Int->Int
 | [],_=> -1
 |x::xs,i=>if x.1=d then i else qO d xs (i+1)
theorem MB (d:Int):∀(xs:List gI) (i:Int),0<=i->(decide (0<=qO d xs i))=sb d xs
 | [],i,_=>rfl
 |x::xs,i,h=>by
  simp only[qO,sb,qh]
  by_cases e:x.1=d
  .simp [e,h]
  .simp only [e,if_false,decide_false,fL]
   exact MB d xs (i+1) (by omega)
theorem Y9 (N:Nat) (xs:List gI) (d:Int) (h:xs.length<N) (p:(xs.length:Int)<=9223372036854775806):q2 N xs d=some (sb d xs):=by
 have o:vt N xs d=some (qO d xs 0):=by
  unfold vt
  refine(dh _ xs.length (fun n=>(xs,d,(xs.length:Int),(n:Int))) (fun n=>some (qO d (xs.drop n) n)) (fun go=>?_) (fun go n bj e=>?_) N 0 (bg _) (by omega)).trans (by simp)
  .simp [qO]
  .have l:(n:Int)<xs.length:=by omega
   dsimp only
   rw[aq l,ao,aP bj,ag,Bp,ag,eY bj]
   by_cases i:xs[n].1=d
   .rw [aq i,ao,qO,ai i]
   .rw [an i,aj,ai (aO (n:=n) (by omega)),qO,aC i]
    simp only[aS]at e
    exact e
 simp only[q2,C4,o,ag,MB d xs 0 (ic _)]
theorem W9 (N:Nat) (x y:Int):rb N x y=some (if x<y then-1 else if y<x then 1 else 0):=by
 simp only[rb,pP,ag,decide_true,bf,aj]
 by_cases h:x<y
 .simp [h]
 .by_cases d:y<x<;>simp[h,d]
theorem ao3 (M:Nat) (x y:Int):s0 (M+3) [x,y]=some (if x=0 then y else x):=by
 unfold s0
 by_cases h:x=0
 .by_cases d:y=0<;>simp[iter,idx,h,d,fits]
 .simp [iter,idx,h]
def rX (x y:gI):Bool:=decide (y.2<x.2\/x.2=y.2/\x.1<y.1)
theorem ao4 (M:Nat) (x y:gI):∃r,sC (M+3) x.1 x.2 y.1 y.2=some r/\(decide (0<=r))= !rX x y:=by
 simp only[sC,W9,ag,ao3]
 refine⟨_,rfl,?_⟩
 unfold rX
 by_cases d:y.2<x.2
 .simp [d]
 .by_cases l:x.2<y.2
  .have:¬(x.2=y.2):=by omega
   simp[d,l,this]
  .have e:x.2=y.2:=by omega
   by_cases i:x.1<y.1
   .simp [e,i]
   .by_cases o:y.1<x.1<;>simp[e,i,o]
def JM (xs:List gI) (n:Nat) (x:gI):Bool:=decide (1<=x.1/\x.1<=9999)&& !decide (x.2<1)&& !sb x.1 (xs.take n)&&(decide (n=0)||(match xs[n-1]? with|some y=>rX y x|none=>false))
def kG (xs:List gI):List gI->Nat->Bool
 | [],_=>decide ((xs.length:Int)<=16)
 |x::l,n=>JM xs n x&&kG xs l (n+1)
theorem NB (M:Nat) (xs:List gI) (h:xs.length<M+3) (A:(xs.length:Int)<=9223372036854775806):nw (M+3) xs=some (kG xs xs 0):=by
 unfold nw
 refine(dh _ xs.length (fun n=>(xs,xs,(xs.length:Int),(n:Int))) (fun n=>some (kG xs (xs.drop n) n)) (fun go=>?_) (fun go n bj d=>?_) (M+3) 0 (bg _) (by omega)).trans (by simp)
 .simp [kG]
 .have o:(n:Int)<xs.length:=by omega
  dsimp only
  rw[aq o,ao,aP bj,ag,EW,ag,eY bj,kG,JM]
  by_cases s:1<=xs[n].1/\xs[n].1<=9999
  .rw [aq s,bf,aj,cl]
   by_cases t:xs[n].2<1
   .rw [aq t,ao];rfl
   .have v:q2 (M+3) (xs.take n) xs[n].1=some (sb xs[n].1 (xs.take n)):=Y9 _ _ _ (by simp;omega) (by simp;omega)
    rw[an t,aj,Ma xs n (by omega),ag,v,ag]
    cases B:sb xs[n].1 (xs.take n)with
    |true=>rfl
    |false=>
     rw[aj]
     by_cases u:n=0
     .subst u
      rw[show(decide ((0:Int)<((0:Nat):Int)))=false from rfl,aj,ai (aO (n:=0) (by omega))]
      simp only[dH,cl,decide_true,ly]
      simp only[aS]at d
      exact d
     .have cp:(0:Int)<(n:Int):=by omega
      have y:(n:Int)-1=((n-1:Nat):Int):=by omega
      have e:n-1<xs.length:=by omega
      obtain⟨r,z,p⟩:=ao4 M xs[n-1] xs[n]
      have i:fits (((n-1:Nat):Int)):=by unfold fits;omega
      rw[aq cp,ao,y,ai i,aP e,ag,z,ag,p,ai (aO (n:=n) (by omega)),an u,bG e]
      cases l:rX xs[n-1] xs[n]with
      |true=>
       simp only[aS]at d
       rw[bf,aj,d]
       simp[l]
      |false=>
       rw[dH,ao]
       simp[l]
  .rw [an s];rfl
def sd (M:Nat) (xs:List dp):Prop:=∀x,x∈xs->x.2.length<M
def ja (a:List UInt8) (xs:List dp):Bool:=xs.any fun x=>decide (x.1=a)
theorem MD :∀(xs:List dp) (i n:Nat) (bj:n<xs.length),(decide (jc xs[n].1 xs (i:Int)=((i+n:Nat):Int)))= !ja xs[n].1 (xs.take n)
 | [],_,_,h=>absurd h (pc _)
 |x::xs,i,0,_=>by simp[jc,ja]
 |x::xs,i,n+1,h=>by
  have bj:n<xs.length:=by simpa using h
  simp only[List.getElem_cons_succ,jc,hX]
  by_cases e:x.1=xs[n].1
  .have l:¬((i:Int)=((i+(n+1):Nat):Int)):=by omega
   simp only[ai e,an l,ja,qh,aq e,ly,bf]
  .have d:=MD xs (i+1) n bj
   have o:((i+1+n:Nat):Int)=((i+(n+1):Nat):Int):=by omega
   rw[o,aS]at d
   simp only[aC e,ja,qh,an e,fL]
   exact d
def rp (xs:List dp) (n:Nat) (x:dp):Bool:= !decide (x.1=[])&&kG x.2 x.2 0&& !ja x.1 (xs.take n)
def iQ (xs:List dp):List dp->Nat->Bool
 | [],_=>true
 |x::l,n=>rp xs n x&&iQ xs l (n+1)
def fy (c g:Int) (xs:List dp):Bool:=decide (1<=c/\c<=5)&&decide (0<=g/\g<=999999999)&&decide ((xs.length:Int)<=c)&&iQ xs xs 0
theorem FC (M:Nat) (c g:Int) (xs:List dp) (h:xs.length<M+3) (t:(M:Int)<=9223372036854775000) (p:sd (M+3) xs):sx (M+3) c g xs=some (fy c g xs):=by
 unfold sx fy
 rw[EW,ag,EW,ag]
 cases u:decide (1<=c/\c<=5)with
 |false=>rfl
 |true=>
  cases v:decide (0<=g/\g<=999999999)with
  |false=>rfl
  |true=>
   rw[bf,aj,aj]
   by_cases l:c<(xs.length:Int)
   .have d:¬(xs.length:Int)<=c:=by omega
    rw[aq l,ao,an d];rfl
   .have d:(xs.length:Int)<=c:=by omega
    rw[an l,aj,aq d,cl,cl,cl]
    refine(dh _ xs.length (fun n=>(xs,(xs.length:Int),(n:Int),c,g,xs)) (fun n=>some (iQ xs (xs.drop n) n)) (fun go=>?_) (fun go n bj e=>?_) (M+3) 0 (bg _) (by omega)).trans (by simp)
    .simp [iQ]
    .have i:(n:Int)<xs.length:=by omega
     have r:=p xs[n] (br bj)
     simp only[aS]at e
     dsimp only
     rw[aq i,ao,aP bj,ag,eY bj,iQ,rp,NB M _ r (by omega),ag,find_spec (M+3) c g xs _ h (by omega),ag]
     cases y:decide (xs[n].1=[])with
     |true=>rfl
     |false=>
      rw[aj]
      cases z:kG xs[n].2 xs[n].2 0 with
      |false=>rfl
      |true=>
       have s:decide (jc xs[n].1 xs 0=(n:Int))= !ja xs[n].1 (xs.take n):=by
        have o:=MD xs 0 n bj
        rw[gV]at o
        exact o
       rw[bf,aj,s,ai (aO (n:=n) (by omega)),e]
       cases ja xs[n].1 (xs.take n)<;>rfl
def others (ask:List UInt8) (xs:List dp):List dp:=xs.filter fun x=> !decide (x.1=ask)
theorem ao6 (ask:List UInt8) (xs:List dp) (n:Nat) (h:n<xs.length):others ask (xs.take (n+1))=others ask (xs.take n)++(if xs[n].1=ask then []else [xs[n]]):=by
 unfold others
 rw[dT h,jP]
 congr 1
 by_cases e:xs[n].1=ask<;>simp[e]
theorem K0 (N:Nat) (c c2:Int) (xs:List dp) (ask:List UInt8) (h:xs.length<N) (o:N<=1099511627776) (l:sd N xs):nv N c c2 xs ask=some (others ask xs):=by
 unfold nv
 refine(dh _ xs.length (fun n=>(ask,others ask (xs.take n),xs,(xs.length:Int),(n:Int))) (fun n=>some (others ask xs)) (fun go=>?_) (fun go n bj d=>?_) N 0 (bg _) (by omega))
 .dsimp only
  rw[an (bm _),aj,cj]
 .have i:(n:Int)<xs.length:=by omega
  have p:=l xs[n] (br bj)
  have fR:(others ask (xs.take n)).length<=n:=by
   have:=ho (fun x:dp=> !decide (x.1=ask)) (xs.take n)
   simp only[bN]at this
   unfold others
   omega
  simp only[aS]at d
  rw[ao6 ask xs n bj]at d
  dsimp only
  rw[aq i,ao,aP bj,ag]
  by_cases e:xs[n].1=ask
  .rw [ai e,fe]at d
   rw[aq e,bf,aj,ai (aO (n:=n) (by omega))]
   exact d
  .rw [aC e]at d
   rw[an e,dH,ao,ai (bW (by simp only[bH];omega) (by simp only[bH];omega)),ai (bW (by simp only[ba,bH];omega) (by simp only[ba,bH];omega)),ai (aO (n:=n) (by omega)),fE]
   exact d
theorem Dy (xs:List dp):∀(l:List dp) (n i:Nat) (hi:i<l.length),iQ xs l n=true->rp xs (n+i) l[i]=true
 | [],_,_,h,_=>absurd h (pc _)
 |x::l,n,0,_,h=>by simp only[iQ,a6]at h;exact h.1
 |x::l,n,i+1,hi,h=>by
  simp only[iQ,a6]at h
  have:=Dy xs l (n+1) i (by simpa using hi) h.2
  rw[show n+(i+1)=n+1+i by omega]
  exact this
theorem SK {xs:List dp} (h:iQ xs xs 0=true) {i:Nat} (hi:i<xs.length):xs[i].1≠ []:=by
 have:=Dy xs xs 0 i hi h
 simp only[rp,a6]at this
 simpa using this.1.1
theorem yK {xs:List dp} (h:iQ xs xs 0=true) {i k:Nat} (hi:i<xs.length) (e:k<i):xs[k].1≠xs[i].1:=by
 have:=Dy xs xs 0 i hi h
 simp only[rp,a6,gV,ja,nZ,qg]at this
 have d:=this.2 xs[k] (by
  rw[List.mem_take_iff_getElem]
  exact⟨k,by omega,rfl⟩)
 simpa using d
theorem SP {xs:List dp} (h:iQ xs xs 0=true):others [] xs=xs:=by
 unfold others
 rw[List.filter_eq_self]
 intro x d
 obtain⟨i,hi,rfl⟩:=eb.1 d
 simpa using SK h hi
theorem ao5 {xs:List dp} (h:iQ xs xs 0=true) {i:Nat} (hi:i<xs.length):others xs[i].1 xs=xs.take i++xs.drop (i+1):=by
 have e:xs=xs.take i++xs[i]::xs.drop (i+1):=by
  rw[<-eY hi,ko]
 have p:others xs[i].1 (xs.take i)=xs.take i:=by
  unfold others
  rw[List.filter_eq_self]
  intro x d
  obtain⟨k,l,rfl⟩:=eb.1 d
  have o:k<i:=by simp at l;omega
  have:=yK h hi o
  simpa using this
 have r:others xs[i].1 (xs.drop (i+1))=xs.drop (i+1):=by
  unfold others
  rw[List.filter_eq_self]
  intro x d
  obtain⟨k,l,rfl⟩:=eb.1 d
  simp only[eF]at l
  have:=yK h (i:=i+1+k) (k:=i) (by omega) (by omega)
  simp only[List.getElem_drop]
  simpa using fun e=>this e.symm
 have s:others xs[i].1 xs=others xs[i].1 (xs.take i++xs[i]::xs.drop (i+1)):=by rw[<-e]
 rw[s]
 unfold others at p r⊢
 rw[jP,iY,p,r]
 simp
theorem ME :∀(a:List UInt8) (xs:List dp) (i:Nat),(jc a xs (i:Int)=-1/\ja a xs=false)\/ ∃n:Nat,∃bj:n<xs.length,jc a xs (i:Int)=((i+n:Nat):Int)/\xs[n].1=a/\ja a (xs.take n)=false
 |a,[],i=>.inl ⟨rfl,rfl⟩
 |a,x::xs,i=>by
  by_cases e:x.1=a
  .exact .inr ⟨0,by simp,by simp[jc,e],e,rfl⟩
  .rcases ME a xs (i+1)with⟨d,l⟩|⟨n,bj,d,l,o⟩
   .rw [aS]at d
    exact .inl ⟨by simp only[jc,aC e];exact d,by simp only[ja,qh,an e,fL];exact l⟩
   .rw [aS]at d
    refine .inr ⟨n+1,by simpa using bj,?_,l,?_⟩
    .simp only [jc,aC e]
     rw[d];omega
    .simp only [hX,ja,qh,an e,fL]
     exact o
theorem Dx {c g:Int} {xs:List dp} (h:fy c g xs=true):iQ xs xs 0=true:=by
 simp only[fy,a6]at h;exact h.2
inductive wH (c g:Int) (xs:List dp) (ask:List UInt8) (gen:Int):Int×Int×List dp×List gI×Bool->Prop
 |bad (h:fy c g xs=false):wH c g xs ask gen (0,0,[],[],false)
 |none (h:fy c g xs=true) (bj:gen≠g\/ja ask xs=false):wH c g xs ask gen (c,g,xs,[],false)
 |M6 (h:fy c g xs=true) (bU:gen=g) (n:Nat) (bj:n<xs.length) (cJ:xs[n].1=ask):wH c g xs ask gen (c,g,xs[n]::(xs.take n++xs.drop (n+1)),xs[n].2,true)
theorem aa0 (M:Nat) (c g:Int) (xs:List dp) (ask:List UInt8) (gen:Int) (h:xs.length<M+3) (t:M+3<=1099511627776) (p:sd (M+3) xs):∃r,xD (M+3) c g xs ask gen=some r/\wH c g xs ask gen r:=by
 unfold xD
 rw[FC M c g xs h (by omega) p,ag]
 cases d:fy c g xs with
 |false=>exact⟨_,rfl,.bad d⟩
 |true=>
  have hit:=Dx d
  rw[bf,aj,find_spec (M+3) c g xs ask h (by omega),ag,K0 (M+3) c g xs [] h t p,SP hit]
  by_cases bU:gen=g
  .rw [aq bU,bf,aj]
   rcases ME ask xs 0 with⟨s,l⟩|⟨n,bj,s,l,v⟩
   .have i:jc ask xs 0=-1:=s
    rw[i]
    exact⟨_,rfl,.none d (.inr l)⟩
   .have i:jc ask xs 0=(n:Int):=by
     have:jc ask xs 0=((0+n:Nat):Int):=s
     rwa[gV]at this
    have o:¬(n:Int)<0:=by omega
    have y:=p xs[n] (br bj)
    have u:=ao5 hit bj
    rw[l]at u
    rw[i,an o,aj,aP bj,ag,ai (bW (by simp only[bH];omega) (by simp only[bH];omega)),K0 (M+3) c g xs ask h t p,ag,u,
     ai (bW (by simp only[ba,bH,bh,bN,eF];omega) (by simp only[ba,bH,bh,bN,eF];omega))]
    rw[ai (bW (by simp only[bH];omega) (by simp only[bH];omega))]
    refine⟨_,rfl,?_⟩
    have e:(ask,([]:List gI)++xs[n].2)=xs[n]:=by rw[fE,<-l]
    rw[e]
    exact .M6 d bU n bj l
  .rw [an bU,dH,ao]
   exact⟨_,rfl,.none d (.inl bU)⟩
theorem Wx {a:List UInt8} {xs:List dp} {n:Nat} (bj:n<xs.length) (h:xs[n].1=a):ja a xs=true:=by
 simp only[ja,List.any_eq_true]
 exact⟨xs[n],br bj,by simpa using h⟩
theorem SE (xs:List dp):∀(l:List dp) (n:Nat),(∀i (hi:i<l.length),rp xs (n+i) l[i]=true)->iQ xs l n=true
 | [],_,_=>rfl
 |x::l,n,h=>by
  simp only[iQ,a6]
  refine⟨h 0 (by simp),SE xs l (n+1) fun i hi=>?_⟩
  have:=h (i+1) (by simpa using hi)
  rw[show n+1+i=n+(i+1) by omega]
  exact this
def YD (x:dp):Prop:=x.1≠ []/\kG x.2 x.2 0=true
theorem JT (xs:List dp):iQ xs xs 0=true↔(∀x,x∈xs->YD x)/\(xs.map (·.1)).Nodup:=by
 constructor
 .intro h
  refine⟨fun x d=>?_,?_⟩
  .obtain ⟨i,hi,rfl⟩:=eb.1 d
   have:=Dy xs xs 0 i hi h
   simp only[rp,a6]at this
   exact⟨SK h hi,this.1.2⟩
  .rw [List.nodup_iff_pairwise_ne,gx]
   intro i j hi o e
   simp only[List.getElem_map]
   exact yK h (by simpa using o) e
 .rintro ⟨p,l⟩
  refine SE xs xs 0 fun i hi=>?_
  have bU:=p xs[i] (br hi)
  simp only[rp,a6,nZ,gV]
  refine⟨⟨by simpa using bU.1,bU.2⟩,?_⟩
  simp only[ja,qg]
  intro x d
  obtain⟨k,r,rfl⟩:=List.mem_take_iff_getElem.1 d
  rw[List.nodup_iff_pairwise_ne,gx]at l
  have:=l k i (by simp;omega) (by simpa using hi) (by omega)
  simpa using this
theorem aoU {xs ys:List dp} (h:xs.Perm ys) (d:iQ xs xs 0=true):iQ ys ys 0=true:=by
 rw[JT]at d⊢
 exact⟨fun y hy=>d.1 y (h.mem_iff.2 hy),((h.map _).nodup_iff).1 d.2⟩
theorem MS (xs:List dp) (n:Nat) (bj:n<xs.length):(xs[n]::(xs.take n++xs.drop (n+1))).Perm xs:=by
 have d:xs.take n++xs[n]::xs.drop (n+1)=xs:=by
  rw[<-eY bj,ko]
 refine(List.perm_middle (a:=xs[n]) (l₁:=xs.take n) (l₂:=xs.drop (n+1))).symm.trans ?_
 rw[d]
theorem aoP {c g:Int} {xs:List dp} (h:fy c g xs=true) (n:Nat) (bj:n<xs.length):fy c g (xs[n]::(xs.take n++xs.drop (n+1)))=true:=by
 have cp:=MS xs n bj
 have d:=cp.length_eq
 simp only[fy,a6]at h⊢
 rw[d]
 exact⟨h.1,aoU cp.symm h.2⟩
theorem Ya {M:Nat} {xs ys:List dp} (h:xs.Perm ys) (d:sd M xs):sd M ys:=fun y hy=>d y (h.mem_iff.2 hy)
def nJ (ask:List UInt8) (gen:Int) (hits:List gI):Bool:= !decide (ask=[])&&decide (0<=gen/\gen<=999999999)&&kG hits hits 0
def h7 (c g:Int) (xs:List dp) (ask:List UInt8) (gen:Int):List dp:=if gen=g then(others ask xs).take (c-1).toNat else []
inductive po (c g:Int) (xs:List dp) (ask:List UInt8) (gen:Int) (hits:List gI):Int×Int×List dp->Prop
 |bad (h:fy c g xs=false):po c g xs ask gen hits (0,0,[])
 |none (h:fy c g xs=true) (bj:nJ ask gen hits=false):po c g xs ask gen hits (c,g,xs)
 |put (h:fy c g xs=true) (cp:nJ ask gen hits=true):po c g xs ask gen hits (c,gen,(ask,hits)::h7 c g xs ask gen)
theorem po.same {c g:Int} {xs:List dp} {ask:List UInt8} {gen:Int} {hits:List gI} {r o:Int×Int×List dp} (h:po c g xs ask gen hits r) (l:po c g xs ask gen hits o):r=o:=by
 cases h with
 |bad e=>cases l with
  |bad _=>rfl
  |none d _=>rw[e]at d;cases d
  |put d _=>rw[e]at d;cases d
 |none e bj=>cases l with
  |bad d=>rw[e]at d;cases d
  |none _ _=>rfl
  |put _ i=>rw[bj]at i;cases i
 |put e cp=>cases l with
  |bad d=>rw[e]at d;cases d
  |none _ i=>rw[cp]at i;cases i
  |put _ _=>rfl
theorem JN {c g:Int} {xs:List dp} (h:fy c g xs=true):(1<=c/\c<=5)/\(0<=g/\g<=999999999)/\(xs.length:Int)<=c:=by
 simp only[fy,a6,bo]at h
 exact⟨h.1.1.1,h.1.1.2,h.1.2⟩
theorem apB {N:Nat} (hits:List gI) (h:hits.length<N) (d:N<=1099511627776):room ([]:List (Int×Int)).length hits.length 16:=bW (by simp only[bH];omega) (by simp only[bH];omega)
theorem aa1 (M:Nat) (c g:Int) (xs:List dp) (ask:List UInt8) (gen:Int) (hits:List gI) (h:xs.length<M+3) (r:M+3<=1099511627776) (s:sd (M+3) xs) (t:hits.length<M+3):
  Def (xE (M+3) c g xs ask gen hits) (po c g xs ask gen hits):=by
 unfold xE
 rw[FC M c g xs h (by omega) s,ag]
 refine Def.bif (fun e=>Def.ret (.bad (by simpa using e))) (fun e=>?_)
 have d:fy c g xs=true:=by simpa using e
 obtain⟨B,bU,C⟩:=JN d
 have hw:∀a,nv (M+3) c g xs a=some (others a xs):=fun a=>K0 (M+3) c g xs a h r s
 rw[hw [],SP (Dx d),EW,NB M hits t (by omega)]
 simp only[ag]
 refine Def.bO (fun cJ=>Def.ret (.none d (by simp[nJ,cJ]))) (fun cJ=>?_)
 refine Def.bif (fun i=>Def.ret (.none d ?_)) (fun i=>?_)
 .have:decide (0<=gen/\gen<=999999999)=false:=by rw[nZ]at i;exact i
  unfold nJ;rw[this];simp
 refine Def.bif (fun o=>Def.ret (.none d ?_)) (fun o=>?_)
 .have:kG hits hits 0=false:=by simpa using o
  unfold nJ;rw[this];simp
 have cp:nJ ask gen hits=true:=by
  have y:decide (0<=gen/\gen<=999999999)=true:=by simpa using i
  have z:kG hits hits 0=true:=by simpa using o
  unfold nJ;rw[y,z];simp[cJ]
 refine Def.ite (apB hits t r) ?_
 refine Def.meet (fun u=>u=(gen,(ask,hits)::h7 c g xs ask gen,c,g,xs,0,0)) (fun u i=>by subst i;exact Def.ret (.put d cp)) fun J v=>?_
 rw[hw ask,ag,fE]
 have fR:(others ask xs).length<=xs.length:=ho _ _
 refine Def.bO (fun p=>?_) (fun p=>v _ ?_)
 .refine Def.ite (by unfold fits;omega) ?_
  have em:(if(c-1)<((others ask xs).length:Int)then(c-1)else((others ask xs).length:Int))=((min (c-1).toNat (others ask xs).length:Nat):Int):=by
   by_cases l:(c-1)<((others ask xs).length:Int)
   .rw [ai l];omega
   .rw [aC l];omega
  rw[em]
  refine Def.cut (by omega) (by omega) (by omega) ?_
  have A:((others ask xs).take (((min (c-1).toNat (others ask xs).length:Nat):Int)).toNat).drop ((0:Int)).toNat=h7 c g xs ask gen:=by
   rw[eg,h7,ai p]
   by_cases l:(c-1).toNat<=(others ask xs).length
   .rw [pg l];rfl
   .rw [Nat.min_eq_right (by omega),cj,jS (by omega)];rfl
  have F:(h7 c g xs ask gen).length<=5:=by
   rw[h7,ai p,bN];omega
  rw[A]
  refine Def.ite (bW (by simp only[ba,bH];omega) (by simp only[ba,bH];omega)) (v _ ?_)
  rfl
 .rw [h7,aC p]
theorem Kt {c g:Int} {xs:List dp} {ask:List UInt8} {gen:Int} {x:dp} (h:x∈h7 c g xs ask gen):gen=g/\x∈xs/\x.1≠ask:=by
 unfold h7 at h
 by_cases d:gen=g
 .rw [ai d]at h
  have:=fC h
  simp only[others,gH]at this
  exact⟨d,this.1,by simpa using this.2⟩
 .rw [aC d]at h;cases h
theorem TI {c g:Int} {xs:List dp} {ask:List UInt8} {gen:Int} (e:1<=c/\c<=5):((h7 c g xs ask gen).length:Int)<=c-1:=by
 unfold h7
 by_cases d:gen=g
 .rw [ai d,bN];omega
 .rw [aC d];simp only[bH];omega
theorem apA {c g:Int} {xs:List dp} {ask:List UInt8} {gen:Int} {hits:List gI} (h:fy c g xs=true) (cp:nJ ask gen hits=true):fy c gen ((ask,hits)::h7 c g xs ask gen)=true:=by
 obtain⟨r,bU,t⟩:=JN h
 have hit:=(JT xs).1 (Dx h)
 simp only[nJ,a6,bo,nZ,decide_eq_false_iff_not]at cp
 obtain⟨⟨e,i⟩,l⟩:=cp
 have hlen:=TI (g:=g) (xs:=xs) (ask:=ask) (gen:=gen) r
 have o:((h7 c g xs ask gen).map (·.1)).Nodup:=by
  unfold h7
  by_cases s:gen=g
  .rw [ai s]
   exact List.Sublist.nodup (List.Sublist.map _ ((tQ _ _).trans List.filter_sublist)) hit.2
  .rw [aC s];exact List.nodup_nil
 have hi:iQ ((ask,hits)::h7 c g xs ask gen) ((ask,hits)::h7 c g xs ask gen) 0=true:=by
  refine(JT _).2 ⟨fun x d=>?_,?_⟩
  .rcases bn.1 d with rfl|d
   .exact ⟨e,l⟩
   .exact hit.1 _ (Kt d).2.1
  .rw [cw,n2]
   refine⟨fun hm=>?_,o⟩
   obtain⟨x,d,p⟩:=cg.1 hm
   exact(Kt d).2.2 p
 simp only[fy,a6,bo]
 exact⟨⟨⟨r,i⟩,by simp only[ba];omega⟩,hi⟩
theorem aod (a b:bY):eP a b=rX a b:=by
 unfold eP rX
 by_cases d:b.2<a.2<;>by_cases e:a.2=b.2<;>by_cases i:a.1<b.1<;>simp[d,e,i]
theorem SD (xs:List gI) (d:∀x,x∈xs->(1<=x.1/\x.1<=9999)/\1<=x.2) (o:xs.Pairwise fun a b=>rX a b=true) (p:xs.Pairwise fun a b=>a.1≠b.1) (r:xs.length<=16):∀(l:List gI) (n:Nat),xs.drop n=l->kG xs l n=true
 | [],n,_=>by
  unfold kG
  exact aq (by omega)
 |x::l,n,e=>by
  have bj:n<xs.length:=by
   have:=congrArg List.length e
   rw[eF,ba]at this
   omega
  have ex:xs[n]=x:=by
   have:=congrArg (·[0]?) e
   simpa[hV,bG bj]using this
  have el:xs.drop (n+1)=l:=by
   have:=congrArg List.tail e
   simpa[List.tail_drop]using this
  unfold kG
  rw[a6]
  refine⟨?_,SD xs d o p r l (n+1) el⟩
  have s:=d x (ex▸br bj)
  unfold JM
  simp only[a6,lu,bo,nZ,decide_eq_false_iff_not]
  refine⟨⟨⟨s.1,by omega⟩,?_⟩,?_⟩
  .unfold sb
   rw[qg]
   intro y hy
   obtain⟨i,hi,rfl⟩:=eb.1 hy
   rw[bN]at hi
   rw[List.getElem_take]
   have:=gx.1 p i n (by omega) bj (by omega)
   rw[ex]at this
   simpa using this
  .by_cases t:n=0
   .exact .inl t
   .refine .inr ?_
    rw[bG (by omega:n-1<xs.length)]
    have:=gx.1 o (n-1) n (by omega) bj (by omega)
    rw[ex]at this
    exact this
theorem arY {N:Nat} {c:aK} {s:cq} {q:aN} (most:Nat):kG (jq N c s q dD most) (jq N c s q dD most) 0=true:=by
 have t:=A3 N c s q dD
 obtain⟨C,u⟩:=nR t
 have O:=uT N c s q dD
 have l:((eB (e4 N c s q dD)).take most).Sublist (eB (e4 N c s q dD)):=tQ _ _
 have I:(eB (e4 N c s q dD)).length<=16:=by
  rw[show eB _=List.foldl fv [] _ from rfl,Ew]
  simp only[bH]
  omega
 have v:(eB (e4 N c s q dD)).Pairwise fun a b=>a.1≠b.1:=by
  refine gx.2 fun i j hi F y e=>?_
  have o:=gx.1 C i j hi F y
  have z:=(u _).1 (br hi)
  have A:=(u _).1 (br F)
  obtain⟨a,cJ,J⟩:=eb.1 z
  obtain⟨b,G,K⟩:=eb.1 A
  rw[<-J,<-K]at e o
  rcases pd a b with h|h|h
  .exact gx.1 t a b cJ G h e
  .subst h
   rw[s7]at o
   cases o
  .exact gx.1 t b a G cJ h e.symm
 refine SD _ (fun x L=>?_) ((C.imp fun {a b} h=>(aod a b)▸h).sublist l) (v.sublist l) (by show((eB (e4 N c s q dD)).take most).length<=16;rw[bN];omega) _ 0 rfl
 have hm:=(u x).1 (l.subset L)
 unfold e4 at hm
 cases p:fS c s with
 |false=>rw[p]at hm;cases hm
 |true=>
  cases H:cZ 4 q with
  |false=>rw[p,H]at hm;cases hm
  |true=>
   rw[p,H]at hm
   obtain⟨d,B,rfl,M,_⟩:=A2 (V:=fun d=>h9 N N c s d q) hm
   have r:=nE (rq p) d B
   unfold gF at r
   simp only[a6,bo]at r
   exact⟨⟨r.1.1.1.1.1,r.1.1.1.1.2⟩,by dsimp only at M⊢;omega⟩
theorem apw {n:Nat} {q:aN} (h:cZ n q=true):dX n q≠ []:=by
 cases n with
 |zero=>cases q;simp[cZ]at h
 |succ n=>
  cases q with
  |mk k f ws a b kids=>
   unfold dX
   cases decide (k=1)<;>cases(decide (k=2)||decide (k=5))<;>cases decide (k=3)<;>cases decide (k=4)<;>cases decide (k=6)<;>simp
abbrev tY :Type:=Int×Int×List dp
structure zA (N:Nat) (c:tY):Prop where
 len:c.2.2.length<N
 c7:sd N c.2.2
def mw (gen:Int):Bool:=decide (0<=gen)&&decide (gen<=999999999)
abbrev iq (N:Nat) (x:b8) (q:aN):List bY:=mT N x.1 (gG x) q dD 16
inductive mi (N:Nat) (c:tY) (x:b8) (gen:Int) (q:aN):Int×Int×List dp×List gI×Bool->Prop
 |bad (h:(fy c.1 c.2.1 c.2.2&&(cf x&&(cZ 4 q&&mw gen)))=false):mi N c x gen q (0,0,[],[],false)
 |k3 (h:(fy c.1 c.2.1 c.2.2&&(cf x&&(cZ 4 q&&mw gen)))=true) (bU:gen=c.2.1) (n:Nat) (bj:n<c.2.2.length) (cJ:c.2.2[n].1=dX 4 q):mi N c x gen q (c.1,c.2.1,c.2.2[n]::(c.2.2.take n++c.2.2.drop (n+1)),c.2.2[n].2,true)
 |new (h:(fy c.1 c.2.1 c.2.2&&(cf x&&(cZ 4 q&&mw gen)))=true) (bj:gen≠c.2.1\/ja (dX 4 q) c.2.2=false):mi N c x gen q (c.1,gen,(dX 4 q,iq N x q)::h7 c.1 c.2.1 c.2.2 (dX 4 q) gen,iq N x q,false)
theorem Nz (N:Nat) (x:b8) (q:aN):(iq N x q).length<=16:=by
 show(jq N x.1 (gG x) q dD (16:Int).toNat).length<=16
 unfold jq
 rw[bN]
 exact Nat.min_le_left _ _
theorem NA {N:Nat} {x:b8} {q:aN} {gen:Int} (d:cZ 4 q=true) (bU:mw gen=true):nJ (dX 4 q) gen (iq N x q)=true:=by
 unfold mw at bU
 simp only[a6,bo]at bU
 unfold nJ
 rw[an (apw d),aq bU]
 exact arY (N:=N) (c:=x.1) (s:=gG x) (q:=q) 16
theorem apx {N:Nat} {x:b8} {q:aN} {gen:Int} {c g:Int} {xs:List dp} {r:Int×Int×List dp} (d:fy c g xs=true) (e:cZ 4 q=true) (bU:mw gen=true) (h:po c g xs (dX 4 q) gen (iq N x q) r):r=(c,gen,(dX 4 q,iq N x q)::h7 c g xs (dX 4 q) gen):=
 h.same (.put d (NA e bU))
theorem LO {N:Nat} {c:tY} (K:zA N c) {x:b8} (h:dC N x) {q:aN} (o:ie 4 q) (gen:Int):∃r,sy N c.1 c.2.1 c.2.2 x.1.1 x.1.2 x.2 gen q.kind q.field q.words q.lo q.hi q.kids=some r/\mi N c x gen q r:=by
 have v:1048576<N:=h.cS
 have z:=h.top
 have A:sx N c.1 c.2.1 c.2.2=some (fy c.1 c.2.1 c.2.2):=by
  obtain⟨M,rfl⟩:∃M,N=M+3:=⟨N-3,by omega⟩
  exact FC M _ _ _ K.len (by omega) K.c7
 unfold sy
 rw[A,ag]
 cases i:fy c.1 c.2.1 c.2.2 with
 |false=>exact⟨_,rfl,.bad (by rw[i];rfl)⟩
 |true=>
  rw[bf,aj,sF h,ag]
  cases l:cf x with
  |false=>exact⟨_,rfl,.bad (by rw[i,l];rfl)⟩
  |true=>
   rw[bf,aj,yQ N h.cS (by omega) q o,ag]
   cases d:cZ 4 q with
   |false=>exact⟨_,rfl,.bad (by rw[i,l,d];rfl)⟩
   |true=>
    rw[bf,aj,fB,ag,show(decide ((0:Int)<=gen)&&decide (gen<=999999999))=mw gen from rfl]
    cases bU:mw gen with
    |false=>exact⟨_,rfl,.bad (by rw[i,l,d,bU];rfl)⟩
    |true=>
     have e:(fy c.1 c.2.1 c.2.2&&(cf x&&(cZ 4 q&&mw gen)))=true:=by rw[i,l,d,bU];rfl
     have s:=apN N v z q o
     rw[d,ao]at s
     obtain⟨r,g1,G⟩:∃r,xD N c.1 c.2.1 c.2.2 (dX 4 q) gen=some r/\wH c.1 c.2.1 c.2.2 (dX 4 q) gen r:=by
      obtain⟨M,rfl⟩:∃M,N=M+3:=⟨N-3,by omega⟩
      exact aa0 M _ _ _ _ _ K.len (by omega) K.c7
     rw[bf,aj,s,ag,g1,ag]
     have t:=Nz N x q
     obtain⟨y,B,Y⟩:∃y,xE N c.1 c.2.1 c.2.2 (dX 4 q) gen (iq N x q)=some y/\po c.1 c.2.1 c.2.2 (dX 4 q) gen (iq N x q) y:=by
      obtain⟨M,rfl⟩:∃M,N=M+3:=⟨N-3,by omega⟩
      exact aa1 M _ _ _ _ _ _ K.len (by omega) K.c7 (by omega)
     have C:=apx i d bU Y
     have t1:=N7 h o 16
     have F:k9 N x q 16=iq N x q:=by unfold k9;rw[l,d];rfl
     rw[F]at t1
     cases G with
     |bad u=>rw[i]at u;cases u
     |none _ bj=>
      refine⟨_,?_,.new e bj⟩
      dsimp only
      rw[aj,t1,ag,B,C,ag]
     |M6 _ p n bj cJ=>exact⟨_,rfl,.k3 e p n bj cJ⟩
theorem arX {N:Nat} {c:tY} {x:b8} {gen:Int} {q:aN} {r:Int×Int×List dp×List gI×Bool} (h:mi N c x gen q r) (K:zA N c) (l:100<N) (e:N<=16777216):zA N (r.1,r.2.1,r.2.2.1)/\r.2.2.2.1.length<N:=by
 cases h with
 |bad=>exact⟨⟨by show 0<N;omega,fun x i=>by cases i⟩,by show 0<N;omega⟩
 |k3 _ _ n bj _=>
  have cp:=MS c.2.2 n bj
  exact⟨⟨by show(c.2.2[n]::_).length<N;rw[cp.length_eq];exact K.len,Ya cp.symm K.c7⟩,K.c7 _ (br bj)⟩
 |new h _=>
  have o:=Nz N x q
  simp only[a6]at h
  have d:=JN h.1
  have p:=TI (g:=c.2.1) (xs:=c.2.2) (ask:=dX 4 q) (gen:=gen) d.1
  refine⟨⟨?_,fun y hy=>?_⟩,by show(iq N x q).length<N;omega⟩
  .show ((dX 4 q,iq N x q)::h7 c.1 c.2.1 c.2.2 (dX 4 q) gen).length<N
   rw[ba]
   have:=d.1
   omega
  .have hy:y∈(dX 4 q,iq N x q)::h7 c.1 c.2.1 c.2.2 (dX 4 q) gen:=hy
   rcases bn.1 hy with rfl|hy
   .show (iq N x q).length<N
    omega
   .exact K.c7 _ (Kt hy).2.1
theorem arW {N:Nat} {c:tY} {x:b8} {gen:Int} {q:aN} {r:Int×Int×List dp×List gI×Bool} (h:mi N c x gen q r) (e:(fy c.1 c.2.1 c.2.2&&(cf x&&(cZ 4 q&&mw gen)))=true):fy r.1 r.2.1 r.2.2.1=true/\mi N (r.1,r.2.1,r.2.2.1) x gen q (r.1,r.2.1,r.2.2.1,r.2.2.2.1,true):=by
 have d:=e
 simp only[a6]at d
 cases h with
 |bad h=>rw[e]at h;cases h
 |k3 _ bU n bj cJ=>
  have i:=aoP d.1 n bj
  refine⟨i,?_⟩
  have:=mi.k3 (N:=N) (c:=(c.1,c.2.1,c.2.2[n]::(c.2.2.take n++c.2.2.drop (n+1)))) (x:=x) (gen:=gen) (q:=q) (by dsimp only;rw[i,d.2.1,d.2.2.1,d.2.2.2];rfl) bU 0 (by simp) cJ
  simpa using this
 |new _ bj=>
  have i:=apA (ask:=dX 4 q) (gen:=gen) (hits:=iq N x q) d.1 (NA d.2.2.1 d.2.2.2)
  refine⟨i,?_⟩
  have:=mi.k3 (N:=N) (c:=(c.1,gen,(dX 4 q,iq N x q)::h7 c.1 c.2.1 c.2.2 (dX 4 q) gen)) (x:=x) (gen:=gen) (q:=q) (by dsimp only;rw[i,d.2.1,d.2.2.1,d.2.2.2];rfl) rfl 0 (by simp) rfl
  simpa using this
theorem mi.same {N:Nat} {c:tY} {x:b8} {gen:Int} {q:aN} {r l:Int×Int×List dp×List gI×Bool} (h:mi N c x gen q r) (o:mi N c x gen q l) (d:(fy c.1 c.2.1 c.2.2&&(cf x&&(cZ 4 q&&mw gen)))=true):r=l:=by
 have e:=d
 simp only[a6]at e
 have hit:=Dx e.1
 have look:∀n (bj:n<c.2.2.length),c.2.2[n].1=dX 4 q->ja (dX 4 q) c.2.2=true:=fun n bj cJ=>Wx bj cJ
 cases h with
 |bad h=>rw[d]at h;cases h
 |k3 _ bU n bj cJ=>
  cases o with
  |bad h=>rw[d]at h;cases h
  |k3 _ _ m hm p=>
   have:n=m:=by
    rcases pd n m with h|h|h
    .exact absurd (cJ.trans p.symm) (yK hit hm h)
    .exact h
    .exact absurd (p.trans cJ.symm) (yK hit bj h)
   subst this
   rfl
  |new _ i=>
   rcases i with h|h
   .exact absurd bU h
   .rw [look n bj cJ]at h;cases h
 |new _ i=>
  cases o with
  |bad h=>rw[d]at h;cases h
  |k3 _ bU n bj cJ=>
   rcases i with h|h
   .exact absurd bU h
   .rw [look n bj cJ]at h;cases h
  |new _ _=>rfl
theorem aa3 {N:Nat} {x:b8} (h:dC N x) (d:cf x=true):Bg N x.1.1 x.1.2 x.2=some (nd x):=by
 have e:1048576<N:=h.cS
 unfold Bg
 rw[sF h,ag,d,bf,aj,Lu h d,ag,LY N (lh (gu d).2.2.2) (by omega),ag]
theorem WX (N:Nat):Bc N 1=some (1,0,[]):=by
 unfold Bc
 rw[fB]
 rfl
theorem WY {N:Nat} (u:100<N) (l:N<=16777216) {x:b8} (F:dC N x) {q:aN} (lL:ie 4 q) (p:cf x=true) (s:cZ 4 q=true):∃a b c,sy N 1 0 [] x.1.1 x.1.2 x.2 0 q.kind q.field q.words q.lo q.hi q.kids=some (a,b,c,iq N x q,false)/\∃v y c',sy N a b c x.1.1 x.1.2 x.2 0 q.kind q.field q.words q.lo q.hi q.kids=some (v,y,c',iq N x q,true):=by
 have t:zA N (1,0,[]):=⟨by show 0<N;omega,fun x z=>by cases z⟩
 have i:(fy 1 0 []&&(cf x&&(cZ 4 q&&mw 0)))=true:=by rw[p,s];rfl
 obtain⟨r,A,T⟩:=LO t F lL 0
 obtain⟨B,_⟩:=arX T t u l
 obtain⟨o,C⟩:=arW T i
 obtain⟨J,G,H⟩:=LO B F lL 0
 have I:=H.same C (by dsimp only;rw[o,p,s];rfl)
 subst I
 have e:r.2.2.2.1=iq N x q/\r.2.2.2.2=false:=by
  cases T with
  |bad h=>rw[i]at h;cases h
  |k3 _ _ n bj _=>exact absurd bj (pc _)
  |new _ _=>exact⟨rfl,rfl⟩
 obtain⟨a,b,c,d,f⟩:=r
 obtain⟨rfl,rfl⟩:d=iq N x q/\f=false:=e
 exact⟨a,b,c,A,_,_,_,G⟩
theorem XA {N:Nat} (s:1048600<=N) (l:N<=16777216) {x:b8} (F:dC N x) (o:cf x=true):∃d,xH N [] x.1.1 x.1.2 x.2 (-1)=some (d,1)/\xJ N x.1.1 x.1.2 d=some (x.1.1,x.1.2,x.2,1):=by
 have t:n4 []:=⟨bg _,(fun f z=>by cases z)⟩
 have u:=Xy s l [] t F (-1)
 have e:uw [] x (-1)=kX [] x (-1):=by
  unfold uw
  rw[SC,o]
  rfl
 have hm:ei []=0:=by decide+kernel
 have i:(decide (99<ei []+1)||decide (24<([]:List bu).length+6))=false:=by rw[hm];rfl
 have p:x.2.length<=5:=(gu o).2.1
 have A:dQ x.1=true:=(gu o).1
 have r:l1 (kX [] x (-1)).1=true:=(Xc (JQ SC) p (-1)).ok
 obtain⟨g1,g2⟩:=Xd o i (-1) (.inl (by decide))
 have v:=Xa t x (-1)
 rw[e]at v u
 have y:=Xz s l x.1 F.c8 _ v
 rw[aoZ A r,g2,hm]at y
 rw[hm]at g1
 refine⟨(kX [] x (-1)).1,?_,y⟩
 rw[u]
 exact congrArg some (Prod.ext rfl (show(kX [] x (-1)).2=1 from g1))
theorem Yi {N:Nat} (ow:1048600<=N) (o:N<=16777216) (code more:List Int) (av:qs code):Df N code more=some true:=by
 have L:bC<N:=by show 1048576<N;omega
 have M:1048576<N:=L
 refine Def.get ?_
 unfold Df
 refine Def.bO (fun _=>Def.ret rfl) (fun _=>Def.bO (fun _=>Def.ret rfl) (fun O=>?_))
 refine Def.bind (XJ N L o av) fun r ⟨F,lL,z⟩=>?_
 obtain⟨mn,a2,a3,k,f,ws,lo,hi,ks,e⟩:=r
 dsimp only at F lL z⊢
 obtain⟨q,p⟩:∃q:aN,q= .mk k f ws lo hi ks:=⟨_,rfl⟩
 obtain⟨x,A⟩:∃x:b8,x=((mn,a2),a3):=⟨_,rfl⟩
 rw[<-p]at lL
 rw[<-A]at F
 have l4:k=q.kind:=by rw[p];rfl
 have jH:f=q.field:=by rw[p];rfl
 have mP:ws=q.words:=by rw[p];rfl
 have jI:lo=q.lo:=by rw[p];rfl
 have l5:hi=q.hi:=by rw[p];rfl
 have p2:ks=q.kids:=by rw[p];rfl
 have qf:mn=x.1.1:=by rw[A]
 have ia:a2=x.1.2:=by rw[A]
 have E0:a3=x.2:=by rw[A]
 clear p A
 subst l4 jH mP jI l5 p2 qf ia E0
 have jA:=(aaX F lL e).1
 have t1:=N7 F lL e
 have t2:=aba F lL e
 have t3:=Yl N (k9 N x q e) (by omega) (by omega)
 have tail:Def (Option.bind (p6 N x.1.1 x.1.2 x.2 q.kind q.field q.words q.lo q.hi q.kids e) fun o2=>Option.bind (lb N (k9 N x q e) o2) fun mQ=>some mQ) fun r=>r=true:=by
  rw[t2,ag,t3,ag]
  exact Def.ret rfl
 rw[t1,ag]
 refine Def.bind (P:=fun r=>r=k9 N x q e) ⟨_,t2,rfl⟩ fun nK bD=>?_
 subst bD
 refine Def.bind (P:=fun r=>r=true) ⟨_,t3,rfl⟩ fun nL cN=>?_
 subst cN
 rw[bf,aj]
 refine Def.bind (P:=fun r=>r=cf x) ⟨_,sF F,rfl⟩ fun o3 hc=>?_
 subst hc
 refine Def.bif (fun _=>tail) (fun w3=>?_)
 have s:cf x=true:=by simpa using w3
 refine Def.bind (P:=fun r=>r=cZ 4 q) ⟨_,yQ N M (by omega) q lL,rfl⟩ fun vR Q=>?_
 subst Q
 refine Def.bif (fun _=>tail) (fun T=>?_)
 have B:cZ 4 q=true:=by simpa using T
 refine Def.bO (fun _=>tail) (fun cB=>?_)
 clear tail t2
 obtain⟨m,rfl⟩:∃m:Nat,e=(m:Int):=⟨e.toNat,by omega⟩
 have m1:1<=m:=by omega
 have m2:m<=16:=by omega
 have G:Fit N x.1 (gG x) q:=F.fit s lL
 rw[aa3 F s,ag,T6 F s,ag,ai (by decide)]
 have U:=ZJ G
 have hlen:(eB (e4 N x.1 (gG x) q dD)).length<=16:=by
  have:=uT N x.1 (gG x) q dD
  rw[show eB _=List.foldl fv [] _ from rfl,Ew]
  simp only[bH]
  omega
 have XT:k9 N x q (m:Int)=(eB (e4 N x.1 (gG x) q dD)).take m:=by
  unfold k9 mT kb jq
  rw[s,B,aq (by omega:(1:Int)<=(m:Int)),aq (by omega:(m:Int)<=16)]
  rfl
 have C:jq N x.1 (gG x) q dD 16=eB (e4 N x.1 (gG x) q dD):=by
  unfold jq
  exact jS hlen
 have XS:iq N x q=eB (e4 N x.1 (gG x) q dD):=C
 obtain⟨many,u,Dr,Sr⟩:∃many:Nat,1+((more.length:Int).tmod 4)=(many:Int)/\1<=many/\many<=4:=by
  have aG:=Int.tmod_nonneg (b:=4) (a:=(more.length:Int)) (by omega)
  have aX:=Int.tmod_lt_of_pos (more.length:Int) (show(0:Int)<4 by decide)
  exact⟨(1+((more.length:Int).tmod 4)).toNat,by omega,by omega,by omega⟩
 obtain⟨i,V,s1,atD⟩:∃i:Nat,1+((more.length:Int).tmod 3)=(i:Int)/\1<=i/\i<=3:=by
  have aG:=Int.tmod_nonneg (b:=3) (a:=(more.length:Int)) (by omega)
  have aX:=Int.tmod_lt_of_pos (more.length:Int) (show(0:Int)<3 by decide)
  exact⟨(1+((more.length:Int).tmod 3)).toNat,by omega,by omega,by omega⟩
 have W:∀k:Nat,k<many->xP N x.1.1 x.1.2 (gG x).1 (gG x).2 q.kind q.field q.words q.lo q.hi q.kids (many:Int) (k:Int) (m:Int)=some (part (e4 N x.1 (gG x) q dD) many m k):=fun k s=>by
  rw[aqO G,aqP N x.1 (gG x) q many m k Dr Sr s m1 m2]
 have X:xK N x.1.1 x.1.2 (gG x).1 (gG x).2 q.kind q.field q.words q.lo q.hi q.kids (i:Int)=some (oW i (eB (e4 N x.1 (gG x) q dD))):=by
  rw[apa G i s1 (by omega),C]
 have Y:=aor N L o U many m Dr Sr m1 m2 (List.range many) List.nodup_range (by rw[List.length_range];omega) (fun k=>List.mem_range)
 obtain⟨asC,asG,asI,H,asD,asH,asJ,I⟩:=WY (by omega) o F lL s B
 obtain⟨d,Z,nn⟩:=XA ow o F s
 rw[XS]at H I
 rw[XT]at t1 t3⊢
 generalize eB (e4 N x.1 (gG x) q dD)=S at*
 generalize part (e4 N x.1 (gG x) q dD) many m=K at*
 rw[u]
 refine Def.ite (by unfold fits;omega) ?_
 refine Def.upto many (fun n g=>g=(more,(m:Int),S.take m,(many:Int),(List.range n).map K,(n:Int),x.1.1,x.1.2,x.2,q.kind,q.field,q.words,q.lo,q.hi,q.kids,(gG x).1,(gG x).2)) ?_ ?_ N 0 _ (bg _) rfl (by omega)
 .rintro go _ rfl
  dsimp only
  rw[an (bm _),aj,ai (by decide),V]
  refine Def.ite (by unfold fits;omega) ?_
  rw[X,ag]
  have cG:=TL s1 S
  refine Def.upto (rounds i S) (fun n g=>g=((m:Int),S.take m,(List.range many).map K,S.take (i*n),oW i S,(n:Int),x.1.1,x.1.2,x.2,q.kind,q.field,q.words,q.lo,q.hi,q.kids)) ?_ ?_ N 0 _ (bg _) (by rw[Nat.mul_zero,List.take_zero];rfl) (by omega)
  .rintro go2 _ rfl
   dsimp only
   have v:(oW i S).length=rounds i S:=J3 _ _ _
   rw[v,an (bm _),aj,jS (TJ s1 S),WX,ag,H,ag,I,ag,Z,ag,nn,ag]
   dsimp only
   refine Def.meet (fun g=>g=((m:Int),S.take m,(List.range many).map K,S.take m,S,S,true,(1:Int),(1:Int),q.kind,q.field,q.words,q.lo,q.hi,q.kids,x.1.1,x.1.2,x.2)) ?_ (fun J t=>?_)
   rotate_left
   .exact Def.bO (fun _=>Def.cut (by omega) (by omega) (by omega) (t _ rfl)) (fun h=>t _ (by rw[jS (by omega)]))
   rintro _ rfl
   dsimp only
   refine Def.meet (fun g=>g=((m:Int),S.take m,(List.range many).map K,S.take m,S.take m,S,true,(1:Int),(1:Int),q.kind,q.field,q.words,q.lo,q.hi,q.kids,x.1.1,x.1.2,x.2)) ?_ (fun J t=>?_)
   rotate_left
   .exact Def.bO (fun _=>Def.cut (by omega) (by omega) (by omega) (t _ rfl)) (fun h=>t _ (by rw[jS (l:=S) (by omega)]))
   rintro _ rfl
   dsimp only
   refine Def.meet (fun g=>g=((m:Int),S.take m,(List.range many).map K,S.take m,S.take m,S.take m,true,(1:Int),(1:Int),q.kind,q.field,q.words,q.lo,q.hi,q.kids,x.1.1,x.1.2,x.2)) ?_ (fun J t=>?_)
   rotate_left
   .exact Def.bO (fun _=>Def.cut (by omega) (by omega) (by omega) (t _ rfl)) (fun h=>t _ (by rw[jS (l:=S) (by omega)]))
   rintro _ rfl
   dsimp only
   rw[Y,ag,t3,ag,ao,ag,ao,ag,ao,ao,ag,ao,aq rfl,ao,ao,t1,ag,t3,ag]
   exact Def.ret rfl
  .rintro go2 n _ bj rfl y
   dsimp only
   have v:(oW i S).length=rounds i S:=J3 _ _ _
   have qW:n<(oW i S).length:=by rw[v];exact bj
   have sr:(oW i S)[n]=(S.drop (i*n)).take i:=by
    simp only[oW,ru,List.getElem_map,List.getElem_range]
   rw[aq (by omega:(n:Int)<((oW i S).length:Int)),ao,aP qW,ag,sr]
   refine Def.ite (bW (by simp only[bN,eF];omega) (by simp only[bN,eF];omega)) (Def.ite (aO (n:=n) (by omega)) (y _ ?_))
   rw[Nat.mul_succ,List.take_add,aS]
 .rintro go n _ bj rfl y
  dsimp only
  rw[aq (by omega:(n:Int)<(many:Int)),ao,W n bj,ag]
  refine Def.ite (bW (by rw[dE,List.length_range,bS];omega) (by rw[dE,List.length_range,bS];omega)) (Def.ite (aO (n:=n) (by omega)) (y _ ?_))
  rw[List.range_succ,ib,aS]
  rfl
theorem Yj (d e:List Int) (i:cH zy (.ar (.int .u8)) d) (l:cH zy (.ar (.int .u8)) e):Df 1048700 d e=some true:=Yi (by omega) (by omega) d e (WV i)
end Go.Proofs.YtnkagklajgimlaaGreatDoor
