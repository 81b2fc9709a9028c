import Derived.Test.YtbjikaianmpngaaDoorG1
import Derived.Test.YtbjikaianmpngaaDoorSB
set_option linter.unusedVariables false
set_option linter.unusedSimpArgs false
namespace Go.Proofs.YtbjikaianmpngaaDoor
open Go.RowKit
theorem jt2 {n:Int} (h0:0<=n) (h1:n<9223372036854775808):IntKind.i64.wrap n=n:=by
 simp only[IntKind.wrap,IntKind.bits,IntKind.signed]
 simp only[show((2:Int)^64)=18446744073709551616 by rfl,show((2:Int)^(64-1))=9223372036854775808 by rfl]
 have e:n%18446744073709551616=n:=Int.emod_eq_of_lt h0 (by omega)
 rw[e]
 have:¬(n≥9223372036854775808):=by omega
 simp[this]
theorem ju1 {x y:Int} (hx:0<=x/\x<9223372036854775808) (hy:0<=y/\y<9223372036854775808):0<=bitsI .xor .i64 x y:=by
 have e1:(BitVec.ofInt 64 x).toNat=x.toNat:=by
  rw[BitVec.toNat_ofInt]
  have:x%((2^64:Nat):Int)=x:=Int.emod_eq_of_lt hx.1 (by omega)
  rw[this]
 have e2:(BitVec.ofInt 64 y).toNat=y.toNat:=by
  rw[BitVec.toNat_ofInt]
  have:y%((2^64:Nat):Int)=y:=Int.emod_eq_of_lt hy.1 (by omega)
  rw[this]
 have hb:(BitVec.ofInt 64 x^^^BitVec.ofInt 64 y).toNat<2^63:=by
  rw[BitVec.toNat_xor,e1,e2]
  exact Nat.xor_lt_two_pow (by omega) (by omega)
 show 0<=IntKind.i64.wrap ((BitVec.ofInt 64 x^^^BitVec.ofInt 64 y).toNat:Int)
 rw[jt2 (by omega) (by omega)]
 omega
theorem jt4 {Y:Type} {xs:List Y} {i:Int} (h0:0<=i) (h1:i<xs.length):∃x,idx xs i=some x/\x∈xs:=by
 have h:i.toNat<xs.length:=by omega
 exact⟨xs[i.toNat],by simp only[idx,zf h0,zc h],zr h⟩
def Bs (b:List Int):Prop:=∀x,x∈b->0<=x/\x<=255
theorem juF (N:Nat) (n:Int) (b:List Int) (k:Int) (hb:Bs b) (h0:0<=k) (h1:k<=1099511627776) (hl:b.length<=2000):∃v,jtW N n b k=some (v,b,k+1)/\0<=v/\(1<=n->v<n)/\(n<1->v=0):=by
 unfold jtW
 rw[zf (by unfold fits;omega)]
 by_cases hn:n<1
 .exact ⟨0,by simp[hn],Int.le_refl _,fun h=>by omega,fun _=>rfl⟩
 have hn':decide (n<1)=false:=by simp[hn]
 simp only[hn',ze]
 by_cases hz:(b.length:Int)=0
 .exact ⟨0,by simp[hz],Int.le_refl _,fun h=>by omega,fun h=>absurd h hn⟩
 have hz':decide ((b.length:Int)=0)=false:=by simp only[hz,decide_false]
 have ek:k+1-1=k:=by omega
 have tm:∀x:Int,0<=x->0<=x.tmod n/\x.tmod n<n:=fun x hx=>⟨Int.tmod_nonneg n hx,Int.tmod_lt_of_pos x (by omega)⟩
 have tl:∀x:Int,0<=x->0<=x.tmod (b.length:Int)/\x.tmod (b.length:Int)<b.length:=fun x hx=>⟨Int.tmod_nonneg _ hx,Int.tmod_lt_of_pos x (by omega)⟩
 simp only[hz',ze,ek,zf (show fits k by unfold fits;omega)]
 by_cases hk:k<(b.length:Int)
 .obtain ⟨e,he,hm⟩:=jt4 h0 hk
  have:=hb e hm
  simp only[hk,decide_true,zg,he,za]
  rw[zf (by omega),jt2 (by omega) (by omega)]
  exact⟨_,rfl,(tm e (by omega)).1,fun _=>(tm e (by omega)).2,fun h=>absurd h hn⟩
 .have hk':decide (k<(b.length:Int))=false:=by simp only[hk,decide_false]
  obtain⟨e,he,hm⟩:=jt4 (xs:=b) (tl k h0).1 (tl k h0).2
  obtain⟨f,hf,hm2⟩:=jt4 (xs:=b) (tl (k*7+3) (by omega)).1 (tl (k*7+3) (by omega)).2
  have b1:=hb e hm
  have b2:=hb f hm2
  have w1:IntKind.i64.wrap e=e:=jt2 (by omega) (by omega)
  have w2:IntKind.i64.wrap f=f:=jt2 (by omega) (by omega)
  have d0:0<=k.tdiv (b.length:Int):=Int.tdiv_nonneg h0 (by omega)
  have d1:k.tdiv (b.length:Int)<=k:=by
   rw[Int.tdiv_eq_ediv_of_nonneg h0]
   exact Int.ediv_le_self _ h0
  obtain⟨d,hd⟩:∃d,d=k.tdiv (b.length:Int):=⟨_,rfl⟩
  simp only[hk',ze,he,hf,za,w1,w2,<-hd]
  rw[<-hd]at d0 d1
  obtain⟨x,hx⟩:∃x,x=e*131+f*1117+k*29+d*53:=⟨_,rfl⟩
  have x0:0<=x:=by omega
  have x1:x<4611686018427387904:=by omega
  have q0:0<=x.tdiv 64:=Int.tdiv_nonneg x0 (by omega)
  have q1:x.tdiv 64<=x:=by
   rw[Int.tdiv_eq_ediv_of_nonneg x0]
   exact Int.ediv_le_self _ x0
  have y0:=ju1 (x:=x) (y:=x.tdiv 64) ⟨x0,by omega⟩ ⟨q0,by omega⟩
  rw[zf hz,zf (by unfold fits;omega),zf (by unfold fits;omega),zf (by unfold fits;omega),zf hz,zf (by unfold fits;omega),zf (by unfold fits;omega),zf (by unfold fits;omega),zf (by unfold fits;omega),zf hz,
   zf (by unfold fits;omega),zf (by unfold fits;omega),zf (by unfold fits;omega),zf (by decide),<-hx,zf (by unfold fits;omega),zf (by omega)]
  exact⟨_,rfl,(tm _ y0).1,fun _=>(tm _ y0).2,fun h=>absurd h hn⟩
theorem ju3 {Y:Type} (xs:List Y) (n:Nat) (h:n<=xs.length):cut xs 0 (n:Int)=some (xs.take n):=by
 unfold cut
 rw[zf (by omega)]
 simp
theorem juD (N:Nat) (code:List Int) (hb:Bs code):∃y,jt0 N code=some (y,0)/\Bs y/\y.length<=2000:=by
 unfold jt0
 by_cases h:(2000:Int)<code.length
 .simp only [h,decide_true,zg]
  rw[show(2000:Int)=((2000:Nat):Int)from rfl,ju3 code 2000 (by omega)]
  exact⟨_,rfl,fun x hx=>hb x (zaP hx),by simp;omega⟩
 .simp only [h,decide_false,ze]
  exact⟨_,rfl,hb,by omega⟩
def Rdr (b:List Int) (k:Int) (j:Nat):Prop:=Bs b/\b.length<=2000/\0<=k/\k<=j
theorem Rdr.le {b:List Int} {k:Int} {j j':Nat} (h:Rdr b k j) (hj:j<=j'):Rdr b k j':=⟨h.1,h.2.1,h.2.2.1,by have:=h.2.2.2;omega⟩
theorem pick_def (N:Nat) (n:Int) {b:List Int} {k:Int} {j:Nat} (h:Rdr b k j) (hj:j<=1000000):Def (jtW N n b k) fun r=>0<=r.1/\(1<=n->r.1<n)/\(n<1->r.1=0)/\Rdr r.2.1 r.2.2 (j+1):=by
 obtain⟨v,h1,h2,h3,h4⟩:=juF N n b k h.1 h.2.2.1 (by have:=h.2.2.2;omega) h.2.1
 exact⟨_,h1,h2,h3,h4,h.1,h.2.1,by have:=h.2.2.1;show(0:Int)<=k+1;omega,by have:=h.2.2.2;show k+1<=((j+1:Nat):Int);omega⟩
theorem of_def (N:Nat) {l:List (List UInt8)} {b:List Int} {k:Int} {j:Nat} (hl:0<l.length) (h:Rdr b k j) (hj:j<=1000000):Def (s_l30Rd_of_m N l b k) fun r=>r.1∈l/\Rdr r.2.1 r.2.2 (j+1):=by
 unfold s_l30Rd_of_m
 refine Def.bind (pick_def N _ h hj) fun r ⟨h0,h1,_,h3⟩=>?_
 exact Def.idx h0 (h1 (by omega)) fun x hx _=>Def.ret ⟨hx,h3⟩
theorem open_def (N:Nat) {code:List Int} (hb:Bs code):Def (jt0 N code) fun r=>Rdr r.1 r.2 0:=by
 obtain⟨y,h1,h2,h3⟩:=juD N code hb
 exact⟨_,h1,h2,h3,Int.le_refl _,Int.le_refl _⟩
def jWx (st:List (List UInt8)) (w:List UInt8):Bool:=okW w&&(decide (once w=none)&& !decide (w∈st))
def jWy (st:List (List UInt8)) (y:ESyn):Bool:=(decide ((1:Int)<=y.1.length)&&decide ((y.1.length:Int)<=3))&&(okW y.2&&(decide (once y.2=none)&&y.1.all (jWx st)))
def jWA (c:EConf):Bool:=decide ((c.1.length:Int)<=6)&&(allN c.1.length (okUp c.1)&&(decide ((c.2.length:Int)<=4)&&c.2.all (jWy c.1)))
def fewC (c:EConf):Bool:=decide (c.1.length<=10)&&c.1.all (fun w=>decide (w.length<=20))&&decide (c.2.length<=10)&&c.2.all (fun y=>decide (y.1.length<=10)&&y.1.all (fun w=>decide (w.length<=20))&&decide (y.2.length<=20))
theorem jWm (c:EConf) (h:fewC c=true):okD Sm TConf c:=by
 unfold fewC at h
 simp only[zj,zw,zax]at h
 obtain⟨⟨⟨h1,h2⟩,h3⟩,h4⟩:=h
 refine⟨⟨by show c.1.length<=1048576;omega,fun x hx=>by have:=h2 x hx;show x.length<=1048576;omega⟩,⟨by show c.2.length<=1048576;omega,fun y hy=>?_⟩⟩
 have h5:=h4 y hy
 exact⟨⟨by show y.1.length<=1048576;omega,fun x hx=>by have:=h5.1.2 x hx;show x.length<=1048576;omega⟩,by show y.2.length<=1048576;omega⟩
def jWn :List (List (List UInt8)):=[[],[[116,104,101]],[[100,111,103],[116,104,101]]]
def jWl :List (List ESyn):=[[],[([[110,101,119],[121,111,114,107]],[110,121])],[([[98,105,103]],[108,97,114,103]),([[98,105,103],[114,101,100],[102,111,120]],[102,111,120]),([[110,101,119],[121,111,114,107]],[110,121])]]
theorem jWw :∀s,s∈jWn->∀y,y∈jWl->jWA (s,y)=true/\fewC (s,y)=true:=by decide+kernel
theorem one_def (N:Nat) {l:List Int} {b:List Int} {k:Int} {j:Nat} (hl:0<l.length) (h:Rdr b k j) (hj:j<=1000000):Def (jWo N l b k) fun r=>r.1∈l/\Rdr r.2.1 r.2.2 (j+1):=by
 unfold jWo
 refine Def.bind (pick_def N _ h hj) fun r ⟨h0,h1,_,h3⟩=>?_
 exact Def.idx h0 (h1 (by omega)) fun x hx _=>Def.ret ⟨hx,h3⟩
theorem jWK :∀s,s∈jWn->∀y,y∈jWl->fewC ([[116,104,101],[97]],y)=true/\fewC (s,y++ [([[99,97,116,115]],[99,97,116])])=true/\fewC (s,y++ [([],[99,97,116])])=true/\fewC (s,y++ [([[116,104,101],[99,97,116]],[99,97,116])])=true/\y.length<=10:=by decide+kernel
theorem jWF (N:Nat) {b:List Int} {k:Int} {j:Nat} (h:Rdr b k j) (hj:j<=10000):Def (jWq N b k) fun r=>(r.1∈jWn/\r.2.1∈jWl)/\Rdr r.2.2.1 r.2.2.2 (j+3):=by
 unfold jWq
 refine Def.meet (fun g=>∃c x y,c∈jWn/\Rdr x y (j+1)/\g=(c,x,y)) ?_ fun J hJ=>?_
 .rintro _ ⟨c,x,y,hc,hr,rfl⟩
  dsimp only
  refine Def.meet (fun g=>∃c x y,c∈jWn/\Rdr x y (j+2)/\g=(c,x,y)) ?_ fun J hJ=>?_
  .rintro _ ⟨c,x,y,hc,hr,rfl⟩
   dsimp only
   refine Def.bind (pick_def N 4 hr (by omega)) fun r3 ⟨_,_,_,h3⟩=>?_
   refine Def.dif (fun _=>Def.ret ⟨⟨hc,by simp[jWl]⟩,h3⟩) (fun _=>?_)
   exact Def.dif (fun _=>Def.ret ⟨⟨hc,by simp[jWl]⟩,h3⟩) (fun _=>Def.ret ⟨⟨hc,by simp[jWl]⟩,h3⟩)
  .refine Def.bind (pick_def N 4 hr (by omega)) fun r2 ⟨_,_,_,h2⟩=>?_
   exact Def.dif (fun _=>hJ _ ⟨_,_,_,by decide,h2,rfl⟩) (fun _=>hJ _ ⟨_,_,_,hc,h2,rfl⟩)
 .refine Def.bind (pick_def N 3 h (by omega)) fun r ⟨_,_,_,h1⟩=>?_
  exact Def.dif (fun _=>hJ _ ⟨_,_,_,by decide,h1,rfl⟩) (fun _=>hJ _ ⟨_,_,_,by decide,h1,rfl⟩)
theorem anyConf_def (N:Nat) {b:List Int} {k:Int} {j:Nat} (h:Rdr b k j) (hj:j<=10000):Def (jWp N b k) fun r=>okD Sm TConf (r.1,r.2.1)/\Rdr r.2.2.1 r.2.2.2 (j+4):=by
 unfold jWp
 refine Def.bind (jWF N h hj) fun r ⟨⟨m1,m2⟩,h1⟩=>?_
 obtain⟨f1,f2,f3,f4,f5⟩:=jWK _ m1 _ m2
 have f0:=(jWw _ m1 _ m2).2
 refine Def.bind (pick_def N 14 h1 (by omega)) fun r2 ⟨_,_,_,h2⟩=>?_
 refine Def.dif (fun _=>Def.ret ⟨jWm _ f1,h2⟩) (fun _=>?_)
 refine Def.dif (fun _=>Def.ite (room_of (by simp;omega) (by simp;omega)) (Def.ret ⟨jWm _ f2,h2⟩)) (fun _=>?_)
 refine Def.dif (fun _=>Def.ite (room_of (by simp;omega) (by simp;omega)) (Def.ret ⟨jWm _ f3,h2⟩)) (fun _=>?_)
 refine Def.dif (fun _=>Def.ite (room_of (by simp;omega) (by simp;omega)) (Def.ret ⟨jWm _ f4,h2⟩)) (fun _=>?_)
 exact Def.ret ⟨jWm _ f0,h2⟩
def AQ (q:DQ):Prop:=∀n,BQ n q
theorem AQ.mk' {k:Int} {f:List UInt8} {ws:List (List UInt8)} {a b:Int} {kids:List DQ} (h1:f.length<=1000) (h2:ws.length<=1000) (h3:∀w,w∈ws->w.length<=1000) (h4:kids.length<=1000) (h5:∀c,c∈kids->AQ c):AQ (.mk k f ws a b kids)
 |0=>True.intro
 |n+1=>⟨by show f.length<=_;omega,by show ws.length<=_;omega,fun w hw=>by have:=h3 w hw;omega,by show kids.length<=_;omega,fun c hc=>h5 c hc n⟩
theorem nil100 :([]:List UInt8).length<=100:=by decide
theorem nilW :([]:List (List UInt8)).length<=100:=by decide
theorem nilK :([]:List DQ).length<=100:=by decide
structure Own (q:Int) (f:List UInt8) (ws:List (List UInt8)) (kids:List DQ):Prop where
 f:f.length<=100
 n:ws.length<=100
 w:∀w,w∈ws->w.length<=100
 k:kids.length<=100
 c:∀c,c∈kids->AQ c
theorem Own.aq {q:Int} {f:List UInt8} {ws:List (List UInt8)} {a b:Int} {kids:List DQ} (h:Own q f ws kids):AQ (.mk q f ws a b kids):=
 AQ.mk' (by have:=h.f;omega) (by have:=h.n;omega) (fun w hw=>by have:=h.w w hw;omega) (by have:=h.k;omega) h.c
theorem known_def (N:Nat) {b:List Int} {k:Int} {j:Nat} (h:Rdr b k j) (hj:j<=200000):Def (s_l30Known_m N) fun r3=>Def (s_l30Rd_of_m N r3 b k) fun r=>r.1.length<=100/\Rdr r.2.1 r.2.2 (j+1):=by
 unfold s_l30Known_m
 refine Def.ret ?_
 refine Def.mono (of_def N (by decide) h (by omega)) fun r ⟨m,hr⟩=>⟨?_,hr⟩
 have hall:∀(l:List (List UInt8)),l.all (fun w=>decide (w.length<=100))=true->∀w,w∈l->w.length<=100:=fun l h w hw=>of_decide_eq_true (zax.1 h w hw)
 exact hall _ (by decide) _ m
theorem leaf_def (N:Nat) {b:List Int} {k:Int} {j:Nat} (h:Rdr b k j) (hj:j<=100000):Def (s_l30Leaf_m N b k) fun r=>Own r.1 r.2.1 r.2.2.1 []/\Rdr r.2.2.2.2.2.1 r.2.2.2.2.2.2 (j+10):=by
 have nok:∀c,c∈([]:List DQ)->AQ c:=fun c hc=>by cases hc
 unfold s_l30Leaf_m
 refine Def.bind (of_def N (by decide) h (by omega)) fun r ⟨m,h1⟩=>?_
 have hf:r.1.length<=100:=(by decide:∀w,w∈([([98,111,100,121]:List UInt8),([98,111,100,121]:List UInt8),([116,105,116,108,101]:List UInt8)]:List (List UInt8))->w.length<=100) _ m
 refine Def.bind (pick_def N 9 h1 (by omega)) fun r2 ⟨_,_,_,h2⟩=>?_
 refine Def.dif (fun _=>Def.ret ⟨⟨nil100,nilW,(fun w hw=>by cases hw),nilK,nok⟩,h2.le (by omega)⟩) (fun _=>?_)
 refine Def.dif (fun _=>?_) (fun _=>?_)
 .refine Def.bind (known_def N h2 (by omega)) fun r3 d3=>Def.bind d3 fun r4 ⟨l4,h4⟩=>?_
  refine Def.bind (known_def N h4 (by omega)) fun r5 d5=>Def.bind d5 fun r6 ⟨l6,h6⟩=>?_
  refine Def.bind (pick_def N 3 h6 (by omega)) fun r7 ⟨_,_,_,h7⟩=>Def.ret ⟨⟨hf,by simp,fun w hw=>?_,nilK,nok⟩,h7.le (by omega)⟩
  simp only[zp,List.mem_nil_iff,or_false]at hw
  rcases hw with e|e<;>rw[e]<;>assumption
 refine Def.dif (fun _=>?_) (fun _=>?_)
 .refine Def.bind (of_def N (by decide) h2 (by omega)) fun r8 ⟨m8,h8⟩=>?_
  have l8:r8.1.length<=100:=(by decide:∀w,w∈([([99,111,116]:List UInt8),([100,117,103]:List UInt8),([114,110]:List UInt8),([102,111,103]:List UInt8)]:List (List UInt8))->w.length<=100) _ m8
  refine Def.bind (pick_def N 2 h8 (by omega)) fun r9 ⟨p0,p1,_,h9⟩=>?_
  have p1:=p1 (by omega)
  exact Def.ite (by unfold fits;omega) (Def.ret ⟨⟨hf,by simp,(fun w hw=>by rw[zaD.1 hw];exact l8),nilK,nok⟩,h9.le (by omega)⟩)
 refine Def.dif (fun _=>?_) (fun _=>?_)
 .refine Def.bind (of_def N (by decide) h2 (by omega)) fun r8 ⟨m8,h8⟩=>?_
  have l8:r8.1.length<=100:=(by decide:∀w,w∈([([99,42]:List UInt8),([63,111,63]:List UInt8),([42,110]:List UInt8),([42]:List UInt8)]:List (List UInt8))->w.length<=100) _ m8
  exact Def.ret ⟨⟨hf,by simp,(fun w hw=>by rw[zaD.1 hw];exact l8),nilK,nok⟩,h8.le (by omega)⟩
 refine Def.dif (fun _=>?_) (fun _=>?_)
 .refine Def.bind (pick_def N 4 h2 (by omega)) fun r8 ⟨p0,p1,_,h8⟩=>?_
  refine Def.bind (pick_def N 3 h8 (by omega)) fun r9 ⟨q0,q1,_,h9⟩=>?_
  have p1:=p1 (by omega)
  have q1:=q1 (by omega)
  exact Def.ite (by unfold fits;omega) (Def.ret ⟨⟨by simp,nilW,(fun w hw=>by cases hw),nilK,nok⟩,h9.le (by omega)⟩)
 .refine Def.bind (known_def N h2 (by omega)) fun r3 d3=>Def.bind d3 fun r4 ⟨l4,h4⟩=>?_
  exact Def.ret ⟨⟨hf,by simp,(fun w hw=>by rw[zaD.1 hw];exact l4),nilK,nok⟩,h4.le (by omega)⟩
def dT :Nat->Nat
 |0=>10
 |n+1=>3*dT n+3
theorem dT_ge :∀n,10<=dT n
 |0=>zae _
 |n+1=>by have:=dT_ge n;show 10<=3*dT n+3;omega
theorem query_def (N:Nat) (hN:20<=N):∀(D deep:Nat),deep<D->∀ {b:List Int} {k:Int} {j:Nat},Rdr b k j->j+dT deep<=100000->deep<=10->Def (s_l30Query_m N D (deep:Int) b k) fun r=>Own r.1 r.2.1 r.2.2.1 r.2.2.2.2.2.1/\Rdr r.2.2.2.2.2.2.1 r.2.2.2.2.2.2.2 (j+dT deep)
 |0,_,hd,_,_,_,_,_,_=>absurd hd (Nat.not_lt_zero _)
 |D+1,deep,hd,b,k,j,h,hj,hdd=>by
  have hg:=dT_ge deep
  rw[s_l30Query_m]
  refine Def.dif (fun e=>?_) (fun e=>?_)
  .exact Def.bind (leaf_def N h (by omega)) fun r ⟨o,h1⟩=>Def.ret ⟨o,h1.le (by omega)⟩
  obtain⟨d,rfl⟩:∃d,deep=d+1:=⟨deep-1,by omega⟩
  have hdt:dT (d+1)=3*dT d+3:=rfl
  have hg2:=dT_ge d
  have e1:((d+1:Nat):Int)-1=(d:Int):=by omega
  refine Def.bind (pick_def N 3 h (by omega)) fun r2 ⟨_,_,_,h2⟩=>?_
  refine Def.dif (fun _=>Def.bind (leaf_def N h2 (by omega)) fun r ⟨o,h1⟩=>Def.ret ⟨o,h1.le (by omega)⟩) (fun _=>?_)
  refine Def.bind (pick_def N 6 h2 (by omega)) fun r4 ⟨_,_,_,h4⟩=>?_
  refine Def.dif (fun _=>?_) (fun _=>?_)
  .refine Def.ite (by unfold fits;omega) ?_
   rw[e1]
   refine Def.bind (query_def N hN D d (by omega) h4 (by omega) (by omega)) fun r5 ⟨o5,h5⟩=>?_
   refine Def.ite (by unfold fits;omega) ?_
   refine Def.bind (query_def N hN D d (by omega) h5 (by omega) (by omega)) fun r6 ⟨o6,h6⟩=>?_
   refine Def.ret ⟨⟨nil100,nilW,(fun w hw=>by cases hw),by simp,fun c hc=>?_⟩,h6.le (by omega)⟩
   simp only[zp,List.mem_nil_iff,or_false]at hc
   rcases hc with rfl|rfl
   .exact o5.aq
   .exact o6.aq
  refine Def.dif (fun _=>?_) (fun _=>?_)
  .refine Def.bind (pick_def N 4 h4 (by omega)) fun r7 ⟨p0,p1,_,h7⟩=>?_
   have p1:=p1 (by omega)
   refine Def.ite (by unfold fits;omega) (Def.ite (by unfold fits;omega) ?_)
   rw[e1]
   refine Def.bind (query_def N hN D d (by omega) h7 (by omega) (by omega)) fun r8 ⟨o8,h8⟩=>?_
   exact Def.ret ⟨⟨nil100,nilW,(fun w hw=>by cases hw),by simp,(fun c hc=>by rw[zaD.1 hc];exact o8.aq)⟩,h8.le (by omega)⟩
  refine Def.meet (fun g=>∃(t:Bool) (x:List Int) (y:Int),Rdr x y (j+2)/\g=(((d+1:Nat):Int),t,0,([]:List UInt8),0,0,x,y)) ?_ fun J hJ=>?_
  .rintro _ ⟨t,x,y,hr,rfl⟩
   dsimp only
   refine Def.bif (fun _=>?_) (fun _=>?_)
   .refine Def.ite (by unfold fits;omega) ?_
    rw[e1]
    refine Def.bind (query_def N hN D d (by omega) hr (by omega) (by omega)) fun r5 ⟨o5,h5⟩=>?_
    refine Def.ite (by unfold fits;omega) ?_
    refine Def.bind (query_def N hN D d (by omega) h5 (by omega) (by omega)) fun r6 ⟨o6,h6⟩=>?_
    refine Def.ret ⟨⟨nil100,nilW,(fun w hw=>by cases hw),by simp,fun c hc=>?_⟩,h6.le (by omega)⟩
    simp only[zp,List.mem_nil_iff,or_false]at hc
    rcases hc with rfl|rfl
    .exact o5.aq
    .exact o6.aq
   .refine Def.bind (pick_def N 2 hr (by omega)) fun r11 ⟨p0,p1,_,h11⟩=>?_
    have p1:=p1 (by omega)
    refine Def.ite (by unfold fits;omega) ?_
    refine Def.iter (fun g=>∃(n:Nat) (kids:List DQ) (x:List Int) (y:Int),kids.length+n<=3/\(∀c,c∈kids->AQ c)/\Rdr x y (j+3+(3-n)*dT d)/\g=(((d+1:Nat):Int),(n:Int),0,([]:List UInt8),0,0,8,([]:List UInt8),0,0,kids,x,y)) (fun g=>g.2.1.toNat) ?_ N _
     ⟨(2+r11.1).toNat,[],_,_,by simp;omega,(fun c hc=>by cases hc),h11.le (by omega),by rw[Int.toNat_of_nonneg (by omega)]⟩ (by show(2+r11.1).toNat<N;omega)
    rintro go _ ⟨n,kids,x,y,hn,hk,hr,rfl⟩ hgo
    dsimp only
    refine Def.dif (fun e3=>?_) (fun e3=>?_)
    .refine Def.ite (by unfold fits;omega) ?_
     rw[e1]
     have hb:(3-n)*dT d<=2*dT d:=zag _ (by omega)
     refine Def.bind (query_def N hN D d (by omega) hr (by omega) (by omega)) fun r12 ⟨o12,h12⟩=>?_
     refine Def.ite (room_of (by rw[zbE];omega) (by rw[zbE];omega)) (Def.ite (by unfold fits;omega) (hgo _ ⟨n-1,kids++ [DQ.mk r12.1 r12.2.1 r12.2.2.1 r12.2.2.2.1 r12.2.2.2.2.1 r12.2.2.2.2.2.1],_,_,by rw[zam,zbE];omega,fun c hc=>?_,h12.le ?_,by rw[show((n:Int)-1)=((n-1:Nat):Int)from by omega]⟩ (by show((n:Int)-1).toNat<((n:Int)).toNat;omega)))
     .rcases zaB.1 hc with hc|hc
      .exact hk c hc
      .rw [zaD.1 hc];exact o12.aq
     .have e4:3-(n-1)=(3-n)+1:=by omega
      rw[e4,zaO,Nat.one_mul];omega
    .have hb:(3-n)*dT d<=3*dT d:=zag _ (by omega)
     exact Def.ret ⟨⟨nil100,nilW,(fun w hw=>by cases hw),by dsimp only;omega,hk⟩,hr.le (by omega)⟩
  .exact Def.dif (fun _=>hJ _ ⟨_,_,_,h4,rfl⟩) (fun _=>hJ _ ⟨_,_,_,h4,rfl⟩)
theorem query3_def (N:Nat) (hN:20<=N) {b:List Int} {k:Int} {j:Nat} (h:Rdr b k j) (hj:j<=50000):Def (s_l30Query_m N N 3 b k) fun r=>Own r.1 r.2.1 r.2.2.1 r.2.2.2.2.2.1/\Rdr r.2.2.2.2.2.2.1 r.2.2.2.2.2.2.2 (j+309):=
 query_def N hN N 3 (by omega) h (by show j+309<=_;omega) (by omega)
theorem anyQuery_def (N:Nat) (hN:20<=N) {b:List Int} {k:Int} {j:Nat} (h:Rdr b k j) (hj:j<=50000):Def (s_l30AnyQuery_m N b k) fun r=>AQ (.mk r.1 r.2.1 r.2.2.1 r.2.2.2.1 r.2.2.2.2.1 r.2.2.2.2.2.1)/\Rdr r.2.2.2.2.2.2.1 r.2.2.2.2.2.2.2 (j+312):=by
 unfold s_l30AnyQuery_m
 refine Def.bind (query3_def N hN h hj) fun r ⟨o,h1⟩=>?_
 have o1:=o.f;have o2:=o.n;have o3:=o.k
 refine Def.bind (pick_def N 16 h1 (by omega)) fun r2 ⟨_,_,_,h2⟩=>?_
 refine Def.dif (fun _=>?_) (fun _=>?_)
 .exact Def.bind (one_def N (by simp) h2 (by omega)) fun r3 ⟨_,h3⟩=>Def.ret ⟨Own.aq ⟨o.f,o.n,o.w,o.k,o.c⟩,h3.le (by omega)⟩
 refine Def.dif (fun _=>?_) (fun _=>?_)
 .exact Def.bind (one_def N (by simp) h2 (by omega)) fun r3 ⟨_,h3⟩=>Def.ret ⟨o.aq,h3.le (by omega)⟩
 refine Def.dif (fun _=>?_) (fun _=>?_)
 .refine Def.ite (room_of (by rw[zbE];omega) (by rw[zbE];omega)) (Def.ret ⟨AQ.mk' (by dsimp only;omega) (by dsimp only;rw[zam,zbE];omega) (fun w hw=>?_) (by dsimp only;omega) o.c,h2.le (by omega)⟩)
  rcases zaB.1 hw with hw|hw
  .have:=o.w w hw;omega
  .rw [zaD.1 hw];decide
 refine Def.dif (fun _=>?_) (fun _=>Def.ret ⟨o.aq,h2.le (by omega)⟩)
 refine Def.ite (room_of (by rw[zbE];omega) (by rw[zbE];omega)) (Def.ret ⟨AQ.mk' (by dsimp only;omega) (by dsimp only;omega) (fun w hw=>by have:=o.w w hw;omega) (by dsimp only;rw[zam,zbE];omega) (fun c hc=>?_),h2.le (by omega)⟩)
 rcases zaB.1 hc with hc|hc
 .rw [zaD.1 hc];exact o.aq
 .exact o.c c hc
theorem alerts_def (N:Nat) (hN:20<=N) {b:List Int} {k:Int} {j:Nat} (h:Rdr b k j) (hj:j<=10):Def (s_l30Alerts_m N b k) fun r=>(r.1.length<=10/\∀x,x∈r.1->GB x)/\Rdr r.2.1 r.2.2 1600:=by
 unfold s_l30Alerts_m
 refine Def.bind (pick_def N 5 h (by omega)) fun r ⟨p0,p1,_,h1⟩=>?_
 have p1:=p1 (by omega)
 refine Def.iter (fun g=>∃(out:List EAl) (n:Nat) (x:List Int) (y:Int),out.length+n<=4/\(∀z,z∈out->GB z)/\Rdr x y (11+(4-n)*309)/\g=(out,([([97]:List UInt8),([98]:List UInt8),([99]:List UInt8),([100]:List UInt8)]:List (List UInt8)),(n:Int),x,y)) (fun g=>g.2.2.1.toNat) ?_ N _
  ⟨[],r.1.toNat,_,_,by simp;omega,(fun z hz=>by cases hz),h1.le (by omega),by rw[Int.toNat_of_nonneg p0]⟩ (by show r.1.toNat<N;omega)
 rintro go _ ⟨out,n,x,y,hn,ho,hr,rfl⟩ hgo
 dsimp only
 have hb:(4-n)*309<=4*309:=zag _ (by omega)
 refine Def.dif (fun e=>?_) (fun e=>?_)
 .refine Def.idx (by omega) (by simp;omega) fun w hw _=>?_
  have lw:w.length<=100:=(by decide:∀w,w∈([([97]:List UInt8),([98]:List UInt8),([99]:List UInt8),([100]:List UInt8)]:List (List UInt8))->w.length<=100) _ hw
  refine Def.bind (query3_def N hN hr (by omega)) fun r2 ⟨o,h2⟩=>?_
  refine Def.ite (room_of (by rw[zbE];omega) (by rw[zbE];omega)) (Def.ite (by unfold fits;omega) (hgo _ ⟨out++ [(w,DQ.mk r2.1 r2.2.1 r2.2.2.1 r2.2.2.2.1 r2.2.2.2.2.1 r2.2.2.2.2.2.1)],n-1,_,_,by rw[zam,zbE];omega,fun z hz=>?_,h2.le (by omega),by rw[show((n:Int)-1)=((n-1:Nat):Int)from by omega]⟩ (by show((n:Int)-1).toNat<((n:Int)).toNat;omega)))
  rcases zaB.1 hz with hz|hz
  .exact ho z hz
  .rw [zaD.1 hz];exact⟨by show w.length<=_;omega,o.aq 4⟩
 .refine Def.bind (pick_def N 12 hr (by omega)) fun r3 ⟨_,_,_,h3⟩=>?_
  refine Def.dif (fun _=>?_) (fun _=>Def.ret ⟨⟨by dsimp only;omega,ho⟩,h3.le (by omega)⟩)
  refine Def.bind (anyQuery_def N hN h3 (by omega)) fun r4 ⟨o,h4⟩=>?_
  refine Def.ite (room_of (by rw[zbE];omega) (by rw[zbE];omega)) (Def.ret ⟨⟨by dsimp only;rw[zam,zbE];omega,fun z hz=>?_⟩,h4.le (by omega)⟩)
  rcases zaB.1 hz with hz|hz
  .exact ho z hz
  .rw [zaD.1 hz];exact⟨by show(1:Nat)<=_;omega,o 4⟩
theorem snipTerms_def (N:Nat) (hM:Sm<N) (hN:N<=16777216) (c:EConf) (oc:okD Sm TConf c) (hc:okConf c=true) (q:DQ) (hq:BQ 4 q) (hk:okQ 4 q=true):Def (i_SnipTerms_m N c.1 c.2 q.kind q.field q.words q.lo q.hi q.kids) fun r=>SetOf r (tmsQ c 4 q):=by
 have hM':1048576<N:=hM
 unfold i_SnipTerms_m
 have hlen:=tmsQ_len c 4 q hk
 refine Def.meet (fun g=>KeysOf g (tmsQ c 4 q)) (fun g hg=>?_) (fun J hJ=>?_)
 .dsimp only
  refine Def.bind (sortedKeys_spec hM hN g _ hg (by have:=hg.len;omega)) fun r hr=>Def.ret hr.1
 .rw [confOk_spec N hM (by omega) c oc,za,hc,zg,queryOk_i N hM (by omega) q hq,za,hk,zg]
  refine Def.bind (gather_def N hM hN c oc hc 4 N (by omega) q hq hk [] [] KeysOf.nil) fun r hr=>?_
  exact hJ _ hr
theorem foTexts_same (N:Nat) (l:List (List UInt8)) (hl:l.length<=1048576) (hN:1048576<N):l_foTexts_m N l l=some true:=by
 unfold l_foTexts_m
 rw[zb rfl,zn,ze]
 refine(iter_scan _ l.length (fun n=>(l,l,(n:Int))) (fun _=>some true) (fun go=>?_) (fun go n hn hgo=>?_) N 0 (zaf _) (by omega)).trans rfl
 .dsimp only
  rw[zd (zm _),ze]
 .dsimp only
  rw[cast_succ']at hgo
  rw[zb (by omega:(n:Int)<l.length),zg,idx_at hn,za,za,zb rfl,zn,ze,zf (fits_nat (n:=n) (by omega))]
  exact hgo
theorem foHas_in (N:Nat) (l:List (List UInt8)) (s:List UInt8) (hl:l.length<=1048576) (hN:1048576<N) (hs:s∈l):l_foHas_m N l s=some true:=by
 refine Def.get ?_
 unfold l_foHas_m
 refine Def.upto l.length (fun i g=>s∈l.drop i/\g=(l,s,(i:Int))) ?_ ?_ N 0 _ (zaf _) ⟨by rw[List.drop_zero];exact hs,rfl⟩ (by omega)
 .rintro go _ ⟨h,rfl⟩
  rw[List.drop_length]at h
  cases h
 .rintro go i _ hi ⟨h,rfl⟩ hgo
  dsimp only
  rw[zb (by omega:(i:Int)<l.length),zg,idx_at hi,za]
  refine Def.dif (fun _=>Def.ret rfl) (fun e=>?_)
  rw[zf (fits_nat (n:=i) (by omega))]
  refine hgo _ ⟨?_,by rw[cast_succ']⟩
  rw[zan hi]at h
  rcases zp.1 h with h|h
  .exact absurd h.symm e
  .exact h
theorem drawAlertTerms_def (N:Nat) (hM:1048576<N) {code:List Int} (hb:Bs code):Def (s_DrawAlertTerms_m N code) fun r=>(r.1.length<=10/\∀x,x∈r.1->GB x)/\okD Sm TConf (r.2.1,r.2.2):=by
 unfold s_DrawAlertTerms_m
 refine Def.bind (open_def N hb) fun r h0=>?_
 refine Def.bind (alerts_def N (by omega) h0 (by omega)) fun r2 ⟨a2,h2⟩=>?_
 refine Def.bind (anyConf_def N h2 (by omega)) fun r3 ⟨a3,h3⟩=>?_
 exact Def.ret ⟨a2,a3⟩
theorem fnAlertTerms_gen (N:Nat) (hM:Sm<N) (hN:N<=16777216) (code:List Int) (hb:Bs code):l_FnAlertTerms_m N code=some true:=by
 have hM':1048576<N:=hM
 refine Def.get ?_
 unfold l_FnAlertTerms_m
 refine Def.dif (fun _=>Def.ret rfl) (fun _=>?_)
 refine Def.bind (drawAlertTerms_def N hM' hb) fun r ⟨⟨hl,hx⟩,oc⟩=>?_
 obtain⟨xs,c⟩:=r
 dsimp only at hl hx oc⊢
 obtain⟨L,t7,hL⟩:=alertTerms_s N hM hN xs c oc (by omega) hx
 obtain⟨L',t8,hL'⟩:=alertTerms_i N hM hN xs c oc (by omega) hx
 obtain rfl:L'=L:=hL'.uniq hL
 have hlen:=hL.len
 have hat:=aT_len c xs
 have t9:=foTexts_same N L' (by omega) hM'
 rw[t8,za,t7,za,t9,za,zn,ze,al_impl N hM (by omega) xs (by omega) hx,za]
 cases hA:okAls xs with
 |false=>rw[zaI,zg];simp only[t9,za];exact Def.ret rfl
 |true=>
  rw[zn,ze,confOk_spec N hM (by omega) c oc,za]
  cases hc:okConf c with
  |false=>rw[zaI,zg];simp only[t9,za];exact Def.ret rfl
  |true=>
   rw[zn,ze]
   have ha:=okAls_each hA
   have hLa:∀x,x∈L'↔x∈tmsA c xs:=fun x=>by
    rw[hL.2 x]
    unfold aT
    rw[hA,hc]
    rfl
   refine Def.upto xs.length (fun i g=>∃M:List (List UInt8),M.length<=i*40960/\(∀x,x∈tmsA c (xs.take i)->x∈M)/\g=(xs,L',(M.length:Int),(i:Int),c.1,c.2)) ?_ ?_ N 0 _ (zaf _) ⟨[],by simp,fun x h=>(by rw[zbJ]at h;cases h),rfl⟩ (by omega)
   .rintro go _ ⟨M,h1,h2,rfl⟩
    dsimp only
    rw[zd (zm _),ze]
    rw[zq]at h2
    have hle:L'.length<=M.length:=hL.1.nodup.length_le_of_subset fun x hx=>h2 x ((hLa x).1 hx)
    refine Def.iter (fun g=>∃i:Nat,1<=i/\g=(L',(M.length:Int),(i:Int))) (fun g=>L'.length+1-g.2.2.toNat) ?_ N _ ⟨1,zae _,rfl⟩ (by show L'.length+1-1<N;omega)
    rintro go2 _ ⟨i,hi,rfl⟩ hgo2
    dsimp only
    refine Def.dif (fun hlt=>?_) (fun _=>Def.ret (zb (by omega)))
    have hi2:i<L'.length:=by omega
    have hi1:i-1<L'.length:=by omega
    have e1:(i:Int)-1=((i-1:Nat):Int):=by omega
    rw[idx_at hi2,za,e1,zf (by unfold fits;omega),idx_at hi1,za,bytesLess_or,List.pairwise_iff_getElem.1 hL.1 (i-1) i hi1 hi2 (by omega),zn,ze,zf (fits_nat (n:=i) (by omega))]
    exact hgo2 _ ⟨i+1,by omega,by rw[cast_succ']⟩ (by show L'.length+1-((i:Int)+1).toNat<L'.length+1-(i:Int).toNat;omega)
   .rintro go i _ hi ⟨M,h1,h2,rfl⟩ hgo
    dsimp only
    have hm:=zr hi
    have hf:fits ((i:Int)+1):=fits_nat (by omega)
    have hq:=(ha.2 _ hm).2
    rw[zb (by omega:(i:Int)<xs.length),zg,idx_at hi,za]
    refine Def.bind (snipTerms_def N hM hN c oc hc xs[i].2 (hx _ hm).2 hq) fun more hr=>?_
    have hml:=hr.len
    have htl:=tmsQ_len c 4 _ hq
    have hi6:i<=6:=by omega
    have h1':=zag 40960 hi6
    have hin:∀x,x∈more->x∈L':=fun x hx=>by
     rw[hLa]
     exact List.mem_flatMap.2 ⟨xs[i],hm,(hr.2 x).1 hx⟩
    have hpow:160*4^4=40960:=by decide
    rw[zf (by unfold fits;omega)]
    refine Def.upto more.length (fun k g=>g=(xs,L',(M.length:Int)+(more.length:Int),(i:Int),more,(k:Int),c.1,c.2)) ?_ ?_ N 0 _ (zaf _) rfl (by omega)
    .rintro go2 _ rfl
     dsimp only
     rw[zd (zm _),ze,zf hf]
     refine hgo _ ⟨M++more,?_,fun x hx=>?_,by rw[cast_succ',zam,Int.natCast_add]⟩
     .rw [zam,Nat.succ_mul];omega
     .rw [tmsA_succ c xs hi]at hx
      rcases zaB.1 hx with hx|hx
      .exact zaB.2 (.inl (h2 x hx))
      .exact zaB.2 (.inr ((hr.2 x).2 hx))
    .rintro go2 k _ hk rfl hgo2
     dsimp only
     rw[zb (by omega:(k:Int)<more.length),zg,idx_at hk,za,foHas_in N L' _ (by omega) hM' (hin _ (zr hk)),za,zn,ze,zf (fits_nat (n:=k) (by omega))]
     exact hgo2 _ (by rw[cast_succ'])
theorem bytes_ok {code:List Int} (h:okD BigN (.sl (.int .u8)) code):Bs code:=fun x hx=>by
 have:=h.2 x hx
 have e1:IntKind.u8.min=0:=by decide
 have e2:IntKind.u8.max=255:=by decide
 exact⟨by have h1:=this.1;rw[e1]at h1;exact h1,by have h1:=this.2;rw[e2]at h1;exact h1⟩
theorem fnAlertTerms_law (x0:List Int) (o0:okD BigN (.sl (.int .u8)) x0):l_FnAlertTerms_m 1048700 x0=some true:=
 fnAlertTerms_gen 1048700 (by decide) (by decide) x0 (bytes_ok o0)
end Go.Proofs.YtbjikaianmpngaaDoor
