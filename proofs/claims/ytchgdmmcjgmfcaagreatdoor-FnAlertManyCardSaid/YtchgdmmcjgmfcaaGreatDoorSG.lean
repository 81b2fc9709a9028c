import Derived.Test.YtchgdmmcjgmfcaaGreatDoorP1
import Derived.Test.YtchgdmmcjgmfcaaGreatDoorSC
import Derived.Test.YtchgdmmcjgmfcaaGreatDoorSE
import Derived.Test.YtchgdmmcjgmfcaaGreatDoorSF
import Derived.Test.YtchgdmmcjgmfcaaGreatDoorSD
set_option linter.unusedVariables false
set_option linter.unusedSimpArgs false
namespace Go.Proofs.YtchgdmmcjgmfcaaGreatDoor
open Go.RowKit
theorem ju3 {Z:Type} (xs:List Z) (n:Nat) (h:n<=xs.length):cut xs 0 (n:Int)=some (xs.take n):=by
 unfold cut
 rw[zf (by omega)]
 simp
theorem juD (N:Nat) (code:List Int) (hb:Bs code):∃y,jt0 N code=some (y,0)/\Bs y/\y.length<=2000:=by
 unfold jt0
 by_cases h:(2000:Int)<code.length
 .simp only [h,decide_true,zg]
  rw[show(2000:Int)=((2000:Nat):Int)from rfl,ju3 code 2000 (by omega)]
  exact⟨_,rfl,fun x hx=>hb x (zaP hx),by simp;omega⟩
 .simp only [h,decide_false,ze]
  exact⟨_,rfl,hb,by omega⟩
def Rdr (b:List Int) (k:Int) (j:Nat):Prop:=Bs b/\b.length<=2000/\0<=k/\k<=j
theorem Rdr.le {b:List Int} {k:Int} {j j':Nat} (h:Rdr b k j) (hj:j<=j'):Rdr b k j':=⟨h.1,h.2.1,h.2.2.1,by have:=h.2.2.2;omega⟩
theorem pick_def (N:Nat) (n:Int) {b:List Int} {k:Int} {j:Nat} (h:Rdr b k j) (hj:j<=1000000):Def (jtW N n b k) fun r=>0<=r.1/\(1<=n->r.1<n)/\(n<1->r.1=0)/\Rdr r.2.1 r.2.2 (j+1):=by
 obtain⟨v,h1,h2,h3,h4⟩:=juF N n b k h.1 h.2.2.1 (by have:=h.2.2.2;omega) h.2.1
 exact⟨_,h1,h2,h3,h4,h.1,h.2.1,by have:=h.2.2.1;show(0:Int)<=k+1;omega,by have:=h.2.2.2;show k+1<=((j+1:Nat):Int);omega⟩
theorem of_def (N:Nat) {l:List (List UInt8)} {b:List Int} {k:Int} {j:Nat} (hl:0<l.length) (h:Rdr b k j) (hj:j<=1000000):Def (s_l30Rd_of_m N l b k) fun r=>r.1∈l/\Rdr r.2.1 r.2.2 (j+1):=by
 unfold s_l30Rd_of_m
 refine Def.bind (pick_def N _ h hj) fun r ⟨h0,h1,_,h3⟩=>?_
 exact Def.idx h0 (h1 (by omega)) fun x hx _=>Def.ret ⟨hx,h3⟩
theorem open_def (N:Nat) {code:List Int} (hb:Bs code):Def (jt0 N code) fun r=>Rdr r.1 r.2 0:=by
 obtain⟨y,h1,h2,h3⟩:=juD N code hb
 exact⟨_,h1,h2,h3,zbD _,zbD _⟩
def okC (c:UInt8):Bool:=decide (32<=c.toNat)&&decide (c.toNat<=126)
def okS (n:Nat) (s:List UInt8):Bool:=s.all okC&&decide (s.length<=n)
theorem juf {n m:Nat} {s t:List UInt8} (h:okS n s=true) (k:okS m t=true):okS (n+m) (s++t)=true:=by
 unfold okS at*
 simp only[zj,zw,List.all_append,zam]at*
 exact⟨⟨h.1,k.1⟩,by omega⟩
theorem jue {n m:Nat} {s:List UInt8} (h:okS n s=true) (hm:n<=m):okS m s=true:=by
 unfold okS at*
 simp only[zj,zw]at*
 exact⟨h.1,by omega⟩
theorem okS_len {n:Nat} {s:List UInt8} (h:okS n s=true):s.length<=n:=by
 unfold okS at h
 simp only[zj,zw]at h
 exact h.2
theorem ju7 (N:Nat) {b:List Int} {k:Int} {j:Nat} (h:Rdr b k j) (hj:j<=100000):Def (jt1 N b k) fun r=>okS 17 r.1=true/\Rdr r.2.1 r.2.2 (j+1):=by
 unfold jt1
 refine Def.bind (of_def N (by decide) h (by omega)) fun r ⟨m1,h1⟩=>Def.ret ⟨?_,h1⟩
 exact(by decide:∀w,w∈([([99,97,116]:List UInt8),([67,97,116,115]:List UInt8),([100,111,103]:List UInt8),([100,111,103,115]:List UInt8),([114,117,110]:List UInt8),([82,85,78,78,73,78,71]:List UInt8),([116,104,101]:List UInt8),([114,101,100]:List UInt8),([98,105,103]:List UInt8),([110,101,119,32,121,111,114,107]:List UInt8),([78,101,119,32,32,89,111,114,107]:List UInt8),([110,121]:List UInt8),([102,111,120]:List UInt8),([112,97,115,115,101,100]:List UInt8),([120,49]:List UInt8),([97,118,101,114,121,118,101,114,121,108,111,110,103,119,111,114,100]:List UInt8)]:List (List UInt8))->okS 17 w=true) _ m1
theorem text_def (N:Nat) {b:List Int} {k:Int} {j:Nat} (h:Rdr b k j) (hj:j<=10000) (hN:20<=N):Def (jtZ N b k) fun r=>okS 160 r.1=true/\Rdr r.2.1 r.2.2 (j+30):=by
 unfold jtZ
 refine Def.bind (pick_def N 9 h (by omega)) fun r ⟨p0,p1,_,h1⟩=>?_
 have p1:=p1 (by omega)
 refine Def.iter (fun g=>∃s:List UInt8,∃n:Nat,∃x y,n<=8/\okS (19*(8-n)) s=true/\Rdr x y (j+1+2*(8-n))/\g=(s,(n:Int),x,y)) (fun g=>g.2.1.toNat) ?_ N _ ⟨[],r.1.toNat,_,_,by omega,by unfold okS;simp,h1.le (by omega),by rw[zbU p0]⟩ (by show r.1.toNat<N;omega)
 rintro go _ ⟨s,n,x,y,hn,hs,hr,rfl⟩ hgo
 dsimp only
 have hsl:=okS_len hs
 refine Def.dif (fun e=>?_) (fun e=>Def.ret ⟨jue hs (by omega),hr.le (by omega)⟩)
 refine Def.bind (ju7 N hr (by omega)) fun r2 ⟨l2,h2⟩=>?_
 have hl2:=okS_len l2
 refine Def.ite (by omega) ?_
 refine Def.bind (of_def N (by decide) h2 (by omega)) fun r3 ⟨m3,h3⟩=>?_
 have l3:okS 2 r3.1=true:=(by decide:∀w,w∈([([32]:List UInt8),([32]:List UInt8),([44,32]:List UInt8),([45]:List UInt8),([46,32]:List UInt8)]:List (List UInt8))->okS 2 w=true) _ m3
 have hl3:=okS_len l3
 refine Def.ite (by rw[zam];omega) (Def.ite (by unfold fits;omega) (hgo _ ⟨(s++r2.1)++r3.1,n-1,_,_,by omega,jue (juf (juf hs l2) l3) (by omega),h3.le (by omega),?_⟩ ?_))
 .rw [show((n:Int)-1)=((n-1:Nat):Int)from by omega]
 .show ((n:Int)-1).toNat<(n:Int).toNat
  omega
structure SmallDoc (fs:List EField) (ats:List EAttr) (n:Nat):Prop where
 fl:fs.length<=n
 al:ats.length<=n
 f:∀x,x∈fs->x.1.length<=1000/\x.2.length<=1000
 a:∀x,x∈ats->x.1.length<=4/\ -1<=x.2/\x.2<=1000000000
theorem SmallDoc.ok {fs:List EField} {ats:List EAttr} {n:Nat} (h:SmallDoc fs ats n) (hn:n<=1000) {id:Int} (h0:0<=id/\id<=1000000):okD Sm TDoc (id,fs,ats):=by
 have e1:IntKind.i64.min=-9223372036854775808:=by decide
 have e2:IntKind.i64.max=9223372036854775807:=by decide
 have hfl:=h.fl;have hal:=h.al
 refine⟨⟨by rw[e1];show _<=id;omega,by rw[e2];show id<=_;omega⟩,⟨by show fs.length<=1048576;omega,fun x hx=>?_⟩,⟨by show ats.length<=1048576;omega,fun x hx=>?_⟩⟩
 .have:=h.f x hx
  exact⟨by show x.1.length<=1048576;omega,by show x.2.length<=1048576;omega⟩
 .have:=h.a x hx
  exact⟨by show x.1.length<=1048576;omega,by rw[e1];exact Int.le_trans (by decide) this.2.1,by rw[e2];exact Int.le_trans this.2.2 (by decide)⟩
theorem SmallDoc.addF {fs:List EField} {ats:List EAttr} {n:Nat} (h:SmallDoc fs ats n) {x:EField} (h1:x.1.length<=1000) (h2:x.2.length<=1000):SmallDoc (fs++ [x]) ats (n+1):=by
 have hfl:=h.fl;have hal:=h.al
 refine⟨by simp only[zam,zi,zac];omega,by omega,fun y hy=>?_,h.a⟩
 rcases zaB.1 hy with hy|hy
 .exact h.f y hy
 .rw [zaD.1 hy];exact⟨h1,h2⟩
theorem SmallDoc.addA {fs:List EField} {ats:List EAttr} {n:Nat} (h:SmallDoc fs ats n) {x:EAttr} (h1:x.1.length<=4) (h2: -1<=x.2) (h3:x.2<=1000000000):SmallDoc fs (ats++ [x]) (n+1):=by
 have hfl:=h.fl;have hal:=h.al
 refine⟨by omega,by simp only[zam,zi,zac];omega,h.f,fun y hy=>?_⟩
 rcases zaB.1 hy with hy|hy
 .exact h.a y hy
 .rw [zaD.1 hy];exact⟨h1,h2,h3⟩
theorem SmallDoc.le {fs:List EField} {ats:List EAttr} {n m:Nat} (h:SmallDoc fs ats n) (hm:n<=m):SmallDoc fs ats m:=⟨zau h.fl hm,zau h.al hm,h.f,h.a⟩
theorem SmallDoc.nil :SmallDoc [] [] 0:=⟨zae _,zae _,(fun x hx=>by cases hx),(fun x hx=>by cases hx)⟩
theorem SmallDoc.room {n:Nat} {b:Nat} (hn:n<=1000) (hb:b<=1000):room n 1 b:=by
 have:(n+1)*b<=1001*1000:=zbX (by omega) hb
 exact room_of (by omega) (by omega)
abbrev nBody :List UInt8:=[98,111,100,121]
abbrev nTitle :List UInt8:=[116,105,116,108,101]
structure FG (fs:List EField) (ns:List (List UInt8)):Prop where
 names:(fs.map (·.1)).Sublist ns
 texts:∀x,x∈fs->okS 160 x.2=true
theorem FG.add {fs:List EField} {ns:List (List UInt8)} (h:FG fs ns) (n t:List UInt8) (ht:okS 160 t=true):FG (fs++ [(n,t)]) (ns++ [n]):=by
 refine⟨?_,fun x hx=>?_⟩
 .rw [zaK]
  exact List.Sublist.append h.names (List.Sublist.refl _)
 .rcases zaB.1 hx with hx|hx
  .exact h.texts x hx
  .rw [zaD]at hx;subst hx;exact ht
theorem FG.skip {fs:List EField} {ns:List (List UInt8)} (h:FG fs ns) (n:List UInt8):FG fs (ns++ [n]):=⟨h.names.trans (List.sublist_append_left _ _),h.texts⟩
theorem doc_def (N:Nat) (id:Int) {b:List Int} {k:Int} {j:Nat} (h:Rdr b k j) (hj:j<=9000) (hN:20<=N):Def (s_l30Doc_m N id b k) fun r=>r.1=id/\(SmallDoc r.2.1 r.2.2.1 4/\FG r.2.1 [nBody,nTitle]/\r.2.2.1.length<=2)/\Rdr r.2.2.2.1 r.2.2.2.2 (j+100):=by
 unfold s_l30Doc_m
 refine Def.meet (fun g=>∃fs x y,SmallDoc fs [] 1/\FG fs [nBody]/\Rdr x y (j+31)/\g=(0,id,fs,x,y)) ?_ fun J hJ=>?_
 .rintro _ ⟨fs,x,y,hs,hg,hr,rfl⟩
  dsimp only
  refine Def.meet (fun g=>∃fs x y,SmallDoc fs [] 2/\FG fs [nBody,nTitle]/\Rdr x y (j+65)/\g=(0,id,fs,x,y)) ?_ fun J hJ=>?_
  .rintro _ ⟨fs,x,y,hs,hg,hr,rfl⟩
   dsimp only
   refine Def.meet (fun g=>∃fs ats x y,SmallDoc fs ats 3/\(FG fs [nBody,nTitle]/\ats.length<=1)/\Rdr x y (j+70)/\g=(0,id,fs,ats,x,y)) ?_ fun J hJ=>?_
   .rintro _ ⟨fs,ats,x,y,hs,⟨hg,ha⟩,hr,rfl⟩
    dsimp only
    refine Def.bind (pick_def N 3 hr (by omega)) fun r7 ⟨_,_,_,h7⟩=>?_
    refine Def.dif (fun _=>?_) (fun _=>Def.ret ⟨rfl,⟨hs.le (by omega),hg,by dsimp only;omega⟩,h7.le (by omega)⟩)
    refine Def.bind (pick_def N 30 h7 (by omega)) fun r8 ⟨q0,q1,_,h8⟩=>?_
    have q1:=q1 (by omega)
    have hal:=hs.al
    exact Def.ite (by unfold fits;omega) (Def.ite (SmallDoc.room (by omega) (by omega)) (Def.ret ⟨rfl,⟨hs.addA (by simp) (by dsimp only;omega) (by dsimp only;omega),hg,by simp only[zam,zi,zac];omega⟩,h8.le (by omega)⟩))
   .refine Def.bind (pick_def N 3 hr (by omega)) fun r5 ⟨_,_,_,h5⟩=>?_
    refine Def.dif (fun _=>?_) (fun _=>hJ _ ⟨_,_,_,_,hs.le (by omega),⟨hg,by simp⟩,h5.le (by omega),rfl⟩)
    refine Def.bind (pick_def N 4 h5 (by omega)) fun r6 ⟨q0,q1,_,h6⟩=>?_
    have q1:=q1 (by omega)
    exact Def.ite (SmallDoc.room (by simp) (by omega)) (hJ _ ⟨_,_,_,_,hs.addA (x:=(([114,97,116,101]:List UInt8),r6.1)) (by simp) (by dsimp only;omega) (by dsimp only;omega),⟨hg,by simp⟩,h6.le (by omega),rfl⟩)
  .refine Def.bind (pick_def N 3 hr (by omega)) fun r3 ⟨_,_,_,h3⟩=>?_
   refine Def.dif (fun _=>?_) (fun _=>hJ _ ⟨_,_,_,hs.le (by omega),hg.skip nTitle,h3.le (by omega),rfl⟩)
   refine Def.bind (text_def N h3 (by omega) hN) fun r4 ⟨l4,h4⟩=>?_
   have hfl:=hs.fl
   have hl4:=okS_len l4
   exact Def.ite (SmallDoc.room (by omega) (by omega)) (hJ _ ⟨_,_,_,hs.addF (x:=(([116,105,116,108,101]:List UInt8),r4.1)) (by simp) (by dsimp only;omega),hg.add nTitle _ l4,h4.le (by omega),rfl⟩)
 .refine Def.bind (pick_def N 6 h (by omega)) fun r ⟨_,_,_,h1⟩=>?_
  have g0:FG [] []:=⟨List.Sublist.refl _,fun x hx=>by cases hx⟩
  refine Def.dif (fun _=>?_) (fun _=>hJ _ ⟨_,_,_,SmallDoc.nil.le (by omega),g0.skip nBody,h1.le (by omega),rfl⟩)
  refine Def.bind (text_def N h1 (by omega) hN) fun r2 ⟨l2,h2⟩=>?_
  have hl2:=okS_len l2
  exact Def.ite (SmallDoc.room (by simp) (by omega)) (hJ _ ⟨_,_,_,SmallDoc.nil.addF (x:=(([98,111,100,121]:List UInt8),r2.1)) (by simp) (by dsimp only;omega),g0.add nBody _ l2,h2.le (by omega),rfl⟩)
structure DrawnDocs (docs:List EDoc) (m:Int):Prop where
 few:docs.length<=6
 ids:docs.Pairwise fun a b=>a.1<b.1
 top:∀d,d∈docs->1<=d.1/\d.1<=m
 each:∀d,d∈docs->okD Sm TDoc d/\FG d.2.1 [nBody,nTitle]/\d.2.2.length<=2
theorem docs_def (N:Nat) {b:List Int} {k:Int} {j:Nat} (h:Rdr b k j) (hj:j<=8000) (hN:20<=N):Def (s_l30Docs_m N b k) fun r=>DrawnDocs r.1 100/\Rdr r.2.1 r.2.2 (j+700):=by
 unfold s_l30Docs_m
 refine Def.bind (pick_def N 6 h (by omega)) fun r ⟨p0,p1,_,h1⟩=>?_
 have p1:=p1 (by omega)
 refine Def.iter (fun g=>∃out:List EDoc,∃id:Int,∃n:Nat,∃x y,n<=6/\out.length+n<=6/\(0<=id/\id<=4*(6-n))/\DrawnDocs out id/\Rdr x y (j+1+110*(6-n))/\g=(out,id,(n:Int),x,y)) (fun g=>g.2.2.1.toNat) ?_ N _ ⟨[],0,r.1.toNat,_,_,by omega,by simp;omega,by omega,⟨by simp,za4,(fun z hz=>by cases hz),(fun z hz=>by cases hz)⟩,h1.le (by omega),by rw[zbU p0]⟩ (by show r.1.toNat<N;omega)
 rintro go _ ⟨out,id,n,x,y,hn,hl,hid,ho,hr,rfl⟩ hgo
 dsimp only
 refine Def.dif (fun e=>?_) (fun e=>Def.ret ⟨⟨ho.few,ho.ids,fun d hd=>⟨(ho.top d hd).1,by have:=(ho.top d hd).2;omega⟩,ho.each⟩,hr.le (by omega)⟩)
 refine Def.ite (by unfold fits;omega) ?_
 refine Def.bind (pick_def N 3 hr (by omega)) fun r2 ⟨q0,q1,_,h2⟩=>?_
 have q1:=q1 (by omega)
 refine Def.ite (by unfold fits;omega) ?_
 refine Def.bind (doc_def N _ h2 (by omega) hN) fun r3 ⟨e3,s3,h3⟩=>?_
 refine Def.ite (room_of (by simp;omega) (by simp;omega)) (Def.ite (by unfold fits;omega) (hgo _ ⟨out++ [(r3.1,r3.2.1,r3.2.2.1)],id+1+r2.1,n-1,_,_,by omega,?_,by omega,⟨?_,?_,fun z hz=>?_,fun z hz=>?_⟩,h3.le (by omega),?_⟩ ?_))
 .simp only [zam,zi,zac];omega
 .simp only [zam,zi,zac];omega
 .refine List.pairwise_append.2 ⟨ho.ids,by simp,fun a ha b hb=>?_⟩
  rw[zaD]at hb
  subst hb
  have:=(ho.top a ha).2
  show a.1<r3.1
  omega
 .rcases zaB.1 hz with hz|hz
  .have:=ho.top z hz;omega
  .rw [zaD]at hz;subst hz;dsimp only;omega
 .rcases zaB.1 hz with hz|hz
  .exact ho.each z hz
  .rw [zaD.1 hz];exact⟨s3.1.ok (by omega) (by rw[e3];omega),s3.2.1,s3.2.2⟩
 .rw [show((n:Int)-1)=((n-1:Nat):Int)from by omega]
 .show ((n:Int)-1).toNat<(n:Int).toNat
  omega
def okSynW' (st:List (List UInt8)) (w:List UInt8):Bool:=okW w&&(decide (once w=none)&& !decide (w∈st))
def okSyn' (st:List (List UInt8)) (y:ESyn):Bool:=(decide ((1:Int)<=y.1.length)&&decide ((y.1.length:Int)<=3))&&(okW y.2&&(decide (once y.2=none)&&y.1.all (okSynW' st)))
def okConf' (c:EConf):Bool:=decide ((c.1.length:Int)<=6)&&(allN c.1.length (okUp c.1)&&(decide ((c.2.length:Int)<=4)&&c.2.all (okSyn' c.1)))
def fewC (c:EConf):Bool:=decide (c.1.length<=10)&&c.1.all (fun w=>decide (w.length<=20))&&decide (c.2.length<=10)&&c.2.all (fun y=>decide (y.1.length<=10)&&y.1.all (fun w=>decide (w.length<=20))&&decide (y.2.length<=20))
theorem fewC_ok (c:EConf) (h:fewC c=true):okD Sm TConf c:=by
 unfold fewC at h
 simp only[zj,zw,zax]at h
 obtain⟨⟨⟨h1,h2⟩,h3⟩,h4⟩:=h
 refine⟨⟨by show c.1.length<=1048576;omega,fun x hx=>by have:=h2 x hx;show x.length<=1048576;omega⟩,⟨by show c.2.length<=1048576;omega,fun y hy=>?_⟩⟩
 have h5:=h4 y hy
 exact⟨⟨by show y.1.length<=1048576;omega,fun x hx=>by have:=h5.1.2 x hx;show x.length<=1048576;omega⟩,by show y.2.length<=1048576;omega⟩
def stops3 :List (List (List UInt8)):=[[],[[116,104,101]],[[100,111,103],[116,104,101]]]
def syns3 :List (List ESyn):=[[],[([[110,101,119],[121,111,114,107]],[110,121])],[([[98,105,103]],[108,97,114,103]),([[98,105,103],[114,101,100],[102,111,120]],[102,111,120]),([[110,101,119],[121,111,114,107]],[110,121])]]
theorem confs_ok :∀s,s∈stops3->∀y,y∈syns3->okConf' (s,y)=true/\fewC (s,y)=true:=by decide+kernel
structure Drawn (c:EConf) (s:ESeg):Prop where
 conf:okD Sm TConf c
 docs:∀x,x∈s.1->okD Sm TDoc x
 few:s.1.length<=1048576
theorem one_def (N:Nat) {l:List Int} {b:List Int} {k:Int} {j:Nat} (hl:0<l.length) (h:Rdr b k j) (hj:j<=1000000):Def (s_l30Rd_one_m N l b k) fun r=>r.1∈l/\Rdr r.2.1 r.2.2 (j+1):=by
 unfold s_l30Rd_one_m
 refine Def.bind (pick_def N _ h hj) fun r ⟨h0,h1,_,h3⟩=>?_
 exact Def.idx h0 (h1 (by omega)) fun x hx _=>Def.ret ⟨hx,h3⟩
theorem anyText_def (N:Nat) {b:List Int} {k:Int} {j:Nat} (h:Rdr b k j) (hj:j<=10000) (hN:20<=N):Def (s_l30AnyText_m N b k) fun r=>r.1.length<=1000/\Rdr r.2.1 r.2.2 (j+40):=by
 unfold s_l30AnyText_m
 refine Def.bind (text_def N h hj hN) fun r ⟨l1,h1⟩=>?_
 have l1:=okS_len l1
 refine Def.bind (pick_def N 12 h1 (by omega)) fun r2 ⟨_,_,_,h2⟩=>?_
 refine Def.dif (fun e=>?_) (fun e=>Def.ret ⟨by dsimp only;omega,h2.le (by omega)⟩)
 refine Def.bind (Def.mono (of_def N (by simp) h2 (by omega)) (Q:=fun r3=>r3.1.length<=200/\Rdr r3.2.1 r3.2.2 (j+40)) ?_) fun r3 ⟨l3,h3⟩=>?_
 .rintro r3 ⟨m3,h3⟩
  refine⟨?_,h3.le (by omega)⟩
  simp only[zp,zbY,or_false]at m3
  rcases m3 with m|m|m<;>rw[m]<;>simp
 .exact Def.ite (by omega) (Def.ret ⟨by dsimp only;rw[zam];omega,h3⟩)
theorem anyDoc_def (N:Nat) {b:List Int} {k:Int} {j:Nat} (h:Rdr b k j) (hj:j<=8500) (hN:20<=N):Def (s_l30AnyDoc_m N b k) fun r=>okD Sm TDoc (r.1,r.2.1,r.2.2.1)/\Rdr r.2.2.2.1 r.2.2.2.2 (j+200):=by
 unfold s_l30AnyDoc_m
 refine Def.bind (pick_def N 9 h (by omega)) fun r ⟨p0,p1,_,h1⟩=>?_
 have p1:=p1 (by omega)
 refine Def.ite (by unfold fits;omega) ?_
 refine Def.bind (doc_def N _ h1 (by omega) hN) fun r2 ⟨e2,⟨s2,_,_⟩,h2⟩=>?_
 have hid:0<=r2.1/\r2.1<=1000000:=by rw[e2];omega
 have hfl:=s2.fl;have hal:=s2.al
 refine Def.bind (pick_def N 14 h2 (by omega)) fun r3 ⟨_,_,_,h3⟩=>?_
 refine Def.dif (fun _=>?_) (fun _=>?_)
 .refine Def.bind (one_def N (by simp) h3 (by omega)) fun r4 ⟨m4,h4⟩=>Def.ret ⟨s2.ok (by omega) ?_,h4.le (by omega)⟩
  simp only[zp,zbY,or_false]at m4
  omega
 refine Def.dif (fun _=>Def.ite (SmallDoc.room (by omega) (by omega)) (Def.ret ⟨(s2.addF (x:=(([98,111,100,121]:List UInt8),([97,103,97,105,110]:List UInt8))) (by simp) (by simp)).ok (by omega) hid,h3.le (by omega)⟩)) (fun _=>?_)
 refine Def.dif (fun _=>?_) (fun _=>?_)
 .refine Def.bind (one_def N (by simp) h3 (by omega)) fun r5 ⟨m5,h5⟩=>?_
  simp only[zp,zbY,or_false]at m5
  exact Def.ite (SmallDoc.room (by omega) (by omega)) (Def.ret ⟨(s2.addA (x:=(([122,122]:List UInt8),r5.1)) (by simp) (by dsimp only;omega) (by dsimp only;omega)).ok (by omega) hid,h5.le (by omega)⟩)
 refine Def.dif (fun _=>?_) (fun _=>Def.ret ⟨s2.ok (by omega) hid,h3.le (by omega)⟩)
 refine Def.bind (anyText_def N h3 (by omega) hN) fun r6 ⟨l6,h6⟩=>?_
 exact Def.ite (SmallDoc.room (by omega) (by omega)) (Def.ret ⟨(s2.addF (x:=(([122,101,100]:List UInt8),r6.1)) (by simp) l6).ok (by omega) hid,h6.le (by omega)⟩)
theorem confs_any :∀s,s∈stops3->∀y,y∈syns3->fewC ([[116,104,101],[97]],y)=true/\fewC (s,y++ [([[99,97,116,115]],[99,97,116])])=true/\fewC (s,y++ [([],[99,97,116])])=true/\fewC (s,y++ [([[116,104,101],[99,97,116]],[99,97,116])])=true/\y.length<=10:=by decide+kernel
theorem conf_def2 (N:Nat) {b:List Int} {k:Int} {j:Nat} (h:Rdr b k j) (hj:j<=10000):Def (s_l30Conf_m N b k) fun r=>(r.1∈stops3/\r.2.1∈syns3)/\Rdr r.2.2.1 r.2.2.2 (j+3):=by
 unfold s_l30Conf_m
 refine Def.meet (fun g=>∃c x y,c∈stops3/\Rdr x y (j+1)/\g=(c,x,y)) ?_ fun J hJ=>?_
 .rintro _ ⟨c,x,y,hc,hr,rfl⟩
  dsimp only
  refine Def.meet (fun g=>∃c x y,c∈stops3/\Rdr x y (j+2)/\g=(c,x,y)) ?_ fun J hJ=>?_
  .rintro _ ⟨c,x,y,hc,hr,rfl⟩
   dsimp only
   refine Def.bind (pick_def N 4 hr (by omega)) fun r3 ⟨_,_,_,h3⟩=>?_
   refine Def.dif (fun _=>Def.ret ⟨⟨hc,by simp[syns3]⟩,h3⟩) (fun _=>?_)
   exact Def.dif (fun _=>Def.ret ⟨⟨hc,by simp[syns3]⟩,h3⟩) (fun _=>Def.ret ⟨⟨hc,by simp[syns3]⟩,h3⟩)
  .refine Def.bind (pick_def N 4 hr (by omega)) fun r2 ⟨_,_,_,h2⟩=>?_
   exact Def.dif (fun _=>hJ _ ⟨_,_,_,by decide,h2,rfl⟩) (fun _=>hJ _ ⟨_,_,_,hc,h2,rfl⟩)
 .refine Def.bind (pick_def N 3 h (by omega)) fun r ⟨_,_,_,h1⟩=>?_
  exact Def.dif (fun _=>hJ _ ⟨_,_,_,by decide,h1,rfl⟩) (fun _=>hJ _ ⟨_,_,_,by decide,h1,rfl⟩)
theorem anyConf_def (N:Nat) {b:List Int} {k:Int} {j:Nat} (h:Rdr b k j) (hj:j<=10000):Def (s_l30AnyConf_m N b k) fun r=>okD Sm TConf (r.1,r.2.1)/\Rdr r.2.2.1 r.2.2.2 (j+4):=by
 unfold s_l30AnyConf_m
 refine Def.bind (conf_def2 N h hj) fun r ⟨⟨m1,m2⟩,h1⟩=>?_
 obtain⟨f1,f2,f3,f4,f5⟩:=confs_any _ m1 _ m2
 have f0:=(confs_ok _ m1 _ m2).2
 refine Def.bind (pick_def N 14 h1 (by omega)) fun r2 ⟨_,_,_,h2⟩=>?_
 refine Def.dif (fun _=>Def.ret ⟨fewC_ok _ f1,h2⟩) (fun _=>?_)
 refine Def.dif (fun _=>Def.ite (room_of (by simp;omega) (by simp;omega)) (Def.ret ⟨fewC_ok _ f2,h2⟩)) (fun _=>?_)
 refine Def.dif (fun _=>Def.ite (room_of (by simp;omega) (by simp;omega)) (Def.ret ⟨fewC_ok _ f3,h2⟩)) (fun _=>?_)
 refine Def.dif (fun _=>Def.ite (room_of (by simp;omega) (by simp;omega)) (Def.ret ⟨fewC_ok _ f4,h2⟩)) (fun _=>?_)
 exact Def.ret ⟨fewC_ok _ f0,h2⟩
def AQ (q:DQ):Prop:=∀n,BQ n q
theorem AQ.mk' {k:Int} {f:List UInt8} {ws:List (List UInt8)} {a b:Int} {kids:List DQ} (h1:f.length<=1000) (h2:ws.length<=1000) (h3:∀w,w∈ws->w.length<=1000) (h4:kids.length<=1000) (h5:∀c,c∈kids->AQ c):AQ (.mk k f ws a b kids)
 |0=>True.intro
 |n+1=>⟨by show f.length<=_;omega,by show ws.length<=_;omega,fun w hw=>by have:=h3 w hw;omega,by show kids.length<=_;omega,fun c hc=>h5 c hc n⟩
theorem nil100 :([]:List UInt8).length<=100:=by decide
theorem nilW :([]:List (List UInt8)).length<=100:=by decide
theorem nilK :([]:List DQ).length<=100:=by decide
structure Own (q:Int) (f:List UInt8) (ws:List (List UInt8)) (kids:List DQ):Prop where
 f:f.length<=100
 n:ws.length<=100
 w:∀w,w∈ws->w.length<=100
 k:kids.length<=100
 c:∀c,c∈kids->AQ c
theorem Own.aq {q:Int} {f:List UInt8} {ws:List (List UInt8)} {a b:Int} {kids:List DQ} (h:Own q f ws kids):AQ (.mk q f ws a b kids):=
 AQ.mk' (by have:=h.f;omega) (by have:=h.n;omega) (fun w hw=>by have:=h.w w hw;omega) (by have:=h.k;omega) h.c
theorem known_def (N:Nat) {b:List Int} {k:Int} {j:Nat} (h:Rdr b k j) (hj:j<=200000):Def (s_l30Known_m N) fun r3=>Def (s_l30Rd_of_m N r3 b k) fun r=>r.1.length<=100/\Rdr r.2.1 r.2.2 (j+1):=by
 unfold s_l30Known_m
 refine Def.ret ?_
 refine Def.mono (of_def N (by decide) h (by omega)) fun r ⟨m,hr⟩=>⟨?_,hr⟩
 have hall:∀(l:List (List UInt8)),l.all (fun w=>decide (w.length<=100))=true->∀w,w∈l->w.length<=100:=fun l h w hw=>of_decide_eq_true (zax.1 h w hw)
 exact hall _ (by decide) _ m
theorem leaf_def (N:Nat) {b:List Int} {k:Int} {j:Nat} (h:Rdr b k j) (hj:j<=100000):Def (s_l30Leaf_m N b k) fun r=>Own r.1 r.2.1 r.2.2.1 []/\Rdr r.2.2.2.2.2.1 r.2.2.2.2.2.2 (j+10):=by
 have nok:∀c,c∈([]:List DQ)->AQ c:=fun c hc=>by cases hc
 unfold s_l30Leaf_m
 refine Def.bind (of_def N (by decide) h (by omega)) fun r ⟨m,h1⟩=>?_
 have hf:r.1.length<=100:=(by decide:∀w,w∈([([98,111,100,121]:List UInt8),([98,111,100,121]:List UInt8),([116,105,116,108,101]:List UInt8)]:List (List UInt8))->w.length<=100) _ m
 refine Def.bind (pick_def N 9 h1 (by omega)) fun r2 ⟨_,_,_,h2⟩=>?_
 refine Def.dif (fun _=>Def.ret ⟨⟨nil100,nilW,(fun w hw=>by cases hw),nilK,nok⟩,h2.le (by omega)⟩) (fun _=>?_)
 refine Def.dif (fun _=>?_) (fun _=>?_)
 .refine Def.bind (known_def N h2 (by omega)) fun r3 d3=>Def.bind d3 fun r4 ⟨l4,h4⟩=>?_
  refine Def.bind (known_def N h4 (by omega)) fun r5 d5=>Def.bind d5 fun r6 ⟨l6,h6⟩=>?_
  refine Def.bind (pick_def N 3 h6 (by omega)) fun r7 ⟨_,_,_,h7⟩=>Def.ret ⟨⟨hf,by simp,fun w hw=>?_,nilK,nok⟩,h7.le (by omega)⟩
  simp only[zp,zbY,or_false]at hw
  rcases hw with e|e<;>rw[e]<;>assumption
 refine Def.dif (fun _=>?_) (fun _=>?_)
 .refine Def.bind (of_def N (by decide) h2 (by omega)) fun r8 ⟨m8,h8⟩=>?_
  have l8:r8.1.length<=100:=(by decide:∀w,w∈([([99,111,116]:List UInt8),([100,117,103]:List UInt8),([114,110]:List UInt8),([102,111,103]:List UInt8)]:List (List UInt8))->w.length<=100) _ m8
  refine Def.bind (pick_def N 2 h8 (by omega)) fun r9 ⟨p0,p1,_,h9⟩=>?_
  have p1:=p1 (by omega)
  exact Def.ite (by unfold fits;omega) (Def.ret ⟨⟨hf,by simp,(fun w hw=>by rw[zaD.1 hw];exact l8),nilK,nok⟩,h9.le (by omega)⟩)
 refine Def.dif (fun _=>?_) (fun _=>?_)
 .refine Def.bind (of_def N (by decide) h2 (by omega)) fun r8 ⟨m8,h8⟩=>?_
  have l8:r8.1.length<=100:=(by decide:∀w,w∈([([99,42]:List UInt8),([63,111,63]:List UInt8),([42,110]:List UInt8),([42]:List UInt8)]:List (List UInt8))->w.length<=100) _ m8
  exact Def.ret ⟨⟨hf,by simp,(fun w hw=>by rw[zaD.1 hw];exact l8),nilK,nok⟩,h8.le (by omega)⟩
 refine Def.dif (fun _=>?_) (fun _=>?_)
 .refine Def.bind (pick_def N 4 h2 (by omega)) fun r8 ⟨p0,p1,_,h8⟩=>?_
  refine Def.bind (pick_def N 3 h8 (by omega)) fun r9 ⟨q0,q1,_,h9⟩=>?_
  have p1:=p1 (by omega)
  have q1:=q1 (by omega)
  exact Def.ite (by unfold fits;omega) (Def.ret ⟨⟨by simp,nilW,(fun w hw=>by cases hw),nilK,nok⟩,h9.le (by omega)⟩)
 .refine Def.bind (known_def N h2 (by omega)) fun r3 d3=>Def.bind d3 fun r4 ⟨l4,h4⟩=>?_
  exact Def.ret ⟨⟨hf,by simp,(fun w hw=>by rw[zaD.1 hw];exact l4),nilK,nok⟩,h4.le (by omega)⟩
def dT :Nat->Nat
 |0=>10
 |n+1=>3*dT n+3
theorem dT_ge :∀n,10<=dT n
 |0=>zae _
 |n+1=>by have:=dT_ge n;show 10<=3*dT n+3;omega
theorem query_def (N:Nat) (hN:20<=N):∀(D deep:Nat),deep<D->∀ {b:List Int} {k:Int} {j:Nat},Rdr b k j->j+dT deep<=100000->deep<=10->Def (s_l30Query_m N D (deep:Int) b k) fun r=>Own r.1 r.2.1 r.2.2.1 r.2.2.2.2.2.1/\Rdr r.2.2.2.2.2.2.1 r.2.2.2.2.2.2.2 (j+dT deep)
 |0,_,hd,_,_,_,_,_,_=>absurd hd (zbN _)
 |D+1,deep,hd,b,k,j,h,hj,hdd=>by
  have hg:=dT_ge deep
  rw[s_l30Query_m]
  refine Def.dif (fun e=>?_) (fun e=>?_)
  .exact Def.bind (leaf_def N h (by omega)) fun r ⟨o,h1⟩=>Def.ret ⟨o,h1.le (by omega)⟩
  obtain⟨d,rfl⟩:∃d,deep=d+1:=⟨deep-1,by omega⟩
  have hdt:dT (d+1)=3*dT d+3:=rfl
  have hg2:=dT_ge d
  have e1:((d+1:Nat):Int)-1=(d:Int):=by omega
  refine Def.bind (pick_def N 3 h (by omega)) fun r2 ⟨_,_,_,h2⟩=>?_
  refine Def.dif (fun _=>Def.bind (leaf_def N h2 (by omega)) fun r ⟨o,h1⟩=>Def.ret ⟨o,h1.le (by omega)⟩) (fun _=>?_)
  refine Def.bind (pick_def N 6 h2 (by omega)) fun r4 ⟨_,_,_,h4⟩=>?_
  refine Def.dif (fun _=>?_) (fun _=>?_)
  .refine Def.ite (by unfold fits;omega) ?_
   rw[e1]
   refine Def.bind (query_def N hN D d (by omega) h4 (by omega) (by omega)) fun r5 ⟨o5,h5⟩=>?_
   refine Def.ite (by unfold fits;omega) ?_
   refine Def.bind (query_def N hN D d (by omega) h5 (by omega) (by omega)) fun r6 ⟨o6,h6⟩=>?_
   refine Def.ret ⟨⟨nil100,nilW,(fun w hw=>by cases hw),by simp,fun c hc=>?_⟩,h6.le (by omega)⟩
   simp only[zp,zbY,or_false]at hc
   rcases hc with rfl|rfl
   .exact o5.aq
   .exact o6.aq
  refine Def.dif (fun _=>?_) (fun _=>?_)
  .refine Def.bind (pick_def N 4 h4 (by omega)) fun r7 ⟨p0,p1,_,h7⟩=>?_
   have p1:=p1 (by omega)
   refine Def.ite (by unfold fits;omega) (Def.ite (by unfold fits;omega) ?_)
   rw[e1]
   refine Def.bind (query_def N hN D d (by omega) h7 (by omega) (by omega)) fun r8 ⟨o8,h8⟩=>?_
   exact Def.ret ⟨⟨nil100,nilW,(fun w hw=>by cases hw),by simp,(fun c hc=>by rw[zaD.1 hc];exact o8.aq)⟩,h8.le (by omega)⟩
  refine Def.meet (fun g=>∃(t:Bool) (x:List Int) (y:Int),Rdr x y (j+2)/\g=(((d+1:Nat):Int),t,0,([]:List UInt8),0,0,x,y)) ?_ fun J hJ=>?_
  .rintro _ ⟨t,x,y,hr,rfl⟩
   dsimp only
   refine Def.bif (fun _=>?_) (fun _=>?_)
   .refine Def.ite (by unfold fits;omega) ?_
    rw[e1]
    refine Def.bind (query_def N hN D d (by omega) hr (by omega) (by omega)) fun r5 ⟨o5,h5⟩=>?_
    refine Def.ite (by unfold fits;omega) ?_
    refine Def.bind (query_def N hN D d (by omega) h5 (by omega) (by omega)) fun r6 ⟨o6,h6⟩=>?_
    refine Def.ret ⟨⟨nil100,nilW,(fun w hw=>by cases hw),by simp,fun c hc=>?_⟩,h6.le (by omega)⟩
    simp only[zp,zbY,or_false]at hc
    rcases hc with rfl|rfl
    .exact o5.aq
    .exact o6.aq
   .refine Def.bind (pick_def N 2 hr (by omega)) fun r11 ⟨p0,p1,_,h11⟩=>?_
    have p1:=p1 (by omega)
    refine Def.ite (by unfold fits;omega) ?_
    refine Def.iter (fun g=>∃(n:Nat) (kids:List DQ) (x:List Int) (y:Int),kids.length+n<=3/\(∀c,c∈kids->AQ c)/\Rdr x y (j+3+(3-n)*dT d)/\g=(((d+1:Nat):Int),(n:Int),0,([]:List UInt8),0,0,8,([]:List UInt8),0,0,kids,x,y)) (fun g=>g.2.1.toNat) ?_ N _
     ⟨(2+r11.1).toNat,[],_,_,by simp;omega,(fun c hc=>by cases hc),h11.le (by omega),by rw[zbU (by omega)]⟩ (by show(2+r11.1).toNat<N;omega)
    rintro go _ ⟨n,kids,x,y,hn,hk,hr,rfl⟩ hgo
    dsimp only
    refine Def.dif (fun e3=>?_) (fun e3=>?_)
    .refine Def.ite (by unfold fits;omega) ?_
     rw[e1]
     have hb:(3-n)*dT d<=2*dT d:=zag _ (by omega)
     refine Def.bind (query_def N hN D d (by omega) hr (by omega) (by omega)) fun r12 ⟨o12,h12⟩=>?_
     refine Def.ite (room_of (by rw[zbE];omega) (by rw[zbE];omega)) (Def.ite (by unfold fits;omega) (hgo _ ⟨n-1,kids++ [DQ.mk r12.1 r12.2.1 r12.2.2.1 r12.2.2.2.1 r12.2.2.2.2.1 r12.2.2.2.2.2.1],_,_,by rw[zam,zbE];omega,fun c hc=>?_,h12.le ?_,by rw[show((n:Int)-1)=((n-1:Nat):Int)from by omega]⟩ (by show((n:Int)-1).toNat<((n:Int)).toNat;omega)))
     .rcases zaB.1 hc with hc|hc
      .exact hk c hc
      .rw [zaD.1 hc];exact o12.aq
     .have e4:3-(n-1)=(3-n)+1:=by omega
      rw[e4,zaO,Nat.one_mul];omega
    .have hb:(3-n)*dT d<=3*dT d:=zag _ (by omega)
     exact Def.ret ⟨⟨nil100,nilW,(fun w hw=>by cases hw),by dsimp only;omega,hk⟩,hr.le (by omega)⟩
  .exact Def.dif (fun _=>hJ _ ⟨_,_,_,h4,rfl⟩) (fun _=>hJ _ ⟨_,_,_,h4,rfl⟩)
theorem query3_def (N:Nat) (hN:20<=N) {b:List Int} {k:Int} {j:Nat} (h:Rdr b k j) (hj:j<=50000):Def (s_l30Query_m N N 3 b k) fun r=>Own r.1 r.2.1 r.2.2.1 r.2.2.2.2.2.1/\Rdr r.2.2.2.2.2.2.1 r.2.2.2.2.2.2.2 (j+309):=
 query_def N hN N 3 (by omega) h (by show j+309<=_;omega) (by omega)
theorem anyQuery_def (N:Nat) (hN:20<=N) {b:List Int} {k:Int} {j:Nat} (h:Rdr b k j) (hj:j<=50000):Def (s_l30AnyQuery_m N b k) fun r=>AQ (.mk r.1 r.2.1 r.2.2.1 r.2.2.2.1 r.2.2.2.2.1 r.2.2.2.2.2.1)/\Rdr r.2.2.2.2.2.2.1 r.2.2.2.2.2.2.2 (j+312):=by
 unfold s_l30AnyQuery_m
 refine Def.bind (query3_def N hN h hj) fun r ⟨o,h1⟩=>?_
 have o1:=o.f;have o2:=o.n;have o3:=o.k
 refine Def.bind (pick_def N 16 h1 (by omega)) fun r2 ⟨_,_,_,h2⟩=>?_
 refine Def.dif (fun _=>?_) (fun _=>?_)
 .exact Def.bind (one_def N (by simp) h2 (by omega)) fun r3 ⟨_,h3⟩=>Def.ret ⟨Own.aq ⟨o.f,o.n,o.w,o.k,o.c⟩,h3.le (by omega)⟩
 refine Def.dif (fun _=>?_) (fun _=>?_)
 .exact Def.bind (one_def N (by simp) h2 (by omega)) fun r3 ⟨_,h3⟩=>Def.ret ⟨o.aq,h3.le (by omega)⟩
 refine Def.dif (fun _=>?_) (fun _=>?_)
 .refine Def.ite (room_of (by rw[zbE];omega) (by rw[zbE];omega)) (Def.ret ⟨AQ.mk' (by dsimp only;omega) (by dsimp only;rw[zam,zbE];omega) (fun w hw=>?_) (by dsimp only;omega) o.c,h2.le (by omega)⟩)
  rcases zaB.1 hw with hw|hw
  .have:=o.w w hw;omega
  .rw [zaD.1 hw];decide
 refine Def.dif (fun _=>?_) (fun _=>Def.ret ⟨o.aq,h2.le (by omega)⟩)
 refine Def.ite (room_of (by rw[zbE];omega) (by rw[zbE];omega)) (Def.ret ⟨AQ.mk' (by dsimp only;omega) (by dsimp only;omega) (fun w hw=>by have:=o.w w hw;omega) (by dsimp only;rw[zam,zbE];omega) (fun c hc=>?_),h2.le (by omega)⟩)
 rcases zaB.1 hc with hc|hc
 .rw [zaD.1 hc];exact o.aq
 .exact o.c c hc
theorem alerts_def (N:Nat) (hN:20<=N) {b:List Int} {k:Int} {j:Nat} (h:Rdr b k j) (hj:j<=10):Def (s_l30Alerts_m N b k) fun r=>(r.1.length<=10/\∀x,x∈r.1->GB x)/\Rdr r.2.1 r.2.2 1600:=by
 unfold s_l30Alerts_m
 refine Def.bind (pick_def N 5 h (by omega)) fun r ⟨p0,p1,_,h1⟩=>?_
 have p1:=p1 (by omega)
 refine Def.iter (fun g=>∃(out:List EAl) (n:Nat) (x:List Int) (y:Int),out.length+n<=4/\(∀z,z∈out->GB z)/\Rdr x y (11+(4-n)*309)/\g=(out,([([97]:List UInt8),([98]:List UInt8),([99]:List UInt8),([100]:List UInt8)]:List (List UInt8)),(n:Int),x,y)) (fun g=>g.2.2.1.toNat) ?_ N _
  ⟨[],r.1.toNat,_,_,by simp;omega,(fun z hz=>by cases hz),h1.le (by omega),by rw[zbU p0]⟩ (by show r.1.toNat<N;omega)
 rintro go _ ⟨out,n,x,y,hn,ho,hr,rfl⟩ hgo
 dsimp only
 have hb:(4-n)*309<=4*309:=zag _ (by omega)
 refine Def.dif (fun e=>?_) (fun e=>?_)
 .refine Def.idx (by omega) (by simp;omega) fun w hw _=>?_
  have lw:w.length<=100:=(by decide:∀w,w∈([([97]:List UInt8),([98]:List UInt8),([99]:List UInt8),([100]:List UInt8)]:List (List UInt8))->w.length<=100) _ hw
  refine Def.bind (query3_def N hN hr (by omega)) fun r2 ⟨o,h2⟩=>?_
  refine Def.ite (room_of (by rw[zbE];omega) (by rw[zbE];omega)) (Def.ite (by unfold fits;omega) (hgo _ ⟨out++ [(w,DQ.mk r2.1 r2.2.1 r2.2.2.1 r2.2.2.2.1 r2.2.2.2.2.1 r2.2.2.2.2.2.1)],n-1,_,_,by rw[zam,zbE];omega,fun z hz=>?_,h2.le (by omega),by rw[show((n:Int)-1)=((n-1:Nat):Int)from by omega]⟩ (by show((n:Int)-1).toNat<((n:Int)).toNat;omega)))
  rcases zaB.1 hz with hz|hz
  .exact ho z hz
  .rw [zaD.1 hz];exact⟨by show w.length<=_;omega,o.aq 4⟩
 .refine Def.bind (pick_def N 12 hr (by omega)) fun r3 ⟨_,_,_,h3⟩=>?_
  refine Def.dif (fun _=>?_) (fun _=>Def.ret ⟨⟨by dsimp only;omega,ho⟩,h3.le (by omega)⟩)
  refine Def.bind (anyQuery_def N hN h3 (by omega)) fun r4 ⟨o,h4⟩=>?_
  refine Def.ite (room_of (by rw[zbE];omega) (by rw[zbE];omega)) (Def.ret ⟨⟨by dsimp only;rw[zam,zbE];omega,fun z hz=>?_⟩,h4.le (by omega)⟩)
  rcases zaB.1 hz with hz|hz
  .exact ho z hz
  .rw [zaD.1 hz];exact⟨by show(1:Nat)<=_;omega,o 4⟩
theorem drawAlertOf_def (N:Nat) (hM:1048576<N) {code:List Int} (hb:Bs code):Def (s_DrawAlertOf_m N code) fun r=>(r.1.length<=10/\∀x,x∈r.1->GB x)/\okD Sm TConf (r.2.1,r.2.2.1)/\okD Sm TDoc (r.2.2.2.1,r.2.2.2.2.1,r.2.2.2.2.2):=by
 unfold s_DrawAlertOf_m
 refine Def.bind (open_def N hb) fun r h0=>?_
 refine Def.bind (alerts_def N (by omega) h0 (by omega)) fun r2 ⟨a2,h2⟩=>?_
 refine Def.bind (anyConf_def N h2 (by omega)) fun r3 ⟨a3,h3⟩=>?_
 refine Def.bind (anyDoc_def N h3 (by omega) (by omega)) fun r4 ⟨a4,_⟩=>?_
 exact Def.ret ⟨a2,a3,a4⟩
structure FitX (N:Nat) (x:EIndex):Prop where
 fit:FitI N x
 few:x.2.length<=6
 each:∀l,l∈x.2->FitL l
theorem foTexts_same (N:Nat) (hN:1048576<N) (l:List (List UInt8)) (hl:l.length<=1048576):l_foTexts_m N l l=some true:=by
 unfold l_foTexts_m
 rw[zb rfl,zn,ze]
 refine(iter_scan _ l.length (fun n=>(l,l,(n:Int))) (fun _=>some true) (fun go=>?_) (fun go n hn hgo=>?_) N 0 (zaf _) (by omega)).trans rfl
 .dsimp only
  rw[zd (zm _),ze]
 .dsimp only
  rw[zb (by omega:(n:Int)<l.length),zg,idx_at hn,za,za,zb rfl,zn,ze,zf (fits_nat (n:=n) (by omega)),<-hgo,cast_succ']
theorem indexNew_i {N:Nat} (hM:Sm<N) (hN:N<=16777216) (c:EConf) (oc:okD Sm TConf c):i_IndexNew_m N c.1 c.2=some (bif okConf c then(c.1,c.2,[])else([],[],[])):=by
 unfold i_IndexNew_m
 rw[confOk_spec N hM (by omega) c oc,za]
 cases okConf c with
 |false=>rfl
 |true=>
  rw[zn,ze,cloneConf_spec N c (.of hM oc),za]
  rfl
theorem anyDocs_def (N:Nat) (hM:Sm<N) {b:List Int} {k:Int} {j:Nat} (h:Rdr b k j) (hj:j<=7100):Def (s_l30AnyDocs_m N b k) fun r=>((∀d,d∈r.1->okD Sm TDoc d)/\r.1.length<=7)/\Rdr r.2.1 r.2.2 (j+2000):=by
 have hM':1048576<N:=hM
 unfold s_l30AnyDocs_m
 refine Def.bind (docs_def N h (by omega) (by omega)) fun r ⟨dd,h1⟩=>?_
 refine Def.bind (pick_def N 10 h1 (by omega)) fun r2 ⟨_,_,_,h2⟩=>?_
 have hd:∀d,d∈r.1->okD Sm TDoc d:=fun d hd=>(dd.each d hd).1
 have hf:=dd.few
 refine Def.dif (fun _=>?_) (fun _=>Def.ret ⟨⟨hd,by dsimp only;omega⟩,h2.le (by omega)⟩)
 refine Def.bind (anyDoc_def N h2 (by omega) (by omega)) fun r3 ⟨d3,h3⟩=>?_
 refine Def.ite (room_of (by rw[zbE];omega) (by rw[zbE];omega)) (Def.ret ⟨⟨fun d hm=>?_,by rw[zam,zbE];omega⟩,h3.le (by omega)⟩)
 rcases zaB.1 hm with hm|hm
 .exact hd d hm
 .rw [zaD.1 hm]
  exact d3
theorem indexDocs_ok {N:Nat} {x:EIndex} (h:FitI N x) (hk:okIdx x=true):i_IndexDocs_m N x.1.1 x.1.2 x.2=some (docsX x):=by
 have hM:1048576<N:=h.big
 unfold i_IndexDocs_m
 rw[indexOk_spec h,za,hk,zn,ze,allAlive_ok h hk,za,cloneDocs_spec N (okDocs_ok (okIdx_ok hk).2.2.2) (by omega),za]
theorem bytes_ok {code:List Int} (h:okD BigN (.sl (.int .u8)) code):Bs code:=fun x hx=>by
 have:=h.2 x hx
 have e1:IntKind.u8.min=0:=by decide
 have e2:IntKind.u8.max=255:=by decide
 exact⟨by have h1:=this.1;rw[e1]at h1;exact h1,by have h1:=this.2;rw[e2]at h1;exact h1⟩
theorem worth_some {tf long total docs df:Nat} (h:Fair tf long total docs df):0<worth tf long total docs df:=by
 have hd:=h.down
 have h1:=h.tf0
 have h2:=h.long1
 have h3:=h.docs1
 have hg:=gcd_pos' (a:=termUp tf docs df) hd.1
 have u1:22*tf<=termUp tf docs df:=by
  unfold termUp
  exact Nat.le_mul_of_pos_right _ (Nat.succ_pos _)
 have d1:termDown tf long total docs<=10*tf+3+11520:=by
  unfold termDown
  have e1:9*long*docs/total<=9*long*docs:=za5 _ _
  have e2:9*long*docs<=720*16:=zbX (by omega) h3
  omega
 unfold worth
 dsimp only
 have a:=Nat.div_mul_cancel (Nat.gcd_dvd_left (termUp tf docs df) (termDown tf long total docs))
 have b:=Nat.div_mul_cancel (Nat.gcd_dvd_right (termUp tf docs df) (termDown tf long total docs))
 generalize Nat.gcd (termUp tf docs df) (termDown tf long total docs)=g at*
 generalize termUp tf docs df/g=u at*
 generalize hq:termDown tf long total docs/g=q at*
 have hq0:0<q:=by
  rcases Nat.eq_zero_or_pos q with e|e
  .rw [e,Nat.zero_mul]at b;omega
  .exact e
 refine Nat.div_pos ?_ hq0
 refine Nat.le_of_mul_le_mul_right (c:=g) ?_ hg
 rw[b,Nat.mul_right_comm,a]
 omega
theorem pts_pos (c:EConf) {docs:List EDoc} (hd:DOk docs) (f t:List UInt8) (id:Int):0<ptsF c docs f t id↔0<(atS c docs (f,t) id).length:=by
 unfold ptsF
 by_cases h:(atS c docs (f,t) id).length=0
 .rw [zf h]
  omega
 .rw [zu h]
  have:=worth_some (pts_fair c hd f t id h)
  omega
theorem sumL_pos {Z:Type} (f:Z->Nat):∀l:List Z,0<sumL (l.map f)↔∃x,x∈l/\0<f x
 | []=>⟨fun h=>absurd h (Nat.lt_irrefl 0),fun⟨x,hx,_⟩=>by cases hx⟩
 |x::l=>by
  have ih:=sumL_pos f l
  rw[zv,sumL_cons]
  constructor
  .intro h
   by_cases hx:0<f x
   .exact ⟨x,zy,hx⟩
   .obtain ⟨y,hy,hf⟩:=ih.1 (by omega)
    exact⟨y,zl _ hy,hf⟩
  .rintro ⟨y,hy,hf⟩
   rcases zp.1 hy with rfl|hy
   .omega
   .have:=ih.2 ⟨y,hy,hf⟩
    omega
theorem sumV_pos (V:DQ->Int):∀(l:List DQ) (a:Int),(∀x,x∈l->0<=V x)->0<=a->(0<l.foldl (fun a x=>a+V x) a↔0<a\/ ∃x,x∈l/\0<V x)
 | [],a,_,_=>⟨.inl,fun h=>h.elim id fun⟨x,hx,_⟩=>by cases hx⟩
 |x::l,a,h,h0=>by
  have hx:=h x zy
  rw[zaq,sumV_pos V l (a+V x) (fun y hy=>h y (zl _ hy)) (by omega)]
  constructor
  .rintro (h1|⟨y,hy,h1⟩)
   .by_cases ha:0<a
    .exact .inl ha
    .exact .inr ⟨x,zy,by omega⟩
   .exact .inr ⟨y,zl _ hy,h1⟩
  .rintro (h1|⟨y,hy,h1⟩)
   .exact .inl (by omega)
   .rcases zp.1 hy with rfl|hy
    .exact .inl (by omega)
    .exact .inr ⟨y,hy,h1⟩
theorem manyF_pos (V:DQ->Int) (kind:Int) (hk:kind=7\/kind=8) (kids:List DQ) (h:∀x,x∈kids->0<=V x):0<manyF V kind kids↔(∃x,x∈kids/\0<V x)/\(kind=7->∀x,x∈kids->0<V x):=by
 have hs:=sumV_pos V kids 0 h (zbD _)
 have hs:0<sumV V kids↔∃x,x∈kids/\0<V x:=hs.trans ⟨fun h=>h.elim (fun h=>absurd h (zm _)) id,.inr⟩
 unfold manyF
 cases ha:kids.any (fun x=>decide (V x=0)&&decide (kind=7))with
 |true=>
  rw[zg]
  obtain⟨x,hx,e⟩:=zb6.1 ha
  rw[zj,zw,zw]at e
  constructor
  .intro h
   omega
  .rintro ⟨_,h2⟩
   have:=h2 e.2 x hx
   omega
 |false=>
  rw[ze,hs]
  refine⟨fun h1=>⟨h1,fun e x hx=>?_⟩,fun h1=>h1.1⟩
  have h2:=List.any_eq_false.1 ha x hx
  have h3:=h x hx
  rw[e]at h2
  by_cases e0:V x=0
  .rw [zb e0]at h2
   exact absurd rfl h2
  .omega
theorem mul_pos_both {a b:Nat} (m:Nat) (p:0<a↔0<b):0<a*m↔0<b*m:=by
 rcases Nat.eq_zero_or_pos m with e|e
 .subst e;rw[Nat.mul_zero,Nat.mul_zero]
 .rw [Nat.mul_pos_iff_of_pos_right e,Nat.mul_pos_iff_of_pos_right e];exact p
theorem mul_pos_low {a v:Int} (h0:0<=v) (h:0<a*v):0<v:=by
 rcases Int.lt_or_eq_of_le h0 with e|e
 .exact e
 .rw [<-e,Int.mul_zero]at h;omega
structure Twin (N:Nat) (c:EConf) (s t:ESeg) (d:EDoc):Prop where
 g1:GoodS N c s
 g2:GoodS N c t
 d1:docOf s.1 d.1=some d
 d2:docOf t.1 d.1=some d
theorem Twin.at {N:Nat} {c:EConf} {s t:ESeg} {d:EDoc} (h:Twin N c s t d) (k:EKey):atS c s.1 k d.1=ats c d k/\atS c t.1 k d.1=ats c d k:=by
 unfold atS
 rw[h.d1,h.d2]
 exact⟨rfl,rfl⟩
theorem Twin.pts {N:Nat} {c:EConf} {s t:ESeg} {d:EDoc} (h:Twin N c s t d) (f w:List UInt8):0<ptsF c s.1 f w d.1↔0<ptsF c t.1 f w d.1:=by
 rw[pts_pos c h.g1.dok,pts_pos c h.g2.dok,(h.at _).1,(h.at _).2]
theorem Twin.phrase {N:Nat} {c:EConf} {s t:ESeg} {d:EDoc} (h:Twin N c s t d) (f:List UInt8) (ws:List (List UInt8)) (a:Int):0<phraseF c s.1 f ws a d.1↔0<phraseF c t.1 f ws a d.1:=by
 unfold phraseF
 generalize terms c (joinL ws [32])=ts
 have e:∀n,listsF c s.1 f ts d.1 n=listsF c t.1 f ts d.1 n:=fun n=>by
  unfold listsF
  refine za0 fun i _=>?_
  unfold listF
  rw[(h.at _).1,(h.at _).2]
 have p:0<ptsSum c s.1 f ts d.1↔0<ptsSum c t.1 f ts d.1:=by
  unfold ptsSum
  rw[sumL_pos,sumL_pos]
  exact⟨fun⟨x,hx,h1⟩=>⟨x,hx,(h.pts f x.1).1 h1⟩,fun⟨x,hx,h1⟩=>⟨x,hx,(h.pts f x.1).2 h1⟩⟩
 unfold phraseT
 rw[e]
 exact mul_pos_both _ p
theorem glob_pos (N:Nat) {c:EConf} {s:ESeg} (g:GoodS N c s) {d:EDoc} (hd:docOf s.1 d.1=some d) (f w:List UInt8):globF N c s f w d.1=(terms c (fieldF d.2.1 f)).any fun x=>gHas N w x.1:=by
 have hm:d∈s.1:=zbe hd
 have ha:∀t,atS c s.1 (f,t) d.1=ats c d (f,t):=fun t=>by unfold atS;rw[hd]
 have ht:trms s f=termsIn c s.1 f:=by unfold trms termsIn;rw[<-g.ent]
 rw[zbH]
 unfold globF globT
 rw[zb6,zb6]
 constructor
 .rintro ⟨t,h1,h2⟩
  rw[zj,zw,ha]at h2
  have hl:0<(ats c d (f,t)).length:=by omega
  rw[ats_len]at hl
  obtain⟨x,hx⟩:=List.exists_mem_of_length_pos hl
  obtain⟨hx1,hx2⟩:=zaZ.1 hx
  exact⟨x,hx1,by rw[of_decide_eq_true hx2];exact h2.1⟩
 .rintro ⟨x,h1,h2⟩
  refine⟨x.1,by rw[ht];exact term_cover c g.dok f hm x h1,?_⟩
  rw[zj,zw,ha,h2]
  have hl:0<(ats c d (f,x.1)).length:=by
   rw[ats_len]
   exact List.length_pos_of_mem (zaZ.2 ⟨h1,zb rfl⟩)
  exact⟨rfl,by omega⟩
def plainQ :Nat->DQ->Bool
 |0,_=>false
 |k+1,q=>q.kids.all (plainQ k)&& !decide (q.kind=4)
theorem Both.is {N D:Nat} {c:EConf} {s:ESeg} {d:EDoc} {B:Int} {q:DQ} {v:Int} (h:BothQ N D c s d B q v):valS N D c s d q=v:=by unfold valS;rw[h.ref];rfl
theorem val_alike (N:Nat) {c:EConf} {s t:ESeg} {d:EDoc} (T:Twin N c s t d):∀k:Nat,k<=4->∀q:DQ,okQ k q=true->plainQ k q=true->∀D,k<D->(0<valS N D c s d q↔0<valS N D c t d q)
 |0,_,q,hq,_,_,_=>by rw[okQ]at hq;cases hq
 |k+1,hk,.mk kind f ws a b kids,hq,_,0,hD=>by omega
 |k+1,hk,.mk kind f ws a b kids,hq,hp,D+1,hD=>by
  rw[okQ,zj,zax]at hq
  obtain⟨ho,hkids⟩:=hq
  rw[plainQ,zj,zax]at hp
  obtain⟨hpk,hp4⟩:=hp
  have hb:=bnd_in k (by omega)
  have ih:=val_alike N T k (by omega)
  have e1:=score_ex N T.g1 d T.d1 k (by omega)
  have e2:=score_ex N T.g2 d T.d2 k (by omega)
  have use:∀ {B:Int} {v w:Int},Both N (D+1) c s d B kind f ws a b kids v->Both N (D+1) c t d B kind f ws a b kids w->(0<v↔0<w)->(0<valS N (D+1) c s d (.mk kind f ws a b kids)↔0<valS N (D+1) c t d (.mk kind f ws a b kids)):=fun {B v w} h1 h2 h=>by
   rw[Both.is (q:=.mk kind f ws a b kids) h1,Both.is (q:=.mk kind f ws a b kids) h2]
   exact h
  by_cases h1:kind=1
  .subst h1
   exact use (both_all N D d f ws a b kids) (both_all N D d f ws a b kids) Iff.rfl
  by_cases h2:kind=2
  .subst h2
   have h:((decide (a=0)&&decide (b=0)&&nilB kids)&&(okW f&&(ws.all okW&&decide ((ws.length:Int)=1))))=true:=ho
   simp only[zj,zw]at h
   obtain⟨w,rfl⟩:=one_list' h.2.2.2
   have hw:okW w=true:=zax.1 h.2.2.1 w zy
   have:=T.pts f (termF c w)
   exact use (both_term N D T.g1 d f w a b kids hw) (both_term N D T.g2 d f w a b kids hw) (by omega)
  by_cases h3:kind=3
  .subst h3
   have h:(nilB kids&&(okW f&&(ws.all okW&&(decide ((2:Int)<=ws.length)&&decide ((ws.length:Int)<=4))&&(decide (b=0)&&(decide (0<=a)&&decide (a<=5))))))=true:=ho
   simp only[zj,zw]at h
   have hw:=zax.1 h.2.2.1.1
   have:=T.phrase f ws a
   exact use (both_phrase N D T.g1 d f ws a b kids hw (by omega)) (both_phrase N D T.g2 d f ws a b kids hw (by omega)) (by omega)
  by_cases h4:kind=4
  .subst h4
   cases hp4
  by_cases h5:kind=5
  .subst h5
   have h:((decide (a=0)&&decide (b=0)&&nilB kids)&&(okW f&&(ws.all (fun w=>okG w&& !okW w)&&decide ((ws.length:Int)=1))))=true:=ho
   simp only[zj,zw]at h
   obtain⟨w,rfl⟩:=one_list' h.2.2.2
   have hw:=zax.1 h.2.2.1 w zy
   rw[zj]at hw
   have hl:w.length<=12:=by
    have:=hw.1
    unfold okG at this
    simp only[zj,zw]at this
    omega
   exact use (both_glob N D T.g1 d f w a b kids hw.1 hl) (both_glob N D T.g2 d f w a b kids hw.1 hl) (by rw[glob_pos N T.g1 T.d1,glob_pos N T.g2 T.d2])
  by_cases h6:kind=6
  .subst h6
   exact use (both_range N D T.g1 d T.d1 f ws a b kids) (both_range N D T.g2 d T.d2 f ws a b kids) Iff.rfl
  by_cases h78:kind=7\/kind=8
  .have hl:kids.length<=4:=by
    unfold oneQ at ho
    rw[zd h1,ze,zd h2,ze,zd h3,ze,zd h4,ze,zd h5,ze,zd h6,ze,show(decide (kind=7)||decide (kind=8))=true from by rcases h78 with h|h<;>subst h<;>rfl,zg]at ho
    simp only[zj,zw]at ho
    omega
   have x1:∀x,x∈kids->BothQ N D c s d (bnd k) x (valS N D c s d x):=fun x hx=>by
    obtain⟨v,hv⟩:=e1 x (hkids x hx) D (by omega)
    rw[Both.is hv]
    exact hv
   have x2:∀x,x∈kids->BothQ N D c t d (bnd k) x (valS N D c t d x):=fun x hx=>by
    obtain⟨v,hv⟩:=e2 x (hkids x hx) D (by omega)
    rw[Both.is hv]
    exact hv
   have hi:∀x,x∈kids->(0<valS N D c s d x↔0<valS N D c t d x):=fun x hx=>ih x (hkids x hx) (hpk x hx) D (by omega)
   refine use (both_many N D T.g1.m d kind h78 f ws a b kids hl (valS N D c s d) (bnd k) (by omega) hb.2 x1) (both_many N D T.g2.m d kind h78 f ws a b kids hl (valS N D c t d) (bnd k) (by omega) hb.2 x2) ?_
   rw[manyF_pos _ kind h78 kids fun x hx=>(x1 x hx).low,manyF_pos _ kind h78 kids fun x hx=>(x2 x hx).low]
   exact⟨fun⟨⟨x,hx,p⟩,q⟩=>⟨⟨x,hx,(hi x hx).1 p⟩,fun e y hy=>(hi y hy).1 (q e y hy)⟩,fun⟨⟨x,hx,p⟩,q⟩=>⟨⟨x,hx,(hi x hx).2 p⟩,fun e y hy=>(hi y hy).2 (q e y hy)⟩⟩
  have hn78:(decide (kind=7)||decide (kind=8))=false:=by
   rw[zd (fun h=>h78 (.inl h)),zd (fun h=>h78 (.inr h))]
   rfl
  unfold oneQ at ho
  rw[zd h1,ze,zd h2,ze,zd h3,ze,zd h4,ze,zd h5,ze,zd h6,ze,hn78,ze]at ho
  by_cases h9:kind=9
  .subst h9
   rw[zb rfl,zg]at ho
   simp only[zj,zw]at ho
   obtain⟨x,y,rfl⟩:=two_list ho.2.2.2
   have mx:x∈ [x,y]:=zy
   have my:y∈ [x,y]:=zl _ zy
   obtain⟨v1,hv1⟩:=e1 x (hkids x mx) D (by omega)
   obtain⟨w1,hw1⟩:=e1 y (hkids y my) D (by omega)
   obtain⟨v2,hv2⟩:=e2 x (hkids x mx) D (by omega)
   obtain⟨w2,hw2⟩:=e2 y (hkids y my) D (by omega)
   have ix:=ih x (hkids x mx) (hpk x mx) D (by omega)
   have iy:=ih y (hkids y my) (hpk y my) D (by omega)
   rw[Both.is hv1,Both.is hv2]at ix
   rw[Both.is hw1,Both.is hw2]at iy
   refine use (both_less N D d f ws a b x y _ v1 w1 hv1 hw1) (both_less N D d f ws a b x y _ v2 w2 hv2 hw2) ?_
   by_cases hw:0<w1
   .rw [zb hw,zb (iy.1 hw)]
    exact Iff.rfl
   .rw [zd hw,zd (fun h=>hw (iy.2 h))]
    exact ix
  rw[zd h9,ze]at ho
  by_cases h10:kind=10
  .subst h10
   rw[zb rfl,zg]at ho
   simp only[zj,zw]at ho
   obtain⟨x,rfl⟩:=one_list' ho.2.2.1
   have mx:x∈ [x]:=zy
   obtain⟨v1,hv1⟩:=e1 x (hkids x mx) D (by omega)
   obtain⟨v2,hv2⟩:=e2 x (hkids x mx) D (by omega)
   have ix:=ih x (hkids x mx) (hpk x mx) D (by omega)
   rw[Both.is hv1,Both.is hv2]at ix
   have ha:0<a:=by have:=ho.2.2.2.2.1;omega
   refine use (both_times N D d f ws a b x _ v1 hb.2 hv1 ho.2.2.2.2) (both_times N D d f ws a b x _ v2 hb.2 hv2 ho.2.2.2.2) ?_
   exact⟨fun h=>Int.mul_pos ha (ix.1 (mul_pos_low hv1.low h)),fun h=>Int.mul_pos ha (ix.2 (mul_pos_low hv2.low h))⟩
  rw[zd h10,ze]at ho
  cases ho
theorem foIn_spec (N:Nat) (l:List Int) (n:Int) (h:l.length<N) (hl:l.length<=1000000):l_foIn_m N l n=some (l.any fun x=>decide (x=n)):=by
 unfold l_foIn_m
 refine(any_scan _ l (fun i=>(l,n,(i:Int))) (fun x=>decide (x=n)) (some true) (some false) (fun go=>?_) (fun go i hi=>?_) N h).trans (by cases l.any (fun x=>decide (x=n))<;>rfl)
 .dsimp only
  rw[zd (zm _),ze]
 .dsimp only
  rw[zb (by omega:(i:Int)<l.length),zg,idx_at hi,za,zf (fits_nat (n:=i) (by omega)),cast_succ']
theorem foHas_spec (N:Nat) (l:List (List UInt8)) (n:List UInt8) (h:l.length<N) (hl:l.length<=1000000):l_foHas_m N l n=some (l.any fun x=>decide (x=n)):=by
 unfold l_foHas_m
 refine(any_scan _ l (fun i=>(l,n,(i:Int))) (fun x=>decide (x=n)) (some true) (some false) (fun go=>?_) (fun go i hi=>?_) N h).trans (by cases l.any (fun x=>decide (x=n))<;>rfl)
 .dsimp only
  rw[zd (zm _),ze]
 .dsimp only
  rw[zb (by omega:(i:Int)<l.length),zg,idx_at hi,za,zf (fits_nat (n:=i) (by omega)),cast_succ']
theorem foPlain_spec (N:Nat) (hN:1048576<N):∀(k:Nat) (q:DQ),okQ k q=true->BQ k q->∀D,k<=D->l_foPlain_m N D q.kind q.field q.words q.lo q.hi q.kids=some (plainQ k q)
 |0,q,h,_,_,_=>by rw[okQ]at h;cases h
 |k+1,q,h,hb,0,hD=>by omega
 |k+1,.mk kind f ws a b kids,h,hb,D+1,hD=>by
  rw[okQ,zj,zax]at h
  have hl:kids.length<=1048576:=hb.2.2.2.1
  have hk:∀c,c∈kids->l_foPlain_m N D c.kind c.field c.words c.lo c.hi c.kids=some (plainQ k c):=fun c hc=>foPlain_spec N hN k c (h.2 c hc) (hb.2.2.2.2 c hc) D (by omega)
  dsimp only[DQ.kind,DQ.field,DQ.words,DQ.lo,DQ.hi,DQ.kids]
  rw[l_foPlain_m]
  refine(any_scan _ kids (fun i=>((i:Int),kind,f,ws,a,b,kids)) (fun c=> !plainQ k c) (some false) (some (!decide (kind=4))) (fun go=>?_) (fun go i hi=>?_) N (by omega)).trans ?_
  .dsimp only
   rw[zd (zm _),ze]
  .dsimp only
   rw[zb (by omega:(i:Int)<kids.length),zg,idx_at hi,za,hk _ (zr hi),za,zf (fits_nat (n:=i) (by omega)),cast_succ']
  .rw [plainQ]
   dsimp only[DQ.kind,DQ.kids]
   rw[List.any_eq_not_all_not]
   simp only[Bool.not_not]
   cases kids.all (plainQ k)<;>rfl
theorem add_first {c:EConf} {d:EDoc} (hc:okConf c=true) (hd:okDoc d=true):addR [d] (c,[])=(addY [d] (c,[]),true)/\okIdx (addY [d] (c,[]))=true:=by
 have h1:okDocs [d]=true:=by rw[okDocs_one];exact hd
 have h2:=whole_ok hc h1 (Nat.succ_pos 0)
 exact⟨addR_of (new_ok hc) h1 (Nat.succ_pos 0) h2,h2⟩
theorem goneN_none (l:ELive):∀ds:List EDoc,(∀d,d∈ds->hasL d.1 l=false)->goneN ds l=l
 | [],_=>rfl
 |d::ds,h=>by
  have e:goneS d.1 l=l:=by unfold goneS;rw[h d zy];rfl
  show goneN ds (goneS d.1 l)=l
  rw[e]
  exact goneN_none l ds fun x hx=>h x (zl _ hx)
theorem add_more {c:EConf} {d:EDoc} {few:List EDoc} (hc:okConf c=true) (hd:okDoc d=true) (hf:okDocs few=true) (hn:∀x,x∈few->x.1≠d.1) (h0:0<few.length) (hl:few.length<=15):okIdx (addY few (addY [d] (c,[])))=true/\d∈docsX (addY few (addY [d] (c,[]))):=by
 have h1:okDocs [d]=true:=by rw[okDocs_one];exact hd
 have hg:goneN few ((([d],entriesS c [d]),[]):ELive)=(([d],entriesS c [d]),[]):=goneN_none _ _ fun x hx=>by
  unfold hasL docOf
  rw[zbA,zd (fun e=>hn x hx e.symm)]
  rfl
 have e:addY few (addY [d] (c,[]))=(c,[(([d],entriesS c [d]),[]),((few,entriesS c few),[])]):=by
  show(c,(([((([d],entriesS c [d]),[]):ELive)].map (goneN few)).filter liveN++ [((few,entriesS c few),[])]))=_
  rw[zv,List.map_nil,hg]
  rfl
 have ea:allD [((([d],entriesS c [d]),[]):ELive),((few,entriesS c few),[])]=[d]++few:=by
  show alive _++(alive _++ [])=_
  rw[alive_new,alive_new,zat]
 have hp:=sortD_perm ([d]++few)
 have hdo:okDocs (sortD ([d]++few))=true:=by
  refine okDocs_of _ (fun x hx=>?_) ?_ ?_
  .rcases zaB.1 (hp.mem_iff.1 hx)with h|h
   .rw [zaD.1 h];exact hd
   .exact okDoc_each hf x h
  .have hne:([d]++few).Pairwise fun a b=>a.1≠b.1:=by
    rw[List.singleton_append,zas]
    exact⟨fun x hx e=>hn x hx e.symm,(okDocs_ok hf).inn.ids.imp fun h e=>by omega⟩
   have h2:(sortD ([d]++few)).Pairwise fun a b=>a.1≠b.1:=(hp.pairwise_iff fun h e=>h e.symm).2 hne
   exact(sortD_le ([d]++few)).imp₂ (fun a b h3 h4=>by omega) h2
  .rw [hp.length_eq,zam,zbE]
   omega
 rw[e]
 refine⟨?_,?_⟩
 .unfold okIdx
  dsimp only
  rw[hc,ea,hdo,zb7,zb7,new_live hc h1 (Nat.succ_pos 0),new_live hc hf h0]
  rfl
 .show d∈sortD (allD _)
  rw[ea]
  exact hp.mem_iff.2 (zad _ zy)
theorem pair_inj {Z β:Type} (f:Z->β):∀ {l:List Z},(l.Pairwise fun a b=>f a≠f b)->∀ {a b:Z},a∈l->b∈l->f a=f b->a=b
 | [],_,a,_,h,_,_=>by cases h
 |x::l,hp,a,b,ha,hb,e=>by
  rw[zas]at hp
  rcases zp.1 ha with ha|ha<;>rcases zp.1 hb with hb|hb
  .rw [ha,hb]
  .rw [ha]at e;exact absurd e (hp.1 b hb)
  .rw [hb]at e;exact absurd e.symm (hp.1 a ha)
  .exact pair_inj f hp.2 ha hb e
theorem names_ne {xs:List EAl} (h:okAls xs=true):xs.Pairwise fun a b=>a.1≠b.1:=by
 unfold okAls at h
 rw[zj]at h
 have:=pairwise_adj (fun a b:EAl=>Op.bytesLess a.1 b.1=true) (fun a b c h1 h2=>bl_trans h1 h2) xs (fun n hn=>by
  have h2:=allN_at h.1 hn
  unfold okAl at h2
  rw[zj,zd (by omega),zbf,zbq,<-alAt_eq hn,<-alAt_eq (by omega:n<xs.length)]at h2
  exact h2.2)
 exact this.imp fun h e=>by rw[e,bl_irrefl]at h;cases h
theorem name_told {N:Nat} {xs:List EAl} {c:EConf} {d:EDoc} (h:okAls xs=true) {x:EAl} (hx:x∈xs):(alT N c d xs).any (fun n=>decide (n=x.1))=alP N c d x:=by
 rw[zbH,zb6]
 unfold alT
 constructor
 .rintro ⟨n,hn,e⟩
  obtain⟨y,hy,rfl⟩:=zab.1 hn
  obtain⟨h1,h2⟩:=zaZ.1 hy
  rw[<-pair_inj (·.1) (names_ne h) h1 hx (of_decide_eq_true e)]
  exact h2
 .intro hp
  exact⟨x.1,zab.2 ⟨x,zaZ.2 ⟨hx,hp⟩,rfl⟩,zb rfl⟩
theorem match_has {N:Nat} {c:EConf} {s:ESeg} (hs:okSeg c s=true) {q:DQ} (hq:okQ 4 q=true) {d:EDoc} (hd:d∈s.1):(matchR N c s q).any (fun n=>decide (n=d.1))=decide (0<valS N N c s d q):=by
 have hids:=(okSeg_ok hs).2.1.inn.ids
 rw[zbH,zb6,zw]
 unfold matchR hitsR
 rw[hs,hq,zb5,zg]
 constructor
 .rintro ⟨n,hn,e⟩
  obtain⟨h,hh,rfl⟩:=zab.1 hn
  obtain⟨d',h1,rfl,h2,_⟩:=hitsP_mem hh
  rw[<-pair_inj (·.1) (hids.imp fun h e=>by omega) h1 hd (of_decide_eq_true e)]
  exact h2
 .intro h
  refine⟨d.1,zab.2 ⟨(d.1,valS N N c s d q),?_,rfl⟩,zb rfl⟩
  refine zbs.2 ⟨d,hd,?_⟩
  unfold hitP
  rw[zb h]
  rfl
theorem keys_def (N:Nat) (hN:20<=N) {b:List Int} {k:Int} {j:Nat} (h:Rdr b k j) (hj:j<=5000):Def (s_l30Keys_m N b k) fun r=>True:=by
 unfold s_l30Keys_m
 refine Def.bind (pick_def N 3 h (by omega)) fun r ⟨p0,p1,_,h1⟩=>?_
 have p1:=p1 (by omega)
 refine Def.iter (fun g=>∃(out:List (List UInt8×Bool)) (n:Nat) (x:List Int) (y:Int),n<=3/\out.length+n<=3/\Rdr x y (j+1+2*(3-n))/\g=(out,(n:Int),x,y)) (fun g=>g.2.1.toNat) ?_ N _ ⟨[],r.1.toNat,_,_,by omega,by simp;omega,h1.le (by omega),by rw[zbU p0]⟩ (by show r.1.toNat<N;omega)
 rintro go _ ⟨out,n,x,y,hn,hl,hr,rfl⟩ hgo
 dsimp only
 refine Def.dif (fun e=>?_) (fun e=>?_)
 .refine Def.bind (of_def N (by decide) hr (by omega)) fun r2 ⟨_,h2⟩=>?_
  refine Def.bind (pick_def N 2 h2 (by omega)) fun r3 ⟨_,_,_,h3⟩=>?_
  refine Def.ite (room_of (by rw[zbE];omega) (by rw[zbE];omega)) (Def.ite (by unfold fits;omega) (hgo _ ⟨out++ [(r2.1,decide (r3.1=0))],n-1,_,_,by omega,by rw[zam,zbE];omega,h3.le (by omega),by rw[show((n-1:Nat):Int)=(n:Int)-1 from by omega]⟩ (by show((n:Int)-1).toNat<(n:Int).toNat;omega)))
 .refine Def.bind (pick_def N 12 hr (by omega)) fun r4 ⟨_,_,_,h4⟩=>?_
  refine Def.dif (fun _=>?_) (fun _=>Def.ret True.intro)
  refine Def.bind (of_def N (by decide) h4 (by omega)) fun r5 ⟨_,h5⟩=>?_
  exact Def.ite (room_of (by rw[zbE];omega) (by rw[zbE];omega)) (Def.ret True.intro)
theorem drawSortOf_def (N:Nat) (hM:Sm<N) {code:List Int} (hb:Bs code):Def (s_DrawSortOf_m N code) fun r=>(∀d,d∈r.1->okD Sm TDoc d)/\r.1.length<=7:=by
 have hM':1048576<N:=hM
 unfold s_DrawSortOf_m
 refine Def.bind (open_def N hb) fun r h0=>?_
 refine Def.bind (anyDocs_def N hM h0 (by omega)) fun r2 ⟨D,h2⟩=>?_
 refine Def.bind (keys_def N (by omega) h2 (by omega)) fun r3 _=>Def.ret D
def fewD (id:Int) (l:List EDoc):List EDoc:=l.filter fun x=> !decide (x.1=id)
theorem fewD_take (id:Int) (l:List EDoc) {n:Nat} (h:n<l.length):fewD id (l.take (n+1))=bif !decide (l[n].1=id)then fewD id (l.take n)++ [l[n]]else fewD id (l.take n):=by
 unfold fewD
 rw[zo h,za6]
 cases e:decide (l[n].1=id)<;>simp[e]
theorem fewD_len (id:Int) (l:List EDoc):(fewD id l).length<=l.length:=zbh _ _
theorem fewD_ok {id:Int} {l:List EDoc} (h:okDocs l=true):okDocs (fewD id l)=true:=by
 have hd:=okDocs_ok h
 refine okDocs_of _ (fun x hx=>okDoc_each h x (zaZ.1 hx).1) (hd.inn.ids.sublist List.filter_sublist) ?_
 have:=fewD_len id l
 have:=hd.few
 omega
theorem fewD_ne {id:Int} {l:List EDoc}:∀x,x∈fewD id l->x.1≠id:=fun x hx e=>by
 have:=(zaZ.1 hx).2
 rw[zb e]at this
 cases this
theorem fnAlertMany_gen (N:Nat) (hM:Sm<N) (hN:N<=16777216) (code more:List Int) (hb:Bs code) (hb2:Bs more):l_FnAlertMany_m N code more=some true:=by
 have hM':1048576<N:=hM
 refine Def.get ?_
 unfold l_FnAlertMany_m
 refine Def.dif (fun e=>Def.ret rfl) (fun e=>?_)
 refine Def.dif (fun e=>Def.ret rfl) (fun e2=>?_)
 refine Def.bind (drawAlertOf_def N hM' hb) fun r ⟨⟨al,ag⟩,oc,od⟩=>?_
 obtain⟨xs,c1,c2,d1,d2,d3⟩:=r
 dsimp only at al ag oc od⊢
 have F:FitA N xs (c1,c2) (d1,d2,d3):=⟨hM,hN,oc,od,by omega,ag⟩
 have t1:=alertOf_i F
 have t2:=alertOf_s F
 have hL:=alR_len N xs (c1,c2) (d1,d2,d3)
 have t3:=foTexts_same N hM' (alR N xs (c1,c2) (d1,d2,d3)) (by omega)
 have t4:=al_impl N hM (by omega) xs F.len ag
 have t6:=confOk_spec N hM (by omega) (c1,c2) oc
 have t7:=docOk_spec N hM (by omega) d1 d2 d3 od
 dsimp only at t1 t2 t6
 rw[t1,za]
 refine Def.bind (drawSortOf_def N hM hb2) fun r3 ⟨dd,dl⟩=>?_
 obtain⟨docs,keys⟩:=r3
 dsimp only at dd dl⊢
 have t8:=docsOk_spec N hM (by omega) docs dd (by omega)
 rw[t2,za,t3,za,zn,ze,t4,za]
 cases ha:okAls xs with
 |false=>
  rw[zaI,zg,za,t3,za]
  exact Def.ret rfl
 |true=>
 rw[zn,ze,t6,za]
 cases hc:okConf (c1,c2)with
 |false=>
  rw[zaI,zg,za,t3,za]
  exact Def.ret rfl
 |true=>
 rw[zn,ze,t7,za]
 cases hd:okDoc (d1,d2,d3)with
 |false=>
  rw[zaI,zg,za,t3,za]
  exact Def.ret rfl
 |true=>
 rw[zn,ze,t8,za]
 cases hds:okDocs docs with
 |false=>
  rw[zaI,zg,za,t3,za]
  exact Def.ret rfl
 |true=>
 have n1:=indexNew_i hM hN (c1,c2) oc
 rw[hc,zg]at n1
 dsimp only at n1
 rw[zn,ze,n1,za]
 dsimp only
 have F0:FitI N ((c1,c2),[]):=⟨hM,hN,oc,zaf _,fun l hl=>by cases hl⟩
 have o1:∀x,x∈ [((d1,d2,d3):EDoc)]->okD Sm TDoc x:=fun x hx=>by rw[zaD.1 hx];exact od
 have i1:=indexAdd_i F0 o1 (by rw[zbE];omega)
 have FX:=addR_fit F0 o1
 obtain⟨ex,kx⟩:=add_first hc hd
 rw[ex]at i1 FX
 dsimp only at i1 FX
 rw[i1,za]
 dsimp only
 have hA:alR N xs (c1,c2) (d1,d2,d3)=alT N (c1,c2) (d1,d2,d3) xs:=by unfold alR alT;rw[ha,hc,hd];rfl
 rw[hA]at hL⊢
 have more:=fun few hf hn h0 hl=>add_more (few:=few) hc hd hf hn h0 hl
 generalize hX:addY [(d1,d2,d3)] ((c1,c2),[])=X at*
 have hXc:X.1=(c1,c2):=by rw[<-hX];rfl
 refine Def.upto docs.length (fun n g=>g=(xs,alT N (c1,c2) (d1,d2,d3) xs,docs,true,fewD d1 (docs.take n),(n:Int),c1,c2,d1,d2,d3,X.1.1,X.1.2,X.2)) ?_ ?_ N 0 _ (zaf _) rfl (by omega)
 .rintro go _ rfl
  dsimp only
  rw[zd (zm _),ze,zq]
  have of:∀x,x∈fewD d1 docs->okD Sm TDoc x:=fun x hx=>dd x (zaZ.1 hx).1
  have fl:=fewD_len d1 docs
  have i2:=indexAdd_i FX of (by omega)
  have FY:=addR_fit FX of
  rw[i2,za,zn,ze]
  dsimp only
  by_cases h0:0<(fewD d1 docs).length
  .obtain ⟨kY,dY⟩:=more (fewD d1 docs) (fewD_ok hds) fewD_ne h0 (by omega)
   have eY:=addR_of kx (fewD_ok (id:=d1) hds) h0 kY
   rw[eY]at FY⊢
   dsimp only at FY⊢
   have hYc:(addY (fewD d1 docs) X).1=(c1,c2):=hXc
   generalize addY (fewD d1 docs) X=Y at*
   have u1:=indexDocs_ok FY kY
   have u2:=segX_i FY kY
   have hsY:=segX_ok kY
   rw[hYc]at u2 hsY
   dsimp only at u2
   rw[zn,ze,u1,za,u2,za]
   obtain⟨hl6,he⟩:=okAls_each ha
   refine Def.upto xs.length (fun n g=>g=(xs,alT N (c1,c2) (d1,d2,d3) xs,(n:Int),c1,c2,d1,d2,d3,(segX Y).1,(segX Y).2)) ?_ ?_ N 0 _ (zaf _) rfl (by omega)
   .rintro go _ rfl
    dsimp only
    rw[zd (zm _),ze]
    exact Def.ret rfl
   .rintro go n _ hn rfl hgo
    dsimp only
    have hm:=zr hn
    have hq:=(he _ hm).2
    have hbq:=(ag _ hm).2
    have p1:=foPlain_spec N hM' 4 _ hq hbq N (by omega)
    have next:=hgo _ (by rw[cast_succ'])
    rw[zb (by omega:(n:Int)<xs.length),zg,idx_at hn,za,p1,za]
    cases hpl:plainQ 4 xs[n].2 with
    |false=>
     rw[ze]
     exact Def.ite (fits_nat (n:=n) (by omega)) next
    |true=>
     have fY:=FY.fit kY hbq
     rw[hYc]at fY
     have m1:=match_i fY
     have m2:=match_has (N:=N) hsY hq dY
     have m3:=name_told (N:=N) (c:=(c1,c2)) (d:=(d1,d2,d3)) ha hm
     have T:Twin N (c1,c2) (segX Y) (oneS (c1,c2) (d1,d2,d3)) (d1,d2,d3):=
      ⟨fY.good hsY,(F.fit hm).good (okSeg_one hc hd),docOf_self (okSeg_ok hsY).2.1.inn.ids _ dY,docOf_one _⟩
     have va:=val_alike N T 4 (zae _) _ hq hpl N (by omega)
     have hml:(matchR N (c1,c2) (segX Y) xs[n].2).length<=16:=by
      unfold matchR
      rw[zar]
      exact hitsR_len _ _ _ _ _
     have eb:alP N (c1,c2) (d1,d2,d3) xs[n]=decide (0<valS N N (c1,c2) (segX Y) (d1,d2,d3) xs[n].2):=by
      show decide (0<valS N N (c1,c2) (oneS (c1,c2) (d1,d2,d3)) (d1,d2,d3) xs[n].2)=_
      exact decide_eq_decide.2 va.symm
     dsimp only at m1 m2 m3
     rw[zg,za,m1,za,foIn_spec N _ d1 (by omega) (by omega),m2,za,za,foHas_spec N _ _ (by omega) (by omega),m3,eb,za,beq_self_eq_true,zn,ze]
     exact Def.ite (fits_nat (n:=n) (by omega)) next
  .have eY:addR (fewD d1 docs) X=(X,false):=by
    unfold addR
    rw[kx,zg,zd h0,Bool.and_false,ze]
   rw[eY]
   dsimp only
   rw[zaI,zg,zg]
   exact Def.ret (zb (by omega))
 .rintro go n _ hn rfl hgo
  dsimp only
  have hl:=fewD_len d1 (docs.take n)
  rw[zah]at hl
  have ht:=fewD_take d1 docs hn
  rw[zb (by omega:(n:Int)<docs.length),zg,idx_at hn,za]
  cases hv:decide (docs[n].1=d1)with
  |false=>
   rw[hv,zaI,zg]at ht
   rw[zaI,zg,za]
   exact Def.ite (room_of (by rw[zbE];omega) (by rw[zbE];omega)) (Def.ite (fits_nat (n:=n) (by omega)) (hgo _ (by rw[ht,cast_succ'])))
  |true=>
   rw[hv,zn,ze]at ht
   rw[zn,ze]
   exact Def.ite (fits_nat (n:=n) (by omega)) (hgo _ (by rw[ht,cast_succ']))
theorem fnAlertMany_law (x0 x1:List Int) (o0:okD BigN (.sl (.int .u8)) x0) (o1:okD BigN (.sl (.int .u8)) x1):l_FnAlertMany_m 1048700 x0 x1=some true:=fnAlertMany_gen 1048700 (by decide) (by decide) x0 x1 (bytes_ok o0) (bytes_ok o1)
end Go.Proofs.YtchgdmmcjgmfcaaGreatDoor
