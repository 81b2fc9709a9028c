import Derived.Test.YtchgdmmcjgmfcaaGreatDoorP1
import Derived.Test.YtchgdmmcjgmfcaaGreatDoorSC
import Derived.Test.YtchgdmmcjgmfcaaGreatDoorSE
import Derived.Test.YtchgdmmcjgmfcaaGreatDoorSF
set_option linter.unusedVariables false
set_option linter.unusedSimpArgs false
namespace Go.Proofs.YtchgdmmcjgmfcaaGreatDoor
open Go.RowKit
theorem ju3 {Y:Type} (xs:List Y) (n:Nat) (h:n<=xs.length):cut xs 0 (n:Int)=some (xs.take n):=by
 unfold cut
 rw[zf (by omega)]
 simp
theorem juD (N:Nat) (code:List Int) (hb:Bs code):∃y,jt0 N code=some (y,0)/\Bs y/\y.length<=2000:=by
 unfold jt0
 by_cases h:(2000:Int)<code.length
 .simp only [h,decide_true,zg]
  rw[show(2000:Int)=((2000:Nat):Int)from rfl,ju3 code 2000 (by omega)]
  exact⟨_,rfl,fun x hx=>hb x (zaP hx),by simp;omega⟩
 .simp only [h,decide_false,ze]
  exact⟨_,rfl,hb,by omega⟩
def Rdr (b:List Int) (k:Int) (j:Nat):Prop:=Bs b/\b.length<=2000/\0<=k/\k<=j
theorem Rdr.le {b:List Int} {k:Int} {j j':Nat} (h:Rdr b k j) (hj:j<=j'):Rdr b k j':=⟨h.1,h.2.1,h.2.2.1,by have:=h.2.2.2;omega⟩
theorem pick_def (N:Nat) (n:Int) {b:List Int} {k:Int} {j:Nat} (h:Rdr b k j) (hj:j<=1000000):Def (jtW N n b k) fun r=>0<=r.1/\(1<=n->r.1<n)/\(n<1->r.1=0)/\Rdr r.2.1 r.2.2 (j+1):=by
 obtain⟨v,h1,h2,h3,h4⟩:=juF N n b k h.1 h.2.2.1 (by have:=h.2.2.2;omega) h.2.1
 exact⟨_,h1,h2,h3,h4,h.1,h.2.1,by have:=h.2.2.1;show(0:Int)<=k+1;omega,by have:=h.2.2.2;show k+1<=((j+1:Nat):Int);omega⟩
theorem of_def (N:Nat) {l:List (List UInt8)} {b:List Int} {k:Int} {j:Nat} (hl:0<l.length) (h:Rdr b k j) (hj:j<=1000000):Def (jtY N l b k) fun r=>r.1∈l/\Rdr r.2.1 r.2.2 (j+1):=by
 unfold jtY
 refine Def.bind (pick_def N _ h hj) fun r ⟨h0,h1,_,h3⟩=>?_
 exact Def.idx h0 (h1 (by omega)) fun x hx _=>Def.ret ⟨hx,h3⟩
theorem open_def (N:Nat) {code:List Int} (hb:Bs code):Def (jt0 N code) fun r=>Rdr r.1 r.2 0:=by
 obtain⟨y,h1,h2,h3⟩:=juD N code hb
 exact⟨_,h1,h2,h3,zbD _,zbD _⟩
def okC (c:UInt8):Bool:=decide (32<=c.toNat)&&decide (c.toNat<=126)
def okS (n:Nat) (s:List UInt8):Bool:=s.all okC&&decide (s.length<=n)
theorem juf {n m:Nat} {s t:List UInt8} (h:okS n s=true) (k:okS m t=true):okS (n+m) (s++t)=true:=by
 unfold okS at*
 simp only[zj,zw,List.all_append,zam]at*
 exact⟨⟨h.1,k.1⟩,by omega⟩
theorem jue {n m:Nat} {s:List UInt8} (h:okS n s=true) (hm:n<=m):okS m s=true:=by
 unfold okS at*
 simp only[zj,zw]at*
 exact⟨h.1,by omega⟩
theorem okS_len {n:Nat} {s:List UInt8} (h:okS n s=true):s.length<=n:=by
 unfold okS at h
 simp only[zj,zw]at h
 exact h.2
theorem ju7 (N:Nat) {b:List Int} {k:Int} {j:Nat} (h:Rdr b k j) (hj:j<=100000):Def (jt1 N b k) fun r=>okS 17 r.1=true/\Rdr r.2.1 r.2.2 (j+1):=by
 unfold jt1
 refine Def.bind (of_def N (by decide) h (by omega)) fun r ⟨m1,h1⟩=>Def.ret ⟨?_,h1⟩
 exact(by decide:∀w,w∈([([99,97,116]:List UInt8),([67,97,116,115]:List UInt8),([100,111,103]:List UInt8),([100,111,103,115]:List UInt8),([114,117,110]:List UInt8),([82,85,78,78,73,78,71]:List UInt8),([116,104,101]:List UInt8),([114,101,100]:List UInt8),([98,105,103]:List UInt8),([110,101,119,32,121,111,114,107]:List UInt8),([78,101,119,32,32,89,111,114,107]:List UInt8),([110,121]:List UInt8),([102,111,120]:List UInt8),([112,97,115,115,101,100]:List UInt8),([120,49]:List UInt8),([97,118,101,114,121,118,101,114,121,108,111,110,103,119,111,114,100]:List UInt8)]:List (List UInt8))->okS 17 w=true) _ m1
theorem text_def (N:Nat) {b:List Int} {k:Int} {j:Nat} (h:Rdr b k j) (hj:j<=10000) (hN:20<=N):Def (jtZ N b k) fun r=>okS 160 r.1=true/\Rdr r.2.1 r.2.2 (j+30):=by
 unfold jtZ
 refine Def.bind (pick_def N 9 h (by omega)) fun r ⟨p0,p1,_,h1⟩=>?_
 have p1:=p1 (by omega)
 refine Def.iter (fun g=>∃s:List UInt8,∃n:Nat,∃x y,n<=8/\okS (19*(8-n)) s=true/\Rdr x y (j+1+2*(8-n))/\g=(s,(n:Int),x,y)) (fun g=>g.2.1.toNat) ?_ N _ ⟨[],r.1.toNat,_,_,by omega,by unfold okS;simp,h1.le (by omega),by rw[zbU p0]⟩ (by show r.1.toNat<N;omega)
 rintro go _ ⟨s,n,x,y,hn,hs,hr,rfl⟩ hgo
 dsimp only
 have hsl:=okS_len hs
 refine Def.dif (fun e=>?_) (fun e=>Def.ret ⟨jue hs (by omega),hr.le (by omega)⟩)
 refine Def.bind (ju7 N hr (by omega)) fun r2 ⟨l2,h2⟩=>?_
 have hl2:=okS_len l2
 refine Def.ite (by omega) ?_
 refine Def.bind (of_def N (by decide) h2 (by omega)) fun r3 ⟨m3,h3⟩=>?_
 have l3:okS 2 r3.1=true:=(by decide:∀w,w∈([([32]:List UInt8),([32]:List UInt8),([44,32]:List UInt8),([45]:List UInt8),([46,32]:List UInt8)]:List (List UInt8))->okS 2 w=true) _ m3
 have hl3:=okS_len l3
 refine Def.ite (by rw[zam];omega) (Def.ite (by unfold fits;omega) (hgo _ ⟨(s++r2.1)++r3.1,n-1,_,_,by omega,jue (juf (juf hs l2) l3) (by omega),h3.le (by omega),?_⟩ ?_))
 .rw [show((n:Int)-1)=((n-1:Nat):Int)from by omega]
 .show ((n:Int)-1).toNat<(n:Int).toNat
  omega
structure SmallDoc (fs:List EField) (ats:List EAttr) (n:Nat):Prop where
 fl:fs.length<=n
 al:ats.length<=n
 f:∀x,x∈fs->x.1.length<=1000/\x.2.length<=1000
 a:∀x,x∈ats->x.1.length<=4/\ -1<=x.2/\x.2<=1000000000
theorem SmallDoc.ok {fs:List EField} {ats:List EAttr} {n:Nat} (h:SmallDoc fs ats n) (hn:n<=1000) {id:Int} (h0:0<=id/\id<=1000000):okD Sm TDoc (id,fs,ats):=by
 have e1:IntKind.i64.min=-9223372036854775808:=by decide
 have e2:IntKind.i64.max=9223372036854775807:=by decide
 have hfl:=h.fl;have hal:=h.al
 refine⟨⟨by rw[e1];show _<=id;omega,by rw[e2];show id<=_;omega⟩,⟨by show fs.length<=1048576;omega,fun x hx=>?_⟩,⟨by show ats.length<=1048576;omega,fun x hx=>?_⟩⟩
 .have:=h.f x hx
  exact⟨by show x.1.length<=1048576;omega,by show x.2.length<=1048576;omega⟩
 .have:=h.a x hx
  exact⟨by show x.1.length<=1048576;omega,by rw[e1];exact Int.le_trans (by decide) this.2.1,by rw[e2];exact Int.le_trans this.2.2 (by decide)⟩
theorem SmallDoc.addF {fs:List EField} {ats:List EAttr} {n:Nat} (h:SmallDoc fs ats n) {x:EField} (h1:x.1.length<=1000) (h2:x.2.length<=1000):SmallDoc (fs++ [x]) ats (n+1):=by
 have hfl:=h.fl;have hal:=h.al
 refine⟨by simp only[zam,zi,zac];omega,by omega,fun y hy=>?_,h.a⟩
 rcases zaB.1 hy with hy|hy
 .exact h.f y hy
 .rw [zaD.1 hy];exact⟨h1,h2⟩
theorem SmallDoc.addA {fs:List EField} {ats:List EAttr} {n:Nat} (h:SmallDoc fs ats n) {x:EAttr} (h1:x.1.length<=4) (h2: -1<=x.2) (h3:x.2<=1000000000):SmallDoc fs (ats++ [x]) (n+1):=by
 have hfl:=h.fl;have hal:=h.al
 refine⟨by omega,by simp only[zam,zi,zac];omega,h.f,fun y hy=>?_⟩
 rcases zaB.1 hy with hy|hy
 .exact h.a y hy
 .rw [zaD.1 hy];exact⟨h1,h2,h3⟩
theorem SmallDoc.le {fs:List EField} {ats:List EAttr} {n m:Nat} (h:SmallDoc fs ats n) (hm:n<=m):SmallDoc fs ats m:=⟨zau h.fl hm,zau h.al hm,h.f,h.a⟩
theorem SmallDoc.nil :SmallDoc [] [] 0:=⟨zae _,zae _,(fun x hx=>by cases hx),(fun x hx=>by cases hx)⟩
theorem SmallDoc.room {n:Nat} {b:Nat} (hn:n<=1000) (hb:b<=1000):room n 1 b:=by
 have:(n+1)*b<=1001*1000:=zbX (by omega) hb
 exact room_of (by omega) (by omega)
abbrev nBody :List UInt8:=[98,111,100,121]
abbrev nTitle :List UInt8:=[116,105,116,108,101]
structure FG (fs:List EField) (ns:List (List UInt8)):Prop where
 names:(fs.map (·.1)).Sublist ns
 texts:∀x,x∈fs->okS 160 x.2=true
theorem FG.add {fs:List EField} {ns:List (List UInt8)} (h:FG fs ns) (n t:List UInt8) (ht:okS 160 t=true):FG (fs++ [(n,t)]) (ns++ [n]):=by
 refine⟨?_,fun x hx=>?_⟩
 .rw [zaK]
  exact List.Sublist.append h.names (List.Sublist.refl _)
 .rcases zaB.1 hx with hx|hx
  .exact h.texts x hx
  .rw [zaD]at hx;subst hx;exact ht
theorem FG.skip {fs:List EField} {ns:List (List UInt8)} (h:FG fs ns) (n:List UInt8):FG fs (ns++ [n]):=⟨h.names.trans (List.sublist_append_left _ _),h.texts⟩
theorem doc_def (N:Nat) (id:Int) {b:List Int} {k:Int} {j:Nat} (h:Rdr b k j) (hj:j<=9000) (hN:20<=N):Def (s_l30Doc_m N id b k) fun r=>r.1=id/\(SmallDoc r.2.1 r.2.2.1 4/\FG r.2.1 [nBody,nTitle]/\r.2.2.1.length<=2)/\Rdr r.2.2.2.1 r.2.2.2.2 (j+100):=by
 unfold s_l30Doc_m
 refine Def.meet (fun g=>∃fs x y,SmallDoc fs [] 1/\FG fs [nBody]/\Rdr x y (j+31)/\g=(0,id,fs,x,y)) ?_ fun J hJ=>?_
 .rintro _ ⟨fs,x,y,hs,hg,hr,rfl⟩
  dsimp only
  refine Def.meet (fun g=>∃fs x y,SmallDoc fs [] 2/\FG fs [nBody,nTitle]/\Rdr x y (j+65)/\g=(0,id,fs,x,y)) ?_ fun J hJ=>?_
  .rintro _ ⟨fs,x,y,hs,hg,hr,rfl⟩
   dsimp only
   refine Def.meet (fun g=>∃fs ats x y,SmallDoc fs ats 3/\(FG fs [nBody,nTitle]/\ats.length<=1)/\Rdr x y (j+70)/\g=(0,id,fs,ats,x,y)) ?_ fun J hJ=>?_
   .rintro _ ⟨fs,ats,x,y,hs,⟨hg,ha⟩,hr,rfl⟩
    dsimp only
    refine Def.bind (pick_def N 3 hr (by omega)) fun r7 ⟨_,_,_,h7⟩=>?_
    refine Def.dif (fun _=>?_) (fun _=>Def.ret ⟨rfl,⟨hs.le (by omega),hg,by dsimp only;omega⟩,h7.le (by omega)⟩)
    refine Def.bind (pick_def N 30 h7 (by omega)) fun r8 ⟨q0,q1,_,h8⟩=>?_
    have q1:=q1 (by omega)
    have hal:=hs.al
    exact Def.ite (by unfold fits;omega) (Def.ite (SmallDoc.room (by omega) (by omega)) (Def.ret ⟨rfl,⟨hs.addA (by simp) (by dsimp only;omega) (by dsimp only;omega),hg,by simp only[zam,zi,zac];omega⟩,h8.le (by omega)⟩))
   .refine Def.bind (pick_def N 3 hr (by omega)) fun r5 ⟨_,_,_,h5⟩=>?_
    refine Def.dif (fun _=>?_) (fun _=>hJ _ ⟨_,_,_,_,hs.le (by omega),⟨hg,by simp⟩,h5.le (by omega),rfl⟩)
    refine Def.bind (pick_def N 4 h5 (by omega)) fun r6 ⟨q0,q1,_,h6⟩=>?_
    have q1:=q1 (by omega)
    exact Def.ite (SmallDoc.room (by simp) (by omega)) (hJ _ ⟨_,_,_,_,hs.addA (x:=(([114,97,116,101]:List UInt8),r6.1)) (by simp) (by dsimp only;omega) (by dsimp only;omega),⟨hg,by simp⟩,h6.le (by omega),rfl⟩)
  .refine Def.bind (pick_def N 3 hr (by omega)) fun r3 ⟨_,_,_,h3⟩=>?_
   refine Def.dif (fun _=>?_) (fun _=>hJ _ ⟨_,_,_,hs.le (by omega),hg.skip nTitle,h3.le (by omega),rfl⟩)
   refine Def.bind (text_def N h3 (by omega) hN) fun r4 ⟨l4,h4⟩=>?_
   have hfl:=hs.fl
   have hl4:=okS_len l4
   exact Def.ite (SmallDoc.room (by omega) (by omega)) (hJ _ ⟨_,_,_,hs.addF (x:=(([116,105,116,108,101]:List UInt8),r4.1)) (by simp) (by dsimp only;omega),hg.add nTitle _ l4,h4.le (by omega),rfl⟩)
 .refine Def.bind (pick_def N 6 h (by omega)) fun r ⟨_,_,_,h1⟩=>?_
  have g0:FG [] []:=⟨List.Sublist.refl _,fun x hx=>by cases hx⟩
  refine Def.dif (fun _=>?_) (fun _=>hJ _ ⟨_,_,_,SmallDoc.nil.le (by omega),g0.skip nBody,h1.le (by omega),rfl⟩)
  refine Def.bind (text_def N h1 (by omega) hN) fun r2 ⟨l2,h2⟩=>?_
  have hl2:=okS_len l2
  exact Def.ite (SmallDoc.room (by simp) (by omega)) (hJ _ ⟨_,_,_,SmallDoc.nil.addF (x:=(([98,111,100,121]:List UInt8),r2.1)) (by simp) (by dsimp only;omega),g0.add nBody _ l2,h2.le (by omega),rfl⟩)
structure DrawnDocs (docs:List EDoc) (m:Int):Prop where
 few:docs.length<=6
 ids:docs.Pairwise fun a b=>a.1<b.1
 top:∀d,d∈docs->1<=d.1/\d.1<=m
 each:∀d,d∈docs->okD Sm TDoc d/\FG d.2.1 [nBody,nTitle]/\d.2.2.length<=2
theorem docs_def (N:Nat) {b:List Int} {k:Int} {j:Nat} (h:Rdr b k j) (hj:j<=8000) (hN:20<=N):Def (s_l30Docs_m N b k) fun r=>DrawnDocs r.1 100/\Rdr r.2.1 r.2.2 (j+700):=by
 unfold s_l30Docs_m
 refine Def.bind (pick_def N 6 h (by omega)) fun r ⟨p0,p1,_,h1⟩=>?_
 have p1:=p1 (by omega)
 refine Def.iter (fun g=>∃out:List EDoc,∃id:Int,∃n:Nat,∃x y,n<=6/\out.length+n<=6/\(0<=id/\id<=4*(6-n))/\DrawnDocs out id/\Rdr x y (j+1+110*(6-n))/\g=(out,id,(n:Int),x,y)) (fun g=>g.2.2.1.toNat) ?_ N _ ⟨[],0,r.1.toNat,_,_,by omega,by simp;omega,by omega,⟨by simp,za4,(fun z hz=>by cases hz),(fun z hz=>by cases hz)⟩,h1.le (by omega),by rw[zbU p0]⟩ (by show r.1.toNat<N;omega)
 rintro go _ ⟨out,id,n,x,y,hn,hl,hid,ho,hr,rfl⟩ hgo
 dsimp only
 refine Def.dif (fun e=>?_) (fun e=>Def.ret ⟨⟨ho.few,ho.ids,fun d hd=>⟨(ho.top d hd).1,by have:=(ho.top d hd).2;omega⟩,ho.each⟩,hr.le (by omega)⟩)
 refine Def.ite (by unfold fits;omega) ?_
 refine Def.bind (pick_def N 3 hr (by omega)) fun r2 ⟨q0,q1,_,h2⟩=>?_
 have q1:=q1 (by omega)
 refine Def.ite (by unfold fits;omega) ?_
 refine Def.bind (doc_def N _ h2 (by omega) hN) fun r3 ⟨e3,s3,h3⟩=>?_
 refine Def.ite (room_of (by simp;omega) (by simp;omega)) (Def.ite (by unfold fits;omega) (hgo _ ⟨out++ [(r3.1,r3.2.1,r3.2.2.1)],id+1+r2.1,n-1,_,_,by omega,?_,by omega,⟨?_,?_,fun z hz=>?_,fun z hz=>?_⟩,h3.le (by omega),?_⟩ ?_))
 .simp only [zam,zi,zac];omega
 .simp only [zam,zi,zac];omega
 .refine List.pairwise_append.2 ⟨ho.ids,by simp,fun a ha b hb=>?_⟩
  rw[zaD]at hb
  subst hb
  have:=(ho.top a ha).2
  show a.1<r3.1
  omega
 .rcases zaB.1 hz with hz|hz
  .have:=ho.top z hz;omega
  .rw [zaD]at hz;subst hz;dsimp only;omega
 .rcases zaB.1 hz with hz|hz
  .exact ho.each z hz
  .rw [zaD.1 hz];exact⟨s3.1.ok (by omega) (by rw[e3];omega),s3.2.1,s3.2.2⟩
 .rw [show((n:Int)-1)=((n-1:Nat):Int)from by omega]
 .show ((n:Int)-1).toNat<(n:Int).toNat
  omega
def okSynW' (st:List (List UInt8)) (w:List UInt8):Bool:=okW w&&(decide (once w=none)&& !decide (w∈st))
def okSyn' (st:List (List UInt8)) (y:ESyn):Bool:=(decide ((1:Int)<=y.1.length)&&decide ((y.1.length:Int)<=3))&&(okW y.2&&(decide (once y.2=none)&&y.1.all (okSynW' st)))
def okConf' (c:EConf):Bool:=decide ((c.1.length:Int)<=6)&&(allN c.1.length (okUp c.1)&&(decide ((c.2.length:Int)<=4)&&c.2.all (okSyn' c.1)))
theorem okConf_of (c:EConf) (h:okConf' c=true):okConf c=true:=by
 unfold okConf' at h
 unfold okConf
 simp only[zj,zw,zax]at h⊢
 refine⟨h.1,h.2.1,h.2.2.1,fun y hy=>?_⟩
 have h1:=h.2.2.2 y hy
 unfold okSyn' at h1
 unfold okSyn
 simp only[zj,zw,zax]at h1⊢
 refine⟨h1.1,h1.2.1,stemF_none h1.2.2.1,fun w hw=>?_⟩
 have h2:=h1.2.2.2 w hw
 unfold okSynW' at h2
 unfold okSynW
 simp only[zj,zw]at h2⊢
 exact⟨h2.1,stemF_none h2.2.1,h2.2.2⟩
def fewC (c:EConf):Bool:=decide (c.1.length<=10)&&c.1.all (fun w=>decide (w.length<=20))&&decide (c.2.length<=10)&&c.2.all (fun y=>decide (y.1.length<=10)&&y.1.all (fun w=>decide (w.length<=20))&&decide (y.2.length<=20))
theorem fewC_ok (c:EConf) (h:fewC c=true):okD Sm TConf c:=by
 unfold fewC at h
 simp only[zj,zw,zax]at h
 obtain⟨⟨⟨h1,h2⟩,h3⟩,h4⟩:=h
 refine⟨⟨by show c.1.length<=1048576;omega,fun x hx=>by have:=h2 x hx;show x.length<=1048576;omega⟩,⟨by show c.2.length<=1048576;omega,fun y hy=>?_⟩⟩
 have h5:=h4 y hy
 exact⟨⟨by show y.1.length<=1048576;omega,fun x hx=>by have:=h5.1.2 x hx;show x.length<=1048576;omega⟩,by show y.2.length<=1048576;omega⟩
def stops3 :List (List (List UInt8)):=[[],[[116,104,101]],[[100,111,103],[116,104,101]]]
def syns3 :List (List ESyn):=[[],[([[110,101,119],[121,111,114,107]],[110,121])],[([[98,105,103]],[108,97,114,103]),([[98,105,103],[114,101,100],[102,111,120]],[102,111,120]),([[110,101,119],[121,111,114,107]],[110,121])]]
theorem confs_ok :∀s,s∈stops3->∀y,y∈syns3->okConf' (s,y)=true/\fewC (s,y)=true:=by decide+kernel
theorem conf_def (N:Nat) {b:List Int} {k:Int} {j:Nat} (h:Rdr b k j) (hj:j<=10000):Def (s_l30Conf_m N b k) fun r=>(okConf (r.1,r.2.1)=true/\okD Sm TConf (r.1,r.2.1))/\Rdr r.2.2.1 r.2.2.2 (j+3):=by
 have fin:∀s y,s∈stops3->y∈syns3->okConf (s,y)=true/\okD Sm TConf (s,y):=fun s y hs hy=>⟨okConf_of _ (confs_ok s hs y hy).1,fewC_ok _ (confs_ok s hs y hy).2⟩
 unfold s_l30Conf_m
 refine Def.meet (fun g=>∃c x y,c∈stops3/\Rdr x y (j+1)/\g=(c,x,y)) ?_ fun J hJ=>?_
 .rintro _ ⟨c,x,y,hc,hr,rfl⟩
  dsimp only
  refine Def.meet (fun g=>∃c x y,c∈stops3/\Rdr x y (j+2)/\g=(c,x,y)) ?_ fun J hJ=>?_
  .rintro _ ⟨c,x,y,hc,hr,rfl⟩
   dsimp only
   refine Def.bind (pick_def N 4 hr (by omega)) fun r3 ⟨_,_,_,h3⟩=>?_
   refine Def.dif (fun _=>Def.ret ⟨fin _ _ hc (by simp[syns3]),h3⟩) (fun _=>?_)
   exact Def.dif (fun _=>Def.ret ⟨fin _ _ hc (by simp[syns3]),h3⟩) (fun _=>Def.ret ⟨fin _ _ hc (by simp[syns3]),h3⟩)
  .refine Def.bind (pick_def N 4 hr (by omega)) fun r2 ⟨_,_,_,h2⟩=>?_
   exact Def.dif (fun _=>hJ _ ⟨_,_,_,by decide,h2,rfl⟩) (fun _=>hJ _ ⟨_,_,_,hc,h2,rfl⟩)
 .refine Def.bind (pick_def N 3 h (by omega)) fun r ⟨_,_,_,h1⟩=>?_
  exact Def.dif (fun _=>hJ _ ⟨_,_,_,by decide,h1,rfl⟩) (fun _=>hJ _ ⟨_,_,_,by decide,h1,rfl⟩)
structure Drawn (c:EConf) (s:ESeg):Prop where
 conf:okD Sm TConf c
 docs:∀x,x∈s.1->okD Sm TDoc x
 few:s.1.length<=1048576
theorem one_def (N:Nat) {l:List Int} {b:List Int} {k:Int} {j:Nat} (hl:0<l.length) (h:Rdr b k j) (hj:j<=1000000):Def (s_l30Rd_one_m N l b k) fun r=>r.1∈l/\Rdr r.2.1 r.2.2 (j+1):=by
 unfold s_l30Rd_one_m
 refine Def.bind (pick_def N _ h hj) fun r ⟨h0,h1,_,h3⟩=>?_
 exact Def.idx h0 (h1 (by omega)) fun x hx _=>Def.ret ⟨hx,h3⟩
theorem anyText_def (N:Nat) {b:List Int} {k:Int} {j:Nat} (h:Rdr b k j) (hj:j<=10000) (hN:20<=N):Def (s_l30AnyText_m N b k) fun r=>r.1.length<=1000/\Rdr r.2.1 r.2.2 (j+40):=by
 unfold s_l30AnyText_m
 refine Def.bind (text_def N h hj hN) fun r ⟨l1,h1⟩=>?_
 have l1:=okS_len l1
 refine Def.bind (pick_def N 12 h1 (by omega)) fun r2 ⟨_,_,_,h2⟩=>?_
 refine Def.dif (fun e=>?_) (fun e=>Def.ret ⟨by dsimp only;omega,h2.le (by omega)⟩)
 refine Def.bind (Def.mono (of_def N (by simp) h2 (by omega)) (Q:=fun r3=>r3.1.length<=200/\Rdr r3.2.1 r3.2.2 (j+40)) ?_) fun r3 ⟨l3,h3⟩=>?_
 .rintro r3 ⟨m3,h3⟩
  refine⟨?_,h3.le (by omega)⟩
  simp only[zp,List.mem_nil_iff,or_false]at m3
  rcases m3 with m|m|m<;>rw[m]<;>simp
 .exact Def.ite (by omega) (Def.ret ⟨by dsimp only;rw[zam];omega,h3⟩)
theorem anyDoc_def (N:Nat) {b:List Int} {k:Int} {j:Nat} (h:Rdr b k j) (hj:j<=8500) (hN:20<=N):Def (s_l30AnyDoc_m N b k) fun r=>okD Sm TDoc (r.1,r.2.1,r.2.2.1)/\Rdr r.2.2.2.1 r.2.2.2.2 (j+200):=by
 unfold s_l30AnyDoc_m
 refine Def.bind (pick_def N 9 h (by omega)) fun r ⟨p0,p1,_,h1⟩=>?_
 have p1:=p1 (by omega)
 refine Def.ite (by unfold fits;omega) ?_
 refine Def.bind (doc_def N _ h1 (by omega) hN) fun r2 ⟨e2,⟨s2,_,_⟩,h2⟩=>?_
 have hid:0<=r2.1/\r2.1<=1000000:=by rw[e2];omega
 have hfl:=s2.fl;have hal:=s2.al
 refine Def.bind (pick_def N 14 h2 (by omega)) fun r3 ⟨_,_,_,h3⟩=>?_
 refine Def.dif (fun _=>?_) (fun _=>?_)
 .refine Def.bind (one_def N (by simp) h3 (by omega)) fun r4 ⟨m4,h4⟩=>Def.ret ⟨s2.ok (by omega) ?_,h4.le (by omega)⟩
  simp only[zp,List.mem_nil_iff,or_false]at m4
  omega
 refine Def.dif (fun _=>Def.ite (SmallDoc.room (by omega) (by omega)) (Def.ret ⟨(s2.addF (x:=(([98,111,100,121]:List UInt8),([97,103,97,105,110]:List UInt8))) (by simp) (by simp)).ok (by omega) hid,h3.le (by omega)⟩)) (fun _=>?_)
 refine Def.dif (fun _=>?_) (fun _=>?_)
 .refine Def.bind (one_def N (by simp) h3 (by omega)) fun r5 ⟨m5,h5⟩=>?_
  simp only[zp,List.mem_nil_iff,or_false]at m5
  exact Def.ite (SmallDoc.room (by omega) (by omega)) (Def.ret ⟨(s2.addA (x:=(([122,122]:List UInt8),r5.1)) (by simp) (by dsimp only;omega) (by dsimp only;omega)).ok (by omega) hid,h5.le (by omega)⟩)
 refine Def.dif (fun _=>?_) (fun _=>Def.ret ⟨s2.ok (by omega) hid,h3.le (by omega)⟩)
 refine Def.bind (anyText_def N h3 (by omega) hN) fun r6 ⟨l6,h6⟩=>?_
 exact Def.ite (SmallDoc.room (by omega) (by omega)) (Def.ret ⟨(s2.addF (x:=(([122,101,100]:List UInt8),r6.1)) (by simp) l6).ok (by omega) hid,h6.le (by omega)⟩)
def AQ (q:DQ):Prop:=∀n,BQ n q
theorem AQ.mk' {k:Int} {f:List UInt8} {ws:List (List UInt8)} {a b:Int} {kids:List DQ} (h1:f.length<=1000) (h2:ws.length<=1000) (h3:∀w,w∈ws->w.length<=1000) (h4:kids.length<=1000) (h5:∀c,c∈kids->AQ c):AQ (.mk k f ws a b kids)
 |0=>True.intro
 |n+1=>⟨by show f.length<=_;omega,by show ws.length<=_;omega,fun w hw=>by have:=h3 w hw;omega,by show kids.length<=_;omega,fun c hc=>h5 c hc n⟩
structure Own (q:Int) (f:List UInt8) (ws:List (List UInt8)) (kids:List DQ):Prop where
 f:f.length<=100
 n:ws.length<=100
 w:∀w,w∈ws->w.length<=100
 k:kids.length<=100
 c:∀c,c∈kids->AQ c
structure FitX (N:Nat) (x:EIndex):Prop where
 fit:FitI N x
 few:x.2.length<=6
 each:∀l,l∈x.2->FitL l
theorem FitX.zero {N:Nat} (hM:Sm<N) (hN:N<=16777216):FitX N zeroX:=
 ⟨FitI.zero hM hN,zaf _,fun l hl=>by cases hl⟩
theorem FitX.of {N:Nat} {x:EIndex} (h:FitI N x) (hk:okIdx x=true):FitX N x:=by
 obtain⟨k1,k2,k3,k4⟩:=okIdx_ok hk
 exact⟨h,by omega,fun l hl=>.of (zax.1 k3 l hl)⟩
theorem dropR_fitx {N:Nat} {x:EIndex} (h:FitI N x) (id:Int):FitX N (dropR id x).1:=by
 have hf:=dropR_fit h id
 unfold dropR at hf⊢
 cases hk:okIdx x with
 |false=>exact FitX.zero h.big h.top
 |true=>
  rw[hk]at hf
  obtain⟨k1,k2,k3,k4⟩:=okIdx_ok hk
  rw[zg]at hf⊢
  have hlen:=zbh (fun l:ELive=>decide (l.2.length<l.1.1.length)) (x.2.map (goneS id))
  rw[zar]at hlen
  refine⟨hf,zau hlen (by omega),fun l' hl'=>?_⟩
  obtain⟨l,hl,rfl⟩:=zab.1 (zaZ.1 hl').1
  have he:=FitL.of (zax.1 k3 l hl)
  have h2:=(goneS_2 id l).1
  have h3:=dead_few hk l hl
  exact⟨by rw[goneS_1];exact he.dok,by rw[goneS_1];exact he.small,by omega⟩
theorem addR_fitx {N:Nat} {x:EIndex} (h:FitI N x) {docs:List EDoc} (od:∀d,d∈docs->okD Sm TDoc d):FitX N (addR docs x).1:=by
 have hf:=addR_fit h od
 unfold addR at hf⊢
 cases hk:okIdx x with
 |false=>exact FitX.zero h.big h.top
 |true=>
  rw[hk]at hf
  rw[zg]at hf⊢
  cases hd:okDocs docs&&decide (0<docs.length)with
  |false=>exact FitX.of h hk
  |true=>
   rw[hd]at hf
   rw[zg]at hf⊢
   cases hy:okIdx (addY docs x)with
   |false=>exact FitX.of h hk
   |true=>
    rw[hy]at hf
    exact FitX.of hf hy
theorem mergeR_fitx {N:Nat} {x:EIndex} (h:FitI N x) (at':Int):FitX N (mergeR at' x).1:=by
 have hf:=mergeR_fit h at'
 unfold mergeR at hf⊢
 cases hk:okIdx x with
 |false=>exact FitX.zero h.big h.top
 |true=>
  rw[hk]at hf
  rw[zg]at hf⊢
  cases hin:decide (0<=at')&&decide (at'<=(x.2.length:Int)-2)with
  |false=>exact FitX.of h hk
  |true=>
   rw[hin]at hf
   rw[zg]at hf⊢
   obtain⟨k1,k2,k3,k4⟩:=okIdx_ok hk
   generalize at'.toNat=k at*
   have hsub:((x.2.take (k+2)).drop k).Sublist x.2:=(List.drop_sublist _ _).trans (List.take_sublist _ _)
   have hdo:okDocs (midD k x)=true:=okDocs_sub k4 (allD_sub hsub)
   refine⟨hf,?_,fun l' hl'=>?_⟩
   .show (x.2.take k++ [((midD k x,entriesS x.1 (midD k x)),([]:List Int))]++x.2.drop (k+2)).length<=_
    simp only[zam,zah,zbE,zaQ]
    omega
   .rcases zaB.1 hl' with hl'|hl'
    .rcases zaB.1 hl' with hl'|hl'
     .exact FitL.of (zax.1 k3 _ (zaP hl'))
     .rw [zaD]at hl'
      subst hl'
      exact⟨okDocs_ok hdo,entries_small x.1 (okDocs_ok hdo),zaf _⟩
    .exact FitL.of (zax.1 k3 _ (zbP hl'))
theorem indexNew_x {N:Nat} (hM:Sm<N) (hN:N<=16777216) (c:EConf) (oc:okD Sm TConf c):Def (s_IndexNew_m N c.1 c.2) fun r=>FitX N (r,[]):=
 (indexNew_s hM hN c oc).mono fun r h=>⟨h,zaf _,fun l hl=>by cases hl⟩
theorem drawIndex_def (N:Nat) (hM:Sm<N) (hN:N<=16777216) {b:List Int} {k:Int} {j:Nat} (h:Rdr b k j) (hj:j<=10):Def (s_l30Index_m N b k) fun r=>FitX N ((r.1,r.2.1),r.2.2.1)/\Rdr r.2.2.2.1 r.2.2.2.2 7000:=by
 have hM':1048576<N:=hM
 unfold s_l30Index_m
 refine Def.bind (conf_def N h (by omega)) fun r ⟨⟨_,oc⟩,h1⟩=>?_
 refine Def.bind (indexNew_x hM hN (r.1,r.2.1) oc) fun r2 F2=>?_
 refine Def.bind (pick_def N 7 h1 (by omega)) fun r3 ⟨p0,p1,_,h3⟩=>?_
 have p1:=p1 (by omega)
 refine Def.iter (fun g=>∃(n:Nat) (x:EIndex) (y:List Int) (z:Int),n<=6/\FitX N x/\Rdr y z (j+10+900*(6-n))/\g=((n:Int),x.1.1,x.1.2,x.2,y,z)) (fun g=>g.1.toNat) ?_ N _ ⟨r3.1.toNat,((r2.1,r2.2),[]),_,_,by omega,F2,h3.le (by omega),by rw[zbU p0]⟩ (by show r3.1.toNat<N;omega)
 rintro go _ ⟨n,x,y,z,hn,F,hr,rfl⟩ hgo
 dsimp only
 refine Def.dif (fun e=>?_) (fun e=>Def.ret ⟨F,hr.le (by omega)⟩)
 refine Def.bind (pick_def N 5 hr (by omega)) fun r4 ⟨q0,q1,_,h4⟩=>?_
 have hdec:((n:Int)-1)=((n-1:Nat):Int):=by omega
 refine Def.dif (fun _=>?_) (fun _=>Def.dif (fun _=>?_) (fun _=>?_))
 .refine Def.bind (pick_def N 8 h4 (by omega)) fun r5 ⟨s0,s1,_,h5⟩=>?_
  have s1:=s1 (by omega)
  refine Def.ite (by unfold fits;omega) ?_
  rw[indexDrop_s F.fit,za]
  refine Def.ite (by unfold fits;omega) (hgo _ ⟨n-1,(dropR (1+r5.1) x).1,_,_,by omega,dropR_fitx F.fit _,h5.le (by omega),by dsimp only;rw[hdec]⟩ (by show((n:Int)-1).toNat<(n:Int).toNat;omega))
 .refine Def.bind (pick_def N 3 h4 (by omega)) fun r7 ⟨s0,s1,_,h7⟩=>?_
  rw[indexMerge_s F.fit,za]
  refine Def.ite (by unfold fits;omega) (hgo _ ⟨n-1,(mergeR r7.1 x).1,_,_,by omega,mergeR_fitx F.fit _,h7.le (by omega),by dsimp only;rw[hdec]⟩ (by show((n:Int)-1).toNat<(n:Int).toNat;omega))
 .refine Def.bind (docs_def N h4 (by omega) (by omega)) fun r9 ⟨dd,h9⟩=>?_
  have od:∀d,d∈r9.1->okD Sm TDoc d:=fun d hd=>(dd.each d hd).1
  rw[addIndex_s F.fit od (by have:=dd.few;omega),za]
  refine Def.ite (by unfold fits;omega) (hgo _ ⟨n-1,(addR r9.1 x).1,_,_,by omega,addR_fitx F.fit od,h9.le (by omega),by dsimp only;rw[hdec]⟩ (by show((n:Int)-1).toNat<(n:Int).toNat;omega))
theorem FitX.copy {N:Nat} {x:EIndex} (h:FitX N x):s_l18Copy_m N x.1.1 x.1.2 x.2=some (x.1.1,x.1.2,x.2):=
 copyIndex_spec N x (.of h.fit.big h.fit.oc) (by have:=h.few;omega) h.each
theorem set_mem {Y:Type} {l:List Y} {n:Nat} {a x:Y} (h:x∈l.set n a):x=a\/x∈l:=by
 rcases List.mem_or_eq_of_mem_set h with h|h
 .exact .inr h
 .exact .inl h
theorem FitX.big' {N:Nat} {x:EIndex} (h:FitX N x) {l:ELive} (hl:l∈x.2):(∀d,d∈l.1.1->okD Sm TDoc d)/\l.1.1.length<=1048576/\l.2.length<=1000:=
 ⟨(h.fit.each l hl).1,(h.fit.each l hl).2.1,(h.each l hl).dead⟩
theorem anyIndex_def (N:Nat) (hM:Sm<N) (hN:N<=16777216) {b:List Int} {k:Int} {j:Nat} (h:Rdr b k j) (hj:j<=10):Def (s_l30AnyIndex_m N b k) fun r=>FitI N ((r.1,r.2.1),r.2.2.1)/\Rdr r.2.2.2.1 r.2.2.2.2 7010:=by
 unfold s_l30AnyIndex_m
 refine Def.bind (drawIndex_def N hM hN h hj) fun r ⟨F,h1⟩=>?_
 have F1:=F.fit
 have hc:=F.copy
 dsimp only at hc
 rw[hc,za]
 dsimp only
 have hfew:=F.few
 dsimp only at hfew
 refine Def.dif (fun e=>?_) (fun e=>Def.ret ⟨F1,h1.le (by omega)⟩)
 refine Def.bind (pick_def N _ h1 (by omega)) fun r3 ⟨p0,p1,_,h3⟩=>?_
 have p1:=p1 (by omega)
 refine Def.bind (pick_def N 16 h3 (by omega)) fun r4 ⟨_,_,_,h4⟩=>?_
 obtain⟨n,hn⟩:∃n:Nat,r3.1=(n:Int):=⟨r3.1.toNat,by omega⟩
 rw[hn]at p1⊢
 have hlt:n<r.2.2.1.length:=by omega
 have hx:=F.big' (zr hlt)
 have hs:=(F.each _ (zr hlt)).small.1
 have hgt:r.2.2.1[((n:Int)).toNat]? =some r.2.2.1[n]:=by rw[zai];exact zc hlt
 have hin:(0:Int)<=(n:Int)/\(n:Int)<r.2.2.1.length:=⟨by omega,p1⟩
 refine Def.dif (fun _=>?_) (fun _=>Def.dif (fun _=>?_) (fun _=>Def.dif (fun _=>?_) (fun _=>Def.ret ⟨F1,h4.le (by omega)⟩)))
 .rw [hgt,za,zf hin,za,zf rfl]
  refine Def.bind (one_def N (by decide) h4 (by omega)) fun r5 ⟨_,h5⟩=>?_
  refine Def.ite (room_of (by rw[zbE];omega) (by rw[zbE];omega)) ?_
  rw[zf hin,zf rfl,za]
  refine Def.ret ⟨⟨hM,hN,F1.oc,by dsimp only;rw[zap];omega,fun l hl=>?_⟩,h5.le (by omega)⟩
  rcases set_mem hl with rfl|hl
  .exact ⟨hx.1,hx.2.1,by dsimp only;rw[zam,zbE];omega⟩
  .exact F1.each l hl
 .rw [zf hin,hgt,za]
  refine Def.ite (room_of (by rw[zbE];omega) (by rw[zbE];omega)) ?_
  refine Def.ret ⟨⟨hM,hN,F1.oc,by dsimp only;rw[zam,zbE];omega,fun l hl=>?_⟩,h4.le (by omega)⟩
  rcases zaB.1 hl with hl|hl
  .exact F1.each l hl
  .rw [zaD.1 hl]
   exact F1.each _ (zr hlt)
 .rw [hgt,za,zf hin,za,zf rfl]
  refine Def.ite (room_of (by rw[zbE];omega) (by rw[zbE];omega)) ?_
  rw[zf hin,zf rfl,za]
  refine Def.ret ⟨⟨hM,hN,F1.oc,by dsimp only;rw[zap];omega,fun l hl=>?_⟩,h4.le (by omega)⟩
  rcases set_mem hl with rfl|hl
  .exact ⟨hx.1,hx.2.1,by dsimp only;omega⟩
  .exact F1.each l hl
theorem foHits_same (N:Nat) (l:List EHit) (h:l.length<N) (hl:l.length<=1000000):l_foHits_m N l l=some true:=by
 refine Def.get ?_
 unfold l_foHits_m
 rw[zb rfl,zn,ze]
 refine Def.upto l.length (fun n v=>v=(l,l,(n:Int))) (fun go v hv=>?_) (fun go n v hn hv hgo=>?_) N 0 _ (zaf _) rfl (by omega)
 .subst hv
  dsimp only
  rw[zd (zm _),ze]
  exact Def.ret rfl
 .subst hv
  dsimp only
  rw[zb (by omega:(n:Int)<l.length),zg,idx_at hn,za,za,zb rfl,zb rfl,zb5,zn,ze,zf (fits_nat (n:=n) (by omega))]
  exact hgo _ (by rw[cast_succ'])
theorem foInts_same (N:Nat) (hN:1048576<N) (l:List Int) (hl:l.length<=1048576):l_foInts_m N l l=some true:=by
 unfold l_foInts_m
 rw[zb rfl,zn,ze]
 refine(iter_scan _ l.length (fun n=>(l,l,(n:Int))) (fun _=>some true) (fun go=>?_) (fun go n hn hgo=>?_) N 0 (zaf _) (by omega)).trans rfl
 .dsimp only
  rw[zd (zm _),ze]
 .dsimp only
  rw[zb (by omega:(n:Int)<l.length),zg,idx_at hn,za,za,zb rfl,zn,ze,zf (fits_nat (n:=n) (by omega)),<-hgo,cast_succ']
theorem foTexts_same (N:Nat) (hN:1048576<N) (l:List (List UInt8)) (hl:l.length<=1048576):l_foTexts_m N l l=some true:=by
 unfold l_foTexts_m
 rw[zb rfl,zn,ze]
 refine(iter_scan _ l.length (fun n=>(l,l,(n:Int))) (fun _=>some true) (fun go=>?_) (fun go n hn hgo=>?_) N 0 (zaf _) (by omega)).trans rfl
 .dsimp only
  rw[zd (zm _),ze]
 .dsimp only
  rw[zb (by omega:(n:Int)<l.length),zg,idx_at hn,za,za,zb rfl,zn,ze,zf (fits_nat (n:=n) (by omega)),<-hgo,cast_succ']
theorem foPosts_same (N:Nat) (hN:1048576<N) (l:List EPost) (hl:l.length<=1048576) (he:∀p,p∈l->p.2.length<=1048576):l_foPosts_m N l l=some true:=by
 unfold l_foPosts_m
 rw[zb rfl,zn,ze]
 refine(iter_scan _ l.length (fun n=>(l,l,(n:Int))) (fun _=>some true) (fun go=>?_) (fun go n hn hgo=>?_) N 0 (zaf _) (by omega)).trans rfl
 .dsimp only
  rw[zd (zm _),ze]
 .dsimp only
  rw[zb (by omega:(n:Int)<l.length),zg,idx_at hn,za,za,zb rfl,zn,ze,za,za,foInts_same N hN _ (he _ (zr hn)),za,zn,ze,zf (fits_nat (n:=n) (by omega)),<-hgo,cast_succ']
theorem foDoc_same (N:Nat) (hN:1048576<N) (d:EDoc) (h:okD Sm TDoc d):l_foDoc_m N d.1 d.2.1 d.2.2 d.1 d.2.1 d.2.2=some true:=by
 have h1:d.2.1.length<=1048576:=h.2.1.1
 have h2:d.2.2.length<=1048576:=h.2.2.1
 unfold l_foDoc_m
 rw[zb rfl,zn,ze,zb rfl,zn,ze,zb rfl,zn,ze]
 refine(iter_scan _ d.2.1.length (fun n=>((n:Int),d.1,d.2.1,d.2.2,d.1,d.2.1,d.2.2)) (fun _=>some true) (fun go=>?_) (fun go n hn hgo=>?_) N 0 (zaf _) (by omega)).trans rfl
 .dsimp only
  rw[zd (zm _),ze]
  refine(iter_scan _ d.2.2.length (fun n=>((n:Int),d.1,d.2.1,d.2.2,d.1,d.2.1,d.2.2)) (fun _=>some true) (fun go=>?_) (fun go n hn hgo=>?_) N 0 (zaf _) (by omega)).trans rfl
  .dsimp only
   rw[zd (zm _),ze]
  .dsimp only
   rw[zb (by omega:(n:Int)<d.2.2.length),zg,idx_at hn,za,za,zb rfl,zb rfl,zb5,zn,ze,zf (fits_nat (n:=n) (by omega)),<-hgo,cast_succ']
 .dsimp only
  rw[zb (by omega:(n:Int)<d.2.1.length),zg,idx_at hn,za,za,zb rfl,zb rfl,zb5,zn,ze,zf (fits_nat (n:=n) (by omega)),<-hgo,cast_succ']
theorem foDocs_same (N:Nat) (hN:1048576<N) (l:List EDoc) (hl:l.length<=1048576) (he:∀d,d∈l->okD Sm TDoc d):l_foDocs_m N l l=some true:=by
 unfold l_foDocs_m
 rw[zb rfl,zn,ze]
 refine(iter_scan _ l.length (fun n=>(l,l,(n:Int))) (fun _=>some true) (fun go=>?_) (fun go n hn hgo=>?_) N 0 (zaf _) (by omega)).trans rfl
 .dsimp only
  rw[zd (zm _),ze]
 .dsimp only
  rw[zb (by omega:(n:Int)<l.length),zg,idx_at hn,za,za,foDoc_same N hN _ (he _ (zr hn)),za,zn,ze,zf (fits_nat (n:=n) (by omega)),<-hgo,cast_succ']
theorem foSeg_same (N:Nat) (hN:1048576<N) (s:ESeg) (hl:s.1.length<=1048576) (he:∀d,d∈s.1->okD Sm TDoc d) (hs:Small 7680 s.2):l_foSeg_m N s.1 s.2 s.1 s.2=some true:=by
 have h1:=hs.1
 unfold l_foSeg_m
 rw[foDocs_same N hN _ hl he,za,zn,ze,zb rfl,zn,ze]
 refine(iter_scan _ s.2.length (fun n=>((n:Int),s.1,s.2,s.1,s.2)) (fun _=>some true) (fun go=>?_) (fun go n hn hgo=>?_) N 0 (zaf _) (by omega)).trans rfl
 .dsimp only
  rw[zd (zm _),ze]
 .dsimp only
  obtain⟨e1,e2⟩:=hs.2 _ (zr hn)
  rw[zb (by omega:(n:Int)<s.2.length),zg,idx_at hn,za,za,zb rfl,zn,ze,za,za,zb rfl,zn,ze,za,za,foPosts_same N hN _ (by omega) (fun p hp=>by have:=e2 p hp;omega),za,zn,ze,zf (fits_nat (n:=n) (by omega)),<-hgo,cast_succ']
theorem foConf_same (N:Nat) (hN:1048576<N) (c:EConf) (h:okD Sm TConf c):l_foConf_m N c.1 c.2 c.1 c.2=some true:=by
 have h1:c.1.length<=1048576:=h.1.1
 have h2:c.2.length<=1048576:=h.2.1
 have h3:∀y,y∈c.2->y.1.length<=1048576:=fun y hy=>(h.2.2 y hy).1.1
 unfold l_foConf_m
 rw[foTexts_same N hN _ h1,za,zn,ze,zb rfl,zn,ze]
 refine(iter_scan _ c.2.length (fun n=>((n:Int),c.1,c.2,c.1,c.2)) (fun _=>some true) (fun go=>?_) (fun go n hn hgo=>?_) N 0 (zaf _) (by omega)).trans rfl
 .dsimp only
  rw[zd (zm _),ze]
 .dsimp only
  rw[zb (by omega:(n:Int)<c.2.length),zg,idx_at hn,za,za,zb rfl,zn,ze,za,za,foTexts_same N hN _ (h3 _ (zr hn)),za,zn,ze,zf (fits_nat (n:=n) (by omega)),<-hgo,cast_succ']
theorem foIndex_same {N:Nat} {x:EIndex} (h:FitX N x):l_foIndex_m N x.1.1 x.1.2 x.2 x.1.1 x.1.2 x.2=some true:=by
 have hN:1048576<N:=h.fit.big
 have hl:=h.few
 unfold l_foIndex_m
 rw[foConf_same N hN _ h.fit.oc,za,zn,ze,zb rfl,zn,ze]
 refine(iter_scan _ x.2.length (fun n=>((n:Int),x.1.1,x.1.2,x.2,x.1.1,x.1.2,x.2)) (fun _=>some true) (fun go=>?_) (fun go n hn hgo=>?_) N 0 (zaf _) (by omega)).trans rfl
 .dsimp only
  rw[zd (zm _),ze]
 .dsimp only
  have hm:=zr hn
  obtain⟨e1,e2,e3⟩:=h.fit.each _ hm
  have e4:=h.each _ hm
  have e5:l_foLive_m N x.2[n].1.1 x.2[n].1.2 x.2[n].2 x.2[n].1.1 x.2[n].1.2 x.2[n].2=some true:=by
   unfold l_foLive_m
   rw[foSeg_same N hN _ e2 e1 e4.small,za,zg,foInts_same N hN _ e3,za]
  rw[zb (by omega:(n:Int)<x.2.length),zg,idx_at hn,za,za,e5,za,zn,ze,zf (fits_nat (n:=n) (by omega)),<-hgo,cast_succ']
theorem anyDocs_def (N:Nat) (hM:Sm<N) {b:List Int} {k:Int} {j:Nat} (h:Rdr b k j) (hj:j<=7100):Def (s_l30AnyDocs_m N b k) fun r=>((∀d,d∈r.1->okD Sm TDoc d)/\r.1.length<=7)/\Rdr r.2.1 r.2.2 (j+2000):=by
 have hM':1048576<N:=hM
 unfold s_l30AnyDocs_m
 refine Def.bind (docs_def N h (by omega) (by omega)) fun r ⟨dd,h1⟩=>?_
 refine Def.bind (pick_def N 10 h1 (by omega)) fun r2 ⟨_,_,_,h2⟩=>?_
 have hd:∀d,d∈r.1->okD Sm TDoc d:=fun d hd=>(dd.each d hd).1
 have hf:=dd.few
 refine Def.dif (fun _=>?_) (fun _=>Def.ret ⟨⟨hd,by dsimp only;omega⟩,h2.le (by omega)⟩)
 refine Def.bind (anyDoc_def N h2 (by omega) (by omega)) fun r3 ⟨d3,h3⟩=>?_
 refine Def.ite (room_of (by rw[zbE];omega) (by rw[zbE];omega)) (Def.ret ⟨⟨fun d hm=>?_,by rw[zam,zbE];omega⟩,h3.le (by omega)⟩)
 rcases zaB.1 hm with hm|hm
 .exact hd d hm
 .rw [zaD.1 hm]
  exact d3
theorem drawIndexAdd_def (N:Nat) (hM:Sm<N) (hN:N<=16777216) {code:List Int} (hb:Bs code):Def (s_DrawIndexAdd_m N code) fun r=>FitI N ((r.1,r.2.1),r.2.2.1)/\(∀d,d∈r.2.2.2->okD Sm TDoc d)/\r.2.2.2.length<=100:=by
 unfold s_DrawIndexAdd_m
 refine Def.bind (open_def N hb) fun r h0=>?_
 refine Def.bind (anyIndex_def N hM hN h0 (by omega)) fun r2 ⟨F,h2⟩=>?_
 refine Def.bind (anyDocs_def N hM h2 (by omega)) fun r3 ⟨⟨d3,l3⟩,_⟩=>?_
 exact Def.ret ⟨F,d3,by dsimp only;omega⟩
theorem indexDocs_ok {N:Nat} {x:EIndex} (h:FitI N x) (hk:okIdx x=true):i_IndexDocs_m N x.1.1 x.1.2 x.2=some (docsX x):=by
 have hM:1048576<N:=h.big
 unfold i_IndexDocs_m
 rw[indexOk_spec h,za,hk,zn,ze,allAlive_ok h hk,za,cloneDocs_spec N (okDocs_ok (okIdx_ok hk).2.2.2) (by omega),za]
theorem docsX_fit {N:Nat} {x:EIndex} (h:FitI N x) (hk:okIdx x=true):(docsX x).length<=16/\∀d,d∈docsX x->okD Sm TDoc d:=
 ⟨(okDocs_ok (okIdx_ok hk).2.2.2).few,sort_docs fun l hl=>(h.each l hl).1⟩
theorem foDocsX {N:Nat} {x:EIndex} (h:FitI N x) (hk:okIdx x=true):l_foDocs_m N (docsX x) (docsX x)=some true:=by
 obtain⟨h1,h2⟩:=docsX_fit h hk
 exact foDocs_same N h.big _ (by omega) h2
theorem foHitsX {N:Nat} {x:EIndex} (h:FitI N x) {q:DQ} (hq:BQ 4 q) (most:Int):l_foHits_m N (idxTop N x q most) (idxTop N x q most)=some true:=by
 have hL:=(idxTop_ok h hq most).1
 have hM:1048576<N:=h.big
 exact foHits_same N _ (by omega) (by omega)
theorem bytes_ok {code:List Int} (h:okD BigN (.sl (.int .u8)) code):Bs code:=fun x hx=>by
 have:=h.2 x hx
 have e1:IntKind.u8.min=0:=by decide
 have e2:IntKind.u8.max=255:=by decide
 exact⟨by have h1:=this.1;rw[e1]at h1;exact h1,by have h1:=this.2;rw[e2]at h1;exact h1⟩
def catQ :DQ:=.mk 2 [98,111,100,121] [[99,97,116]] 0 0 []
theorem catQ_bq :BQ 4 catQ:=(AQ.mk' (by decide) (by decide) (fun w hw=>by rw[zaD.1 hw];decide) (by decide) (fun c hc=>by cases hc)) 4
theorem fnIndexTwice_gen (N:Nat) (hM:Sm<N) (hN:N<=16777216) (code:List Int) (hb:Bs code):l_FnIndexTwice_m N code=some true:=by
 have hM':1048576<N:=hM
 refine Def.get ?_
 unfold l_FnIndexTwice_m
 refine Def.dif (fun e=>Def.ret rfl) (fun e=>?_)
 refine Def.bind (drawIndexAdd_def N hM hN hb) fun r ⟨F,od,hl⟩=>?_
 obtain⟨c1,c2,segs,docs⟩:=r
 dsimp only at F od hl⊢
 have a1:=indexAdd_i F od (by omega)
 have a2:=addIndex_s F od (by omega)
 have FX:=addR_fitx F od
 have key:=fun h=>addR_yes (docs:=docs) (x:=((c1,c2),segs)) h
 have twice:=fun h=>addR_twice (docs:=docs) (x:=((c1,c2),segs)) h
 dsimp only at a1 a2
 rw[a1,za,a2,za]
 generalize addY docs ((c1,c2),segs)=w at*
 generalize addR docs ((c1,c2),segs)=z at*
 obtain⟨y,ok⟩:=z
 have f1:=foIndex_same FX
 dsimp only at f1 FX key twice⊢
 rw[beq_self_eq_true,zn,ze,f1,za,zn,ze]
 cases ok with
 |false=>
  rw[zaI,zg,zg,za]
  exact Def.ret rfl
 |true=>
  obtain⟨e,k1,k2,k3,k4⟩:=key rfl
  have tw:=twice rfl
  obtain⟨rfl,_⟩:=Prod.mk.inj e
  have a3:=indexAdd_i FX.fit od (by omega)
  rw[tw]at a3
  have d1:=indexDocs_ok FX.fit k4
  have d2:=foDocsX FX.fit k4
  have t1:=indexTop_i FX.fit catQ_bq 16
  have t2:=foHitsX FX.fit catQ_bq 16
  have t1:i_IndexTop_m N y.1.1 y.1.2 y.2 2 [98,111,100,121] [[99,97,116]] 0 0 [] 16=some (idxTop N y catQ 16):=t1
  dsimp only at a3
  rw[zn,ze,a3,za]
  dsimp only
  rw[zg,d1,za,za,d2,za,zg,t1,za,za,t2,za,zg]
  exact Def.ret (zb (zbD _))
theorem fnIndexTwice_law (x0:List Int) (o0:okD BigN (.sl (.int .u8)) x0):l_FnIndexTwice_m 1048700 x0=some true:=fnIndexTwice_gen 1048700 (by decide) (by decide) x0 (bytes_ok o0)
end Go.Proofs.YtchgdmmcjgmfcaaGreatDoor
