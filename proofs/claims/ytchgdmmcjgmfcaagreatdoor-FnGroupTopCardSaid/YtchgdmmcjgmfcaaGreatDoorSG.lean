import Derived.Test.YtchgdmmcjgmfcaaGreatDoorP1
import Derived.Test.YtchgdmmcjgmfcaaGreatDoorSC
import Derived.Test.YtchgdmmcjgmfcaaGreatDoorSE
import Derived.Test.YtchgdmmcjgmfcaaGreatDoorSF
import Derived.Test.YtchgdmmcjgmfcaaGreatDoorSD
import Derived.Test.YtchgdmmcjgmfcaaGreatDoorQO
import Derived.Test.YtchgdmmcjgmfcaaGreatDoorKX
set_option linter.unusedVariables false
set_option linter.unusedSimpArgs false
namespace Go.Proofs.YtchgdmmcjgmfcaaGreatDoor
open Go.RowKit
theorem ju3 {Y:Type} (xs:List Y) (n:Nat) (h:n<=xs.length):cut xs 0 (n:Int)=some (xs.take n):=by
 unfold cut
 rw[zf (by omega)]
 simp
theorem juD (N:Nat) (code:List Int) (hb:Bs code):∃y,jt0 N code=some (y,0)/\Bs y/\y.length<=2000:=by
 unfold jt0
 by_cases h:(2000:Int)<code.length
 .simp only [h,decide_true,zg]
  rw[show(2000:Int)=((2000:Nat):Int)from rfl,ju3 code 2000 (by omega)]
  exact⟨_,rfl,fun x hx=>hb x (zaP hx),by simp;omega⟩
 .simp only [h,decide_false,ze]
  exact⟨_,rfl,hb,by omega⟩
def Rdr (b:List Int) (k:Int) (j:Nat):Prop:=Bs b/\b.length<=2000/\0<=k/\k<=j
theorem Rdr.le {b:List Int} {k:Int} {j j':Nat} (h:Rdr b k j) (hj:j<=j'):Rdr b k j':=⟨h.1,h.2.1,h.2.2.1,by have:=h.2.2.2;omega⟩
theorem pick_def (N:Nat) (n:Int) {b:List Int} {k:Int} {j:Nat} (h:Rdr b k j) (hj:j<=1000000):Def (jtW N n b k) fun r=>0<=r.1/\(1<=n->r.1<n)/\(n<1->r.1=0)/\Rdr r.2.1 r.2.2 (j+1):=by
 obtain⟨v,h1,h2,h3,h4⟩:=juF N n b k h.1 h.2.2.1 (by have:=h.2.2.2;omega) h.2.1
 exact⟨_,h1,h2,h3,h4,h.1,h.2.1,by have:=h.2.2.1;show(0:Int)<=k+1;omega,by have:=h.2.2.2;show k+1<=((j+1:Nat):Int);omega⟩
theorem of_def (N:Nat) {l:List (List UInt8)} {b:List Int} {k:Int} {j:Nat} (hl:0<l.length) (h:Rdr b k j) (hj:j<=1000000):Def (s_l30Rd_of_m N l b k) fun r=>r.1∈l/\Rdr r.2.1 r.2.2 (j+1):=by
 unfold s_l30Rd_of_m
 refine Def.bind (pick_def N _ h hj) fun r ⟨h0,h1,_,h3⟩=>?_
 exact Def.idx h0 (h1 (by omega)) fun x hx _=>Def.ret ⟨hx,h3⟩
theorem open_def (N:Nat) {code:List Int} (hb:Bs code):Def (jt0 N code) fun r=>Rdr r.1 r.2 0:=by
 obtain⟨y,h1,h2,h3⟩:=juD N code hb
 exact⟨_,h1,h2,h3,zbD _,zbD _⟩
def okC (c:UInt8):Bool:=decide (32<=c.toNat)&&decide (c.toNat<=126)
def okS (n:Nat) (s:List UInt8):Bool:=s.all okC&&decide (s.length<=n)
theorem juf {n m:Nat} {s t:List UInt8} (h:okS n s=true) (k:okS m t=true):okS (n+m) (s++t)=true:=by
 unfold okS at*
 simp only[zj,zw,List.all_append,zam]at*
 exact⟨⟨h.1,k.1⟩,by omega⟩
theorem jue {n m:Nat} {s:List UInt8} (h:okS n s=true) (hm:n<=m):okS m s=true:=by
 unfold okS at*
 simp only[zj,zw]at*
 exact⟨h.1,by omega⟩
theorem okS_len {n:Nat} {s:List UInt8} (h:okS n s=true):s.length<=n:=by
 unfold okS at h
 simp only[zj,zw]at h
 exact h.2
theorem okS_okT {s:List UInt8} (h:okS 160 s=true):okT s=true:=by
 have hl:=okS_len h
 unfold okS at h
 simp only[zj,zax]at h
 unfold okT allN
 rw[zj]
 refine⟨zax.2 fun n hn=>?_,by rw[zw];omega⟩
 have hn':n<s.length:=by simpa using hn
 have:=h.1 _ (zr hn')
 unfold okC at this
 simp only[zj,zw]at this
 rw[<-atB_eq hn',zd (by omega),zd (by omega)]
 rfl
theorem ju7 (N:Nat) {b:List Int} {k:Int} {j:Nat} (h:Rdr b k j) (hj:j<=100000):Def (jt1 N b k) fun r=>okS 17 r.1=true/\Rdr r.2.1 r.2.2 (j+1):=by
 unfold jt1
 refine Def.bind (of_def N (by decide) h (by omega)) fun r ⟨m1,h1⟩=>Def.ret ⟨?_,h1⟩
 exact(by decide:∀w,w∈([([99,97,116]:List UInt8),([67,97,116,115]:List UInt8),([100,111,103]:List UInt8),([100,111,103,115]:List UInt8),([114,117,110]:List UInt8),([82,85,78,78,73,78,71]:List UInt8),([116,104,101]:List UInt8),([114,101,100]:List UInt8),([98,105,103]:List UInt8),([110,101,119,32,121,111,114,107]:List UInt8),([78,101,119,32,32,89,111,114,107]:List UInt8),([110,121]:List UInt8),([102,111,120]:List UInt8),([112,97,115,115,101,100]:List UInt8),([120,49]:List UInt8),([97,118,101,114,121,118,101,114,121,108,111,110,103,119,111,114,100]:List UInt8)]:List (List UInt8))->okS 17 w=true) _ m1
theorem text_def (N:Nat) {b:List Int} {k:Int} {j:Nat} (h:Rdr b k j) (hj:j<=10000) (hN:20<=N):Def (jtZ N b k) fun r=>okS 160 r.1=true/\Rdr r.2.1 r.2.2 (j+30):=by
 unfold jtZ
 refine Def.bind (pick_def N 9 h (by omega)) fun r ⟨p0,p1,_,h1⟩=>?_
 have p1:=p1 (by omega)
 refine Def.iter (fun g=>∃s:List UInt8,∃n:Nat,∃x y,n<=8/\okS (19*(8-n)) s=true/\Rdr x y (j+1+2*(8-n))/\g=(s,(n:Int),x,y)) (fun g=>g.2.1.toNat) ?_ N _ ⟨[],r.1.toNat,_,_,by omega,by unfold okS;simp,h1.le (by omega),by rw[zbU p0]⟩ (by show r.1.toNat<N;omega)
 rintro go _ ⟨s,n,x,y,hn,hs,hr,rfl⟩ hgo
 dsimp only
 have hsl:=okS_len hs
 refine Def.dif (fun e=>?_) (fun e=>Def.ret ⟨jue hs (by omega),hr.le (by omega)⟩)
 refine Def.bind (ju7 N hr (by omega)) fun r2 ⟨l2,h2⟩=>?_
 have hl2:=okS_len l2
 refine Def.ite (by omega) ?_
 refine Def.bind (of_def N (by decide) h2 (by omega)) fun r3 ⟨m3,h3⟩=>?_
 have l3:okS 2 r3.1=true:=(by decide:∀w,w∈([([32]:List UInt8),([32]:List UInt8),([44,32]:List UInt8),([45]:List UInt8),([46,32]:List UInt8)]:List (List UInt8))->okS 2 w=true) _ m3
 have hl3:=okS_len l3
 refine Def.ite (by rw[zam];omega) (Def.ite (by unfold fits;omega) (hgo _ ⟨(s++r2.1)++r3.1,n-1,_,_,by omega,jue (juf (juf hs l2) l3) (by omega),h3.le (by omega),?_⟩ ?_))
 .rw [show((n:Int)-1)=((n-1:Nat):Int)from by omega]
 .show ((n:Int)-1).toNat<(n:Int).toNat
  omega
structure SmallDoc (fs:List EField) (ats:List EAttr) (n:Nat):Prop where
 fl:fs.length<=n
 al:ats.length<=n
 f:∀x,x∈fs->x.1.length<=1000/\x.2.length<=1000
 a:∀x,x∈ats->x.1.length<=4/\ -1<=x.2/\x.2<=1000000000
theorem SmallDoc.ok {fs:List EField} {ats:List EAttr} {n:Nat} (h:SmallDoc fs ats n) (hn:n<=1000) {id:Int} (h0:0<=id/\id<=1000000):okD Sm TDoc (id,fs,ats):=by
 have e1:IntKind.i64.min=-9223372036854775808:=by decide
 have e2:IntKind.i64.max=9223372036854775807:=by decide
 have hfl:=h.fl;have hal:=h.al
 refine⟨⟨by rw[e1];show _<=id;omega,by rw[e2];show id<=_;omega⟩,⟨by show fs.length<=1048576;omega,fun x hx=>?_⟩,⟨by show ats.length<=1048576;omega,fun x hx=>?_⟩⟩
 .have:=h.f x hx
  exact⟨by show x.1.length<=1048576;omega,by show x.2.length<=1048576;omega⟩
 .have:=h.a x hx
  exact⟨by show x.1.length<=1048576;omega,by rw[e1];exact Int.le_trans (by decide) this.2.1,by rw[e2];exact Int.le_trans this.2.2 (by decide)⟩
theorem SmallDoc.addF {fs:List EField} {ats:List EAttr} {n:Nat} (h:SmallDoc fs ats n) {x:EField} (h1:x.1.length<=1000) (h2:x.2.length<=1000):SmallDoc (fs++ [x]) ats (n+1):=by
 have hfl:=h.fl;have hal:=h.al
 refine⟨by simp only[zam,zi,zac];omega,by omega,fun y hy=>?_,h.a⟩
 rcases zaB.1 hy with hy|hy
 .exact h.f y hy
 .rw [zaD.1 hy];exact⟨h1,h2⟩
theorem SmallDoc.addA {fs:List EField} {ats:List EAttr} {n:Nat} (h:SmallDoc fs ats n) {x:EAttr} (h1:x.1.length<=4) (h2: -1<=x.2) (h3:x.2<=1000000000):SmallDoc fs (ats++ [x]) (n+1):=by
 have hfl:=h.fl;have hal:=h.al
 refine⟨by omega,by simp only[zam,zi,zac];omega,h.f,fun y hy=>?_⟩
 rcases zaB.1 hy with hy|hy
 .exact h.a y hy
 .rw [zaD.1 hy];exact⟨h1,h2,h3⟩
theorem SmallDoc.le {fs:List EField} {ats:List EAttr} {n m:Nat} (h:SmallDoc fs ats n) (hm:n<=m):SmallDoc fs ats m:=⟨zau h.fl hm,zau h.al hm,h.f,h.a⟩
theorem SmallDoc.nil :SmallDoc [] [] 0:=⟨zae _,zae _,(fun x hx=>by cases hx),(fun x hx=>by cases hx)⟩
theorem SmallDoc.room {n:Nat} {b:Nat} (hn:n<=1000) (hb:b<=1000):room n 1 b:=by
 have:(n+1)*b<=1001*1000:=zbX (by omega) hb
 exact room_of (by omega) (by omega)
abbrev nBody :List UInt8:=[98,111,100,121]
abbrev nTitle :List UInt8:=[116,105,116,108,101]
structure FG (fs:List EField) (ns:List (List UInt8)):Prop where
 names:(fs.map (·.1)).Sublist ns
 texts:∀x,x∈fs->okS 160 x.2=true
theorem FG.add {fs:List EField} {ns:List (List UInt8)} (h:FG fs ns) (n t:List UInt8) (ht:okS 160 t=true):FG (fs++ [(n,t)]) (ns++ [n]):=by
 refine⟨?_,fun x hx=>?_⟩
 .rw [zaK]
  exact List.Sublist.append h.names (List.Sublist.refl _)
 .rcases zaB.1 hx with hx|hx
  .exact h.texts x hx
  .rw [zaD]at hx;subst hx;exact ht
theorem FG.skip {fs:List EField} {ns:List (List UInt8)} (h:FG fs ns) (n:List UInt8):FG fs (ns++ [n]):=⟨h.names.trans (List.sublist_append_left _ _),h.texts⟩
theorem doc_def (N:Nat) (id:Int) {b:List Int} {k:Int} {j:Nat} (h:Rdr b k j) (hj:j<=9000) (hN:20<=N):Def (s_l30Doc_m N id b k) fun r=>r.1=id/\(SmallDoc r.2.1 r.2.2.1 4/\FG r.2.1 [nBody,nTitle]/\r.2.2.1.length<=2)/\Rdr r.2.2.2.1 r.2.2.2.2 (j+100):=by
 unfold s_l30Doc_m
 refine Def.meet (fun g=>∃fs x y,SmallDoc fs [] 1/\FG fs [nBody]/\Rdr x y (j+31)/\g=(0,id,fs,x,y)) ?_ fun J hJ=>?_
 .rintro _ ⟨fs,x,y,hs,hg,hr,rfl⟩
  dsimp only
  refine Def.meet (fun g=>∃fs x y,SmallDoc fs [] 2/\FG fs [nBody,nTitle]/\Rdr x y (j+65)/\g=(0,id,fs,x,y)) ?_ fun J hJ=>?_
  .rintro _ ⟨fs,x,y,hs,hg,hr,rfl⟩
   dsimp only
   refine Def.meet (fun g=>∃fs ats x y,SmallDoc fs ats 3/\(FG fs [nBody,nTitle]/\ats.length<=1)/\Rdr x y (j+70)/\g=(0,id,fs,ats,x,y)) ?_ fun J hJ=>?_
   .rintro _ ⟨fs,ats,x,y,hs,⟨hg,ha⟩,hr,rfl⟩
    dsimp only
    refine Def.bind (pick_def N 3 hr (by omega)) fun r7 ⟨_,_,_,h7⟩=>?_
    refine Def.dif (fun _=>?_) (fun _=>Def.ret ⟨rfl,⟨hs.le (by omega),hg,by dsimp only;omega⟩,h7.le (by omega)⟩)
    refine Def.bind (pick_def N 30 h7 (by omega)) fun r8 ⟨q0,q1,_,h8⟩=>?_
    have q1:=q1 (by omega)
    have hal:=hs.al
    exact Def.ite (by unfold fits;omega) (Def.ite (SmallDoc.room (by omega) (by omega)) (Def.ret ⟨rfl,⟨hs.addA (by simp) (by dsimp only;omega) (by dsimp only;omega),hg,by simp only[zam,zi,zac];omega⟩,h8.le (by omega)⟩))
   .refine Def.bind (pick_def N 3 hr (by omega)) fun r5 ⟨_,_,_,h5⟩=>?_
    refine Def.dif (fun _=>?_) (fun _=>hJ _ ⟨_,_,_,_,hs.le (by omega),⟨hg,by simp⟩,h5.le (by omega),rfl⟩)
    refine Def.bind (pick_def N 4 h5 (by omega)) fun r6 ⟨q0,q1,_,h6⟩=>?_
    have q1:=q1 (by omega)
    exact Def.ite (SmallDoc.room (by simp) (by omega)) (hJ _ ⟨_,_,_,_,hs.addA (x:=(([114,97,116,101]:List UInt8),r6.1)) (by simp) (by dsimp only;omega) (by dsimp only;omega),⟨hg,by simp⟩,h6.le (by omega),rfl⟩)
  .refine Def.bind (pick_def N 3 hr (by omega)) fun r3 ⟨_,_,_,h3⟩=>?_
   refine Def.dif (fun _=>?_) (fun _=>hJ _ ⟨_,_,_,hs.le (by omega),hg.skip nTitle,h3.le (by omega),rfl⟩)
   refine Def.bind (text_def N h3 (by omega) hN) fun r4 ⟨l4,h4⟩=>?_
   have hfl:=hs.fl
   have hl4:=okS_len l4
   exact Def.ite (SmallDoc.room (by omega) (by omega)) (hJ _ ⟨_,_,_,hs.addF (x:=(([116,105,116,108,101]:List UInt8),r4.1)) (by simp) (by dsimp only;omega),hg.add nTitle _ l4,h4.le (by omega),rfl⟩)
 .refine Def.bind (pick_def N 6 h (by omega)) fun r ⟨_,_,_,h1⟩=>?_
  have g0:FG [] []:=⟨List.Sublist.refl _,fun x hx=>by cases hx⟩
  refine Def.dif (fun _=>?_) (fun _=>hJ _ ⟨_,_,_,SmallDoc.nil.le (by omega),g0.skip nBody,h1.le (by omega),rfl⟩)
  refine Def.bind (text_def N h1 (by omega) hN) fun r2 ⟨l2,h2⟩=>?_
  have hl2:=okS_len l2
  exact Def.ite (SmallDoc.room (by simp) (by omega)) (hJ _ ⟨_,_,_,SmallDoc.nil.addF (x:=(([98,111,100,121]:List UInt8),r2.1)) (by simp) (by dsimp only;omega),g0.add nBody _ l2,h2.le (by omega),rfl⟩)
structure DrawnDocs (docs:List EDoc) (m:Int):Prop where
 few:docs.length<=6
 ids:docs.Pairwise fun a b=>a.1<b.1
 top:∀d,d∈docs->1<=d.1/\d.1<=m
 each:∀d,d∈docs->okD Sm TDoc d/\FG d.2.1 [nBody,nTitle]/\d.2.2.length<=2
theorem DrawnDocs.ok {docs:List EDoc} {m:Int} (h:DrawnDocs docs m):DOk docs:=by
 refine⟨⟨h.ids,fun d hd=>?_⟩,by have:=h.few;omega,fun d hd=>?_⟩
 .exact (h.each d hd).2.1.names.nodup (by decide)
 .have:=h.each d hd
  have hl:=this.2.1.names.length_le
  simp only[zar,zi,zac]at hl
  exact⟨by omega,by omega,fun f hf=>⟨okS_okT (this.2.1.texts f hf),okS_len (this.2.1.texts f hf)⟩⟩
theorem docs_def (N:Nat) {b:List Int} {k:Int} {j:Nat} (h:Rdr b k j) (hj:j<=8000) (hN:20<=N):Def (s_l30Docs_m N b k) fun r=>DrawnDocs r.1 100/\Rdr r.2.1 r.2.2 (j+700):=by
 unfold s_l30Docs_m
 refine Def.bind (pick_def N 6 h (by omega)) fun r ⟨p0,p1,_,h1⟩=>?_
 have p1:=p1 (by omega)
 refine Def.iter (fun g=>∃out:List EDoc,∃id:Int,∃n:Nat,∃x y,n<=6/\out.length+n<=6/\(0<=id/\id<=4*(6-n))/\DrawnDocs out id/\Rdr x y (j+1+110*(6-n))/\g=(out,id,(n:Int),x,y)) (fun g=>g.2.2.1.toNat) ?_ N _ ⟨[],0,r.1.toNat,_,_,by omega,by simp;omega,by omega,⟨by simp,za4,(fun z hz=>by cases hz),(fun z hz=>by cases hz)⟩,h1.le (by omega),by rw[zbU p0]⟩ (by show r.1.toNat<N;omega)
 rintro go _ ⟨out,id,n,x,y,hn,hl,hid,ho,hr,rfl⟩ hgo
 dsimp only
 refine Def.dif (fun e=>?_) (fun e=>Def.ret ⟨⟨ho.few,ho.ids,fun d hd=>⟨(ho.top d hd).1,by have:=(ho.top d hd).2;omega⟩,ho.each⟩,hr.le (by omega)⟩)
 refine Def.ite (by unfold fits;omega) ?_
 refine Def.bind (pick_def N 3 hr (by omega)) fun r2 ⟨q0,q1,_,h2⟩=>?_
 have q1:=q1 (by omega)
 refine Def.ite (by unfold fits;omega) ?_
 refine Def.bind (doc_def N _ h2 (by omega) hN) fun r3 ⟨e3,s3,h3⟩=>?_
 refine Def.ite (room_of (by simp;omega) (by simp;omega)) (Def.ite (by unfold fits;omega) (hgo _ ⟨out++ [(r3.1,r3.2.1,r3.2.2.1)],id+1+r2.1,n-1,_,_,by omega,?_,by omega,⟨?_,?_,fun z hz=>?_,fun z hz=>?_⟩,h3.le (by omega),?_⟩ ?_))
 .simp only [zam,zi,zac];omega
 .simp only [zam,zi,zac];omega
 .refine List.pairwise_append.2 ⟨ho.ids,by simp,fun a ha b hb=>?_⟩
  rw[zaD]at hb
  subst hb
  have:=(ho.top a ha).2
  show a.1<r3.1
  omega
 .rcases zaB.1 hz with hz|hz
  .have:=ho.top z hz;omega
  .rw [zaD]at hz;subst hz;dsimp only;omega
 .rcases zaB.1 hz with hz|hz
  .exact ho.each z hz
  .rw [zaD.1 hz];exact⟨s3.1.ok (by omega) (by rw[e3];omega),s3.2.1,s3.2.2⟩
 .rw [show((n:Int)-1)=((n-1:Nat):Int)from by omega]
 .show ((n:Int)-1).toNat<(n:Int).toNat
  omega
def okSynW' (st:List (List UInt8)) (w:List UInt8):Bool:=okW w&&(decide (once w=none)&& !decide (w∈st))
def okSyn' (st:List (List UInt8)) (y:ESyn):Bool:=(decide ((1:Int)<=y.1.length)&&decide ((y.1.length:Int)<=3))&&(okW y.2&&(decide (once y.2=none)&&y.1.all (okSynW' st)))
def okConf' (c:EConf):Bool:=decide ((c.1.length:Int)<=6)&&(allN c.1.length (okUp c.1)&&(decide ((c.2.length:Int)<=4)&&c.2.all (okSyn' c.1)))
theorem okConf_of (c:EConf) (h:okConf' c=true):okConf c=true:=by
 unfold okConf' at h
 unfold okConf
 simp only[zj,zw,zax]at h⊢
 refine⟨h.1,h.2.1,h.2.2.1,fun y hy=>?_⟩
 have h1:=h.2.2.2 y hy
 unfold okSyn' at h1
 unfold okSyn
 simp only[zj,zw,zax]at h1⊢
 refine⟨h1.1,h1.2.1,stemF_none h1.2.2.1,fun w hw=>?_⟩
 have h2:=h1.2.2.2 w hw
 unfold okSynW' at h2
 unfold okSynW
 simp only[zj,zw]at h2⊢
 exact⟨h2.1,stemF_none h2.2.1,h2.2.2⟩
def fewC (c:EConf):Bool:=decide (c.1.length<=10)&&c.1.all (fun w=>decide (w.length<=20))&&decide (c.2.length<=10)&&c.2.all (fun y=>decide (y.1.length<=10)&&y.1.all (fun w=>decide (w.length<=20))&&decide (y.2.length<=20))
theorem fewC_ok (c:EConf) (h:fewC c=true):okD Sm TConf c:=by
 unfold fewC at h
 simp only[zj,zw,zax]at h
 obtain⟨⟨⟨h1,h2⟩,h3⟩,h4⟩:=h
 refine⟨⟨by show c.1.length<=1048576;omega,fun x hx=>by have:=h2 x hx;show x.length<=1048576;omega⟩,⟨by show c.2.length<=1048576;omega,fun y hy=>?_⟩⟩
 have h5:=h4 y hy
 exact⟨⟨by show y.1.length<=1048576;omega,fun x hx=>by have:=h5.1.2 x hx;show x.length<=1048576;omega⟩,by show y.2.length<=1048576;omega⟩
def stops3 :List (List (List UInt8)):=[[],[[116,104,101]],[[100,111,103],[116,104,101]]]
def syns3 :List (List ESyn):=[[],[([[110,101,119],[121,111,114,107]],[110,121])],[([[98,105,103]],[108,97,114,103]),([[98,105,103],[114,101,100],[102,111,120]],[102,111,120]),([[110,101,119],[121,111,114,107]],[110,121])]]
theorem confs_ok :∀s,s∈stops3->∀y,y∈syns3->okConf' (s,y)=true/\fewC (s,y)=true:=by decide+kernel
theorem conf_def (N:Nat) {b:List Int} {k:Int} {j:Nat} (h:Rdr b k j) (hj:j<=10000):Def (s_l30Conf_m N b k) fun r=>(okConf (r.1,r.2.1)=true/\okD Sm TConf (r.1,r.2.1))/\Rdr r.2.2.1 r.2.2.2 (j+3):=by
 have fin:∀s y,s∈stops3->y∈syns3->okConf (s,y)=true/\okD Sm TConf (s,y):=fun s y hs hy=>⟨okConf_of _ (confs_ok s hs y hy).1,fewC_ok _ (confs_ok s hs y hy).2⟩
 unfold s_l30Conf_m
 refine Def.meet (fun g=>∃c x y,c∈stops3/\Rdr x y (j+1)/\g=(c,x,y)) ?_ fun J hJ=>?_
 .rintro _ ⟨c,x,y,hc,hr,rfl⟩
  dsimp only
  refine Def.meet (fun g=>∃c x y,c∈stops3/\Rdr x y (j+2)/\g=(c,x,y)) ?_ fun J hJ=>?_
  .rintro _ ⟨c,x,y,hc,hr,rfl⟩
   dsimp only
   refine Def.bind (pick_def N 4 hr (by omega)) fun r3 ⟨_,_,_,h3⟩=>?_
   refine Def.dif (fun _=>Def.ret ⟨fin _ _ hc (by simp[syns3]),h3⟩) (fun _=>?_)
   exact Def.dif (fun _=>Def.ret ⟨fin _ _ hc (by simp[syns3]),h3⟩) (fun _=>Def.ret ⟨fin _ _ hc (by simp[syns3]),h3⟩)
  .refine Def.bind (pick_def N 4 hr (by omega)) fun r2 ⟨_,_,_,h2⟩=>?_
   exact Def.dif (fun _=>hJ _ ⟨_,_,_,by decide,h2,rfl⟩) (fun _=>hJ _ ⟨_,_,_,hc,h2,rfl⟩)
 .refine Def.bind (pick_def N 3 h (by omega)) fun r ⟨_,_,_,h1⟩=>?_
  exact Def.dif (fun _=>hJ _ ⟨_,_,_,by decide,h1,rfl⟩) (fun _=>hJ _ ⟨_,_,_,by decide,h1,rfl⟩)
structure Drawn (c:EConf) (s:ESeg):Prop where
 conf:okD Sm TConf c
 docs:∀x,x∈s.1->okD Sm TDoc x
 few:s.1.length<=1048576
theorem seg_def (N:Nat) (hM:1048576<N) {b:List Int} {k:Int} (h:Rdr b k 0):Def (s_l30Seg_m N b k) fun r=>Drawn (r.1,r.2.1) (r.2.2.1,r.2.2.2.1)/\(0<r.2.2.2.1.length->0<r.2.2.1.length)/\r.2.2.2.1.length<=10000/\Rdr r.2.2.2.2.1 r.2.2.2.2.2 1000:=by
 unfold s_l30Seg_m
 refine Def.bind (conf_def N h (by omega)) fun r ⟨⟨c1,c2⟩,h1⟩=>?_
 refine Def.bind (docs_def N h1 (by omega) (by omega)) fun r2 ⟨d1,h2⟩=>?_
 have hd:=d1.ok
 rw[l7Of_spec N (r.1,r.2.1) c1 hd hM,za]
 have hs:=(entries_small (r.1,r.2.1) hd).1
 refine Def.ret ⟨⟨c2,fun x hx=>(d1.each x hx).1,by have:=d1.few;show r2.1.length<=_;omega⟩,fun hl=>?_,by show(entriesS (r.1,r.2.1) r2.1).length<=_;omega,h2.le (by omega)⟩
 show 0<r2.1.length
 rcases Nat.eq_zero_or_pos r2.1.length with h0|h0
 .have:r2.1=[]:=zbj h0
  dsimp only at hl
  rw[this]at hl
  exact absurd hl (Nat.lt_irrefl _)
 .exact h0
theorem anySeg_def (N:Nat) (hM:1048576<N) {b:List Int} {k:Int} (h:Rdr b k 0):Def (s_l30AnySeg_m N b k) fun r=>Drawn (r.1,r.2.1) (r.2.2.1,r.2.2.2.1)/\Rdr r.2.2.2.2.1 r.2.2.2.2.2 1002:=by
 unfold s_l30AnySeg_m
 refine Def.bind (seg_def N hM h) fun r ⟨d1,d2,d3,h1⟩=>?_
 refine Def.dif (fun e=>?_) (fun e=>Def.ret ⟨d1,h1.le (by omega)⟩)
 refine Def.bind (pick_def N _ h1 (by omega)) fun r2 ⟨p0,p1,_,h2⟩=>?_
 have p1:=p1 (by omega)
 refine Def.bind (pick_def N 16 h2 (by omega)) fun r3 ⟨_,_,_,h3⟩=>?_
 have hn:r2.1.toNat<r.2.2.2.1.length:=by omega
 refine Def.dif (fun _=>?_) (fun _=>?_)
 .refine Def.ite (by omega) ?_
  rw[zc hn,za]
  exact Def.ret ⟨⟨d1.conf,d1.docs,d1.few⟩,h3⟩
 refine Def.dif (fun _=>?_) (fun _=>?_)
 .refine Def.ite (by omega) ?_
  rw[zc hn,za]
  exact Def.ite (room_of (by simp;omega) (by simp;omega)) (Def.ret ⟨⟨d1.conf,d1.docs,d1.few⟩,h3⟩)
 refine Def.dif (fun _=>?_) (fun _=>Def.ret ⟨d1,h3⟩)
 have hdl:=d2 (by omega)
 refine Def.cut (by omega) (by omega) (by omega) (Def.ret ⟨⟨d1.conf,fun x hx=>?_,?_⟩,h3⟩)
 .exact d1.docs x (zaP (zbP hx))
 .have:=d1.few
  show((r.2.2.1.take _).drop _).length<=1048576
  rw[zaQ,zah]
  dsimp only at this
  omega
theorem one_def (N:Nat) {l:List Int} {b:List Int} {k:Int} {j:Nat} (hl:0<l.length) (h:Rdr b k j) (hj:j<=1000000):Def (s_l30Rd_one_m N l b k) fun r=>r.1∈l/\Rdr r.2.1 r.2.2 (j+1):=by
 unfold s_l30Rd_one_m
 refine Def.bind (pick_def N _ h hj) fun r ⟨h0,h1,_,h3⟩=>?_
 exact Def.idx h0 (h1 (by omega)) fun x hx _=>Def.ret ⟨hx,h3⟩
def AQ (q:DQ):Prop:=∀n,BQ n q
theorem AQ.mk' {k:Int} {f:List UInt8} {ws:List (List UInt8)} {a b:Int} {kids:List DQ} (h1:f.length<=1000) (h2:ws.length<=1000) (h3:∀w,w∈ws->w.length<=1000) (h4:kids.length<=1000) (h5:∀c,c∈kids->AQ c):AQ (.mk k f ws a b kids)
 |0=>True.intro
 |n+1=>⟨by show f.length<=_;omega,by show ws.length<=_;omega,fun w hw=>by have:=h3 w hw;omega,by show kids.length<=_;omega,fun c hc=>h5 c hc n⟩
theorem nil100 :([]:List UInt8).length<=100:=by decide
theorem nilW :([]:List (List UInt8)).length<=100:=by decide
theorem nilK :([]:List DQ).length<=100:=by decide
structure Own (q:Int) (f:List UInt8) (ws:List (List UInt8)) (kids:List DQ):Prop where
 f:f.length<=100
 n:ws.length<=100
 w:∀w,w∈ws->w.length<=100
 k:kids.length<=100
 c:∀c,c∈kids->AQ c
theorem Own.aq {q:Int} {f:List UInt8} {ws:List (List UInt8)} {a b:Int} {kids:List DQ} (h:Own q f ws kids):AQ (.mk q f ws a b kids):=
 AQ.mk' (by have:=h.f;omega) (by have:=h.n;omega) (fun w hw=>by have:=h.w w hw;omega) (by have:=h.k;omega) h.c
theorem known_def (N:Nat) {b:List Int} {k:Int} {j:Nat} (h:Rdr b k j) (hj:j<=200000):Def (s_l30Known_m N) fun r3=>Def (s_l30Rd_of_m N r3 b k) fun r=>r.1.length<=100/\Rdr r.2.1 r.2.2 (j+1):=by
 unfold s_l30Known_m
 refine Def.ret ?_
 refine Def.mono (of_def N (by decide) h (by omega)) fun r ⟨m,hr⟩=>⟨?_,hr⟩
 have hall:∀(l:List (List UInt8)),l.all (fun w=>decide (w.length<=100))=true->∀w,w∈l->w.length<=100:=fun l h w hw=>of_decide_eq_true (zax.1 h w hw)
 exact hall _ (by decide) _ m
theorem leaf_def (N:Nat) {b:List Int} {k:Int} {j:Nat} (h:Rdr b k j) (hj:j<=100000):Def (s_l30Leaf_m N b k) fun r=>Own r.1 r.2.1 r.2.2.1 []/\Rdr r.2.2.2.2.2.1 r.2.2.2.2.2.2 (j+10):=by
 have nok:∀c,c∈([]:List DQ)->AQ c:=fun c hc=>by cases hc
 unfold s_l30Leaf_m
 refine Def.bind (of_def N (by decide) h (by omega)) fun r ⟨m,h1⟩=>?_
 have hf:r.1.length<=100:=(by decide:∀w,w∈([([98,111,100,121]:List UInt8),([98,111,100,121]:List UInt8),([116,105,116,108,101]:List UInt8)]:List (List UInt8))->w.length<=100) _ m
 refine Def.bind (pick_def N 9 h1 (by omega)) fun r2 ⟨_,_,_,h2⟩=>?_
 refine Def.dif (fun _=>Def.ret ⟨⟨nil100,nilW,(fun w hw=>by cases hw),nilK,nok⟩,h2.le (by omega)⟩) (fun _=>?_)
 refine Def.dif (fun _=>?_) (fun _=>?_)
 .refine Def.bind (known_def N h2 (by omega)) fun r3 d3=>Def.bind d3 fun r4 ⟨l4,h4⟩=>?_
  refine Def.bind (known_def N h4 (by omega)) fun r5 d5=>Def.bind d5 fun r6 ⟨l6,h6⟩=>?_
  refine Def.bind (pick_def N 3 h6 (by omega)) fun r7 ⟨_,_,_,h7⟩=>Def.ret ⟨⟨hf,by simp,fun w hw=>?_,nilK,nok⟩,h7.le (by omega)⟩
  simp only[zp,List.mem_nil_iff,or_false]at hw
  rcases hw with e|e<;>rw[e]<;>assumption
 refine Def.dif (fun _=>?_) (fun _=>?_)
 .refine Def.bind (of_def N (by decide) h2 (by omega)) fun r8 ⟨m8,h8⟩=>?_
  have l8:r8.1.length<=100:=(by decide:∀w,w∈([([99,111,116]:List UInt8),([100,117,103]:List UInt8),([114,110]:List UInt8),([102,111,103]:List UInt8)]:List (List UInt8))->w.length<=100) _ m8
  refine Def.bind (pick_def N 2 h8 (by omega)) fun r9 ⟨p0,p1,_,h9⟩=>?_
  have p1:=p1 (by omega)
  exact Def.ite (by unfold fits;omega) (Def.ret ⟨⟨hf,by simp,(fun w hw=>by rw[zaD.1 hw];exact l8),nilK,nok⟩,h9.le (by omega)⟩)
 refine Def.dif (fun _=>?_) (fun _=>?_)
 .refine Def.bind (of_def N (by decide) h2 (by omega)) fun r8 ⟨m8,h8⟩=>?_
  have l8:r8.1.length<=100:=(by decide:∀w,w∈([([99,42]:List UInt8),([63,111,63]:List UInt8),([42,110]:List UInt8),([42]:List UInt8)]:List (List UInt8))->w.length<=100) _ m8
  exact Def.ret ⟨⟨hf,by simp,(fun w hw=>by rw[zaD.1 hw];exact l8),nilK,nok⟩,h8.le (by omega)⟩
 refine Def.dif (fun _=>?_) (fun _=>?_)
 .refine Def.bind (pick_def N 4 h2 (by omega)) fun r8 ⟨p0,p1,_,h8⟩=>?_
  refine Def.bind (pick_def N 3 h8 (by omega)) fun r9 ⟨q0,q1,_,h9⟩=>?_
  have p1:=p1 (by omega)
  have q1:=q1 (by omega)
  exact Def.ite (by unfold fits;omega) (Def.ret ⟨⟨by simp,nilW,(fun w hw=>by cases hw),nilK,nok⟩,h9.le (by omega)⟩)
 .refine Def.bind (known_def N h2 (by omega)) fun r3 d3=>Def.bind d3 fun r4 ⟨l4,h4⟩=>?_
  exact Def.ret ⟨⟨hf,by simp,(fun w hw=>by rw[zaD.1 hw];exact l4),nilK,nok⟩,h4.le (by omega)⟩
def dT :Nat->Nat
 |0=>10
 |n+1=>3*dT n+3
theorem dT_ge :∀n,10<=dT n
 |0=>zae _
 |n+1=>by have:=dT_ge n;show 10<=3*dT n+3;omega
theorem query_def (N:Nat) (hN:20<=N):∀(D deep:Nat),deep<D->∀ {b:List Int} {k:Int} {j:Nat},Rdr b k j->j+dT deep<=100000->deep<=10->Def (s_l30Query_m N D (deep:Int) b k) fun r=>Own r.1 r.2.1 r.2.2.1 r.2.2.2.2.2.1/\Rdr r.2.2.2.2.2.2.1 r.2.2.2.2.2.2.2 (j+dT deep)
 |0,_,hd,_,_,_,_,_,_=>absurd hd (Nat.not_lt_zero _)
 |D+1,deep,hd,b,k,j,h,hj,hdd=>by
  have hg:=dT_ge deep
  rw[s_l30Query_m]
  refine Def.dif (fun e=>?_) (fun e=>?_)
  .exact Def.bind (leaf_def N h (by omega)) fun r ⟨o,h1⟩=>Def.ret ⟨o,h1.le (by omega)⟩
  obtain⟨d,rfl⟩:∃d,deep=d+1:=⟨deep-1,by omega⟩
  have hdt:dT (d+1)=3*dT d+3:=rfl
  have hg2:=dT_ge d
  have e1:((d+1:Nat):Int)-1=(d:Int):=by omega
  refine Def.bind (pick_def N 3 h (by omega)) fun r2 ⟨_,_,_,h2⟩=>?_
  refine Def.dif (fun _=>Def.bind (leaf_def N h2 (by omega)) fun r ⟨o,h1⟩=>Def.ret ⟨o,h1.le (by omega)⟩) (fun _=>?_)
  refine Def.bind (pick_def N 6 h2 (by omega)) fun r4 ⟨_,_,_,h4⟩=>?_
  refine Def.dif (fun _=>?_) (fun _=>?_)
  .refine Def.ite (by unfold fits;omega) ?_
   rw[e1]
   refine Def.bind (query_def N hN D d (by omega) h4 (by omega) (by omega)) fun r5 ⟨o5,h5⟩=>?_
   refine Def.ite (by unfold fits;omega) ?_
   refine Def.bind (query_def N hN D d (by omega) h5 (by omega) (by omega)) fun r6 ⟨o6,h6⟩=>?_
   refine Def.ret ⟨⟨nil100,nilW,(fun w hw=>by cases hw),by simp,fun c hc=>?_⟩,h6.le (by omega)⟩
   simp only[zp,List.mem_nil_iff,or_false]at hc
   rcases hc with rfl|rfl
   .exact o5.aq
   .exact o6.aq
  refine Def.dif (fun _=>?_) (fun _=>?_)
  .refine Def.bind (pick_def N 4 h4 (by omega)) fun r7 ⟨p0,p1,_,h7⟩=>?_
   have p1:=p1 (by omega)
   refine Def.ite (by unfold fits;omega) (Def.ite (by unfold fits;omega) ?_)
   rw[e1]
   refine Def.bind (query_def N hN D d (by omega) h7 (by omega) (by omega)) fun r8 ⟨o8,h8⟩=>?_
   exact Def.ret ⟨⟨nil100,nilW,(fun w hw=>by cases hw),by simp,(fun c hc=>by rw[zaD.1 hc];exact o8.aq)⟩,h8.le (by omega)⟩
  refine Def.meet (fun g=>∃(t:Bool) (x:List Int) (y:Int),Rdr x y (j+2)/\g=(((d+1:Nat):Int),t,0,([]:List UInt8),0,0,x,y)) ?_ fun J hJ=>?_
  .rintro _ ⟨t,x,y,hr,rfl⟩
   dsimp only
   refine Def.bif (fun _=>?_) (fun _=>?_)
   .refine Def.ite (by unfold fits;omega) ?_
    rw[e1]
    refine Def.bind (query_def N hN D d (by omega) hr (by omega) (by omega)) fun r5 ⟨o5,h5⟩=>?_
    refine Def.ite (by unfold fits;omega) ?_
    refine Def.bind (query_def N hN D d (by omega) h5 (by omega) (by omega)) fun r6 ⟨o6,h6⟩=>?_
    refine Def.ret ⟨⟨nil100,nilW,(fun w hw=>by cases hw),by simp,fun c hc=>?_⟩,h6.le (by omega)⟩
    simp only[zp,List.mem_nil_iff,or_false]at hc
    rcases hc with rfl|rfl
    .exact o5.aq
    .exact o6.aq
   .refine Def.bind (pick_def N 2 hr (by omega)) fun r11 ⟨p0,p1,_,h11⟩=>?_
    have p1:=p1 (by omega)
    refine Def.ite (by unfold fits;omega) ?_
    refine Def.iter (fun g=>∃(n:Nat) (kids:List DQ) (x:List Int) (y:Int),kids.length+n<=3/\(∀c,c∈kids->AQ c)/\Rdr x y (j+3+(3-n)*dT d)/\g=(((d+1:Nat):Int),(n:Int),0,([]:List UInt8),0,0,8,([]:List UInt8),0,0,kids,x,y)) (fun g=>g.2.1.toNat) ?_ N _
     ⟨(2+r11.1).toNat,[],_,_,by simp;omega,(fun c hc=>by cases hc),h11.le (by omega),by rw[zbU (by omega)]⟩ (by show(2+r11.1).toNat<N;omega)
    rintro go _ ⟨n,kids,x,y,hn,hk,hr,rfl⟩ hgo
    dsimp only
    refine Def.dif (fun e3=>?_) (fun e3=>?_)
    .refine Def.ite (by unfold fits;omega) ?_
     rw[e1]
     have hb:(3-n)*dT d<=2*dT d:=zag _ (by omega)
     refine Def.bind (query_def N hN D d (by omega) hr (by omega) (by omega)) fun r12 ⟨o12,h12⟩=>?_
     refine Def.ite (room_of (by rw[zbE];omega) (by rw[zbE];omega)) (Def.ite (by unfold fits;omega) (hgo _ ⟨n-1,kids++ [DQ.mk r12.1 r12.2.1 r12.2.2.1 r12.2.2.2.1 r12.2.2.2.2.1 r12.2.2.2.2.2.1],_,_,by rw[zam,zbE];omega,fun c hc=>?_,h12.le ?_,by rw[show((n:Int)-1)=((n-1:Nat):Int)from by omega]⟩ (by show((n:Int)-1).toNat<((n:Int)).toNat;omega)))
     .rcases zaB.1 hc with hc|hc
      .exact hk c hc
      .rw [zaD.1 hc];exact o12.aq
     .have e4:3-(n-1)=(3-n)+1:=by omega
      rw[e4,zaO,Nat.one_mul];omega
    .have hb:(3-n)*dT d<=3*dT d:=zag _ (by omega)
     exact Def.ret ⟨⟨nil100,nilW,(fun w hw=>by cases hw),by dsimp only;omega,hk⟩,hr.le (by omega)⟩
  .exact Def.dif (fun _=>hJ _ ⟨_,_,_,h4,rfl⟩) (fun _=>hJ _ ⟨_,_,_,h4,rfl⟩)
theorem query3_def (N:Nat) (hN:20<=N) {b:List Int} {k:Int} {j:Nat} (h:Rdr b k j) (hj:j<=50000):Def (s_l30Query_m N N 3 b k) fun r=>Own r.1 r.2.1 r.2.2.1 r.2.2.2.2.2.1/\Rdr r.2.2.2.2.2.2.1 r.2.2.2.2.2.2.2 (j+309):=
 query_def N hN N 3 (by omega) h (by show j+309<=_;omega) (by omega)
theorem anyQuery_def (N:Nat) (hN:20<=N) {b:List Int} {k:Int} {j:Nat} (h:Rdr b k j) (hj:j<=50000):Def (s_l30AnyQuery_m N b k) fun r=>AQ (.mk r.1 r.2.1 r.2.2.1 r.2.2.2.1 r.2.2.2.2.1 r.2.2.2.2.2.1)/\Rdr r.2.2.2.2.2.2.1 r.2.2.2.2.2.2.2 (j+312):=by
 unfold s_l30AnyQuery_m
 refine Def.bind (query3_def N hN h hj) fun r ⟨o,h1⟩=>?_
 have o1:=o.f;have o2:=o.n;have o3:=o.k
 refine Def.bind (pick_def N 16 h1 (by omega)) fun r2 ⟨_,_,_,h2⟩=>?_
 refine Def.dif (fun _=>?_) (fun _=>?_)
 .exact Def.bind (one_def N (by simp) h2 (by omega)) fun r3 ⟨_,h3⟩=>Def.ret ⟨Own.aq ⟨o.f,o.n,o.w,o.k,o.c⟩,h3.le (by omega)⟩
 refine Def.dif (fun _=>?_) (fun _=>?_)
 .exact Def.bind (one_def N (by simp) h2 (by omega)) fun r3 ⟨_,h3⟩=>Def.ret ⟨o.aq,h3.le (by omega)⟩
 refine Def.dif (fun _=>?_) (fun _=>?_)
 .refine Def.ite (room_of (by rw[zbE];omega) (by rw[zbE];omega)) (Def.ret ⟨AQ.mk' (by dsimp only;omega) (by dsimp only;rw[zam,zbE];omega) (fun w hw=>?_) (by dsimp only;omega) o.c,h2.le (by omega)⟩)
  rcases zaB.1 hw with hw|hw
  .have:=o.w w hw;omega
  .rw [zaD.1 hw];decide
 refine Def.dif (fun _=>?_) (fun _=>Def.ret ⟨o.aq,h2.le (by omega)⟩)
 refine Def.ite (room_of (by rw[zbE];omega) (by rw[zbE];omega)) (Def.ret ⟨AQ.mk' (by dsimp only;omega) (by dsimp only;omega) (fun w hw=>by have:=o.w w hw;omega) (by dsimp only;rw[zam,zbE];omega) (fun c hc=>?_),h2.le (by omega)⟩)
 rcases zaB.1 hc with hc|hc
 .rw [zaD.1 hc];exact o.aq
 .exact o.c c hc
structure FitX (N:Nat) (x:EIndex):Prop where
 fit:FitI N x
 few:x.2.length<=6
 each:∀l,l∈x.2->FitL l
theorem foInts_same (N:Nat) (hN:1048576<N) (l:List Int) (hl:l.length<=1048576):l_foInts_m N l l=some true:=by
 unfold l_foInts_m
 rw[zb rfl,zn,ze]
 refine(iter_scan _ l.length (fun n=>(l,l,(n:Int))) (fun _=>some true) (fun go=>?_) (fun go n hn hgo=>?_) N 0 (zaf _) (by omega)).trans rfl
 .dsimp only
  rw[zd (zm _),ze]
 .dsimp only
  rw[zb (by omega:(n:Int)<l.length),zg,idx_at hn,za,za,zb rfl,zn,ze,zf (fits_nat (n:=n) (by omega)),<-hgo,cast_succ']
theorem bytes_ok {code:List Int} (h:okD BigN (.sl (.int .u8)) code):Bs code:=fun x hx=>by
 have:=h.2 x hx
 have e1:IntKind.u8.min=0:=by decide
 have e2:IntKind.u8.max=255:=by decide
 exact⟨by have h1:=this.1;rw[e1]at h1;exact h1,by have h1:=this.2;rw[e2]at h1;exact h1⟩
structure Twin (N:Nat) (c:EConf) (s t:ESeg) (d:EDoc):Prop where
 g1:GoodS N c s
 g2:GoodS N c t
 d1:docOf s.1 d.1=some d
 d2:docOf t.1 d.1=some d
structure TwoV (N:Nat) (c:EConf) (s:ESeg) (d:EDoc) (q p:DQ):Prop where
 low1:0<=valS N N c s d q
 low2:0<=valS N N c s d p
 both:0<valS N N c s d (.mk 7 [] [] 0 0 [q,p])↔0<valS N N c s d q/\0<valS N N c s d p
 either:0<valS N N c s d (.mk 8 [] [] 0 0 [q,p])↔0<valS N N c s d q\/0<valS N N c s d p
 less:0<valS N N c s d (.mk 9 [] [] 0 0 [q,p])↔0<valS N N c s d q/\¬0<valS N N c s d p
theorem okDoc_id {d:EDoc} (h:okDoc d=true):1<=d.1/\d.1<=9999:=by
 unfold okDoc at h
 simp only[zj,zw]at h
 omega
def idsP (docs:List EDoc) (P:EDoc->Bool):List Int:=(docs.filter P).map (·.1)
theorem idsP_up {docs:List EDoc} (hi:docs.Pairwise fun a b=>a.1<b.1) (P:EDoc->Bool):upL (idsP docs P):=by
 unfold idsP upL
 exact zbb.2 (hi.sublist List.filter_sublist)
theorem idsP_len (docs:List EDoc) (P:EDoc->Bool):(idsP docs P).length<=docs.length:=by
 unfold idsP
 rw[zar]
 exact zbh _ _
theorem upB_of {l:List Int} (h1:upL l) (h2:l.length<=60) (h3:∀x,x∈l->0<=x/\x<=999999999):upB l=true:=by
 unfold upB allN
 rw[zj,zax,zw]
 refine⟨fun n hn=>?_,by omega⟩
 have hn:n<l.length:=by simpa using hn
 unfold upC
 rw[<-iAt_eq hn]
 have h4:=h3 _ (zr hn)
 rw[zb h4.1,zb h4.2,zaj,zaj]
 match n,hn with
 |0,_=>rfl
 |n+1,hn=>
  rw[zbq,<-iAt_eq (by omega:n<l.length)]
  have:=za2.1 h1 n (n+1) (by omega) hn (by omega)
  rw[zd (by omega),zd (by omega)]
  rfl
theorem idsP_ok {docs:List EDoc} (h:okDocs docs=true) (P:EDoc->Bool):upB (idsP docs P)=true:=by
 have hd:=okDocs_ok h
 have hl:=idsP_len docs P
 have hf:=hd.few
 refine upB_of (idsP_up hd.inn.ids P) (by omega) fun x hx=>?_
 obtain⟨d,h1,rfl⟩:=zab.1 hx
 have h2:=okDoc_each h d (zaZ.1 h1).1
 have:=okDoc_id h2
 omega
theorem hits_ids (V:EDoc->Int):∀docs:List EDoc,(hitsP V allP docs).map (·.1)=idsP docs fun d=>decide (0<V d)
 | []=>rfl
 |d::l=>by
  have ih:=hits_ids V l
  unfold hitsP idsP at ih⊢
  rw[zbK,za9]
  by_cases h:0<V d
  .rw [show hitP V allP d=some (d.1,V d)from by unfold hitP;rw[zb h];rfl,zf (zb h)]
   dsimp only
   rw[zv,zv,ih]
  .rw [show hitP V allP d=none from by unfold hitP;rw[zd h];rfl,zu (by simpa using h)]
   exact ih
theorem match_ids {N:Nat} {c:EConf} {s:ESeg} {q:DQ} (hs:okSeg c s=true) (hq:okQ 4 q=true):matchR N c s q=idsP s.1 fun d=>decide (0<valS N N c s d q):=by
 unfold matchR hitsR
 rw[hs,hq,Bool.and_self,zg]
 exact hits_ids _ _
theorem drawMatchOf_def (N:Nat) (hM:Sm<N) {code:List Int} (hb:Bs code):Def (s_DrawMatchOf_m N code) fun r=>Drawn (r.1,r.2.1) (r.2.2.1,r.2.2.2.1)/\AQ (.mk r.2.2.2.2.1 r.2.2.2.2.2.1 r.2.2.2.2.2.2.1 r.2.2.2.2.2.2.2.1 r.2.2.2.2.2.2.2.2.1 r.2.2.2.2.2.2.2.2.2):=by
 have hM':1048576<N:=hM
 unfold s_DrawMatchOf_m
 refine Def.bind (open_def N hb) fun r h0=>?_
 refine Def.bind (anySeg_def N hM' h0) fun r2 ⟨dr,h2⟩=>?_
 refine Def.bind (pick_def N 10 h2 (by omega)) fun r3 ⟨_,_,_,h3⟩=>?_
 refine Def.dif (fun _=>?_) (fun _=>?_)
 .exact Def.bind (anyQuery_def N (by omega) h3 (by omega)) fun r4 ⟨a4,_⟩=>Def.ret ⟨dr,a4⟩
 .exact Def.bind (query3_def N (by omega) h3 (by omega)) fun r5 ⟨o5,_⟩=>Def.ret ⟨dr,o5.aq⟩
theorem snocInd {Y:Type} {p:List Y->Prop} (nil:p []) (snoc:∀l x,p l->p (l++ [x])) (l:List Y):p l:=by
 have h:∀r:List Y,p r.reverse:=fun r=>by
  induction r with
  |nil=>exact nil
  |cons x r ih=>rw[List.reverse_cons];exact snoc _ _ ih
 have:=h l.reverse
 rwa[List.reverse_reverse]at this
theorem fmap_congr {Y β:Type} {f g:Y->Option β}:∀l:List Y,(∀i,i∈l->f i=g i)->l.filterMap f=l.filterMap g
 | [],_=>rfl
 |x::l,h=>by rw[zbK,zbK,h x zy,fmap_congr l fun i hi=>h i (zl _ hi)]
theorem leftI_zero (n:Nat):leftI n 0=List.range n:=by
 unfold leftI
 rw[List.filter_eq_self]
 intro i _
 simp
theorem leftI_nodup (n m:Nat):(leftI n m).Nodup:=List.nodup_range.filter _
theorem leftI_next {n m i:Nat} (h:i∈leftI n m):(leftI n m).Perm (i::leftI n (m|||2^i)):=by
 have e:leftI n (m|||2^i)=(leftI n m).erase i:=by
  rw[(leftI_nodup n m).erase_eq_filter]
  unfold leftI
  rw[List.filter_filter]
  apply List.filter_congr
  intro j _
  rw[Nat.testBit_or,Nat.testBit_two_pow]
  by_cases hj:i=j
  .subst hj;simp
  .have:¬j=i:=fun e=>hj e.symm
   simp[hj,this]
 rw[e]
 exact List.perm_cons_erase h
theorem leftI_lt {n m i:Nat} (h:i∈leftI n m):i<n:=(leftI_mem.1 h).1
def restI {Y:Type} (es:List Y) (m:Nat):List Y:=(leftI es.length m).filterMap fun i=>es[i]?
theorem restI_zero {Y:Type} (es:List Y):restI es 0=es:=by
 unfold restI
 rw[leftI_zero]
 apply zbc
 intro j
 rw[show(List.range es.length).filterMap (fun i=>es[i]?)=es from by
  induction es using snocInd with
  |nil=>rfl
  |snoc l x ih=>
   rw[zam,zbE,List.range_succ,List.filterMap_append]
   have:(List.range l.length).filterMap (fun i=>(l++ [x])[i]?)=(List.range l.length).filterMap (fun i=>l[i]?):=by
    apply fmap_congr
    intro i hi
    rw[zay (List.mem_range.1 hi)]
   rw[this,ih]
   simp]
theorem restI_next {Y:Type} {es:List Y} {m i:Nat} {x:Y} (h:i∈leftI es.length m) (hx:es[i]? =some x):(restI es m).Perm (x::restI es (m|||2^i)):=by
 unfold restI
 have:=(leftI_next h).filterMap fun i=>es[i]?
 rw[zbK,hx]at this
 exact this
theorem restI_nil {Y:Type} {es:List Y} {m:Nat} (h:leftI es.length m=[]):restI es m=[]:=by unfold restI;rw[h];rfl
theorem leftI_len {n m i:Nat} (h:i∈leftI n m):(leftI n m).length=(leftI n (m|||2^i)).length+1:=(leftI_next h).length_eq
theorem restI_len {Y:Type} (es:List Y) (m:Nat):(restI es m).length=(leftI es.length m).length:=by
 unfold restI
 have:∀l:List Nat,(∀i,i∈l->i<es.length)->(l.filterMap fun i=>es[i]?).length=l.length:=by
  intro l
  induction l with
  |nil=>exact fun _=>rfl
  |cons i l ih=>
   intro h
   have hi:=h i zy
   rw[zbK,zc hi]
   simp[ih fun j hj=>h j (zl _ hj)]
 exact this _ fun i hi=>leftI_lt hi
def cntM (l:List Int):List (Int×Int):=l.foldl (fun es x=>mput (.int .i64) (.int .i64) es x (((mget (.int .i64) (.int .i64) es x).getD 0:Int)+1)) []
theorem mput_keys (es:List (Int×Int)) (k v:Int):(mput (.int .i64) (.int .i64) es k v).map (·.1)=bif(es.map (·.1)).contains k then es.map (·.1)else es.map (·.1)++ [k]:=by
 induction es with
 |nil=>rfl
 |cons e l ih=>
  show List.map (·.1) (bif decide (k=e.1)then(k,v)::l else e::mput (.int .i64) (.int .i64) l k v)=_
  by_cases h:k=e.1
  .subst h;simp
  .rw [zd h]
   simp only[ze,zv,ih,List.contains_cons]
   have:(k==e.1)=false:=by simpa using h
   rw[this,zbf]
   cases(l.map (·.1)).contains k<;>rfl
theorem cntM_inv (l:List Int):((cntM l).map (·.1)).Nodup/\(∀x,x∈(cntM l).map (·.1)↔x∈l)/\(∀e,e∈cntM l->0<=e.2/\e.2<=l.length):=by
 unfold cntM
 induction l using snocInd with
 |nil=>exact⟨List.nodup_nil,fun x=>by simp,fun e h=>by cases h⟩
 |snoc l x ih=>
  rw[zaX]
  simp only[zaq,List.foldl_nil]
  obtain⟨h1,h2,h3⟩:=ih
  generalize l.foldl _ []=es at h1 h2 h3
  refine⟨?_,fun y=>?_,fun e he=>?_⟩
  .rw [mput_keys]
   cases hc:(es.map (·.1)).contains x with
   |true=>exact h1
   |false=>
    simp only[ze]
    rw[List.nodup_append]
    refine⟨h1,by simp,fun a ha b hb e=>?_⟩
    simp at hb;subst hb;subst e
    have:(es.map (·.1)).contains a=true:=by simp only[List.contains_eq_mem,zw];exact ha
    rw[hc]at this;cases this
  .show y∈(mput (.int .i64) (.int .i64) es x _).map (·.1)↔_
   rw[mput_keys,zaB,zaD,<-h2 y]
   cases hc:(es.map (·.1)).contains x with
   |true=>
    simp only[zg]
    simp only[List.contains_eq_mem,zw]at hc
    constructor
    .exact .inl
    .rintro (h|h)
     .exact h
     .subst h;exact hc
   |false=>simp only[ze,zaB,zaD]
  .have hin:∀(es:List (Int×Int)) (v:Int) (e:Int×Int),e∈mput (.int .i64) (.int .i64) es x v->e∈es\/e=(x,v):=by
    intro es v
    induction es with
    |nil=>intro e h;right;simpa[mput]using h
    |cons f es ih=>
     intro e h
     have h:e∈(bif decide (x=f.1)then(x,v)::es else f::mput (.int .i64) (.int .i64) es x v):=h
     cases hd:decide (x=f.1)with
     |true=>
      rw[hd]at h
      rcases zp.1 h with h|h
      .exact .inr h
      .exact .inl (zl _ h)
     |false=>
      rw[hd]at h
      rcases zp.1 h with h|h
      .exact .inl (h▸zy)
      .rcases ih e h with h|h
       .exact .inl (zl _ h)
       .exact .inr h
   have hlen:((l++ [x]).length:Int)=l.length+1:=by simp
   rcases hin es _ e he with h|h
   .have:=h3 e h;omega
   .subst h
    show 0<=((mget (.int .i64) (.int .i64) es x).getD 0:Int)+1/\((mget (.int .i64) (.int .i64) es x).getD 0:Int)+1<=_
    cases hg:mget (.int .i64) (.int .i64) es x with
    |none=>show(0:Int)<=0+1/\(0:Int)+1<=_;omega
    |some v=>
     unfold mget at hg
     obtain⟨e',h4,h5⟩:=zaA.1 hg
     have:=h3 e' (zbe h4)
     subst h5
     exact⟨Int.add_nonneg this.1 (by decide),by rw[hlen];exact Int.add_le_add_right this.2 1⟩
def selF (docs:List EDoc) (ids:List Int) (nm:List UInt8):List Int:=(docs.filter fun d=> !decide (numF d.2.2 nm=-1)&&decide (d.1∈ids)).map fun d=>numF d.2.2 nm
theorem selF_len (docs:List EDoc) (ids:List Int) (nm:List UInt8):(selF docs ids nm).length<=docs.length:=by
 unfold selF
 rw[zar]
 exact zbh _ _
def NumD (docs:List EDoc):Prop:=∀d,d∈docs->okD Sm TDoc d/\okDoc d=true/\d.2.2.length<=1048576
theorem selected_spec {N:Nat} (hM:Sm<N) (hN:N<=16777216) (docs:List EDoc) (ids:List Int) (nm:List UInt8) (hd:NumD docs) (hl:docs.length<=1048576) (hi:ids.length<=1048576):i_selected_m N docs ids nm=some (selF docs ids nm):=by
 have hM':1048576<N:=hM
 unfold i_selected_m
 refine(iter_scan _ docs.length (fun n=>(ids,nm,selF (docs.take n) ids nm,docs,(docs.length:Int),(n:Int))) (fun _=>some (selF docs ids nm)) (fun go=>?_) (fun go n hn hgo=>?_) N 0 (zaf _) (by omega)).trans rfl
 .dsimp only
  rw[zd (zm _),ze,zq]
 .dsimp only
  have hl':(selF (docs.take n) ids nm).length<=n:=zau (selF_len _ _ _) (by rw[zah];omega)
  have e:selF (docs.take (n+1)) ids nm=bif !decide (numF docs[n].2.2 nm=-1)then(bif decide (docs[n].1∈ids)then selF (docs.take n) ids nm++ [numF docs[n].2.2 nm]else selF (docs.take n) ids nm)else selF (docs.take n) ids nm:=by
   unfold selF
   rw[zo hn,za6,zaK]
   cases h:decide (numF docs[n].2.2 nm=-1)<;>cases h2:decide (docs[n].1∈ids)<;>simp[h,h2]
  have hf:fits ((n:Int)+1):=fits_nat (by omega)
  obtain⟨o1,o2,o3⟩:=hd docs[n] (zr hn)
  rw[e,cast_succ']at hgo
  rw[zb (by omega:(n:Int)<docs.length),zg,idx_at hn,za,docNum_spec N hM (by omega) docs[n].1 docs[n].2.1 docs[n].2.2 nm o1 o2 o3,za,<-hgo]
  cases decide (numF docs[n].2.2 nm=-1)with
  |true=>simp only[zn,ze,zf hf]
  |false=>
   simp only[zaI,zg]
   rw[containsI_spec N ids _ (by omega) (by omega),za,zf (room_of (by rw[zbE];omega) (by rw[zbE];omega))]
   simp only[zf hf]
   cases decide (docs[n].1∈ids)<;>rfl
theorem cntM_succ (l:List Int) (n:Nat) (hn:n<l.length):cntM (l.take (n+1))=mput (.int .i64) (.int .i64) (cntM (l.take n)) l[n] (((mget (.int .i64) (.int .i64) (cntM (l.take n)) l[n]).getD 0:Int)+1):=by
 unfold cntM
 rw[zo hn,zaX]
 rfl
theorem cntM_get (l:List Int) (x:Int):(0:Int)<=((mget (.int .i64) (.int .i64) (cntM l) x).getD 0:Int)/\((mget (.int .i64) (.int .i64) (cntM l) x).getD 0:Int)<=l.length:=by
 cases hg:mget (.int .i64) (.int .i64) (cntM l) x with
 |none=>exact⟨zbD _,zb8 _⟩
 |some v=>
  unfold mget at hg
  obtain⟨e,h4,h5⟩:=zaA.1 hg
  subst h5
  exact(cntM_inv l).2.2 e (zbe h4)
theorem cntM_len (l:List Int):(cntM l).length<=l.length:=by
 have h:=(cntM_inv l).1
 have h2:∀x,x∈(cntM l).map (·.1)->x∈l:=fun x hx=>((cntM_inv l).2.1 x).1 hx
 have:=h.length_le_of_subset h2
 rwa[zar]at this
theorem facets_sorted {N:Nat} (hM:Sm<N) (hN:N<=16777216) (es:List (Int×Int)) (hk:(es.map (·.1)).Nodup) (hl:es.length<N):∃R:List (Int×Int),R.Perm es/\∀out:List (Int×Int),out.Perm es->k_slices_SortFunc_484_m N out ()=some R:=by
 have hM':1048576<N:=hM
 have one:∀out:List (Int×Int),out.Perm es->Def (k_slices_SortFunc_484_m N out ()) fun r=>r.Perm out/\r.Pairwise fun x y=>ltH x y=true:=fun out ho=>
  sortAny_484 ltH ltH_ordr N hN (by omega) out () ⟨fun x hx y hy=>hitOrder_cmp N (by omega) x y,by
   have:(out.map (·.1)).Nodup:=(ho.map (·.1)).nodup_iff.2 hk
   exact(zbb.1 this).imp fun h=>ltH_total h⟩ (by rw[ho.length_eq];exact hl)
 obtain⟨R,e,hp,hs⟩:=one es (List.Perm.refl _)
 refine⟨R,hp,fun out ho=>?_⟩
 obtain⟨R',e',hp',hs'⟩:=one out ho
 rw[e']
 refine congrArg some (sorted_unique ltH ltH_irrefl (fun a b c h k=>ltH_trans h k) R' R hs' hs fun x=>?_)
 rw[hp'.mem_iff,ho.mem_iff,hp.mem_iff]
theorem facetOf_spec {N:Nat} (hM:Sm<N) (hN:N<=16777216) (docs:List EDoc) (ids:List Int) (nm:List UInt8) (hd:NumD docs) (hl:docs.length<=1048576) (hk:okDocs docs=true) (hi:upB ids=true) (hil:ids.length<=1048576):
  Def (i_FacetOf_m N docs ids nm) fun r=>r.Perm (cntM (selF docs ids nm)):=by
 have hM':1048576<N:=hM
 unfold i_FacetOf_m
 rw[docsOk_spec N hM (by omega) docs (fun x hx=>(hd x hx).1) hl,za,hk,zn,ze,upOk_spec N hM (by omega) ids hil,za,hi,zn,ze,selected_spec hM hN docs ids nm hd hl hil,za]
 have hsl:(selF docs ids nm).length<=1048576:=zau (selF_len _ _ _) hl
 generalize selF docs ids nm=sel at hsl⊢
 obtain⟨R,hR,hS⟩:=facets_sorted hM hN (cntM sel) (cntM_inv sel).1 (by have:=cntM_len sel;omega)
 refine⟨R,?_,hR⟩
 refine(iter_scan _ sel.length (fun n=>(([]:List (Int×Int)),sel,(sel.length:Int),(n:Int),cntM (sel.take n))) (fun _=>some R) (fun go=>?_) (fun go n hn hgo=>?_) N 0 (zaf _) (by omega)).trans rfl
 .dsimp only
  rw[zd (zm _),ze,zq]
  have hlen:=cntM_len sel
  generalize cntM sel=es at hS hR hlen⊢
  have main:∀(k fuel:Nat) (out:List (Int×Int)) (m:Nat) (c:Int),(leftI es.length m).length=k->k<fuel->(out++restI es m).Perm es->iter (fun(go2:((List (Int×Int))×(List (Int×Int))×Int×Int×Int)->Option ((List (Int×Int)))) (g:(List (Int×Int))×(List (Int×Int))×Int×Int×Int)=>
    match g with
    |(out2,b2,b3,b4,b5)=>
    (if(b2.length:Int)=b3 then
    (bif(leftI b2.length (Int.toNat b4)).isEmpty then
    (Option.bind (k_slices_SortFunc_484_m N out2 ()) fun(r4:(List (Int×Int)))=>
    (some r4))
    else
    (anyOf (leftI b2.length (Int.toNat b4)) fun(i:Nat)=>
    (if 0<((i+1:Nat):Int)/\(b2.length:Int)=b3 then
    (Option.bind (b2[Int.toNat ((i+1:Nat):Int)-1]?) fun(e2:Int×Int)=>
    (if room out2.length ([e2]:List (Int×Int)).length 16 then
    (go2 ((out2++([e2]:List (Int×Int))),b2,b3,((Int.toNat b4|||2^i:Nat):Int),((i+1:Nat):Int)))
    else none))
    else none)))
    else none)) fuel (out,es,(es.length:Int),(m:Int),c)=some R:=by
   intro k
   induction k with
   |zero=>
    intro fuel out m c hk hf hp
    cases fuel with
    |zero=>omega
    |succ fuel=>
     have hnil:leftI es.length m=[]:=zbj hk
     rw[restI_nil hnil,zat]at hp
     unfold iter
     dsimp only
     rw[zf rfl,zai,hnil,List.isEmpty_nil,zg,hS out hp]
     rfl
   |succ k ih=>
    intro fuel out m c hk hf hp
    cases fuel with
    |zero=>omega
    |succ fuel=>
     unfold iter
     dsimp only
     rw[zf rfl,zai]
     have hne:leftI es.length m≠ []:=fun e=>by rw[e]at hk;cases hk
     have hie:(leftI es.length m).isEmpty=false:=by
      cases hq:leftI es.length m with
      |nil=>exact absurd hq hne
      |cons _ _=>rfl
     rw[hie,ze]
     refine anyOf_some hne fun i hi=>?_
     have hil:=leftI_lt hi
     have hx:es[i]? =some es[i]:=zc hil
     have hperm:=restI_next hi hx
     have hol:out.length<=es.length:=by
      have:=hp.length_eq
      rw[zam]at this
      omega
     rw[zf ⟨by omega,rfl⟩,show Int.toNat ((i+1:Nat):Int)-1=i from by rw[zai];rfl,hx,za,zf (room_of (by rw[zbE];omega) (by rw[zbE];omega))]
     refine ih fuel (out++ [es[i]]) (m|||2^i) _ (by have:=leftI_len hi;omega) (by omega) ?_
     rw[zao]
     exact((hperm.symm.append_left out)).trans hp
  exact main _ N [] 0 0 rfl (by
   have:=restI_len es 0
   rw[restI_zero]at this
   omega) (by rw[restI_zero];exact List.Perm.refl _)
 .dsimp only
  have hf:fits ((n:Int)+1):=fits_nat (by omega)
  obtain⟨g1,g2⟩:=cntM_get (sel.take n) sel[n]
  have hf2:fits (((mget (.int .i64) (.int .i64) (cntM (sel.take n)) sel[n]).getD 0:Int)+1):=by
   have:((sel.take n).length:Int)<=n:=by rw[zah];omega
   obtain⟨v,hv⟩:∃v:Nat,((mget (.int .i64) (.int .i64) (cntM (sel.take n)) sel[n]).getD 0:Int)=v:=⟨_,(zbU g1).symm⟩
   rw[hv]at g2⊢
   have hb: @LE.le Int _ (v:Int) ((sel.take n).length:Int):=g2
   exact fits_nat (by omega)
  rw[cntM_succ sel n hn,cast_succ']at hgo
  rw[zb (by omega:(n:Int)<sel.length),zg,idx_at hn,za,zf hf2,zf hf]
  exact hgo
def grpD (nm:List UInt8) (h:EHit) (st:List EHit×List (Int×Bool)) (d:EDoc):List EHit×List (Int×Bool):=
 bif decide (d.1=h.1)&& !decide (numF d.2.2 nm=-1)&& !((mget (.int .i64) .bool st.2 (numF d.2.2 nm)).getD false)then(st.1++ [h],mput (.int .i64) .bool st.2 (numF d.2.2 nm) true)else st
def grpH (docs:List EDoc) (nm:List UInt8) (st:List EHit×List (Int×Bool)) (h:EHit):List EHit×List (Int×Bool):=docs.foldl (grpD nm h) st
def grp (docs:List EDoc) (nm:List UInt8) (hits:List EHit):List EHit×List (Int×Bool):=hits.foldl (grpH docs nm) ([],[])
theorem mputB_get (b:List (Int×Bool)) (k n:Int):((mget (.int .i64) .bool (mput (.int .i64) .bool b k true) n).getD false:Bool)=(decide (n=k)||(mget (.int .i64) .bool b n).getD false):=by
 induction b with
 |nil=>
  show((List.find? (fun e:Int×Bool=>decide (n=e.1)) [(k,true)]).map (·.2)).getD false=_
  cases h:decide (n=k)<;>simp[h,mget]<;>rfl
 |cons e l ih=>
  have ex:mget (.int .i64) .bool (e::l) n=bif decide (n=e.1)then some e.2 else mget (.int .i64) .bool l n:=by
   show((e::l).find? (fun e:Int×Bool=>decide (n=e.1))).map (·.2)=_
   rw[zbA]
   cases decide (n=e.1)<;>rfl
  have ep:mput (.int .i64) .bool (e::l) k true=bif decide (k=e.1)then(k,true)::l else e::mput (.int .i64) .bool l k true:=rfl
  rw[ex,ep]
  by_cases h:k=e.1
  .rw [zb h,zg]
   have ex2:mget (.int .i64) .bool ((k,true)::l) n=bif decide (n=k)then some true else mget (.int .i64) .bool l n:=by
    show(((k,true)::l).find? (fun e:Int×Bool=>decide (n=e.1))).map (·.2)=_
    rw[zbA]
    cases decide (n=k)<;>rfl
   rw[ex2,<-h]
   cases decide (n=k)<;>rfl
  .rw [zd h,ze]
   have ex3:mget (.int .i64) .bool (e::mput (.int .i64) .bool l k true) n=bif decide (n=e.1)then some e.2 else mget (.int .i64) .bool (mput (.int .i64) .bool l k true) n:=by
    show((e::mput (.int .i64) .bool l k true).find? (fun e:Int×Bool=>decide (n=e.1))).map (·.2)=_
    rw[zbA]
    cases decide (n=e.1)<;>rfl
   rw[ex3]
   by_cases h2:n=e.1
   .have:decide (n=k)=false:=zd fun e'=>h (e'▸h2)
    rw[zb h2,this];rfl
   .rw [zd h2];exact ih
theorem grpD_len (nm:List UInt8) (h:EHit) (st:List EHit×List (Int×Bool)) (d:EDoc):(grpD nm h st d).1.length<=st.1.length+1:=by
 unfold grpD
 cases decide (d.1=h.1)&& !decide (numF d.2.2 nm=-1)&& !((mget (.int .i64) .bool st.2 (numF d.2.2 nm)).getD false)with
 |true=>simp
 |false=>simp
theorem grpH_len (docs:List EDoc) (nm:List UInt8) (h:EHit):∀st:List EHit×List (Int×Bool),(grpH docs nm st h).1.length<=st.1.length+docs.length:=by
 unfold grpH
 induction docs with
 |nil=>intro st;simp
 |cons d l ih=>
  intro st
  rw[zaq,zi]
  have:=ih (grpD nm h st d)
  have:=grpD_len nm h st d
  omega
theorem grp_len (docs:List EDoc) (nm:List UInt8) (hits:List EHit):(grp docs nm hits).1.length<=hits.length*docs.length:=by
 unfold grp
 have:∀(l:List EHit) (st:List EHit×List (Int×Bool)),(l.foldl (grpH docs nm) st).1.length<=st.1.length+l.length*docs.length:=by
  intro l
  induction l with
  |nil=>intro st;simp
  |cons h l ih=>
   intro st
   rw[zaq,zi,zaO,Nat.one_mul]
   have:=ih (grpH docs nm st h)
   have:=grpH_len docs nm h st
   omega
 simpa using this hits ([],[])
theorem foldl_take {Y β:Type} (f:β->Y->β) (b:β) (l:List Y) (n:Nat) (hn:n<l.length):(l.take (n+1)).foldl f b=f ((l.take n).foldl f b) l[n]:=by
 rw[zo hn,zaX];rfl
theorem groupOf_spec {N:Nat} (hM:Sm<N) (hN:N<=16777216) (docs:List EDoc) (hits:List EHit) (nm:List UInt8) (hd:NumD docs) (hl:docs.length<=60) (hk:okDocs docs=true) (hh:i_HitsOk_m N hits=some true) (hhl:hits.length<=16):
  i_GroupOf_m N docs hits nm=some (grp docs nm hits).1:=by
 have hM':1048576<N:=hM
 unfold i_GroupOf_m
 rw[docsOk_spec N hM (by omega) docs (fun x hx=>(hd x hx).1) (by omega),za,hk,zn,ze,hh,za,zn,ze]
 refine(iter_scan _ hits.length (fun n=>(docs,nm,(grp docs nm (hits.take n)).1,hits,(hits.length:Int),(n:Int),(grp docs nm (hits.take n)).2)) (fun _=>some (grp docs nm hits).1) (fun go=>?_) (fun go n hn hgo=>?_) N 0 (zaf _) (by omega)).trans rfl
 .dsimp only
  rw[zd (zm _),ze,zq]
 .dsimp only
  have hf:fits ((n:Int)+1):=fits_nat (by omega)
  rw[zb (by omega:(n:Int)<hits.length),zg,idx_at hn,za]
  have e0:grp docs nm (hits.take (n+1))=grpH docs nm (grp docs nm (hits.take n)) hits[n]:=foldl_take _ _ _ _ hn
  have hgl:(grp docs nm (hits.take n)).1.length<=960:=zau (grp_len _ _ _) (zau (zbX (by rw[zah];omega:(hits.take n).length<=16) hl) (by decide))
  rw[e0,cast_succ']at hgo
  generalize grp docs nm (hits.take n)=st at hgo hgl⊢
  refine(iter_scan _ docs.length (fun k=>(docs,nm,((docs.take k).foldl (grpD nm hits[n]) st).1,hits,(hits.length:Int),(n:Int),docs,(docs.length:Int),(k:Int),hits[n].1,hits[n].2,((docs.take k).foldl (grpD nm hits[n]) st).2)) (fun _=>some (grp docs nm hits).1) (fun go2=>?_) (fun go2 k hk2 hgo2=>?_) N 0 (zaf _) (by omega)).trans rfl
  .dsimp only
   rw[zd (zm _),ze,zq,zf hf]
   exact hgo
  .dsimp only
   have hf2:fits ((k:Int)+1):=fits_nat (by omega)
   obtain⟨o1,o2,o3⟩:=hd docs[k] (zr hk2)
   have hol:((docs.take k).foldl (grpD nm hits[n]) st).1.length<=1020:=by
    have:=grpH_len (docs.take k) nm hits[n] st
    unfold grpH at this
    have:(docs.take k).length<=60:=by rw[zah];omega
    omega
   rw[foldl_take _ _ _ _ hk2,cast_succ']at hgo2
   rw[zb (by omega:(k:Int)<docs.length),zg,idx_at hk2,za,docNum_spec N hM (by omega) docs[k].1 docs[k].2.1 docs[k].2.2 nm o1 o2 o3,za,<-hgo2]
   generalize(docs.take k).foldl (grpD nm hits[n]) st=st2 at hol⊢
   unfold grpD
   rw[zf (room_of (by rw[zbE];omega) (by rw[zbE];omega))]
   simp only[zf hf2]
   cases decide (docs[k].1=hits[n].1)with
   |false=>rfl
   |true=>
    cases decide (numF docs[k].2.2 nm=-1)with
    |true=>rfl
    |false=>
     cases((mget (.int .i64) .bool st2.2 (numF docs[k].2.2 nm)).getD false:Bool)<;>rfl
structure GrpOk (docs:List EDoc) (nm:List UInt8) (hits:List EHit) (st:List EHit×List (Int×Bool)) (K:List Int):Prop where
 nodup:K.Nodup
 nums:st.1.map (fun h=>(docOf docs h.1).map fun d=>numF d.2.2 nm)=K.map some
 seen:∀n,((mget (.int .i64) .bool st.2 n).getD false:Bool)=decide (n∈K)
 mem:∀n,n∈K↔∃h,h∈hits/\∃d,d∈docs/\d.1=h.1/\numF d.2.2 nm=n/\n≠ -1
theorem docOf_in {docs:List EDoc} (hi:docs.Pairwise fun a b=>a.1<b.1) {d:EDoc} (hd:d∈docs) {id:Int} (e:d.1=id):docOf docs id=some d:=by
 subst e
 unfold docOf
 induction docs with
 |nil=>cases hd
 |cons x l ih=>
  obtain⟨h1,h2⟩:=zas.1 hi
  rw[zbA]
  rcases zp.1 hd with h|h
  .subst h;simp
  .have:=h1 d h
   rw[zd (by omega:¬x.1=d.1)]
   exact ih h2 h
theorem grpH_ok {docs:List EDoc} (hi:docs.Pairwise fun a b=>a.1<b.1) {nm:List UInt8} {hits:List EHit} {st:List EHit×List (Int×Bool)} {K:List Int} (h:GrpOk docs nm hits st K) (e:EHit):∃K',GrpOk docs nm (hits++ [e]) (grpH docs nm st e) K':=by
 have main:∀(l:List EDoc),(∀d,d∈l->d∈docs)->∃K':List Int,K'.Nodup/\(l.foldl (grpD nm e) st).1.map (fun h=>(docOf docs h.1).map fun d=>numF d.2.2 nm)=K'.map some/\
   (∀n,((mget (.int .i64) .bool (l.foldl (grpD nm e) st).2 n).getD false:Bool)=decide (n∈K'))/\∀n,n∈K'↔n∈K\/ ∃d,d∈l/\d.1=e.1/\numF d.2.2 nm=n/\n≠ -1:=by
  intro l
  induction l using snocInd with
  |nil=>exact fun _=>⟨K,h.nodup,h.nums,h.seen,fun n=>by simp⟩
  |snoc l d ih=>
   intro hl
   obtain⟨K',g1,g2,g3,g4⟩:=ih fun x hx=>hl x (zad _ hx)
   rw[zaX,zaq,List.foldl_nil]
   generalize l.foldl (grpD nm e) st=st2 at g2 g3
   have hdd:=hl d (zaJ _ (zaD.2 rfl))
   by_cases hc:d.1=e.1/\numF d.2.2 nm≠ -1/\numF d.2.2 nm∉K'
   .obtain ⟨c1,c2,c3⟩:=hc
    have eq:grpD nm e st2 d=(st2.1++ [e],mput (.int .i64) .bool st2.2 (numF d.2.2 nm) true):=by
     unfold grpD
     rw[g3,zb c1,zd c2,zd c3]
     rfl
    rw[eq]
    refine⟨K'++ [numF d.2.2 nm],?_,?_,fun n=>?_,fun n=>?_⟩
    .rw [List.nodup_append]
     exact⟨g1,by simp,fun a ha b hb e'=>by simp at hb;subst hb;subst e';exact c3 ha⟩
    .rw [zaK,zaK,g2,List.map_singleton,List.map_singleton,docOf_in hi hdd c1];rfl
    .rw [mputB_get,g3]
     by_cases hn:n=numF d.2.2 nm<;>simp[hn]
    .rw [zaB,zaD,g4]
     constructor
     .rintro ((h1|⟨x,h2,h3⟩)|h1)
      .exact .inl h1
      .exact .inr ⟨x,zad _ h2,h3⟩
      .exact .inr ⟨d,zaJ _ (zaD.2 rfl),c1,h1.symm,h1▸c2⟩
     .rintro (h1|⟨x,h2,h3⟩)
      .exact .inl (.inl h1)
      .rcases zaB.1 h2 with h2|h2
       .exact .inl (.inr ⟨x,h2,h3⟩)
       .rw [zaD]at h2;subst h2;exact .inr h3.2.1.symm
   .have eq:grpD nm e st2 d=st2:=by
     unfold grpD
     rw[g3]
     by_cases c1:d.1=e.1
     .by_cases c2:numF d.2.2 nm=-1
      .rw [zb c2];simp
      .have c3:numF d.2.2 nm∈K':=Classical.byContradiction fun c3=>hc ⟨c1,c2,c3⟩
       rw[zb c3];simp
     .rw [zd c1];rfl
    rw[eq]
    refine⟨K',g1,g2,g3,fun n=>?_⟩
    rw[g4]
    constructor
    .rintro (h1|⟨x,h2,h3⟩)
     .exact .inl h1
     .exact .inr ⟨x,zad _ h2,h3⟩
    .rintro (h1|⟨x,h2,h3⟩)
     .exact .inl h1
     .rcases zaB.1 h2 with h2|h2
      .exact .inr ⟨x,h2,h3⟩
      .rw [zaD]at h2
       subst h2
       have:numF x.2.2 nm∈K':=Classical.byContradiction fun c3=>hc ⟨h3.1,h3.2.1▸h3.2.2,c3⟩
       rw[h3.2.1]at this
       exact(g4 n).1 this
 obtain⟨K',g1,g2,g3,g4⟩:=main docs fun _ h=>h
 refine⟨K',g1,g2,g3,fun n=>?_⟩
 rw[g4,h.mem]
 constructor
 .rintro (⟨x,h1,h2⟩|⟨d,h1,h2⟩)
  .exact ⟨x,zad _ h1,h2⟩
  .exact ⟨e,zaJ _ (zaD.2 rfl),d,h1,h2⟩
 .rintro ⟨x,h1,h2⟩
  rcases zaB.1 h1 with h1|h1
  .exact .inl ⟨x,h1,h2⟩
  .rw [zaD]at h1;subst h1;exact .inr h2
theorem grp_ok {docs:List EDoc} (hi:docs.Pairwise fun a b=>a.1<b.1) (nm:List UInt8) (hits:List EHit):∃K,GrpOk docs nm hits (grp docs nm hits) K:=by
 induction hits using snocInd with
 |nil=>exact⟨[],List.nodup_nil,rfl,fun n=>rfl,fun n=>by simp⟩
 |snoc l x ih=>
  obtain⟨K,hK⟩:=ih
  have:=grpH_ok hi hK x
  unfold grp at this⊢
  rw[zaX]
  exact this
def docIn (d:Int) (xs:List EHit):Bool:=xs.any fun x=>decide (x.1=d)
def findDoc (d:Int):List EHit->Int->Int
 | [],_=> -1
 |x::xs,i=>if x.1=d then i else findDoc d xs (i+1)
theorem findDoc_pos (d:Int):∀(xs:List EHit) (i:Int),0<=i->(decide (0<=findDoc d xs i))=docIn d xs
 | [],i,_=>rfl
 |x::xs,i,h=>by
  simp only[findDoc,docIn,List.any_cons]
  by_cases e:x.1=d
  .simp [e,h]
  .simp only [e,if_false,decide_false,zbf]
   exact findDoc_pos d xs (i+1) (by omega)
theorem hasDoc_spec (N:Nat) (xs:List EHit) (d:Int) (h:xs.length<N) (hl:(xs.length:Int)<=9223372036854775806):i_hasDoc_m N xs d=some (docIn d xs):=by
 have h1:k_slices_IndexFunc_200_m N xs d=some (findDoc d xs 0):=by
  unfold k_slices_IndexFunc_200_m
  refine(iter_scan _ xs.length (fun n=>(xs,d,(xs.length:Int),(n:Int))) (fun n=>some (findDoc d (xs.drop n) n)) (fun go=>?_) (fun go n hn hgo=>?_) N 0 (zaf _) (by omega)).trans (by simp)
  .simp [findDoc]
  .have hn':(n:Int)<xs.length:=by omega
   dsimp only
   rw[zb hn',zg,idx_at hn,za,i_hasDoc_1_m,za,zan hn]
   by_cases hx:xs[n].1=d
   .rw [zb hx,zg,findDoc,zf hx]
   .rw [zd hx,ze,zf (fits_nat (n:=n) (by omega)),findDoc,zu hx]
    simp only[cast_succ']at hgo
    exact hgo
 simp only[i_hasDoc_m,k_slices_ContainsFunc_50_m,h1,za,findDoc_pos d xs 0 (zbD _)]
theorem hitsOk_true (N:Nat) (hM:1048576<N) (L:List EHit) (hl:L.length<=16) (hp:L.Pairwise fun a b=>ltH a b=true) (hd:DistH L) (hv:∀x,x∈L->1<=x.1/\x.1<=9999/\1<=x.2):i_HitsOk_m N L=some true:=by
 refine Def.get ?_
 unfold i_HitsOk_m
 refine Def.upto L.length (fun n v=>v=(L,L,(L.length:Int),(n:Int))) (fun go v hv=>?_) (fun go n v hn hv' hgo=>?_) N 0 _ (zaf _) rfl (by omega)
 .subst hv
  dsimp only
  rw[zd (zm _),ze,zb (by omega)]
  exact Def.ret rfl
 .subst hv'
  dsimp only
  have hx:=hv L[n] (zr hn)
  have hnd:docIn L[n].1 (L.take n)=false:=by
   unfold docIn
   rw[List.any_eq_false]
   intro y hy
   obtain⟨j,hj,rfl⟩:=zav.1 hy
   rw[zah]at hj
   rw[List.getElem_take]
   have:=za2.1 hd j n (by omega) hn (by omega)
   simp[this]
  rw[zb (by omega:(n:Int)<L.length),zg,idx_at hn,za,within_spec,za,zb hx.1,zb hx.2.1,zaV,zn,ze,zd (by omega),ze,cut_take L n (by omega),za,hasDoc_spec N _ _ (by rw[zah];omega) (by rw[zah];omega),za,hnd,ze]
  have hnx:Def (if fits ((n:Int)+1)then go (L,L,(L.length:Int),(n:Int)+1)else none) fun r=>r=true:=by
   rw[zf (fits_nat (n:=n) (by omega))]
   exact hgo _ (by rw[cast_succ'])
  refine Def.dif (fun e1=>?_) (fun _=>hnx)
  have hi:((n:Int)-1)=((n-1:Nat):Int):=by omega
  have hlt:=za2.1 hp (n-1) n (by omega) hn (by omega)
  rw[zf (fits_abs (by omega) (by omega)),hi,idx_at (by omega:n-1<L.length),za]
  refine Def.bind (hitOrder_cmp N (by omega) (L[n-1]'(by omega)) L[n]) fun r hr=>?_
  rw[hlt,zw]at hr
  rw[zd (by omega),ze]
  exact hnx
structure HitsIn (H:List EHit):Prop where
 few:H.length<=16
 dist:DistH H
 val:∀x,x∈H->1<=x.1/\x.1<=9999/\1<=x.2
theorem hits_in {N:Nat} {c:EConf} {s:ESeg} {q:DQ} (h:Fit N c s q):HitsIn (hitsR N c s q allP):=by
 refine⟨hitsR_len N c s q allP,hitsR_dist N c s q allP,fun x hx=>?_⟩
 unfold hitsR at hx
 cases hs:okSeg c s with
 |false=>rw[hs]at hx;cases hx
 |true=>
  cases hq:okQ 4 q with
  |false=>rw[hs,hq]at hx;cases hx
  |true=>
   rw[hs,hq]at hx
   obtain⟨d,hd,rfl,h0,_⟩:=hitsP_mem (V:=fun d=>valS N N c s d q) hx
   have:=okDoc_id (okDoc_each (okSeg_docs hs) d hd)
   exact⟨this.1,this.2,by show 1<=valS N N c s d q;omega⟩
theorem foFind_in {N:Nat} (hM:1048576<N) (docs:List EDoc) (id:Int) (hl:docs.length<=1048576) {d:EDoc} (h:docOf docs id=some d):l_foFind_m N docs id=some d:=by
 unfold l_foFind_m
 have key:∀n,n<=docs.length->docOf (docs.drop n) id=some d->iter (fun(go:((List EDoc)×Int×Int×Int)->Option (EDoc)) (g:(List EDoc)×Int×Int×Int)=>
   match g with
   |(docs2,id2,i,b)=>
   (bif(decide (i<(docs2.length:Int)))then
   (Option.bind (idx docs2 i) fun(e:EDoc)=>
   (bif(decide (e.1=id2))then
   (Option.bind (idx docs2 i) fun(e2:EDoc)=>
   (some (e2.1,e2.2.1,e2.2.2)))
   else
   (if fits (i+1)then(go (docs2,id2,(i+1),b))else none)))
   else
   (some (0,([]:List EField),([]:List EAttr))))) N (docs,id,(n:Int),0)=some d:=by
  intro n hn hd
  refine(iter_scan _ docs.length (fun k=>(docs,id,(k:Int),(0:Int))) (fun k=>match docOf (docs.drop k) id with|some x=>some x|none=>some (0,[],[])) (fun go=>?_) (fun go k hk hgo=>?_) N n hn (by omega)).trans (by rw[hd])
  .dsimp only
   rw[zd (zm _),ze,zbp]
   rfl
  .dsimp only
   have hf:fits ((k:Int)+1):=fits_nat (by omega)
   have e:docOf (docs.drop k) id=bif decide (docs[k].1=id)then some docs[k]else docOf (docs.drop (k+1)) id:=by
    rw[zan hk]
    unfold docOf
    rw[zbA]
    cases decide (docs[k].1=id)<;>rfl
   rw[cast_succ']at hgo
   rw[zb (by omega:(k:Int)<docs.length),zg,idx_at hk,za,za,e,zf hf]
   cases decide (docs[k].1=id)with
   |true=>rfl
   |false=>exact hgo
 exact key 0 (zaf _) (by rw[zbQ];exact h)
theorem fnGroupTop_gen (N:Nat) (hM:Sm<N) (hN:N<=16777216) (code:List Int) (hb:Bs code):l_FnGroupTop_m N code=some true:=by
 have hM':1048576<N:=hM
 refine Def.get ?_
 unfold l_FnGroupTop_m
 refine Def.dif (fun e=>Def.ret rfl) (fun e=>?_)
 refine Def.bind (drawMatchOf_def N hM hb) fun r ⟨dr,aq⟩=>?_
 obtain⟨c1,c2,docs,ents,k1,f1,w1,a1,b1,g1⟩:=r
 dsimp only at dr aq⊢
 have F:Fit N (c1,c2) (docs,ents) (.mk k1 f1 w1 a1 b1 g1):=⟨hM,hN,dr.conf,dr.docs,dr.few,aq 4⟩
 have t3:l_foInts_m N (matchR N (c1,c2) (docs,ents) (.mk k1 f1 w1 a1 b1 g1)) (matchR N (c1,c2) (docs,ents) (.mk k1 f1 w1 a1 b1 g1))=some true:=by
  refine foInts_same N hM' _ ?_
  unfold matchR
  rw[zar]
  exact zau (hitsR_len _ _ _ _ _) (by decide)
 have t1:=match_i F
 have t2:=match_s F
 have t4:=F.segI
 have t5:=queryOk_i N hM (by omega) _ (aq 4)
 have t6:=topOf_i F 16
 dsimp only[DQ.kind,DQ.field,DQ.words,DQ.lo,DQ.hi,DQ.kids]at t1 t2 t4 t5 t6
 rw[t1,za,t2,za,t3,za,zn,ze,t4,za]
 cases hs:okSeg (c1,c2) (docs,ents)with
 |false=>
  rw[zaI,zg,za,t3,za]
  exact Def.ret rfl
 |true=>
 rw[zn,ze,t5,za]
 cases hq:okQ 4 (.mk k1 f1 w1 a1 b1 g1)with
 |false=>
  rw[zaI,zg,za,t3,za]
  exact Def.ret rfl
 |true=>
 have hin:=hits_in F
 rw[zn,ze,t6,za]
 generalize(DQ.mk k1 f1 w1 a1 b1 g1)=q at*
 have hds:okDocs docs=true:=okSeg_docs hs
 have hids:=(okDocs_ok hds).inn.ids
 have e1:=match_ids (N:=N) hs hq
 dsimp only at e1
 have u1:upB (matchR N (c1,c2) (docs,ents) q)=true:=by rw[e1];exact idsP_ok hds _
 have hd:NumD docs:=fun d hdd=>⟨dr.docs d hdd,okDoc_each hds d hdd,zau ((okDocs_ok hds).each d hdd).2.1 (by decide)⟩
 have hdl:docs.length<=60:=zau (okDocs_ok hds).few (by decide)
 have hfl:(matchR N (c1,c2) (docs,ents) q).length<=16:=by unfold matchR;rw[zar];exact hitsR_len _ _ _ _ _
 obtain⟨so,sm⟩:=sortH_ok hin.dist
 have hH:topRR N (c1,c2) (docs,ents) q allP 16=sortH (hitsR N (c1,c2) (docs,ents) q allP):=by
  show(sortH (hitsR N (c1,c2) (docs,ents) q allP)).take 16=_
  refine List.take_of_length_le ?_
  have:=sortH_len (hitsR N (c1,c2) (docs,ents) q allP) []
  unfold sortH
  rw[this]
  simpa using hin.few
 rw[hH]
 have hSl:(sortH (hitsR N (c1,c2) (docs,ents) q allP)).length<=16:=by
  have:=sortH_len (hitsR N (c1,c2) (docs,ents) q allP) []
  unfold sortH
  rw[this]
  simpa using hin.few
 have hSd:DistH (sortH (hitsR N (c1,c2) (docs,ents) q allP)):=by
  refine so.imp_of_mem fun {a b} ha hb hab e=>?_
  have ha:=(sm a).1 ha
  have hb:=(sm b).1 hb
  have:a=b:=by
   obtain⟨i,hi,rfl⟩:=zav.1 ha
   obtain⟨j,hj,rfl⟩:=zav.1 hb
   have hpd:=za2.1 hin.dist
   rcases zbl i j with h|h|h
   .exact absurd e (hpd i j hi hj h)
   .subst h;rfl
   .exact absurd e.symm (hpd j i hj hi h)
  subst this
  rw[ltH_irrefl]at hab
  cases hab
 have hok:=hitsOk_true N hM' _ hSl so hSd fun x hx=>hin.val x ((sm x).1 hx)
 have hmem:∀id,(∃h,h∈sortH (hitsR N (c1,c2) (docs,ents) q allP)/\h.1=id)↔id∈matchR N (c1,c2) (docs,ents) q:=fun id=>by
  unfold matchR
  rw[zab]
  constructor
  .rintro ⟨h,h1,h2⟩;exact⟨h,(sm h).1 h1,h2⟩
  .rintro ⟨h,h1,h2⟩;exact⟨h,(sm h).2 h1,h2⟩
 generalize sortH (hitsR N (c1,c2) (docs,ents) q allP)=hits at*
 generalize matchR N (c1,c2) (docs,ents) q=found at*
 rw[groupOf_spec hM hN docs hits _ hd hdl hds hok hSl,za]
 refine Def.bind (facetOf_spec hM hN docs found _ hd (by omega) hds u1 (by omega)) fun kinds hkp=>?_
 obtain⟨K,hK⟩:=grp_ok hids [114,97,116,101] hits
 have hGl:=grp_len docs [114,97,116,101] hits
 have hGl:(grp docs [114,97,116,101] hits).1.length<=960:=zau hGl (zau (zbX hSl hdl) (by decide))
 generalize hL:(grp docs [114,97,116,101] hits).1=L at hGl⊢
 have hnum:L.map (fun h=>(docOf docs h.1).map fun d=>numF d.2.2 [114,97,116,101])=K.map some:=hL▸hK.nums
 have hlen:L.length=K.length:=by have:=congrArg List.length hnum;simpa using this
 have hkinds:kinds.length=K.length:=by
  rw[hkp.length_eq]
  have i1:=(cntM_inv (selF docs found [114,97,116,101])).1
  have i2:=(cntM_inv (selF docs found [114,97,116,101])).2.1
  have e3:((cntM (selF docs found [114,97,116,101])).map (·.1)).length=(cntM (selF docs found [114,97,116,101])).length:=zar ..
  have sub:∀n,n∈(cntM (selF docs found [114,97,116,101])).map (·.1)↔n∈K:=fun n=>by
   rw[i2,hK.mem]
   unfold selF
   rw[zab]
   constructor
   .rintro ⟨d,h1,h2⟩
    obtain⟨h1,h3⟩:=zaZ.1 h1
    rw[zj,zb2,decide_eq_false_iff_not,zw]at h3
    obtain⟨h,h4,h5⟩:=(hmem d.1).2 h3.2
    exact⟨h,h4,d,h1,h5.symm,h2,h2▸h3.1⟩
   .rintro ⟨h,h1,d,h2,h3,h4,h5⟩
    refine⟨d,zaZ.2 ⟨h2,?_⟩,h4⟩
    rw[zj,zb2,decide_eq_false_iff_not,zw]
    exact⟨h4▸h5,(hmem d.1).1 ⟨h,h1,h3.symm⟩⟩
  rw[<-e3]
  exact Nat.le_antisymm (i1.length_le_of_subset fun n hn=>(sub n).1 hn) (hK.nodup.length_le_of_subset fun n hn=>(sub n).2 hn)
 have hat:∀(i:Nat) (hi:i<L.length),∃d,docOf docs L[i].1=some d/\d∈docs/\∃hk:i<K.length,numF d.2.2 [114,97,116,101]=K[i]:=fun i hi=>by
  have:=congrArg (fun l=>l[i]?) hnum
  simp only[zaF,zc hi,zc (hlen▸hi),zbn]at this
  obtain⟨d,h1,h2⟩:=zaA.1 (Option.some.inj this)
  exact⟨d,h1,zbe h1,hlen▸hi,h2⟩
 have hnumD:∀d,d∈docs->i_DocNum_m N d.1 d.2.1 d.2.2 [114,97,116,101]=some (numF d.2.2 [114,97,116,101]):=fun d hdd=>docNum_spec N hM (by omega) d.1 d.2.1 d.2.2 _ (hd d hdd).1 (hd d hdd).2.1 (hd d hdd).2.2
 refine Def.eq ?_
 refine(iter_scan _ L.length (fun n=>(L,kinds,(n:Int),docs,ents)) (fun _=>some true) (fun go=>?_) (fun go n hn hgo=>?_) N 0 (zaf _) (by omega)).trans rfl
 .dsimp only
  rw[zd (zm _),ze,zb (by omega)]
 .dsimp only
  have hf:fits ((n:Int)+1):=fits_nat (by omega)
  obtain⟨d,d1,d2,hk,d3⟩:=hat n hn
  rw[cast_succ']at hgo
  rw[zb (by omega:(n:Int)<L.length),zg,idx_at hn,za,foFind_in hM' docs _ (by omega) d1,za,hnumD d d2,za]
  refine(iter_scan _ n (fun k=>(L,kinds,(n:Int),numF d.2.2 [114,97,116,101],(k:Int),docs,ents)) (fun _=>some true) (fun go2=>?_) (fun go2 k hkn hgo2=>?_) N 0 (zaf _) (by omega)).trans rfl
  .dsimp only
   rw[zd (zm _),ze,zf hf]
   exact hgo
  .dsimp only
   have hf2:fits ((k:Int)+1):=fits_nat (by omega)
   have hkL:k<L.length:=by omega
   obtain⟨d',d1',d2',hk',d3'⟩:=hat k hkL
   have hne:¬numF d'.2.2 [114,97,116,101]=numF d.2.2 [114,97,116,101]:=by
    rw[d3,d3']
    have:=za2.1 hK.nodup k n hk' hk hkn
    exact this
   rw[cast_succ']at hgo2
   rw[zb (by omega:(k:Int)<(n:Int)),zg,idx_at hkL,za,foFind_in hM' docs _ (by omega) d1',za,hnumD d' d2',za,zd hne,ze,zf hf2]
   exact hgo2
theorem fnGroupTop_law (x0:List Int) (o0:okD BigN (.sl (.int .u8)) x0):l_FnGroupTop_m 1048700 x0=some true:=fnGroupTop_gen 1048700 (by decide) (by decide) x0 (bytes_ok o0)
end Go.Proofs.YtchgdmmcjgmfcaaGreatDoor
