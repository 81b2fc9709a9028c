import Derived.Test.YtchgdmmcjgmfcaaGreatDoorP1
import Derived.Test.YtchgdmmcjgmfcaaGreatDoorSC
import Derived.Test.YtchgdmmcjgmfcaaGreatDoorSE
import Derived.Test.YtchgdmmcjgmfcaaGreatDoorSF
import Derived.Test.YtchgdmmcjgmfcaaGreatDoorSD
import Derived.Test.YtchgdmmcjgmfcaaGreatDoorQO
set_option linter.unusedVariables false
set_option linter.unusedSimpArgs false
namespace Go.Proofs.YtchgdmmcjgmfcaaGreatDoor
open Go.RowKit
theorem ju3 {Y:Type} (xs:List Y) (n:Nat) (h:n<=xs.length):cut xs 0 (n:Int)=some (xs.take n):=by
 unfold cut
 rw[zf (by omega)]
 simp
theorem juD (N:Nat) (code:List Int) (hb:Bs code):∃y,jt0 N code=some (y,0)/\Bs y/\y.length<=2000:=by
 unfold jt0
 by_cases h:(2000:Int)<code.length
 .simp only [h,decide_true,zg]
  rw[show(2000:Int)=((2000:Nat):Int)from rfl,ju3 code 2000 (by omega)]
  exact⟨_,rfl,fun x hx=>hb x (zaP hx),by simp;omega⟩
 .simp only [h,decide_false,ze]
  exact⟨_,rfl,hb,by omega⟩
def Rdr (b:List Int) (k:Int) (j:Nat):Prop:=Bs b/\b.length<=2000/\0<=k/\k<=j
theorem Rdr.le {b:List Int} {k:Int} {j j':Nat} (h:Rdr b k j) (hj:j<=j'):Rdr b k j':=⟨h.1,h.2.1,h.2.2.1,by have:=h.2.2.2;omega⟩
theorem pick_def (N:Nat) (n:Int) {b:List Int} {k:Int} {j:Nat} (h:Rdr b k j) (hj:j<=1000000):Def (jtW N n b k) fun r=>0<=r.1/\(1<=n->r.1<n)/\(n<1->r.1=0)/\Rdr r.2.1 r.2.2 (j+1):=by
 obtain⟨v,h1,h2,h3,h4⟩:=juF N n b k h.1 h.2.2.1 (by have:=h.2.2.2;omega) h.2.1
 exact⟨_,h1,h2,h3,h4,h.1,h.2.1,by have:=h.2.2.1;show(0:Int)<=k+1;omega,by have:=h.2.2.2;show k+1<=((j+1:Nat):Int);omega⟩
theorem of_def (N:Nat) {l:List (List UInt8)} {b:List Int} {k:Int} {j:Nat} (hl:0<l.length) (h:Rdr b k j) (hj:j<=1000000):Def (s_l30Rd_of_m N l b k) fun r=>r.1∈l/\Rdr r.2.1 r.2.2 (j+1):=by
 unfold s_l30Rd_of_m
 refine Def.bind (pick_def N _ h hj) fun r ⟨h0,h1,_,h3⟩=>?_
 exact Def.idx h0 (h1 (by omega)) fun x hx _=>Def.ret ⟨hx,h3⟩
theorem open_def (N:Nat) {code:List Int} (hb:Bs code):Def (jt0 N code) fun r=>Rdr r.1 r.2 0:=by
 obtain⟨y,h1,h2,h3⟩:=juD N code hb
 exact⟨_,h1,h2,h3,zbD _,zbD _⟩
def okC (c:UInt8):Bool:=decide (32<=c.toNat)&&decide (c.toNat<=126)
def okS (n:Nat) (s:List UInt8):Bool:=s.all okC&&decide (s.length<=n)
theorem juf {n m:Nat} {s t:List UInt8} (h:okS n s=true) (k:okS m t=true):okS (n+m) (s++t)=true:=by
 unfold okS at*
 simp only[zj,zw,List.all_append,zam]at*
 exact⟨⟨h.1,k.1⟩,by omega⟩
theorem jue {n m:Nat} {s:List UInt8} (h:okS n s=true) (hm:n<=m):okS m s=true:=by
 unfold okS at*
 simp only[zj,zw]at*
 exact⟨h.1,by omega⟩
theorem okS_len {n:Nat} {s:List UInt8} (h:okS n s=true):s.length<=n:=by
 unfold okS at h
 simp only[zj,zw]at h
 exact h.2
theorem okS_okT {s:List UInt8} (h:okS 160 s=true):okT s=true:=by
 have hl:=okS_len h
 unfold okS at h
 simp only[zj,zax]at h
 unfold okT allN
 rw[zj]
 refine⟨zax.2 fun n hn=>?_,by rw[zw];omega⟩
 have hn':n<s.length:=by simpa using hn
 have:=h.1 _ (zr hn')
 unfold okC at this
 simp only[zj,zw]at this
 rw[<-atB_eq hn',zd (by omega),zd (by omega)]
 rfl
theorem ju7 (N:Nat) {b:List Int} {k:Int} {j:Nat} (h:Rdr b k j) (hj:j<=100000):Def (jt1 N b k) fun r=>okS 17 r.1=true/\Rdr r.2.1 r.2.2 (j+1):=by
 unfold jt1
 refine Def.bind (of_def N (by decide) h (by omega)) fun r ⟨m1,h1⟩=>Def.ret ⟨?_,h1⟩
 exact(by decide:∀w,w∈([([99,97,116]:List UInt8),([67,97,116,115]:List UInt8),([100,111,103]:List UInt8),([100,111,103,115]:List UInt8),([114,117,110]:List UInt8),([82,85,78,78,73,78,71]:List UInt8),([116,104,101]:List UInt8),([114,101,100]:List UInt8),([98,105,103]:List UInt8),([110,101,119,32,121,111,114,107]:List UInt8),([78,101,119,32,32,89,111,114,107]:List UInt8),([110,121]:List UInt8),([102,111,120]:List UInt8),([112,97,115,115,101,100]:List UInt8),([120,49]:List UInt8),([97,118,101,114,121,118,101,114,121,108,111,110,103,119,111,114,100]:List UInt8)]:List (List UInt8))->okS 17 w=true) _ m1
theorem text_def (N:Nat) {b:List Int} {k:Int} {j:Nat} (h:Rdr b k j) (hj:j<=10000) (hN:20<=N):Def (jtZ N b k) fun r=>okS 160 r.1=true/\Rdr r.2.1 r.2.2 (j+30):=by
 unfold jtZ
 refine Def.bind (pick_def N 9 h (by omega)) fun r ⟨p0,p1,_,h1⟩=>?_
 have p1:=p1 (by omega)
 refine Def.iter (fun g=>∃s:List UInt8,∃n:Nat,∃x y,n<=8/\okS (19*(8-n)) s=true/\Rdr x y (j+1+2*(8-n))/\g=(s,(n:Int),x,y)) (fun g=>g.2.1.toNat) ?_ N _ ⟨[],r.1.toNat,_,_,by omega,by unfold okS;simp,h1.le (by omega),by rw[zbU p0]⟩ (by show r.1.toNat<N;omega)
 rintro go _ ⟨s,n,x,y,hn,hs,hr,rfl⟩ hgo
 dsimp only
 have hsl:=okS_len hs
 refine Def.dif (fun e=>?_) (fun e=>Def.ret ⟨jue hs (by omega),hr.le (by omega)⟩)
 refine Def.bind (ju7 N hr (by omega)) fun r2 ⟨l2,h2⟩=>?_
 have hl2:=okS_len l2
 refine Def.ite (by omega) ?_
 refine Def.bind (of_def N (by decide) h2 (by omega)) fun r3 ⟨m3,h3⟩=>?_
 have l3:okS 2 r3.1=true:=(by decide:∀w,w∈([([32]:List UInt8),([32]:List UInt8),([44,32]:List UInt8),([45]:List UInt8),([46,32]:List UInt8)]:List (List UInt8))->okS 2 w=true) _ m3
 have hl3:=okS_len l3
 refine Def.ite (by rw[zam];omega) (Def.ite (by unfold fits;omega) (hgo _ ⟨(s++r2.1)++r3.1,n-1,_,_,by omega,jue (juf (juf hs l2) l3) (by omega),h3.le (by omega),?_⟩ ?_))
 .rw [show((n:Int)-1)=((n-1:Nat):Int)from by omega]
 .show ((n:Int)-1).toNat<(n:Int).toNat
  omega
structure SmallDoc (fs:List EField) (ats:List EAttr) (n:Nat):Prop where
 fl:fs.length<=n
 al:ats.length<=n
 f:∀x,x∈fs->x.1.length<=1000/\x.2.length<=1000
 a:∀x,x∈ats->x.1.length<=4/\ -1<=x.2/\x.2<=1000000000
theorem SmallDoc.ok {fs:List EField} {ats:List EAttr} {n:Nat} (h:SmallDoc fs ats n) (hn:n<=1000) {id:Int} (h0:0<=id/\id<=1000000):okD Sm TDoc (id,fs,ats):=by
 have e1:IntKind.i64.min=-9223372036854775808:=by decide
 have e2:IntKind.i64.max=9223372036854775807:=by decide
 have hfl:=h.fl;have hal:=h.al
 refine⟨⟨by rw[e1];show _<=id;omega,by rw[e2];show id<=_;omega⟩,⟨by show fs.length<=1048576;omega,fun x hx=>?_⟩,⟨by show ats.length<=1048576;omega,fun x hx=>?_⟩⟩
 .have:=h.f x hx
  exact⟨by show x.1.length<=1048576;omega,by show x.2.length<=1048576;omega⟩
 .have:=h.a x hx
  exact⟨by show x.1.length<=1048576;omega,by rw[e1];exact Int.le_trans (by decide) this.2.1,by rw[e2];exact Int.le_trans this.2.2 (by decide)⟩
theorem SmallDoc.addF {fs:List EField} {ats:List EAttr} {n:Nat} (h:SmallDoc fs ats n) {x:EField} (h1:x.1.length<=1000) (h2:x.2.length<=1000):SmallDoc (fs++ [x]) ats (n+1):=by
 have hfl:=h.fl;have hal:=h.al
 refine⟨by simp only[zam,zi,zac];omega,by omega,fun y hy=>?_,h.a⟩
 rcases zaB.1 hy with hy|hy
 .exact h.f y hy
 .rw [zaD.1 hy];exact⟨h1,h2⟩
theorem SmallDoc.addA {fs:List EField} {ats:List EAttr} {n:Nat} (h:SmallDoc fs ats n) {x:EAttr} (h1:x.1.length<=4) (h2: -1<=x.2) (h3:x.2<=1000000000):SmallDoc fs (ats++ [x]) (n+1):=by
 have hfl:=h.fl;have hal:=h.al
 refine⟨by omega,by simp only[zam,zi,zac];omega,h.f,fun y hy=>?_⟩
 rcases zaB.1 hy with hy|hy
 .exact h.a y hy
 .rw [zaD.1 hy];exact⟨h1,h2,h3⟩
theorem SmallDoc.le {fs:List EField} {ats:List EAttr} {n m:Nat} (h:SmallDoc fs ats n) (hm:n<=m):SmallDoc fs ats m:=⟨zau h.fl hm,zau h.al hm,h.f,h.a⟩
theorem SmallDoc.nil :SmallDoc [] [] 0:=⟨zae _,zae _,(fun x hx=>by cases hx),(fun x hx=>by cases hx)⟩
theorem SmallDoc.room {n:Nat} {b:Nat} (hn:n<=1000) (hb:b<=1000):room n 1 b:=by
 have:(n+1)*b<=1001*1000:=zbX (by omega) hb
 exact room_of (by omega) (by omega)
abbrev nBody :List UInt8:=[98,111,100,121]
abbrev nTitle :List UInt8:=[116,105,116,108,101]
structure FG (fs:List EField) (ns:List (List UInt8)):Prop where
 names:(fs.map (·.1)).Sublist ns
 texts:∀x,x∈fs->okS 160 x.2=true
theorem FG.add {fs:List EField} {ns:List (List UInt8)} (h:FG fs ns) (n t:List UInt8) (ht:okS 160 t=true):FG (fs++ [(n,t)]) (ns++ [n]):=by
 refine⟨?_,fun x hx=>?_⟩
 .rw [zaK]
  exact List.Sublist.append h.names (List.Sublist.refl _)
 .rcases zaB.1 hx with hx|hx
  .exact h.texts x hx
  .rw [zaD]at hx;subst hx;exact ht
theorem FG.skip {fs:List EField} {ns:List (List UInt8)} (h:FG fs ns) (n:List UInt8):FG fs (ns++ [n]):=⟨h.names.trans (List.sublist_append_left _ _),h.texts⟩
theorem doc_def (N:Nat) (id:Int) {b:List Int} {k:Int} {j:Nat} (h:Rdr b k j) (hj:j<=9000) (hN:20<=N):Def (s_l30Doc_m N id b k) fun r=>r.1=id/\(SmallDoc r.2.1 r.2.2.1 4/\FG r.2.1 [nBody,nTitle]/\r.2.2.1.length<=2)/\Rdr r.2.2.2.1 r.2.2.2.2 (j+100):=by
 unfold s_l30Doc_m
 refine Def.meet (fun g=>∃fs x y,SmallDoc fs [] 1/\FG fs [nBody]/\Rdr x y (j+31)/\g=(0,id,fs,x,y)) ?_ fun J hJ=>?_
 .rintro _ ⟨fs,x,y,hs,hg,hr,rfl⟩
  dsimp only
  refine Def.meet (fun g=>∃fs x y,SmallDoc fs [] 2/\FG fs [nBody,nTitle]/\Rdr x y (j+65)/\g=(0,id,fs,x,y)) ?_ fun J hJ=>?_
  .rintro _ ⟨fs,x,y,hs,hg,hr,rfl⟩
   dsimp only
   refine Def.meet (fun g=>∃fs ats x y,SmallDoc fs ats 3/\(FG fs [nBody,nTitle]/\ats.length<=1)/\Rdr x y (j+70)/\g=(0,id,fs,ats,x,y)) ?_ fun J hJ=>?_
   .rintro _ ⟨fs,ats,x,y,hs,⟨hg,ha⟩,hr,rfl⟩
    dsimp only
    refine Def.bind (pick_def N 3 hr (by omega)) fun r7 ⟨_,_,_,h7⟩=>?_
    refine Def.dif (fun _=>?_) (fun _=>Def.ret ⟨rfl,⟨hs.le (by omega),hg,by dsimp only;omega⟩,h7.le (by omega)⟩)
    refine Def.bind (pick_def N 30 h7 (by omega)) fun r8 ⟨q0,q1,_,h8⟩=>?_
    have q1:=q1 (by omega)
    have hal:=hs.al
    exact Def.ite (by unfold fits;omega) (Def.ite (SmallDoc.room (by omega) (by omega)) (Def.ret ⟨rfl,⟨hs.addA (by simp) (by dsimp only;omega) (by dsimp only;omega),hg,by simp only[zam,zi,zac];omega⟩,h8.le (by omega)⟩))
   .refine Def.bind (pick_def N 3 hr (by omega)) fun r5 ⟨_,_,_,h5⟩=>?_
    refine Def.dif (fun _=>?_) (fun _=>hJ _ ⟨_,_,_,_,hs.le (by omega),⟨hg,by simp⟩,h5.le (by omega),rfl⟩)
    refine Def.bind (pick_def N 4 h5 (by omega)) fun r6 ⟨q0,q1,_,h6⟩=>?_
    have q1:=q1 (by omega)
    exact Def.ite (SmallDoc.room (by simp) (by omega)) (hJ _ ⟨_,_,_,_,hs.addA (x:=(([114,97,116,101]:List UInt8),r6.1)) (by simp) (by dsimp only;omega) (by dsimp only;omega),⟨hg,by simp⟩,h6.le (by omega),rfl⟩)
  .refine Def.bind (pick_def N 3 hr (by omega)) fun r3 ⟨_,_,_,h3⟩=>?_
   refine Def.dif (fun _=>?_) (fun _=>hJ _ ⟨_,_,_,hs.le (by omega),hg.skip nTitle,h3.le (by omega),rfl⟩)
   refine Def.bind (text_def N h3 (by omega) hN) fun r4 ⟨l4,h4⟩=>?_
   have hfl:=hs.fl
   have hl4:=okS_len l4
   exact Def.ite (SmallDoc.room (by omega) (by omega)) (hJ _ ⟨_,_,_,hs.addF (x:=(([116,105,116,108,101]:List UInt8),r4.1)) (by simp) (by dsimp only;omega),hg.add nTitle _ l4,h4.le (by omega),rfl⟩)
 .refine Def.bind (pick_def N 6 h (by omega)) fun r ⟨_,_,_,h1⟩=>?_
  have g0:FG [] []:=⟨List.Sublist.refl _,fun x hx=>by cases hx⟩
  refine Def.dif (fun _=>?_) (fun _=>hJ _ ⟨_,_,_,SmallDoc.nil.le (by omega),g0.skip nBody,h1.le (by omega),rfl⟩)
  refine Def.bind (text_def N h1 (by omega) hN) fun r2 ⟨l2,h2⟩=>?_
  have hl2:=okS_len l2
  exact Def.ite (SmallDoc.room (by simp) (by omega)) (hJ _ ⟨_,_,_,SmallDoc.nil.addF (x:=(([98,111,100,121]:List UInt8),r2.1)) (by simp) (by dsimp only;omega),g0.add nBody _ l2,h2.le (by omega),rfl⟩)
structure DrawnDocs (docs:List EDoc) (m:Int):Prop where
 few:docs.length<=6
 ids:docs.Pairwise fun a b=>a.1<b.1
 top:∀d,d∈docs->1<=d.1/\d.1<=m
 each:∀d,d∈docs->okD Sm TDoc d/\FG d.2.1 [nBody,nTitle]/\d.2.2.length<=2
theorem DrawnDocs.ok {docs:List EDoc} {m:Int} (h:DrawnDocs docs m):DOk docs:=by
 refine⟨⟨h.ids,fun d hd=>?_⟩,by have:=h.few;omega,fun d hd=>?_⟩
 .exact (h.each d hd).2.1.names.nodup (by decide)
 .have:=h.each d hd
  have hl:=this.2.1.names.length_le
  simp only[zar,zi,zac]at hl
  exact⟨by omega,by omega,fun f hf=>⟨okS_okT (this.2.1.texts f hf),okS_len (this.2.1.texts f hf)⟩⟩
theorem docs_def (N:Nat) {b:List Int} {k:Int} {j:Nat} (h:Rdr b k j) (hj:j<=8000) (hN:20<=N):Def (s_l30Docs_m N b k) fun r=>DrawnDocs r.1 100/\Rdr r.2.1 r.2.2 (j+700):=by
 unfold s_l30Docs_m
 refine Def.bind (pick_def N 6 h (by omega)) fun r ⟨p0,p1,_,h1⟩=>?_
 have p1:=p1 (by omega)
 refine Def.iter (fun g=>∃out:List EDoc,∃id:Int,∃n:Nat,∃x y,n<=6/\out.length+n<=6/\(0<=id/\id<=4*(6-n))/\DrawnDocs out id/\Rdr x y (j+1+110*(6-n))/\g=(out,id,(n:Int),x,y)) (fun g=>g.2.2.1.toNat) ?_ N _ ⟨[],0,r.1.toNat,_,_,by omega,by simp;omega,by omega,⟨by simp,za4,(fun z hz=>by cases hz),(fun z hz=>by cases hz)⟩,h1.le (by omega),by rw[zbU p0]⟩ (by show r.1.toNat<N;omega)
 rintro go _ ⟨out,id,n,x,y,hn,hl,hid,ho,hr,rfl⟩ hgo
 dsimp only
 refine Def.dif (fun e=>?_) (fun e=>Def.ret ⟨⟨ho.few,ho.ids,fun d hd=>⟨(ho.top d hd).1,by have:=(ho.top d hd).2;omega⟩,ho.each⟩,hr.le (by omega)⟩)
 refine Def.ite (by unfold fits;omega) ?_
 refine Def.bind (pick_def N 3 hr (by omega)) fun r2 ⟨q0,q1,_,h2⟩=>?_
 have q1:=q1 (by omega)
 refine Def.ite (by unfold fits;omega) ?_
 refine Def.bind (doc_def N _ h2 (by omega) hN) fun r3 ⟨e3,s3,h3⟩=>?_
 refine Def.ite (room_of (by simp;omega) (by simp;omega)) (Def.ite (by unfold fits;omega) (hgo _ ⟨out++ [(r3.1,r3.2.1,r3.2.2.1)],id+1+r2.1,n-1,_,_,by omega,?_,by omega,⟨?_,?_,fun z hz=>?_,fun z hz=>?_⟩,h3.le (by omega),?_⟩ ?_))
 .simp only [zam,zi,zac];omega
 .simp only [zam,zi,zac];omega
 .refine List.pairwise_append.2 ⟨ho.ids,by simp,fun a ha b hb=>?_⟩
  rw[zaD]at hb
  subst hb
  have:=(ho.top a ha).2
  show a.1<r3.1
  omega
 .rcases zaB.1 hz with hz|hz
  .have:=ho.top z hz;omega
  .rw [zaD]at hz;subst hz;dsimp only;omega
 .rcases zaB.1 hz with hz|hz
  .exact ho.each z hz
  .rw [zaD.1 hz];exact⟨s3.1.ok (by omega) (by rw[e3];omega),s3.2.1,s3.2.2⟩
 .rw [show((n:Int)-1)=((n-1:Nat):Int)from by omega]
 .show ((n:Int)-1).toNat<(n:Int).toNat
  omega
def okSynW' (st:List (List UInt8)) (w:List UInt8):Bool:=okW w&&(decide (once w=none)&& !decide (w∈st))
def okSyn' (st:List (List UInt8)) (y:ESyn):Bool:=(decide ((1:Int)<=y.1.length)&&decide ((y.1.length:Int)<=3))&&(okW y.2&&(decide (once y.2=none)&&y.1.all (okSynW' st)))
def okConf' (c:EConf):Bool:=decide ((c.1.length:Int)<=6)&&(allN c.1.length (okUp c.1)&&(decide ((c.2.length:Int)<=4)&&c.2.all (okSyn' c.1)))
theorem okConf_of (c:EConf) (h:okConf' c=true):okConf c=true:=by
 unfold okConf' at h
 unfold okConf
 simp only[zj,zw,zax]at h⊢
 refine⟨h.1,h.2.1,h.2.2.1,fun y hy=>?_⟩
 have h1:=h.2.2.2 y hy
 unfold okSyn' at h1
 unfold okSyn
 simp only[zj,zw,zax]at h1⊢
 refine⟨h1.1,h1.2.1,stemF_none h1.2.2.1,fun w hw=>?_⟩
 have h2:=h1.2.2.2 w hw
 unfold okSynW' at h2
 unfold okSynW
 simp only[zj,zw]at h2⊢
 exact⟨h2.1,stemF_none h2.2.1,h2.2.2⟩
def fewC (c:EConf):Bool:=decide (c.1.length<=10)&&c.1.all (fun w=>decide (w.length<=20))&&decide (c.2.length<=10)&&c.2.all (fun y=>decide (y.1.length<=10)&&y.1.all (fun w=>decide (w.length<=20))&&decide (y.2.length<=20))
theorem fewC_ok (c:EConf) (h:fewC c=true):okD Sm TConf c:=by
 unfold fewC at h
 simp only[zj,zw,zax]at h
 obtain⟨⟨⟨h1,h2⟩,h3⟩,h4⟩:=h
 refine⟨⟨by show c.1.length<=1048576;omega,fun x hx=>by have:=h2 x hx;show x.length<=1048576;omega⟩,⟨by show c.2.length<=1048576;omega,fun y hy=>?_⟩⟩
 have h5:=h4 y hy
 exact⟨⟨by show y.1.length<=1048576;omega,fun x hx=>by have:=h5.1.2 x hx;show x.length<=1048576;omega⟩,by show y.2.length<=1048576;omega⟩
def stops3 :List (List (List UInt8)):=[[],[[116,104,101]],[[100,111,103],[116,104,101]]]
def syns3 :List (List ESyn):=[[],[([[110,101,119],[121,111,114,107]],[110,121])],[([[98,105,103]],[108,97,114,103]),([[98,105,103],[114,101,100],[102,111,120]],[102,111,120]),([[110,101,119],[121,111,114,107]],[110,121])]]
theorem confs_ok :∀s,s∈stops3->∀y,y∈syns3->okConf' (s,y)=true/\fewC (s,y)=true:=by decide+kernel
theorem conf_def (N:Nat) {b:List Int} {k:Int} {j:Nat} (h:Rdr b k j) (hj:j<=10000):Def (s_l30Conf_m N b k) fun r=>(okConf (r.1,r.2.1)=true/\okD Sm TConf (r.1,r.2.1))/\Rdr r.2.2.1 r.2.2.2 (j+3):=by
 have fin:∀s y,s∈stops3->y∈syns3->okConf (s,y)=true/\okD Sm TConf (s,y):=fun s y hs hy=>⟨okConf_of _ (confs_ok s hs y hy).1,fewC_ok _ (confs_ok s hs y hy).2⟩
 unfold s_l30Conf_m
 refine Def.meet (fun g=>∃c x y,c∈stops3/\Rdr x y (j+1)/\g=(c,x,y)) ?_ fun J hJ=>?_
 .rintro _ ⟨c,x,y,hc,hr,rfl⟩
  dsimp only
  refine Def.meet (fun g=>∃c x y,c∈stops3/\Rdr x y (j+2)/\g=(c,x,y)) ?_ fun J hJ=>?_
  .rintro _ ⟨c,x,y,hc,hr,rfl⟩
   dsimp only
   refine Def.bind (pick_def N 4 hr (by omega)) fun r3 ⟨_,_,_,h3⟩=>?_
   refine Def.dif (fun _=>Def.ret ⟨fin _ _ hc (by simp[syns3]),h3⟩) (fun _=>?_)
   exact Def.dif (fun _=>Def.ret ⟨fin _ _ hc (by simp[syns3]),h3⟩) (fun _=>Def.ret ⟨fin _ _ hc (by simp[syns3]),h3⟩)
  .refine Def.bind (pick_def N 4 hr (by omega)) fun r2 ⟨_,_,_,h2⟩=>?_
   exact Def.dif (fun _=>hJ _ ⟨_,_,_,by decide,h2,rfl⟩) (fun _=>hJ _ ⟨_,_,_,hc,h2,rfl⟩)
 .refine Def.bind (pick_def N 3 h (by omega)) fun r ⟨_,_,_,h1⟩=>?_
  exact Def.dif (fun _=>hJ _ ⟨_,_,_,by decide,h1,rfl⟩) (fun _=>hJ _ ⟨_,_,_,by decide,h1,rfl⟩)
structure Drawn (c:EConf) (s:ESeg):Prop where
 conf:okD Sm TConf c
 docs:∀x,x∈s.1->okD Sm TDoc x
 few:s.1.length<=1048576
theorem seg_def (N:Nat) (hM:1048576<N) {b:List Int} {k:Int} (h:Rdr b k 0):Def (s_l30Seg_m N b k) fun r=>Drawn (r.1,r.2.1) (r.2.2.1,r.2.2.2.1)/\(0<r.2.2.2.1.length->0<r.2.2.1.length)/\r.2.2.2.1.length<=10000/\Rdr r.2.2.2.2.1 r.2.2.2.2.2 1000:=by
 unfold s_l30Seg_m
 refine Def.bind (conf_def N h (by omega)) fun r ⟨⟨c1,c2⟩,h1⟩=>?_
 refine Def.bind (docs_def N h1 (by omega) (by omega)) fun r2 ⟨d1,h2⟩=>?_
 have hd:=d1.ok
 rw[l7Of_spec N (r.1,r.2.1) c1 hd hM,za]
 have hs:=(entries_small (r.1,r.2.1) hd).1
 refine Def.ret ⟨⟨c2,fun x hx=>(d1.each x hx).1,by have:=d1.few;show r2.1.length<=_;omega⟩,fun hl=>?_,by show(entriesS (r.1,r.2.1) r2.1).length<=_;omega,h2.le (by omega)⟩
 show 0<r2.1.length
 rcases Nat.eq_zero_or_pos r2.1.length with h0|h0
 .have:r2.1=[]:=zbj h0
  dsimp only at hl
  rw[this]at hl
  exact absurd hl (Nat.lt_irrefl _)
 .exact h0
theorem anySeg_def (N:Nat) (hM:1048576<N) {b:List Int} {k:Int} (h:Rdr b k 0):Def (s_l30AnySeg_m N b k) fun r=>Drawn (r.1,r.2.1) (r.2.2.1,r.2.2.2.1)/\Rdr r.2.2.2.2.1 r.2.2.2.2.2 1002:=by
 unfold s_l30AnySeg_m
 refine Def.bind (seg_def N hM h) fun r ⟨d1,d2,d3,h1⟩=>?_
 refine Def.dif (fun e=>?_) (fun e=>Def.ret ⟨d1,h1.le (by omega)⟩)
 refine Def.bind (pick_def N _ h1 (by omega)) fun r2 ⟨p0,p1,_,h2⟩=>?_
 have p1:=p1 (by omega)
 refine Def.bind (pick_def N 16 h2 (by omega)) fun r3 ⟨_,_,_,h3⟩=>?_
 have hn:r2.1.toNat<r.2.2.2.1.length:=by omega
 refine Def.dif (fun _=>?_) (fun _=>?_)
 .refine Def.ite (by omega) ?_
  rw[zc hn,za]
  exact Def.ret ⟨⟨d1.conf,d1.docs,d1.few⟩,h3⟩
 refine Def.dif (fun _=>?_) (fun _=>?_)
 .refine Def.ite (by omega) ?_
  rw[zc hn,za]
  exact Def.ite (room_of (by simp;omega) (by simp;omega)) (Def.ret ⟨⟨d1.conf,d1.docs,d1.few⟩,h3⟩)
 refine Def.dif (fun _=>?_) (fun _=>Def.ret ⟨d1,h3⟩)
 have hdl:=d2 (by omega)
 refine Def.cut (by omega) (by omega) (by omega) (Def.ret ⟨⟨d1.conf,fun x hx=>?_,?_⟩,h3⟩)
 .exact d1.docs x (zaP (zbP hx))
 .have:=d1.few
  show((r.2.2.1.take _).drop _).length<=1048576
  rw[zaQ,zah]
  dsimp only at this
  omega
theorem one_def (N:Nat) {l:List Int} {b:List Int} {k:Int} {j:Nat} (hl:0<l.length) (h:Rdr b k j) (hj:j<=1000000):Def (s_l30Rd_one_m N l b k) fun r=>r.1∈l/\Rdr r.2.1 r.2.2 (j+1):=by
 unfold s_l30Rd_one_m
 refine Def.bind (pick_def N _ h hj) fun r ⟨h0,h1,_,h3⟩=>?_
 exact Def.idx h0 (h1 (by omega)) fun x hx _=>Def.ret ⟨hx,h3⟩
def AQ (q:DQ):Prop:=∀n,BQ n q
theorem AQ.mk' {k:Int} {f:List UInt8} {ws:List (List UInt8)} {a b:Int} {kids:List DQ} (h1:f.length<=1000) (h2:ws.length<=1000) (h3:∀w,w∈ws->w.length<=1000) (h4:kids.length<=1000) (h5:∀c,c∈kids->AQ c):AQ (.mk k f ws a b kids)
 |0=>True.intro
 |n+1=>⟨by show f.length<=_;omega,by show ws.length<=_;omega,fun w hw=>by have:=h3 w hw;omega,by show kids.length<=_;omega,fun c hc=>h5 c hc n⟩
theorem nil100 :([]:List UInt8).length<=100:=by decide
theorem nilW :([]:List (List UInt8)).length<=100:=by decide
theorem nilK :([]:List DQ).length<=100:=by decide
structure Own (q:Int) (f:List UInt8) (ws:List (List UInt8)) (kids:List DQ):Prop where
 f:f.length<=100
 n:ws.length<=100
 w:∀w,w∈ws->w.length<=100
 k:kids.length<=100
 c:∀c,c∈kids->AQ c
theorem Own.aq {q:Int} {f:List UInt8} {ws:List (List UInt8)} {a b:Int} {kids:List DQ} (h:Own q f ws kids):AQ (.mk q f ws a b kids):=
 AQ.mk' (by have:=h.f;omega) (by have:=h.n;omega) (fun w hw=>by have:=h.w w hw;omega) (by have:=h.k;omega) h.c
theorem known_def (N:Nat) {b:List Int} {k:Int} {j:Nat} (h:Rdr b k j) (hj:j<=200000):Def (s_l30Known_m N) fun r3=>Def (s_l30Rd_of_m N r3 b k) fun r=>r.1.length<=100/\Rdr r.2.1 r.2.2 (j+1):=by
 unfold s_l30Known_m
 refine Def.ret ?_
 refine Def.mono (of_def N (by decide) h (by omega)) fun r ⟨m,hr⟩=>⟨?_,hr⟩
 have hall:∀(l:List (List UInt8)),l.all (fun w=>decide (w.length<=100))=true->∀w,w∈l->w.length<=100:=fun l h w hw=>of_decide_eq_true (zax.1 h w hw)
 exact hall _ (by decide) _ m
theorem leaf_def (N:Nat) {b:List Int} {k:Int} {j:Nat} (h:Rdr b k j) (hj:j<=100000):Def (s_l30Leaf_m N b k) fun r=>Own r.1 r.2.1 r.2.2.1 []/\Rdr r.2.2.2.2.2.1 r.2.2.2.2.2.2 (j+10):=by
 have nok:∀c,c∈([]:List DQ)->AQ c:=fun c hc=>by cases hc
 unfold s_l30Leaf_m
 refine Def.bind (of_def N (by decide) h (by omega)) fun r ⟨m,h1⟩=>?_
 have hf:r.1.length<=100:=(by decide:∀w,w∈([([98,111,100,121]:List UInt8),([98,111,100,121]:List UInt8),([116,105,116,108,101]:List UInt8)]:List (List UInt8))->w.length<=100) _ m
 refine Def.bind (pick_def N 9 h1 (by omega)) fun r2 ⟨_,_,_,h2⟩=>?_
 refine Def.dif (fun _=>Def.ret ⟨⟨nil100,nilW,(fun w hw=>by cases hw),nilK,nok⟩,h2.le (by omega)⟩) (fun _=>?_)
 refine Def.dif (fun _=>?_) (fun _=>?_)
 .refine Def.bind (known_def N h2 (by omega)) fun r3 d3=>Def.bind d3 fun r4 ⟨l4,h4⟩=>?_
  refine Def.bind (known_def N h4 (by omega)) fun r5 d5=>Def.bind d5 fun r6 ⟨l6,h6⟩=>?_
  refine Def.bind (pick_def N 3 h6 (by omega)) fun r7 ⟨_,_,_,h7⟩=>Def.ret ⟨⟨hf,by simp,fun w hw=>?_,nilK,nok⟩,h7.le (by omega)⟩
  simp only[zp,zbY,or_false]at hw
  rcases hw with e|e<;>rw[e]<;>assumption
 refine Def.dif (fun _=>?_) (fun _=>?_)
 .refine Def.bind (of_def N (by decide) h2 (by omega)) fun r8 ⟨m8,h8⟩=>?_
  have l8:r8.1.length<=100:=(by decide:∀w,w∈([([99,111,116]:List UInt8),([100,117,103]:List UInt8),([114,110]:List UInt8),([102,111,103]:List UInt8)]:List (List UInt8))->w.length<=100) _ m8
  refine Def.bind (pick_def N 2 h8 (by omega)) fun r9 ⟨p0,p1,_,h9⟩=>?_
  have p1:=p1 (by omega)
  exact Def.ite (by unfold fits;omega) (Def.ret ⟨⟨hf,by simp,(fun w hw=>by rw[zaD.1 hw];exact l8),nilK,nok⟩,h9.le (by omega)⟩)
 refine Def.dif (fun _=>?_) (fun _=>?_)
 .refine Def.bind (of_def N (by decide) h2 (by omega)) fun r8 ⟨m8,h8⟩=>?_
  have l8:r8.1.length<=100:=(by decide:∀w,w∈([([99,42]:List UInt8),([63,111,63]:List UInt8),([42,110]:List UInt8),([42]:List UInt8)]:List (List UInt8))->w.length<=100) _ m8
  exact Def.ret ⟨⟨hf,by simp,(fun w hw=>by rw[zaD.1 hw];exact l8),nilK,nok⟩,h8.le (by omega)⟩
 refine Def.dif (fun _=>?_) (fun _=>?_)
 .refine Def.bind (pick_def N 4 h2 (by omega)) fun r8 ⟨p0,p1,_,h8⟩=>?_
  refine Def.bind (pick_def N 3 h8 (by omega)) fun r9 ⟨q0,q1,_,h9⟩=>?_
  have p1:=p1 (by omega)
  have q1:=q1 (by omega)
  exact Def.ite (by unfold fits;omega) (Def.ret ⟨⟨by simp,nilW,(fun w hw=>by cases hw),nilK,nok⟩,h9.le (by omega)⟩)
 .refine Def.bind (known_def N h2 (by omega)) fun r3 d3=>Def.bind d3 fun r4 ⟨l4,h4⟩=>?_
  exact Def.ret ⟨⟨hf,by simp,(fun w hw=>by rw[zaD.1 hw];exact l4),nilK,nok⟩,h4.le (by omega)⟩
def dT :Nat->Nat
 |0=>10
 |n+1=>3*dT n+3
theorem dT_ge :∀n,10<=dT n
 |0=>zae _
 |n+1=>by have:=dT_ge n;show 10<=3*dT n+3;omega
theorem query_def (N:Nat) (hN:20<=N):∀(D deep:Nat),deep<D->∀ {b:List Int} {k:Int} {j:Nat},Rdr b k j->j+dT deep<=100000->deep<=10->Def (s_l30Query_m N D (deep:Int) b k) fun r=>Own r.1 r.2.1 r.2.2.1 r.2.2.2.2.2.1/\Rdr r.2.2.2.2.2.2.1 r.2.2.2.2.2.2.2 (j+dT deep)
 |0,_,hd,_,_,_,_,_,_=>absurd hd (zbN _)
 |D+1,deep,hd,b,k,j,h,hj,hdd=>by
  have hg:=dT_ge deep
  rw[s_l30Query_m]
  refine Def.dif (fun e=>?_) (fun e=>?_)
  .exact Def.bind (leaf_def N h (by omega)) fun r ⟨o,h1⟩=>Def.ret ⟨o,h1.le (by omega)⟩
  obtain⟨d,rfl⟩:∃d,deep=d+1:=⟨deep-1,by omega⟩
  have hdt:dT (d+1)=3*dT d+3:=rfl
  have hg2:=dT_ge d
  have e1:((d+1:Nat):Int)-1=(d:Int):=by omega
  refine Def.bind (pick_def N 3 h (by omega)) fun r2 ⟨_,_,_,h2⟩=>?_
  refine Def.dif (fun _=>Def.bind (leaf_def N h2 (by omega)) fun r ⟨o,h1⟩=>Def.ret ⟨o,h1.le (by omega)⟩) (fun _=>?_)
  refine Def.bind (pick_def N 6 h2 (by omega)) fun r4 ⟨_,_,_,h4⟩=>?_
  refine Def.dif (fun _=>?_) (fun _=>?_)
  .refine Def.ite (by unfold fits;omega) ?_
   rw[e1]
   refine Def.bind (query_def N hN D d (by omega) h4 (by omega) (by omega)) fun r5 ⟨o5,h5⟩=>?_
   refine Def.ite (by unfold fits;omega) ?_
   refine Def.bind (query_def N hN D d (by omega) h5 (by omega) (by omega)) fun r6 ⟨o6,h6⟩=>?_
   refine Def.ret ⟨⟨nil100,nilW,(fun w hw=>by cases hw),by simp,fun c hc=>?_⟩,h6.le (by omega)⟩
   simp only[zp,zbY,or_false]at hc
   rcases hc with rfl|rfl
   .exact o5.aq
   .exact o6.aq
  refine Def.dif (fun _=>?_) (fun _=>?_)
  .refine Def.bind (pick_def N 4 h4 (by omega)) fun r7 ⟨p0,p1,_,h7⟩=>?_
   have p1:=p1 (by omega)
   refine Def.ite (by unfold fits;omega) (Def.ite (by unfold fits;omega) ?_)
   rw[e1]
   refine Def.bind (query_def N hN D d (by omega) h7 (by omega) (by omega)) fun r8 ⟨o8,h8⟩=>?_
   exact Def.ret ⟨⟨nil100,nilW,(fun w hw=>by cases hw),by simp,(fun c hc=>by rw[zaD.1 hc];exact o8.aq)⟩,h8.le (by omega)⟩
  refine Def.meet (fun g=>∃(t:Bool) (x:List Int) (y:Int),Rdr x y (j+2)/\g=(((d+1:Nat):Int),t,0,([]:List UInt8),0,0,x,y)) ?_ fun J hJ=>?_
  .rintro _ ⟨t,x,y,hr,rfl⟩
   dsimp only
   refine Def.bif (fun _=>?_) (fun _=>?_)
   .refine Def.ite (by unfold fits;omega) ?_
    rw[e1]
    refine Def.bind (query_def N hN D d (by omega) hr (by omega) (by omega)) fun r5 ⟨o5,h5⟩=>?_
    refine Def.ite (by unfold fits;omega) ?_
    refine Def.bind (query_def N hN D d (by omega) h5 (by omega) (by omega)) fun r6 ⟨o6,h6⟩=>?_
    refine Def.ret ⟨⟨nil100,nilW,(fun w hw=>by cases hw),by simp,fun c hc=>?_⟩,h6.le (by omega)⟩
    simp only[zp,zbY,or_false]at hc
    rcases hc with rfl|rfl
    .exact o5.aq
    .exact o6.aq
   .refine Def.bind (pick_def N 2 hr (by omega)) fun r11 ⟨p0,p1,_,h11⟩=>?_
    have p1:=p1 (by omega)
    refine Def.ite (by unfold fits;omega) ?_
    refine Def.iter (fun g=>∃(n:Nat) (kids:List DQ) (x:List Int) (y:Int),kids.length+n<=3/\(∀c,c∈kids->AQ c)/\Rdr x y (j+3+(3-n)*dT d)/\g=(((d+1:Nat):Int),(n:Int),0,([]:List UInt8),0,0,8,([]:List UInt8),0,0,kids,x,y)) (fun g=>g.2.1.toNat) ?_ N _
     ⟨(2+r11.1).toNat,[],_,_,by simp;omega,(fun c hc=>by cases hc),h11.le (by omega),by rw[zbU (by omega)]⟩ (by show(2+r11.1).toNat<N;omega)
    rintro go _ ⟨n,kids,x,y,hn,hk,hr,rfl⟩ hgo
    dsimp only
    refine Def.dif (fun e3=>?_) (fun e3=>?_)
    .refine Def.ite (by unfold fits;omega) ?_
     rw[e1]
     have hb:(3-n)*dT d<=2*dT d:=zag _ (by omega)
     refine Def.bind (query_def N hN D d (by omega) hr (by omega) (by omega)) fun r12 ⟨o12,h12⟩=>?_
     refine Def.ite (room_of (by rw[zbE];omega) (by rw[zbE];omega)) (Def.ite (by unfold fits;omega) (hgo _ ⟨n-1,kids++ [DQ.mk r12.1 r12.2.1 r12.2.2.1 r12.2.2.2.1 r12.2.2.2.2.1 r12.2.2.2.2.2.1],_,_,by rw[zam,zbE];omega,fun c hc=>?_,h12.le ?_,by rw[show((n:Int)-1)=((n-1:Nat):Int)from by omega]⟩ (by show((n:Int)-1).toNat<((n:Int)).toNat;omega)))
     .rcases zaB.1 hc with hc|hc
      .exact hk c hc
      .rw [zaD.1 hc];exact o12.aq
     .have e4:3-(n-1)=(3-n)+1:=by omega
      rw[e4,zaO,Nat.one_mul];omega
    .have hb:(3-n)*dT d<=3*dT d:=zag _ (by omega)
     exact Def.ret ⟨⟨nil100,nilW,(fun w hw=>by cases hw),by dsimp only;omega,hk⟩,hr.le (by omega)⟩
  .exact Def.dif (fun _=>hJ _ ⟨_,_,_,h4,rfl⟩) (fun _=>hJ _ ⟨_,_,_,h4,rfl⟩)
theorem query3_def (N:Nat) (hN:20<=N) {b:List Int} {k:Int} {j:Nat} (h:Rdr b k j) (hj:j<=50000):Def (s_l30Query_m N N 3 b k) fun r=>Own r.1 r.2.1 r.2.2.1 r.2.2.2.2.2.1/\Rdr r.2.2.2.2.2.2.1 r.2.2.2.2.2.2.2 (j+309):=
 query_def N hN N 3 (by omega) h (by show j+309<=_;omega) (by omega)
theorem anyQuery_def (N:Nat) (hN:20<=N) {b:List Int} {k:Int} {j:Nat} (h:Rdr b k j) (hj:j<=50000):Def (s_l30AnyQuery_m N b k) fun r=>AQ (.mk r.1 r.2.1 r.2.2.1 r.2.2.2.1 r.2.2.2.2.1 r.2.2.2.2.2.1)/\Rdr r.2.2.2.2.2.2.1 r.2.2.2.2.2.2.2 (j+312):=by
 unfold s_l30AnyQuery_m
 refine Def.bind (query3_def N hN h hj) fun r ⟨o,h1⟩=>?_
 have o1:=o.f;have o2:=o.n;have o3:=o.k
 refine Def.bind (pick_def N 16 h1 (by omega)) fun r2 ⟨_,_,_,h2⟩=>?_
 refine Def.dif (fun _=>?_) (fun _=>?_)
 .exact Def.bind (one_def N (by simp) h2 (by omega)) fun r3 ⟨_,h3⟩=>Def.ret ⟨Own.aq ⟨o.f,o.n,o.w,o.k,o.c⟩,h3.le (by omega)⟩
 refine Def.dif (fun _=>?_) (fun _=>?_)
 .exact Def.bind (one_def N (by simp) h2 (by omega)) fun r3 ⟨_,h3⟩=>Def.ret ⟨o.aq,h3.le (by omega)⟩
 refine Def.dif (fun _=>?_) (fun _=>?_)
 .refine Def.ite (room_of (by rw[zbE];omega) (by rw[zbE];omega)) (Def.ret ⟨AQ.mk' (by dsimp only;omega) (by dsimp only;rw[zam,zbE];omega) (fun w hw=>?_) (by dsimp only;omega) o.c,h2.le (by omega)⟩)
  rcases zaB.1 hw with hw|hw
  .have:=o.w w hw;omega
  .rw [zaD.1 hw];decide
 refine Def.dif (fun _=>?_) (fun _=>Def.ret ⟨o.aq,h2.le (by omega)⟩)
 refine Def.ite (room_of (by rw[zbE];omega) (by rw[zbE];omega)) (Def.ret ⟨AQ.mk' (by dsimp only;omega) (by dsimp only;omega) (fun w hw=>by have:=o.w w hw;omega) (by dsimp only;rw[zam,zbE];omega) (fun c hc=>?_),h2.le (by omega)⟩)
 rcases zaB.1 hc with hc|hc
 .rw [zaD.1 hc];exact o.aq
 .exact o.c c hc
structure FitX (N:Nat) (x:EIndex):Prop where
 fit:FitI N x
 few:x.2.length<=6
 each:∀l,l∈x.2->FitL l
theorem foInts_same (N:Nat) (hN:1048576<N) (l:List Int) (hl:l.length<=1048576):l_foInts_m N l l=some true:=by
 unfold l_foInts_m
 rw[zb rfl,zn,ze]
 refine(iter_scan _ l.length (fun n=>(l,l,(n:Int))) (fun _=>some true) (fun go=>?_) (fun go n hn hgo=>?_) N 0 (zaf _) (by omega)).trans rfl
 .dsimp only
  rw[zd (zm _),ze]
 .dsimp only
  rw[zb (by omega:(n:Int)<l.length),zg,idx_at hn,za,za,zb rfl,zn,ze,zf (fits_nat (n:=n) (by omega)),<-hgo,cast_succ']
theorem bytes_ok {code:List Int} (h:okD BigN (.sl (.int .u8)) code):Bs code:=fun x hx=>by
 have:=h.2 x hx
 have e1:IntKind.u8.min=0:=by decide
 have e2:IntKind.u8.max=255:=by decide
 exact⟨by have h1:=this.1;rw[e1]at h1;exact h1,by have h1:=this.2;rw[e2]at h1;exact h1⟩
theorem sumV_pos (V:DQ->Int):∀(l:List DQ) (a:Int),(∀x,x∈l->0<=V x)->0<=a->(0<l.foldl (fun a x=>a+V x) a↔0<a\/ ∃x,x∈l/\0<V x)
 | [],a,_,_=>⟨.inl,fun h=>h.elim id fun⟨x,hx,_⟩=>by cases hx⟩
 |x::l,a,h,h0=>by
  have hx:=h x zy
  rw[zaq,sumV_pos V l (a+V x) (fun y hy=>h y (zl _ hy)) (by omega)]
  constructor
  .rintro (h1|⟨y,hy,h1⟩)
   .by_cases ha:0<a
    .exact .inl ha
    .exact .inr ⟨x,zy,by omega⟩
   .exact .inr ⟨y,zl _ hy,h1⟩
  .rintro (h1|⟨y,hy,h1⟩)
   .exact .inl (by omega)
   .rcases zp.1 hy with rfl|hy
    .exact .inl (by omega)
    .exact .inr ⟨y,hy,h1⟩
theorem manyF_pos (V:DQ->Int) (kind:Int) (hk:kind=7\/kind=8) (kids:List DQ) (h:∀x,x∈kids->0<=V x):0<manyF V kind kids↔(∃x,x∈kids/\0<V x)/\(kind=7->∀x,x∈kids->0<V x):=by
 have hs:=sumV_pos V kids 0 h (zbD _)
 have hs:0<sumV V kids↔∃x,x∈kids/\0<V x:=hs.trans ⟨fun h=>h.elim (fun h=>absurd h (zm _)) id,.inr⟩
 unfold manyF
 cases ha:kids.any (fun x=>decide (V x=0)&&decide (kind=7))with
 |true=>
  rw[zg]
  obtain⟨x,hx,e⟩:=List.any_eq_true.1 ha
  rw[zj,zw,zw]at e
  constructor
  .intro h
   omega
  .rintro ⟨_,h2⟩
   have:=h2 e.2 x hx
   omega
 |false=>
  rw[ze,hs]
  refine⟨fun h1=>⟨h1,fun e x hx=>?_⟩,fun h1=>h1.1⟩
  have h2:=List.any_eq_false.1 ha x hx
  have h3:=h x hx
  rw[e]at h2
  by_cases e0:V x=0
  .rw [zb e0]at h2
   exact absurd rfl h2
  .omega
structure Twin (N:Nat) (c:EConf) (s t:ESeg) (d:EDoc):Prop where
 g1:GoodS N c s
 g2:GoodS N c t
 d1:docOf s.1 d.1=some d
 d2:docOf t.1 d.1=some d
theorem Both.is {N D:Nat} {c:EConf} {s:ESeg} {d:EDoc} {B:Int} {q:DQ} {v:Int} (h:BothQ N D c s d B q v):valS N D c s d q=v:=by unfold valS;rw[h.ref];rfl
theorem pair_inj {Y β:Type} (f:Y->β):∀ {l:List Y},(l.Pairwise fun a b=>f a≠f b)->∀ {a b:Y},a∈l->b∈l->f a=f b->a=b
 | [],_,a,_,h,_,_=>by cases h
 |x::l,hp,a,b,ha,hb,e=>by
  rw[zas]at hp
  rcases zp.1 ha with ha|ha<;>rcases zp.1 hb with hb|hb
  .rw [ha,hb]
  .rw [ha]at e;exact absurd e (hp.1 b hb)
  .rw [hb]at e;exact absurd e.symm (hp.1 a ha)
  .exact pair_inj f hp.2 ha hb e
theorem forD {k:Nat} {P:Nat->Prop} (h:∀D,k<D->P (D+1)):∀D,k+1<D->P D
 |0,hD=>by omega
 |D+1,hD=>h D (by omega)
theorem score_fix (N:Nat) {c:EConf} {s:ESeg} (g:GoodS N c s) (d:EDoc) (hd:docOf s.1 d.1=some d):∀k:Nat,k<=4->∀q:DQ,okQ k q=true->∃v,∀D,k<D->BothQ N D c s d (bnd k) q v
 |0,_,q,hq=>by rw[okQ]at hq;cases hq
 |k+1,hk,.mk kind f ws a b kids,hq=>by
  rw[okQ,zj,zax]at hq
  obtain⟨ho,hkids⟩:=hq
  have hb:=bnd_in k (by omega)
  have hb1:=bnd_in (k+1) hk
  have ih:=score_fix N g d hd k (by omega)
  have hbe:bnd (k+1)=9*bnd k:=rfl
  show ∃v,∀D,k+1<D->Both N D c s d (bnd (k+1)) kind f ws a b kids v
  by_cases h1:kind=1
  .subst h1
   exact⟨_,forD fun D hD=>(both_all N D d f ws a b kids).mono hb1.1⟩
  by_cases h2:kind=2
  .subst h2
   have h:((decide (a=0)&&decide (b=0)&&nilB kids)&&(okW f&&(ws.all okW&&decide ((ws.length:Int)=1))))=true:=ho
   simp only[zj,zw]at h
   obtain⟨w,rfl⟩:=one_list' h.2.2.2
   have hw:okW w=true:=zax.1 h.2.2.1 w zy
   exact⟨_,forD fun D hD=>(both_term N D g d f w a b kids hw).mono hb1.1⟩
  by_cases h3:kind=3
  .subst h3
   have h:(nilB kids&&(okW f&&(ws.all okW&&(decide ((2:Int)<=ws.length)&&decide ((ws.length:Int)<=4))&&(decide (b=0)&&(decide (0<=a)&&decide (a<=5))))))=true:=ho
   simp only[zj,zw]at h
   exact⟨_,forD fun D hD=>(both_phrase N D g d f ws a b kids (zax.1 h.2.2.1.1) (by omega)).mono hb1.1⟩
  by_cases h4:kind=4
  .subst h4
   have h:(nilB kids&&(okW f&&(ws.all okW&&decide ((ws.length:Int)=1)&&(decide (b=0)&&(decide (1<=a)&&decide (a<=2))))))=true:=ho
   simp only[zj,zw]at h
   obtain⟨w,rfl⟩:=one_list' h.2.2.1.2
   have hw:okW w=true:=zax.1 h.2.2.1.1 w zy
   exact⟨_,forD fun D hD=>(both_near N D g d f w a b kids hw h.2.2.2.2.2).mono hb1.1⟩
  by_cases h5:kind=5
  .subst h5
   have h:((decide (a=0)&&decide (b=0)&&nilB kids)&&(okW f&&(ws.all (fun w=>okG w&& !okW w)&&decide ((ws.length:Int)=1))))=true:=ho
   simp only[zj,zw]at h
   obtain⟨w,rfl⟩:=one_list' h.2.2.2
   have hw:=zax.1 h.2.2.1 w zy
   rw[zj]at hw
   have hl:w.length<=12:=by
    have:=hw.1
    unfold okG at this
    simp only[zj,zw]at this
    omega
   exact⟨_,forD fun D hD=>(both_glob N D g d f w a b kids hw.1 hl).mono hb1.1⟩
  by_cases h6:kind=6
  .subst h6
   exact⟨_,forD fun D hD=>(both_range N D g d hd f ws a b kids).mono hb1.1⟩
  by_cases h78:kind=7\/kind=8
  .have hl:kids.length<=4:=by
    unfold oneQ at ho
    rw[zd h1,ze,zd h2,ze,zd h3,ze,zd h4,ze,zd h5,ze,zd h6,ze,show(decide (kind=7)||decide (kind=8))=true from by rcases h78 with h|h<;>subst h<;>rfl,zg]at ho
    simp only[zj,zw]at ho
    omega
   have hex:∀x,x∈kids->∀D,k<D->BothQ N D c s d (bnd k) x (valS N (k+1) c s d x):=fun x hx D hD=>by
    obtain⟨v,hv⟩:=ih x (hkids x hx)
    rw[Both.is (hv (k+1) (by omega))]
    exact hv D hD
   exact⟨_,forD fun D hD=>both_many N D g.m d kind h78 f ws a b kids hl (valS N (k+1) c s d) (bnd k) (by omega) hb.2 (fun x hx=>hex x hx D hD)⟩
  have hn78:(decide (kind=7)||decide (kind=8))=false:=by
   rw[zd (fun h=>h78 (.inl h)),zd (fun h=>h78 (.inr h))]
   rfl
  unfold oneQ at ho
  rw[zd h1,ze,zd h2,ze,zd h3,ze,zd h4,ze,zd h5,ze,zd h6,ze,hn78,ze]at ho
  by_cases h9:kind=9
  .subst h9
   rw[zb rfl,zg]at ho
   simp only[zj,zw]at ho
   obtain⟨x,y,rfl⟩:=two_list ho.2.2.2
   obtain⟨v,hv⟩:=ih x (hkids x zy)
   obtain⟨w,hw⟩:=ih y (hkids y (zl _ zy))
   exact⟨_,forD fun D hD=>(both_less N D d f ws a b x y _ v w (hv D hD) (hw D hD)).mono (by omega)⟩
  rw[zd h9,ze]at ho
  by_cases h10:kind=10
  .subst h10
   rw[zb rfl,zg]at ho
   simp only[zj,zw]at ho
   obtain⟨x,rfl⟩:=one_list' ho.2.2.1
   obtain⟨v,hv⟩:=ih x (hkids x zy)
   exact⟨_,forD fun D hD=>both_times N D d f ws a b x _ v hb.2 (hv D hD) ho.2.2.2.2⟩
  rw[zd h10,ze]at ho
  cases ho
theorem okQ_more :∀(k:Nat) (q:DQ),okQ k q=true->okQ (k+1) q=true
 |0,q,h=>by rw[okQ]at h;cases h
 |k+1,.mk kind f ws a b kids,h=>by
  rw[okQ,zj,zax]at h
  rw[okQ,h.1,zaj,zax]
  exact fun x hx=>okQ_more k x (h.2 x hx)
structure TwoV (N:Nat) (c:EConf) (s:ESeg) (d:EDoc) (q p:DQ):Prop where
 low1:0<=valS N N c s d q
 low2:0<=valS N N c s d p
 both:0<valS N N c s d (.mk 7 [] [] 0 0 [q,p])↔0<valS N N c s d q/\0<valS N N c s d p
 either:0<valS N N c s d (.mk 8 [] [] 0 0 [q,p])↔0<valS N N c s d q\/0<valS N N c s d p
 less:0<valS N N c s d (.mk 9 [] [] 0 0 [q,p])↔0<valS N N c s d q/\¬0<valS N N c s d p
theorem twoV (N:Nat) {c:EConf} {s:ESeg} (g:GoodS N c s) (d:EDoc) (hd:docOf s.1 d.1=some d) {q p:DQ} (hq:okQ 3 q=true) (hp:okQ 3 p=true):TwoV N c s d q p:=by
 have hN:=g.m
 obtain⟨D,rfl⟩:∃D,N=D+1:=⟨N-1,by omega⟩
 obtain⟨v,hv⟩:=score_fix (D+1) g d hd 3 (by omega) q hq
 obtain⟨w,hw⟩:=score_fix (D+1) g d hd 3 (by omega) p hp
 have hb:=bnd_in 3 (by omega)
 have v1:=Both.is (hv (D+1) (by omega))
 have w1:=Both.is (hw (D+1) (by omega))
 have hv:=hv D (by omega)
 have hw:=hw D (by omega)
 have lv:=hv.low
 have lw:=hw.low
 have each:∀x,x∈ [q,p]->BothQ (D+1) D c s d (bnd 3) x (valS (D+1) (D+1) c s d x):=fun x hx=>by
  simp only[zp,zbY,or_false]at hx
  rcases hx with rfl|rfl
  .rw [v1];exact hv
  .rw [w1];exact hw
 have pos:∀x,x∈ [q,p]->0<=valS (D+1) (D+1) c s d x:=fun x hx=>(each x hx).low
 have m7:=both_many (D+1) D hN d 7 (.inl rfl) [] [] 0 0 [q,p] (by simp) (valS (D+1) (D+1) c s d) (bnd 3) (by omega) hb.2 each
 have m8:=both_many (D+1) D hN d 8 (.inr rfl) [] [] 0 0 [q,p] (by simp) (valS (D+1) (D+1) c s d) (bnd 3) (by omega) hb.2 each
 have m9:=both_less (D+1) D d [] [] 0 0 q p (bnd 3) v w hv hw
 refine⟨by omega,by omega,?_,?_,?_⟩
 .rw [Both.is (q:=.mk 7 [] [] 0 0 [q,p]) m7,manyF_pos _ 7 (.inl rfl) _ pos]
  exact⟨fun h=>⟨h.2 rfl q (by simp),h.2 rfl p (by simp)⟩,fun h=>⟨⟨q,by simp,h.1⟩,fun _ x hx=>by
   simp only[zp,zbY,or_false]at hx
   rcases hx with rfl|rfl
   .exact h.1
   .exact h.2⟩⟩
 .rw [Both.is (q:=.mk 8 [] [] 0 0 [q,p]) m8,manyF_pos _ 8 (.inr rfl) _ pos]
  refine⟨fun h=>?_,fun h=>⟨?_,fun e=>by cases e⟩⟩
  .obtain ⟨x,hx,h1⟩:=h.1
   simp only[zp,zbY,or_false]at hx
   rcases hx with rfl|rfl
   .exact .inl h1
   .exact .inr h1
  .rcases h with h|h
   .exact ⟨q,by simp,h⟩
   .exact ⟨p,by simp,h⟩
 .rw [Both.is (q:=.mk 9 [] [] 0 0 [q,p]) m9,v1,w1]
  by_cases h:0<w
  .rw [zb h,zg]
   exact⟨fun h=>absurd h (zm _),fun h2=>absurd h h2.2⟩
  .rw [zd h,ze]
   exact⟨fun h2=>⟨h2,h⟩,fun h2=>h2.1⟩
theorem okDoc_id {d:EDoc} (h:okDoc d=true):1<=d.1/\d.1<=9999:=by
 unfold okDoc at h
 simp only[zj,zw]at h
 omega
def idsP (docs:List EDoc) (P:EDoc->Bool):List Int:=(docs.filter P).map (·.1)
theorem idsP_mem {docs:List EDoc} (hi:docs.Pairwise fun a b=>a.1<b.1) {P:EDoc->Bool} {d:EDoc} (hd:d∈docs):d.1∈idsP docs P↔P d=true:=by
 unfold idsP
 constructor
 .intro h
  obtain⟨e,he,h1⟩:=zab.1 h
  obtain⟨h2,h3⟩:=zaZ.1 he
  rw[<-pair_inj (·.1) (hi.imp fun h e=>by omega) h2 hd h1]
  exact h3
 .intro h
  exact zab.2 ⟨d,zaZ.2 ⟨hd,h⟩,rfl⟩
theorem idsP_up {docs:List EDoc} (hi:docs.Pairwise fun a b=>a.1<b.1) (P:EDoc->Bool):upL (idsP docs P):=by
 unfold idsP upL
 exact zbb.2 (hi.sublist List.filter_sublist)
theorem idsP_len (docs:List EDoc) (P:EDoc->Bool):(idsP docs P).length<=docs.length:=by
 unfold idsP
 rw[zar]
 exact zbh _ _
theorem upB_of {l:List Int} (h1:upL l) (h2:l.length<=60) (h3:∀x,x∈l->0<=x/\x<=999999999):upB l=true:=by
 unfold upB allN
 rw[zj,zax,zw]
 refine⟨fun n hn=>?_,by omega⟩
 have hn:n<l.length:=by simpa using hn
 unfold upC
 rw[<-iAt_eq hn]
 have h4:=h3 _ (zr hn)
 rw[zb h4.1,zb h4.2,zaj,zaj]
 match n,hn with
 |0,_=>rfl
 |n+1,hn=>
  rw[zbq,<-iAt_eq (by omega:n<l.length)]
  have:=za2.1 h1 n (n+1) (by omega) hn (by omega)
  rw[zd (by omega),zd (by omega)]
  rfl
theorem idsP_ok {docs:List EDoc} (h:okDocs docs=true) (P:EDoc->Bool):upB (idsP docs P)=true:=by
 have hd:=okDocs_ok h
 have hl:=idsP_len docs P
 have hf:=hd.few
 refine upB_of (idsP_up hd.inn.ids P) (by omega) fun x hx=>?_
 obtain⟨d,h1,rfl⟩:=zab.1 hx
 have h2:=okDoc_each h d (zaZ.1 h1).1
 have:=okDoc_id h2
 omega
theorem hits_ids (V:EDoc->Int):∀docs:List EDoc,(hitsP V allP docs).map (·.1)=idsP docs fun d=>decide (0<V d)
 | []=>rfl
 |d::l=>by
  have ih:=hits_ids V l
  unfold hitsP idsP at ih⊢
  rw[zbK,za9]
  by_cases h:0<V d
  .rw [show hitP V allP d=some (d.1,V d)from by unfold hitP;rw[zb h];rfl,zf (zb h)]
   dsimp only
   rw[zv,zv,ih]
  .rw [show hitP V allP d=none from by unfold hitP;rw[zd h];rfl,zu (by simpa using h)]
   exact ih
theorem match_ids {N:Nat} {c:EConf} {s:ESeg} {q:DQ} (hs:okSeg c s=true) (hq:okQ 4 q=true):matchR N c s q=idsP s.1 fun d=>decide (0<valS N N c s d q):=by
 unfold matchR hitsR
 rw[hs,hq,Bool.and_self,zg]
 exact hits_ids _ _
theorem setAnd_spec {N:Nat} (hM:Sm<N) (hN:N<=16777216) (a b:List Int) (ha:upB a=true) (hb:upB b=true):i_SetAnd_m N a b=some (a.filter fun x=>decide (x∈b)):=by
 have hM':1048576<N:=hM
 have la:=(upB_up ha).2.1
 have lb:=(upB_up hb).2.1
 unfold i_SetAnd_m
 rw[upOk_spec N hM (by omega) a (by omega),za,ha,zn,ze,upOk_spec N hM (by omega) b (by omega),za,hb,zn,ze]
 refine(iter_scan _ a.length (fun n=>(b,(a.take n).filter (fun x=>decide (x∈b)),a,(a.length:Int),(n:Int))) (fun _=>some (a.filter fun x=>decide (x∈b))) (fun go=>?_) (fun go n hn hgo=>?_) N 0 (zaf _) (by omega)).trans rfl
 .dsimp only
  rw[zd (zm _),ze,zq]
 .dsimp only
  have hl:((a.take n).filter fun x=>decide (x∈b)).length<=n:=zau (zbh _ _) (by rw[zah];omega)
  have e:(a.take (n+1)).filter (fun x=>decide (x∈b))=bif decide (a[n]∈b)then(a.take n).filter (fun x=>decide (x∈b))++ [a[n]]else(a.take n).filter (fun x=>decide (x∈b)):=by
   rw[zo hn,za6]
   cases h:decide (a[n]∈b)<;>simp[h]
  have hf:fits ((n:Int)+1):=fits_nat (by omega)
  rw[e,cast_succ']at hgo
  rw[zb (by omega:(n:Int)<a.length),zg,idx_at hn,za,containsI_spec N b _ (by omega) (by omega),za,<-hgo,zf (room_of (by rw[zbE];omega) (by rw[zbE];omega))]
  simp only[zf hf]
  cases decide (a[n]∈b)<;>rfl
theorem setLess_spec {N:Nat} (hM:Sm<N) (hN:N<=16777216) (a b:List Int) (ha:upB a=true) (hb:upB b=true):i_SetLess_m N a b=some (a.filter fun x=> !decide (x∈b)):=by
 have hM':1048576<N:=hM
 have la:=(upB_up ha).2.1
 have lb:=(upB_up hb).2.1
 unfold i_SetLess_m
 rw[upOk_spec N hM (by omega) a (by omega),za,ha,zn,ze,upOk_spec N hM (by omega) b (by omega),za,hb,zn,ze]
 refine(iter_scan _ a.length (fun n=>(b,(a.take n).filter (fun x=> !decide (x∈b)),a,(a.length:Int),(n:Int))) (fun _=>some (a.filter fun x=> !decide (x∈b))) (fun go=>?_) (fun go n hn hgo=>?_) N 0 (zaf _) (by omega)).trans rfl
 .dsimp only
  rw[zd (zm _),ze,zq]
 .dsimp only
  have hl:((a.take n).filter fun x=> !decide (x∈b)).length<=n:=zau (zbh _ _) (by rw[zah];omega)
  have e:(a.take (n+1)).filter (fun x=> !decide (x∈b))=bif !decide (a[n]∈b)then(a.take n).filter (fun x=> !decide (x∈b))++ [a[n]]else(a.take n).filter (fun x=> !decide (x∈b)):=by
   rw[zo hn,za6]
   cases h:decide (a[n]∈b)<;>simp[h]
  have hf:fits ((n:Int)+1):=fits_nat (by omega)
  rw[e,cast_succ']at hgo
  rw[zb (by omega:(n:Int)<a.length),zg,idx_at hn,za,containsI_spec N b _ (by omega) (by omega),za,<-hgo,zf (room_of (by rw[zbE];omega) (by rw[zbE];omega))]
  simp only[zf hf]
  cases decide (a[n]∈b)<;>rfl
theorem compact_mem (zs:List Int) (x:Int):x∈Lib.compact zs↔x∈zs:=by
 have hg:∀i,i<zs.length->zs.toArray[i]! =zs[i]! :=fun i hi=>by
  rw[getElem!_pos _ i (by simpa using hi),getElem!_pos _ i hi]
  simp
 unfold Lib.compact Lib.compactUpTo
 rw[zab]
 constructor
 .rintro ⟨i,hi,rfl⟩
  have hi:=zb1.1 (zaZ.1 hi).1
  rw[hg i hi,getElem!_pos _ i hi]
  exact zr hi
 .intro hx
  obtain⟨i,hi,e⟩:=zav.1 hx
  have:∀(i:Nat) (hi:i<zs.length),zs[i]=x->∃j,j∈(List.range zs.length).filter (Lib.keeps zs.toArray)/\zs.toArray[j]! =x:=by
   intro i
   induction i with
   |zero=>exact fun hi e=>⟨0,zaZ.2 ⟨zb1.2 hi,by simp[Lib.keeps]⟩,by rw[hg 0 hi,getElem!_pos _ 0 hi];exact e⟩
   |succ i ih=>
    intro hi e
    by_cases h:zs[i]=x
    .exact ih (by omega) h
    .refine ⟨i+1,zaZ.2 ⟨zb1.2 hi,?_⟩,by rw[hg _ hi,getElem!_pos zs (i+1) hi];exact e⟩
     unfold Lib.keeps
     rw[zw,zbq,hg _ hi,hg i (by omega),getElem!_pos zs (i+1) hi,getElem!_pos zs i (by omega)]
     exact .inr fun h2=>h (by rw[<-h2];exact e)
  exact this i hi e
theorem compact_up {zs:List Int} (h:zs.Pairwise fun a b=>a<=b):upL (Lib.compact zs):=by
 have hg:∀i (hi:i<zs.length),zs.toArray[i]! =zs[i]:=fun i hi=>by
  rw[getElem!_pos _ i (by simpa using hi)]
  simp
 unfold Lib.compact Lib.compactUpTo upL
 refine zbb.2 ?_
 have hr:((List.range zs.length).filter (Lib.keeps zs.toArray)).Pairwise fun a b=>a<b:=List.pairwise_lt_range.sublist List.filter_sublist
 refine hr.imp_of_mem fun {i j} hi hj hlt=>?_
 have h1:=zb1.1 (zaZ.1 hi).1
 obtain⟨h2,h3⟩:=zaZ.1 hj
 have h2:=zb1.1 h2
 unfold Lib.keeps at h3
 rw[zw]at h3
 have h3:=h3.resolve_left (by omega)
 rw[hg j h2,hg (j-1) (by omega)]at h3
 rw[hg i h1,hg j h2]
 have p:=za2.1 h
 have h4:=p (j-1) j (by omega) h2 (by omega)
 have h5:zs[i]<=zs[j-1]:=by
  by_cases e:i=j-1
  .subst e;exact zbD _
  .exact p i (j-1) h1 (by omega) (by omega)
 omega
theorem compact_len (zs:List Int):(Lib.compact zs).length<=zs.length:=by
 unfold Lib.compact Lib.compactUpTo
 rw[zar]
 exact zau (zbh _ _) (by simp)
theorem setOr_spec {N:Nat} (hM:Sm<N) (hN:N<=16777216) (a b:List Int) (ha:upB a=true) (hb:upB b=true):Def (i_SetOr_m N a b) fun r=>upL r/\∀x,x∈r↔x∈a\/x∈b:=by
 have hM':1048576<N:=hM
 have la:=(upB_up ha).2.1
 have lb:=(upB_up hb).2.1
 unfold i_SetOr_m
 rw[upOk_spec N hM (by omega) a (by omega),za,ha,zn,ze,upOk_spec N hM (by omega) b (by omega),za,hb,zn,ze]
 refine Def.ite (room_of (by simp;omega) (by simp;omega)) (Def.ite (room_of (by simp;omega) (by simp;omega)) ?_)
 rw[zaW]
 refine Def.bind (sortWk_287 (fun a b=>decide (a<b)) lessI_ord N hN (by omega) _ ⟨fun x _ y _=>cmpLess_def N x y⟩ (by rw[zam];omega)) fun r ⟨h1,h2⟩=>?_
 have hl:r.length=a.length+b.length:=by rw[h1.length_eq,zam]
 have hc:=compact_len r
 show Def (Option.bind (some (Lib.compact r)) _) _
 rw[za,zaW]
 refine Def.ite (room_of (by simp;omega) (by simp;omega)) (Def.ret ⟨compact_up (h2.imp fun h=>by have:=of_decide_eq_false h;omega),fun x=>?_⟩)
 rw[compact_mem,h1.mem_iff,zaB]
theorem drawMatchOf_def (N:Nat) (hM:Sm<N) {code:List Int} (hb:Bs code):Def (s_DrawMatchOf_m N code) fun r=>Drawn (r.1,r.2.1) (r.2.2.1,r.2.2.2.1)/\AQ (.mk r.2.2.2.2.1 r.2.2.2.2.2.1 r.2.2.2.2.2.2.1 r.2.2.2.2.2.2.2.1 r.2.2.2.2.2.2.2.2.1 r.2.2.2.2.2.2.2.2.2):=by
 have hM':1048576<N:=hM
 unfold s_DrawMatchOf_m
 refine Def.bind (open_def N hb) fun r h0=>?_
 refine Def.bind (anySeg_def N hM' h0) fun r2 ⟨dr,h2⟩=>?_
 refine Def.bind (pick_def N 10 h2 (by omega)) fun r3 ⟨_,_,_,h3⟩=>?_
 refine Def.dif (fun _=>?_) (fun _=>?_)
 .exact Def.bind (anyQuery_def N (by omega) h3 (by omega)) fun r4 ⟨a4,_⟩=>Def.ret ⟨dr,a4⟩
 .exact Def.bind (query3_def N (by omega) h3 (by omega)) fun r5 ⟨o5,_⟩=>Def.ret ⟨dr,o5.aq⟩
theorem idsP_congr {docs:List EDoc} {P Q:EDoc->Bool} (h:∀d,d∈docs->P d=Q d):idsP docs P=idsP docs Q:=by
 unfold idsP
 rw[List.filter_congr h]
theorem idsP_filter {docs:List EDoc} (P:EDoc->Bool) (p:Int->Bool):(idsP docs P).filter p=idsP docs fun d=>P d&&p d.1:=by
 unfold idsP
 rw[List.filter_map,List.filter_filter]
 congr 1
 exact List.filter_congr fun d _=>by rw[Bool.and_comm];rfl
theorem up_same {l m:List Int} (hl:upL l) (hm:upL m) (h:∀x,x∈l↔x∈m):l=m:=
 sorted_unique (fun a b:Int=>decide (a<b)) (fun a=>zd (zm a)) (fun a b c h1 h2=>zb (Int.lt_trans (of_decide_eq_true h1) (of_decide_eq_true h2))) l m (hl.imp fun h=>zb h) (hm.imp fun h=>zb h) h
theorem fnMatchSets_gen (N:Nat) (hM:Sm<N) (hN:N<=16777216) (code more:List Int) (hb:Bs code) (hb2:Bs more):l_FnMatchSets_m N code more=some true:=by
 have hM':1048576<N:=hM
 refine Def.get ?_
 unfold l_FnMatchSets_m
 refine Def.dif (fun e=>Def.ret rfl) (fun e=>?_)
 refine Def.dif (fun e=>Def.ret rfl) (fun e2=>?_)
 refine Def.bind (drawMatchOf_def N hM hb) fun r ⟨dr,aq⟩=>?_
 refine Def.bind (drawMatchOf_def N hM hb2) fun r2 ⟨_,ap⟩=>?_
 obtain⟨c1,c2,docs,ents,k1,f1,w1,a1,b1,g1⟩:=r
 obtain⟨_,_,_,_,k2,f2,w2,a2,b2,g2⟩:=r2
 dsimp only at dr aq ap⊢
 have F:∀q,BQ 4 q->Fit N (c1,c2) (docs,ents) q:=fun q h=>⟨hM,hN,dr.conf,dr.docs,dr.few,h⟩
 have ml:∀q,l_foInts_m N (matchR N (c1,c2) (docs,ents) q) (matchR N (c1,c2) (docs,ents) q)=some true:=fun q=>by
  refine foInts_same N hM' _ ?_
  unfold matchR
  rw[zar]
  exact zau (hitsR_len _ _ _ _ _) (by decide)
 have hbq:∀k,BQ 4 (.mk k [] [] 0 0 [.mk k1 f1 w1 a1 b1 g1,.mk k2 f2 w2 a2 b2 g2]):=fun k=>
  ⟨zaf _,zaf _,(fun w h=>by cases h),by show(2:Nat)<=_;decide,fun x hx=>by
   simp only[DQ.kids,zp,zbY,or_false]at hx
   rcases hx with rfl|rfl
   .exact aq 3
   .exact ap 3⟩
 have t1:=match_i (F _ (aq 4))
 have t2:=match_s (F _ (aq 4))
 have t3:=ml (.mk k1 f1 w1 a1 b1 g1)
 have t4:=(F _ (aq 4)).segI
 have t5:=queryOk_i N hM (by omega) _ (hbq 7)
 dsimp only[DQ.kind,DQ.field,DQ.words,DQ.lo,DQ.hi,DQ.kids]at t1 t2 t4 t5
 rw[t1,za,t2,za,t3,za,zn,ze,t4,za]
 cases hs:okSeg (c1,c2) (docs,ents)with
 |false=>
  rw[zaI,zg,za,t3,za]
  exact Def.ret rfl
 |true=>
 rw[zn,ze,t5,za]
 cases hq:okQ 4 (.mk 7 [] [] 0 0 [.mk k1 f1 w1 a1 b1 g1,.mk k2 f2 w2 a2 b2 g2])with
 |false=>
  rw[zaI,zg,za,t3,za]
  exact Def.ret rfl
 |true=>
 have m2:=match_i (F _ (ap 4))
 have m7:=match_i (F _ (hbq 7))
 have m8:=match_i (F _ (hbq 8))
 have m9:=match_i (F _ (hbq 9))
 have l7:=ml (.mk 7 [] [] 0 0 [.mk k1 f1 w1 a1 b1 g1,.mk k2 f2 w2 a2 b2 g2])
 have l8:=ml (.mk 8 [] [] 0 0 [.mk k1 f1 w1 a1 b1 g1,.mk k2 f2 w2 a2 b2 g2])
 have l9:=ml (.mk 9 [] [] 0 0 [.mk k1 f1 w1 a1 b1 g1,.mk k2 f2 w2 a2 b2 g2])
 dsimp only[DQ.kind,DQ.field,DQ.words,DQ.lo,DQ.hi,DQ.kids]at m2 m7 m8 m9
 rw[zn,ze,m2,za,m7,za]
 generalize(DQ.mk k1 f1 w1 a1 b1 g1)=q at*
 generalize(DQ.mk k2 f2 w2 a2 b2 g2)=p at*
 have hq0:=hq
 rw[okQ,zj,zax]at hq
 have q3:okQ 3 q=true:=hq.2 q (by simp[DQ.kids])
 have p3:okQ 3 p=true:=hq.2 p (by simp[DQ.kids])
 have h8:okQ 4 (.mk 8 [] [] 0 0 [q,p])=true:=by
  rw[okQ]
  rw[zb7,zb7,q3,p3]
  rfl
 have h9:okQ 4 (.mk 9 [] [] 0 0 [q,p])=true:=by
  rw[okQ]
  rw[zb7,zb7,q3,p3]
  rfl
 have hds:okDocs docs=true:=okSeg_docs hs
 have hids:=(okDocs_ok hds).inn.ids
 have T:∀d,d∈docs->TwoV N (c1,c2) (docs,ents) d q p:=fun d hd=>twoV N ((F _ (aq 4)).good hs) d (docOf_self hids d hd) q3 p3
 have e1:=match_ids (N:=N) hs (okQ_more 3 q q3)
 have e2:=match_ids (N:=N) hs (okQ_more 3 p p3)
 have e7:=match_ids (N:=N) hs hq0
 have e8:=match_ids (N:=N) hs h8
 have e9:=match_ids (N:=N) hs h9
 dsimp only at e1 e2 e7 e8 e9
 have x7:matchR N (c1,c2) (docs,ents) (.mk 7 [] [] 0 0 [q,p])=(matchR N (c1,c2) (docs,ents) q).filter fun x=>decide (x∈matchR N (c1,c2) (docs,ents) p):=by
  rw[e7,e1,e2,idsP_filter]
  refine idsP_congr fun d hd=>?_
  rw[zbH,zj,zw,zw,zw,idsP_mem hids hd,zw]
  exact(T d hd).both
 have x9:matchR N (c1,c2) (docs,ents) (.mk 9 [] [] 0 0 [q,p])=(matchR N (c1,c2) (docs,ents) q).filter fun x=> !decide (x∈matchR N (c1,c2) (docs,ents) p):=by
  rw[e9,e1,e2,idsP_filter]
  refine idsP_congr fun d hd=>?_
  rw[zbH,zj,zw,zw,zb2,decide_eq_false_iff_not,idsP_mem hids hd,zw]
  exact(T d hd).less
 have u1:upB (matchR N (c1,c2) (docs,ents) q)=true:=by rw[e1];exact idsP_ok hds _
 have u2:upB (matchR N (c1,c2) (docs,ents) p)=true:=by rw[e2];exact idsP_ok hds _
 rw[setAnd_spec hM hN _ _ u1 u2,za,<-x7,l7,za,zg,m8,za]
 refine Def.bind (setOr_spec hM hN _ _ u1 u2) fun r19 ⟨h1,h2⟩=>?_
 have x8:r19=matchR N (c1,c2) (docs,ents) (.mk 8 [] [] 0 0 [q,p]):=by
  refine up_same h1 (by rw[e8];exact idsP_up hids _) fun x=>?_
  rw[h2,e1,e2,e8]
  constructor
  .rintro (h|h)
   .obtain ⟨d,hd,rfl⟩:=zab.1 h
    obtain⟨hd,hv⟩:=zaZ.1 hd
    exact(idsP_mem hids hd).2 (zb ((T d hd).either.2 (.inl (of_decide_eq_true hv))))
   .obtain ⟨d,hd,rfl⟩:=zab.1 h
    obtain⟨hd,hv⟩:=zaZ.1 hd
    exact(idsP_mem hids hd).2 (zb ((T d hd).either.2 (.inr (of_decide_eq_true hv))))
  .intro h
   obtain⟨d,hd,rfl⟩:=zab.1 h
   obtain⟨hd,hv⟩:=zaZ.1 hd
   rcases(T d hd).either.1 (of_decide_eq_true hv)with h|h
   .exact .inl ((idsP_mem hids hd).2 (zb h))
   .exact .inr ((idsP_mem hids hd).2 (zb h))
 rw[x8,l8,za,zg,m9,za,setLess_spec hM hN _ _ u1 u2,za,<-x9,l9,za]
 exact Def.ret rfl
theorem fnMatchSets_law (x0 x1:List Int) (o0:okD BigN (.sl (.int .u8)) x0) (o1:okD BigN (.sl (.int .u8)) x1):l_FnMatchSets_m 1048700 x0 x1=some true:=fnMatchSets_gen 1048700 (by decide) (by decide) x0 x1 (bytes_ok o0) (bytes_ok o1)
end Go.Proofs.YtchgdmmcjgmfcaaGreatDoor
