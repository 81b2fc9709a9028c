import Derived.Test.YtkglkigmdmohkaaGreatDoorKY
import Derived.Test.YtkglkigmdmohkaaGreatDoorP1
import Derived.Test.YtkglkigmdmohkaaGreatDoorSC1
import Derived.Test.YtkglkigmdmohkaaGreatDoorSE1
import Derived.Test.YtkglkigmdmohkaaGreatDoorQI
set_option linter.unusedVariables false
set_option linter.unusedSimpArgs false
namespace Go.Proofs.YtkglkigmdmohkaaGreatDoor
open Go.RowKit
def kindB (b0 b1 b2 b3:Bool) (m:Nat):Int:=bif b0&&m.testBit 0 then 7 else bif b1&&m.testBit 1 then 8 else bif b2&&m.testBit 2 then 9 else bif b3&&m.testBit 3 then 10 else 0
def oneB (b0 b1 b2 b3:Bool):Bool:= !(b0&&b1)&& !(b0&&b2)&& !(b0&&b3)&& !(b1&&b2)&& !(b1&&b3)&& !(b2&&b3)
def bAt (b0 b1 b2 b3:Bool):Nat->Bool
 |0=>b0
 |1=>b1
 |2=>b2
 |_=>b3
theorem j5c :∀b0 b1 b2 b3:Bool,oneB b0 b1 b2 b3=true->∀m,m<16->∀i,i<4->m.testBit i=false->(bif bAt b0 b1 b2 b3 i then(7+(i:Int))else kindB b0 b1 b2 b3 m)=kindB b0 b1 b2 b3 (m|||2^i):=by decide+kernel
theorem j5j :∀m,m<16->∀i,i<4->m.testBit i=false->(m|||2^i)<16/\(leftI 4 (m|||2^i)).length<(leftI 4 m).length:=by decide+kernel
theorem j5i :∀m,m<16->m≠15->leftI 4 m≠ []:=by decide+kernel
theorem any_loop {δ ρ:Type} (F:(δ->Option ρ)->δ->Option ρ) (st:Nat->Nat->Int->δ) {b0 b1 b2 b3:Bool} (h1:oneB b0 b1 b2 b3=true) (v:ρ)
  (hend:∀go c,F go (st 15 c (kindB b0 b1 b2 b3 15))=some v)
  (hstep:∀go m c,leftI 4 m≠ []->(∀i,i∈leftI 4 m->i<4/\go (st (m|||2^i) (i+1) (bif bAt b0 b1 b2 b3 i then(7+(i:Int))else kindB b0 b1 b2 b3 m))=some v)->F go (st m c (kindB b0 b1 b2 b3 m))=some v):∀(N m c:Nat),m<16->(leftI 4 m).length<N->iter F N (st m c (kindB b0 b1 b2 b3 m))=some v
 |0,_,_,_,h=>absurd h (by omega)
 |N+1,m,c,hm,h=>by
  show F (iter F N) _=_
  by_cases e:m=15
  .subst e;exact hend _ c
  .refine hstep _ m c (j5i m hm e) fun i hi=>?_
   obtain⟨hi4,ht⟩:=leftI_mem.1 hi
   obtain⟨g1,g2⟩:=j5j m hm i hi4 ht
   refine⟨hi4,?_⟩
   rw[j5c b0 b1 b2 b3 h1 m hm i hi4 ht]
   exact any_loop F st h1 v hend hstep N _ _ g1 (by omega)
theorem ju3 {α:Type} (xs:List α) (n:Nat) (h:n<=xs.length):cut xs 0 (n:Int)=some (xs.take n):=by
 unfold cut
 rw[zf (by omega)]
 simp
theorem juD (N:Nat) (code:List Int) (hb:Bs code):∃y,jt0 N code=some (y,0)/\Bs y/\y.length<=2000:=by
 unfold jt0
 by_cases h:(2000:Int)<code.length
 .simp only [h,decide_true,zg]
  rw[show(2000:Int)=((2000:Nat):Int)from rfl,ju3 code 2000 (by omega)]
  exact⟨_,rfl,fun x hx=>hb x (zaP hx),by simp;omega⟩
 .simp only [h,decide_false,ze]
  exact⟨_,rfl,hb,by omega⟩
def Rdr (b:List Int) (k:Int) (j:Nat):Prop:=Bs b/\b.length<=2000/\0<=k/\k<=j
theorem Rdr.le {b:List Int} {k:Int} {j j':Nat} (h:Rdr b k j) (hj:j<=j'):Rdr b k j':=⟨h.1,h.2.1,h.2.2.1,by have:=h.2.2.2;omega⟩
theorem pick_def (N:Nat) (n:Int) {b:List Int} {k:Int} {j:Nat} (h:Rdr b k j) (hj:j<=1000000):Def (jtW N n b k) fun r=>0<=r.1/\(1<=n->r.1<n)/\(n<1->r.1=0)/\Rdr r.2.1 r.2.2 (j+1):=by
 obtain⟨v,h1,h2,h3,h4⟩:=juF N n b k h.1 h.2.2.1 (by have:=h.2.2.2;omega) h.2.1
 exact⟨_,h1,h2,h3,h4,h.1,h.2.1,by have:=h.2.2.1;show(0:Int)<=k+1;omega,by have:=h.2.2.2;show k+1<=((j+1:Nat):Int);omega⟩
theorem of_def (N:Nat) {l:List (List UInt8)} {b:List Int} {k:Int} {j:Nat} (hl:0<l.length) (h:Rdr b k j) (hj:j<=1000000):Def (s_l30Rd_of_m N l b k) fun r=>r.1∈l/\Rdr r.2.1 r.2.2 (j+1):=by
 unfold s_l30Rd_of_m
 refine Def.bind (pick_def N _ h hj) fun r ⟨h0,h1,_,h3⟩=>?_
 exact Def.idx h0 (h1 (by omega)) fun x hx _=>Def.ret ⟨hx,h3⟩
theorem open_def (N:Nat) {code:List Int} (hb:Bs code):Def (jt0 N code) fun r=>Rdr r.1 r.2 0:=by
 obtain⟨y,h1,h2,h3⟩:=juD N code hb
 exact⟨_,h1,h2,h3,zbD _,zbD _⟩
def okC (c:UInt8):Bool:=decide (32<=c.toNat)&&decide (c.toNat<=126)
def okS (n:Nat) (s:List UInt8):Bool:=s.all okC&&decide (s.length<=n)
theorem juf {n m:Nat} {s t:List UInt8} (h:okS n s=true) (k:okS m t=true):okS (n+m) (s++t)=true:=by
 unfold okS at*
 simp only[zj,zw,List.all_append,zam]at*
 exact⟨⟨h.1,k.1⟩,by omega⟩
theorem jue {n m:Nat} {s:List UInt8} (h:okS n s=true) (hm:n<=m):okS m s=true:=by
 unfold okS at*
 simp only[zj,zw]at*
 exact⟨h.1,by omega⟩
theorem okS_len {n:Nat} {s:List UInt8} (h:okS n s=true):s.length<=n:=by
 unfold okS at h
 simp only[zj,zw]at h
 exact h.2
theorem okS_okT {s:List UInt8} (h:okS 160 s=true):okT s=true:=by
 have hl:=okS_len h
 unfold okS at h
 simp only[zj,zax]at h
 unfold okT allN
 rw[zj]
 refine⟨zax.2 fun n hn=>?_,by rw[zw];omega⟩
 have hn':n<s.length:=by simpa using hn
 have:=h.1 _ (zr hn')
 unfold okC at this
 simp only[zj,zw]at this
 rw[<-atB_eq hn',zd (by omega),zd (by omega)]
 rfl
theorem ju7 (N:Nat) {b:List Int} {k:Int} {j:Nat} (h:Rdr b k j) (hj:j<=100000):Def (jt1 N b k) fun r=>okS 17 r.1=true/\Rdr r.2.1 r.2.2 (j+1):=by
 unfold jt1
 refine Def.bind (of_def N (by decide) h (by omega)) fun r ⟨m1,h1⟩=>Def.ret ⟨?_,h1⟩
 exact(by decide:∀w,w∈([([99,97,116]:List UInt8),([67,97,116,115]:List UInt8),([100,111,103]:List UInt8),([100,111,103,115]:List UInt8),([114,117,110]:List UInt8),([82,85,78,78,73,78,71]:List UInt8),([116,104,101]:List UInt8),([114,101,100]:List UInt8),([98,105,103]:List UInt8),([110,101,119,32,121,111,114,107]:List UInt8),([78,101,119,32,32,89,111,114,107]:List UInt8),([110,121]:List UInt8),([102,111,120]:List UInt8),([112,97,115,115,101,100]:List UInt8),([120,49]:List UInt8),([97,118,101,114,121,118,101,114,121,108,111,110,103,119,111,114,100]:List UInt8)]:List (List UInt8))->okS 17 w=true) _ m1
theorem text_def (N:Nat) {b:List Int} {k:Int} {j:Nat} (h:Rdr b k j) (hj:j<=10000) (hN:20<=N):Def (jtZ N b k) fun r=>okS 160 r.1=true/\Rdr r.2.1 r.2.2 (j+30):=by
 unfold jtZ
 refine Def.bind (pick_def N 9 h (by omega)) fun r ⟨p0,p1,_,h1⟩=>?_
 have p1:=p1 (by omega)
 refine Def.iter (fun g=>∃s:List UInt8,∃n:Nat,∃x y,n<=8/\okS (19*(8-n)) s=true/\Rdr x y (j+1+2*(8-n))/\g=(s,(n:Int),x,y)) (fun g=>g.2.1.toNat) ?_ N _ ⟨[],r.1.toNat,_,_,by omega,by unfold okS;simp,h1.le (by omega),by rw[zbU p0]⟩ (by show r.1.toNat<N;omega)
 rintro go _ ⟨s,n,x,y,hn,hs,hr,rfl⟩ hgo
 dsimp only
 have hsl:=okS_len hs
 refine Def.dif (fun e=>?_) (fun e=>Def.ret ⟨jue hs (by omega),hr.le (by omega)⟩)
 refine Def.bind (ju7 N hr (by omega)) fun r2 ⟨l2,h2⟩=>?_
 have hl2:=okS_len l2
 refine Def.ite (by omega) ?_
 refine Def.bind (of_def N (by decide) h2 (by omega)) fun r3 ⟨m3,h3⟩=>?_
 have l3:okS 2 r3.1=true:=(by decide:∀w,w∈([([32]:List UInt8),([32]:List UInt8),([44,32]:List UInt8),([45]:List UInt8),([46,32]:List UInt8)]:List (List UInt8))->okS 2 w=true) _ m3
 have hl3:=okS_len l3
 refine Def.ite (by rw[zam];omega) (Def.ite (by unfold fits;omega) (hgo _ ⟨(s++r2.1)++r3.1,n-1,_,_,by omega,jue (juf (juf hs l2) l3) (by omega),h3.le (by omega),?_⟩ ?_))
 .rw [show((n:Int)-1)=((n-1:Nat):Int)from by omega]
 .show ((n:Int)-1).toNat<(n:Int).toNat
  omega
structure SmallDoc (fs:List EField) (ats:List EAttr) (n:Nat):Prop where
 fl:fs.length<=n
 al:ats.length<=n
 f:∀x,x∈fs->x.1.length<=1000/\x.2.length<=1000
 a:∀x,x∈ats->x.1.length<=4/\ -1<=x.2/\x.2<=1000000000
theorem SmallDoc.ok {fs:List EField} {ats:List EAttr} {n:Nat} (h:SmallDoc fs ats n) (hn:n<=1000) {id:Int} (h0:0<=id/\id<=1000000):okD Sm TDoc (id,fs,ats):=by
 have e1:IntKind.i64.min=-9223372036854775808:=by decide
 have e2:IntKind.i64.max=9223372036854775807:=by decide
 have hfl:=h.fl;have hal:=h.al
 refine⟨⟨by rw[e1];show _<=id;omega,by rw[e2];show id<=_;omega⟩,⟨by show fs.length<=1048576;omega,fun x hx=>?_⟩,⟨by show ats.length<=1048576;omega,fun x hx=>?_⟩⟩
 .have:=h.f x hx
  exact⟨by show x.1.length<=1048576;omega,by show x.2.length<=1048576;omega⟩
 .have:=h.a x hx
  exact⟨by show x.1.length<=1048576;omega,by rw[e1];exact Int.le_trans (by decide) this.2.1,by rw[e2];exact Int.le_trans this.2.2 (by decide)⟩
theorem SmallDoc.addF {fs:List EField} {ats:List EAttr} {n:Nat} (h:SmallDoc fs ats n) {x:EField} (h1:x.1.length<=1000) (h2:x.2.length<=1000):SmallDoc (fs++ [x]) ats (n+1):=by
 have hfl:=h.fl;have hal:=h.al
 refine⟨by simp only[zam,zi,zac];omega,by omega,fun y hy=>?_,h.a⟩
 rcases zaB.1 hy with hy|hy
 .exact h.f y hy
 .rw [zaD.1 hy];exact⟨h1,h2⟩
theorem SmallDoc.addA {fs:List EField} {ats:List EAttr} {n:Nat} (h:SmallDoc fs ats n) {x:EAttr} (h1:x.1.length<=4) (h2: -1<=x.2) (h3:x.2<=1000000000):SmallDoc fs (ats++ [x]) (n+1):=by
 have hfl:=h.fl;have hal:=h.al
 refine⟨by omega,by simp only[zam,zi,zac];omega,h.f,fun y hy=>?_⟩
 rcases zaB.1 hy with hy|hy
 .exact h.a y hy
 .rw [zaD.1 hy];exact⟨h1,h2,h3⟩
theorem SmallDoc.le {fs:List EField} {ats:List EAttr} {n m:Nat} (h:SmallDoc fs ats n) (hm:n<=m):SmallDoc fs ats m:=⟨zau h.fl hm,zau h.al hm,h.f,h.a⟩
theorem SmallDoc.nil :SmallDoc [] [] 0:=⟨zae _,zae _,(fun x hx=>by cases hx),(fun x hx=>by cases hx)⟩
theorem SmallDoc.room {n:Nat} {b:Nat} (hn:n<=1000) (hb:b<=1000):room n 1 b:=by
 have:(n+1)*b<=1001*1000:=zbX (by omega) hb
 exact room_of (by omega) (by omega)
abbrev nBody :List UInt8:=[98,111,100,121]
abbrev nTitle :List UInt8:=[116,105,116,108,101]
structure FG (fs:List EField) (ns:List (List UInt8)):Prop where
 names:(fs.map (·.1)).Sublist ns
 texts:∀x,x∈fs->okS 160 x.2=true
theorem FG.add {fs:List EField} {ns:List (List UInt8)} (h:FG fs ns) (n t:List UInt8) (ht:okS 160 t=true):FG (fs++ [(n,t)]) (ns++ [n]):=by
 refine⟨?_,fun x hx=>?_⟩
 .rw [zaK]
  exact List.Sublist.append h.names (List.Sublist.refl _)
 .rcases zaB.1 hx with hx|hx
  .exact h.texts x hx
  .rw [zaD]at hx;subst hx;exact ht
theorem FG.skip {fs:List EField} {ns:List (List UInt8)} (h:FG fs ns) (n:List UInt8):FG fs (ns++ [n]):=⟨h.names.trans (List.sublist_append_left _ _),h.texts⟩
theorem doc_def (N:Nat) (id:Int) {b:List Int} {k:Int} {j:Nat} (h:Rdr b k j) (hj:j<=9000) (hN:20<=N):Def (s_l30Doc_m N id b k) fun r=>r.1=id/\(SmallDoc r.2.1 r.2.2.1 4/\FG r.2.1 [nBody,nTitle]/\r.2.2.1.length<=2)/\Rdr r.2.2.2.1 r.2.2.2.2 (j+100):=by
 unfold s_l30Doc_m
 refine Def.meet (fun g=>∃fs x y,SmallDoc fs [] 1/\FG fs [nBody]/\Rdr x y (j+31)/\g=(0,id,fs,x,y)) ?_ fun J hJ=>?_
 .rintro _ ⟨fs,x,y,hs,hg,hr,rfl⟩
  dsimp only
  refine Def.meet (fun g=>∃fs x y,SmallDoc fs [] 2/\FG fs [nBody,nTitle]/\Rdr x y (j+65)/\g=(0,id,fs,x,y)) ?_ fun J hJ=>?_
  .rintro _ ⟨fs,x,y,hs,hg,hr,rfl⟩
   dsimp only
   refine Def.meet (fun g=>∃fs ats x y,SmallDoc fs ats 3/\(FG fs [nBody,nTitle]/\ats.length<=1)/\Rdr x y (j+70)/\g=(0,id,fs,ats,x,y)) ?_ fun J hJ=>?_
   .rintro _ ⟨fs,ats,x,y,hs,⟨hg,ha⟩,hr,rfl⟩
    dsimp only
    refine Def.bind (pick_def N 3 hr (by omega)) fun r7 ⟨_,_,_,h7⟩=>?_
    refine Def.dif (fun _=>?_) (fun _=>Def.ret ⟨rfl,⟨hs.le (by omega),hg,by dsimp only;omega⟩,h7.le (by omega)⟩)
    refine Def.bind (pick_def N 30 h7 (by omega)) fun r8 ⟨q0,q1,_,h8⟩=>?_
    have q1:=q1 (by omega)
    have hal:=hs.al
    exact Def.ite (by unfold fits;omega) (Def.ite (SmallDoc.room (by omega) (by omega)) (Def.ret ⟨rfl,⟨hs.addA (by simp) (by dsimp only;omega) (by dsimp only;omega),hg,by simp only[zam,zi,zac];omega⟩,h8.le (by omega)⟩))
   .refine Def.bind (pick_def N 3 hr (by omega)) fun r5 ⟨_,_,_,h5⟩=>?_
    refine Def.dif (fun _=>?_) (fun _=>hJ _ ⟨_,_,_,_,hs.le (by omega),⟨hg,by simp⟩,h5.le (by omega),rfl⟩)
    refine Def.bind (pick_def N 4 h5 (by omega)) fun r6 ⟨q0,q1,_,h6⟩=>?_
    have q1:=q1 (by omega)
    exact Def.ite (SmallDoc.room (by simp) (by omega)) (hJ _ ⟨_,_,_,_,hs.addA (x:=(([114,97,116,101]:List UInt8),r6.1)) (by simp) (by dsimp only;omega) (by dsimp only;omega),⟨hg,by simp⟩,h6.le (by omega),rfl⟩)
  .refine Def.bind (pick_def N 3 hr (by omega)) fun r3 ⟨_,_,_,h3⟩=>?_
   refine Def.dif (fun _=>?_) (fun _=>hJ _ ⟨_,_,_,hs.le (by omega),hg.skip nTitle,h3.le (by omega),rfl⟩)
   refine Def.bind (text_def N h3 (by omega) hN) fun r4 ⟨l4,h4⟩=>?_
   have hfl:=hs.fl
   have hl4:=okS_len l4
   exact Def.ite (SmallDoc.room (by omega) (by omega)) (hJ _ ⟨_,_,_,hs.addF (x:=(([116,105,116,108,101]:List UInt8),r4.1)) (by simp) (by dsimp only;omega),hg.add nTitle _ l4,h4.le (by omega),rfl⟩)
 .refine Def.bind (pick_def N 6 h (by omega)) fun r ⟨_,_,_,h1⟩=>?_
  have g0:FG [] []:=⟨List.Sublist.refl _,fun x hx=>by cases hx⟩
  refine Def.dif (fun _=>?_) (fun _=>hJ _ ⟨_,_,_,SmallDoc.nil.le (by omega),g0.skip nBody,h1.le (by omega),rfl⟩)
  refine Def.bind (text_def N h1 (by omega) hN) fun r2 ⟨l2,h2⟩=>?_
  have hl2:=okS_len l2
  exact Def.ite (SmallDoc.room (by simp) (by omega)) (hJ _ ⟨_,_,_,SmallDoc.nil.addF (x:=(([98,111,100,121]:List UInt8),r2.1)) (by simp) (by dsimp only;omega),g0.add nBody _ l2,h2.le (by omega),rfl⟩)
structure DrawnDocs (docs:List EDoc) (m:Int):Prop where
 few:docs.length<=6
 ids:docs.Pairwise fun a b=>a.1<b.1
 top:∀d,d∈docs->1<=d.1/\d.1<=m
 each:∀d,d∈docs->okD Sm TDoc d/\FG d.2.1 [nBody,nTitle]/\d.2.2.length<=2
theorem DrawnDocs.ok {docs:List EDoc} {m:Int} (h:DrawnDocs docs m):DOk docs:=by
 refine⟨⟨h.ids,fun d hd=>?_⟩,by have:=h.few;omega,fun d hd=>?_⟩
 .exact (h.each d hd).2.1.names.nodup (by decide)
 .have:=h.each d hd
  have hl:=this.2.1.names.length_le
  simp only[zar,zi,zac]at hl
  exact⟨by omega,by omega,fun f hf=>⟨okS_okT (this.2.1.texts f hf),okS_len (this.2.1.texts f hf)⟩⟩
theorem docs_def (N:Nat) {b:List Int} {k:Int} {j:Nat} (h:Rdr b k j) (hj:j<=8000) (hN:20<=N):Def (s_l30Docs_m N b k) fun r=>DrawnDocs r.1 100/\Rdr r.2.1 r.2.2 (j+700):=by
 unfold s_l30Docs_m
 refine Def.bind (pick_def N 6 h (by omega)) fun r ⟨p0,p1,_,h1⟩=>?_
 have p1:=p1 (by omega)
 refine Def.iter (fun g=>∃out:List EDoc,∃id:Int,∃n:Nat,∃x y,n<=6/\out.length+n<=6/\(0<=id/\id<=4*(6-n))/\DrawnDocs out id/\Rdr x y (j+1+110*(6-n))/\g=(out,id,(n:Int),x,y)) (fun g=>g.2.2.1.toNat) ?_ N _ ⟨[],0,r.1.toNat,_,_,by omega,by simp;omega,by omega,⟨by simp,za4,(fun z hz=>by cases hz),(fun z hz=>by cases hz)⟩,h1.le (by omega),by rw[zbU p0]⟩ (by show r.1.toNat<N;omega)
 rintro go _ ⟨out,id,n,x,y,hn,hl,hid,ho,hr,rfl⟩ hgo
 dsimp only
 refine Def.dif (fun e=>?_) (fun e=>Def.ret ⟨⟨ho.few,ho.ids,fun d hd=>⟨(ho.top d hd).1,by have:=(ho.top d hd).2;omega⟩,ho.each⟩,hr.le (by omega)⟩)
 refine Def.ite (by unfold fits;omega) ?_
 refine Def.bind (pick_def N 3 hr (by omega)) fun r2 ⟨q0,q1,_,h2⟩=>?_
 have q1:=q1 (by omega)
 refine Def.ite (by unfold fits;omega) ?_
 refine Def.bind (doc_def N _ h2 (by omega) hN) fun r3 ⟨e3,s3,h3⟩=>?_
 refine Def.ite (room_of (by simp;omega) (by simp;omega)) (Def.ite (by unfold fits;omega) (hgo _ ⟨out++ [(r3.1,r3.2.1,r3.2.2.1)],id+1+r2.1,n-1,_,_,by omega,?_,by omega,⟨?_,?_,fun z hz=>?_,fun z hz=>?_⟩,h3.le (by omega),?_⟩ ?_))
 .simp only [zam,zi,zac];omega
 .simp only [zam,zi,zac];omega
 .refine List.pairwise_append.2 ⟨ho.ids,by simp,fun a ha b hb=>?_⟩
  rw[zaD]at hb
  subst hb
  have:=(ho.top a ha).2
  show a.1<r3.1
  omega
 .rcases zaB.1 hz with hz|hz
  .have:=ho.top z hz;omega
  .rw [zaD]at hz;subst hz;dsimp only;omega
 .rcases zaB.1 hz with hz|hz
  .exact ho.each z hz
  .rw [zaD.1 hz];exact⟨s3.1.ok (by omega) (by rw[e3];omega),s3.2.1,s3.2.2⟩
 .rw [show((n:Int)-1)=((n-1:Nat):Int)from by omega]
 .show ((n:Int)-1).toNat<(n:Int).toNat
  omega
def okSynW' (st:List (List UInt8)) (w:List UInt8):Bool:=okW w&&(decide (once w=none)&& !decide (w∈st))
def okSyn' (st:List (List UInt8)) (y:ESyn):Bool:=(decide ((1:Int)<=y.1.length)&&decide ((y.1.length:Int)<=3))&&(okW y.2&&(decide (once y.2=none)&&y.1.all (okSynW' st)))
def okConf' (c:EConf):Bool:=decide ((c.1.length:Int)<=6)&&(allN c.1.length (okUp c.1)&&(decide ((c.2.length:Int)<=4)&&c.2.all (okSyn' c.1)))
theorem okConf_of (c:EConf) (h:okConf' c=true):okConf c=true:=by
 unfold okConf' at h
 unfold okConf
 simp only[zj,zw,zax]at h⊢
 refine⟨h.1,h.2.1,h.2.2.1,fun y hy=>?_⟩
 have h1:=h.2.2.2 y hy
 unfold okSyn' at h1
 unfold okSyn
 simp only[zj,zw,zax]at h1⊢
 refine⟨h1.1,h1.2.1,stemF_none h1.2.2.1,fun w hw=>?_⟩
 have h2:=h1.2.2.2 w hw
 unfold okSynW' at h2
 unfold okSynW
 simp only[zj,zw]at h2⊢
 exact⟨h2.1,stemF_none h2.2.1,h2.2.2⟩
def fewC (c:EConf):Bool:=decide (c.1.length<=10)&&c.1.all (fun w=>decide (w.length<=20))&&decide (c.2.length<=10)&&c.2.all (fun y=>decide (y.1.length<=10)&&y.1.all (fun w=>decide (w.length<=20))&&decide (y.2.length<=20))
theorem fewC_ok (c:EConf) (h:fewC c=true):okD Sm TConf c:=by
 unfold fewC at h
 simp only[zj,zw,zax]at h
 obtain⟨⟨⟨h1,h2⟩,h3⟩,h4⟩:=h
 refine⟨⟨by show c.1.length<=1048576;omega,fun x hx=>by have:=h2 x hx;show x.length<=1048576;omega⟩,⟨by show c.2.length<=1048576;omega,fun y hy=>?_⟩⟩
 have h5:=h4 y hy
 exact⟨⟨by show y.1.length<=1048576;omega,fun x hx=>by have:=h5.1.2 x hx;show x.length<=1048576;omega⟩,by show y.2.length<=1048576;omega⟩
def stops3 :List (List (List UInt8)):=[[],[[116,104,101]],[[100,111,103],[116,104,101]]]
def syns3 :List (List ESyn):=[[],[([[110,101,119],[121,111,114,107]],[110,121])],[([[98,105,103]],[108,97,114,103]),([[98,105,103],[114,101,100],[102,111,120]],[102,111,120]),([[110,101,119],[121,111,114,107]],[110,121])]]
theorem confs_ok :∀s,s∈stops3->∀y,y∈syns3->okConf' (s,y)=true/\fewC (s,y)=true:=by decide+kernel
theorem conf_def (N:Nat) {b:List Int} {k:Int} {j:Nat} (h:Rdr b k j) (hj:j<=10000):Def (s_l30Conf_m N b k) fun r=>(okConf (r.1,r.2.1)=true/\okD Sm TConf (r.1,r.2.1))/\Rdr r.2.2.1 r.2.2.2 (j+3):=by
 have fin:∀s y,s∈stops3->y∈syns3->okConf (s,y)=true/\okD Sm TConf (s,y):=fun s y hs hy=>⟨okConf_of _ (confs_ok s hs y hy).1,fewC_ok _ (confs_ok s hs y hy).2⟩
 unfold s_l30Conf_m
 refine Def.meet (fun g=>∃c x y,c∈stops3/\Rdr x y (j+1)/\g=(c,x,y)) ?_ fun J hJ=>?_
 .rintro _ ⟨c,x,y,hc,hr,rfl⟩
  dsimp only
  refine Def.meet (fun g=>∃c x y,c∈stops3/\Rdr x y (j+2)/\g=(c,x,y)) ?_ fun J hJ=>?_
  .rintro _ ⟨c,x,y,hc,hr,rfl⟩
   dsimp only
   refine Def.bind (pick_def N 4 hr (by omega)) fun r3 ⟨_,_,_,h3⟩=>?_
   refine Def.dif (fun _=>Def.ret ⟨fin _ _ hc (by simp[syns3]),h3⟩) (fun _=>?_)
   exact Def.dif (fun _=>Def.ret ⟨fin _ _ hc (by simp[syns3]),h3⟩) (fun _=>Def.ret ⟨fin _ _ hc (by simp[syns3]),h3⟩)
  .refine Def.bind (pick_def N 4 hr (by omega)) fun r2 ⟨_,_,_,h2⟩=>?_
   exact Def.dif (fun _=>hJ _ ⟨_,_,_,by decide,h2,rfl⟩) (fun _=>hJ _ ⟨_,_,_,hc,h2,rfl⟩)
 .refine Def.bind (pick_def N 3 h (by omega)) fun r ⟨_,_,_,h1⟩=>?_
  exact Def.dif (fun _=>hJ _ ⟨_,_,_,by decide,h1,rfl⟩) (fun _=>hJ _ ⟨_,_,_,by decide,h1,rfl⟩)
structure Drawn (c:EConf) (s:ESeg):Prop where
 conf:okD Sm TConf c
 docs:∀x,x∈s.1->okD Sm TDoc x
 few:s.1.length<=1048576
theorem seg_def (N:Nat) (hM:1048576<N) {b:List Int} {k:Int} (h:Rdr b k 0):Def (s_l30Seg_m N b k) fun r=>Drawn (r.1,r.2.1) (r.2.2.1,r.2.2.2.1)/\(0<r.2.2.2.1.length->0<r.2.2.1.length)/\r.2.2.2.1.length<=10000/\Rdr r.2.2.2.2.1 r.2.2.2.2.2 1000:=by
 unfold s_l30Seg_m
 refine Def.bind (conf_def N h (by omega)) fun r ⟨⟨c1,c2⟩,h1⟩=>?_
 refine Def.bind (docs_def N h1 (by omega) (by omega)) fun r2 ⟨d1,h2⟩=>?_
 have hd:=d1.ok
 rw[l7Of_spec N (r.1,r.2.1) c1 hd hM,za]
 have hs:=(entries_small (r.1,r.2.1) hd).1
 refine Def.ret ⟨⟨c2,fun x hx=>(d1.each x hx).1,by have:=d1.few;show r2.1.length<=_;omega⟩,fun hl=>?_,by show(entriesS (r.1,r.2.1) r2.1).length<=_;omega,h2.le (by omega)⟩
 show 0<r2.1.length
 rcases Nat.eq_zero_or_pos r2.1.length with h0|h0
 .have:r2.1=[]:=zbj h0
  dsimp only at hl
  rw[this]at hl
  exact absurd hl (Nat.lt_irrefl _)
 .exact h0
theorem anySeg_def (N:Nat) (hM:1048576<N) {b:List Int} {k:Int} (h:Rdr b k 0):Def (s_l30AnySeg_m N b k) fun r=>Drawn (r.1,r.2.1) (r.2.2.1,r.2.2.2.1)/\Rdr r.2.2.2.2.1 r.2.2.2.2.2 1002:=by
 unfold s_l30AnySeg_m
 refine Def.bind (seg_def N hM h) fun r ⟨d1,d2,d3,h1⟩=>?_
 refine Def.dif (fun e=>?_) (fun e=>Def.ret ⟨d1,h1.le (by omega)⟩)
 refine Def.bind (pick_def N _ h1 (by omega)) fun r2 ⟨p0,p1,_,h2⟩=>?_
 have p1:=p1 (by omega)
 refine Def.bind (pick_def N 16 h2 (by omega)) fun r3 ⟨_,_,_,h3⟩=>?_
 have hn:r2.1.toNat<r.2.2.2.1.length:=by omega
 refine Def.dif (fun _=>?_) (fun _=>?_)
 .refine Def.ite (by omega) ?_
  rw[zc hn,za]
  exact Def.ret ⟨⟨d1.conf,d1.docs,d1.few⟩,h3⟩
 refine Def.dif (fun _=>?_) (fun _=>?_)
 .refine Def.ite (by omega) ?_
  rw[zc hn,za]
  exact Def.ite (room_of (by simp;omega) (by simp;omega)) (Def.ret ⟨⟨d1.conf,d1.docs,d1.few⟩,h3⟩)
 refine Def.dif (fun _=>?_) (fun _=>Def.ret ⟨d1,h3⟩)
 have hdl:=d2 (by omega)
 refine Def.cut (by omega) (by omega) (by omega) (Def.ret ⟨⟨d1.conf,fun x hx=>?_,?_⟩,h3⟩)
 .exact d1.docs x (zaP (zbP hx))
 .have:=d1.few
  show((r.2.2.1.take _).drop _).length<=1048576
  rw[zaQ,zah]
  dsimp only at this
  omega
def AQ (q:DQ):Prop:=∀n,BQ n q
theorem AQ.mk' {k:Int} {f:List UInt8} {ws:List (List UInt8)} {a b:Int} {kids:List DQ} (h1:f.length<=1000) (h2:ws.length<=1000) (h3:∀w,w∈ws->w.length<=1000) (h4:kids.length<=1000) (h5:∀c,c∈kids->AQ c):AQ (.mk k f ws a b kids)
 |0=>True.intro
 |n+1=>⟨by show f.length<=_;omega,by show ws.length<=_;omega,fun w hw=>by have:=h3 w hw;omega,by show kids.length<=_;omega,fun c hc=>h5 c hc n⟩
theorem nil100 :([]:List UInt8).length<=100:=by decide
theorem nilW :([]:List (List UInt8)).length<=100:=by decide
theorem nilK :([]:List DQ).length<=100:=by decide
structure Own (q:Int) (f:List UInt8) (ws:List (List UInt8)) (kids:List DQ):Prop where
 f:f.length<=100
 n:ws.length<=100
 w:∀w,w∈ws->w.length<=100
 k:kids.length<=100
 c:∀c,c∈kids->AQ c
theorem Own.aq {q:Int} {f:List UInt8} {ws:List (List UInt8)} {a b:Int} {kids:List DQ} (h:Own q f ws kids):AQ (.mk q f ws a b kids):=
 AQ.mk' (by have:=h.f;omega) (by have:=h.n;omega) (fun w hw=>by have:=h.w w hw;omega) (by have:=h.k;omega) h.c
theorem known_def (N:Nat) {b:List Int} {k:Int} {j:Nat} (h:Rdr b k j) (hj:j<=200000):Def (s_l30Known_m N) fun r3=>Def (s_l30Rd_of_m N r3 b k) fun r=>r.1.length<=100/\Rdr r.2.1 r.2.2 (j+1):=by
 unfold s_l30Known_m
 refine Def.ret ?_
 refine Def.mono (of_def N (by decide) h (by omega)) fun r ⟨m,hr⟩=>⟨?_,hr⟩
 have hall:∀(l:List (List UInt8)),l.all (fun w=>decide (w.length<=100))=true->∀w,w∈l->w.length<=100:=fun l h w hw=>of_decide_eq_true (zax.1 h w hw)
 exact hall _ (by decide) _ m
theorem leaf_def (N:Nat) {b:List Int} {k:Int} {j:Nat} (h:Rdr b k j) (hj:j<=100000):Def (s_l30Leaf_m N b k) fun r=>Own r.1 r.2.1 r.2.2.1 []/\Rdr r.2.2.2.2.2.1 r.2.2.2.2.2.2 (j+10):=by
 have nok:∀c,c∈([]:List DQ)->AQ c:=fun c hc=>by cases hc
 unfold s_l30Leaf_m
 refine Def.bind (of_def N (by decide) h (by omega)) fun r ⟨m,h1⟩=>?_
 have hf:r.1.length<=100:=(by decide:∀w,w∈([([98,111,100,121]:List UInt8),([98,111,100,121]:List UInt8),([116,105,116,108,101]:List UInt8)]:List (List UInt8))->w.length<=100) _ m
 refine Def.bind (pick_def N 9 h1 (by omega)) fun r2 ⟨_,_,_,h2⟩=>?_
 refine Def.dif (fun _=>Def.ret ⟨⟨nil100,nilW,(fun w hw=>by cases hw),nilK,nok⟩,h2.le (by omega)⟩) (fun _=>?_)
 refine Def.dif (fun _=>?_) (fun _=>?_)
 .refine Def.bind (known_def N h2 (by omega)) fun r3 d3=>Def.bind d3 fun r4 ⟨l4,h4⟩=>?_
  refine Def.bind (known_def N h4 (by omega)) fun r5 d5=>Def.bind d5 fun r6 ⟨l6,h6⟩=>?_
  refine Def.bind (pick_def N 3 h6 (by omega)) fun r7 ⟨_,_,_,h7⟩=>Def.ret ⟨⟨hf,by simp,fun w hw=>?_,nilK,nok⟩,h7.le (by omega)⟩
  simp only[zp,List.mem_nil_iff,or_false]at hw
  rcases hw with e|e<;>rw[e]<;>assumption
 refine Def.dif (fun _=>?_) (fun _=>?_)
 .refine Def.bind (of_def N (by decide) h2 (by omega)) fun r8 ⟨m8,h8⟩=>?_
  have l8:r8.1.length<=100:=(by decide:∀w,w∈([([99,111,116]:List UInt8),([100,117,103]:List UInt8),([114,110]:List UInt8),([102,111,103]:List UInt8)]:List (List UInt8))->w.length<=100) _ m8
  refine Def.bind (pick_def N 2 h8 (by omega)) fun r9 ⟨p0,p1,_,h9⟩=>?_
  have p1:=p1 (by omega)
  exact Def.ite (by unfold fits;omega) (Def.ret ⟨⟨hf,by simp,(fun w hw=>by rw[zaD.1 hw];exact l8),nilK,nok⟩,h9.le (by omega)⟩)
 refine Def.dif (fun _=>?_) (fun _=>?_)
 .refine Def.bind (of_def N (by decide) h2 (by omega)) fun r8 ⟨m8,h8⟩=>?_
  have l8:r8.1.length<=100:=(by decide:∀w,w∈([([99,42]:List UInt8),([63,111,63]:List UInt8),([42,110]:List UInt8),([42]:List UInt8)]:List (List UInt8))->w.length<=100) _ m8
  exact Def.ret ⟨⟨hf,by simp,(fun w hw=>by rw[zaD.1 hw];exact l8),nilK,nok⟩,h8.le (by omega)⟩
 refine Def.dif (fun _=>?_) (fun _=>?_)
 .refine Def.bind (pick_def N 4 h2 (by omega)) fun r8 ⟨p0,p1,_,h8⟩=>?_
  refine Def.bind (pick_def N 3 h8 (by omega)) fun r9 ⟨q0,q1,_,h9⟩=>?_
  have p1:=p1 (by omega)
  have q1:=q1 (by omega)
  exact Def.ite (by unfold fits;omega) (Def.ret ⟨⟨by simp,nilW,(fun w hw=>by cases hw),nilK,nok⟩,h9.le (by omega)⟩)
 .refine Def.bind (known_def N h2 (by omega)) fun r3 d3=>Def.bind d3 fun r4 ⟨l4,h4⟩=>?_
  exact Def.ret ⟨⟨hf,by simp,(fun w hw=>by rw[zaD.1 hw];exact l4),nilK,nok⟩,h4.le (by omega)⟩
def dT :Nat->Nat
 |0=>10
 |n+1=>3*dT n+3
theorem dT_ge :∀n,10<=dT n
 |0=>zae _
 |n+1=>by have:=dT_ge n;show 10<=3*dT n+3;omega
theorem query_def (N:Nat) (hN:20<=N):∀(D deep:Nat),deep<D->∀ {b:List Int} {k:Int} {j:Nat},Rdr b k j->j+dT deep<=100000->deep<=10->Def (s_l30Query_m N D (deep:Int) b k) fun r=>Own r.1 r.2.1 r.2.2.1 r.2.2.2.2.2.1/\Rdr r.2.2.2.2.2.2.1 r.2.2.2.2.2.2.2 (j+dT deep)
 |0,_,hd,_,_,_,_,_,_=>absurd hd (Nat.not_lt_zero _)
 |D+1,deep,hd,b,k,j,h,hj,hdd=>by
  have hg:=dT_ge deep
  rw[s_l30Query_m]
  refine Def.dif (fun e=>?_) (fun e=>?_)
  .exact Def.bind (leaf_def N h (by omega)) fun r ⟨o,h1⟩=>Def.ret ⟨o,h1.le (by omega)⟩
  obtain⟨d,rfl⟩:∃d,deep=d+1:=⟨deep-1,by omega⟩
  have hdt:dT (d+1)=3*dT d+3:=rfl
  have hg2:=dT_ge d
  have e1:((d+1:Nat):Int)-1=(d:Int):=by omega
  refine Def.bind (pick_def N 3 h (by omega)) fun r2 ⟨_,_,_,h2⟩=>?_
  refine Def.dif (fun _=>Def.bind (leaf_def N h2 (by omega)) fun r ⟨o,h1⟩=>Def.ret ⟨o,h1.le (by omega)⟩) (fun _=>?_)
  refine Def.bind (pick_def N 6 h2 (by omega)) fun r4 ⟨_,_,_,h4⟩=>?_
  refine Def.dif (fun _=>?_) (fun _=>?_)
  .refine Def.ite (by unfold fits;omega) ?_
   rw[e1]
   refine Def.bind (query_def N hN D d (by omega) h4 (by omega) (by omega)) fun r5 ⟨o5,h5⟩=>?_
   refine Def.ite (by unfold fits;omega) ?_
   refine Def.bind (query_def N hN D d (by omega) h5 (by omega) (by omega)) fun r6 ⟨o6,h6⟩=>?_
   refine Def.ret ⟨⟨nil100,nilW,(fun w hw=>by cases hw),by simp,fun c hc=>?_⟩,h6.le (by omega)⟩
   simp only[zp,List.mem_nil_iff,or_false]at hc
   rcases hc with rfl|rfl
   .exact o5.aq
   .exact o6.aq
  refine Def.dif (fun _=>?_) (fun _=>?_)
  .refine Def.bind (pick_def N 4 h4 (by omega)) fun r7 ⟨p0,p1,_,h7⟩=>?_
   have p1:=p1 (by omega)
   refine Def.ite (by unfold fits;omega) (Def.ite (by unfold fits;omega) ?_)
   rw[e1]
   refine Def.bind (query_def N hN D d (by omega) h7 (by omega) (by omega)) fun r8 ⟨o8,h8⟩=>?_
   exact Def.ret ⟨⟨nil100,nilW,(fun w hw=>by cases hw),by simp,(fun c hc=>by rw[zaD.1 hc];exact o8.aq)⟩,h8.le (by omega)⟩
  refine Def.meet (fun g=>∃(t:Bool) (x:List Int) (y:Int),Rdr x y (j+2)/\g=(((d+1:Nat):Int),t,0,([]:List UInt8),0,0,x,y)) ?_ fun J hJ=>?_
  .rintro _ ⟨t,x,y,hr,rfl⟩
   dsimp only
   refine Def.bif (fun _=>?_) (fun _=>?_)
   .refine Def.ite (by unfold fits;omega) ?_
    rw[e1]
    refine Def.bind (query_def N hN D d (by omega) hr (by omega) (by omega)) fun r5 ⟨o5,h5⟩=>?_
    refine Def.ite (by unfold fits;omega) ?_
    refine Def.bind (query_def N hN D d (by omega) h5 (by omega) (by omega)) fun r6 ⟨o6,h6⟩=>?_
    refine Def.ret ⟨⟨nil100,nilW,(fun w hw=>by cases hw),by simp,fun c hc=>?_⟩,h6.le (by omega)⟩
    simp only[zp,List.mem_nil_iff,or_false]at hc
    rcases hc with rfl|rfl
    .exact o5.aq
    .exact o6.aq
   .refine Def.bind (pick_def N 2 hr (by omega)) fun r11 ⟨p0,p1,_,h11⟩=>?_
    have p1:=p1 (by omega)
    refine Def.ite (by unfold fits;omega) ?_
    refine Def.iter (fun g=>∃(n:Nat) (kids:List DQ) (x:List Int) (y:Int),kids.length+n<=3/\(∀c,c∈kids->AQ c)/\Rdr x y (j+3+(3-n)*dT d)/\g=(((d+1:Nat):Int),(n:Int),0,([]:List UInt8),0,0,8,([]:List UInt8),0,0,kids,x,y)) (fun g=>g.2.1.toNat) ?_ N _
     ⟨(2+r11.1).toNat,[],_,_,by simp;omega,(fun c hc=>by cases hc),h11.le (by omega),by rw[zbU (by omega)]⟩ (by show(2+r11.1).toNat<N;omega)
    rintro go _ ⟨n,kids,x,y,hn,hk,hr,rfl⟩ hgo
    dsimp only
    refine Def.dif (fun e3=>?_) (fun e3=>?_)
    .refine Def.ite (by unfold fits;omega) ?_
     rw[e1]
     have hb:(3-n)*dT d<=2*dT d:=zag _ (by omega)
     refine Def.bind (query_def N hN D d (by omega) hr (by omega) (by omega)) fun r12 ⟨o12,h12⟩=>?_
     refine Def.ite (room_of (by rw[zbE];omega) (by rw[zbE];omega)) (Def.ite (by unfold fits;omega) (hgo _ ⟨n-1,kids++ [DQ.mk r12.1 r12.2.1 r12.2.2.1 r12.2.2.2.1 r12.2.2.2.2.1 r12.2.2.2.2.2.1],_,_,by rw[zam,zbE];omega,fun c hc=>?_,h12.le ?_,by rw[show((n:Int)-1)=((n-1:Nat):Int)from by omega]⟩ (by show((n:Int)-1).toNat<((n:Int)).toNat;omega)))
     .rcases zaB.1 hc with hc|hc
      .exact hk c hc
      .rw [zaD.1 hc];exact o12.aq
     .have e4:3-(n-1)=(3-n)+1:=by omega
      rw[e4,zaO,Nat.one_mul];omega
    .have hb:(3-n)*dT d<=3*dT d:=zag _ (by omega)
     exact Def.ret ⟨⟨nil100,nilW,(fun w hw=>by cases hw),by dsimp only;omega,hk⟩,hr.le (by omega)⟩
  .exact Def.dif (fun _=>hJ _ ⟨_,_,_,h4,rfl⟩) (fun _=>hJ _ ⟨_,_,_,h4,rfl⟩)
theorem query3_def (N:Nat) (hN:20<=N) {b:List Int} {k:Int} {j:Nat} (h:Rdr b k j) (hj:j<=50000):Def (s_l30Query_m N N 3 b k) fun r=>Own r.1 r.2.1 r.2.2.1 r.2.2.2.2.2.1/\Rdr r.2.2.2.2.2.2.1 r.2.2.2.2.2.2.2 (j+309):=
 query_def N hN N 3 (by omega) h (by show j+309<=_;omega) (by omega)
theorem skip_def (N:Nat) (b:Int) (s:List UInt8) (p:Nat) (hp:p<=s.length) (hl:s.length<=200):∃(ok:Bool) (q:Nat),i_queryReader_skip_m N b s (p:Int)=some (ok,s,(q:Int))/\p<=q/\q<=s.length/\(ok=true->p<q):=by
 unfold i_queryReader_skip_m
 by_cases h:p<s.length
 .rw [zb (by omega:(p:Int)<s.length),zg,idx_at h,za]
  cases decide (((s[p]).toNat:Int)=b)with
  |true=>exact⟨true,p+1,by rw[zg,zf (fits_nat (n:=p) (by omega))];rfl,by omega,by omega,fun _=>by omega⟩
  |false=>exact⟨false,p,rfl,by omega,by omega,fun h=>by cases h⟩
 .rw [zd (by omega:¬(p:Int)<s.length),ze]
  exact⟨false,p,rfl,by omega,by omega,fun h=>by cases h⟩
theorem token_def (N:Nat) (hN:1000<N) (s:List UInt8) (p:Nat) (hp:p<=s.length) (hl:s.length<=200):∃(t:List UInt8) (q:Nat),i_queryReader_token_m N s (p:Int)=some (t,s,(q:Int))/\p<=q/\q<=s.length/\t.length<=200:=by
 have key:Def (i_queryReader_token_m N s (p:Int)) fun r=>r.2.1=s/\∃q:Nat,r.2.2=(q:Int)/\p<=q/\q<=s.length/\r.1.length<=200:=by
  unfold i_queryReader_token_m
  refine Def.iter (I:=fun g=>g.1=(p:Int)/\g.2.1=s/\∃j:Nat,g.2.2=(j:Int)/\p<=j/\j<=s.length) (meas:=fun g=>s.length-g.2.2.toNat) (fun go g hI ih=>?_) N _ ⟨rfl,rfl,p,rfl,by omega,hp⟩ (by show s.length-_<N;omega)
  obtain⟨f0,b3,b4⟩:=g
  obtain⟨h1,h2,j,h3,h4,h5⟩:=hI
  dsimp only at h1 h2 h3 ih⊢
  subst h1;subst h2;subst h3
  have stop:Def (Option.bind (cut b3 (p:Int) (j:Int)) fun y=>some (y,b3,(j:Int))) fun r=>r.2.1=b3/\∃q:Nat,r.2.2=(q:Int)/\p<=q/\q<=b3.length/\r.1.length<=200:=
   Def.cut (by omega) (by omega) (by omega) (Def.ret ⟨rfl,j,rfl,h4,h5,by rw[zaQ,zah];omega⟩)
  by_cases hj:j<b3.length
  .rw [zb (by omega:(j:Int)<b3.length),zg,idx_at hj]
   simp only[za]
   have step:Def (if fits ((j:Int)+1)then go ((p:Int),b3,(j:Int)+1)else none) fun r=>r.2.1=b3/\∃q:Nat,r.2.2=(q:Int)/\p<=q/\q<=b3.length/\r.1.length<=200:=
    Def.ite (fits_nat (n:=j) (by omega)) (ih _ ⟨rfl,rfl,j+1,rfl,by omega,by omega⟩ (by show b3.length-((j:Int)+1).toNat<b3.length-((j:Int)).toNat;omega))
   generalize decide ((b3[j].toNat:Int)=32)=x
   generalize decide ((b3[j].toNat:Int)=40)=y
   generalize decide ((b3[j].toNat:Int)=41)=z
   cases x with
   |true=>rw[zn,ze];exact stop
   |false=>
    rw[zaI,zg]
    cases y with
    |true=>rw[zn,ze];exact stop
    |false=>
     rw[zaI,zg]
     cases z with
     |true=>rw[zn,ze];exact stop
     |false=>rw[zaI,zg];exact step
  .rw [zd (by omega:¬(j:Int)<b3.length),ze]
   exact stop
 obtain⟨⟨t,s',q'⟩,h1,h2,q,h3,h4⟩:=key
 dsimp only at h2 h3 h4
 subst h2;subst h3
 exact⟨t,q,h1,h4⟩
theorem cutM_def {s sep:List UInt8} (h:s.length<=1000):∃r,cutM s sep=some r/\r.1.length<=s.length/\r.2.1.length<=s.length:=by
 unfold cutM
 rw[zf (by omega)]
 refine⟨_,rfl,?_⟩
 unfold Lib.cut
 split
 .exact ⟨by show(s.take _).length<=_;rw[zah];omega,by show(s.drop _).length<=_;rw[zaQ];omega⟩
 .exact ⟨zae _,zaf _⟩
theorem cutAt_small (b:UInt8):∀s:List UInt8,(cutAt b s).length<=s.length+1/\∀w,w∈cutAt b s->w.length<=s.length
 | []=>⟨by simp[cutAt],fun w hw=>by simp[cutAt]at hw;rw[hw];simp⟩
 |c::s=>by
  obtain⟨h1,h2⟩:=cutAt_small b s
  unfold cutAt
  split
  .exact ⟨by simp;omega,fun w hw=>by
    rcases zp.1 hw with rfl|hw
    .simp
    .have:=h2 w hw;simp;omega⟩
  .split
   .exact ⟨by simp,fun w hw=>by simp at hw;rw[hw];simp⟩
   .rename_i x l e
    rw[e]at h1 h2
    exact⟨by simp at h1⊢;omega,fun w hw=>by
     rcases zp.1 hw with rfl|hw
     .have:=h2 x zy;simp;omega
     .have:=h2 w (zl _ hw);simp;omega⟩
theorem num_def (N:Nat) {s:List UInt8} (h:s.length<=1000):∃n,i_readNumber_m N s=some n:=by
 unfold i_readNumber_m numM
 rw[zf (by omega)]
 exact⟨_,rfl⟩
theorem leaf_read (N:Nat) (hN:1000<N) (hN2:N<=16777216) (t:List UInt8) (ht:t.length<=200):Def (i_leaf_m N t) fun r=>r.2.1.length<=1000/\r.2.2.1.length<=1000/\∀w,w∈r.2.2.1->w.length<=1000:=by
 unfold i_leaf_m
 refine Def.dif (fun _=>Def.ret ⟨zaf _,zaf _,fun w hw=>by cases hw⟩) (fun _=>?_)
 unfold k_strings_Cut_m k_strings_Split_m
 obtain⟨⟨f,g,ok⟩,h1,h2,h3⟩:=cutM_def (s:=t) (sep:=[58]) (by omega)
 rw[h1,za]
 dsimp only at h2 h3⊢
 cases ok with
 |true=>
  rw[zg]
  obtain⟨⟨f2,g2,ok2⟩,h4,h5,h6⟩:=cutM_def (s:=g) (sep:=[126]) (by omega)
  rw[h4,za]
  dsimp only at h5 h6⊢
  cases ok2 with
  |true=>
   rw[zg]
   have hs:=cutAt_small 43 f2
   unfold splitM
   dsimp only
   rw[zf (by omega),za]
   obtain⟨n,hn⟩:=num_def N (s:=g2) (by omega)
   rw[hn,za]
   exact Def.ret ⟨by show f.length<=_;omega,by show(cutAt 43 f2).length<=_;omega,fun w hw=>by have:=hs.2 w hw;omega⟩
  |false=>
   rw[ze]
   obtain⟨⟨f3,g3,ok3⟩,h7,h8,h9⟩:=cutM_def (s:=g) (sep:=[37]) (by omega)
   rw[h7,za]
   dsimp only at h8 h9⊢
   have one:∀w:List UInt8,w.length<=200->[w].length<=1000/\∀v,v∈ [w]->v.length<=1000:=fun w hw=>⟨by simp,fun v hv=>by rw[zaD]at hv;rw[hv];omega⟩
   cases ok3 with
   |true=>
    rw[zg]
    obtain⟨n,hn⟩:=num_def N (s:=g3) (by omega)
    rw[hn,za]
    exact Def.ret ⟨by show f.length<=_;omega,one f3 (by omega)⟩
   |false=>
    rw[ze,wordOk_spec N g (by omega) (by omega),za]
    cases okW g<;>exact Def.ret ⟨by show f.length<=_;omega,one g (by omega)⟩
 |false=>
  rw[ze]
  obtain⟨⟨f2,g2,ok2⟩,h4,h5,h6⟩:=cutM_def (s:=t) (sep:=[61]) (by omega)
  rw[h4,za]
  dsimp only at h5 h6⊢
  obtain⟨⟨f3,g3,ok3⟩,h7,h8,h9⟩:=cutM_def (s:=g2) (sep:=[46,46]) (by omega)
  rw[h7,za]
  dsimp only at h8 h9⊢
  obtain⟨n,hn⟩:=num_def N (s:=f3) (by omega)
  rw[hn,za]
  obtain⟨m,hm⟩:=num_def N (s:=g3) (by omega)
  rw[hm,za]
  exact Def.ret ⟨by show f2.length<=_;omega,zaf _,fun w hw=>by cases hw⟩
def opB (name:List UInt8):Nat->Bool
 |0=>decide (([97,110,100]:List UInt8)=name)
 |1=>decide (([111,114]:List UInt8)=name)
 |2=>decide (([108,101,115,115]:List UInt8)=name)
 |_=>decide (([116,105,109,101,115]:List UInt8)=name)
theorem op_one (name:List UInt8):oneB (opB name 0) (opB name 1) (opB name 2) (opB name 3)=true:=by
 unfold opB
 by_cases h0:([97,110,100]:List UInt8)=name
 .subst h0;decide
 by_cases h1:([111,114]:List UInt8)=name
 .subst h1;decide
 by_cases h2:([108,101,115,115]:List UInt8)=name
 .subst h2;decide
 by_cases h3:([116,105,109,101,115]:List UInt8)=name
 .subst h3;decide
 simp only[zd h0,zd h1,zd h2,zd h3]
 rfl
theorem any_def {δ ρ:Type} {P:ρ->Prop} (F:(δ->Option ρ)->δ->Option ρ) (st:Nat->Nat->Int->δ) (name:List UInt8)
  (hsame:∀go c k,F go (st 15 c k)=F (fun _=>none) (st 15 0 k))
  (hend:∀k,Def (F (fun _=>none) (st 15 0 k)) P)
  (hstep:∀(v:ρ) go m c k,leftI 4 m≠ []->(∀i,i∈leftI 4 m->i<4/\go (st (m|||2^i) (i+1) (bif opB name i then(7+(i:Int))else k))=some v)->F go (st m c k)=some v) (N:Nat) (hN:4<N):Def (iter F N (st 0 0 0)) P:=by
 obtain⟨v,hv,hp⟩:=hend (kindB (opB name 0) (opB name 1) (opB name 2) (opB name 3) 15)
 refine⟨v,?_,hp⟩
 have hb:∀i,i<4->bAt (opB name 0) (opB name 1) (opB name 2) (opB name 3) i=opB name i:=fun i hi=>by
  match i,hi with
  |0,_=>rfl
  |1,_=>rfl
  |2,_=>rfl
  |3,_=>rfl
 have k0:∀b0 b1 b2 b3,kindB b0 b1 b2 b3 0=0:=by decide
 have h0:=any_loop F st (op_one name) v (fun go c=>(hsame go c _).trans hv) (fun go m c h h2=>hstep v go m c _ h fun i hi=>by
  obtain⟨g1,g2⟩:=h2 i hi
  rw[hb i g1]at g2
  exact⟨g1,g2⟩) N 0 0 (by decide) (by rw[show(leftI 4 0).length=4 from by decide];exact hN)
 rw[k0]at h0
 exact h0
theorem query_read (N:Nat) (hM:1048576<N) (hN2:N<=16777216) (s:List UInt8) (hl:s.length<=200):∀(m D p:Nat),m<D->p<=s.length->s.length-p<=m->Def (i_queryReader_query_m N D s (p:Int)) fun r=>AQ (.mk r.1 r.2.1 r.2.2.1 r.2.2.2.1 r.2.2.2.2.1 r.2.2.2.2.2.1)/\r.2.2.2.2.2.2.1=s/\∃q:Nat,r.2.2.2.2.2.2.2=(q:Int)/\p<=q/\q<=s.length:=by
 intro m
 induction m using Nat.strongRecOn with
 |ind m ihm=>
 intro D p hD hp hm
 obtain⟨D,rfl⟩:∃E,D=E+1:=⟨D-1,by omega⟩
 rw[i_queryReader_query_m]
 obtain⟨ok,p1,e1,h1,h2,h3⟩:=skip_def N 40 s p hp hl
 rw[e1,za]
 dsimp only
 obtain⟨t,p2,e2,h4,h5,h6⟩:=token_def N (by omega) s p1 h2 hl
 cases ok with
 |false=>
  rw[zaI,zg,e2,za]
  dsimp only
  refine Def.bind (leaf_read N (by omega) hN2 t h6) fun r ⟨k1,k2,k3⟩=>Def.ret ⟨AQ.mk' k1 k2 k3 (zaf _) (fun c hc=>by cases hc),rfl,p2,rfl,by omega,h5⟩
 |true=>
  have h3:=h3 rfl
  rw[zn,ze,e2,za]
  dsimp only
  have e15:(leftI gm_opNames.length (Int.toNat ((15:Nat):Int))).isEmpty=true:=by decide
  refine any_def _ (fun m c k=>(t,0,[],0,0,k,[],0,0,s,(p2:Int),(m:Int),(c:Int))) t (fun go c k=>?_) (fun k=>?_) (fun v go m c k hne hall=>?_) N (by omega)
  .dsimp only
   rw[e15]
   rfl
  .dsimp only
   rw[e15,zg]
   refine Def.meet (I:=fun g=>g.2.2.2.2.2.1=[]/\g.2.2.2.2.2.2.2.2.1=s/\∃q:Nat,g.2.2.2.2.2.2.2.2.2=(q:Int)/\p1<=q/\q<=s.length) (fun g hI=>?_) (fun J hJ=>?_)
   .obtain ⟨b11,b12,b13,b14,q5,q6,q7,q8,b15,b16⟩:=g
    obtain⟨i1,i2,j,i3,i4,i5⟩:=hI
    dsimp only at i1 i2 i3⊢
    subst i1;subst i2;subst i3
    refine Def.iter (I:=fun g=>g.2.2.2.2.2.1=[]/\g.2.2.2.2.2.2.2.2.1.length<=200/\(∀c,c∈g.2.2.2.2.2.2.2.2.1->AQ c)/\g.2.2.2.2.2.2.2.2.2.1=b15/\∃q:Nat,g.2.2.2.2.2.2.2.2.2.2=(q:Int)/\p1<=q/\q<=b15.length) (meas:=fun g=>b15.length-g.2.2.2.2.2.2.2.2.2.2.toNat) (fun go g hI ih=>?_) N _ ⟨rfl,zaf _,(fun c hc=>by cases hc),rfl,j,rfl,i4,i5⟩ (by show b15.length-_<N;omega)
    obtain⟨b17,b18,b19,b20,q9,q10,q11,q12,q13,b21,b22⟩:=g
    obtain⟨i1,i2,i3,i6,j2,i7,i8,i9⟩:=hI
    dsimp only at i1 i2 i3 i6 i7 ih⊢
    subst i1;subst i6;subst i7
    obtain⟨ok8,p8,e8,k1,k2,k3⟩:=skip_def N 32 b21 j2 i9 hl
    rw[e8,za]
    dsimp only
    obtain⟨ok9,p9,e9,k4,k5,_⟩:=skip_def N 41 b21 p8 k2 hl
    have fin:Def (Option.bind (i_queryReader_skip_m N 41 b21 (p8:Int)) fun(r10:Bool×(List UInt8)×Int)=>some (q9,([]:List UInt8),([]:List (List UInt8)),q11,q12,q13,r10.2.1,r10.2.2)) fun r=>AQ (.mk r.1 r.2.1 r.2.2.1 r.2.2.2.1 r.2.2.2.2.1 r.2.2.2.2.2.1)/\r.2.2.2.2.2.2.1=b21/\∃q:Nat,r.2.2.2.2.2.2.2=(q:Int)/\p<=q/\q<=b21.length:=by
     rw[e9,za]
     exact Def.ret ⟨AQ.mk' (zaf _) (zaf _) (fun w hw=>by cases hw) (by show q13.length<=1000;omega) i3,rfl,p9,rfl,by omega,k5⟩
    cases ok8 with
    |false=>rw[ze];exact fin
    |true=>
     rw[zg]
     have k3:=k3 rfl
     refine Def.dif (fun hlt=>?_) (fun _=>fin)
     refine Def.bind (ihm (b21.length-p8) (by omega) D p8 (by omega) k2 (zae _)) fun r ⟨a1,a2,p10,a3,a4,a5⟩=>?_
     refine Def.ite ?_ (ih _ ⟨rfl,?_,?_,a2,p10,a3,by omega,a5⟩ ?_)
     .constructor
      .show (q13.length+1)*88<=_;omega
      .show q13.length+1<=_;omega
     .show (q13++ [_]).length<=200
      rw[zam,zbE];omega
     .intro c hc
      rcases zaB.1 hc with hc|hc
      .exact i3 c hc
      .rw [zaD]at hc;rw[hc];exact a1
     .show b21.length-Int.toNat r.2.2.2.2.2.2.2<b21.length-Int.toNat (j2:Int)
      rw[a3];omega
   .refine Def.dif (fun _=>?_) (fun _=>hJ _ ⟨rfl,rfl,p2,rfl,h4,h5⟩)
    obtain⟨ok5,p3,e3,k1,k2,_⟩:=skip_def N 32 s p2 h5 hl
    rw[e3,za]
    dsimp only
    cases ok5 with
    |false=>rw[ze];exact hJ _ ⟨rfl,rfl,p3,rfl,by omega,k2⟩
    |true=>
     rw[zg]
     obtain⟨t4,p4,e4,k3,k4,k5⟩:=token_def N (by omega) s p3 k2 hl
     rw[e4,za]
     dsimp only
     obtain⟨n,hn⟩:=num_def N (s:=t4) (by omega)
     rw[hn,za]
     exact hJ _ ⟨rfl,rfl,p4,rfl,by omega,k4⟩
  .dsimp only
   rw[zai,show gm_opNames.length=4 from rfl]
   have e:(leftI 4 m).isEmpty=false:=by
    cases hq:leftI 4 m with
    |nil=>exact absurd hq hne
    |cons _ _=>rfl
   rw[e,ze]
   refine anyOf_some hne fun i hi=>?_
   obtain⟨g1,g2⟩:=hall i hi
   rw[zf (by omega),show Int.toNat ((i+1:Nat):Int)-1=i from by omega]
   have fin:∀(e:Int×List UInt8),gm_opNames[i]? =some e->e.1=7+(i:Int)->decide (e.2=t)=opB t i->(Option.bind (gm_opNames[i]?) fun(e:Int×List UInt8)=>bif decide (e.2=t)then go (t,0,[],0,0,e.1,[],0,0,s,(p2:Int),((m|||2^i:Nat):Int),((i+1:Nat):Int))else go (t,0,[],0,0,k,[],0,0,s,(p2:Int),((m|||2^i:Nat):Int),((i+1:Nat):Int)))=some v:=fun e h1 h2 h3=>by
    rw[h1,za,h3,h2]
    revert g2
    cases opB t i<;>exact fun h=>h
   have h4:i=0\/i=1\/i=2\/i=3:=by omega
   rcases h4 with rfl|rfl|rfl|rfl<;>exact fin _ rfl rfl rfl
theorem queryRead_def (N:Nat) (hM:1048576<N) (hN:N<=16777216) (s:List UInt8):Def (i_QueryRead_m N s) fun r=>r.2.2.2.2.2.2=true->s≠ []/\okQ 4 (.mk r.1 r.2.1 r.2.2.1 r.2.2.2.1 r.2.2.2.2.1 r.2.2.2.2.2.1)=true/\putQ 4 (.mk r.1 r.2.1 r.2.2.1 r.2.2.2.1 r.2.2.2.2.1 r.2.2.2.2.2.1)=s:=by
 unfold i_QueryRead_m
 refine Def.dif (fun _=>Def.ret fun h=>by cases h) (fun hl=>?_)
 refine Def.bind (query_read N hM hN s (by omega) s.length N 0 (by omega) (zaf _) (by omega)) fun r ⟨aq,_⟩=>?_
 refine Def.dif (fun _=>Def.ret fun h=>by cases h) (fun hne=>?_)
 have hq:=queryPut_i N hM hN _ (aq 4)
 dsimp only[DQ.kind,DQ.field,DQ.words,DQ.lo,DQ.hi,DQ.kids]at hq
 rw[hq,za]
 cases hk:okQ 4 (.mk r.1 r.2.1 r.2.2.1 r.2.2.2.1 r.2.2.2.2.1 r.2.2.2.2.2.1)with
 |false=>
  rw[ze,zd (fun e=>hne e.symm),zaI,zg]
  exact Def.ret fun h=>by cases h
 |true=>
  rw[zg]
  by_cases e:putQ 4 (.mk r.1 r.2.1 r.2.2.1 r.2.2.2.1 r.2.2.2.2.1 r.2.2.2.2.2.1)=s
  .rw [zb e,zn,ze]
   exact Def.ret fun _=>⟨hne,hk,e⟩
  .rw [zd e,zaI,zg]
   exact Def.ret fun h=>by cases h
theorem drawScoreOf_def (N:Nat) (hM:Sm<N) {code:List Int} (hb:Bs code):Def (s_DrawScoreOf_m N code) fun r=>Drawn (r.1,r.2.1) (r.2.2.1,r.2.2.2.1)/\AQ (.mk r.2.2.2.2.1 r.2.2.2.2.2.1 r.2.2.2.2.2.2.1 r.2.2.2.2.2.2.2.1 r.2.2.2.2.2.2.2.2.1 r.2.2.2.2.2.2.2.2.2.1):=by
 have hM':1048576<N:=hM
 unfold s_DrawScoreOf_m
 refine Def.bind (open_def N hb) fun r h0=>?_
 refine Def.bind (anySeg_def N hM' h0) fun r2 ⟨dr,h2⟩=>?_
 refine Def.bind (query3_def N (by omega) h2 (by omega)) fun r5 ⟨o5,h5⟩=>?_
 refine Def.bind (pick_def N 9 h5 (by omega)) fun r6 _=>?_
 exact Def.ret ⟨dr,o5.aq⟩
theorem fnScoreWritten_gen (N:Nat) (hM:Sm<N) (hN:N<=16777216) (code:List Int) (hb:Bs code):l_FnScoreWritten_m N code=some true:=by
 have hM':1048576<N:=hM
 refine Def.get ?_
 unfold l_FnScoreWritten_m
 refine Def.dif (fun e=>Def.ret rfl) (fun e=>?_)
 refine Def.bind (drawScoreOf_def N hM hb) fun r ⟨dr,aq⟩=>?_
 obtain⟨c1,c2,docs,ents,k,f,ws,a,b,kids,id⟩:=r
 dsimp only at dr aq⊢
 have F:∀q,BQ 4 q->Fit N (c1,c2) (docs,ents) q:=fun q h=>⟨hM,hN,dr.conf,dr.docs,dr.few,h⟩
 have t1:=score_i (F _ (aq 4)) id
 have t2:=score_s (F _ (aq 4)) id
 have t3:=queryPut_i N hM' hN _ (aq 4)
 have t0:=scoreR_nn (F _ (aq 4)) id
 dsimp only[DQ.kind,DQ.field,DQ.words,DQ.lo,DQ.hi,DQ.kids]at t1 t2 t3
 rw[t1,za,t3,za]
 generalize scoreR N (c1,c2) (docs,ents) (.mk k f ws a b kids) id=v at*
 refine Def.bind (queryRead_def N hM' hN _) fun r hr=>?_
 obtain⟨k',f',ws',a',b',kids',ok⟩:=r
 dsimp only at hr⊢
 rw[t2,za]
 rw[zb rfl,zn,ze]
 cases ok with
 |false=>
  rw[zaI,zg,za,zb rfl]
  exact Def.ret rfl
 |true=>
  obtain⟨hne,ho,hp⟩:=hr rfl
  rw[zn,ze]
  cases hq:okQ 4 (.mk k f ws a b kids)with
  |false=>rw[hq]at hp hne;exact absurd rfl hne
  |true=>
   rw[hq,zg]at hp
   have e:=(putQ_inj 4 _ _ [] [] ho hq (.inl rfl) (.inl rfl) (by rw[hp])).1
   cases e
   rw[t1,za,zb rfl,zg,zb t0]
   exact Def.ret rfl
theorem bytes_ok {code:List Int} (h:okD BigN (.sl (.int .u8)) code):Bs code:=fun x hx=>by
 have:=h.2 x hx
 have e1:IntKind.u8.min=0:=by decide
 have e2:IntKind.u8.max=255:=by decide
 exact⟨by have h1:=this.1;rw[e1]at h1;exact h1,by have h1:=this.2;rw[e2]at h1;exact h1⟩
theorem fnScoreWritten_law (x0:List Int) (o0:okD BigN (.sl (.int .u8)) x0):l_FnScoreWritten_m 1048700 x0=some true:=fnScoreWritten_gen 1048700 (by decide) (by decide) x0 (bytes_ok o0)
end Go.Proofs.YtkglkigmdmohkaaGreatDoor
