import Derived.Test.YtabhgjdikeipdaaGreatDoorSD
import Derived.Test.YtabhgjdikeipdaaGreatDoorMK
import Derived.Test.YtabhgjdikeipdaaGreatDoorSC
import Derived.Test.YtabhgjdikeipdaaGreatDoorSE
set_option linter.unusedVariables false
set_option linter.unusedSimpArgs false
namespace Go.Proofs.YtabhgjdikeipdaaGreatDoor
open Go.RowKit
theorem jD2 {α:Type} (Z:α->Int->Option Int) (N:Nat) (hN:1048576<N) (P:α->Prop) (T:α->Nat) (a:List α) (left:Int) (hl:a.length<=BigN) (h0:0<=left) (h1:left<=1048576) (hZ:∀x,x∈a->∀l:Int,0<=l->l<left->SzP (T x) l (Z x l) (P x)):
  SzP (mcnt T a+a.length) left (jgu Z N a left) (a.length<=1048576/\∀x,x∈a->P x):=by
 unfold SzP jgu
 have hl':(a.length:Int)<=9223372036854775807:=by have:a.length<=9223372036854775807:=hl;omega
 refine Def.ite (by unfold fits;omega) ?_
 refine Def.dif (fun e=>Def.ret (.inl rfl)) (fun e=>?_)
 refine Def.upto a.length (fun n g=>∃l:Int,0<=l/\l+(mcnt T (a.take n)+a.length:Nat)<=left/\(∀x,x∈a.take n->P x)/\g=(a,l,(n:Int))) ?_ ?_ N 0 _ (zaf _) ⟨_,by omega,by simp only[zbJ,mcnt];omega,by simp,rfl⟩ (by omega)
 .rintro go _ ⟨l,hl0,hl1,hP,rfl⟩
  dsimp only
  rw[zd (zm _),ze]
  rw[zq]at hl1
  exact Def.ret (.inr ⟨hl0,hl1,by omega,by rwa[zq]at hP⟩)
 .rintro go n _ hn ⟨l,hl0,hl1,hP,rfl⟩ hgo
  dsimp only
  have hmc:=mcnt_take T a n hn
  rw[zb (by omega:(n:Int)<a.length),zg,idx_at hn,za]
  refine Def.bind (hZ _ (zr hn) l hl0 (by omega)) fun r hr=>?_
  refine Def.dif (fun e=>Def.ret (.inl rfl)) (fun e=>?_)
  rcases hr with hr|⟨r0,r1,hx⟩
  .omega
  refine Def.ite (fits_nat (n:=n) (by omega)) ?_
  refine hgo _ ⟨r,r0,by omega,fun x hx'=>?_,by rw[cast_succ']⟩
  rw[zo hn,zaB,zaD]at hx'
  rcases hx' with hx'|rfl
  .exact hP x hx'
  .exact hx
def tQ :Nat->DQ->Nat
 |0,_=>0
 |n+1,q=>q.words.length+(mcnt (tQ n) q.kids+q.kids.length)
def GQ :Nat->DQ->Prop
 |0,_=>False
 |n+1,q=>q.field.length<=1048576/\q.words.length<=1048576/\(∀w,w∈q.words->w.length<=1048576)/\q.kids.length<=1048576/\∀c,c∈q.kids->GQ n c
theorem GQ.bq :∀(n d:Nat) (q:DQ),GQ d q->BQ n q
 |0,_,_,_=>True.intro
 |_+1,0,_,h=>h.elim
 |n+1,d+1,q,⟨h1,h2,h3,h4,h5⟩=>⟨h1,h2,h3,h4,fun c hc=>GQ.bq n d c (h5 c hc)⟩
theorem sz_query (N:Nat) (hN:1048576<N):∀(D:Nat) (q:DQ),OkQ BigN q->∀left:Int,0<=left->left<=1048576->left<D->SzP (tQ D q) left (jGR N D q.kind q.field q.words q.lo q.hi q.kids left) (GQ D q)
 |0,_,_,left,h0,_,h=>by omega
 |D+1,q,ho,left,h0,h1,h=>by
  obtain @⟨k,a,b,f,ws,kids,hk,hf,hn,hw,ha,hb,hm,hq⟩:=ho
  rw[jGR]
  refine(SzP.len (k:=mcnt (tQ D) kids+kids.length+(mcnt List.length ws+ws.length)) hf h0 h1 (fun g0 g1=>?_) (R:=GQ (D+1) (DQ.mk k f ws a b kids)) (Q:=ws.length<=1048576/\(∀w,w∈ws->w.length<=1048576)/\kids.length<=1048576/\∀c,c∈kids->GQ D c) (fun hl hr=>⟨hl,hr.1,hr.2.1,hr.2.2.1,hr.2.2.2⟩)).imp (by unfold tQ;dsimp only[DQ.words,DQ.kids];omega) id
  refine SzP.then (j:=mcnt (tQ D) kids+kids.length) (jq4 N hN ws _ hn g0 (by omega) hw) (fun r r0 r1=>?_) (Q:=kids.length<=1048576/\∀c,c∈kids->GQ D c) (fun x y=>⟨x.1,x.2,y.1,y.2⟩)
  exact SzP.neg (jD2 (fun(x:DQ) l=>jGR N D x.kind x.field x.words x.lo x.hi x.kids l) N hN (GQ D) (tQ D) kids r hm r0 (by omega) (fun x hx l l0 l1=>sz_query N hN D x (hq x hx) l l0 (by omega) (by omega))) id
abbrev jAe {α β:Type} (T:α->Option β) (G:β->α) (z:α) (m:Int) (N:Nat) (a:List α):Option (List α):=
 (if(a.length:Int)=(a.length:Int)/\0<=(a.length:Int)/\(a.length:Int)*m<=140737488355328/\(a.length:Int)<=140737488355328 then
  (iter (fun(go:(List α×List α×Int)->Option (List α)) (g:List α×List α×Int)=>
    match g with
    |(a2,out,i)=>
    (bif(decide (i<(a2.length:Int)))then
     (Option.bind (idx a2 i) fun(e:α)=>
      (Option.bind (T e) fun(r:β)=>
       (if 0<=i/\i<(out.length:Int)then
        (Option.bind (out[i.toNat]?) fun(e2:α)=>
         (if fits (i+1)then(go (a2,(out.set i.toNat (G r)),(i+1)))else none))
        else none)))
     else
     (some out))) N (a,(List.replicate (a.length:Int).toNat z),0))
  else none)
theorem toLoop2_spec {α β:Type} (T:α->Option β) (G:β->α) (z:α) (m:Int) (N:Nat) (a:List α) (h:a.length<N) (hN:N<=1099511627776) (hm:(a.length:Int)*m<=140737488355328) (hT:∀x,x∈a->∃r,T x=some r/\G r=x):jAe T G z m N a=some a:=by
 unfold jAe
 rw[zf ⟨rfl,by omega,hm,by omega⟩]
 refine(iter_scan _ a.length (fun n=>(a,a.take n++List.replicate (a.length-n) z,(n:Int))) (fun n=>some a) (fun go=>?_) (fun go n hn hgo=>?_) N 0 (zaf _) (by omega))
 .dsimp only
  rw[zd (zm _),ze,zq,Nat.sub_self]
  simp
 .have hn':(n:Int)<a.length:=by omega
  have hol:(a.take n++List.replicate (a.length-n) z).length=a.length:=by simp;omega
  obtain⟨r,hr,hg⟩:=hT _ (zr hn)
  dsimp only
  rw[zb hn',zg,idx_at hn,za,hr,za,zf (by omega),zai,zc (by omega),za,zf (fits_nat (n:=n) (by omega)),hg,jkc a z n hn]
  simp only[cast_succ']at hgo
  exact hgo
theorem to_query (N:Nat) (hN:N<=1099511627776) (hM:1048576<N):∀(D:Nat) (q:DQ),GQ D q->jxF N D q.kind q.field q.words q.lo q.hi q.kids=some (q.kind,q.field,q.words,q.lo,q.hi,q.kids)
 |D+1,q,⟨h1,h2,h3,h4,h5⟩=>by
  have e1:jci N q.words=some q.words:=jV some [] 16 N q.words (by omega) hN (by omega) (fun x hx=>rfl)
  have e2:jyE N (fun a=>jxF N D a.1 a.2.1 a.2.2.1 a.2.2.2.1 a.2.2.2.2.1 a.2.2.2.2.2) q.kids=some q.kids:=
   toLoop2_spec (fun(e:DQ)=>jxF N D e.kind e.field e.words e.lo e.hi e.kids) (fun r=>DQ.mk r.1 r.2.1 r.2.2.1 r.2.2.2.1 r.2.2.2.2.1 r.2.2.2.2.2) _ 88 N q.kids (by omega) hN (by omega)
    (fun x hx=>⟨_,to_query N hN hM D x (h5 x hx),by cases x;rfl⟩)
  rw[jxF,e1,za,e2,za]
theorem eqLoop_self {α:Type} (E:α->α->Option Bool) (N:Nat) (a:List α) (h:a.length<N) (hN:N<=1099511627776) (hE:∀x,x∈a->E x x=some true):jf3 E N a a=some true:=by
 unfold jf3
 rw[zb rfl,zn,ze]
 refine(iter_scan _ a.length (fun n=>(a,a,(n:Int))) (fun n=>some true) (fun go=>?_) (fun go n hn hgo=>?_) N 0 (zaf _) (by omega))
 .dsimp only
  rw[zd (zm _),ze]
 .dsimp only
  rw[zb (by omega:(n:Int)<a.length),zg,idx_at hn,za,za,hE _ (zr hn),za,zn,ze,zf (fits_nat (n:=n) (by omega))]
  simp only[cast_succ']at hgo
  exact hgo
theorem eq_query (N:Nat) (hN:N<=1099511627776) (hM:1048576<N):∀(D:Nat) (q:DQ),GQ D q->jxK N D q.kind q.field q.words q.lo q.hi q.kids q.kind q.field q.words q.lo q.hi q.kids=some true
 |D+1,q,⟨h1,h2,h3,h4,h5⟩=>by
  have e1:j0 N q.words q.words=some true:=eqLoop_self (fun e e2=>some (decide (e=e2))) N q.words (by omega) hN (fun x hx=>by rw[zb rfl])
  have e2:jyS N (fun a=>jxK N D a.1 a.2.1 a.2.2.1 a.2.2.2.1 a.2.2.2.2.1 a.2.2.2.2.2.1 a.2.2.2.2.2.2.1 a.2.2.2.2.2.2.2.1 a.2.2.2.2.2.2.2.2.1 a.2.2.2.2.2.2.2.2.2.1 a.2.2.2.2.2.2.2.2.2.2.1 a.2.2.2.2.2.2.2.2.2.2.2) q.kids q.kids=some true:=
   eqLoop_self (fun(x y:DQ)=>jxK N D x.kind x.field x.words x.lo x.hi x.kids y.kind y.field y.words y.lo y.hi y.kids) N q.kids (by omega) hN (fun x hx=>eq_query N hN hM D x (h5 x hx))
  rw[jxK]
  simp only[decide_true,zn,ze,e1,e2,za]
theorem mcnt_str (l:List (List UInt8)):mcnt cStr l=l.length:=by
 induction l with
 |nil=>rfl
 |cons x l ih=>rw[mcnt,ih,zi];unfold cStr;omega
theorem mcnt_hit (l:List EHit):mcnt cHit l=2*l.length:=by
 induction l with
 |nil=>rfl
 |cons x l ih=>rw[mcnt,ih,zi];unfold cHit;omega
theorem jCY (k:Int) (f:List UInt8) (w:List (List UInt8)) (a b:Int) (c:List DQ):(DQ.mk k f w a b c).kind=k:=rfl
theorem jAH (k:Int) (f:List UInt8) (w:List (List UInt8)) (a b:Int) (c:List DQ):(DQ.mk k f w a b c).field=f:=rfl
theorem jCR (k:Int) (f:List UInt8) (w:List (List UInt8)) (a b:Int) (c:List DQ):(DQ.mk k f w a b c).words=w:=rfl
theorem jDb (k:Int) (f:List UInt8) (w:List (List UInt8)) (a b:Int) (c:List DQ):(DQ.mk k f w a b c).lo=a:=rfl
theorem jBV (k:Int) (f:List UInt8) (w:List (List UInt8)) (a b:Int) (c:List DQ):(DQ.mk k f w a b c).hi=b:=rfl
theorem jBl (k:Int) (f:List UInt8) (w:List (List UInt8)) (a b:Int) (c:List DQ):(DQ.mk k f w a b c).kids=c:=rfl
theorem mark_queries (N:Nat) (hM:Sm<N) (hN:N<=1099511627776):∀(d D:Nat),d<D->∀(l:List DQ) (k:Int),l.length<=1048576->(∀x,x∈l->GQ d x)->0<=k->k+4*(mcnt (tQ d) l+l.length:Nat)<=1000000000000->Def (jxQ N D l k) fun r=>k<=r.1/\r.1<=k+4*(mcnt (tQ d) l+l.length:Nat)
 |_,0,h,_,_,_,_,_,_=>absurd h (zbN _)
 |d,D+1,hD,l,k,hl,hg,hk0,hk=>by
  have hM':1048576<N:=hM
  rw[jxQ]
  refine Def.upto l.length (fun n g=>∃(a2:List DQ) (k2:Int),a2.length=l.length/\a2.drop n=l.drop n/\k<=k2/\k2<=k+4*(mcnt (tQ d) (l.take n)+n:Nat)/\g=(a2,k2,(n:Int))) ?_ ?_ N 0 _ (zaf _) ⟨l,k,rfl,rfl,zbD _,by simp only[zbJ,mcnt];omega,rfl⟩ (by omega)
  .rintro go _ ⟨a2,k2,e1,e2,h1,h2,rfl⟩
   dsimp only
   rw[e1,zd (zm _),ze]
   rw[zq]at h2
   exact Def.ret ⟨h1,h2⟩
  .rintro go n _ hn ⟨a2,k2,e1,e2,h1,h2,rfl⟩ hgo
   dsimp only
   have hn2:n<a2.length:=by omega
   have hcond:0<=(n:Int)/\(n:Int)<a2.length:=by omega
   rw[zan hn2,zan hn,List.cons.injEq]at e2
   obtain⟨e3,e4⟩:=e2
   have hget:a2[n]? =some l[n]:=by rw[zc hn2,e3]
   have hmc:=mcnt_take (tQ d) l n hn
   have hmle:=mcnt_take_le (tQ d) l (n+1)
   have hgx:=hg _ (zr hn)
   have hset:∀v:DQ,(a2.set n v)[n]? =some v:=fun v=>zbL hn2
   cases d with
   |zero=>exact hgx.elim
   |succ d=>
   obtain⟨g1,g2,g3,g4,g5⟩:=hgx
   have ht:tQ (d+1) l[n]=l[n].words.length+(mcnt (tQ d) l[n].kids+l[n].kids.length):=rfl
   have hst:=mcnt_str l[n].words
   have hms:=markStringS_spec N hM hN l[n].words (k2+1+1) (by omega) (by omega) ⟨g2,fun x hx=>g3 x hx⟩
   rw[zb (by omega:(n:Int)<a2.length),zg]
   simp only[zai,zap,List.set_set,zf hcond,hget,hset,za,jCY,jAH,jCR,jDb,jBV,jBl]
   rw[zf (by unfold fits;omega),jU N (k2+1) (by omega) (by omega) (by omega),za,zf (by unfold fits;omega),hms,za]
   dsimp only
   rw[zf (by unfold fits;omega),zf (by unfold fits;omega)]
   refine Def.bind (mark_queries N hM hN d D (by omega) l[n].kids _ g4 g5 (by omega) (by omega)) fun r hr=>?_
   rw[zf (fits_nat (n:=n) (by omega))]
   refine hgo _ ⟨_,_,?_,?_,?_,?_,by rw[cast_succ']⟩
   .rw [zaC,zaC,zap]
    exact e1
   .rw [jac,jac,List.drop_set_of_lt (by omega)]
    exact e4
   .omega
   .omega
def putD (l:List EDoc) (d:EDoc):List EDoc:=match l with
 | []=>[d]
 |x::r=>if x.1<d.1 then x::putD r d else d::x::r
theorem putD_perm (d:EDoc):∀l,(putD l d).Perm (d::l)
 | []=>List.Perm.refl _
 |x::r=>by
  unfold putD
  split
  .exact ((putD_perm d r).cons x).trans (List.Perm.swap d x r)
  .exact List.Perm.refl _
theorem jHS (d:EDoc):∀l,(l.Pairwise fun a b=>a.1<=b.1)->(putD l d).Pairwise fun a b=>a.1<=b.1
 | [],_=>by simp[putD]
 |x::r,h=>by
  rw[zas]at h
  unfold putD
  split
  .rename_i hx
   rw[zas]
   refine⟨fun y hy=>?_,jHS d r h.2⟩
   rcases zp.1 ((putD_perm d r).mem_iff.1 hy)with rfl|hy
   .omega
   .exact h.1 y hy
  .rename_i hx
   rw[zas,zas]
   refine⟨fun y hy=>?_,h⟩
   rcases zp.1 hy with rfl|hy
   .omega
   .have:=h.1 y hy;omega
def sortD (l:List EDoc):List EDoc:=l.foldl putD []
theorem jHM :∀(l acc:List EDoc),(acc.Pairwise fun a b=>a.1<=b.1)->(l.foldl putD acc).Perm (acc++l)/\(l.foldl putD acc).Pairwise fun a b=>a.1<=b.1
 | [],acc,h=>⟨by simp,h⟩
 |d::l,acc,h=>by
  rw[zaq]
  obtain⟨h1,h2⟩:=jHM l (putD acc d) (jHS d acc h)
  refine⟨h1.trans ?_,h2⟩
  refine((putD_perm d acc).append_right l).trans ?_
  rw[zbk]
  exact List.perm_middle.symm
theorem sortD_perm (l:List EDoc):(sortD l).Perm l:=by
 have:=(jHM l [] za4).1
 rwa[zaW]at this
theorem sortD_le (l:List EDoc):(sortD l).Pairwise fun a b=>a.1<=b.1:=(jHM l [] za4).2
theorem docs_to {R S:List EDoc} (hp:R.Perm S) (hR:R.Pairwise fun a b=>a.1<=b.1) (hS:S.Pairwise fun a b=>a.1<=b.1) (h:okDocs R=true):R=S:=by
 have hi:=(okDocs_ok h).inn.ids
 have hne:S.Pairwise fun a b=>a.1≠b.1:=(hp.pairwise_iff (fun {x y} h=>fun e=>h e.symm)).1 (hi.imp fun h e=>by omega)
 have hs:S.Pairwise fun a b=>a.1<b.1:=(hS.and hne).imp fun {a b} h=>by have:=h.1;have:=h.2;omega
 exact sorted_unique (fun a b:EDoc=>decide (a.1<b.1)) (fun a=>by simp) (fun a b c h k=>by rw[zw]at*;omega) R S (hi.imp fun h=>by rw[zw];exact h) (hs.imp fun h=>by rw[zw];exact h) fun x=>hp.mem_iff
theorem docs_same {R S:List EDoc} (hp:R.Perm S) (hR:R.Pairwise fun a b=>a.1<=b.1) (hS:S.Pairwise fun a b=>a.1<=b.1):okDocs R=okDocs S:=by
 cases h1:okDocs R with
 |true=>rw[<-docs_to hp hR hS h1,h1]
 |false=>
  cases h2:okDocs S with
  |false=>rfl
  |true=>rw[<-docs_to hp.symm hS hR h2,h2]at h1;cases h1
abbrev ELive :Type:=ESeg×List Int
abbrev EIndex :Type:=EConf×List ELive
def alive (l:ELive):List EDoc:=l.1.1.filter fun d=> !decide (d.1∈l.2)
def allD (ls:List ELive):List EDoc:=ls.flatMap alive
theorem jIG (l:ELive) (hi:l.1.1.Pairwise fun a b=>a.1<b.1) (hd:l.2.Nodup) (hs:∀n,n∈l.2->∃d,d∈l.1.1/\d.1=n):(alive l).length+l.2.length=l.1.1.length:=by
 have h1:(l.1.1.filter fun d=>decide (d.1∈l.2)).length=l.2.length:=by
  have hp:((l.1.1.filter fun d=>decide (d.1∈l.2)).map (·.1)).Perm l.2:=by
   refine(List.perm_ext_iff_of_nodup ?_ hd).2 fun n=>?_
   .have:((l.1.1.map (·.1))).Nodup:=by
     refine zbb.2 (hi.imp fun h e=>?_)
     have:=h;omega
    exact List.Nodup.sublist (List.filter_sublist.map _) this
   .rw [zab]
    constructor
    .rintro ⟨d,hd,rfl⟩
     exact of_decide_eq_true (zaZ.1 hd).2
    .intro hn
     obtain⟨d,hd,rfl⟩:=hs n hn
     exact⟨d,zaZ.2 ⟨hd,zb hn⟩,rfl⟩
  rw[<-hp.length_eq,zar]
 unfold alive
 rw[<-h1]
 have:∀(xs:List EDoc) (p:EDoc->Bool),(xs.filter fun d=> !p d).length+(xs.filter p).length=xs.length:=by
  intro xs p
  induction xs with
  |nil=>rfl
  |cons x xs ih=>
   rw[za9,za9,zi]
   cases p x<;>simp<;>omega
 exact this l.1.1 _
theorem jI8 {l:List Int} {a:Int} {n:Nat} (hn:n<l.length) (h:a∉l.take n) (e:¬a=l[n]):a∉l.take (n+1):=by
 rw[zo hn,zaB,zaD]
 rintro(h'|h')
 .exact h h'
 .exact e h'
theorem jI0 (N:Nat) (l:List Int) (a:Int) (h:l.length<N) (hN:N<=1099511627776):Def (jHJ N l a) fun r=>(r=-1/\a∉l)\/ ∃j:Nat,r=(j:Int)/\j<l.length/\l[j]? =some a/\a∉l.take j:=by
 unfold jHJ
 refine Def.upto l.length (fun n g=>a∉l.take n/\g=(l,a,(l.length:Int),(n:Int))) ?_ ?_ N 0 _ (zaf _) ⟨by simp,rfl⟩ (by omega)
 .rintro go _ ⟨hm,rfl⟩
  dsimp only
  rw[zd (zm _),ze]
  rw[zq]at hm
  exact Def.ret (.inl ⟨rfl,hm⟩)
 .rintro go n _ hn ⟨hm,rfl⟩ hgo
  dsimp only
  rw[zb (by omega:(n:Int)<l.length),zg,idx_at hn,za]
  refine Def.dif (fun e=>Def.ret (.inr ⟨n,rfl,hn,by rw[zc hn,e],hm⟩)) (fun e=>?_)
  exact Def.ite (fits_nat (n:=n) (by omega)) (hgo _ ⟨jI8 hn hm e,by rw[cast_succ']⟩)
theorem jIQ (N:Nat) (l:List Int) (n:Int) (h:l.length<N) (hN:N<=1099511627776):jHG N l n=some (decide (n∈l)):=by
 obtain⟨r,hr,hc⟩:=jI0 N l n h hN
 unfold jHG
 rw[hr,za]
 rcases hc with⟨rfl,hn⟩|⟨j,rfl,hj,he,_⟩
 .rw [zd hn];rfl
 .have hm:n∈l:=by
   rw[zc hj]at he
   have e:=Option.some.inj he
   exact e▸zr hj
  rw[zb hm,zb (by omega)]
theorem l8Has_spec (N:Nat) (l:List Int) (n:Int) (h:l.length<N) (hN:N<=1099511627776):jHH N l n=some (decide (n∈l)):=by
 unfold jHH
 refine(iter_scan _ l.length (fun k=>(l,n,(k:Int))) (fun k=>some (decide (n∈l.drop k))) (fun go=>?_) (fun go k hk hgo=>?_) N 0 (zaf _) (by omega)).trans (by simp)
 .dsimp only
  rw[zd (zm _),ze]
  simp
 .dsimp only
  rw[zb (by omega:(k:Int)<l.length),zg,idx_at hk,za,zan hk]
  by_cases e:l[k]=n
  .rw [zb e,zg,e];simp
  .rw [zd e,ze,zf (fits_nat (n:=k) (by omega))]
   simp only[cast_succ']at hgo
   rw[hgo]
   have e':¬n=l[k]:=fun h=>e h.symm
   simp only[zp,e',false_or]
theorem alive_take (l:ELive) {n:Nat} (h:n<l.1.1.length):(l.1.1.take (n+1)).filter (fun d=> !decide (d.1∈l.2))=bif decide (l.1.1[n].1∈l.2)then(l.1.1.take n).filter (fun d=> !decide (d.1∈l.2))else(l.1.1.take n).filter (fun d=> !decide (d.1∈l.2))++ [l.1.1[n]]:=by
 rw[zo h,za6]
 cases e:decide (l.1.1[n].1∈l.2)<;>simp[za9,e]
theorem alive_spec (N:Nat) (hM:1048576<N) (hN:N<=16777216) (l:ELive) (h1:l.1.1.length<=1000) (h2:l.2.length<=1000):jHE N l.1.1 l.1.2 l.2=some (alive l):=by
 unfold jHE alive
 refine(iter_scan _ l.1.1.length (fun n=>((l.1.1.take n).filter (fun d=> !decide (d.1∈l.2)),l.1.1,(l.1.1.length:Int),(n:Int),l.1.1,l.1.2,l.2)) (fun n=>some (l.1.1.filter fun d=> !decide (d.1∈l.2))) (fun go=>?_) (fun go n hn hgo=>?_) N 0 (zaf _) (by omega)).trans rfl
 .dsimp only
  rw[zd (zm _),ze,zq]
 .dsimp only
  have hll:((l.1.1.take n).filter (fun d=> !decide (d.1∈l.2))).length<=1000:=zau (zbh _ _) (by rw[zah];omega)
  simp only[cast_succ',alive_take l hn]at hgo
  generalize(l.1.1.take n).filter (fun d=> !decide (d.1∈l.2))=out at*
  rw[zb (by omega:(n:Int)<l.1.1.length),zg,idx_at hn,za,jIQ N _ _ (by omega) (by omega),za,zf (room_of (by rw[zbE];omega) (by rw[zbE];omega)),<-hgo]
  simp only[zf (fits_nat (n:=n) (by omega))]
  cases decide (l.1.1[n].1∈l.2)<;>rfl
def okLive (c:EConf) (l:ELive):Bool:=okSeg c l.1&&(upB l.2&&(decide (l.2.length<l.1.1.length)&&l.2.all fun n=>(docOf l.1.1 n).isSome))
theorem jIJ (c:EConf) (l:ELive):(okSeg c l.1&&(upB l.2&&((l.2.all fun n=>(docOf l.1.1 n).isSome)&&decide (0<(alive l).length))))=okLive c l:=by
 unfold okLive
 cases hs:okSeg c l.1 with
 |false=>rfl
 |true=>
  cases hu:upB l.2 with
  |false=>rfl
  |true=>
   cases ha:l.2.all fun n=>(docOf l.1.1 n).isSome with
   |false=>simp
   |true=>
    have hi:=(okSeg_ok hs).2.1.inn.ids
    have hd:l.2.Nodup:=by
     have:=(upB_up hu).1
     exact this.imp fun h e=>by have:=h;omega
    have:=jIG l hi hd fun n hn=>by
     have h1:=zax.1 ha n hn
     cases hdn:docOf l.1.1 n with
     |none=>rw[hdn]at h1;cases h1
     |some d=>exact⟨d,docOf_some hdn⟩
    rw[zaj,zaV]
    congr 2
    rw[zbH,zw,zw]
    omega
theorem dead_scan {δ:Type} (docs:List EDoc) (xs:List Int) (N:Nat) (hN:xs.length<N) (F:(δ->Option Bool)->δ->Option Bool) (st:Nat->δ) (fin:Option Bool) (hend:∀go,F go (st xs.length)=fin)
  (hstep:∀go n (hn:n<xs.length),F go (st n)=bif(docOf docs xs[n]).isSome then go (st (n+1))else some false):iter F N (st 0)=bif xs.all (fun n=>(docOf docs n).isSome)then fin else some false:=
 check_list F xs st (fun n=>(docOf docs n).isSome) (some false) fin hend hstep N hN
theorem liveOk_spec (N:Nat) (hM:Sm<N) (hN:N<=16777216) (c:EConf) (oc:okD Sm TConf c) (l:ELive) (od:∀x,x∈l.1.1->okD Sm TDoc x) (h1:l.1.1.length<=1048576) (h2:l.2.length<=1048576):jHI N c.1 c.2 l.1.1 l.1.2 l.2=some (okLive c l):=by
 have hM':1048576<N:=hM
 rw[<-jIJ]
 unfold jHI
 rw[segOk_spec N hM hN c oc l.1 od h1,za,jDN N hM (by omega) l.2 h2,za]
 cases hs:okSeg c l.1 with
 |false=>rfl
 |true=>
  cases hu:upB l.2 with
  |false=>rfl
  |true=>
   have hf:=(okSeg_ok hs).2.1.few
   have hul:=(upB_up hu).2.1
   simp only[zn,ze,zaj]
   refine(dead_scan l.1.1 l.2 N (by omega) _ (fun n=>(l.2,(l.2.length:Int),(n:Int),l.1.1,l.1.2,l.2)) (some (decide (0<(alive l).length))) (fun go=>?_) (fun go n hn=>?_)).trans ?_
   .dsimp only
    rw[zd (zm _),ze,alive_spec N hM' hN l (by omega) (by omega),za]
    congr 1
    rw[zbH,zw,zw]
    omega
   .dsimp only
    have hsd:=segDoc_spec N l.1 l.2[n] (by omega) hN
    rw[zb (by omega:(n:Int)<l.2.length),zg,idx_at hn,za]
    rw[show((l.1.1,l.1.2):ESeg)=l.1 from rfl,hsd,za,zf (fits_nat (n:=n) (by omega)),cast_succ']
    cases docOf l.1.1 l.2[n]<;>rfl
   .cases l.2.all fun n=>(docOf l.1.1 n).isSome<;>rfl
structure Short (d:EDoc):Prop where
 f:d.2.1.length<=3
 a:d.2.2.length<=3
theorem cut_take' {α:Type} (xs:List α) (n:Nat) (h:n<=xs.length):cut xs 0 (n:Int)=some (xs.take n):=by
 unfold cut
 rw[zf ⟨by omega,by omega,by omega⟩]
 simp
theorem cut_drop' {α:Type} (xs:List α) (n:Nat) (h:n<=xs.length):cut xs (n:Int) (xs.length:Int)=some (xs.drop n):=by
 unfold cut
 rw[zf ⟨by omega,by omega,by omega⟩]
 simp
theorem putD_at (d:EDoc):∀(l:List EDoc) (n:Nat),n<=l.length->(∀x,x∈l.take n->x.1<d.1)->(∀h:n<l.length,¬l[n].1<d.1)->putD l d=l.take n++ [d]++l.drop n
 | [],n,h,_,_=>by simp at h;subst h;rfl
 |x::r,0,_,_,h2=>by
  have:=h2 (by simp)
  unfold putD
  rw[zu (by simpa using this)]
  rfl
 |x::r,n+1,h,h1,h2=>by
  have hx:=h1 x (by rw[zbG];simp)
  unfold putD
  rw[zf hx,putD_at d r n (by simpa using h) (fun y hy=>h1 y (by rw[zbG];simp[hy])) (fun h'=>by
   have:=h2 (by simp;omega)
   simpa using this)]
  rfl
theorem putDoc_spec (N:Nat) (hM:1048576<N) (l:List EDoc) (d:EDoc) (hd:Short d) (hl:l.length<=1000):s_l18Put_m N l d.1 d.2.1 d.2.2=some (putD l d):=by
 refine Def.get ?_
 unfold s_l18Put_m
 have stop:∀n:Nat,n<=l.length->(∀x,x∈l.take n->x.1<d.1)->(∀h:n<l.length,¬l[n].1<d.1)->Def (Option.bind (cut l 0 (n:Int)) fun y=>if room ([]:List EDoc).length y.length 56 then Option.bind (s_l7CopyDoc_m N d.1 d.2.1 d.2.2) fun r=>if room (([]:List EDoc)++y).length ([r]:List EDoc).length 56 then Option.bind (cut l (n:Int) (l.length:Int)) fun y2=>if room ((([]:List EDoc)++y)++([r]:List EDoc)).length y2.length 56 then some (((([]:List EDoc)++y)++([r]:List EDoc))++y2)else none else none else none) fun r=>r=putD l d:=fun n hn h1 h2=>by
  rw[cut_take' l n hn,za,zf (room_of (by rw[zah];simp;omega) (by rw[zah];simp;omega)),l7CopyDoc_spec N d hd.f hd.a,za,
   zf (room_of (by rw[zam,zah,zbE];simp;omega) (by rw[zam,zah,zbE];simp;omega)),cut_drop' l n hn,za,
   zf (room_of (by simp only[zam,zah,zbE,zaQ,zac];omega) (by simp only[zam,zah,zbE,zaQ,zac];omega))]
  exact Def.ret (by rw[putD_at d l n hn h1 h2,zaW])
 refine Def.upto l.length (fun n g=>(∀x,x∈l.take n->x.1<d.1)/\g=(l,(n:Int),d.1,d.2.1,d.2.2)) ?_ ?_ N 0 _ (zaf _) ⟨fun x hx=>by simp at hx,rfl⟩ (by omega)
 .rintro go _ ⟨h1,rfl⟩
  dsimp only
  rw[zd (zm _),ze]
  exact stop l.length (zae _) h1 fun h=>absurd h (Nat.lt_irrefl _)
 .rintro go n _ hn ⟨h1,rfl⟩ hgo
  dsimp only
  rw[zb (by omega:(n:Int)<l.length),zg,idx_at hn,za]
  refine Def.dif (fun e=>Def.ite (fits_nat (n:=n) (by omega)) (hgo _ ⟨fun x hx=>?_,by rw[cast_succ']⟩)) (fun e=>stop n (by omega) h1 fun _=>e)
  rw[zo hn,zaB,zaD]at hx
  rcases hx with hx|rfl
  .exact h1 x hx
  .exact e
theorem putD_len (l:List EDoc) (d:EDoc):(putD l d).length=l.length+1:=(putD_perm d l).length_eq
theorem foldD_len (l acc:List EDoc):(l.foldl putD acc).length=acc.length+l.length:=by
 induction l generalizing acc with
 |nil=>rfl
 |cons d l ih=>rw[zaq,ih,putD_len,zi];omega
structure Pieces (ls:List ELive):Prop where
 few:ls.length<=5
 docs:∀l,l∈ls->l.1.1.length<=16/\l.2.length<=60/\∀d,d∈l.1.1->Short d
theorem Pieces.len {ls:List ELive} (h:Pieces ls) (n:Nat):(allD (ls.take n)).length<=80:=by
 have key:∀L:List ELive,(∀l,l∈L->l.1.1.length<=16)->(allD L).length<=16*L.length:=by
  intro L
  induction L with
  |nil=>intro _;exact zaf _
  |cons a L ih=>
   intro hL
   have h3:=hL a (by simp)
   have h4:=ih fun l hl=>hL l (by simp[hl])
   have h5:(alive a).length<=a.1.1.length:=zbh _ _
   unfold allD at*
   rw[zbu,zam,zi]
   omega
 have:=key (ls.take n) fun l hl=>(h.docs l (zaP hl)).1
 have:=h.few
 rw[zah]at*
 omega
theorem docs_spec (N:Nat) (hM:1048576<N) (hN:N<=16777216) (c:EConf) (ls:List ELive) (h:Pieces ls):s_l18Docs_m N c.1 c.2 ls=some (sortD (allD ls)):=by
 have hfew:=h.few
 refine Def.get ?_
 unfold s_l18Docs_m
 refine Def.upto ls.length (fun n g=>g=(sortD (allD (ls.take n)),(n:Int),c.1,c.2,ls)) ?_ ?_ N 0 _ (zaf _) rfl (by omega)
 .rintro go _ rfl
  dsimp only
  rw[zd (zm _),ze,zq]
  exact Def.ret rfl
 .rintro go n _ hn rfl hgo
  dsimp only
  have hm:=zr hn
  obtain⟨b1,b2,b3⟩:=h.docs _ hm
  have hlen:=h.len n
  rw[zb (by omega:(n:Int)<ls.length),zg]
  refine Def.upto ls[n].1.1.length (fun k g=>g=(((ls[n].1.1.take k).filter (fun d=> !decide (d.1∈ls[n].2))).foldl putD (sortD (allD (ls.take n))),(n:Int),(k:Int),c.1,c.2,ls)) ?_ ?_ N 0 _ (zaf _) rfl (by omega)
  .rintro go2 _ rfl
   dsimp only
   rw[idx_at hn,za,zd (zm _),ze]
   refine Def.ite (fits_nat (n:=n) (by omega)) (hgo _ ?_)
   rw[zq,zo hn,cast_succ']
   unfold allD sortD
   rw[List.flatMap_append,zaX]
   simp[alive]
  .rintro go2 k _ hk rfl hgo2
   dsimp only
   have hol:(((ls[n].1.1.take k).filter (fun d=> !decide (d.1∈ls[n].2))).foldl putD (sortD (allD (ls.take n)))).length<=200:=by
    rw[foldD_len,(sortD_perm _).length_eq]
    have:=zbh (fun d:EDoc=> !decide (d.1∈ls[n].2)) (ls[n].1.1.take k)
    rw[zah]at this
    omega
   have hd8:s_l18Dead_m N ls[n].1.1 ls[n].1.2 ls[n].2 ls[n].1.1[k].1=some (decide (ls[n].1.1[k].1∈ls[n].2)):=by
    unfold s_l18Dead_m
    rw[l8Has_spec N _ _ (by omega) (by omega),za]
   rw[idx_at hn,za,zb (by omega:(k:Int)<ls[n].1.1.length),zg,za,idx_at hk,za,za,hd8,za]
   have hnx:=alive_take ls[n] hk
   cases hv:decide (ls[n].1.1[k].1∈ls[n].2)with
   |true=>
    rw[hv,zg]at hnx
    rw[zn,ze]
    exact Def.ite (fits_nat (n:=k) (by omega)) (hgo2 _ (by rw[hnx,cast_succ']))
   |false=>
    rw[hv,ze]at hnx
    rw[zaI,zg,putDoc_spec N hM _ _ (b3 _ (zr hk)) (by omega),za]
    exact Def.ite (fits_nat (n:=k) (by omega)) (hgo2 _ (by rw[hnx,cast_succ',zaX];rfl))
theorem check_all {α δ ρ:Type} (F:(δ->Option ρ)->δ->Option ρ) (xs:List α) (st:Nat->δ) (P:α->Bool) (no fin:Option ρ) (hend:xs.all P=true->∀go,F go (st xs.length)=fin)
  (hstep:∀go n (hn:n<xs.length),F go (st n)=bif P xs[n]then go (st (n+1))else no) (N:Nat) (h:xs.length<N):iter F N (st 0)=bif xs.all P then fin else no:=by
 cases ht:xs.all P with
 |true=>
  rw[check_list F xs st P no fin (hend ht) hstep N h,ht]
 |false=>
  rw[ze]
  refine fail_at F xs st P no hstep N 0 (by omega) ?_
  rw[List.all_eq_false]at ht
  obtain⟨a,ha,hp⟩:=ht
  obtain⟨k,hk,rfl⟩:=zav.1 ha
  exact⟨k,hk,zaf _,by simpa using hp⟩
structure FitI (N:Nat) (x:EIndex):Prop where
 big:Sm<N
 top:N<=16777216
 oc:okD Sm TConf x.1
 len:x.2.length<=1048576
 each:∀l,l∈x.2->(∀d,d∈l.1.1->okD Sm TDoc d)/\l.1.1.length<=1048576/\l.2.length<=1048576
theorem okLive_ok {c:EConf} {l:ELive} (h:okLive c l=true):okSeg c l.1=true/\l.1.1.length<=16/\l.2.length<=60/\∀d,d∈l.1.1->Short d:=by
 unfold okLive at h
 rw[zj,zj]at h
 have hd:=(okSeg_ok h.1).2.1
 exact⟨h.1,hd.few,(upB_up h.2.1).2.1,fun d hm=>⟨(hd.each d hm).1,(hd.each d hm).2.1⟩⟩
theorem pieces_of {c:EConf} {ls:List ELive} (h5:ls.length<=5) (h:(ls.all (okLive c))=true):Pieces ls:=
 ⟨h5,fun l hl=>by
  obtain⟨_,h1,h2,h3⟩:=okLive_ok (zax.1 h l hl)
  exact⟨h1,h2,h3⟩⟩
def okIdx (x:EIndex):Bool:=okConf x.1&&(decide ((x.2.length:Int)<=5)&&(x.2.all (okLive x.1)&&okDocs (sortD (allD x.2))))
theorem okIdx_ok {x:EIndex} (h:okIdx x=true):okConf x.1=true/\x.2.length<=5/\(x.2.all (okLive x.1))=true/\okDocs (sortD (allD x.2))=true:=by
 unfold okIdx at h
 rw[zj,zj,zj,zw]at h
 exact⟨h.1,by omega,h.2.2.1,h.2.2.2⟩
theorem all_docs {ls:List ELive} {P:EDoc->Prop} (h:∀l,l∈ls->∀d,d∈l.1.1->P d):∀d,d∈allD ls->P d:=fun d hd=>by
 unfold allD alive at hd
 rw[zaT]at hd
 obtain⟨l,hl,hd⟩:=hd
 exact h l hl d (zaZ.1 hd).1
theorem sort_docs {ls:List ELive} {P:EDoc->Prop} (h:∀l,l∈ls->∀d,d∈l.1.1->P d):∀d,d∈sortD (allD ls)->P d:=fun d hd=>all_docs h d ((sortD_perm _).mem_iff.1 hd)
theorem sort_len {ls:List ELive} (h:Pieces ls):(sortD (allD ls)).length<=80:=by
 rw[(sortD_perm _).length_eq]
 have:=h.len ls.length
 rwa[zq]at this
theorem l18Ok_spec {N:Nat} {x:EIndex} (h:FitI N x):s_l18Ok_m N x.1.1 x.1.2 x.2=some (okIdx x):=by
 have hM:1048576<N:=h.big
 have hN:=h.top
 have hlx:=h.len
 have e0:okIdx x=bif x.2.all (okLive x.1)then(okConf x.1&&(decide ((x.2.length:Int)<=5)&&okDocs (sortD (allD x.2))))else false:=by
  unfold okIdx
  cases okConf x.1<;>cases decide ((x.2.length:Int)<=5)<;>cases x.2.all (okLive x.1)<;>rfl
 unfold s_l18Ok_m
 refine(check_all _ x.2 (fun n=>((n:Int),x.1.1,x.1.2,x.2)) (okLive x.1) (some false) (some (okConf x.1&&(decide ((x.2.length:Int)<=5)&&okDocs (sortD (allD x.2))))) (fun hall go=>?_) (fun go n hn=>?_) N (by omega)).trans ?_
 .dsimp only
  rw[zd (zm _),ze,l2Ok_spec N h.big (by omega) x.1 h.oc,za]
  cases hc:okConf x.1 with
  |false=>rfl
  |true=>
   by_cases h5:(x.2.length:Int)<=5
   .have hp:=pieces_of (c:=x.1) (by omega) hall
    rw[zb h5,zg,zg,docs_spec N hM hN x.1 x.2 hp,za,l6Docs_spec N h.big (by omega) _ (sort_docs fun l hl=>(h.each l hl).1) (by have:=sort_len hp;omega),za]
    rfl
   .rw [zd h5]
    rfl
 .dsimp only
  have hm:=zr hn
  obtain⟨od,h1,h2⟩:=h.each _ hm
  rw[zb (by omega:(n:Int)<x.2.length),zg,idx_at hn,za,l7Ok_spec N h.big hN x.1 h.oc x.2[n].1 od h1,za]
  have e1:okLive x.1 x.2[n]=(okSeg x.1 x.2[n].1&&(upB x.2[n].2&&(decide (x.2[n].2.length<x.2[n].1.1.length)&&x.2[n].2.all fun m=>(docOf x.2[n].1.1 m).isSome))):=rfl
  rw[e1]
  cases hs:okSeg x.1 x.2[n].1 with
  |false=>rfl
  |true=>
   rw[zn,ze,l3Up_spec N h.big (by omega) _ h2,za]
   cases hu:upB x.2[n].2 with
   |false=>rfl
   |true=>
    have hf:=(okSeg_ok hs).2.1.few
    have hul:=(upB_up hu).2.1
    have g:GoodS N x.1 x.2[n].1:=⟨h.big,hN,h.oc,od,hs⟩
    rw[zn,ze,zaj,zaj]
    by_cases hlen:x.2[n].2.length<x.2[n].1.1.length
    .rw [zb hlen,zaj,zd (by omega:¬((x.2[n].1.1.length:Int)<=(x.2[n].2.length:Int))),ze]
     refine(dead_scan x.2[n].1.1 x.2[n].2 N (by omega) _ (fun k=>((n:Int),(k:Int),false,false,x.1.1,x.1.2,x.2,x.2[n].1.1,x.2[n].1.2,x.2[n].2)) (go (((n+1:Nat):Int),x.1.1,x.1.2,x.2)) (fun go2=>?_) (fun go2 k hk=>?_)).trans ?_
     .dsimp only
      rw[zd (zm _),ze,zf (fits_nat (n:=n) (by omega)),cast_succ']
     .dsimp only
      have hid:∀d,docOf x.2[n].1.1 x.2[n].2[k]=some d->¬d.1=0:=fun d hd e=>by
       have h3:=docOf_some hd
       have h4:=okDoc_each (okSeg_docs hs) d h3.1
       unfold okDoc at h4
       simp only[zj,zw]at h4
       omega
      rw[zb (by omega:(k:Int)<x.2[n].2.length),zg,idx_at hk,za,l12Doc_spec N g,za,zf (fits_nat (n:=k) (by omega)),cast_succ']
      cases hd:docOf x.2[n].1.1 x.2[n].2[k]with
      |none=>rfl
      |some d=>
       show(bif decide (d.1=0)then _ else _)=_
       rw[zd (hid d hd)]
       rfl
     .cases x.2[n].2.all fun m=>(docOf x.2[n].1.1 m).isSome<;>rfl
    .rw [zd hlen,Bool.false_and,zb (by omega:((x.2[n].1.1.length:Int)<=(x.2[n].2.length:Int))),zg]
     rfl
 .rw [e0]
  cases x.2.all (okLive x.1)<;>rfl
def ltI (a b:EDoc):Bool:=decide (a.1<b.1)
theorem ltI_ord :WOrd ltI:=by
 refine⟨fun x y h=>?_,fun x y z h k=>?_⟩
 .unfold ltI at*;rw[zw]at h;rw[decide_eq_false_iff_not];omega
 .unfold ltI at*;rw[decide_eq_false_iff_not]at*;omega
theorem cmpI (N:Nat) (a b:EDoc):Def (cmp669 N () a b) fun r=>decide (r<0)=ltI a b:=by
 show Def (i_allAlive_1_m N a.1 a.2.1 a.2.2 b.1 b.2.1 b.2.2) _
 unfold i_allAlive_1_m
 rw[compareI_spec,za]
 refine Def.ret ?_
 unfold ltI
 by_cases h:a.1<b.1
 .simp [h]
 .by_cases h2:b.1<a.1<;>simp[h,h2]
theorem allAlive_def (N:Nat) (hM:1048576<N) (hN:N<=16777216) (ls:List ELive) (h:Pieces ls):Def (i_allAlive_m N ls) fun R=>R.Perm (allD ls)/\R.Pairwise fun a b=>a.1<=b.1:=by
 have hfew:=h.few
 unfold i_allAlive_m
 refine Def.upto ls.length (fun n g=>g=(allD (ls.take n),ls,(ls.length:Int),(n:Int))) ?_ ?_ N 0 _ (zaf _) rfl (by omega)
 .rintro go _ rfl
  dsimp only
  have hl:=h.len ls.length
  rw[zq]at hl⊢
  rw[zd (zm _),ze]
  refine Def.bind (sortWk_669 ltI ltI_ord N hN (by omega) (allD ls) () ⟨fun x _ y _=>cmpI N x y⟩ (by omega)) fun R ⟨h1,h2⟩=>Def.ret ⟨h1,h2.imp fun {a b} hab=>?_⟩
  unfold ltI at hab
  rw[decide_eq_false_iff_not]at hab
  omega
 .rintro go n _ hn rfl hgo
  dsimp only
  have hm:=zr hn
  obtain⟨b1,b2,_⟩:=h.docs _ hm
  have hl:=h.len n
  have hal:(alive ls[n]).length<=16:=zau (zbh _ _) b1
  rw[zb (by omega:(n:Int)<ls.length),zg,idx_at hn,za,alive_spec N hM hN ls[n] (by omega) (by omega),za]
  refine Def.ite (room_of (by omega) (by omega)) (Def.ite (fits_nat (n:=n) (by omega)) (hgo _ ?_))
  rw[zo hn,cast_succ']
  unfold allD
  rw[List.flatMap_append]
  simp
theorem indexOk_spec {N:Nat} {x:EIndex} (h:FitI N x):i_IndexOk_m N x.1.1 x.1.2 x.2=some (okIdx x):=by
 have hM:1048576<N:=h.big
 have hN:=h.top
 have hlx:=h.len
 unfold i_IndexOk_m okIdx
 rw[confOk_spec N h.big (by omega) x.1 h.oc,za]
 cases hc:okConf x.1 with
 |false=>rfl
 |true=>
  rw[zn,ze,zaj]
  by_cases h5:(x.2.length:Int)<=5
  .rw [zb h5,zd (by omega:¬(5:Int)<x.2.length),ze,zaj]
   refine(check_all _ x.2 (fun n=>(x.2,(x.2.length:Int),(n:Int),x.1.1,x.1.2,x.2)) (okLive x.1) (some false) (some (okDocs (sortD (allD x.2)))) (fun hall go=>?_) (fun go n hn=>?_) N (by omega)).trans ?_
   .dsimp only
    have hp:=pieces_of (c:=x.1) (by omega) hall
    obtain⟨R,hR,hperm,hle⟩:=allAlive_def N hM hN x.2 hp
    have hps:=hperm.trans (sortD_perm (allD x.2)).symm
    have hlen:=sort_len hp
    rw[zd (zm _),ze,hR,za,docsOk_spec N h.big (by omega) R (fun d hd=>sort_docs (fun l hl=>(h.each l hl).1) d (hps.mem_iff.1 hd)) (by rw[hps.length_eq];omega),za,docs_same hps hle (sortD_le _)]
   .dsimp only
    have hm:=zr hn
    obtain⟨od,h1,h2⟩:=h.each _ hm
    rw[zb (by omega:(n:Int)<x.2.length),zg,idx_at hn,za,liveOk_spec N h.big hN x.1 h.oc x.2[n] od h1 h2,za,zf (fits_nat (n:=n) (by omega)),cast_succ']
    cases okLive x.1 x.2[n]<;>rfl
   .cases x.2.all (okLive x.1)<;>rfl
  .rw [zd h5,zb (by omega:(5:Int)<x.2.length)]
   rfl
abbrev docsX (x:EIndex):List EDoc:=sortD (allD x.2)
theorem allAlive_ok {N:Nat} {x:EIndex} (h:FitI N x) (hk:okIdx x=true):i_allAlive_m N x.2=some (docsX x):=by
 have hM:1048576<N:=h.big
 obtain⟨k1,k2,k3,k4⟩:=okIdx_ok hk
 have hp:=pieces_of k2 k3
 obtain⟨R,hR,hperm,hle⟩:=allAlive_def N hM h.top x.2 hp
 have hps:=hperm.trans (sortD_perm (allD x.2)).symm
 rw[hR,docs_to hps hle (sortD_le _) (by rw[docs_same hps hle (sortD_le _)];exact k4)]
theorem docsX_spec {N:Nat} {x:EIndex} (h:FitI N x) (hk:okIdx x=true):s_l18Docs_m N x.1.1 x.1.2 x.2=some (docsX x):=by
 obtain⟨k1,k2,k3,k4⟩:=okIdx_ok hk
 exact docs_spec N h.big h.top x.1 x.2 (pieces_of k2 k3)
abbrev segX (x:EIndex):ESeg:=(docsX x,entriesS x.1 (docsX x))
theorem segX_ok {x:EIndex} (hk:okIdx x=true):okSeg x.1 (segX x)=true:=by
 obtain⟨k1,k2,k3,k4⟩:=okIdx_ok hk
 unfold okSeg
 rw[k1,k4,zb rfl]
 rfl
theorem segX_i {N:Nat} {x:EIndex} (h:FitI N x) (hk:okIdx x=true):i_SegOf_m N x.1.1 x.1.2 (docsX x)=some (segX x):=by
 obtain⟨k1,k2,k3,k4⟩:=okIdx_ok hk
 have hl:(docsX x).length<=80:=sort_len (pieces_of k2 k3)
 rw[segOf_spec N h.big h.top x.1 h.oc (docsX x) (sort_docs fun l hl=>(h.each l hl).1) (by omega),k1,k4]
 rfl
theorem segX_s {N:Nat} {x:EIndex} (h:FitI N x) (hk:okIdx x=true):s_l7Of_m N x.1.1 x.1.2 (docsX x)=some (segX x):=by
 obtain⟨k1,k2,k3,k4⟩:=okIdx_ok hk
 exact l7Of_spec N x.1 k1 (okDocs_ok k4) h.big
theorem FitI.fit {N:Nat} {x:EIndex} (h:FitI N x) (hk:okIdx x=true) {q:DQ} (hq:BQ 4 q):Fit N x.1 (segX x) q:=by
 obtain⟨k1,k2,k3,k4⟩:=okIdx_ok hk
 have hl:(docsX x).length<=80:=sort_len (pieces_of k2 k3)
 exact⟨h.big,h.top,h.oc,sort_docs fun l hl=>(h.each l hl).1,by show(docsX x).length<=_;omega,hq⟩
def idxTop (N:Nat) (x:EIndex) (q:DQ) (most:Int):List EHit:=bif okIdx x&&(okQ 4 q&&inM most)then topRR N x.1 (segX x) q allP most else []
theorem indexTop_i {N:Nat} {x:EIndex} (h:FitI N x) {q:DQ} (hq:BQ 4 q) (most:Int):i_IndexTop_m N x.1.1 x.1.2 x.2 q.kind q.field q.words q.lo q.hi q.kids most=some (idxTop N x q most):=by
 have hM:1048576<N:=h.big
 have hN:=h.top
 unfold i_IndexTop_m idxTop
 rw[indexOk_spec h,za]
 cases hk:okIdx x with
 |false=>rfl
 |true=>
  rw[zn,ze,queryOk_i N h.big (by omega) q hq,za,zaj]
  cases hqk:okQ 4 q with
  |false=>rfl
  |true=>
   rw[zn,ze,within_spec,za,zaj,show(decide (1<=most)&&decide (most<=16))=inM most from rfl]
   cases hm:inM most with
   |false=>rfl
   |true=>
    rw[zn,ze,allAlive_ok h hk,za,segX_i h hk,za,topOf_i (h.fit hk hq) most,za]
    rfl
theorem hits_ok {N:Nat} {c:EConf} {s:ESeg} {q:DQ} (h:Fit N c s q) (P:EHit->Bool):∀x,x∈hitsR N c s q P->okD Sm THit x:=by
 intro x hx
 unfold hitsR at hx
 cases hs:okSeg c s with
 |false=>rw[hs]at hx;cases hx
 |true=>
  cases hq:okQ 4 q with
  |false=>rw[hs,hq]at hx;cases hx
  |true=>
   rw[hs,hq]at hx
   obtain⟨d,hd,rfl,h0,_⟩:=hitsP_mem (V:=fun d=>valS N N c s d q) hx
   have g:=h.good hs
   have hb:=score_both N g d (docOf_self g.dok.inn.ids d hd) q hq
   have h1:=hb.low
   have h2:=hb.top
   refine⟨(h.od d hd).1,?_⟩
   show IntKind.i64.min<=_/\_<=IntKind.i64.max
   have h4:IntKind.i64.min=-9223372036854775808:=rfl
   have h5:IntKind.i64.max=9223372036854775807:=rfl
   rw[h4,h5]
   dsimp only
   omega
theorem topR_ok {N:Nat} {c:EConf} {s:ESeg} {q:DQ} (h:Fit N c s q) (P:EHit->Bool) (most:Nat):(topR N c s q P most).length<=16/\okD Sm (.sl THit) (topR N c s q P most):=by
 unfold topR
 have hl:=hitsR_len N c s q P
 have hsl:(sortH (hitsR N c s q P)).length<=16:=by
  rw[show sortH _=List.foldl insH [] _ from rfl,sortH_len]
  simp only[zac]
  omega
 have hlt:((sortH (hitsR N c s q P)).take most).length<=16:=by rw[zah];omega
 refine⟨hlt,⟨zau hlt (by decide),fun x hx=>?_⟩⟩
 exact hits_ok h P x (((sortH_ok (hitsR_dist N c s q P)).2 x).1 (zaP hx))
theorem topRR_ok {N:Nat} {c:EConf} {s:ESeg} {q:DQ} (h:Fit N c s q) (P:EHit->Bool) (most:Int):(topRR N c s q P most).length<=16/\okD Sm (.sl THit) (topRR N c s q P most):=by
 unfold topRR
 cases inM most
 .exact ⟨zaf _,⟨zaf _,fun x hx=>by cases hx⟩⟩
 .exact topR_ok h P _
abbrev TLive :Tp:=.pair TSeg (.sl (.int .i64))
abbrev TIndex :Tp:=.pair TConf (.sl TLive)
theorem szLive_spec (N:Nat) (hM:Sm<N) (x:ELive) (left:Int) (h0:0<=left) (h1:left<=1048576) (ha:okD BigN TLive x):SzP (tot TLive x) left (l_szLive_m N x.1.1 x.1.2 x.2 left) (okD Sm TLive x):=by
 unfold l_szLive_m
 exact(SzP.then2 h1 (szSeg_spec N hM x.1 _ h0 h1 ha.1) (fun _ r0 s0=>SzP.then2 s0 (szIntS_spec N hM x.2 _ r0 s0 ha.2) (fun _ r1 s1=>SzP.ret r1))).imp (by simp only[tot];omega) fun q=>⟨q.1,q.2.1⟩
theorem szLiveS_spec (N:Nat) (hM:Sm<N) (a:List ELive) (left:Int) (h0:0<=left) (h1:left<=1048576) (ha:okD BigN (.sl TLive) a):SzP (tot (.sl TLive) a) left (l_szLiveS_m N a left) (okD Sm (.sl TLive) a):=
 szLoop_spec (fun(e:ELive) l=>l_szLive_m N e.1.1 e.1.2 e.2 l) N hM (okD Sm TLive) (tot TLive) a left ha.1 h0 h1 fun x hx l hl0 hl1=>szLive_spec N hM x l hl0 hl1 (ha.2 x hx)
theorem szIndex_spec (N:Nat) (hM:Sm<N) (x:EIndex) (left:Int) (h0:0<=left) (h1:left<=1048576) (ha:okD BigN TIndex x):SzP (tot TIndex x) left (l_szIndex_m N x.1.1 x.1.2 x.2 left) (okD Sm TIndex x):=by
 unfold l_szIndex_m
 exact(SzP.then2 h1 (szConf_spec N hM x.1 _ h0 h1 ha.1) (fun _ r0 s0=>SzP.then2 s0 (szLiveS_spec N hM x.2 _ r0 s0 ha.2) (fun _ r1 s1=>SzP.ret r1))).imp (by simp only[tot];omega) fun q=>⟨q.1,q.2.1⟩
theorem toLiveS_spec (N:Nat) (hM:Sm<N) (hN:N<=1099511627776) (a:List ELive) (h:okD Sm (.sl TLive) a):l_toLiveS_m N a=some a:=
 toLoop2_spec (fun(e:ELive)=>l_toLive_m N e.1.1 e.1.2 e.2) (fun r=>((r.1,r.2.1),r.2.2)) _ 72 N a (zal h.1 hM) hN (by have:List.length a<=1048576:=h.1;omega)
  (fun x hm=>⟨(x.1.1,x.1.2,x.2),by
   show l_toLive_m N _ _ _=_
   unfold l_toLive_m
   rw[toSeg_spec N hM hN x.1 (h.2 x hm).1,za,toIntS_spec N hM hN x.2 (h.2 x hm).2,za],rfl⟩)
theorem toIndex_spec (N:Nat) (hM:Sm<N) (hN:N<=1099511627776) (x:EIndex) (h:okD Sm TIndex x):l_toIndex_m N x.1.1 x.1.2 x.2=some (x.1.1,x.1.2,x.2):=by
 unfold l_toIndex_m
 rw[toConf_spec N hM hN x.1 h.1,za,toLiveS_spec N hM hN x.2 h.2,za]
theorem eqLiveS_self (N:Nat) (hM:Sm<N) (hN:N<=1099511627776) (a:List ELive) (h:okD Sm (.sl TLive) a):l_eqLiveS_m N a a=some true:=
 eqLoop_self (fun(e e2:ELive)=>l_eqLive_m N e.1.1 e.1.2 e.2 e2.1.1 e2.1.2 e2.2) N a (zal h.1 hM) hN
  (fun x hm=>by
   show l_eqLive_m N _ _ _ _ _ _=_
   unfold l_eqLive_m
   rw[eqSeg_spec N hM hN x.1 x.1 (h.2 x hm).1,za,zb rfl,zn,ze,eqIntS_spec N hM hN x.2 x.2 (h.2 x hm).2,za,zb rfl,zn,ze])
theorem eqIndex_self (N:Nat) (hM:Sm<N) (hN:N<=1099511627776) (x:EIndex) (h:okD Sm TIndex x):l_eqIndex_m N x.1.1 x.1.2 x.2 x.1.1 x.1.2 x.2=some true:=by
 unfold l_eqIndex_m
 rw[eqConf_spec N hM hN x.1 x.1 h.1,za,zb rfl,zn,ze,eqLiveS_self N hM hN x.2 h.2,za,zn,ze]
def cLive (l:ELive):Nat:=mcnt cDoc l.1.1+mcnt cEntry l.1.2+mcnt cInt l.2
theorem mark_lives (N:Nat) (hM:Sm<N) (hN:N<=1099511627776) (l:List ELive) (k:Int) (h:okD Sm (.sl TLive) l) (hk0:0<=k) (hk:k+(mcnt cLive l:Nat)<=100000000000):Def (l_markLiveS_m N l k) fun r=>k<=r.1/\r.1<=k+(mcnt cLive l:Nat):=by
 have hM':1048576<N:=hM
 have hl:l.length<=1048576:=h.1
 unfold l_markLiveS_m
 refine Def.upto l.length (fun n g=>∃(a2:List ELive) (k2:Int),a2.length=l.length/\a2.drop n=l.drop n/\k<=k2/\k2<=k+(mcnt cLive (l.take n):Nat)/\g=(a2,k2,(n:Int))) ?_ ?_ N 0 _ (zaf _) ⟨l,k,rfl,rfl,zbD _,by simp only[zbJ,mcnt];omega,rfl⟩ (by omega)
 .rintro go _ ⟨a2,k2,e1,e2,h1,h2,rfl⟩
  dsimp only
  rw[e1,zd (zm _),ze]
  rw[zq]at h2
  exact Def.ret ⟨h1,h2⟩
 .rintro go n _ hn ⟨a2,k2,e1,e2,h1,h2,rfl⟩ hgo
  dsimp only
  have hn2:n<a2.length:=by omega
  have hcond:0<=(n:Int)/\(n:Int)<a2.length:=by omega
  rw[zan hn2,zan hn,List.cons.injEq]at e2
  obtain⟨e3,e4⟩:=e2
  have hget:a2[n]? =some l[n]:=by rw[zc hn2,e3]
  have hmc:=mcnt_take cLive l n hn
  have hmle:=mcnt_take_le cLive l (n+1)
  have ho:=h.2 _ (zr hn)
  have hc:cLive l[n]=mcnt cDoc l[n].1.1+mcnt cEntry l[n].1.2+mcnt cInt l[n].2:=rfl
  rw[zb (by omega:(n:Int)<a2.length),zg]
  simp only[zai,zf hcond,hget,za]
  rw[markDocS_spec N hM hN _ _ (by omega) (by omega) ho.1.1,za]
  dsimp only
  rw[markEntryS_spec N hM hN _ _ (by omega) (by omega) ho.1.2,za]
  dsimp only
  rw[markIntS_spec N hM hN _ _ (by omega) (by omega) ho.2,za,zf (fits_nat (n:=n) (by omega))]
  refine hgo _ ⟨_,_,?_,?_,?_,?_,by rw[cast_succ']⟩
  .simp only [zaC]
   exact e1
  .rw [<-e4]
   apply zbc
   intro i
   have hne:¬n=n+1+i:=by omega
   simp only[zaL,zbT,zu hne]
   cases a2[n+1+i]? <;>rfl
  .dsimp only;omega
  .dsimp only;omega
theorem cLive_le (x:ELive):cLive x<=8*(tot TLive x+1):=by
 have h1:=mcntDoc_le x.1.1
 have h2:=mcntEntry_le x.1.2
 have h3:=mcntInt_le x.2
 unfold cLive
 show _<=8*((tot (.sl (.int .i64)) x.2+(tot (.sl TEntry) x.1.2+tot (.sl TDoc) x.1.1))+1)
 omega
theorem mcntLive_le (xs:List ELive):mcnt cLive xs<=8*tot (.sl TLive) xs:=mcnt_le8 (t:=TLive) cLive (fun x=>cLive_le x) xs
theorem mark_query (N:Nat) (hM:Sm<N) (hN:N<=1099511627776) (q:DQ) (hq:GQ N q) (k:Int) (hk0:0<=k) (hk:k+4*(tQ N q:Nat)<=1000000000000):Def (l_markQuery_m N q.kind q.field q.words q.lo q.hi q.kids k) fun r=>0<=r.1:=by
 have hM':1048576<N:=hM
 obtain⟨n,rfl⟩:∃n,N=n+1:=⟨N-1,by omega⟩
 obtain⟨g1,g2,g3,g4,g5⟩:=hq
 have ht:tQ (n+1) q=q.words.length+(mcnt (tQ n) q.kids+q.kids.length):=rfl
 have hst:=mcnt_str q.words
 unfold l_markQuery_m
 rw[markStringS_spec (n+1) hM hN q.words k hk0 (by omega) ⟨g2,fun x hx=>g3 x hx⟩,za]
 refine Def.bind (mark_queries (n+1) hM hN n (n+1) (by omega) q.kids _ g4 g5 (by omega) (by omega)) fun r hr=>?_
 exact Def.ret (by show 0<=r.1;omega)
theorem fitI_of {N:Nat} (hM:Sm<N) (hN:N<=16777216) {x:EIndex} (h:okD Sm TIndex x):FitI N x:=
 ⟨hM,hN,h.1,h.2.1,fun l hl=>⟨(h.2.2 l hl).1.1.2,(h.2.2 l hl).1.1.1,(h.2.2 l hl).2.1⟩⟩
abbrev EQuery :Type:=Int×List UInt8×List (List UInt8)×Int×Int×List DQ
abbrev TQuery :Tp:=.pair (.int .i64) (.pair .str (.pair (.sl .str) (.pair (.int .i64) (.pair (.int .i64) (.sl .q)))))
def qOf (x:EQuery):DQ:=.mk x.1 x.2.1 x.2.2.1 x.2.2.2.1 x.2.2.2.2.1 x.2.2.2.2.2
theorem qOf_ok {x:EQuery} (h:okD BigN TQuery x):OkQ BigN (qOf x):=OkQ.mk h.1 h.2.1 h.2.2.1.1 h.2.2.1.2 h.2.2.2.1 h.2.2.2.2.1 h.2.2.2.2.2.1 h.2.2.2.2.2.2
structure FitC (N:Nat) (c:EConf):Prop where
 big:1048576<N
 a:c.1.length<=1048576
 b:c.2.length<=1048576
 e:∀y,y∈c.2->y.1.length<=1048576
structure FitL (l:ELive):Prop where
 dok:DOk l.1.1
 small:Small 7680 l.1.2
 dead:l.2.length<=1000
structure FitP (N:Nat) (c:EConf) (ls:List ELive):Prop where
 big:1048576<N
 top:N<=16777216
 few:ls.length<=5
 good:∀l,l∈ls->GoodS N c l.1
 up:∀l,l∈ls->upL l.2
 dead:∀l,l∈ls->l.2.length<=200
end Go.Proofs.YtabhgjdikeipdaaGreatDoor
