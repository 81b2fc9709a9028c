
import Derived.Test.YtnkagklajgimlaaGreatDoorSA1
set_option linter.unusedVariables false
set_option linter.unusedSimpArgs false
namespace Go.Proofs.YtnkagklajgimlaaGreatDoor
open Go.RowKit
abbrev gW :=List UInt8×List UInt8
abbrev fZ :=gW×Int×Int
def di (e:cQ):gW:=(e.1,e.2.1)
def hs (ps:List EPost) (id at':Int):List EPost:=match ps.getLast? with
 |some p=>if p.1=id then ps.dropLast++ [(p.1,p.2++ [at'])]else ps++ [(id,[at'])]
 |none=>[(id,[at'])]
def hB (o:fZ):List cQ->List cQ
 | []=>[(o.1.1,o.1.2,hs [] o.2.1 o.2.2)]
 |e::l=>if di e=o.1 then(e.1,e.2.1,hs e.2.2 o.2.1 o.2.2)::l else e::hB o l
theorem Kh (o:fZ):∀es:List cQ,(hB o es).map di=if o.1∈es.map di then es.map di else es.map di++ [o.1]
 | []=>rfl
 |e::l=>by
  have i:=Kh o l
  unfold hB
  by_cases h:di e=o.1
  .rw [ai h]
   rw[ai (by rw[cw,h];exact cb)]
   rfl
  .rw [aC h,cw,i]
   by_cases c:o.1∈l.map di
   .rw [ai c,ai (by rw[cw];exact ch _ c),cw]
   .rw [aC c,aC (by rw[cw,bn];rintro(g|g);exact h g.symm;exact c g),cw,kp]
theorem Tb (o:fZ):∀es:List cQ,(es.map di).Nodup->∀e,e∈hB o es->(di e≠o.1/\e∈es)\/(di e=o.1/\((∃c,c∈es/\di c=o.1/\e.2.2=hs c.2.2 o.2.1 o.2.2)\/(o.1∉es.map di/\e.2.2=hs [] o.2.1 o.2.2)))
 | [],_,e,he=>by
  unfold hB at he
  rw[du]at he
  subst he
  exact .inr ⟨rfl,.inr ⟨by simp,rfl⟩⟩
 |d::l,p,e,he=>by
  rw[cw,n2]at p
  unfold hB at he
  by_cases h:di d=o.1
  .rw [ai h]at he
   rcases bn.1 he with rfl|he
   .exact .inr ⟨h,.inl ⟨d,cb,h,rfl⟩⟩
   .refine .inl ⟨fun s=>p.1 (by rw[h,<-s];exact List.mem_map_of_mem he),ch _ he⟩
  .rw [aC h]at he
   rcases bn.1 he with rfl|he
   .exact .inl ⟨h,cb⟩
   .rcases Tb o l p.2 e he with⟨j,g⟩|⟨j,⟨c,g,r,i⟩|⟨g,r⟩⟩
    .exact .inl ⟨j,ch _ g⟩
    .exact .inr ⟨j,.inl ⟨c,ch _ g,r,i⟩⟩
    .exact .inr ⟨j,.inr ⟨by rw[cw,bn];rintro(i|i);exact h i.symm;exact g i,r⟩⟩
def rA (k:gW) (dW:List fZ):List EPost:=(dW.filter fun o=>decide (o.1=k)).foldl (fun ps o=>hs ps o.2.1 o.2.2) []
def nH (dW:List fZ):List cQ:=dW.foldl (fun es o=>hB o es) []
theorem akk (dW:List fZ) (o:fZ):nH (dW++ [o])=hB o (nH dW):=by unfold nH;rw[hW];rfl
theorem apo (k:gW) (dW:List fZ) (o:fZ):rA k (dW++ [o])=if o.1=k then hs (rA k dW) o.2.1 o.2.2 else rA k dW:=by
 unfold rA
 rw[jP,hW]
 by_cases h:o.1=k
 .rw [ai h];simp[h]
 .rw [aC h];simp[h]
structure Canon (es:List cQ) (dW:List fZ):Prop where
 nodup:(es.map di).Nodup
 keys:∀k,k∈es.map di↔∃o,o∈dW/\o.1=k
 Ke:∀e,e∈es->e.2.2=rA (di e) dW
theorem apm {k:gW} {dW:List fZ} (h:¬∃o,o∈dW/\o.1=k):rA k dW=[]:=by
 unfold rA
 have:(dW.filter fun o=>decide (o.1=k))=[]:=by
  rw[List.filter_eq_nil_iff]
  intro o c g
  exact h ⟨o,c,of_decide_eq_true g⟩
 rw[this];rfl
theorem apu {es:List cQ} {dW:List fZ} (c:Canon es dW) (o:fZ):Canon (hB o es) (dW++ [o]):=by
 refine⟨?_,fun k=>?_,fun e he=>?_⟩
 .rw [Kh]
  split
  .exact c.nodup
  .rename_i h
   exact List.nodup_append.2 ⟨c.nodup,by simp,fun a u b t=>by rw[du]at t;subst t;exact fun e=>h (e▸u)⟩
 .rw [Kh]
  constructor
  .intro j
   have:k∈es.map di\/k=o.1:=by
    split at j
    .exact .inl j
    .rcases cE.1 j with h|h
     .exact .inl h
     .exact .inr (du.1 h)
   rcases this with h|h
   .obtain ⟨p,g,r⟩:=(c.keys k).1 h
    exact⟨p,fc _ g,r⟩
   .exact ⟨o,by simp,h.symm⟩
  .rintro ⟨p,g,rfl⟩
   rcases cE.1 g with g|g
   .have:=(c.keys p.1).2 ⟨p,g,rfl⟩
    split
    .exact this
    .exact fc _ this
   .rw [du]at g
    subst g
    split
    .assumption
    .simp
 .rw [apo]
  rcases Tb o es c.nodup e he with⟨i,l⟩|⟨i,⟨v,l,s,x⟩|⟨l,s⟩⟩
  .rw [aC (Ne.symm i)];exact c.Ke e l
  .rw [ai i.symm,x,c.Ke v l,s,i]
  .rw [ai i.symm,s,i,apm (fun j=>l ((c.keys _).2 j))]
theorem W0 :Canon [] []:=⟨by simp,fun k=>by simp,fun e he=>by cases he⟩
theorem Kg (dW:List fZ):Canon (nH dW) dW:=by
 have key:∀(l:List fZ) (es:List cQ) (c:List fZ),Canon es c->Canon (l.foldl (fun es o=>hB o es) es) (c++l):=by
  intro l
  induction l with
  |nil=>intro es c h;simpa using h
  |cons o l g=>
   intro es c h
   have:=g (hB o es) (c++ [o]) (apu h o)
   rw[e5]at this
   exact this
 have:=key dW [] [] W0
 rw[fE]at this
 exact this
def hh (a b:gW):Bool:=Op.bytesLess a.1 b.1||(decide (a.1=b.1)&&Op.bytesLess a.2 b.2)
theorem ui (x:List UInt8):Op.bytesLess x x=false:=by
 have:=oe x x
 cases h:Op.bytesLess x x with
 |false=>rfl
 |true=>rw[h]at this;cases this
theorem LC {x y:List UInt8} (h:Op.bytesLess x y=true):Op.bytesLess y x=false:=by
 have:=oe x y
 rw[h,ly]at this
 cases c:Op.bytesLess y x with
 |false=>rfl
 |true=>rw[c]at this;cases this
theorem wT {x y:List UInt8} (h:Op.bytesLess x y=false) (c:x≠y):Op.bytesLess y x=true:=by
 have:=oe x y
 rw[h,an c]at this
 cases g:Op.bytesLess y x with
 |true=>rfl
 |false=>rw[g]at this;cases this
theorem qD :∀ {x y z:List UInt8},Op.bytesLess x y=true->Op.bytesLess y z=true->Op.bytesLess x z=true
 | [],[],_,h,_=>by simp[Op.bytesLess]at h
 |_::_,[],_,h,_=>by simp[Op.bytesLess]at h
 | [],_::_,[],_,h=>by simp[Op.bytesLess]at h
 | [],_::_,_::_,_,_=>by simp[Op.bytesLess]
 |_::_,_::_,[],_,h=>by simp[Op.bytesLess]at h
 |a::x,b::y,c::z,g,i=>by
  simp only[Op.bytesLess]at g i⊢
  have p:= @qD x y z
  simp only[lu,a6,bo,beq_iff_eq,UInt8.lt_iff_toNat_lt]at g i⊢
  rcases g with g|⟨j,g⟩<;>rcases i with i|⟨l,i⟩
  .exact .inl (by omega)
  .exact .inl (by rw[<-l];exact g)
  .exact .inl (by rw[j];exact i)
  .exact .inr ⟨j.trans l,p g i⟩
theorem Jt (a:gW):hh a a=false:=by unfold hh;rw[ui,ui,rR];rfl
theorem Ju {a b c:gW} (h:hh a b=true) (k:hh b c=true):hh a c=true:=by
 unfold hh at h k⊢
 simp only[lu,a6,bo]at h k⊢
 rcases h with h|⟨g,j⟩<;>rcases k with k|⟨i,l⟩
 .exact .inl (qD h k)
 .exact .inl (by rw[<-i];exact h)
 .exact .inl (by rw[g];exact k)
 .exact .inr ⟨g.trans i,qD j l⟩
theorem zf {α:Type} (lt:α->α->Bool) (hi:∀a,lt a a=false) (s:∀a b c,lt a b=true->lt b c=true->lt a c=true):∀(l m:List α),l.Pairwise (fun a b=>lt a b=true)->m.Pairwise (fun a b=>lt a b=true)->(∀x,x∈l↔x∈m)->l=m
 | [],[],_,_,_=>rfl
 | [],b::m,_,_,h=>by have:=(h b).2 cb;cases this
 |a::l,[],_,_,h=>by have:=(h a).1 cb;cases this
 |a::l,b::m,i,j,h=>by
  rw[en]at i j
  have p:a=b:=by
   rcases bn.1 ((h a).1 cb)with e|e
   .exact e
   .rcases bn.1 ((h b).2 cb)with r|r
    .exact r.symm
    .have:=s a b a (i.1 b r) (j.1 a e)
     rw[hi]at this;cases this
  subst p
  have:l=m:=zf lt hi s l m i.2 j.2 fun x=>by
   constructor
   .intro g
    rcases bn.1 ((h x).1 (ch _ g))with e|e
    .subst e;have:=i.1 x g;rw[hi]at this;cases this
    .exact e
   .intro g
    rcases bn.1 ((h x).2 (ch _ g))with e|e
    .subst e;have:=j.1 x g;rw[hi]at this;cases this
    .exact e
  rw[this]
theorem X2 {A B:List cQ} {P:gW->List EPost} (g:(A.map di).Pairwise fun a b=>hh a b=true) (i:(B.map di).Pairwise fun a b=>hh a b=true) (j:∀k,k∈A.map di↔k∈B.map di) (p:∀e,e∈A->e.2.2=P (di e)) (a7:∀e,e∈B->e.2.2=P (di e)):A=B:=by
 have h:=zf hh Jt (fun a b c=>Ju) _ _ g i j
 have back:∀l:List cQ,(∀e,e∈l->e.2.2=P (di e))->l=(l.map di).map fun k=>(k.1,k.2,P k):=fun l r=>by
  rw[mb]
  conv=>lhs;rw[<-List.map_id l]
  refine l8 fun e he=>?_
  show e=(e.1,e.2.1,P (di e))
  rw[<-r e he]
 rw[back A p,back B a7,h]
def ez (c:List eo) (name:List UInt8):List UInt8:=match c with
 | []=>[]
 |f::l=>if f.1=name then f.2 else ez l name
theorem KS (c:aK):dk c []=[]:=by unfold dk plain words;rw[nW];exact wa _
def kg (c:aK) (id:Int) (g:List eo):List fZ:=g.flatMap fun f=>(dk c f.2).map fun t=>((f.1,t.1),id,t.2)
def dW (c:aK) (ad:List aF):List fZ:=ad.flatMap fun d=>kg c d.1 d.2.1
def b5 (c:aK) (d:aF) (k:gW):List Int:=((dk c (ez d.2.1 k.1)).filter fun t=>decide (t.1=k.2)).map (·.2)
theorem Sx (c:aK) (id:Int) (k:gW):∀g:List eo,k.1∉g.map (·.1)->(kg c id g).filter (fun o=>decide (o.1=k))=[]
 | [],_=>rfl
 |f::l,h=>by
  rw[cw,bn]at h
  unfold kg
  rw[lA,jP]
  have i:((dk c f.2).map fun t=>(((f.1,t.1),id,t.2):fZ)).filter (fun o=>decide (o.1=k))=[]:=by
   rw[List.filter_eq_nil_iff]
   intro o j p
   obtain⟨t,_,rfl⟩:=cg.1 j
   have:=of_decide_eq_true p
   exact h (.inl (by rw[<-this]))
  rw[i,fE]
  exact Sx c id k l fun r=>h (.inr r)
theorem Gi (name:List UInt8):∀c:List eo,name∉c.map (·.1)->ez c name=[]
 | [],_=>rfl
 |f::l,h=>by
  rw[cw,bn]at h
  unfold ez
  rw[aC (fun e=>h (.inl e.symm))]
  exact Gi name l fun g=>h (.inr g)
theorem Ao :∀(h:List eo),(h.map (·.1)).Nodup->∀f,f∈h->ez h f.1=f.2
 | [],_,f,c=>by cases c
 |g::l,i,f,c=>by
  rw[cw,n2]at i
  unfold ez
  rcases bn.1 c with rfl|c
  .rw [ai rfl]
  .rw [aC (fun e=>i.1 (by rw[e];exact List.mem_map_of_mem c))]
   exact Ao l i.2 f c
theorem Sw (c:aK) (id:Int) (k:gW):∀g:List eo,(g.map (·.1)).Nodup->(kg c id g).filter (fun o=>decide (o.1=k))=(((dk c (ez g k.1)).filter fun t=>decide (t.1=k.2)).map (·.2)).map fun a=>(k,id,a)
 | [],_=>by unfold ez kg;rw[KS];rfl
 |f::l,i=>by
  rw[cw,n2]at i
  by_cases e:f.1=k.1
  .have p:=Sx c id k l (by rw[<-e];exact i.1)
   unfold ez
   rw[ai e]
   unfold kg at p⊢
   rw[lA,jP,p,fe]
   generalize dk c f.2=r
   induction r with
   |nil=>rfl
   |cons t r j=>
    rw[cw,iY,iY,j]
    have:(decide (((f.1,t.1):gW)=k))=decide (t.1=k.2):=by
     rw[decide_eq_decide]
     constructor
     .intro h;rw[<-h]
     .intro h;rw[Prod.ext_iff];exact⟨e,h⟩
    rw[this]
    by_cases h:t.1=k.2
    .rw [ai (aq h),ai (aq h),cw,cw]
     congr 1
     rw[show((f.1,t.1):gW)=k from Prod.ext e h]
    .rw [aC (by simp[h]),aC (by simp[h])]
  .have j:=Sw c id k l i.2
   unfold ez
   rw[aC e,<-j]
   unfold kg
   rw[lA,jP]
   have s:((dk c f.2).map fun t=>(((f.1,t.1),id,t.2):fZ)).filter (fun o=>decide (o.1=k))=[]:=by
    rw[List.filter_eq_nil_iff]
    intro o u v
    obtain⟨t,_,rfl⟩:=cg.1 u
    have:=of_decide_eq_true v
    exact e (by rw[<-this])
   rw[s,fE]
theorem Wh (acc:List EPost) (id a:Int) (B:List Int):hs (acc++ [(id,B)]) id a=acc++ [(id,B++ [a])]:=by
 unfold hs
 rw[List.getLast?_concat]
 dsimp only
 rw[ai rfl,List.dropLast_concat]
theorem Ll (acc:List EPost) (id:Int):∀(A B:List Int),A.foldl (fun ps a=>hs ps id a) (acc++ [(id,B)])=acc++ [(id,B++A)]
 | [],B=>by simp
 |a::A,B=>by rw[eZ,Wh,Ll acc id A];simp
theorem Wi (acc:List EPost) (id:Int) (A:List Int) (h:∀p,acc.getLast? =some p->p.1≠id):A.foldl (fun ps a=>hs ps id a) acc=if A=[]then acc else acc++ [(id,A)]:=by
 cases A with
 |nil=>rfl
 |cons a A=>
  rw[aC (by simp),eZ]
  have:hs acc id a=acc++ [(id,[a])]:=by
   unfold hs
   cases c:acc.getLast? with
   |none=>rw[List.getLast?_eq_none_iff.1 c];rfl
   |some p=>dsimp only;rw[aC (h p c)]
  rw[this,Ll]
  rfl
def ef (c:aK) (ad:List aF) (k:gW):List EPost:=ad.filterMap fun d=>if b5 c d k=[]then none else some (d.1,b5 c d k)
structure tW (ad:List aF):Prop where
 ids:ad.Pairwise fun a b=>a.1<b.1
 names:∀d,d∈ad->(d.2.1.map (·.1)).Nodup
theorem apn (c:aK) (k:gW) {ad:List aF} (r:tW ad):rA k (dW c ad)=ef c ad k:=by
 have key:∀(ad:List aF) (acc:List EPost),tW ad->(∀p,p∈acc->∀d,d∈ad->p.1<d.1)->((dW c ad).filter fun o=>decide (o.1=k)).foldl (fun ps o=>hs ps o.2.1 o.2.2) acc=acc++ef c ad k:=by
  intro ad
  induction ad with
  |nil=>intro acc _ _;simp[dW,ef]
  |cons d l u=>
   intro acc r h
   have i:=en.1 r.ids
   unfold dW
   rw[lA,jP,hW,Sw c d.1 k d.2.1 (r.names d cb),List.foldl_map]
   have y:(((dk c (ez d.2.1 k.1)).filter fun t=>decide (t.1=k.2)).map (·.2)).foldl (fun ps a=>hs ps d.1 a) acc=if b5 c d k=[]then acc else acc++ [(d.1,b5 c d k)]:=Wi acc d.1 _ fun p g=>by
    have:=h p (List.mem_of_getLast? g) d cb
    omega
   rw[y]
   have v:tW l:=⟨i.2,fun x j=>r.names x (ch _ j)⟩
   unfold ef
   rw[tK]
   by_cases s:b5 c d k=[]
   .rw [ai s,ai s]
    exact u acc v fun p g x j=>h p g x (ch _ j)
   .rw [aC s,aC s]
    have:=u (acc++ [(d.1,b5 c d k)]) v fun p g x j=>by
     rcases cE.1 g with g|g
     .exact h p g x (ch _ j)
     .rw [du]at g;subst g;exact i.1 x j
    rw[e5]at this
    exact this
 have:=key ad [] r (fun p g=>by cases g)
 rw[fE]at this
 exact this
def gj (l:List (List UInt8)) (s:List UInt8):List (List UInt8):=match l with
 | []=>[s]
 |x::r=>if Op.bytesLess x s=true then x::gj r s else if x=s then x::r else s::x::r
abbrev mm (l:List (List UInt8)):Prop:=l.Pairwise fun a b=>Op.bytesLess a b=true
theorem Kk (s x:List UInt8):∀l,x∈gj l s↔x=s\/x∈l
 | []=>by simp[gj]
 |y::r=>by
  unfold gj
  have c:=Kk s x r
  split
  .rw [bn,c,bn];constructor<;>rintro(h|h|h)<;>simp_all
  .split
   .rename_i e;subst e;simp
   .simp
theorem Ti (s:List UInt8):∀l,mm l->mm (gj l s)
 | [],_=>by simp[gj,mm]
 |y::r,h=>by
  rw[mm,en]at h
  unfold gj
  split
  .rename_i hy
   rw[mm,en]
   refine⟨fun z c=>?_,Ti s r h.2⟩
   rcases(Kk s z r).1 c with rfl|c
   .exact hy
   .exact h.1 z c
  .split
   .rw [mm,en];exact h
   .rename_i i j
    have g:Op.bytesLess s y=true:=wT (by simpa using i) j
    rw[mm,en,en]
    refine⟨fun z c=>?_,h⟩
    rcases bn.1 c with rfl|c
    .exact g
    .exact qD g (h.1 z c)
theorem DS {α:Type} (f:α->List UInt8) (x:List UInt8):∀(l:List α) (acc:List (List UInt8)),x∈l.foldl (fun a y=>gj a (f y)) acc↔x∈acc\/ ∃y,y∈l/\f y=x
 | [],acc=>by simp
 |y::l,acc=>by
  rw[eZ,DS f x l,Kk]
  constructor
  .rintro ((h|h)|⟨z,c,e⟩)
   .exact .inr ⟨y,cb,h.symm⟩
   .exact .inl h
   .exact .inr ⟨z,ch _ c,e⟩
  .rintro (h|⟨z,c,e⟩)
   .exact .inl (.inr h)
   .rcases bn.1 c with rfl|c
    .exact .inl (.inl e.symm)
    .exact .inr ⟨z,c,e⟩
theorem Km {α:Type} (f:α->List UInt8):∀(l:List α) (acc:List (List UInt8)),mm acc->mm (l.foldl (fun a y=>gj a (f y)) acc)
 | [],_,h=>h
 |y::l,acc,h=>Km f l _ (Ti _ _ h)
def eA (ad:List aF):List (List UInt8):=(ad.flatMap fun d=>d.2.1).foldl (fun a f=>gj a f.1) []
def fW (c:aK) (ad:List aF) (f:List UInt8):List (List UInt8):=(ad.flatMap fun d=>dk c (ez d.2.1 f)).foldl (fun a t=>gj a t.1) []
def eu (c:aK) (ad:List aF):List cQ:=(eA ad).flatMap fun f=>(fW c ad f).map fun t=>(f,t,ef c ad (f,t))
theorem Mm (c:aK) (ad:List aF):(eu c ad).map di=(eA ad).flatMap fun f=>(fW c ad f).map fun t=>(f,t):=by
 unfold eu
 rw[List.map_flatMap]
 congr 1
 funext f
 rw[mb]
 rfl
theorem Mn (c:aK) (ad:List aF):((eu c ad).map di).Pairwise fun a b=>hh a b=true:=by
 rw[Mm]
 have i:mm (eA ad):=Km _ _ _ l9
 generalize eA ad=p at i
 induction p with
 |nil=>exact l9
 |cons f l r=>
  rw[mm,en]at i
  rw[lA,List.pairwise_append]
  refine⟨?_,r i.2,fun a s b j=>?_⟩
  .have v:mm (fW c ad f):=Km _ _ _ l9
   refine qk.2 (v.imp fun h=>?_)
   unfold hh
   simp[h]
  .obtain ⟨t,_,rfl⟩:=cg.1 s
   obtain⟨g,x,j⟩:=js.1 j
   obtain⟨u,_,rfl⟩:=cg.1 j
   unfold hh
   simp[i.1 g x]
theorem F6 (c:aK) {ad:List aF} (r:tW ad) (k:gW):k∈(eu c ad).map di↔∃o,o∈dW c ad/\o.1=k:=by
 rw[Mm]
 constructor
 .intro h
  obtain⟨f,u,h⟩:=js.1 h
  obtain⟨t,p,rfl⟩:=cg.1 h
  unfold fW at p
  rcases(DS _ _ _ _).1 p with h|⟨y,hy,rfl⟩
  .cases h
  .obtain ⟨d,i,hy⟩:=js.1 hy
   by_cases s:f∈d.2.1.map (·.1)
   .obtain ⟨g,j,rfl⟩:=cg.1 s
    rw[Ao _ (r.names d i) g j]at hy
    exact⟨((g.1,y.1),d.1,y.2),js.2 ⟨d,i,js.2 ⟨g,j,cg.2 ⟨y,hy,rfl⟩⟩⟩,rfl⟩
   .rw [Gi _ _ s,KS]at hy;cases hy
 .rintro ⟨o,l,rfl⟩
  obtain⟨d,i,l⟩:=js.1 l
  obtain⟨g,j,l⟩:=js.1 l
  obtain⟨t,p,rfl⟩:=cg.1 l
  refine js.2 ⟨g.1,(DS _ _ _ _).2 (.inr ⟨g,js.2 ⟨d,i,j⟩,rfl⟩),cg.2 ⟨t.1,(DS _ _ _ _).2 (.inr ⟨t,js.2 ⟨d,i,?_⟩,rfl⟩),rfl⟩⟩
  rw[Ao _ (r.names d i) g j]
  exact p
theorem Uj (c:aK) {ad:List aF} (g:tW ad) {R:List cQ} (h:R.Perm (nH (dW c ad))) (j:R.Pairwise fun a b=>hh (di a) (di b)=true):R=eu c ad:=by
 have i:=Kg (dW c ad)
 refine X2 (P:=fun k=>ef c ad k) (qk.2 j) (Mn c ad) (fun k=>?_) (fun e he=>?_) (fun e he=>?_)
 .rw [F6 c g,<-i.keys,(h.map di).mem_iff]
 .rw [i.Ke e (h.mem_iff.1 he),apn c _ g]
 .unfold eu at he
  obtain⟨f,_,he⟩:=js.1 he
  obtain⟨t,_,rfl⟩:=cg.1 he
  rfl
structure e0 (ad:List aF):Prop where
 gB:tW ad
 c7:ad.length<=16
 each:∀d,d∈ad->d.2.1.length<=3/\d.2.2.length<=3/\∀f,f∈d.2.1->fI f.2=true/\f.2.length<=160
theorem JW {s:List UInt8} (h:fI s=true):s.length<=160:=by
 unfold fI at h
 simp only[a6,bo]at h
 omega
theorem DI {α:Type} (R:α->α->Prop) (j:∀a b c,R a b->R b c->R a c):∀l:List α,(∀(n:Nat) (h:n+1<l.length),R (l[n]'(by omega)) l[n+1])->l.Pairwise R
 | [],_=>l9
 | [a],_=>by simp
 |a::b::l,h=>by
  have p:=DI R j (b::l) fun n r=>h (n+1) (by simpa using r)
  rw[en]
  refine⟨fun x i=>?_,p⟩
  have g:R a b:=h 0 (by simp)
  rcases bn.1 i with rfl|i
  .exact g
  .exact j a b x g ((en.1 p).1 x i)
theorem nb {len:Nat} {f:Nat->Bool} (h:dL len f=true) {n:Nat} (c:n<len):f n=true:=by
 unfold dL at h
 rw[cz]at h
 exact h n (by simp;omega)
theorem lh {ad:List aF} (h:eR ad=true):e0 ad:=by
 unfold eR at h
 rw[a6,bo]at h
 obtain⟨r,u⟩:=h
 have j:∀d,d∈ad->gF d=true:=fun d l=>by
  obtain⟨n,g,rfl⟩:=eb.1 l
  have:=nb r g
  unfold pZ at this
  rw[a6,<-og g]at this
  exact this.1
 refine⟨⟨?_,fun d l=>?_⟩,by omega,fun d l=>?_⟩
 .refine DI (fun a b:aF=>a.1<b.1) (fun a b c h k=>Int.lt_trans h k) ad fun n g=>?_
  have:=nb r g
  unfold pZ at this
  rw[a6,<-og g,show n+1-1=n from rfl,<-og (by omega:n<ad.length)]at this
  have i:=this.2
  rw[an (by omega),fL,nZ,decide_eq_false_iff_not]at i
  omega
 .have:=j d l
  unfold gF at this
  simp only[a6]at this
  have p:=this.1.2
  have t:(d.2.1).Pairwise fun a b=>Op.bytesLess a.1 b.1=true:=DI (fun a b:eo=>Op.bytesLess a.1 b.1=true) (fun a b c h k=>qD h k) d.2.1 fun n g=>by
   have i:=nb p g
   unfold okF oa at i
   rw[a6,<-pA g,show n+1-1=n from rfl,<-pA (by omega:n<d.2.1.length)]at i
   have s:=i.2
   rw[an (by omega),fL]at s
   exact s
  refine qk.2 (t.imp fun {a b} h e=>?_)
  rw[e,ui]at h;cases h
 .have:=j d l
  unfold gF at this
  simp only[a6,bo]at this
  refine⟨by omega,by omega,fun f p=>?_⟩
  obtain⟨n,g,rfl⟩:=eb.1 p
  have i:=nb this.1.2 g
  unfold okF at i
  rw[a6,a6,<-pA g]at i
  exact⟨i.1.2,JW i.1.2⟩
theorem Yb {c:List eo} (h:∀f,f∈c->f.2.length<=160) (name:List UInt8):(ez c name).length<=160:=by
 induction c with
 |nil=>unfold ez;simp
 |cons f l i=>
  unfold ez
  split
  .exact h f cb
  .exact i fun g j=>h g (ch _ j)
theorem e0.text {ad:List aF} (h:e0 ad) {d:aF} (c:d∈ad) (name:List UInt8):(ez d.2.1 name).length<=160:=Yb (fun f g=>((h.each d c).2.2 f g).2) name
theorem Kl {s:List UInt8}:∀(a b:List (List UInt8)),(∀x,x∈a->Op.bytesLess x s=true)->gj (a++b) s=a++gj b s
 | [],b,_=>rfl
 |x::a,b,h=>by
  rw[kp,gj,ai (h x cb),Kl a b fun y hy=>h y (ch _ hy)]
  rfl
theorem Th (s:List UInt8):∀l,(gj l s).length<=l.length+1
 | []=>by simp[gj]
 |x::r=>by
  unfold gj
  have:=Th s r
  split
  .simp;omega
  .split<;>simp
theorem yO {α:Type} (f:α->List UInt8):∀(l:List α) (acc:List (List UInt8)),(l.foldl (fun a y=>gj a (f y)) acc).length<=acc.length+l.length
 | [],acc=>by simp
 |y::l,acc=>by
  rw[eZ]
  have c:=yO f l (gj acc (f y))
  have g:=Th (f y) acc
  simp only[ba]
  omega
theorem RZ (N:Nat) (l:List (List UInt8)) (s:List UInt8) (A:l.length<=1000000) (B:1048576<N):zb N l s=some (gj l s):=by
 refine Def.get ?_
 unfold zb
 have fin:∀n:Nat,n<=l.length->(∀x,x∈l.take n->Op.bytesLess x s=true)->gj (l.drop n) s=s::l.drop n->Def (Option.bind (cut l 0 (n:Int)) fun y=>if room ([]:List (List UInt8)).length y.length 16 then(if room (([]:List (List UInt8))++y).length ([s]:List (List UInt8)).length 16 then(Option.bind (cut l (n:Int) (l.length:Int)) fun v=>if room ((([]:List (List UInt8))++y)++([s]:List (List UInt8))).length v.length 16 then some (((([]:List (List UInt8))++y)++([s]:List (List UInt8)))++v)else none)else none)else none) (fun r=>r=gj l s):=fun n h c z=>by
  refine Def.cut (by decide) (by omega) (by omega) ?_
  simp only[eg,show(0:Int).toNat=0 from rfl,rP]
  refine Def.ite (bW (by simp;omega) (by simp;omega)) (Def.ite (bW (by simp;omega) (by simp;omega)) (Def.FN h (Def.ite (bW (by simp;omega) (by simp;omega)) (Def.ret ?_))))
  rw[<-ko n l,Kl _ _ c,ko,z]
  simp
 refine Def.upto l.length (fun n g=>g=(l,s,(n:Int))/\∀x,x∈l.take n->Op.bytesLess x s=true) (fun go g p=>?_) (fun go n g h p t=>?_) N 0 _ (bg _) ⟨rfl,by simp⟩ (by omega)
 .obtain ⟨rfl,c⟩:=p
  dsimp only
  rw[an (bm _),aj,aj]
  exact fin l.length (bE _) c (by rw[me];rfl)
 .obtain ⟨rfl,c⟩:=p
  dsimp only
  rw[aq (by omega:(n:Int)<l.length),ao,ao,aP h,ag,ag]
  have u:=eY h
  refine Def.bif (fun i=>?_) (fun i=>?_)
  .refine Def.ite (aO (n:=n) (by omega)) (t _ ⟨by rw[aS],fun x j=>?_⟩)
   rw[dT h,cE,du]at j
   rcases j with j|rfl
   .exact c x j
   .exact i
  .refine Def.bO (fun he=>Def.ret ?_) (fun he=>fin n (by omega) c ?_)
   .rw [<-ko n l,Kl _ _ c,ko,u,gj,aC (by rw[i];decide),ai he,<-u,ko]
   .rw [u,gj,aC (by rw[i];decide),aC he]
theorem RX (N:Nat) (d:Int) (c:List eo) (at':List gz) (name:List UInt8) (i:c.length<=1000000) (j:1048576<N):y9 N d c at' name=some (ez c name):=by
 unfold y9
 refine(dh _ c.length (fun n=>(name,(n:Int),d,c,at')) (fun n=>some (ez (c.drop n) name)) (fun go=>?_) (fun go n h g=>?_) N 0 (bg _) (by omega)).trans rfl
 .dsimp only
  rw[an (bm _),aj,me]
  rfl
 .dsimp only
  simp only[aS]at g
  rw[aq (by omega:(n:Int)<c.length),ao,aP h,ag,ag,ai (aO (n:=n) (by omega)),eY h,ez]
  by_cases e:c[n].1=name
  .rw [aq e,ao,ai e]
  .rw [an e,aj,aC e,g]
def qC (c:List dv) (t:List UInt8):List Int:=(c.filter fun x=>decide (x.1=t)).map (·.2)
theorem anT (N:Nat) (c:aK) (p:dQ c=true) (d:aF) (f t:List UInt8) (r:d.2.1.length<=1000000) (u:(ez d.2.1 f).length<=160) (j:1048576<N):En N c.1 c.2 d.1 d.2.1 d.2.2 f t=some (b5 c d (f,t)):=by
 unfold En
 rw[RX N _ _ _ _ r j,ag,yu N c _ (by omega) j p,ag]
 have hlen:=o9 c (ez d.2.1 f)
 show _=some (qC (dk c (ez d.2.1 f)) t)
 generalize dk c (ez d.2.1 f)=h at hlen
 refine(dh _ h.length (fun n=>(t,qC (h.take n) t,h,(n:Int))) (fun _=>some (qC h t)) (fun go=>?_) (fun go n l g=>?_) N 0 (bg _) (by omega)).trans rfl
 .dsimp only
  rw[an (bm _),aj,cj]
 .dsimp only
  have i:qC (h.take (n+1)) t=qC (h.take n) t++(if h[n].1=t then [h[n].2]else []):=by
   unfold qC
   rw[dT l,jP,ib]
   congr 1
   by_cases e:h[n].1=t
   .rw [ai e];simp[e]
   .rw [aC e];simp[e]
  have s:(qC (h.take n) t).length<=n:=by unfold qC;rw[dE];exact dS (ho _ _) (by simp;omega)
  rw[i]at g
  simp only[aS]at g
  rw[aq (by omega:(n:Int)<h.length),ao,aP l,ag,ag,ai (bW (by simp only[ba,bH];omega) (by simp only[ba,bH];omega)),ai (aO (n:=n) (by omega))]
  by_cases e:h[n].1=t
  .rw [aq e,ao]
   rw[ai e]at g
   exact g
  .rw [an e,aj]
   rw[aC e,fe]at g
   rw[ai (aO (n:=n) (by omega))]
   exact g
theorem anP (N:Nat) (c:aK) (l:dQ c=true) {ad:List aF} (h:e0 ad) (f t:List UInt8) (p:1048576<N):Ek N c.1 c.2 ad f t=some (f,t,ef c ad (f,t)):=by
 unfold Ek
 have s:=h.c7
 refine(dh _ ad.length (fun n=>(ad,f,t,(n:Int),c.1,c.2,([]:List UInt8),([]:List UInt8),f,t,ef c (ad.take n) (f,t))) (fun _=>some (f,t,ef c ad (f,t))) (fun go=>?_) (fun go n i g=>?_) N 0 (bg _) (by omega)).trans rfl
 .dsimp only
  rw[an (bm _),aj,cj]
 .dsimp only
  have hm:=br i
  have he:=h.each _ hm
  have j:ef c (ad.take (n+1)) (f,t)=ef c (ad.take n) (f,t)++(if b5 c ad[n] (f,t)=[]then []else [(ad[n].1,b5 c ad[n] (f,t))]):=by
   unfold ef
   rw[Aq _ _ _ i]
   congr 1
   by_cases e:b5 c ad[n] (f,t)=[]
   .rw [ai e,ai e]
   .rw [aC e,aC e]
  have r:(ef c (ad.take n) (f,t)).length<=n:=dS (tJ _ _) (by simp;omega)
  rw[j]at g
  simp only[aS]at g
  rw[aq (by omega:(n:Int)<ad.length),ao,aP i,ag,anT N c l _ f t (by omega) (h.text hm f) p,ag,ag]
  by_cases e:b5 c ad[n] (f,t)=[]
  .rw [e,an (by simp),aj,ai (aO (n:=n) (by omega))]
   rw[ai e,fe]at g
   exact g
  .rw [aq (by have:=List.length_pos_iff.2 e;omega),ao,ai (bW (by simp only[ba,bH];omega) (by simp only[ba,bH];omega)),ai (aO (n:=n) (by omega))]
   rw[aC e]at g
   exact g
theorem uG {α β:Type} (g:α->List β) (B:Nat):∀l:List α,(∀x,x∈l->(g x).length<=B)->(l.flatMap g).length<=B*l.length
 | [],_=>by simp
 |x::l,h=>by
  have c:=uG g B l fun y hy=>h y (ch _ hy)
  have i:=h x cb
  rw[lA,bh,ba,Nat.mul_succ]
  omega
theorem w9 {α β:Type} (g:α->List β) (l:List α) (n:Nat) (h:n<l.length):(l.take (n+1)).flatMap g=(l.take n).flatMap g++g l[n]:=by
 rw[dT h,wA,lA,List.flatMap_nil,fe]
theorem Sj {α β:Type} (g:α->β) (l:List α) (n:Nat) (h:n<l.length):(l.take (n+1)).map g=(l.take n).map g++ [g l[n]]:=by
 rw[dT h,ib];rfl
theorem Ss {ad:List aF} (g:e0 ad) (n:Nat):(eA (ad.take n)).length<=48:=by
 unfold eA
 have h:=yO (fun f:eo=>f.1) ((ad.take n).flatMap fun d=>d.2.1) []
 have i:=uG (fun d:aF=>d.2.1) 3 (ad.take n) fun d c=>(g.each d (fC c)).1
 have j:(ad.take n).length<=16:=by rw[bN];have:=g.c7;omega
 simp only[bH]at h
 omega
theorem anR (N:Nat) {ad:List aF} (h:e0 ad) (p:1048576<N):Em N ad=some (eA ad):=by
 unfold Em
 have t:=h.c7
 refine(dh _ ad.length (fun n=>(ad,eA (ad.take n),(n:Int))) (fun _=>some (eA ad)) (fun go=>?_) (fun go n g i=>?_) N 0 (bg _) (by omega)).trans rfl
 .dsimp only
  rw[an (bm _),aj,cj]
 .dsimp only
  have hm:=br g
  have he:=(h.each _ hm).1
  rw[aq (by omega:(n:Int)<ad.length),ao,<-i]
  have j:eA (ad.take (n+1))=ad[n].2.1.foldl (fun a f=>gj a f.1) (eA (ad.take n)):=by unfold eA;rw[w9 _ _ _ g,hW]
  refine(dh _ ad[n].2.1.length (fun k=>(ad,(ad[n].2.1.take k).foldl (fun a f=>gj a f.1) (eA (ad.take n)),(n:Int),(k:Int))) (fun _=>go (ad,eA (ad.take (n+1)),((n+1:Nat):Int))) (fun go2=>?_) (fun go2 k l c=>?_) N 0 (bg _) (by omega)).trans rfl
  .dsimp only
   rw[aP g,ag,an (bm _),aj,cj,<-j,ai (aO (n:=n) (by omega)),aS]
  .dsimp only
   have r:=yO (fun f:eo=>f.1) (ad[n].2.1.take k) (eA (ad.take n))
   have s:=Ss h n
   rw[bN]at r
   rw[aP g,ag,aq (by omega:(k:Int)<ad[n].2.1.length),ao,ag,aP l,ag,RZ N _ _ (by omega) p,ag,ai (aO (n:=k) (by omega)),<-c,ou _ _ _ _ l,aS]
theorem KR (c:aK) {ad:List aF} (h:e0 ad) (f:List UInt8) (n:Nat):(fW c (ad.take n) f).length<=2560:=by
 unfold fW
 have i:=yO (fun t:dv=>t.1) ((ad.take n).flatMap fun d=>dk c (ez d.2.1 f)) []
 have j:=uG (fun d:aF=>dk c (ez d.2.1 f)) 160 (ad.take n) fun d g=>dS (o9 c _) (h.text (fC g) f)
 have l:(ad.take n).length<=16:=by rw[bN];have:=h.c7;omega
 simp only[bH]at i
 omega
theorem anU (N:Nat) (c:aK) (v:dQ c=true) {ad:List aF} (j:e0 ad) (f:List UInt8) (l:1048576<N):Eo N c.1 c.2 ad f=some (fW c ad f):=by
 unfold Eo
 have A:=j.c7
 refine(dh _ ad.length (fun n=>(ad,f,fW c (ad.take n) f,(n:Int),c.1,c.2)) (fun _=>some (fW c ad f)) (fun go=>?_) (fun go n p r=>?_) N 0 (bg _) (by omega)).trans rfl
 .dsimp only
  rw[an (bm _),aj,cj]
 .dsimp only
  have hm:=br p
  have he:=(j.each _ hm).1
  have x:=j.text hm f
  rw[aq (by omega:(n:Int)<ad.length),ao,aP p,ag,RX N _ _ _ _ (by omega) l,ag,yu N c _ (by omega) l v,ag,<-r]
  have g:fW c (ad.take (n+1)) f=(dk c (ez ad[n].2.1 f)).foldl (fun a t=>gj a t.1) (fW c (ad.take n) f):=by unfold fW;rw[w9 _ _ _ p,hW]
  have s:=o9 c (ez ad[n].2.1 f)
  generalize dk c (ez ad[n].2.1 f)=h at g s
  refine(dh _ h.length (fun k=>(ad,f,(h.take k).foldl (fun a t=>gj a t.1) (fW c (ad.take n) f),(n:Int),h,(k:Int),c.1,c.2)) (fun _=>go (ad,f,fW c (ad.take (n+1)) f,((n+1:Nat):Int),c.1,c.2)) (fun go2=>?_) (fun go2 k u i=>?_) N 0 (bg _) (by omega)).trans rfl
  .dsimp only
   rw[an (bm _),aj,cj,<-g,ai (aO (n:=n) (by omega)),aS]
  .dsimp only
   have y:=yO (fun t:dv=>t.1) (h.take k) (fW c (ad.take n) f)
   have z:=KR c j f n
   rw[bN]at y
   rw[aq (by omega:(k:Int)<h.length),ao,aP u,ag,RZ N _ _ (by omega) l,ag,ai (aO (n:=k) (by omega)),<-i,ou _ _ _ _ u,aS]
theorem Jh (N:Nat) (d:aF) (c:d.2.1.length<=3) (g:d.2.2.length<=3):rH N d.1 d.2.1 d.2.2=some d:=by
 unfold rH
 rw[ai (bW (by simp;omega) (by simp;omega)),ai (bW (by simp;omega) (by simp;omega))]
 rfl
theorem De (N:Nat) (c:aK) (v:dQ c=true) {ad:List aF} (h:e0 ad) (j:1048576<N):rI N c.1 c.2 ad=some (ad,eu c ad):=by
 unfold rI
 have y:=h.c7
 have l:=Ss h ad.length
 rw[cj]at l
 rw[anR N h j,ag]
 have z:∀n:Nat,((eA ad).take n).flatMap (fun f=>(fW c ad f).map fun t=>((f,t,ef c ad (f,t)):cQ))=((eA ad).take n).flatMap fun f=>(fW c ad f).map fun t=>(f,t,ef c ad (f,t)):=fun _=>rfl
 have p:∀n:Nat,(((eA ad).take n).flatMap fun f=>(fW c ad f).map fun t=>((f,t,ef c ad (f,t)):cQ)).length<=122880:=fun n=>by
  have A:=uG (fun f=>(fW c ad f).map fun t=>((f,t,ef c ad (f,t)):cQ)) 2560 ((eA ad).take n) fun f _=>by
   rw[dE]
   have:=KR c h f ad.length
   rw[cj]at this
   exact this
  have B:((eA ad).take n).length<=48:=by rw[bN];omega
  omega
 refine(dh _ (eA ad).length (fun n=>(ad,eA ad,(n:Int),c.1,c.2,((eA ad).take n).flatMap fun f=>(fW c ad f).map fun t=>((f,t,ef c ad (f,t)):cQ))) (fun _=>some (ad,eu c ad)) (fun go=>?_) (fun go n r s=>?_) N 0 (bg _) (by omega)).trans rfl
 .dsimp only
  rw[an (bm _),aj,cj]
  show iter _ N (ad,0,[],eu c ad)=_
  refine(dh _ ad.length (fun k=>(ad,(k:Int),ad.take k,eu c ad)) (fun _=>some (ad,eu c ad)) (fun go2=>?_) (fun go2 k i g=>?_) N 0 (bg _) (by omega)).trans rfl
  .dsimp only
   rw[an (bm _),aj,cj]
  .dsimp only
   have he:=h.each _ (br i)
   rw[aq (by omega:(k:Int)<ad.length),ao,aP i,ag,Jh N ad[k] he.1 he.2.1,ag,ai (bW (by simp;omega) (by simp;omega)),ai (aO (n:=k) (by omega)),<-g,dT i,aS]
 .dsimp only
  have u:=KR c h (eA ad)[n] ad.length
  rw[cj]at u
  rw[aq (by omega:(n:Int)<((eA ad).length:Int)),ao,aP r,ag,anU N c v h _ j,ag,<-s]
  rw[show(((eA ad).take n).flatMap fun f=>(fW c ad f).map fun t=>((f,t,ef c ad (f,t)):cQ))=(((eA ad).take n).flatMap fun f=>(fW c ad f).map fun t=>((f,t,ef c ad (f,t)):cQ))++((fW c ad (eA ad)[n]).take 0).map (fun t=>(((eA ad)[n],t,ef c ad ((eA ad)[n],t)):cQ))from by simp]
  refine(dh _ (fW c ad (eA ad)[n]).length (fun k=>(ad,eA ad,(n:Int),fW c ad (eA ad)[n],(k:Int),c.1,c.2,(((eA ad).take n).flatMap fun f=>(fW c ad f).map fun t=>((f,t,ef c ad (f,t)):cQ))++((fW c ad (eA ad)[n]).take k).map fun t=>(((eA ad)[n],t,ef c ad ((eA ad)[n],t)):cQ))) (fun _=>go (ad,eA ad,((n+1:Nat):Int),c.1,c.2,((eA ad).take (n+1)).flatMap fun f=>(fW c ad f).map fun t=>((f,t,ef c ad (f,t)):cQ))) (fun go2=>?_) (fun go2 k i g=>?_) N 0 (bg _) (by omega)).trans rfl
  .dsimp only
   rw[an (bm _),aj,cj,ai (aO (n:=n) (by omega)),aS,w9 _ _ _ r]
  .dsimp only
   have x:=p n
   rw[aq (by omega:(k:Int)<((fW c ad (eA ad)[n]).length:Int)),ao,aP r,ag,aP i,ag,anP N c v h _ _ j,ag,ai (bW (by rw[bh,dE,bN];simp only[ba,bH];omega) (by rw[bh,dE,bN];simp only[ba,bH];omega)),ai (aO (n:=k) (by omega)),<-g,Sj _ _ _ i,<-e5,aS]
def DQ (b:List aF) (B:List cQ) (x:Int) (t2 id:Int):Option (List aF×List cQ):=
 (if 0<=x/\x<(B.length:Int)then
 (Option.bind (B[x.toNat]?) fun(c:(List UInt8)×(List UInt8)×(List (Int×(List Int))))=>
 (if fits ((c.2.2.length:Int)-1)then(bif(decide (((c.2.2.length:Int)-1)<0))then
 (Option.bind (B[x.toNat]?) fun(C:(List UInt8)×(List UInt8)×(List (Int×(List Int))))=>
 (if x.toNat=x.toNat then
 (if room c.2.2.length ([(id,([]:List Int))]:List (Int×(List Int))).length 32 then
 (if x.toNat=x.toNat then
 (Option.bind (B[x.toNat]?) fun(g:(List UInt8)×(List UInt8)×(List (Int×(List Int))))=>
 (if fits (((c.2.2.length:Int)-1)+1)then(Option.bind ((B.set x.toNat (g.1,g.2.1,(c.2.2++([(id,([]:List Int))]:List (Int×(List Int))))))[x.toNat]?) fun(i:(List UInt8)×(List UInt8)×(List (Int×(List Int))))=>
 (Option.bind (i.2.2[(((c.2.2.length:Int)-1)+1).toNat]?) fun(l:Int×(List Int))=>
 (Option.bind ((B.set x.toNat (g.1,g.2.1,(c.2.2++([(id,([]:List Int))]:List (Int×(List Int))))))[x.toNat]?) fun(F:(List UInt8)×(List UInt8)×(List (Int×(List Int))))=>
 (if x.toNat=x.toNat then
 (Option.bind ((B.set x.toNat (g.1,g.2.1,(c.2.2++([(id,([]:List Int))]:List (Int×(List Int))))))[x.toNat]?) fun(G:(List UInt8)×(List UInt8)×(List (Int×(List Int))))=>
 (if x.toNat=x.toNat then
 (if 0<=(((c.2.2.length:Int)-1)+1)/\(((c.2.2.length:Int)-1)+1)<(i.2.2.length:Int)then
 (Option.bind (i.2.2[(((c.2.2.length:Int)-1)+1).toNat]?) fun(H:Int×(List Int))=>
 (if(((c.2.2.length:Int)-1)+1).toNat=(((c.2.2.length:Int)-1)+1).toNat then
 (if room l.2.length ([t2]:List Int).length 8 then
 (if 0<=(((c.2.2.length:Int)-1)+1)/\(((c.2.2.length:Int)-1)+1)<(i.2.2.length:Int)then
 (if(((c.2.2.length:Int)-1)+1).toNat=(((c.2.2.length:Int)-1)+1).toNat then
 (Option.bind (i.2.2[(((c.2.2.length:Int)-1)+1).toNat]?) fun(s:Int×(List Int))=>
 (some (b,((B.set x.toNat (g.1,g.2.1,(c.2.2++([(id,([]:List Int))]:List (Int×(List Int)))))).modify x.toNat fun y=>(y.1,y.2.1,(i.2.2.set (((c.2.2.length:Int)-1)+1).toNat (s.1,(l.2++([t2]:List Int)))))))))
 else none)
 else none)
 else none)
 else none))
 else none)
 else none))
 else none))))else none))
 else none)
 else none)
 else none))
 else
 (Option.bind (B[x.toNat]?) fun(I:(List UInt8)×(List UInt8)×(List (Int×(List Int))))=>
 (if x.toNat=x.toNat then
 (if 0<=((c.2.2.length:Int)-1)/\((c.2.2.length:Int)-1)<(c.2.2.length:Int)then
 (Option.bind (c.2.2[((c.2.2.length:Int)-1).toNat]?) fun(t:Int×(List Int))=>
 (bif(!decide (t.1=id))then
 (Option.bind (B[x.toNat]?) fun(J:(List UInt8)×(List UInt8)×(List (Int×(List Int))))=>
 (if x.toNat=x.toNat then
 (if room c.2.2.length ([(id,([]:List Int))]:List (Int×(List Int))).length 32 then
 (if x.toNat=x.toNat then
 (Option.bind (B[x.toNat]?) fun(h:(List UInt8)×(List UInt8)×(List (Int×(List Int))))=>
 (if fits (((c.2.2.length:Int)-1)+1)then(Option.bind ((B.set x.toNat (h.1,h.2.1,(c.2.2++([(id,([]:List Int))]:List (Int×(List Int))))))[x.toNat]?) fun(j:(List UInt8)×(List UInt8)×(List (Int×(List Int))))=>
 (Option.bind (j.2.2[(((c.2.2.length:Int)-1)+1).toNat]?) fun(p:Int×(List Int))=>
 (Option.bind ((B.set x.toNat (h.1,h.2.1,(c.2.2++([(id,([]:List Int))]:List (Int×(List Int))))))[x.toNat]?) fun(K:(List UInt8)×(List UInt8)×(List (Int×(List Int))))=>
 (if x.toNat=x.toNat then
 (Option.bind ((B.set x.toNat (h.1,h.2.1,(c.2.2++([(id,([]:List Int))]:List (Int×(List Int))))))[x.toNat]?) fun(L:(List UInt8)×(List UInt8)×(List (Int×(List Int))))=>
 (if x.toNat=x.toNat then
 (if 0<=(((c.2.2.length:Int)-1)+1)/\(((c.2.2.length:Int)-1)+1)<(j.2.2.length:Int)then
 (Option.bind (j.2.2[(((c.2.2.length:Int)-1)+1).toNat]?) fun(M:Int×(List Int))=>
 (if(((c.2.2.length:Int)-1)+1).toNat=(((c.2.2.length:Int)-1)+1).toNat then
 (if room p.2.length ([t2]:List Int).length 8 then
 (if 0<=(((c.2.2.length:Int)-1)+1)/\(((c.2.2.length:Int)-1)+1)<(j.2.2.length:Int)then
 (if(((c.2.2.length:Int)-1)+1).toNat=(((c.2.2.length:Int)-1)+1).toNat then
 (Option.bind (j.2.2[(((c.2.2.length:Int)-1)+1).toNat]?) fun(u:Int×(List Int))=>
 (some (b,((B.set x.toNat (h.1,h.2.1,(c.2.2++([(id,([]:List Int))]:List (Int×(List Int)))))).modify x.toNat fun z=>(z.1,z.2.1,(j.2.2.set (((c.2.2.length:Int)-1)+1).toNat (u.1,(p.2++([t2]:List Int)))))))))
 else none)
 else none)
 else none)
 else none))
 else none)
 else none))
 else none))))else none))
 else none)
 else none)
 else none))
 else
 (if x.toNat=x.toNat then
 (Option.bind (c.2.2[((c.2.2.length:Int)-1).toNat]?) fun(r:Int×(List Int))=>
 (Option.bind (B[x.toNat]?) fun(O:(List UInt8)×(List UInt8)×(List (Int×(List Int))))=>
 (if x.toNat=x.toNat then
 (Option.bind (B[x.toNat]?) fun(P:(List UInt8)×(List UInt8)×(List (Int×(List Int))))=>
 (if x.toNat=x.toNat then
 (if 0<=((c.2.2.length:Int)-1)/\((c.2.2.length:Int)-1)<(c.2.2.length:Int)then
 (Option.bind (c.2.2[((c.2.2.length:Int)-1).toNat]?) fun(Q:Int×(List Int))=>
 (if((c.2.2.length:Int)-1).toNat=((c.2.2.length:Int)-1).toNat then
 (if room r.2.length ([t2]:List Int).length 8 then
 (if 0<=((c.2.2.length:Int)-1)/\((c.2.2.length:Int)-1)<(c.2.2.length:Int)then
 (if((c.2.2.length:Int)-1).toNat=((c.2.2.length:Int)-1).toNat then
 (Option.bind (c.2.2[((c.2.2.length:Int)-1).toNat]?) fun(v:Int×(List Int))=>
 (some (b,(B.modify x.toNat fun A=>(A.1,A.2.1,(c.2.2.set ((c.2.2.length:Int)-1).toNat (v.1,(r.2++([t2]:List Int)))))))))
 else none)
 else none)
 else none)
 else none))
 else none)
 else none))
 else none)))
 else none)))
 else none)
 else none)))else none))
 else none)
set_option maxRecDepth 100000 in
theorem put_eq (N:Nat) (field t:List UInt8) (t2 id:Int) (b:List aF) (a8:List cQ):Bl N field t t2 id b a8=Option.bind (yq N a8 (field,t,t2)) fun r=>bif decide (r<0)then(if room a8.length ([(field,t,[])]:List cQ).length 56 then DQ b (a8++([(field,t,[])]:List cQ)) (a8.length:Int) t2 id else none)else DQ b a8 r t2 id:=rfl
theorem Ub {α:Type} (B:List α) (n:Nat) (v:α) (g:α->α) (h:n<B.length):(B.set n v).modify n g=B.set n (g v):=by
 apply tO
 intro i
 rw[List.getElem?_modify,List.getElem?_set,List.getElem?_set]
 by_cases hi:n=i
 .subst hi;simp[h]
 .simp [hi]
theorem aow {α:Type} (B:List α) (n:Nat) (g:α->α) (h:n<B.length):B.modify n g=B.set n (g B[n]):=by
 apply tO
 intro i
 rw[List.getElem?_modify,List.getElem?_set]
 by_cases hi:n=i
 .subst hi;simp[h]
 .simp [hi]
theorem S8 (b:List aF) (B:List cQ) (n:Nat) (t2 id:Int) (e:cQ) (he:B[n]? =some e) (i:e.2.2.length<=1000000) (j:∀p,p∈e.2.2->p.2.length<=1000000):DQ b B (n:Int) t2 id=some (b,B.set n (e.1,e.2.1,hs e.2.2 id t2)):=by
 have g:n<B.length:=(dB.1 he).1
 have heq:B[n]=e:=(dB.1 he).2
 obtain⟨f,t,ps⟩:=e
 unfold DQ
 rw[ai ⟨Int.natCast_nonneg n,by omega⟩]
 simp only[eg,he,ag,if_true]
 have l:∀v:cQ,(B.set n v)[n]? =some v:=fun v=>by rw[List.getElem?_set_self g]
 simp only[l,ag]
 rcases List.eq_nil_or_concat ps with rfl|⟨q,p,rfl⟩
 .rw [ai (by unfold fits;decide),aq (by decide),ao,ai (bW (by simp) (by simp)),ai (by unfold fits;decide)]
  rw[show((([]:List EPost).length:Int)-1+1)=0 from rfl]
  rw[show(([]:List EPost)++ [(id,([]:List Int))])[Int.toNat 0]? =some (id,[])from rfl]
  simp only[ag]
  rw[ai (by simp),ai (bW (by simp) (by simp)),ai (by simp),Ub _ _ _ _ g]
  rfl
 .rw [List.concat_eq_append]at*
  have r:((q++ [p]).length:Int)-1=(q.length:Int):=by simp
  have s:(q++ [p])[q.length]? =some p:=by simp
  have u:q.length+1<=1000000:=by simpa using i
  have x:p.2.length<=1000000:=j p (by simp)
  rw[r,ai (by unfold fits;omega),an (by omega),aj]
  simp only[eg,s,ag]
  have h:(0:Int)<=q.length/\(q.length:Int)<((q++ [p]).length:Int):=⟨by omega,by rw[bh];simp only[ba,bH];omega⟩
  rw[ai h]
  have c:(q++ [p]).getLast? =some p:=by simp
  by_cases hi:p.1=id
  .rw [aq hi,bf,aj,ai h,ai (bW (by simp only[ba,bH];omega) (by simp only[ba,bH];omega)),ai h,aow _ _ _ g,heq]
   unfold hs
   rw[c]
   dsimp only
   rw[ai hi,List.dropLast_concat]
   simp
  .have c2:((q.length:Int)+1).toNat=q.length+1:=by omega
   have y:(q++ [p]++ [(id,([]:List Int))])[q.length+1]? =some (id,[]):=by simp
   have c3:(0:Int)<=q.length+1/\(q.length:Int)+1<((q++ [p]++ [(id,([]:List Int))]).length:Int):=⟨by omega,by simp only[bh,ba,bH];omega⟩
   rw[an hi,dH,ao,ai (bW (by simp only[bh,ba,bH];omega) (by simp only[bh,ba,bH];omega)),ai (aO (n:=q.length) (by omega)),c2,y]
   simp only[ag]
   rw[ai c3,ai (bW (by simp) (by simp)),ai c3,Ub _ _ _ _ g]
   unfold hs
   rw[c]
   dsimp only
   rw[aC hi]
   simp
theorem Tc (o:fZ):∀es:List cQ,o.1∉es.map di->hB o es=es++ [(o.1.1,o.1.2,hs [] o.2.1 o.2.2)]
 | [],_=>rfl
 |e::l,h=>by
  rw[cw,bn,not_or]at h
  unfold hB
  rw[aC (fun e=>h.1 e.symm),Tc o l h.2]
  rfl
theorem Ta (o:fZ):∀(es:List cQ) (n:Nat) (c:n<es.length),di es[n]=o.1->(∀m (hm:m<n),di (es[m]'(by omega))≠o.1)->hB o es=es.set n (es[n].1,es[n].2.1,hs es[n].2.2 o.2.1 o.2.2)
 |e::l,0,_,h,_=>by
  unfold hB
  rw[ai (show di e=o.1 from h)]
  rfl
 |e::l,n+1,c,h,g=>by
  unfold hB
  rw[aC (show ¬di e=o.1 from g 0 (by omega)),Ta o l n (by simpa using c) h (fun m hm=>g (m+1) (by omega))]
  rfl
theorem aa5 (N:Nat) (es:List cQ) (f:List UInt8) (t:dv) (x:es.length<N) (u:es.length<=1000000):Def (yq N es (f,t)) fun r=>(r=-1/\(f,t.1)∉es.map di)\/ ∃(n:Nat) (j:n<es.length),r=(n:Int)/\di es[n]=(f,t.1)/\∀m (hm:m<n),di (es[m]'(by omega))≠(f,t.1):=by
 unfold yq
 refine Def.upto es.length (fun n g=>g=(es,(f,t),(es.length:Int),(n:Int))/\∀m (hm:m<es.length),m<n->di es[m]≠(f,t.1)) (fun go g l=>?_) (fun go n g j l p=>?_) N 0 _ (bg _) ⟨rfl,fun m _ h=>absurd h (pc _)⟩ (by omega)
 .obtain ⟨rfl,h⟩:=l
  dsimp only
  rw[an (bm _),aj]
  refine Def.ret (.inl ⟨rfl,fun i=>?_⟩)
  obtain⟨e,he,i⟩:=cg.1 i
  obtain⟨m,hm,rfl⟩:=eb.1 he
  exact h m hm hm i
 .obtain ⟨rfl,h⟩:=l
  dsimp only
  rw[aq (by omega:(n:Int)<es.length),ao,aP j,ag]
  have i:C2 N es[n].1 es[n].2.1 es[n].2.2 f t=some (decide (di es[n]=(f,t.1))):=by
   unfold C2 di
   by_cases c:es[n].1=f
   .rw [aq c,ao];simp[c]
   .rw [an c,aj];simp[c]
  rw[i,ag]
  by_cases c:di es[n]=(f,t.1)
  .rw [aq c,ao]
   exact Def.ret (.inr ⟨n,j,rfl,c,fun m hm=>h m (by omega) hm⟩)
  .rw [an c,aj,ai (aO (n:=n) (by omega))]
   refine p _ ⟨by rw[aS],fun m hm v=>?_⟩
   by_cases s:m=n
   .subst s;exact c
   .exact h m hm (by omega)
theorem apC (N:Nat) (f:List UInt8) (t:dv) (id:Int) (b:List aF) (es:List cQ) (i:es.length<N) (c:es.length<=1000000) (j:∀e,e∈es->e.2.2.length<=1000000/\∀p,p∈e.2.2->p.2.length<=1000000):Bl N f t.1 t.2 id b es=some (b,hB ((f,t.1),id,t.2) es):=by
 rw[put_eq]
 refine Def.get (Def.bind (aa5 N es f t i c) fun r l=>?_)
 rcases l with⟨rfl,g⟩|⟨n,h,rfl,g,s⟩
 .rw [aq (by decide),ao,ai (bW (by simp only[ba,bH];omega) (by simp only[ba,bH];omega))]
  rw[S8 b _ es.length t.2 id (f,t.1,[]) (by simp) (by simp) (by simp),Tc _ _ g]
  refine Def.ret ?_
  simp
 .rw [an (by omega),aj]
  have hm:=j _ (br h)
  rw[S8 b es n t.2 id es[n] (bG h) hm.1 hm.2,Ta ((f,t.1),id,t.2) es n h g s]
  exact Def.ret rfl
end Go.Proofs.YtnkagklajgimlaaGreatDoor
