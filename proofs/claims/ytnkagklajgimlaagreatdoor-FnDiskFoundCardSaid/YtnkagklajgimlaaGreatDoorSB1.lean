
import Derived.Test.YtnkagklajgimlaaGreatDoorSA1
set_option linter.unusedVariables false
set_option linter.unusedSimpArgs false
namespace Go.Proofs.YtnkagklajgimlaaGreatDoor
open Go.RowKit
abbrev gL :=List UInt8×List UInt8
abbrev fL :=gL×Int×Int
def db (e:cK):gL:=(e.1,e.2.1)
def hb (ps:List EPost) (id at':Int):List EPost:=match ps.getLast? with
 |some p=>if p.1=id then ps.dropLast++ [(p.1,p.2++ [at'])]else ps++ [(id,[at'])]
 |none=>[(id,[at'])]
def hj (o:fL):List cK->List cK
 | []=>[(o.1.1,o.1.2,hb [] o.2.1 o.2.2)]
 |e::l=>if db e=o.1 then(e.1,e.2.1,hb e.2.2 o.2.1 o.2.2)::l else e::hj o l
theorem IA (o:fL):∀es:List cK,(hj o es).map db=if o.1∈es.map db then es.map db else es.map db++ [o.1]
 | []=>rfl
 |e::l=>by
  have i:=IA o l
  unfold hj
  by_cases h:db e=o.1
  .rw [ai h]
   rw[ai (by rw[cv,h];exact b6)]
   rfl
  .rw [aA h,cv,i]
   by_cases c:o.1∈l.map db
   .rw [ai c,ai (by rw[cv];exact b7 _ c),cv]
   .rw [aA c,aA (by rw[cv,bm];rintro(g|g);exact h g.symm;exact c g),cv,jZ]
theorem Q3 (o:fL):∀es:List cK,(es.map db).Nodup->∀e,e∈hj o es->(db e≠o.1/\e∈es)\/(db e=o.1/\((∃c,c∈es/\db c=o.1/\e.2.2=hb c.2.2 o.2.1 o.2.2)\/(o.1∉es.map db/\e.2.2=hb [] o.2.1 o.2.2)))
 | [],_,e,he=>by
  unfold hj at he
  rw[c1]at he
  subst he
  exact .inr ⟨rfl,.inr ⟨by simp,rfl⟩⟩
 |d::l,p,e,he=>by
  rw[cv,ot]at p
  unfold hj at he
  by_cases h:db d=o.1
  .rw [ai h]at he
   rcases bm.1 he with rfl|he
   .exact .inr ⟨h,.inl ⟨d,b6,h,rfl⟩⟩
   .refine .inl ⟨fun s=>p.1 (by rw[h,<-s];exact List.mem_map_of_mem he),b7 _ he⟩
  .rw [aA h]at he
   rcases bm.1 he with rfl|he
   .exact .inl ⟨h,b6⟩
   .rcases Q3 o l p.2 e he with⟨j,g⟩|⟨j,⟨c,g,r,i⟩|⟨g,r⟩⟩
    .exact .inl ⟨j,b7 _ g⟩
    .exact .inr ⟨j,.inl ⟨c,b7 _ g,r,i⟩⟩
    .exact .inr ⟨j,.inr ⟨by rw[cv,bm];rintro(i|i);exact h i.symm;exact g i,r⟩⟩
def qE (k:gL) (dV:List fL):List EPost:=(dV.filter fun o=>decide (o.1=k)).foldl (fun ps o=>hb ps o.2.1 o.2.2) []
def mV (dV:List fL):List cK:=dV.foldl (fun es o=>hj o es) []
theorem agR (dV:List fL) (o:fL):mV (dV++ [o])=hj o (mV dV):=by unfold mV;rw[hU];rfl
theorem ali (k:gL) (dV:List fL) (o:fL):qE k (dV++ [o])=if o.1=k then hb (qE k dV) o.2.1 o.2.2 else qE k dV:=by
 unfold qE
 rw[kV,hU]
 by_cases h:o.1=k
 .rw [ai h];simp[h]
 .rw [aA h];simp[h]
structure Canon (es:List cK) (dV:List fL):Prop where
 nodup:(es.map db).Nodup
 keys:∀k,k∈es.map db↔∃o,o∈dV/\o.1=k
 Ix:∀e,e∈es->e.2.2=qE (db e) dV
theorem alg {k:gL} {dV:List fL} (h:¬∃o,o∈dV/\o.1=k):qE k dV=[]:=by
 unfold qE
 have:(dV.filter fun o=>decide (o.1=k))=[]:=by
  rw[List.filter_eq_nil_iff]
  intro o c g
  exact h ⟨o,c,of_decide_eq_true g⟩
 rw[this];rfl
theorem aln {es:List cK} {dV:List fL} (c:Canon es dV) (o:fL):Canon (hj o es) (dV++ [o]):=by
 refine⟨?_,fun k=>?_,fun e he=>?_⟩
 .rw [IA]
  split
  .exact c.nodup
  .rename_i h
   exact List.nodup_append.2 ⟨c.nodup,by simp,fun a u b t=>by rw[c1]at t;subst t;exact fun e=>h (e▸u)⟩
 .rw [IA]
  constructor
  .intro j
   have:k∈es.map db\/k=o.1:=by
    split at j
    .exact .inl j
    .rcases cp.1 j with h|h
     .exact .inl h
     .exact .inr (c1.1 h)
   rcases this with h|h
   .obtain ⟨p,g,r⟩:=(c.keys k).1 h
    exact⟨p,e8 _ g,r⟩
   .exact ⟨o,by simp,h.symm⟩
  .rintro ⟨p,g,rfl⟩
   rcases cp.1 g with g|g
   .have:=(c.keys p.1).2 ⟨p,g,rfl⟩
    split
    .exact this
    .exact e8 _ this
   .rw [c1]at g
    subst g
    split
    .assumption
    .simp
 .rw [ali]
  rcases Q3 o es c.nodup e he with⟨i,l⟩|⟨i,⟨v,l,s,x⟩|⟨l,s⟩⟩
  .rw [aA (Ne.symm i)];exact c.Ix e l
  .rw [ai i.symm,x,c.Ix v l,s,i]
  .rw [ai i.symm,s,i,alg (fun j=>l ((c.keys _).2 j))]
theorem Ur :Canon [] []:=⟨by simp,fun k=>by simp,fun e he=>by cases he⟩
theorem Iz (dV:List fL):Canon (mV dV) dV:=by
 have key:∀(l:List fL) (es:List cK) (c:List fL),Canon es c->Canon (l.foldl (fun es o=>hj o es) es) (c++l):=by
  intro l
  induction l with
  |nil=>intro es c h;simpa using h
  |cons o l g=>
   intro es c h
   have:=g (hj o es) (c++ [o]) (aln h o)
   rw[dJ]at this
   exact this
 have:=key dV [] [] Ur
 rw[fj]at this
 exact this
def gV (a b:gL):Bool:=Op.bytesLess a.1 b.1||(decide (a.1=b.1)&&Op.bytesLess a.2 b.2)
theorem q6 (x:List UInt8):Op.bytesLess x x=false:=by
 have:=my x x
 cases h:Op.bytesLess x x with
 |false=>rfl
 |true=>rw[h]at this;cases this
theorem J6 {x y:List UInt8} (h:Op.bytesLess x y=true):Op.bytesLess y x=false:=by
 have:=my x y
 rw[h,Bool.true_or]at this
 cases c:Op.bytesLess y x with
 |false=>rfl
 |true=>rw[c]at this;cases this
theorem vF {x y:List UInt8} (h:Op.bytesLess x y=false) (c:x≠y):Op.bytesLess y x=true:=by
 have:=my x y
 rw[h,ak c]at this
 cases g:Op.bytesLess y x with
 |true=>rfl
 |false=>rw[g]at this;cases this
theorem pU :∀ {x y z:List UInt8},Op.bytesLess x y=true->Op.bytesLess y z=true->Op.bytesLess x z=true
 | [],[],_,h,_=>by simp[Op.bytesLess]at h
 |_::_,[],_,h,_=>by simp[Op.bytesLess]at h
 | [],_::_,[],_,h=>by simp[Op.bytesLess]at h
 | [],_::_,_::_,_,_=>by simp[Op.bytesLess]
 |_::_,_::_,[],_,h=>by simp[Op.bytesLess]at h
 |a::x,b::y,c::z,g,i=>by
  simp only[Op.bytesLess]at g i⊢
  have p:= @pU x y z
  simp only[lB,bk,bz,beq_iff_eq,UInt8.lt_iff_toNat_lt]at g i⊢
  rcases g with g|⟨j,g⟩<;>rcases i with i|⟨l,i⟩
  .exact .inl (by omega)
  .exact .inl (by rw[<-l];exact g)
  .exact .inl (by rw[j];exact i)
  .exact .inr ⟨j.trans l,p g i⟩
theorem HP (a:gL):gV a a=false:=by unfold gV;rw[q6,q6,pE];rfl
theorem HQ {a b c:gL} (h:gV a b=true) (k:gV b c=true):gV a c=true:=by
 unfold gV at h k⊢
 simp only[lB,bk,bz]at h k⊢
 rcases h with h|⟨g,j⟩<;>rcases k with k|⟨i,l⟩
 .exact .inl (pU h k)
 .exact .inl (by rw[<-i];exact h)
 .exact .inl (by rw[g];exact k)
 .exact .inr ⟨g.trans i,pU j l⟩
theorem C4 {α:Type} (lt:α->α->Bool) (hi:∀a,lt a a=false) (s:∀a b c,lt a b=true->lt b c=true->lt a c=true):∀(l m:List α),l.Pairwise (fun a b=>lt a b=true)->m.Pairwise (fun a b=>lt a b=true)->(∀x,x∈l↔x∈m)->l=m
 | [],[],_,_,_=>rfl
 | [],b::m,_,_,h=>by have:=(h b).2 b6;cases this
 |a::l,[],_,_,h=>by have:=(h a).1 b6;cases this
 |a::l,b::m,i,j,h=>by
  rw[ez]at i j
  have p:a=b:=by
   rcases bm.1 ((h a).1 b6)with e|e
   .exact e
   .rcases bm.1 ((h b).2 b6)with r|r
    .exact r.symm
    .have:=s a b a (i.1 b r) (j.1 a e)
     rw[hi]at this;cases this
  subst p
  have:l=m:=C4 lt hi s l m i.2 j.2 fun x=>by
   constructor
   .intro g
    rcases bm.1 ((h x).1 (b7 _ g))with e|e
    .subst e;have:=i.1 x g;rw[hi]at this;cases this
    .exact e
   .intro g
    rcases bm.1 ((h x).2 (b7 _ g))with e|e
    .subst e;have:=j.1 x g;rw[hi]at this;cases this
    .exact e
  rw[this]
theorem Vs {A B:List cK} {P:gL->List EPost} (g:(A.map db).Pairwise fun a b=>gV a b=true) (i:(B.map db).Pairwise fun a b=>gV a b=true) (j:∀k,k∈A.map db↔k∈B.map db) (p:∀e,e∈A->e.2.2=P (db e)) (bj:∀e,e∈B->e.2.2=P (db e)):A=B:=by
 have h:=C4 gV HP (fun a b c=>HQ) _ _ g i j
 have back:∀l:List cK,(∀e,e∈l->e.2.2=P (db e))->l=(l.map db).map fun k=>(k.1,k.2,P k):=fun l r=>by
  rw[ml]
  conv=>lhs;rw[<-List.map_id l]
  refine mg fun e he=>?_
  show e=(e.1,e.2.1,P (db e))
  rw[<-r e he]
 rw[back A p,back B bj,h]
def eu (c:List ei) (name:List UInt8):List UInt8:=match c with
 | []=>[]
 |f::l=>if f.1=name then f.2 else eu l name
theorem Jk (c:aL):dv c []=[]:=by unfold dv plain words;rw[ni];exact u6 _
def jR (c:aL) (id:Int) (g:List ei):List fL:=g.flatMap fun f=>(dv c f.2).map fun t=>((f.1,t.1),id,t.2)
def dV (c:aL) (ad:List aC):List fL:=ad.flatMap fun d=>jR c d.1 d.2.1
def b2 (c:aL) (d:aC) (k:gL):List Int:=((dv c (eu d.2.1 k.1)).filter fun t=>decide (t.1=k.2)).map (·.2)
theorem Qt (c:aL) (id:Int) (k:gL):∀g:List ei,k.1∉g.map (·.1)->(jR c id g).filter (fun o=>decide (o.1=k))=[]
 | [],_=>rfl
 |f::l,h=>by
  rw[cv,bm]at h
  unfold jR
  rw[lG,kV]
  have i:((dv c f.2).map fun t=>(((f.1,t.1),id,t.2):fL)).filter (fun o=>decide (o.1=k))=[]:=by
   rw[List.filter_eq_nil_iff]
   intro o j p
   obtain⟨t,_,rfl⟩:=cd.1 j
   have:=of_decide_eq_true p
   exact h (.inl (by rw[<-this]))
  rw[i,fj]
  exact Qt c id k l fun r=>h (.inr r)
theorem EH (name:List UInt8):∀c:List ei,name∉c.map (·.1)->eu c name=[]
 | [],_=>rfl
 |f::l,h=>by
  rw[cv,bm]at h
  unfold eu
  rw[aA (fun e=>h (.inl e.symm))]
  exact EH name l fun g=>h (.inr g)
theorem y8 :∀(h:List ei),(h.map (·.1)).Nodup->∀f,f∈h->eu h f.1=f.2
 | [],_,f,c=>by cases c
 |g::l,i,f,c=>by
  rw[cv,ot]at i
  unfold eu
  rcases bm.1 c with rfl|c
  .rw [ai rfl]
  .rw [aA (fun e=>i.1 (by rw[e];exact List.mem_map_of_mem c))]
   exact y8 l i.2 f c
theorem Qs (c:aL) (id:Int) (k:gL):∀g:List ei,(g.map (·.1)).Nodup->(jR c id g).filter (fun o=>decide (o.1=k))=(((dv c (eu g k.1)).filter fun t=>decide (t.1=k.2)).map (·.2)).map fun a=>(k,id,a)
 | [],_=>by unfold eu jR;rw[Jk];rfl
 |f::l,i=>by
  rw[cv,ot]at i
  by_cases e:f.1=k.1
  .have p:=Qt c id k l (by rw[<-e];exact i.1)
   unfold eu
   rw[ai e]
   unfold jR at p⊢
   rw[lG,kV,p,e5]
   generalize dv c f.2=r
   induction r with
   |nil=>rfl
   |cons t r j=>
    rw[cv,iX,iX,j]
    have:(decide (((f.1,t.1):gL)=k))=decide (t.1=k.2):=by
     rw[decide_eq_decide]
     constructor
     .intro h;rw[<-h]
     .intro h;rw[Prod.ext_iff];exact⟨e,h⟩
    rw[this]
    by_cases h:t.1=k.2
    .rw [ai (aq h),ai (aq h),cv,cv]
     congr 1
     rw[show((f.1,t.1):gL)=k from Prod.ext e h]
    .rw [aA (by simp[h]),aA (by simp[h])]
  .have j:=Qs c id k l i.2
   unfold eu
   rw[aA e,<-j]
   unfold jR
   rw[lG,kV]
   have s:((dv c f.2).map fun t=>(((f.1,t.1),id,t.2):fL)).filter (fun o=>decide (o.1=k))=[]:=by
    rw[List.filter_eq_nil_iff]
    intro o u v
    obtain⟨t,_,rfl⟩:=cd.1 u
    have:=of_decide_eq_true v
    exact e (by rw[<-this])
   rw[s,fj]
theorem TL (acc:List EPost) (id a:Int) (B:List Int):hb (acc++ [(id,B)]) id a=acc++ [(id,B++ [a])]:=by
 unfold hb
 rw[List.getLast?_concat]
 dsimp only
 rw[ai rfl,List.dropLast_concat]
theorem JP (acc:List EPost) (id:Int):∀(A B:List Int),A.foldl (fun ps a=>hb ps id a) (acc++ [(id,B)])=acc++ [(id,B++A)]
 | [],B=>by simp
 |a::A,B=>by rw[eR,TL,JP acc id A];simp
theorem TM (acc:List EPost) (id:Int) (A:List Int) (h:∀p,acc.getLast? =some p->p.1≠id):A.foldl (fun ps a=>hb ps id a) acc=if A=[]then acc else acc++ [(id,A)]:=by
 cases A with
 |nil=>rfl
 |cons a A=>
  rw[aA (by simp),eR]
  have:hb acc id a=acc++ [(id,[a])]:=by
   unfold hb
   cases c:acc.getLast? with
   |none=>rw[List.getLast?_eq_none_iff.1 c];rfl
   |some p=>dsimp only;rw[aA (h p c)]
  rw[this,JP]
  rfl
def ef (c:aL) (ad:List aC) (k:gL):List EPost:=ad.filterMap fun d=>if b2 c d k=[]then none else some (d.1,b2 c d k)
structure s3 (ad:List aC):Prop where
 ids:ad.Pairwise fun a b=>a.1<b.1
 names:∀d,d∈ad->(d.2.1.map (·.1)).Nodup
theorem alh (c:aL) (k:gL) {ad:List aC} (r:s3 ad):qE k (dV c ad)=ef c ad k:=by
 have key:∀(ad:List aC) (acc:List EPost),s3 ad->(∀p,p∈acc->∀d,d∈ad->p.1<d.1)->((dV c ad).filter fun o=>decide (o.1=k)).foldl (fun ps o=>hb ps o.2.1 o.2.2) acc=acc++ef c ad k:=by
  intro ad
  induction ad with
  |nil=>intro acc _ _;simp[dV,ef]
  |cons d l u=>
   intro acc r h
   have i:=ez.1 r.ids
   unfold dV
   rw[lG,kV,hU,Qs c d.1 k d.2.1 (r.names d b6),List.foldl_map]
   have y:(((dv c (eu d.2.1 k.1)).filter fun t=>decide (t.1=k.2)).map (·.2)).foldl (fun ps a=>hb ps d.1 a) acc=if b2 c d k=[]then acc else acc++ [(d.1,b2 c d k)]:=TM acc d.1 _ fun p g=>by
    have:=h p (List.mem_of_getLast? g) d b6
    omega
   rw[y]
   have v:s3 l:=⟨i.2,fun x j=>r.names x (b7 _ j)⟩
   unfold ef
   rw[vk]
   by_cases s:b2 c d k=[]
   .rw [ai s,ai s]
    exact u acc v fun p g x j=>h p g x (b7 _ j)
   .rw [aA s,aA s]
    have:=u (acc++ [(d.1,b2 c d k)]) v fun p g x j=>by
     rcases cp.1 g with g|g
     .exact h p g x (b7 _ j)
     .rw [c1]at g;subst g;exact i.1 x j
    rw[dJ]at this
    exact this
 have:=key ad [] r (fun p g=>by cases g)
 rw[fj]at this
 exact this
def fS (l:List (List UInt8)) (s:List UInt8):List (List UInt8):=match l with
 | []=>[s]
 |x::r=>if Op.bytesLess x s=true then x::fS r s else if x=s then x::r else s::x::r
abbrev lO (l:List (List UInt8)):Prop:=l.Pairwise fun a b=>Op.bytesLess a b=true
theorem IC (s x:List UInt8):∀l,x∈fS l s↔x=s\/x∈l
 | []=>by simp[fS]
 |y::r=>by
  unfold fS
  have c:=IC s x r
  split
  .rw [bm,c,bm];constructor<;>rintro(h|h|h)<;>simp_all
  .split
   .rename_i e;subst e;simp
   .simp
theorem Ra (s:List UInt8):∀l,lO l->lO (fS l s)
 | [],_=>by simp[fS,lO]
 |y::r,h=>by
  rw[lO,ez]at h
  unfold fS
  split
  .rename_i hy
   rw[lO,ez]
   refine⟨fun z c=>?_,Ra s r h.2⟩
   rcases(IC s z r).1 c with rfl|c
   .exact hy
   .exact h.1 z c
  .split
   .rw [lO,ez];exact h
   .rename_i i j
    have g:Op.bytesLess s y=true:=vF (by simpa using i) j
    rw[lO,ez,ez]
    refine⟨fun z c=>?_,h⟩
    rcases bm.1 c with rfl|c
    .exact g
    .exact pU g (h.1 z c)
theorem Cr {α:Type} (f:α->List UInt8) (x:List UInt8):∀(l:List α) (acc:List (List UInt8)),x∈l.foldl (fun a y=>fS a (f y)) acc↔x∈acc\/ ∃y,y∈l/\f y=x
 | [],acc=>by simp
 |y::l,acc=>by
  rw[eR,Cr f x l,IC]
  constructor
  .rintro ((h|h)|⟨z,c,e⟩)
   .exact .inr ⟨y,b6,h.symm⟩
   .exact .inl h
   .exact .inr ⟨z,b7 _ c,e⟩
  .rintro (h|⟨z,c,e⟩)
   .exact .inl (.inr h)
   .rcases bm.1 c with rfl|c
    .exact .inl (.inl e.symm)
    .exact .inr ⟨z,c,e⟩
theorem IE {α:Type} (f:α->List UInt8):∀(l:List α) (acc:List (List UInt8)),lO acc->lO (l.foldl (fun a y=>fS a (f y)) acc)
 | [],_,h=>h
 |y::l,acc,h=>IE f l _ (Ra _ _ h)
def ev (ad:List aC):List (List UInt8):=(ad.flatMap fun d=>d.2.1).foldl (fun a f=>fS a f.1) []
def fJ (c:aL) (ad:List aC) (f:List UInt8):List (List UInt8):=(ad.flatMap fun d=>dv c (eu d.2.1 f)).foldl (fun a t=>fS a t.1) []
def eo (c:aL) (ad:List aC):List cK:=(ev ad).flatMap fun f=>(fJ c ad f).map fun t=>(f,t,ef c ad (f,t))
theorem KN (c:aL) (ad:List aC):(eo c ad).map db=(ev ad).flatMap fun f=>(fJ c ad f).map fun t=>(f,t):=by
 unfold eo
 rw[List.map_flatMap]
 congr 1
 funext f
 rw[ml]
 rfl
theorem KO (c:aL) (ad:List aC):((eo c ad).map db).Pairwise fun a b=>gV a b=true:=by
 rw[KN]
 have i:lO (ev ad):=IE _ _ _ lC
 generalize ev ad=p at i
 induction p with
 |nil=>exact lC
 |cons f l r=>
  rw[lO,ez]at i
  rw[lG,List.pairwise_append]
  refine⟨?_,r i.2,fun a s b j=>?_⟩
  .have v:lO (fJ c ad f):=IE _ _ _ lC
   refine qU.2 (v.imp fun h=>?_)
   unfold gV
   simp[h]
  .obtain ⟨t,_,rfl⟩:=cd.1 s
   obtain⟨g,x,j⟩:=iY.1 j
   obtain⟨u,_,rfl⟩:=cd.1 j
   unfold gV
   simp[i.1 g x]
theorem Ew (c:aL) {ad:List aC} (r:s3 ad) (k:gL):k∈(eo c ad).map db↔∃o,o∈dV c ad/\o.1=k:=by
 rw[KN]
 constructor
 .intro h
  obtain⟨f,u,h⟩:=iY.1 h
  obtain⟨t,p,rfl⟩:=cd.1 h
  unfold fJ at p
  rcases(Cr _ _ _ _).1 p with h|⟨y,hy,rfl⟩
  .cases h
  .obtain ⟨d,i,hy⟩:=iY.1 hy
   by_cases s:f∈d.2.1.map (·.1)
   .obtain ⟨g,j,rfl⟩:=cd.1 s
    rw[y8 _ (r.names d i) g j]at hy
    exact⟨((g.1,y.1),d.1,y.2),iY.2 ⟨d,i,iY.2 ⟨g,j,cd.2 ⟨y,hy,rfl⟩⟩⟩,rfl⟩
   .rw [EH _ _ s,Jk]at hy;cases hy
 .rintro ⟨o,l,rfl⟩
  obtain⟨d,i,l⟩:=iY.1 l
  obtain⟨g,j,l⟩:=iY.1 l
  obtain⟨t,p,rfl⟩:=cd.1 l
  refine iY.2 ⟨g.1,(Cr _ _ _ _).2 (.inr ⟨g,iY.2 ⟨d,i,j⟩,rfl⟩),cd.2 ⟨t.1,(Cr _ _ _ _).2 (.inr ⟨t,iY.2 ⟨d,i,?_⟩,rfl⟩),rfl⟩⟩
  rw[y8 _ (r.names d i) g j]
  exact p
theorem R0 (c:aL) {ad:List aC} (g:s3 ad) {R:List cK} (h:R.Perm (mV (dV c ad))) (j:R.Pairwise fun a b=>gV (db a) (db b)=true):R=eo c ad:=by
 have i:=Iz (dV c ad)
 refine Vs (P:=fun k=>ef c ad k) (qU.2 j) (KO c ad) (fun k=>?_) (fun e he=>?_) (fun e he=>?_)
 .rw [Ew c g,<-i.keys,(h.map db).mem_iff]
 .rw [i.Ix e (h.mem_iff.1 he),alh c _ g]
 .unfold eo at he
  obtain⟨f,_,he⟩:=iY.1 he
  obtain⟨t,_,rfl⟩:=cd.1 he
  rfl
structure eZ (ad:List aC):Prop where
 gB:s3 ad
 cS:ad.length<=16
 each:∀d,d∈ad->d.2.1.length<=3/\d.2.2.length<=3/\∀f,f∈d.2.1->fz f.2=true/\f.2.length<=160
theorem Ih {s:List UInt8} (h:fz s=true):s.length<=160:=by
 unfold fz at h
 simp only[bk,bz]at h
 omega
theorem Ch {α:Type} (R:α->α->Prop) (j:∀a b c,R a b->R b c->R a c):∀l:List α,(∀(n:Nat) (h:n+1<l.length),R (l[n]'(by omega)) l[n+1])->l.Pairwise R
 | [],_=>lC
 | [a],_=>by simp
 |a::b::l,h=>by
  have p:=Ch R j (b::l) fun n r=>h (n+1) (by simpa using r)
  rw[ez]
  refine⟨fun x i=>?_,p⟩
  have g:R a b:=h 0 (by simp)
  rcases bm.1 i with rfl|i
  .exact g
  .exact j a b x g ((ez.1 p).1 x i)
theorem mv {len:Nat} {f:Nat->Bool} (h:dL len f=true) {n:Nat} (c:n<len):f n=true:=by
 unfold dL at h
 rw[cA]at h
 exact h n (by simp;omega)
theorem l9 {ad:List aC} (h:eM ad=true):eZ ad:=by
 unfold eM at h
 rw[bk,bz]at h
 obtain⟨r,u⟩:=h
 have j:∀d,d∈ad->hg d=true:=fun d l=>by
  obtain⟨n,g,rfl⟩:=fe.1 l
  have:=mv r g
  unfold pf at this
  rw[bk,<-nB g]at this
  exact this.1
 refine⟨⟨?_,fun d l=>?_⟩,by omega,fun d l=>?_⟩
 .refine Ch (fun a b:aC=>a.1<b.1) (fun a b c h k=>Int.lt_trans h k) ad fun n g=>?_
  have:=mv r g
  unfold pf at this
  rw[bk,<-nB g,show n+1-1=n from rfl,<-nB (by omega:n<ad.length)]at this
  have i:=this.2
  rw[ak (by omega),ig,sO,decide_eq_false_iff_not]at i
  omega
 .have:=j d l
  unfold hg at this
  simp only[bk]at this
  have p:=this.1.2
  have t:(d.2.1).Pairwise fun a b=>Op.bytesLess a.1 b.1=true:=Ch (fun a b:ei=>Op.bytesLess a.1 b.1=true) (fun a b c h k=>pU h k) d.2.1 fun n g=>by
   have i:=mv p g
   unfold okF nw at i
   rw[bk,<-oN g,show n+1-1=n from rfl,<-oN (by omega:n<d.2.1.length)]at i
   have s:=i.2
   rw[ak (by omega),ig]at s
   exact s
  refine qU.2 (t.imp fun {a b} h e=>?_)
  rw[e,q6]at h;cases h
 .have:=j d l
  unfold hg at this
  simp only[bk,bz]at this
  refine⟨by omega,by omega,fun f p=>?_⟩
  obtain⟨n,g,rfl⟩:=fe.1 p
  have i:=mv this.1.2 g
  unfold okF at i
  rw[bk,bk,<-oN g]at i
  exact⟨i.1.2,Ih i.1.2⟩
theorem VA {c:List ei} (h:∀f,f∈c->f.2.length<=160) (name:List UInt8):(eu c name).length<=160:=by
 induction c with
 |nil=>unfold eu;simp
 |cons f l i=>
  unfold eu
  split
  .exact h f b6
  .exact i fun g j=>h g (b7 _ j)
theorem eZ.text {ad:List aC} (h:eZ ad) {d:aC} (c:d∈ad) (name:List UInt8):(eu d.2.1 name).length<=160:=VA (fun f g=>((h.each d c).2.2 f g).2) name
theorem ID {s:List UInt8}:∀(a b:List (List UInt8)),(∀x,x∈a->Op.bytesLess x s=true)->fS (a++b) s=a++fS b s
 | [],b,_=>rfl
 |x::a,b,h=>by
  rw[jZ,fS,ai (h x b6),ID a b fun y hy=>h y (b7 _ hy)]
  rfl
theorem Q9 (s:List UInt8):∀l,(fS l s).length<=l.length+1
 | []=>by simp[fS]
 |x::r=>by
  unfold fS
  have:=Q9 s r
  split
  .simp;omega
  .split<;>simp
theorem xG {α:Type} (f:α->List UInt8):∀(l:List α) (acc:List (List UInt8)),(l.foldl (fun a y=>fS a (f y)) acc).length<=acc.length+l.length
 | [],acc=>by simp
 |y::l,acc=>by
  rw[eR]
  have c:=xG f l (fS acc (f y))
  have g:=Q9 (f y) acc
  simp only[aZ]
  omega
theorem PU (N:Nat) (l:List (List UInt8)) (s:List UInt8) (A:l.length<=1000000) (B:1048576<N):x1 N l s=some (fS l s):=by
 refine Def.get ?_
 unfold x1
 have fin:∀n:Nat,n<=l.length->(∀x,x∈l.take n->Op.bytesLess x s=true)->fS (l.drop n) s=s::l.drop n->Def (Option.bind (cut l 0 (n:Int)) fun y=>if room ([]:List (List UInt8)).length y.length 16 then(if room (([]:List (List UInt8))++y).length ([s]:List (List UInt8)).length 16 then(Option.bind (cut l (n:Int) (l.length:Int)) fun v=>if room ((([]:List (List UInt8))++y)++([s]:List (List UInt8))).length v.length 16 then some (((([]:List (List UInt8))++y)++([s]:List (List UInt8)))++v)else none)else none)else none) (fun r=>r=fS l s):=fun n h c z=>by
  refine Def.cut (by decide) (by omega) (by omega) ?_
  simp only[er,show(0:Int).toNat=0 from rfl,qT]
  refine Def.ite (b5 (by simp;omega) (by simp;omega)) (Def.ite (b5 (by simp;omega) (by simp;omega)) (Def.Eb h (Def.ite (b5 (by simp;omega) (by simp;omega)) (Def.ret ?_))))
  rw[<-lD n l,ID _ _ c,lD,z]
  simp
 refine Def.upto l.length (fun n g=>g=(l,s,(n:Int))/\∀x,x∈l.take n->Op.bytesLess x s=true) (fun go g p=>?_) (fun go n g h p t=>?_) N 0 _ (bg _) ⟨rfl,by simp⟩ (by omega)
 .obtain ⟨rfl,c⟩:=p
  dsimp only
  rw[ak (bp _),aj,aj]
  exact fin l.length (bC _) c (by rw[lE];rfl)
 .obtain ⟨rfl,c⟩:=p
  dsimp only
  rw[aq (by omega:(n:Int)<l.length),ao,ao,aO h,af,af]
  have u:=fC h
  refine Def.bif (fun i=>?_) (fun i=>?_)
  .refine Def.ite (aN (n:=n) (by omega)) (t _ ⟨by rw[aR],fun x j=>?_⟩)
   rw[ec h,cp,c1]at j
   rcases j with j|rfl
   .exact c x j
   .exact i
  .refine Def.bL (fun he=>Def.ret ?_) (fun he=>fin n (by omega) c ?_)
   .rw [<-lD n l,ID _ _ c,lD,u,fS,aA (by rw[i];decide),ai he,<-u,lD]
   .rw [u,fS,aA (by rw[i];decide),aA he]
theorem PS (N:Nat) (d:Int) (c:List ei) (at':List gl) (name:List UInt8) (i:c.length<=1000000) (j:1048576<N):x0 N d c at' name=some (eu c name):=by
 unfold x0
 refine(dB _ c.length (fun n=>(name,(n:Int),d,c,at')) (fun n=>some (eu (c.drop n) name)) (fun go=>?_) (fun go n h g=>?_) N 0 (bg _) (by omega)).trans rfl
 .dsimp only
  rw[ak (bp _),aj,lE]
  rfl
 .dsimp only
  simp only[aR]at g
  rw[aq (by omega:(n:Int)<c.length),ao,aO h,af,af,ai (aN (n:=n) (by omega)),fC h,eu]
  by_cases e:c[n].1=name
  .rw [aq e,ao,ai e]
  .rw [ak e,aj,aA e,g]
def pT (c:List dp) (t:List UInt8):List Int:=(c.filter fun x=>decide (x.1=t)).map (·.2)
theorem aj4 (N:Nat) (c:aL) (p:dQ c=true) (d:aC) (f t:List UInt8) (r:d.2.1.length<=1000000) (u:(eu d.2.1 f).length<=160) (j:1048576<N):CW N c.1 c.2 d.1 d.2.1 d.2.2 f t=some (b2 c d (f,t)):=by
 unfold CW
 rw[PS N _ _ _ _ r j,af,xp N c _ (by omega) j p,af]
 have hlen:=om c (eu d.2.1 f)
 show _=some (pT (dv c (eu d.2.1 f)) t)
 generalize dv c (eu d.2.1 f)=h at hlen
 refine(dB _ h.length (fun n=>(t,pT (h.take n) t,h,(n:Int))) (fun _=>some (pT h t)) (fun go=>?_) (fun go n l g=>?_) N 0 (bg _) (by omega)).trans rfl
 .dsimp only
  rw[ak (bp _),aj,cl]
 .dsimp only
  have i:pT (h.take (n+1)) t=pT (h.take n) t++(if h[n].1=t then [h[n].2]else []):=by
   unfold pT
   rw[ec l,kV,iD]
   congr 1
   by_cases e:h[n].1=t
   .rw [ai e];simp[e]
   .rw [aA e];simp[e]
  have s:(pT (h.take n) t).length<=n:=by unfold pT;rw[dX];exact dK (hK _ _) (by simp;omega)
  rw[i]at g
  simp only[aR]at g
  rw[aq (by omega:(n:Int)<h.length),ao,aO l,af,af,ai (b5 (by simp only[aZ,bE];omega) (by simp only[aZ,bE];omega)),ai (aN (n:=n) (by omega))]
  by_cases e:h[n].1=t
  .rw [aq e,ao]
   rw[ai e]at g
   exact g
  .rw [ak e,aj]
   rw[aA e,e5]at g
   rw[ai (aN (n:=n) (by omega))]
   exact g
theorem aj0 (N:Nat) (c:aL) (l:dQ c=true) {ad:List aC} (h:eZ ad) (f t:List UInt8) (p:1048576<N):CU N c.1 c.2 ad f t=some (f,t,ef c ad (f,t)):=by
 unfold CU
 have s:=h.cS
 refine(dB _ ad.length (fun n=>(ad,f,t,(n:Int),c.1,c.2,([]:List UInt8),([]:List UInt8),f,t,ef c (ad.take n) (f,t))) (fun _=>some (f,t,ef c ad (f,t))) (fun go=>?_) (fun go n i g=>?_) N 0 (bg _) (by omega)).trans rfl
 .dsimp only
  rw[ak (bp _),aj,cl]
 .dsimp only
  have hm:=bA i
  have he:=h.each _ hm
  have j:ef c (ad.take (n+1)) (f,t)=ef c (ad.take n) (f,t)++(if b2 c ad[n] (f,t)=[]then []else [(ad[n].1,b2 c ad[n] (f,t))]):=by
   unfold ef
   rw[y9 _ _ _ i]
   congr 1
   by_cases e:b2 c ad[n] (f,t)=[]
   .rw [ai e,ai e]
   .rw [aA e,aA e]
  have r:(ef c (ad.take n) (f,t)).length<=n:=dK (sN _ _) (by simp;omega)
  rw[j]at g
  simp only[aR]at g
  rw[aq (by omega:(n:Int)<ad.length),ao,aO i,af,aj4 N c l _ f t (by omega) (h.text hm f) p,af,af]
  by_cases e:b2 c ad[n] (f,t)=[]
  .rw [e,ak (by simp),aj,ai (aN (n:=n) (by omega))]
   rw[ai e,e5]at g
   exact g
  .rw [aq (by have:=List.length_pos_iff.2 e;omega),ao,ai (b5 (by simp only[aZ,bE];omega) (by simp only[aZ,bE];omega)),ai (aN (n:=n) (by omega))]
   rw[aA e]at g
   exact g
theorem tu {α β:Type} (g:α->List β) (B:Nat):∀l:List α,(∀x,x∈l->(g x).length<=B)->(l.flatMap g).length<=B*l.length
 | [],_=>by simp
 |x::l,h=>by
  have c:=tu g B l fun y hy=>h y (b7 _ hy)
  have i:=h x b6
  rw[lG,a1,aZ,Nat.mul_succ]
  omega
theorem vU {α β:Type} (g:α->List β) (l:List α) (n:Nat) (h:n<l.length):(l.take (n+1)).flatMap g=(l.take n).flatMap g++g l[n]:=by
 rw[ec h,List.flatMap_append,lG,List.flatMap_nil,e5]
theorem Qd {α β:Type} (g:α->β) (l:List α) (n:Nat) (h:n<l.length):(l.take (n+1)).map g=(l.take n).map g++ [g l[n]]:=by
 rw[ec h,iD];rfl
theorem Qm {ad:List aC} (g:eZ ad) (n:Nat):(ev (ad.take n)).length<=48:=by
 unfold ev
 have h:=xG (fun f:ei=>f.1) ((ad.take n).flatMap fun d=>d.2.1) []
 have i:=tu (fun d:aC=>d.2.1) 3 (ad.take n) fun d c=>(g.each d (fK c)).1
 have j:(ad.take n).length<=16:=by rw[bX];have:=g.cS;omega
 simp only[bE]at h
 omega
theorem aj2 (N:Nat) {ad:List aC} (h:eZ ad) (p:1048576<N):CV N ad=some (ev ad):=by
 unfold CV
 have t:=h.cS
 refine(dB _ ad.length (fun n=>(ad,ev (ad.take n),(n:Int))) (fun _=>some (ev ad)) (fun go=>?_) (fun go n g i=>?_) N 0 (bg _) (by omega)).trans rfl
 .dsimp only
  rw[ak (bp _),aj,cl]
 .dsimp only
  have hm:=bA g
  have he:=(h.each _ hm).1
  rw[aq (by omega:(n:Int)<ad.length),ao,<-i]
  have j:ev (ad.take (n+1))=ad[n].2.1.foldl (fun a f=>fS a f.1) (ev (ad.take n)):=by unfold ev;rw[vU _ _ _ g,hU]
  refine(dB _ ad[n].2.1.length (fun k=>(ad,(ad[n].2.1.take k).foldl (fun a f=>fS a f.1) (ev (ad.take n)),(n:Int),(k:Int))) (fun _=>go (ad,ev (ad.take (n+1)),((n+1:Nat):Int))) (fun go2=>?_) (fun go2 k l c=>?_) N 0 (bg _) (by omega)).trans rfl
  .dsimp only
   rw[aO g,af,ak (bp _),aj,cl,<-j,ai (aN (n:=n) (by omega)),aR]
  .dsimp only
   have r:=xG (fun f:ei=>f.1) (ad[n].2.1.take k) (ev (ad.take n))
   have s:=Qm h n
   rw[bX]at r
   rw[aO g,af,aq (by omega:(k:Int)<ad[n].2.1.length),ao,af,aO l,af,PU N _ _ (by omega) p,af,ai (aN (n:=k) (by omega)),<-c,nJ _ _ _ _ l,aR]
theorem Jj (c:aL) {ad:List aC} (h:eZ ad) (f:List UInt8) (n:Nat):(fJ c (ad.take n) f).length<=2560:=by
 unfold fJ
 have i:=xG (fun t:dp=>t.1) ((ad.take n).flatMap fun d=>dv c (eu d.2.1 f)) []
 have j:=tu (fun d:aC=>dv c (eu d.2.1 f)) 160 (ad.take n) fun d g=>dK (om c _) (h.text (fK g) f)
 have l:(ad.take n).length<=16:=by rw[bX];have:=h.cS;omega
 simp only[bE]at i
 omega
theorem aj5 (N:Nat) (c:aL) (v:dQ c=true) {ad:List aC} (j:eZ ad) (f:List UInt8) (l:1048576<N):CY N c.1 c.2 ad f=some (fJ c ad f):=by
 unfold CY
 have A:=j.cS
 refine(dB _ ad.length (fun n=>(ad,f,fJ c (ad.take n) f,(n:Int),c.1,c.2)) (fun _=>some (fJ c ad f)) (fun go=>?_) (fun go n p r=>?_) N 0 (bg _) (by omega)).trans rfl
 .dsimp only
  rw[ak (bp _),aj,cl]
 .dsimp only
  have hm:=bA p
  have he:=(j.each _ hm).1
  have x:=j.text hm f
  rw[aq (by omega:(n:Int)<ad.length),ao,aO p,af,PS N _ _ _ _ (by omega) l,af,xp N c _ (by omega) l v,af,<-r]
  have g:fJ c (ad.take (n+1)) f=(dv c (eu ad[n].2.1 f)).foldl (fun a t=>fS a t.1) (fJ c (ad.take n) f):=by unfold fJ;rw[vU _ _ _ p,hU]
  have s:=om c (eu ad[n].2.1 f)
  generalize dv c (eu ad[n].2.1 f)=h at g s
  refine(dB _ h.length (fun k=>(ad,f,(h.take k).foldl (fun a t=>fS a t.1) (fJ c (ad.take n) f),(n:Int),h,(k:Int),c.1,c.2)) (fun _=>go (ad,f,fJ c (ad.take (n+1)) f,((n+1:Nat):Int),c.1,c.2)) (fun go2=>?_) (fun go2 k u i=>?_) N 0 (bg _) (by omega)).trans rfl
  .dsimp only
   rw[ak (bp _),aj,cl,<-g,ai (aN (n:=n) (by omega)),aR]
  .dsimp only
   have y:=xG (fun t:dp=>t.1) (h.take k) (fJ c (ad.take n) f)
   have z:=Jj c j f n
   rw[bX]at y
   rw[aq (by omega:(k:Int)<h.length),ao,aO u,af,PU N _ _ (by omega) l,af,ai (aN (n:=k) (by omega)),<-i,nJ _ _ _ _ u,aR]
theorem HB (N:Nat) (d:aC) (c:d.2.1.length<=3) (g:d.2.2.length<=3):qO N d.1 d.2.1 d.2.2=some d:=by
 unfold qO
 rw[ai (b5 (by simp;omega) (by simp;omega)),ai (b5 (by simp;omega) (by simp;omega))]
 rfl
theorem HC (N:Nat) (c:aL) (v:dQ c=true) {ad:List aC} (h:eZ ad) (j:1048576<N):uZ N c.1 c.2 ad=some (ad,eo c ad):=by
 unfold uZ
 have y:=h.cS
 have l:=Qm h ad.length
 rw[cl]at l
 rw[aj2 N h j,af]
 have z:∀n:Nat,((ev ad).take n).flatMap (fun f=>(fJ c ad f).map fun t=>((f,t,ef c ad (f,t)):cK))=((ev ad).take n).flatMap fun f=>(fJ c ad f).map fun t=>(f,t,ef c ad (f,t)):=fun _=>rfl
 have p:∀n:Nat,(((ev ad).take n).flatMap fun f=>(fJ c ad f).map fun t=>((f,t,ef c ad (f,t)):cK)).length<=122880:=fun n=>by
  have A:=tu (fun f=>(fJ c ad f).map fun t=>((f,t,ef c ad (f,t)):cK)) 2560 ((ev ad).take n) fun f _=>by
   rw[dX]
   have:=Jj c h f ad.length
   rw[cl]at this
   exact this
  have B:((ev ad).take n).length<=48:=by rw[bX];omega
  omega
 refine(dB _ (ev ad).length (fun n=>(ad,ev ad,(n:Int),c.1,c.2,((ev ad).take n).flatMap fun f=>(fJ c ad f).map fun t=>((f,t,ef c ad (f,t)):cK))) (fun _=>some (ad,eo c ad)) (fun go=>?_) (fun go n r s=>?_) N 0 (bg _) (by omega)).trans rfl
 .dsimp only
  rw[ak (bp _),aj,cl]
  show iter _ N (ad,0,[],eo c ad)=_
  refine(dB _ ad.length (fun k=>(ad,(k:Int),ad.take k,eo c ad)) (fun _=>some (ad,eo c ad)) (fun go2=>?_) (fun go2 k i g=>?_) N 0 (bg _) (by omega)).trans rfl
  .dsimp only
   rw[ak (bp _),aj,cl]
  .dsimp only
   have he:=h.each _ (bA i)
   rw[aq (by omega:(k:Int)<ad.length),ao,aO i,af,HB N ad[k] he.1 he.2.1,af,ai (b5 (by simp;omega) (by simp;omega)),ai (aN (n:=k) (by omega)),<-g,ec i,aR]
 .dsimp only
  have u:=Jj c h (ev ad)[n] ad.length
  rw[cl]at u
  rw[aq (by omega:(n:Int)<((ev ad).length:Int)),ao,aO r,af,aj5 N c v h _ j,af,<-s]
  rw[show(((ev ad).take n).flatMap fun f=>(fJ c ad f).map fun t=>((f,t,ef c ad (f,t)):cK))=(((ev ad).take n).flatMap fun f=>(fJ c ad f).map fun t=>((f,t,ef c ad (f,t)):cK))++((fJ c ad (ev ad)[n]).take 0).map (fun t=>(((ev ad)[n],t,ef c ad ((ev ad)[n],t)):cK))from by simp]
  refine(dB _ (fJ c ad (ev ad)[n]).length (fun k=>(ad,ev ad,(n:Int),fJ c ad (ev ad)[n],(k:Int),c.1,c.2,(((ev ad).take n).flatMap fun f=>(fJ c ad f).map fun t=>((f,t,ef c ad (f,t)):cK))++((fJ c ad (ev ad)[n]).take k).map fun t=>(((ev ad)[n],t,ef c ad ((ev ad)[n],t)):cK))) (fun _=>go (ad,ev ad,((n+1:Nat):Int),c.1,c.2,((ev ad).take (n+1)).flatMap fun f=>(fJ c ad f).map fun t=>((f,t,ef c ad (f,t)):cK))) (fun go2=>?_) (fun go2 k i g=>?_) N 0 (bg _) (by omega)).trans rfl
  .dsimp only
   rw[ak (bp _),aj,cl,ai (aN (n:=n) (by omega)),aR,vU _ _ _ r]
  .dsimp only
   have x:=p n
   rw[aq (by omega:(k:Int)<((fJ c ad (ev ad)[n]).length:Int)),ao,aO r,af,aO i,af,aj0 N c v h _ _ j,af,ai (b5 (by rw[a1,dX,bX];simp only[aZ,bE];omega) (by rw[a1,dX,bX];simp only[aZ,bE];omega)),ai (aN (n:=k) (by omega)),<-g,Qd _ _ _ i,<-dJ,aR]
def Cp (b:List aC) (B:List cK) (x:Int) (t2 id:Int):Option (List aC×List cK):=
 (if 0<=x/\x<(B.length:Int)then
 (Option.bind (B[x.toNat]?) fun(c:(List UInt8)×(List UInt8)×(List (Int×(List Int))))=>
 (if fits ((c.2.2.length:Int)-1)then(bif(decide (((c.2.2.length:Int)-1)<0))then
 (Option.bind (B[x.toNat]?) fun(C:(List UInt8)×(List UInt8)×(List (Int×(List Int))))=>
 (if x.toNat=x.toNat then
 (if room c.2.2.length ([(id,([]:List Int))]:List (Int×(List Int))).length 32 then
 (if x.toNat=x.toNat then
 (Option.bind (B[x.toNat]?) fun(g:(List UInt8)×(List UInt8)×(List (Int×(List Int))))=>
 (if fits (((c.2.2.length:Int)-1)+1)then(Option.bind ((B.set x.toNat (g.1,g.2.1,(c.2.2++([(id,([]:List Int))]:List (Int×(List Int))))))[x.toNat]?) fun(i:(List UInt8)×(List UInt8)×(List (Int×(List Int))))=>
 (Option.bind (i.2.2[(((c.2.2.length:Int)-1)+1).toNat]?) fun(l:Int×(List Int))=>
 (Option.bind ((B.set x.toNat (g.1,g.2.1,(c.2.2++([(id,([]:List Int))]:List (Int×(List Int))))))[x.toNat]?) fun(F:(List UInt8)×(List UInt8)×(List (Int×(List Int))))=>
 (if x.toNat=x.toNat then
 (Option.bind ((B.set x.toNat (g.1,g.2.1,(c.2.2++([(id,([]:List Int))]:List (Int×(List Int))))))[x.toNat]?) fun(G:(List UInt8)×(List UInt8)×(List (Int×(List Int))))=>
 (if x.toNat=x.toNat then
 (if 0<=(((c.2.2.length:Int)-1)+1)/\(((c.2.2.length:Int)-1)+1)<(i.2.2.length:Int)then
 (Option.bind (i.2.2[(((c.2.2.length:Int)-1)+1).toNat]?) fun(H:Int×(List Int))=>
 (if(((c.2.2.length:Int)-1)+1).toNat=(((c.2.2.length:Int)-1)+1).toNat then
 (if room l.2.length ([t2]:List Int).length 8 then
 (if 0<=(((c.2.2.length:Int)-1)+1)/\(((c.2.2.length:Int)-1)+1)<(i.2.2.length:Int)then
 (if(((c.2.2.length:Int)-1)+1).toNat=(((c.2.2.length:Int)-1)+1).toNat then
 (Option.bind (i.2.2[(((c.2.2.length:Int)-1)+1).toNat]?) fun(s:Int×(List Int))=>
 (some (b,((B.set x.toNat (g.1,g.2.1,(c.2.2++([(id,([]:List Int))]:List (Int×(List Int)))))).modify x.toNat fun y=>(y.1,y.2.1,(i.2.2.set (((c.2.2.length:Int)-1)+1).toNat (s.1,(l.2++([t2]:List Int)))))))))
 else none)
 else none)
 else none)
 else none))
 else none)
 else none))
 else none))))else none))
 else none)
 else none)
 else none))
 else
 (Option.bind (B[x.toNat]?) fun(I:(List UInt8)×(List UInt8)×(List (Int×(List Int))))=>
 (if x.toNat=x.toNat then
 (if 0<=((c.2.2.length:Int)-1)/\((c.2.2.length:Int)-1)<(c.2.2.length:Int)then
 (Option.bind (c.2.2[((c.2.2.length:Int)-1).toNat]?) fun(t:Int×(List Int))=>
 (bif(!decide (t.1=id))then
 (Option.bind (B[x.toNat]?) fun(J:(List UInt8)×(List UInt8)×(List (Int×(List Int))))=>
 (if x.toNat=x.toNat then
 (if room c.2.2.length ([(id,([]:List Int))]:List (Int×(List Int))).length 32 then
 (if x.toNat=x.toNat then
 (Option.bind (B[x.toNat]?) fun(h:(List UInt8)×(List UInt8)×(List (Int×(List Int))))=>
 (if fits (((c.2.2.length:Int)-1)+1)then(Option.bind ((B.set x.toNat (h.1,h.2.1,(c.2.2++([(id,([]:List Int))]:List (Int×(List Int))))))[x.toNat]?) fun(j:(List UInt8)×(List UInt8)×(List (Int×(List Int))))=>
 (Option.bind (j.2.2[(((c.2.2.length:Int)-1)+1).toNat]?) fun(p:Int×(List Int))=>
 (Option.bind ((B.set x.toNat (h.1,h.2.1,(c.2.2++([(id,([]:List Int))]:List (Int×(List Int))))))[x.toNat]?) fun(K:(List UInt8)×(List UInt8)×(List (Int×(List Int))))=>
 (if x.toNat=x.toNat then
 (Option.bind ((B.set x.toNat (h.1,h.2.1,(c.2.2++([(id,([]:List Int))]:List (Int×(List Int))))))[x.toNat]?) fun(L:(List UInt8)×(List UInt8)×(List (Int×(List Int))))=>
 (if x.toNat=x.toNat then
 (if 0<=(((c.2.2.length:Int)-1)+1)/\(((c.2.2.length:Int)-1)+1)<(j.2.2.length:Int)then
 (Option.bind (j.2.2[(((c.2.2.length:Int)-1)+1).toNat]?) fun(M:Int×(List Int))=>
 (if(((c.2.2.length:Int)-1)+1).toNat=(((c.2.2.length:Int)-1)+1).toNat then
 (if room p.2.length ([t2]:List Int).length 8 then
 (if 0<=(((c.2.2.length:Int)-1)+1)/\(((c.2.2.length:Int)-1)+1)<(j.2.2.length:Int)then
 (if(((c.2.2.length:Int)-1)+1).toNat=(((c.2.2.length:Int)-1)+1).toNat then
 (Option.bind (j.2.2[(((c.2.2.length:Int)-1)+1).toNat]?) fun(u:Int×(List Int))=>
 (some (b,((B.set x.toNat (h.1,h.2.1,(c.2.2++([(id,([]:List Int))]:List (Int×(List Int)))))).modify x.toNat fun z=>(z.1,z.2.1,(j.2.2.set (((c.2.2.length:Int)-1)+1).toNat (u.1,(p.2++([t2]:List Int)))))))))
 else none)
 else none)
 else none)
 else none))
 else none)
 else none))
 else none))))else none))
 else none)
 else none)
 else none))
 else
 (if x.toNat=x.toNat then
 (Option.bind (c.2.2[((c.2.2.length:Int)-1).toNat]?) fun(r:Int×(List Int))=>
 (Option.bind (B[x.toNat]?) fun(O:(List UInt8)×(List UInt8)×(List (Int×(List Int))))=>
 (if x.toNat=x.toNat then
 (Option.bind (B[x.toNat]?) fun(P:(List UInt8)×(List UInt8)×(List (Int×(List Int))))=>
 (if x.toNat=x.toNat then
 (if 0<=((c.2.2.length:Int)-1)/\((c.2.2.length:Int)-1)<(c.2.2.length:Int)then
 (Option.bind (c.2.2[((c.2.2.length:Int)-1).toNat]?) fun(Q:Int×(List Int))=>
 (if((c.2.2.length:Int)-1).toNat=((c.2.2.length:Int)-1).toNat then
 (if room r.2.length ([t2]:List Int).length 8 then
 (if 0<=((c.2.2.length:Int)-1)/\((c.2.2.length:Int)-1)<(c.2.2.length:Int)then
 (if((c.2.2.length:Int)-1).toNat=((c.2.2.length:Int)-1).toNat then
 (Option.bind (c.2.2[((c.2.2.length:Int)-1).toNat]?) fun(v:Int×(List Int))=>
 (some (b,(B.modify x.toNat fun A=>(A.1,A.2.1,(c.2.2.set ((c.2.2.length:Int)-1).toNat (v.1,(r.2++([t2]:List Int)))))))))
 else none)
 else none)
 else none)
 else none))
 else none)
 else none))
 else none)))
 else none)))
 else none)
 else none)))else none))
 else none)
set_option maxRecDepth 100000 in
theorem put_eq (N:Nat) (field t:List UInt8) (t2 id:Int) (b:List aC) (ba:List cK):zX N field t t2 id b ba=Option.bind (xm N ba (field,t,t2)) fun r=>bif decide (r<0)then(if room ba.length ([(field,t,[])]:List cK).length 56 then Cp b (ba++([(field,t,[])]:List cK)) (ba.length:Int) t2 id else none)else Cp b ba r t2 id:=rfl
theorem RP {α:Type} (B:List α) (n:Nat) (v:α) (g:α->α) (h:n<B.length):(B.set n v).modify n g=B.set n (g v):=by
 apply sS
 intro i
 rw[List.getElem?_modify,List.getElem?_set,List.getElem?_set]
 by_cases hi:n=i
 .subst hi;simp[h]
 .simp [hi]
theorem akC {α:Type} (B:List α) (n:Nat) (g:α->α) (h:n<B.length):B.modify n g=B.set n (g B[n]):=by
 apply sS
 intro i
 rw[List.getElem?_modify,List.getElem?_set]
 by_cases hi:n=i
 .subst hi;simp[h]
 .simp [hi]
theorem Q0 (b:List aC) (B:List cK) (n:Nat) (t2 id:Int) (e:cK) (he:B[n]? =some e) (i:e.2.2.length<=1000000) (j:∀p,p∈e.2.2->p.2.length<=1000000):Cp b B (n:Int) t2 id=some (b,B.set n (e.1,e.2.1,hb e.2.2 id t2)):=by
 have g:n<B.length:=(dx.1 he).1
 have heq:B[n]=e:=(dx.1 he).2
 obtain⟨f,t,ps⟩:=e
 unfold Cp
 rw[ai ⟨Int.natCast_nonneg n,by omega⟩]
 simp only[er,he,af,if_true]
 have l:∀v:cK,(B.set n v)[n]? =some v:=fun v=>by rw[List.getElem?_set_self g]
 simp only[l,af]
 rcases List.eq_nil_or_concat ps with rfl|⟨q,p,rfl⟩
 .rw [ai (by unfold fits;decide),aq (by decide),ao,ai (b5 (by simp) (by simp)),ai (by unfold fits;decide)]
  rw[show((([]:List EPost).length:Int)-1+1)=0 from rfl]
  rw[show(([]:List EPost)++ [(id,([]:List Int))])[Int.toNat 0]? =some (id,[])from rfl]
  simp only[af]
  rw[ai (by simp),ai (b5 (by simp) (by simp)),ai (by simp),RP _ _ _ _ g]
  rfl
 .rw [List.concat_eq_append]at*
  have r:((q++ [p]).length:Int)-1=(q.length:Int):=by simp
  have s:(q++ [p])[q.length]? =some p:=by simp
  have u:q.length+1<=1000000:=by simpa using i
  have x:p.2.length<=1000000:=j p (by simp)
  rw[r,ai (by unfold fits;omega),ak (by omega),aj]
  simp only[er,s,af]
  have h:(0:Int)<=q.length/\(q.length:Int)<((q++ [p]).length:Int):=⟨by omega,by rw[a1];simp only[aZ,bE];omega⟩
  rw[ai h]
  have c:(q++ [p]).getLast? =some p:=by simp
  by_cases hi:p.1=id
  .rw [aq hi,bn,aj,ai h,ai (b5 (by simp only[aZ,bE];omega) (by simp only[aZ,bE];omega)),ai h,akC _ _ _ g,heq]
   unfold hb
   rw[c]
   dsimp only
   rw[ai hi,List.dropLast_concat]
   simp
  .have c2:((q.length:Int)+1).toNat=q.length+1:=by omega
   have y:(q++ [p]++ [(id,([]:List Int))])[q.length+1]? =some (id,[]):=by simp
   have c3:(0:Int)<=q.length+1/\(q.length:Int)+1<((q++ [p]++ [(id,([]:List Int))]).length:Int):=⟨by omega,by simp only[a1,aZ,bE];omega⟩
   rw[ak hi,dt,ao,ai (b5 (by simp only[a1,aZ,bE];omega) (by simp only[a1,aZ,bE];omega)),ai (aN (n:=q.length) (by omega)),c2,y]
   simp only[af]
   rw[ai c3,ai (b5 (by simp) (by simp)),ai c3,RP _ _ _ _ g]
   unfold hb
   rw[c]
   dsimp only
   rw[aA hi]
   simp
theorem Q4 (o:fL):∀es:List cK,o.1∉es.map db->hj o es=es++ [(o.1.1,o.1.2,hb [] o.2.1 o.2.2)]
 | [],_=>rfl
 |e::l,h=>by
  rw[cv,bm,not_or]at h
  unfold hj
  rw[aA (fun e=>h.1 e.symm),Q4 o l h.2]
  rfl
theorem Q2 (o:fL):∀(es:List cK) (n:Nat) (c:n<es.length),db es[n]=o.1->(∀m (hm:m<n),db (es[m]'(by omega))≠o.1)->hj o es=es.set n (es[n].1,es[n].2.1,hb es[n].2.2 o.2.1 o.2.2)
 |e::l,0,_,h,_=>by
  unfold hj
  rw[ai (show db e=o.1 from h)]
  rfl
 |e::l,n+1,c,h,g=>by
  unfold hj
  rw[aA (show ¬db e=o.1 from g 0 (by omega)),Q2 o l n (by simpa using c) h (fun m hm=>g (m+1) (by omega))]
  rfl
theorem Yx (N:Nat) (es:List cK) (f:List UInt8) (t:dp) (x:es.length<N) (u:es.length<=1000000):Def (xm N es (f,t)) fun r=>(r=-1/\(f,t.1)∉es.map db)\/ ∃(n:Nat) (j:n<es.length),r=(n:Int)/\db es[n]=(f,t.1)/\∀m (hm:m<n),db (es[m]'(by omega))≠(f,t.1):=by
 unfold xm
 refine Def.upto es.length (fun n g=>g=(es,(f,t),(es.length:Int),(n:Int))/\∀m (hm:m<es.length),m<n->db es[m]≠(f,t.1)) (fun go g l=>?_) (fun go n g j l p=>?_) N 0 _ (bg _) ⟨rfl,fun m _ h=>absurd h (sQ _)⟩ (by omega)
 .obtain ⟨rfl,h⟩:=l
  dsimp only
  rw[ak (bp _),aj]
  refine Def.ret (.inl ⟨rfl,fun i=>?_⟩)
  obtain⟨e,he,i⟩:=cd.1 i
  obtain⟨m,hm,rfl⟩:=fe.1 he
  exact h m hm hm i
 .obtain ⟨rfl,h⟩:=l
  dsimp only
  rw[aq (by omega:(n:Int)<es.length),ao,aO j,af]
  have i:BG N es[n].1 es[n].2.1 es[n].2.2 f t=some (decide (db es[n]=(f,t.1))):=by
   unfold BG db
   by_cases c:es[n].1=f
   .rw [aq c,ao];simp[c]
   .rw [ak c,aj];simp[c]
  rw[i,af]
  by_cases c:db es[n]=(f,t.1)
  .rw [aq c,ao]
   exact Def.ret (.inr ⟨n,j,rfl,c,fun m hm=>h m (by omega) hm⟩)
  .rw [ak c,aj,ai (aN (n:=n) (by omega))]
   refine p _ ⟨by rw[aR],fun m hm v=>?_⟩
   by_cases s:m=n
   .subst s;exact c
   .exact h m hm (by omega)
theorem alr (N:Nat) (f:List UInt8) (t:dp) (id:Int) (b:List aC) (es:List cK) (i:es.length<N) (c:es.length<=1000000) (j:∀e,e∈es->e.2.2.length<=1000000/\∀p,p∈e.2.2->p.2.length<=1000000):zX N f t.1 t.2 id b es=some (b,hj ((f,t.1),id,t.2) es):=by
 rw[put_eq]
 refine Def.get (Def.bind (Yx N es f t i c) fun r l=>?_)
 rcases l with⟨rfl,g⟩|⟨n,h,rfl,g,s⟩
 .rw [aq (by decide),ao,ai (b5 (by simp only[aZ,bE];omega) (by simp only[aZ,bE];omega))]
  rw[Q0 b _ es.length t.2 id (f,t.1,[]) (by simp) (by simp) (by simp),Q4 _ _ g]
  refine Def.ret ?_
  simp
 .rw [ak (by omega),aj]
  have hm:=j _ (bA h)
  rw[Q0 b es n t.2 id es[n] (bH h) hm.1 hm.2,Q2 ((f,t.1),id,t.2) es n h g s]
  exact Def.ret rfl
end Go.Proofs.YtnkagklajgimlaaGreatDoor
