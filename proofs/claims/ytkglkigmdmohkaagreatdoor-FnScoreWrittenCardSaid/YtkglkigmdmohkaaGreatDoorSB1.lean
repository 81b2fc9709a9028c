import Derived.Test.YtkglkigmdmohkaaGreatDoorSA1
set_option linter.unusedVariables false
set_option linter.unusedSimpArgs false
namespace Go.Proofs.YtkglkigmdmohkaaGreatDoor
open Go.RowKit
abbrev EKey :=List UInt8×List UInt8
abbrev EOcc :=EKey×Int×Int
def keyE (e:EEntry):EKey:=(e.1,e.2.1)
def addPost (ps:List EPost) (id at':Int):List EPost:=match ps.getLast? with
 |some p=>if p.1=id then ps.dropLast++ [(p.1,p.2++ [at'])]else ps++ [(id,[at'])]
 |none=>[(id,[at'])]
def putE (o:EOcc):List EEntry->List EEntry
 | []=>[(o.1.1,o.1.2,addPost [] o.2.1 o.2.2)]
 |e::l=>if keyE e=o.1 then(e.1,e.2.1,addPost e.2.2 o.2.1 o.2.2)::l else e::putE o l
theorem putE_keys (o:EOcc):∀es:List EEntry,(putE o es).map keyE=if o.1∈es.map keyE then es.map keyE else es.map keyE++ [o.1]
 | []=>rfl
 |e::l=>by
  have ih:=putE_keys o l
  unfold putE
  by_cases h:keyE e=o.1
  .rw [zf h]
   rw[zf (by rw[zv,h];exact zy)]
   rfl
  .rw [zu h,zv,ih]
   by_cases h2:o.1∈l.map keyE
   .rw [zf h2,zf (by rw[zv];exact zl _ h2),zv]
   .rw [zu h2,zu (by rw[zv,zp];rintro(h3|h3);exact h h3.symm;exact h2 h3),zv,zbk]
theorem putE_mem (o:EOcc):∀es:List EEntry,(es.map keyE).Nodup->∀e,e∈putE o es->(keyE e≠o.1/\e∈es)\/(keyE e=o.1/\((∃e0,e0∈es/\keyE e0=o.1/\e.2.2=addPost e0.2.2 o.2.1 o.2.2)\/(o.1∉es.map keyE/\e.2.2=addPost [] o.2.1 o.2.2)))
 | [],_,e,he=>by
  unfold putE at he
  rw[zaD]at he
  subst he
  exact .inr ⟨rfl,.inr ⟨by simp,rfl⟩⟩
 |d::l,hn,e,he=>by
  rw[zv,zbg]at hn
  unfold putE at he
  by_cases h:keyE d=o.1
  .rw [zf h]at he
   rcases zp.1 he with rfl|he
   .exact .inr ⟨h,.inl ⟨d,zy,h,rfl⟩⟩
   .refine .inl ⟨fun hk=>hn.1 (by rw[h,<-hk];exact zca he),zl _ he⟩
  .rw [zu h]at he
   rcases zp.1 he with rfl|he
   .exact .inl ⟨h,zy⟩
   .rcases putE_mem o l hn.2 e he with⟨h1,h2⟩|⟨h1,⟨e0,h2,h3,h4⟩|⟨h2,h3⟩⟩
    .exact .inl ⟨h1,zl _ h2⟩
    .exact .inr ⟨h1,.inl ⟨e0,zl _ h2,h3,h4⟩⟩
    .exact .inr ⟨h1,.inr ⟨by rw[zv,zp];rintro(h4|h4);exact h h4.symm;exact h2 h4,h3⟩⟩
def postsOf (k:EKey) (occ:List EOcc):List EPost:=(occ.filter fun o=>decide (o.1=k)).foldl (fun ps o=>addPost ps o.2.1 o.2.2) []
def putAll (occ:List EOcc):List EEntry:=occ.foldl (fun es o=>putE o es) []
theorem joA (occ:List EOcc) (o:EOcc):putAll (occ++ [o])=putE o (putAll occ):=by unfold putAll;rw[zaX];rfl
theorem postsOf_snoc (k:EKey) (occ:List EOcc) (o:EOcc):postsOf k (occ++ [o])=if o.1=k then addPost (postsOf k occ) o.2.1 o.2.2 else postsOf k occ:=by
 unfold postsOf
 rw[za6,zaX]
 by_cases h:o.1=k
 .rw [zf h];simp[h]
 .rw [zu h];simp[h]
structure Canon (es:List EEntry) (occ:List EOcc):Prop where
 nodup:(es.map keyE).Nodup
 keys:∀k,k∈es.map keyE↔∃o,o∈occ/\o.1=k
 posts:∀e,e∈es->e.2.2=postsOf (keyE e) occ
theorem postsOf_none {k:EKey} {occ:List EOcc} (h:¬∃o,o∈occ/\o.1=k):postsOf k occ=[]:=by
 unfold postsOf
 have:(occ.filter fun o=>decide (o.1=k))=[]:=by
  rw[List.filter_eq_nil_iff]
  intro o ho hk
  exact h ⟨o,ho,of_decide_eq_true hk⟩
 rw[this];rfl
theorem putE_canon {es:List EEntry} {occ:List EOcc} (ih:Canon es occ) (o:EOcc):Canon (putE o es) (occ++ [o]):=by
 refine⟨?_,fun k=>?_,fun e he=>?_⟩
 .rw [putE_keys]
  split
  .exact ih.nodup
  .rename_i h
   exact List.nodup_append.2 ⟨ih.nodup,by simp,fun a ha b hb=>by rw[zaD]at hb;subst hb;exact fun e=>h (e▸ha)⟩
 .rw [putE_keys]
  constructor
  .intro hk
   have:k∈es.map keyE\/k=o.1:=by
    split at hk
    .exact .inl hk
    .rcases zaB.1 hk with h|h
     .exact .inl h
     .exact .inr (zaD.1 h)
   rcases this with h|h
   .obtain ⟨p,hp,hpk⟩:=(ih.keys k).1 h
    exact⟨p,zad _ hp,hpk⟩
   .exact ⟨o,by simp,h.symm⟩
  .rintro ⟨p,hp,rfl⟩
   rcases zaB.1 hp with hp|hp
   .have:=(ih.keys p.1).2 ⟨p,hp,rfl⟩
    split
    .exact this
    .exact zad _ this
   .rw [zaD]at hp
    subst hp
    split
    .assumption
    .simp
 .rw [postsOf_snoc]
  rcases putE_mem o es ih.nodup e he with⟨h1,h2⟩|⟨h1,⟨e0,h2,h3,h4⟩|⟨h2,h3⟩⟩
  .rw [zu (Ne.symm h1)];exact ih.posts e h2
  .rw [zf h1.symm,h4,ih.posts e0 h2,h3,h1]
  .rw [zf h1.symm,h3,h1,postsOf_none (fun hk=>h2 ((ih.keys _).2 hk))]
theorem canon_nil :Canon [] []:=⟨by simp,fun k=>by simp,fun e he=>by cases he⟩
theorem putAll_canon (occ:List EOcc):Canon (putAll occ) occ:=by
 have key:∀(l:List EOcc) (es:List EEntry) (occ0:List EOcc),Canon es occ0->Canon (l.foldl (fun es o=>putE o es) es) (occ0++l):=by
  intro l
  induction l with
  |nil=>intro es occ0 h;simpa using h
  |cons o l ih=>
   intro es occ0 h
   have:=ih (putE o es) (occ0++ [o]) (putE_canon h o)
   rw[zao]at this
   exact this
 have:=key occ [] [] canon_nil
 rw[zaW]at this
 exact this
def ltK (a b:EKey):Bool:=Op.bytesLess a.1 b.1||(decide (a.1=b.1)&&Op.bytesLess a.2 b.2)
theorem bl_irrefl (x:List UInt8):Op.bytesLess x x=false:=by
 have:=bytesLess_or x x
 cases h:Op.bytesLess x x with
 |false=>rfl
 |true=>rw[h]at this;cases this
theorem bl_total {x y:List UInt8} (h:Op.bytesLess x y=false) (hne:x≠y):Op.bytesLess y x=true:=by
 have:=bytesLess_or x y
 rw[h,zd hne]at this
 cases hh:Op.bytesLess y x with
 |true=>rfl
 |false=>rw[hh]at this;cases this
theorem bl_trans :∀ {x y z:List UInt8},Op.bytesLess x y=true->Op.bytesLess y z=true->Op.bytesLess x z=true
 | [],[],_,h,_=>by simp[Op.bytesLess]at h
 |_::_,[],_,h,_=>by simp[Op.bytesLess]at h
 | [],_::_,[],_,h=>by simp[Op.bytesLess]at h
 | [],_::_,_::_,_,_=>by simp[Op.bytesLess]
 |_::_,_::_,[],_,h=>by simp[Op.bytesLess]at h
 |a::x,b::y,c::z,h1,h2=>by
  simp only[Op.bytesLess]at h1 h2⊢
  have ih:= @bl_trans x y z
  simp only[za1,zj,zw,beq_iff_eq,UInt8.lt_iff_toNat_lt]at h1 h2⊢
  rcases h1 with h1|⟨e1,h1⟩<;>rcases h2 with h2|⟨e2,h2⟩
  .exact .inl (by omega)
  .exact .inl (by rw[<-e2];exact h1)
  .exact .inl (by rw[e1];exact h2)
  .exact .inr ⟨e1.trans e2,ih h1 h2⟩
theorem ltK_irrefl (a:EKey):ltK a a=false:=by unfold ltK;rw[bl_irrefl,bl_irrefl,Bool.and_false];rfl
theorem ltK_trans {a b c:EKey} (h:ltK a b=true) (k:ltK b c=true):ltK a c=true:=by
 unfold ltK at h k⊢
 simp only[za1,zj,zw]at h k⊢
 rcases h with h|⟨h1,h2⟩<;>rcases k with k|⟨k1,k2⟩
 .exact .inl (bl_trans h k)
 .exact .inl (by rw[<-k1];exact h)
 .exact .inl (by rw[h1];exact k)
 .exact .inr ⟨h1.trans k1,bl_trans h2 k2⟩
theorem sorted_unique {α:Type} (lt:α->α->Bool) (hi:∀a,lt a a=false) (ht:∀a b c,lt a b=true->lt b c=true->lt a c=true):∀(l m:List α),l.Pairwise (fun a b=>lt a b=true)->m.Pairwise (fun a b=>lt a b=true)->(∀x,x∈l↔x∈m)->l=m
 | [],[],_,_,_=>rfl
 | [],b::m,_,_,h=>by have:=(h b).2 zy;cases this
 |a::l,[],_,_,h=>by have:=(h a).1 zy;cases this
 |a::l,b::m,h1,h2,h=>by
  rw[zas]at h1 h2
  have hab:a=b:=by
   rcases zp.1 ((h a).1 zy)with e|e
   .exact e
   .rcases zp.1 ((h b).2 zy)with e'|e'
    .exact e'.symm
    .have:=ht a b a (h1.1 b e') (h2.1 a e)
     rw[hi]at this;cases this
  subst hab
  have:l=m:=sorted_unique lt hi ht l m h1.2 h2.2 fun x=>by
   constructor
   .intro hx
    rcases zp.1 ((h x).1 (zl _ hx))with e|e
    .subst e;have:=h1.1 x hx;rw[hi]at this;cases this
    .exact e
   .intro hx
    rcases zp.1 ((h x).2 (zl _ hx))with e|e
    .subst e;have:=h2.1 x hx;rw[hi]at this;cases this
    .exact e
  rw[this]
theorem entries_unique {A B:List EEntry} {P:EKey->List EPost} (hA:(A.map keyE).Pairwise fun a b=>ltK a b=true) (hB:(B.map keyE).Pairwise fun a b=>ltK a b=true) (hk:∀k,k∈A.map keyE↔k∈B.map keyE) (pA:∀e,e∈A->e.2.2=P (keyE e)) (pB:∀e,e∈B->e.2.2=P (keyE e)):A=B:=by
 have h:=sorted_unique ltK ltK_irrefl (fun a b c=>ltK_trans) _ _ hA hB hk
 have back:∀l:List EEntry,(∀e,e∈l->e.2.2=P (keyE e))->l=(l.map keyE).map fun k=>(k.1,k.2,P k):=fun l hl=>by
  rw[zbO]
  conv=>lhs;rw[<-List.map_id l]
  refine za0 fun e he=>?_
  show e=(e.1,e.2.1,P (keyE e))
  rw[<-hl e he]
 rw[back A pA,back B pB,h]
def fieldF (fs:List EField) (name:List UInt8):List UInt8:=match fs with
 | []=>[]
 |f::l=>if f.1=name then f.2 else fieldF l name
theorem terms_nil (c:EConf):terms c []=[]:=by unfold terms plain words;rw[wordsF_nil];exact termsF_nil _
def occF (c:EConf) (id:Int) (fs:List EField):List EOcc:=fs.flatMap fun f=>(terms c f.2).map fun t=>((f.1,t.1),id,t.2)
def occ (c:EConf) (docs:List EDoc):List EOcc:=docs.flatMap fun d=>occF c d.1 d.2.1
def ats (c:EConf) (d:EDoc) (k:EKey):List Int:=((terms c (fieldF d.2.1 k.1)).filter fun t=>decide (t.1=k.2)).map (·.2)
theorem occF_other (c:EConf) (id:Int) (k:EKey):∀fs:List EField,k.1∉fs.map (·.1)->(occF c id fs).filter (fun o=>decide (o.1=k))=[]
 | [],_=>rfl
 |f::l,h=>by
  rw[zv,zp]at h
  unfold occF
  rw[zbu,za6]
  have h1:((terms c f.2).map fun t=>(((f.1,t.1),id,t.2):EOcc)).filter (fun o=>decide (o.1=k))=[]:=by
   rw[List.filter_eq_nil_iff]
   intro o ho hk
   obtain⟨t,_,rfl⟩:=zab.1 ho
   have:=of_decide_eq_true hk
   exact h (.inl (by rw[<-this]))
  rw[h1,zaW]
  exact occF_other c id k l fun hh=>h (.inr hh)
theorem fieldF_none (name:List UInt8):∀fs:List EField,name∉fs.map (·.1)->fieldF fs name=[]
 | [],_=>rfl
 |f::l,h=>by
  rw[zv,zp]at h
  unfold fieldF
  rw[zu (fun e=>h (.inl e.symm))]
  exact fieldF_none name l fun hh=>h (.inr hh)
theorem fieldF_mem :∀(fs:List EField),(fs.map (·.1)).Nodup->∀f,f∈fs->fieldF fs f.1=f.2
 | [],_,f,hf=>by cases hf
 |g::l,hn,f,hf=>by
  rw[zv,zbg]at hn
  unfold fieldF
  rcases zp.1 hf with rfl|hf
  .rw [zf rfl]
  .rw [zu (fun e=>hn.1 (by rw[e];exact zca hf))]
   exact fieldF_mem l hn.2 f hf
theorem occF_filter (c:EConf) (id:Int) (k:EKey):∀fs:List EField,(fs.map (·.1)).Nodup->(occF c id fs).filter (fun o=>decide (o.1=k))=(((terms c (fieldF fs k.1)).filter fun t=>decide (t.1=k.2)).map (·.2)).map fun a=>(k,id,a)
 | [],_=>by unfold fieldF occF;rw[terms_nil];rfl
 |f::l,hn=>by
  rw[zv,zbg]at hn
  by_cases e:f.1=k.1
  .have h2:=occF_other c id k l (by rw[<-e];exact hn.1)
   unfold fieldF
   rw[zf e]
   unfold occF at h2⊢
   rw[zbu,za6,h2,zat]
   generalize terms c f.2=ts
   induction ts with
   |nil=>rfl
   |cons t ts ih=>
    rw[zv,za9,za9,ih]
    have:(decide (((f.1,t.1):EKey)=k))=decide (t.1=k.2):=by
     rw[decide_eq_decide]
     constructor
     .intro h;rw[<-h]
     .intro h;rw[Prod.ext_iff];exact⟨e,h⟩
    rw[this]
    by_cases h:t.1=k.2
    .rw [zf (zb h),zf (zb h),zv,zv]
     congr 1
     rw[show((f.1,t.1):EKey)=k from Prod.ext e h]
    .rw [zu (by simp[h]),zu (by simp[h])]
  .have ih:=occF_filter c id k l hn.2
   unfold fieldF
   rw[zu e,<-ih]
   unfold occF
   rw[zbu,za6]
   have h1:((terms c f.2).map fun t=>(((f.1,t.1),id,t.2):EOcc)).filter (fun o=>decide (o.1=k))=[]:=by
    rw[List.filter_eq_nil_iff]
    intro o ho hk
    obtain⟨t,_,rfl⟩:=zab.1 ho
    have:=of_decide_eq_true hk
    exact e (by rw[<-this])
   rw[h1,zaW]
theorem addPost_same (acc:List EPost) (id a:Int) (B:List Int):addPost (acc++ [(id,B)]) id a=acc++ [(id,B++ [a])]:=by
 unfold addPost
 rw[List.getLast?_concat]
 dsimp only
 rw[zf rfl,List.dropLast_concat]
theorem addPosts_same (acc:List EPost) (id:Int):∀(A B:List Int),A.foldl (fun ps a=>addPost ps id a) (acc++ [(id,B)])=acc++ [(id,B++A)]
 | [],B=>by simp
 |a::A,B=>by rw[zaq,addPost_same,addPosts_same acc id A];simp
theorem addPosts (acc:List EPost) (id:Int) (A:List Int) (h:∀p,acc.getLast? =some p->p.1≠id):A.foldl (fun ps a=>addPost ps id a) acc=if A=[]then acc else acc++ [(id,A)]:=by
 cases A with
 |nil=>rfl
 |cons a A=>
  rw[zu (by simp),zaq]
  have:addPost acc id a=acc++ [(id,[a])]:=by
   unfold addPost
   cases hl:acc.getLast? with
   |none=>rw[List.getLast?_eq_none_iff.1 hl];rfl
   |some p=>dsimp only;rw[zu (h p hl)]
  rw[this,addPosts_same]
  rfl
def postsS (c:EConf) (docs:List EDoc) (k:EKey):List EPost:=docs.filterMap fun d=>if ats c d k=[]then none else some (d.1,ats c d k)
structure DocsIn (docs:List EDoc):Prop where
 ids:docs.Pairwise fun a b=>a.1<b.1
 names:∀d,d∈docs->(d.2.1.map (·.1)).Nodup
theorem postsOf_occ (c:EConf) (k:EKey) {docs:List EDoc} (hd:DocsIn docs):postsOf k (occ c docs)=postsS c docs k:=by
 have key:∀(docs:List EDoc) (acc:List EPost),DocsIn docs->(∀p,p∈acc->∀d,d∈docs->p.1<d.1)->((occ c docs).filter fun o=>decide (o.1=k)).foldl (fun ps o=>addPost ps o.2.1 o.2.2) acc=acc++postsS c docs k:=by
  intro docs
  induction docs with
  |nil=>intro acc _ _;simp[occ,postsS]
  |cons d l ih=>
   intro acc hd hacc
   have hids:=zas.1 hd.ids
   unfold occ
   rw[zbu,za6,zaX,occF_filter c d.1 k d.2.1 (hd.names d zy),List.foldl_map]
   have h1:(((terms c (fieldF d.2.1 k.1)).filter fun t=>decide (t.1=k.2)).map (·.2)).foldl (fun ps a=>addPost ps d.1 a) acc=if ats c d k=[]then acc else acc++ [(d.1,ats c d k)]:=addPosts acc d.1 _ fun p hp=>by
    have:=hacc p (List.mem_of_getLast? hp) d zy
    omega
   rw[h1]
   have hl:DocsIn l:=⟨hids.2,fun x hx=>hd.names x (zl _ hx)⟩
   unfold postsS
   rw[List.filterMap_cons]
   by_cases ha:ats c d k=[]
   .rw [zf ha,zf ha]
    exact ih acc hl fun p hp x hx=>hacc p hp x (zl _ hx)
   .rw [zu ha,zu ha]
    have:=ih (acc++ [(d.1,ats c d k)]) hl fun p hp x hx=>by
     rcases zaB.1 hp with hp|hp
     .exact hacc p hp x (zl _ hx)
     .rw [zaD]at hp;subst hp;exact hids.1 x hx
    rw[zao]at this
    exact this
 have:=key docs [] hd (fun p hp=>by cases hp)
 rw[zaW]at this
 exact this
def putS (l:List (List UInt8)) (s:List UInt8):List (List UInt8):=match l with
 | []=>[s]
 |x::r=>if Op.bytesLess x s=true then x::putS r s else if x=s then x::r else s::x::r
abbrev UpS (l:List (List UInt8)):Prop:=l.Pairwise fun a b=>Op.bytesLess a b=true
theorem putS_mem (s x:List UInt8):∀l,x∈putS l s↔x=s\/x∈l
 | []=>by simp[putS]
 |y::r=>by
  unfold putS
  have ih:=putS_mem s x r
  split
  .rw [zp,ih,zp];constructor<;>rintro(h|h|h)<;>simp_all
  .split
   .rename_i e;subst e;simp
   .simp
theorem putS_up (s:List UInt8):∀l,UpS l->UpS (putS l s)
 | [],_=>by simp[putS,UpS]
 |y::r,h=>by
  rw[UpS,zas]at h
  unfold putS
  split
  .rename_i hy
   rw[UpS,zas]
   refine⟨fun z hz=>?_,putS_up s r h.2⟩
   rcases(putS_mem s z r).1 hz with rfl|hz
   .exact hy
   .exact h.1 z hz
  .split
   .rw [UpS,zas];exact h
   .rename_i h1 h2
    have hs:Op.bytesLess s y=true:=bl_total (by simpa using h1) h2
    rw[UpS,zas,zas]
    refine⟨fun z hz=>?_,h⟩
    rcases zp.1 hz with rfl|hz
    .exact hs
    .exact bl_trans hs (h.1 z hz)
theorem putSs_mem {α:Type} (f:α->List UInt8) (x:List UInt8):∀(l:List α) (acc:List (List UInt8)),x∈l.foldl (fun a y=>putS a (f y)) acc↔x∈acc\/ ∃y,y∈l/\f y=x
 | [],acc=>by simp
 |y::l,acc=>by
  rw[zaq,putSs_mem f x l,putS_mem]
  constructor
  .rintro ((h|h)|⟨z,hz,e⟩)
   .exact .inr ⟨y,zy,h.symm⟩
   .exact .inl h
   .exact .inr ⟨z,zl _ hz,e⟩
  .rintro (h|⟨z,hz,e⟩)
   .exact .inl (.inr h)
   .rcases zp.1 hz with rfl|hz
    .exact .inl (.inl e.symm)
    .exact .inr ⟨z,hz,e⟩
theorem putSs_up {α:Type} (f:α->List UInt8):∀(l:List α) (acc:List (List UInt8)),UpS acc->UpS (l.foldl (fun a y=>putS a (f y)) acc)
 | [],_,h=>h
 |y::l,acc,h=>putSs_up f l _ (putS_up _ _ h)
def namesS (docs:List EDoc):List (List UInt8):=(docs.flatMap fun d=>d.2.1).foldl (fun a f=>putS a f.1) []
def termsL (c:EConf) (docs:List EDoc) (f:List UInt8):List (List UInt8):=(docs.flatMap fun d=>terms c (fieldF d.2.1 f)).foldl (fun a t=>putS a t.1) []
def entriesS (c:EConf) (docs:List EDoc):List EEntry:=(namesS docs).flatMap fun f=>(termsL c docs f).map fun t=>(f,t,postsS c docs (f,t))
theorem entriesS_keys (c:EConf) (docs:List EDoc):(entriesS c docs).map keyE=(namesS docs).flatMap fun f=>(termsL c docs f).map fun t=>(f,t):=by
 unfold entriesS
 rw[List.map_flatMap]
 congr 1
 funext f
 rw[zbO]
 rfl
theorem entriesS_up (c:EConf) (docs:List EDoc):((entriesS c docs).map keyE).Pairwise fun a b=>ltK a b=true:=by
 rw[entriesS_keys]
 have hn:UpS (namesS docs):=putSs_up _ _ _ za4
 generalize namesS docs=ns at hn
 induction ns with
 |nil=>exact za4
 |cons f l ih=>
  rw[UpS,zas]at hn
  rw[zbu,List.pairwise_append]
  refine⟨?_,ih hn.2,fun a ha b hb=>?_⟩
  .have ht:UpS (termsL c docs f):=putSs_up _ _ _ za4
   refine zbb.2 (ht.imp fun h=>?_)
   unfold ltK
   simp[h]
  .obtain ⟨t,_,rfl⟩:=zab.1 ha
   obtain⟨g,hg,hb⟩:=zaT.1 hb
   obtain⟨u,_,rfl⟩:=zab.1 hb
   unfold ltK
   simp[hn.1 g hg]
theorem entriesS_mem (c:EConf) {docs:List EDoc} (hd:DocsIn docs) (k:EKey):k∈(entriesS c docs).map keyE↔∃o,o∈occ c docs/\o.1=k:=by
 rw[entriesS_keys]
 constructor
 .intro h
  obtain⟨f,hf,h⟩:=zaT.1 h
  obtain⟨t,ht,rfl⟩:=zab.1 h
  unfold termsL at ht
  rcases(putSs_mem _ _ _ _).1 ht with h|⟨y,hy,rfl⟩
  .cases h
  .obtain ⟨d,hd',hy⟩:=zaT.1 hy
   by_cases hn:f∈d.2.1.map (·.1)
   .obtain ⟨g,hg,rfl⟩:=zab.1 hn
    rw[fieldF_mem _ (hd.names d hd') g hg]at hy
    exact⟨((g.1,y.1),d.1,y.2),zaT.2 ⟨d,hd',zaT.2 ⟨g,hg,zab.2 ⟨y,hy,rfl⟩⟩⟩,rfl⟩
   .rw [fieldF_none _ _ hn,terms_nil]at hy;cases hy
 .rintro ⟨o,ho,rfl⟩
  obtain⟨d,hd',ho⟩:=zaT.1 ho
  obtain⟨g,hg,ho⟩:=zaT.1 ho
  obtain⟨t,ht,rfl⟩:=zab.1 ho
  refine zaT.2 ⟨g.1,(putSs_mem _ _ _ _).2 (.inr ⟨g,zaT.2 ⟨d,hd',hg⟩,rfl⟩),zab.2 ⟨t.1,(putSs_mem _ _ _ _).2 (.inr ⟨t,zaT.2 ⟨d,hd',?_⟩,rfl⟩),rfl⟩⟩
  rw[fieldF_mem _ (hd.names d hd') g hg]
  exact ht
theorem sorted_entries (c:EConf) {docs:List EDoc} (hd:DocsIn docs) {R:List EEntry} (hp:R.Perm (putAll (occ c docs))) (hs:R.Pairwise fun a b=>ltK (keyE a) (keyE b)=true):R=entriesS c docs:=by
 have hc:=putAll_canon (occ c docs)
 refine entries_unique (P:=fun k=>postsS c docs k) (zbb.2 hs) (entriesS_up c docs) (fun k=>?_) (fun e he=>?_) (fun e he=>?_)
 .rw [entriesS_mem c hd,<-hc.keys,(hp.map keyE).mem_iff]
 .rw [hc.posts e (hp.mem_iff.1 he),postsOf_occ c _ hd]
 .unfold entriesS at he
  obtain⟨f,_,he⟩:=zaT.1 he
  obtain⟨t,_,rfl⟩:=zab.1 he
  rfl
structure DOk (docs:List EDoc):Prop where
 inn:DocsIn docs
 few:docs.length<=16
 each:∀d,d∈docs->d.2.1.length<=3/\d.2.2.length<=3/\∀f,f∈d.2.1->okT f.2=true/\f.2.length<=160
theorem okT_len {s:List UInt8} (h:okT s=true):s.length<=160:=by
 unfold okT at h
 simp only[zj,zw]at h
 omega
theorem pairwise_adj {α:Type} (R:α->α->Prop) (ht:∀a b c,R a b->R b c->R a c):∀l:List α,(∀(n:Nat) (h:n+1<l.length),R (l[n]'(by omega)) l[n+1])->l.Pairwise R
 | [],_=>za4
 | [a],_=>by simp
 |a::b::l,h=>by
  have ih:=pairwise_adj R ht (b::l) fun n hn=>h (n+1) (by simpa using hn)
  rw[zas]
  refine⟨fun x hx=>?_,ih⟩
  have hab:R a b:=h 0 (by simp)
  rcases zp.1 hx with rfl|hx
  .exact hab
  .exact ht a b x hab ((zas.1 ih).1 x hx)
theorem allN_at {len:Nat} {f:Nat->Bool} (h:allN len f=true) {n:Nat} (hn:n<len):f n=true:=by
 unfold allN at h
 rw[zax]at h
 exact h n (by simp;omega)
theorem okDocs_ok {docs:List EDoc} (h:okDocs docs=true):DOk docs:=by
 unfold okDocs at h
 rw[zj,zw]at h
 obtain⟨h1,h2⟩:=h
 have hdoc:∀d,d∈docs->okDoc d=true:=fun d hd=>by
  obtain⟨n,hn,rfl⟩:=zav.1 hd
  have:=allN_at h1 hn
  unfold okDc at this
  rw[zj,<-dAt_eq hn]at this
  exact this.1
 refine⟨⟨?_,fun d hd=>?_⟩,by omega,fun d hd=>?_⟩
 .refine pairwise_adj (fun a b:EDoc=>a.1<b.1) (fun a b c h k=>Int.lt_trans h k) docs fun n hn=>?_
  have:=allN_at h1 hn
  unfold okDc at this
  rw[zj,<-dAt_eq hn,show n+1-1=n from rfl,<-dAt_eq (by omega:n<docs.length)]at this
  have h3:=this.2
  rw[zd (by omega),zbf,zb2,decide_eq_false_iff_not]at h3
  omega
 .have:=hdoc d hd
  unfold okDoc at this
  simp only[zj]at this
  have hf:=this.1.2
  have hp:(d.2.1).Pairwise fun a b=>Op.bytesLess a.1 b.1=true:=pairwise_adj (fun a b:EField=>Op.bytesLess a.1 b.1=true) (fun a b c h k=>bl_trans h k) d.2.1 fun n hn=>by
   have h3:=allN_at hf hn
   unfold okF ahd at h3
   rw[zj,<-fAt_eq hn,show n+1-1=n from rfl,<-fAt_eq (by omega:n<d.2.1.length)]at h3
   have h4:=h3.2
   rw[zd (by omega),zbf]at h4
   exact h4
  refine zbb.2 (hp.imp fun {a b} h e=>?_)
  rw[e,bl_irrefl]at h;cases h
 .have:=hdoc d hd
  unfold okDoc at this
  simp only[zj,zw]at this
  refine⟨by omega,by omega,fun f hf=>?_⟩
  obtain⟨n,hn,rfl⟩:=zav.1 hf
  have h3:=allN_at this.1.2 hn
  unfold okF at h3
  rw[zj,zj,<-fAt_eq hn]at h3
  exact⟨h3.1.2,okT_len h3.1.2⟩
theorem fieldF_len {fs:List EField} (h:∀f,f∈fs->f.2.length<=160) (name:List UInt8):(fieldF fs name).length<=160:=by
 induction fs with
 |nil=>unfold fieldF;simp
 |cons f l ih=>
  unfold fieldF
  split
  .exact h f zy
  .exact ih fun g hg=>h g (zl _ hg)
theorem DOk.text {docs:List EDoc} (h:DOk docs) {d:EDoc} (hd:d∈docs) (name:List UInt8):(fieldF d.2.1 name).length<=160:=fieldF_len (fun f hf=>((h.each d hd).2.2 f hf).2) name
theorem putS_skip {s:List UInt8}:∀(a b:List (List UInt8)),(∀x,x∈a->Op.bytesLess x s=true)->putS (a++b) s=a++putS b s
 | [],b,_=>rfl
 |x::a,b,h=>by
  rw[zbk,putS,zf (h x zy),putS_skip a b fun y hy=>h y (zl _ hy)]
  rfl
theorem putS_len (s:List UInt8):∀l,(putS l s).length<=l.length+1
 | []=>by simp[putS]
 |x::r=>by
  unfold putS
  have:=putS_len s r
  split
  .simp;omega
  .split<;>simp
theorem putSs_len {α:Type} (f:α->List UInt8):∀(l:List α) (acc:List (List UInt8)),(l.foldl (fun a y=>putS a (f y)) acc).length<=acc.length+l.length
 | [],acc=>by simp
 |y::l,acc=>by
  rw[zaq]
  have h1:=putSs_len f l (putS acc (f y))
  have h2:=putS_len (f y) acc
  simp only[zi]
  omega
theorem l7Put_spec (N:Nat) (l:List (List UInt8)) (s:List UInt8) (hl:l.length<=1000000) (hN:1048576<N):s_l7Put_m N l s=some (putS l s):=by
 refine Def.get ?_
 unfold s_l7Put_m
 have fin:∀n:Nat,n<=l.length->(∀x,x∈l.take n->Op.bytesLess x s=true)->putS (l.drop n) s=s::l.drop n->Def (Option.bind (cut l 0 (n:Int)) fun y=>if room ([]:List (List UInt8)).length y.length 16 then(if room (([]:List (List UInt8))++y).length ([s]:List (List UInt8)).length 16 then(Option.bind (cut l (n:Int) (l.length:Int)) fun y2=>if room ((([]:List (List UInt8))++y)++([s]:List (List UInt8))).length y2.length 16 then some (((([]:List (List UInt8))++y)++([s]:List (List UInt8)))++y2)else none)else none)else none) (fun r=>r=putS l s):=fun n hn hlt hp=>by
  refine Def.cut (by decide) (by omega) (by omega) ?_
  simp only[zai,show(0:Int).toNat=0 from rfl,zbQ]
  refine Def.ite (room_of (by simp;omega) (by simp;omega)) (Def.ite (room_of (by simp;omega) (by simp;omega)) (Def.cutTo hn (Def.ite (room_of (by simp;omega) (by simp;omega)) (Def.ret ?_))))
  rw[<-zaR n l,putS_skip _ _ hlt,zaR,hp]
  simp
 refine Def.upto l.length (fun n g=>g=(l,s,(n:Int))/\∀x,x∈l.take n->Op.bytesLess x s=true) (fun go g hg=>?_) (fun go n g hn hg hgo=>?_) N 0 _ (zaf _) ⟨rfl,by simp⟩ (by omega)
 .obtain ⟨rfl,hlt⟩:=hg
  dsimp only
  rw[zd (zcd _),ze,ze]
  exact fin l.length (zae _) hlt (by rw[zbp];rfl)
 .obtain ⟨rfl,hlt⟩:=hg
  dsimp only
  rw[zb (by omega:(n:Int)<l.length),zg,zg,idx_at hn,za,za]
  have hd:=zan hn
  refine Def.bif (fun hb=>?_) (fun hb=>?_)
  .refine Def.ite (fits_nat (n:=n) (by omega)) (hgo _ ⟨by rw[cast_succ'],fun x hx=>?_⟩)
   rw[zo hn,zaB,zaD]at hx
   rcases hx with hx|rfl
   .exact hlt x hx
   .exact hb
  .refine Def.dif (fun he=>Def.ret ?_) (fun he=>fin n (by omega) hlt ?_)
   .rw [<-zaR n l,putS_skip _ _ hlt,zaR,hd,putS,zu (by rw[hb];decide),zf he,<-hd,zaR]
   .rw [hd,putS,zu (by rw[hb];decide),zu he]
theorem l6Field_spec (N:Nat) (d:Int) (fs:List EField) (at':List EAttr) (name:List UInt8) (hl:fs.length<=1000000) (hN:1048576<N):s_l6Field_m N d fs at' name=some (fieldF fs name):=by
 unfold s_l6Field_m
 refine(iter_scan _ fs.length (fun n=>(name,(n:Int),d,fs,at')) (fun n=>some (fieldF (fs.drop n) name)) (fun go=>?_) (fun go n hn hgo=>?_) N 0 (zaf _) (by omega)).trans rfl
 .dsimp only
  rw[zd (zcd _),ze,zbp]
  rfl
 .dsimp only
  simp only[cast_succ']at hgo
  rw[zb (by omega:(n:Int)<fs.length),zg,idx_at hn,za,za,zf (fits_nat (n:=n) (by omega)),zan hn,fieldF]
  by_cases e:fs[n].1=name
  .rw [zb e,zg,zf e]
  .rw [zd e,ze,zu e,hgo]
def atsOf (ts:List ETerm) (t:List UInt8):List Int:=(ts.filter fun x=>decide (x.1=t)).map (·.2)
theorem l7Post_spec (N:Nat) (c:EConf) (hc:okConf c=true) (d:EDoc) (f t:List UInt8) (hl:d.2.1.length<=1000000) (ht:(fieldF d.2.1 f).length<=160) (hN:1048576<N):s_l7Post_m N c.1 c.2 d.1 d.2.1 d.2.2 f t=some (ats c d (f,t)):=by
 unfold s_l7Post_m
 rw[l6Field_spec N _ _ _ _ hl hN,za,l2Terms_spec N c _ (by omega) hN hc,za]
 have hlen:=terms_len c (fieldF d.2.1 f)
 show _=some (atsOf (terms c (fieldF d.2.1 f)) t)
 generalize terms c (fieldF d.2.1 f)=ts at hlen
 refine(iter_scan _ ts.length (fun n=>(t,atsOf (ts.take n) t,ts,(n:Int))) (fun _=>some (atsOf ts t)) (fun go=>?_) (fun go n hn hgo=>?_) N 0 (zaf _) (by omega)).trans rfl
 .dsimp only
  rw[zd (zcd _),ze,zq]
 .dsimp only
  have hst:atsOf (ts.take (n+1)) t=atsOf (ts.take n) t++(if ts[n].1=t then [ts[n].2]else []):=by
   unfold atsOf
   rw[zo hn,za6,zaK]
   congr 1
   by_cases e:ts[n].1=t
   .rw [zf e];simp[e]
   .rw [zu e];simp[e]
  have hal:(atsOf (ts.take n) t).length<=n:=by unfold atsOf;rw[zar];exact zau (zbh _ _) (by simp;omega)
  rw[hst]at hgo
  simp only[cast_succ']at hgo
  rw[zb (by omega:(n:Int)<ts.length),zg,idx_at hn,za,za,zf (room_of (by simp only[zi,zac];omega) (by simp only[zi,zac];omega)),zf (fits_nat (n:=n) (by omega))]
  by_cases e:ts[n].1=t
  .rw [zb e,zg]
   rw[zf e]at hgo
   exact hgo
  .rw [zd e,ze]
   rw[zu e,zat]at hgo
   rw[zf (fits_nat (n:=n) (by omega))]
   exact hgo
theorem l7Entry_spec (N:Nat) (c:EConf) (hc:okConf c=true) {docs:List EDoc} (hd:DOk docs) (f t:List UInt8) (hN:1048576<N):s_l7Entry_m N c.1 c.2 docs f t=some (f,t,postsS c docs (f,t)):=by
 unfold s_l7Entry_m
 have hf:=hd.few
 refine(iter_scan _ docs.length (fun n=>(docs,f,t,(n:Int),c.1,c.2,([]:List UInt8),([]:List UInt8),f,t,postsS c (docs.take n) (f,t))) (fun _=>some (f,t,postsS c docs (f,t))) (fun go=>?_) (fun go n hn hgo=>?_) N 0 (zaf _) (by omega)).trans rfl
 .dsimp only
  rw[zd (zcd _),ze,zq]
 .dsimp only
  have hm:=zr hn
  have he:=hd.each _ hm
  have hst:postsS c (docs.take (n+1)) (f,t)=postsS c (docs.take n) (f,t)++(if ats c docs[n] (f,t)=[]then []else [(docs[n].1,ats c docs[n] (f,t))]):=by
   unfold postsS
   rw[filterMap_step _ _ _ hn]
   congr 1
   by_cases e:ats c docs[n] (f,t)=[]
   .rw [zf e,zf e]
   .rw [zu e,zu e]
  have hpl:(postsS c (docs.take n) (f,t)).length<=n:=zau (za3 _ _) (by simp;omega)
  rw[hst]at hgo
  simp only[cast_succ']at hgo
  rw[zb (by omega:(n:Int)<docs.length),zg,idx_at hn,za,l7Post_spec N c hc _ f t (by omega) (hd.text hm f) hN,za,za]
  by_cases e:ats c docs[n] (f,t)=[]
  .rw [e,zd (by simp),ze,zf (fits_nat (n:=n) (by omega))]
   rw[zf e,zat]at hgo
   exact hgo
  .rw [zb (by have:=List.length_pos_iff.2 e;omega),zg,zf (room_of (by simp only[zi,zac];omega) (by simp only[zi,zac];omega)),zf (fits_nat (n:=n) (by omega))]
   rw[zu e]at hgo
   exact hgo
theorem flat_len {α β:Type} (g:α->List β) (B:Nat):∀l:List α,(∀x,x∈l->(g x).length<=B)->(l.flatMap g).length<=B*l.length
 | [],_=>by simp
 |x::l,h=>by
  have h1:=flat_len g B l fun y hy=>h y (zl _ hy)
  have h2:=h x zy
  rw[zbu,zam,zi,Nat.mul_succ]
  omega
theorem flat_step {α β:Type} (g:α->List β) (l:List α) (n:Nat) (h:n<l.length):(l.take (n+1)).flatMap g=(l.take n).flatMap g++g l[n]:=by
 rw[zo h,List.flatMap_append,zbu,List.flatMap_nil,zat]
theorem map_step {α β:Type} (g:α->β) (l:List α) (n:Nat) (h:n<l.length):(l.take (n+1)).map g=(l.take n).map g++ [g l[n]]:=by
 rw[zo h,zaK];rfl
theorem namesS_len {docs:List EDoc} (hd:DOk docs) (n:Nat):(namesS (docs.take n)).length<=48:=by
 unfold namesS
 have h1:=putSs_len (fun f:EField=>f.1) ((docs.take n).flatMap fun d=>d.2.1) []
 have h2:=flat_len (fun d:EDoc=>d.2.1) 3 (docs.take n) fun d hd'=>(hd.each d (zaP hd')).1
 have h3:(docs.take n).length<=16:=by rw[zah];have:=hd.few;omega
 simp only[zac]at h1
 omega
theorem l7Names_spec (N:Nat) {docs:List EDoc} (hd:DOk docs) (hN:1048576<N):s_l7Names_m N docs=some (namesS docs):=by
 unfold s_l7Names_m
 have hf:=hd.few
 refine(iter_scan _ docs.length (fun n=>(docs,namesS (docs.take n),(n:Int))) (fun _=>some (namesS docs)) (fun go=>?_) (fun go n hn hgo=>?_) N 0 (zaf _) (by omega)).trans rfl
 .dsimp only
  rw[zd (zcd _),ze,zq]
 .dsimp only
  have hm:=zr hn
  have he:=(hd.each _ hm).1
  rw[zb (by omega:(n:Int)<docs.length),zg,<-hgo]
  have hst:namesS (docs.take (n+1))=docs[n].2.1.foldl (fun a f=>putS a f.1) (namesS (docs.take n)):=by unfold namesS;rw[flat_step _ _ _ hn,zaX]
  refine(iter_scan _ docs[n].2.1.length (fun k=>(docs,(docs[n].2.1.take k).foldl (fun a f=>putS a f.1) (namesS (docs.take n)),(n:Int),(k:Int))) (fun _=>go (docs,namesS (docs.take (n+1)),((n+1:Nat):Int))) (fun go2=>?_) (fun go2 k hk hgo2=>?_) N 0 (zaf _) (by omega)).trans rfl
  .dsimp only
   rw[idx_at hn,za,zd (zcd _),ze,zq,<-hst,zf (fits_nat (n:=n) (by omega)),cast_succ']
  .dsimp only
   have hl:=putSs_len (fun f:EField=>f.1) (docs[n].2.1.take k) (namesS (docs.take n))
   have hl2:=namesS_len hd n
   rw[zah]at hl
   rw[idx_at hn,za,zb (by omega:(k:Int)<docs[n].2.1.length),zg,za,idx_at hk,za,l7Put_spec N _ _ (by omega) hN,za,zf (fits_nat (n:=k) (by omega)),<-hgo2,foldl_step _ _ _ _ hk,cast_succ']
theorem termsL_len (c:EConf) {docs:List EDoc} (hd:DOk docs) (f:List UInt8) (n:Nat):(termsL c (docs.take n) f).length<=2560:=by
 unfold termsL
 have h1:=putSs_len (fun t:ETerm=>t.1) ((docs.take n).flatMap fun d=>terms c (fieldF d.2.1 f)) []
 have h2:=flat_len (fun d:EDoc=>terms c (fieldF d.2.1 f)) 160 (docs.take n) fun d hd'=>zau (terms_len c _) (hd.text (zaP hd') f)
 have h3:(docs.take n).length<=16:=by rw[zah];have:=hd.few;omega
 simp only[zac]at h1
 omega
theorem l7Terms_spec (N:Nat) (c:EConf) (hc:okConf c=true) {docs:List EDoc} (hd:DOk docs) (f:List UInt8) (hN:1048576<N):s_l7Terms_m N c.1 c.2 docs f=some (termsL c docs f):=by
 unfold s_l7Terms_m
 have hf:=hd.few
 refine(iter_scan _ docs.length (fun n=>(docs,f,termsL c (docs.take n) f,(n:Int),c.1,c.2)) (fun _=>some (termsL c docs f)) (fun go=>?_) (fun go n hn hgo=>?_) N 0 (zaf _) (by omega)).trans rfl
 .dsimp only
  rw[zd (zcd _),ze,zq]
 .dsimp only
  have hm:=zr hn
  have he:=(hd.each _ hm).1
  have htx:=hd.text hm f
  rw[zb (by omega:(n:Int)<docs.length),zg,idx_at hn,za,l6Field_spec N _ _ _ _ (by omega) hN,za,l2Terms_spec N c _ (by omega) hN hc,za,<-hgo]
  have hst:termsL c (docs.take (n+1)) f=(terms c (fieldF docs[n].2.1 f)).foldl (fun a t=>putS a t.1) (termsL c (docs.take n) f):=by unfold termsL;rw[flat_step _ _ _ hn,zaX]
  have htl:=terms_len c (fieldF docs[n].2.1 f)
  generalize terms c (fieldF docs[n].2.1 f)=ts at hst htl
  refine(iter_scan _ ts.length (fun k=>(docs,f,(ts.take k).foldl (fun a t=>putS a t.1) (termsL c (docs.take n) f),(n:Int),ts,(k:Int),c.1,c.2)) (fun _=>go (docs,f,termsL c (docs.take (n+1)) f,((n+1:Nat):Int),c.1,c.2)) (fun go2=>?_) (fun go2 k hk hgo2=>?_) N 0 (zaf _) (by omega)).trans rfl
  .dsimp only
   rw[zd (zcd _),ze,zq,<-hst,zf (fits_nat (n:=n) (by omega)),cast_succ']
  .dsimp only
   have hl:=putSs_len (fun t:ETerm=>t.1) (ts.take k) (termsL c (docs.take n) f)
   have hl2:=termsL_len c hd f n
   rw[zah]at hl
   rw[zb (by omega:(k:Int)<ts.length),zg,idx_at hk,za,l7Put_spec N _ _ (by omega) hN,za,zf (fits_nat (n:=k) (by omega)),<-hgo2,foldl_step _ _ _ _ hk,cast_succ']
theorem l7CopyDoc_spec (N:Nat) (d:EDoc) (h1:d.2.1.length<=3) (h2:d.2.2.length<=3):s_l7CopyDoc_m N d.1 d.2.1 d.2.2=some d:=by
 unfold s_l7CopyDoc_m
 rw[zf (room_of (by simp;omega) (by simp;omega)),zf (room_of (by simp;omega) (by simp;omega))]
 rfl
theorem l7Of_spec (N:Nat) (c:EConf) (hc:okConf c=true) {docs:List EDoc} (hd:DOk docs) (hN:1048576<N):s_l7Of_m N c.1 c.2 docs=some (docs,entriesS c docs):=by
 unfold s_l7Of_m
 have hf:=hd.few
 have hnl:=namesS_len hd docs.length
 rw[zq]at hnl
 rw[l7Names_spec N hd hN,za]
 have hE:∀n:Nat,((namesS docs).take n).flatMap (fun f=>(termsL c docs f).map fun t=>((f,t,postsS c docs (f,t)):EEntry))=((namesS docs).take n).flatMap fun f=>(termsL c docs f).map fun t=>(f,t,postsS c docs (f,t)):=fun _=>rfl
 have hEl:∀n:Nat,(((namesS docs).take n).flatMap fun f=>(termsL c docs f).map fun t=>((f,t,postsS c docs (f,t)):EEntry)).length<=122880:=fun n=>by
  have h2:=flat_len (fun f=>(termsL c docs f).map fun t=>((f,t,postsS c docs (f,t)):EEntry)) 2560 ((namesS docs).take n) fun f _=>by
   rw[zar]
   have:=termsL_len c hd f docs.length
   rw[zq]at this
   exact this
  have h3:((namesS docs).take n).length<=48:=by rw[zah];omega
  omega
 refine(iter_scan _ (namesS docs).length (fun n=>(docs,namesS docs,(n:Int),c.1,c.2,((namesS docs).take n).flatMap fun f=>(termsL c docs f).map fun t=>((f,t,postsS c docs (f,t)):EEntry))) (fun _=>some (docs,entriesS c docs)) (fun go=>?_) (fun go n hn hgo=>?_) N 0 (zaf _) (by omega)).trans rfl
 .dsimp only
  rw[zd (zcd _),ze,zq]
  show iter _ N (docs,0,[],entriesS c docs)=_
  refine(iter_scan _ docs.length (fun k=>(docs,(k:Int),docs.take k,entriesS c docs)) (fun _=>some (docs,entriesS c docs)) (fun go2=>?_) (fun go2 k hk hgo2=>?_) N 0 (zaf _) (by omega)).trans rfl
  .dsimp only
   rw[zd (zcd _),ze,zq]
  .dsimp only
   have he:=hd.each _ (zr hk)
   rw[zb (by omega:(k:Int)<docs.length),zg,idx_at hk,za,l7CopyDoc_spec N docs[k] he.1 he.2.1,za,zf (room_of (by simp;omega) (by simp;omega)),zf (fits_nat (n:=k) (by omega)),<-hgo2,zo hk,cast_succ']
 .dsimp only
  have htl:=termsL_len c hd (namesS docs)[n] docs.length
  rw[zq]at htl
  rw[zb (by omega:(n:Int)<((namesS docs).length:Int)),zg,idx_at hn,za,l7Terms_spec N c hc hd _ hN,za,<-hgo]
  rw[show(((namesS docs).take n).flatMap fun f=>(termsL c docs f).map fun t=>((f,t,postsS c docs (f,t)):EEntry))=(((namesS docs).take n).flatMap fun f=>(termsL c docs f).map fun t=>((f,t,postsS c docs (f,t)):EEntry))++((termsL c docs (namesS docs)[n]).take 0).map (fun t=>(((namesS docs)[n],t,postsS c docs ((namesS docs)[n],t)):EEntry))from by simp]
  refine(iter_scan _ (termsL c docs (namesS docs)[n]).length (fun k=>(docs,namesS docs,(n:Int),termsL c docs (namesS docs)[n],(k:Int),c.1,c.2,(((namesS docs).take n).flatMap fun f=>(termsL c docs f).map fun t=>((f,t,postsS c docs (f,t)):EEntry))++((termsL c docs (namesS docs)[n]).take k).map fun t=>(((namesS docs)[n],t,postsS c docs ((namesS docs)[n],t)):EEntry))) (fun _=>go (docs,namesS docs,((n+1:Nat):Int),c.1,c.2,((namesS docs).take (n+1)).flatMap fun f=>(termsL c docs f).map fun t=>((f,t,postsS c docs (f,t)):EEntry))) (fun go2=>?_) (fun go2 k hk hgo2=>?_) N 0 (zaf _) (by omega)).trans rfl
  .dsimp only
   rw[zd (zcd _),ze,zq,zf (fits_nat (n:=n) (by omega)),cast_succ',flat_step _ _ _ hn]
  .dsimp only
   have hel:=hEl n
   rw[zb (by omega:(k:Int)<((termsL c docs (namesS docs)[n]).length:Int)),zg,idx_at hn,za,idx_at hk,za,l7Entry_spec N c hc hd _ _ hN,za,zf (room_of (by rw[zam,zar,zah];simp only[zi,zac];omega) (by rw[zam,zar,zah];simp only[zi,zac];omega)),zf (fits_nat (n:=k) (by omega)),<-hgo2,map_step _ _ _ hk,<-zao,cast_succ']
def putB (b:List EDoc) (B:List EEntry) (x:Int) (t2 id:Int):Option (List EDoc×List EEntry):=
 (if 0<=x/\x<(B.length:Int)then
 (Option.bind (B[x.toNat]?) fun(e25:(List UInt8)×(List UInt8)×(List (Int×(List Int))))=>
 (if fits ((e25.2.2.length:Int)-1)then(bif(decide (((e25.2.2.length:Int)-1)<0))then
 (Option.bind (B[x.toNat]?) fun(e26:(List UInt8)×(List UInt8)×(List (Int×(List Int))))=>
 (if x.toNat=x.toNat then
 (if room e25.2.2.length ([(id,([]:List Int))]:List (Int×(List Int))).length 32 then
 (if x.toNat=x.toNat then
 (Option.bind (B[x.toNat]?) fun(e27:(List UInt8)×(List UInt8)×(List (Int×(List Int))))=>
 (if fits (((e25.2.2.length:Int)-1)+1)then(Option.bind ((B.set x.toNat (e27.1,e27.2.1,(e25.2.2++([(id,([]:List Int))]:List (Int×(List Int))))))[x.toNat]?) fun(e28:(List UInt8)×(List UInt8)×(List (Int×(List Int))))=>
 (Option.bind (e28.2.2[(((e25.2.2.length:Int)-1)+1).toNat]?) fun(e29:Int×(List Int))=>
 (Option.bind ((B.set x.toNat (e27.1,e27.2.1,(e25.2.2++([(id,([]:List Int))]:List (Int×(List Int))))))[x.toNat]?) fun(e30:(List UInt8)×(List UInt8)×(List (Int×(List Int))))=>
 (if x.toNat=x.toNat then
 (Option.bind ((B.set x.toNat (e27.1,e27.2.1,(e25.2.2++([(id,([]:List Int))]:List (Int×(List Int))))))[x.toNat]?) fun(e31:(List UInt8)×(List UInt8)×(List (Int×(List Int))))=>
 (if x.toNat=x.toNat then
 (if 0<=(((e25.2.2.length:Int)-1)+1)/\(((e25.2.2.length:Int)-1)+1)<(e28.2.2.length:Int)then
 (Option.bind (e28.2.2[(((e25.2.2.length:Int)-1)+1).toNat]?) fun(e32:Int×(List Int))=>
 (if(((e25.2.2.length:Int)-1)+1).toNat=(((e25.2.2.length:Int)-1)+1).toNat then
 (if room e29.2.length ([t2]:List Int).length 8 then
 (if 0<=(((e25.2.2.length:Int)-1)+1)/\(((e25.2.2.length:Int)-1)+1)<(e28.2.2.length:Int)then
 (if(((e25.2.2.length:Int)-1)+1).toNat=(((e25.2.2.length:Int)-1)+1).toNat then
 (Option.bind (e28.2.2[(((e25.2.2.length:Int)-1)+1).toNat]?) fun(e33:Int×(List Int))=>
 (some (b,((B.set x.toNat (e27.1,e27.2.1,(e25.2.2++([(id,([]:List Int))]:List (Int×(List Int)))))).modify x.toNat fun y4=>(y4.1,y4.2.1,(e28.2.2.set (((e25.2.2.length:Int)-1)+1).toNat (e33.1,(e29.2++([t2]:List Int)))))))))
 else none)
 else none)
 else none)
 else none))
 else none)
 else none))
 else none))))else none))
 else none)
 else none)
 else none))
 else
 (Option.bind (B[x.toNat]?) fun(e34:(List UInt8)×(List UInt8)×(List (Int×(List Int))))=>
 (if x.toNat=x.toNat then
 (if 0<=((e25.2.2.length:Int)-1)/\((e25.2.2.length:Int)-1)<(e25.2.2.length:Int)then
 (Option.bind (e25.2.2[((e25.2.2.length:Int)-1).toNat]?) fun(e35:Int×(List Int))=>
 (bif(!decide (e35.1=id))then
 (Option.bind (B[x.toNat]?) fun(e36:(List UInt8)×(List UInt8)×(List (Int×(List Int))))=>
 (if x.toNat=x.toNat then
 (if room e25.2.2.length ([(id,([]:List Int))]:List (Int×(List Int))).length 32 then
 (if x.toNat=x.toNat then
 (Option.bind (B[x.toNat]?) fun(e37:(List UInt8)×(List UInt8)×(List (Int×(List Int))))=>
 (if fits (((e25.2.2.length:Int)-1)+1)then(Option.bind ((B.set x.toNat (e37.1,e37.2.1,(e25.2.2++([(id,([]:List Int))]:List (Int×(List Int))))))[x.toNat]?) fun(e38:(List UInt8)×(List UInt8)×(List (Int×(List Int))))=>
 (Option.bind (e38.2.2[(((e25.2.2.length:Int)-1)+1).toNat]?) fun(e39:Int×(List Int))=>
 (Option.bind ((B.set x.toNat (e37.1,e37.2.1,(e25.2.2++([(id,([]:List Int))]:List (Int×(List Int))))))[x.toNat]?) fun(e40:(List UInt8)×(List UInt8)×(List (Int×(List Int))))=>
 (if x.toNat=x.toNat then
 (Option.bind ((B.set x.toNat (e37.1,e37.2.1,(e25.2.2++([(id,([]:List Int))]:List (Int×(List Int))))))[x.toNat]?) fun(e41:(List UInt8)×(List UInt8)×(List (Int×(List Int))))=>
 (if x.toNat=x.toNat then
 (if 0<=(((e25.2.2.length:Int)-1)+1)/\(((e25.2.2.length:Int)-1)+1)<(e38.2.2.length:Int)then
 (Option.bind (e38.2.2[(((e25.2.2.length:Int)-1)+1).toNat]?) fun(e42:Int×(List Int))=>
 (if(((e25.2.2.length:Int)-1)+1).toNat=(((e25.2.2.length:Int)-1)+1).toNat then
 (if room e39.2.length ([t2]:List Int).length 8 then
 (if 0<=(((e25.2.2.length:Int)-1)+1)/\(((e25.2.2.length:Int)-1)+1)<(e38.2.2.length:Int)then
 (if(((e25.2.2.length:Int)-1)+1).toNat=(((e25.2.2.length:Int)-1)+1).toNat then
 (Option.bind (e38.2.2[(((e25.2.2.length:Int)-1)+1).toNat]?) fun(e43:Int×(List Int))=>
 (some (b,((B.set x.toNat (e37.1,e37.2.1,(e25.2.2++([(id,([]:List Int))]:List (Int×(List Int)))))).modify x.toNat fun y5=>(y5.1,y5.2.1,(e38.2.2.set (((e25.2.2.length:Int)-1)+1).toNat (e43.1,(e39.2++([t2]:List Int)))))))))
 else none)
 else none)
 else none)
 else none))
 else none)
 else none))
 else none))))else none))
 else none)
 else none)
 else none))
 else
 (if x.toNat=x.toNat then
 (Option.bind (e25.2.2[((e25.2.2.length:Int)-1).toNat]?) fun(e44:Int×(List Int))=>
 (Option.bind (B[x.toNat]?) fun(e45:(List UInt8)×(List UInt8)×(List (Int×(List Int))))=>
 (if x.toNat=x.toNat then
 (Option.bind (B[x.toNat]?) fun(e46:(List UInt8)×(List UInt8)×(List (Int×(List Int))))=>
 (if x.toNat=x.toNat then
 (if 0<=((e25.2.2.length:Int)-1)/\((e25.2.2.length:Int)-1)<(e25.2.2.length:Int)then
 (Option.bind (e25.2.2[((e25.2.2.length:Int)-1).toNat]?) fun(e47:Int×(List Int))=>
 (if((e25.2.2.length:Int)-1).toNat=((e25.2.2.length:Int)-1).toNat then
 (if room e44.2.length ([t2]:List Int).length 8 then
 (if 0<=((e25.2.2.length:Int)-1)/\((e25.2.2.length:Int)-1)<(e25.2.2.length:Int)then
 (if((e25.2.2.length:Int)-1).toNat=((e25.2.2.length:Int)-1).toNat then
 (Option.bind (e25.2.2[((e25.2.2.length:Int)-1).toNat]?) fun(e48:Int×(List Int))=>
 (some (b,(B.modify x.toNat fun y6=>(y6.1,y6.2.1,(e25.2.2.set ((e25.2.2.length:Int)-1).toNat (e48.1,(e44.2++([t2]:List Int)))))))))
 else none)
 else none)
 else none)
 else none))
 else none)
 else none))
 else none)))
 else none)))
 else none)
 else none)))else none))
 else none)
set_option maxRecDepth 100000 in
theorem put_eq (N:Nat) (field t:List UInt8) (t2 id:Int) (b:List EDoc) (b2:List EEntry):i_Seg_put_m N field t t2 id b b2=Option.bind (k_slices_IndexFunc_146_m N b2 (field,t,t2)) fun r=>bif decide (r<0)then(if room b2.length ([(field,t,[])]:List EEntry).length 56 then putB b (b2++([(field,t,[])]:List EEntry)) (b2.length:Int) t2 id else none)else putB b b2 r t2 id:=rfl
theorem set_modify {α:Type} (B:List α) (n:Nat) (v:α) (g:α->α) (h:n<B.length):(B.set n v).modify n g=B.set n (g v):=by
 apply zbc
 intro i
 rw[List.getElem?_modify,zbm,zbm]
 by_cases hi:n=i
 .subst hi;simp[h]
 .simp [hi]
theorem modify_set {α:Type} (B:List α) (n:Nat) (g:α->α) (h:n<B.length):B.modify n g=B.set n (g B[n]):=by
 apply zbc
 intro i
 rw[List.getElem?_modify,zbm]
 by_cases hi:n=i
 .subst hi;simp[h]
 .simp [hi]
theorem putB_spec (b:List EDoc) (B:List EEntry) (n:Nat) (t2 id:Int) (e:EEntry) (he:B[n]? =some e) (hl:e.2.2.length<=1000000) (hp:∀p,p∈e.2.2->p.2.length<=1000000):putB b B (n:Int) t2 id=some (b,B.set n (e.1,e.2.1,addPost e.2.2 id t2)):=by
 have hn:n<B.length:=(zh.1 he).1
 have heq:B[n]=e:=(zh.1 he).2
 obtain⟨f,t,ps⟩:=e
 unfold putB
 rw[zf ⟨Int.natCast_nonneg n,by omega⟩]
 simp only[zai,he,za,if_true]
 have hs:∀v:EEntry,(B.set n v)[n]? =some v:=fun v=>by rw[List.getElem?_set_self hn]
 simp only[hs,za]
 rcases List.eq_nil_or_concat ps with rfl|⟨q,p,rfl⟩
 .rw [zf (by unfold fits;decide),zb (by decide),zg,zf (room_of (by simp) (by simp)),zf (by unfold fits;decide)]
  rw[show((([]:List EPost).length:Int)-1+1)=0 from rfl]
  rw[show(([]:List EPost)++ [(id,([]:List Int))])[Int.toNat 0]? =some (id,[])from rfl]
  simp only[za]
  rw[zf (by simp),zf (room_of (by simp) (by simp)),zf (by simp),set_modify _ _ _ _ hn]
  rfl
 .rw [List.concat_eq_append]at*
  have h1:((q++ [p]).length:Int)-1=(q.length:Int):=by simp
  have h2:(q++ [p])[q.length]? =some p:=by simp
  have hl':q.length+1<=1000000:=by simpa using hl
  have hp':p.2.length<=1000000:=hp p (by simp)
  rw[h1,zf (by unfold fits;omega),zd (by omega),ze]
  simp only[zai,h2,za]
  have c1:(0:Int)<=q.length/\(q.length:Int)<((q++ [p]).length:Int):=⟨by omega,by rw[zam];simp only[zi,zac];omega⟩
  rw[zf c1]
  have hlast:(q++ [p]).getLast? =some p:=by simp
  by_cases hi:p.1=id
  .rw [zb hi,zn,ze,zf c1,zf (room_of (by simp only[zi,zac];omega) (by simp only[zi,zac];omega)),zf c1,modify_set _ _ _ hn,heq]
   unfold addPost
   rw[hlast]
   dsimp only
   rw[zf hi,List.dropLast_concat]
   simp
  .have c2:((q.length:Int)+1).toNat=q.length+1:=by omega
   have h3:(q++ [p]++ [(id,([]:List Int))])[q.length+1]? =some (id,[]):=by simp
   have c3:(0:Int)<=q.length+1/\(q.length:Int)+1<((q++ [p]++ [(id,([]:List Int))]).length:Int):=⟨by omega,by simp only[zam,zi,zac];omega⟩
   rw[zd hi,zaI,zg,zf (room_of (by simp only[zam,zi,zac];omega) (by simp only[zam,zi,zac];omega)),zf (fits_nat (n:=q.length) (by omega)),c2,h3]
   simp only[za]
   rw[zf c3,zf (room_of (by simp) (by simp)),zf c3,set_modify _ _ _ _ hn]
   unfold addPost
   rw[hlast]
   dsimp only
   rw[zu hi]
   simp
theorem putE_new (o:EOcc):∀es:List EEntry,o.1∉es.map keyE->putE o es=es++ [(o.1.1,o.1.2,addPost [] o.2.1 o.2.2)]
 | [],_=>rfl
 |e::l,h=>by
  rw[zv,zp,not_or]at h
  unfold putE
  rw[zu (fun e=>h.1 e.symm),putE_new o l h.2]
  rfl
theorem putE_at (o:EOcc):∀(es:List EEntry) (n:Nat) (hn:n<es.length),keyE es[n]=o.1->(∀m (hm:m<n),keyE (es[m]'(by omega))≠o.1)->putE o es=es.set n (es[n].1,es[n].2.1,addPost es[n].2.2 o.2.1 o.2.2)
 |e::l,0,_,h,_=>by
  unfold putE
  rw[zf (show keyE e=o.1 from h)]
  rfl
 |e::l,n+1,hn,h,hb=>by
  unfold putE
  rw[zu (show ¬keyE e=o.1 from hb 0 (by omega)),putE_at o l n (by simpa using hn) h (fun m hm=>hb (m+1) (by omega))]
  rfl
theorem indexFunc_spec (N:Nat) (es:List EEntry) (f:List UInt8) (t:ETerm) (hl:es.length<N) (hl2:es.length<=1000000):Def (k_slices_IndexFunc_146_m N es (f,t)) fun r=>(r=-1/\(f,t.1)∉es.map keyE)\/ ∃(n:Nat) (hn:n<es.length),r=(n:Int)/\keyE es[n]=(f,t.1)/\∀m (hm:m<n),keyE (es[m]'(by omega))≠(f,t.1):=by
 unfold k_slices_IndexFunc_146_m
 refine Def.upto es.length (fun n g=>g=(es,(f,t),(es.length:Int),(n:Int))/\∀m (hm:m<es.length),m<n->keyE es[m]≠(f,t.1)) (fun go g hg=>?_) (fun go n g hn hg hgo=>?_) N 0 _ (zaf _) ⟨rfl,fun m _ h=>absurd h (Nat.not_lt_zero _)⟩ (by omega)
 .obtain ⟨rfl,h⟩:=hg
  dsimp only
  rw[zd (zcd _),ze]
  refine Def.ret (.inl ⟨rfl,fun hk=>?_⟩)
  obtain⟨e,he,hk⟩:=zab.1 hk
  obtain⟨m,hm,rfl⟩:=zav.1 he
  exact h m hm hm hk
 .obtain ⟨rfl,h⟩:=hg
  dsimp only
  rw[zb (by omega:(n:Int)<es.length),zg,idx_at hn,za]
  have hk:k__loop_example_fossick_impl_Seg_put_1_m N es[n].1 es[n].2.1 es[n].2.2 f t=some (decide (keyE es[n]=(f,t.1))):=by
   unfold k__loop_example_fossick_impl_Seg_put_1_m keyE
   by_cases h1:es[n].1=f
   .rw [zb h1,zg];simp[h1]
   .rw [zd h1,ze];simp[h1]
  rw[hk,za]
  by_cases h1:keyE es[n]=(f,t.1)
  .rw [zb h1,zg]
   exact Def.ret (.inr ⟨n,hn,rfl,h1,fun m hm=>h m (by omega) hm⟩)
  .rw [zd h1,ze,zf (fits_nat (n:=n) (by omega))]
   refine hgo _ ⟨by rw[cast_succ'],fun m hm hmn=>?_⟩
   by_cases hm2:m=n
   .subst hm2;exact h1
   .exact h m hm (by omega)
theorem put_spec (N:Nat) (f:List UInt8) (t:ETerm) (id:Int) (b:List EDoc) (es:List EEntry) (hl:es.length<N) (hl2:es.length<=1000000) (hp:∀e,e∈es->e.2.2.length<=1000000/\∀p,p∈e.2.2->p.2.length<=1000000):i_Seg_put_m N f t.1 t.2 id b es=some (b,putE ((f,t.1),id,t.2) es):=by
 rw[put_eq]
 refine Def.get (Def.bind (indexFunc_spec N es f t hl hl2) fun r hr=>?_)
 rcases hr with⟨rfl,hk⟩|⟨n,hn,rfl,hk,hb⟩
 .rw [zb (by decide),zg,zf (room_of (by simp only[zi,zac];omega) (by simp only[zi,zac];omega))]
  rw[putB_spec b _ es.length t.2 id (f,t.1,[]) (by simp) (by simp) (by simp),putE_new _ _ hk]
  refine Def.ret ?_
  simp
 .rw [zd (by omega),ze]
  have hm:=hp _ (zr hn)
  rw[putB_spec b es n t.2 id es[n] (zc hn) hm.1 hm.2,putE_at ((f,t.1),id,t.2) es n hn hk hb]
  exact Def.ret rfl
end Go.Proofs.YtkglkigmdmohkaaGreatDoor
