import Derived.Test.YtibcadmdkehmhaaGreatSC
import Derived.Test.YtibcadmdkehmhaaGreatQO
set_option linter.unusedVariables false
set_option linter.unusedSimpArgs false
namespace Go.Proofs.YtibcadmdkehmhaaGreat
open Go.RowKit
theorem jWX {B:Nat} {x:Int} (h0: -1000000000<=x) (h1:x<=1000000000):okD B (.int .i64) x:=by
 have e1:IntKind.i64.min=-9223372036854775808:=rfl
 have e2:IntKind.i64.max=9223372036854775807:=rfl
 show IntKind.i64.min<=x/\x<=IntKind.i64.max
 rw[e1,e2]
 omega
theorem jW3 {d:EDoc} (h:okDoc d=true):∀f,f∈d.2.1->f.1.length<=12:=by
 unfold okDoc at h
 simp only[zj,zw]at h
 intro f hf
 obtain⟨n,hn,rfl⟩:=zav.1 hf
 have h3:=allN_at h.1.2 hn
 unfold okF at h3
 rw[zj,zj,<-fAt_eq hn]at h3
 exact(jbS h3.1.1).2
theorem jW7 (c:EConf) (hc:okConf c=true) {docs:List EDoc} (h:okDocs docs=true):okD Sm (.sl jk) (entriesS c docs):=by
 have hd:=okDocs_ok h
 have hs:=entries_small c hd
 have hsm:(7680:Nat)<=Sm:=by decide
 have h16:(16:Nat)<=Sm:=by decide
 refine⟨zau hs.1 hsm,fun e he=>?_⟩
 have hw:=jXk c hc hd e he
 have hsme:=hs.2 e he
 have hm:=(entriesS_mem c hd.inn (keyE e)).1 (zca he)
 have hp:e.2.2=postsS c docs (e.1,e.2.1):=by
  unfold entriesS at he
  obtain⟨f,_,he⟩:=zaT.1 he
  obtain⟨t,_,rfl⟩:=zab.1 he
  rfl
 refine⟨?_,zau (jbS hw).2 (zau (by decide) h16),⟨zau hsme.1 hsm,fun p hpm=>?_⟩⟩
 .obtain ⟨o,ho,hk⟩:=hm
  obtain⟨d,hdm,ho⟩:=zaT.1 ho
  obtain⟨f,hf,ho⟩:=zaT.1 ho
  obtain⟨t,ht,rfl⟩:=zab.1 ho
  have:e.1=f.1:=(congrArg Prod.fst hk).symm
  show e.1.length<=Sm
  rw[this]
  exact zau (jW3 (okDoc_each h d hdm) f hf) (zau (by decide) h16)
 .rw [hp]at hpm
  unfold postsS at hpm
  obtain⟨d,hdm,hx⟩:=zbs.1 hpm
  split at hx
  .cases hx
  .cases hx
   have hk:=okDoc_each h d hdm
   unfold okDoc at hk
   simp only[zj,zw]at hk
   have hl:=hd.text hdm e.1
   refine⟨jWX (by omega) (by omega),⟨?_,fun x hx=>?_⟩⟩
   .have h1:(ats c d (e.1,e.2.1)).length<=(terms c (fieldF d.2.1 e.1)).length:=by
     unfold ats
     rw[zar]
     exact zbh _ _
    have h2:=terms_len c (fieldF d.2.1 e.1)
    show(ats c d (e.1,e.2.1)).length<=Sm
    omega
   .unfold ats at hx
    obtain⟨t,h1,rfl⟩:=zab.1 hx
    have:=terms_atOk c (fieldF d.2.1 e.1) (by omega) t (zaZ.1 h1).1
    exact jWX (by omega) (by omega)
structure FitC (N:Nat) (c:EConf):Prop where
 big:1048576<N
 a:c.1.length<=1048576
 b:c.2.length<=1048576
 e:∀y,y∈c.2->y.1.length<=1048576
structure FitL (l:ELive):Prop where
 dok:DOk l.1.1
 small:Small 7680 l.1.2
 dead:l.2.length<=1000
theorem FitL.of {c:EConf} {l:ELive} (h:okLive c l=true):FitL l:=by
 obtain⟨h1,_,h3,_⟩:=okLive_ok h
 obtain⟨_,h5,h6⟩:=okSeg_ok h1
 exact⟨h5,h6▸entries_small c h5,by omega⟩
theorem cloneConf_spec (N:Nat) (c:EConf) (h:FitC N c):i_cloneConf_m N c.1 c.2=some (c.1,c.2):=by
 have hb:=h.big
 have h1:=h.a
 have h2:=h.b
 unfold i_cloneConf_m
 rw[zf (room_of (by simp;omega) (by simp;omega)),zaW]
 refine(iter_scan _ c.2.length (fun n=>(c.2,(c.2.length:Int),(n:Int),c.1,c.2.take n)) (fun _=>some (c.1,c.2)) (fun go=>?_) (fun go n hn hgo=>?_) N 0 (zaf _) (by omega)).trans rfl
 .dsimp only
  rw[zd (zm _),ze,zq]
 .dsimp only
  have hx:=h.e _ (zr hn)
  rw[zb (by omega:(n:Int)<c.2.length),zg,idx_at hn,za,zf (room_of (by simp;omega) (by simp;omega)),zf (room_of (by simp;omega) (by simp;omega)),zf (fits_nat (n:=n) (by omega)),zaW,<-hgo,zo hn,cast_succ']
theorem copyConf_spec (N:Nat) (c:EConf) (h:FitC N c):s_l18CopyConf_m N c.1 c.2=some (c.1,c.2):=by
 have hb:=h.big
 have h1:=h.a
 have h2:=h.b
 unfold s_l18CopyConf_m
 rw[zf (room_of (by simp;omega) (by simp;omega)),zaW]
 refine(iter_scan _ c.2.length (fun n=>((n:Int),c.1,c.2,c.1,c.2.take n)) (fun _=>some (c.1,c.2)) (fun go=>?_) (fun go n hn hgo=>?_) N 0 (zaf _) (by omega)).trans rfl
 .dsimp only
  rw[zd (zm _),ze,zq]
 .dsimp only
  have hx:=h.e _ (zr hn)
  rw[zb (by omega:(n:Int)<c.2.length),zg,idx_at hn,za,zf (room_of (by simp;omega) (by simp;omega)),za,zf (room_of (by simp;omega) (by simp;omega)),zf (fits_nat (n:=n) (by omega)),zaW,<-hgo,zo hn,cast_succ']
theorem cloneLive_spec (N:Nat) (hN:1048576<N) (l:ELive) (h:FitL l):i_cloneLive_m N l.1.1 l.1.2 l.2=some (l.1.1,l.1.2,l.2):=by
 have hd:=h.dead
 have hs:=h.small.1
 unfold i_cloneLive_m
 rw[cloneDocs_spec N h.dok (by omega),za,zf (room_of (by simp;omega) (by simp;omega)),zaW]
 refine(iter_scan _ l.1.2.length (fun n=>(l.1.2,(l.1.2.length:Int),(n:Int),l.1.1,l.1.2.take n,l.2)) (fun _=>some (l.1.1,l.1.2,l.2)) (fun go=>?_) (fun go n hn hgo=>?_) N 0 (zaf _) (by omega)).trans rfl
 .dsimp only
  rw[zd (zm _),ze,zq]
 .dsimp only
  have hx:=h.small.2 _ (zr hn)
  have hx1:=hx.1
  rw[zb (by omega:(n:Int)<l.1.2.length),zg,idx_at hn,za]
  refine(iter_scan _ l.1.2[n].2.2.length (fun k=>(l.1.2[n].2.2.take k,l.1.2,(l.1.2.length:Int),(n:Int),l.1.2[n].2.2,(l.1.2[n].2.2.length:Int),(k:Int),l.1.1,l.1.2.take n,l.2,l.1.2[n].1,l.1.2[n].2.1,l.1.2[n].2.2)) (fun _=>some (l.1.1,l.1.2,l.2)) (fun go2=>?_) (fun go2 k hk hgo2=>?_) N 0 (zaf _) (by omega)).trans rfl
  .dsimp only
   rw[zd (zm _),ze,zq,zf (room_of (by simp;omega) (by simp;omega)),zf (fits_nat (n:=n) (by omega)),<-hgo,zo hn,cast_succ']
  .dsimp only
   have hy:=hx.2 _ (zr hk)
   rw[zb (by omega:(k:Int)<l.1.2[n].2.2.length),zg,idx_at hk,za,zf (room_of (by simp;omega) (by simp;omega)),zf (room_of (by simp;omega) (by simp;omega)),zf (fits_nat (n:=k) (by omega)),zaW,<-hgo2,zo hk,cast_succ']
theorem copyPosts_spec (N:Nat) (hN:1048576<N) (ps:List EPost) (h1:ps.length<=7680) (h2:∀p,p∈ps->p.2.length<=7680):s_l7CopyPosts_m N ps=some ps:=by
 unfold s_l7CopyPosts_m
 refine(iter_scan _ ps.length (fun k=>(ps,ps.take k,(k:Int))) (fun _=>some ps) (fun go=>?_) (fun go k hk hgo=>?_) N 0 (zaf _) (by omega)).trans rfl
 .dsimp only
  rw[zd (zm _),ze,zq]
 .dsimp only
  have hy:=h2 _ (zr hk)
  rw[zb (by omega:(k:Int)<ps.length),zg,idx_at hk,za,za,zf (room_of (by simp;omega) (by simp;omega)),zf (room_of (by simp;omega) (by simp;omega)),zf (fits_nat (n:=k) (by omega)),zaW,<-hgo,zo hk,cast_succ']
theorem copySeg_spec (N:Nat) (hN:1048576<N) (l:ELive) (h:FitL l):s_l18CopySeg_m N l.1.1 l.1.2=some l.1:=by
 have hs:=h.small.1
 have hf:=h.dok.few
 unfold s_l18CopySeg_m
 refine(iter_scan _ l.1.1.length (fun n=>((n:Int),l.1.1,l.1.2,l.1.1.take n)) (fun _=>some l.1) (fun go=>?_) (fun go n hn hgo=>?_) N 0 (zaf _) (by omega)).trans rfl
 .dsimp only
  rw[zd (zm _),ze,zq]
  refine(iter_scan _ l.1.2.length (fun n=>((n:Int),l.1.1,l.1.2,l.1.1,l.1.2.take n)) (fun _=>some l.1) (fun go2=>?_) (fun go2 n hn hgo2=>?_) N 0 (zaf _) (by omega)).trans rfl
  .dsimp only
   rw[zd (zm _),ze,zq]
  .dsimp only
   have hx:=h.small.2 _ (zr hn)
   rw[zb (by omega:(n:Int)<l.1.2.length),zg,idx_at hn,za,copyPosts_spec N hN _ hx.1 hx.2,za,zf (room_of (by simp;omega) (by simp;omega)),zf (fits_nat (n:=n) (by omega)),<-hgo2,zo hn,cast_succ']
 .dsimp only
  have he:=h.dok.each _ (zr hn)
  rw[zb (by omega:(n:Int)<l.1.1.length),zg,idx_at hn,za,l7CopyDoc_spec N l.1.1[n] he.1 he.2.1,za,zf (room_of (by simp;omega) (by simp;omega)),zf (fits_nat (n:=n) (by omega)),<-hgo,zo hn,cast_succ']
theorem cloneIndex_spec (N:Nat) (x:EIndex) (hc:FitC N x.1) (hl:x.2.length<=1000) (h:∀l,l∈x.2->FitL l):i_cloneIndex_m N x.1.1 x.1.2 x.2=some (x.1.1,x.1.2,x.2):=by
 have hb:=hc.big
 unfold i_cloneIndex_m
 rw[cloneConf_spec N x.1 hc,za]
 refine(iter_scan _ x.2.length (fun n=>(x.2,(x.2.length:Int),(n:Int),x.1.1,x.1.2,x.2.take n)) (fun _=>some (x.1.1,x.1.2,x.2)) (fun go=>?_) (fun go n hn hgo=>?_) N 0 (zaf _) (by omega)).trans rfl
 .dsimp only
  rw[zd (zm _),ze,zq]
 .dsimp only
  rw[zb (by omega:(n:Int)<x.2.length),zg,idx_at hn,za,cloneLive_spec N hb _ (h _ (zr hn)),za,zf (room_of (by simp;omega) (by simp;omega)),zf (fits_nat (n:=n) (by omega)),<-hgo,zo hn,cast_succ']
theorem copyIndex_spec (N:Nat) (x:EIndex) (hc:FitC N x.1) (hl:x.2.length<=1000) (h:∀l,l∈x.2->FitL l):s_l18Copy_m N x.1.1 x.1.2 x.2=some (x.1.1,x.1.2,x.2):=by
 have hb:=hc.big
 unfold s_l18Copy_m
 rw[copyConf_spec N x.1 hc,za]
 refine(iter_scan _ x.2.length (fun n=>((n:Int),x.1.1,x.1.2,x.2,x.1.1,x.1.2,x.2.take n)) (fun _=>some (x.1.1,x.1.2,x.2)) (fun go=>?_) (fun go n hn hgo=>?_) N 0 (zaf _) (by omega)).trans rfl
 .dsimp only
  rw[zd (zm _),ze,zq]
 .dsimp only
  have hf:=h _ (zr hn)
  have hd:=hf.dead
  rw[zb (by omega:(n:Int)<x.2.length),zg,idx_at hn,za,copySeg_spec N hb _ hf,za,za,zf (room_of (by simp;omega) (by simp;omega)),zf (room_of (by simp;omega) (by simp;omega)),zf (fits_nat (n:=n) (by omega)),zaW,<-hgo,zo hn,cast_succ']
def putI (l:List Int) (n:Int):List Int:=match l with
 | []=>[n]
 |x::r=>if x<n then x::putI r n else if x=n then x::r else n::x::r
theorem putI_mem (n x:Int):∀l,x∈putI l n↔x=n\/x∈l
 | []=>by simp[putI]
 |y::r=>by
  unfold putI
  have ih:=putI_mem n x r
  split
  .rw [zp,ih,zp];constructor<;>rintro(h|h|h)<;>simp_all
  .split
   .rename_i e;subst e;simp
   .simp
theorem putI_up (n:Int):∀l,upL l->upL (putI l n)
 | [],_=>by simp[putI,upL]
 |y::r,h=>by
  unfold upL at h
  rw[zas]at h
  have ih:upL (putI r n):=putI_up n r h.2
  unfold putI
  split
  .rename_i e
   show List.Pairwise _ _
   rw[zas]
   refine⟨fun x hx=>?_,ih⟩
   rcases(putI_mem n x r).1 hx with rfl|hx
   .exact e
   .exact h.1 x hx
  .split
   .exact zas.2 h
   .rename_i e1 e2
    show List.Pairwise _ _
    rw[zas,zas]
    refine⟨fun x hx=>?_,h⟩
    rcases zp.1 hx with rfl|hx
    .omega
    .have:=h.1 x hx;omega
theorem putI_len (n:Int):∀l,(putI l n).length<=l.length+1
 | []=>by simp[putI]
 |x::r=>by
  unfold putI
  have:=putI_len n r
  split
  .simp;omega
  .split<;>simp
theorem putI_in (n:Int):∀(l:List Int) (k:Nat) (h:k<l.length),(∀x,x∈l.take k->x<n)->l[k]=n->putI l n=l
 |x::r,0,_,_,e=>by
  have e:x=n:=e
  unfold putI
  rw[zu (by omega),zf e]
 |x::r,k+1,h,h1,e=>by
  have hx:=h1 x (by rw[zbG];simp)
  unfold putI
  rw[zf hx,putI_in n r k (by simpa using h) (fun y hy=>h1 y (by rw[zbG];simp[hy])) (by simpa using e)]
theorem putI_new (n:Int):∀(l:List Int) (k:Nat),k<=l.length->(∀x,x∈l.take k->x<n)->(∀h:k<l.length,n<l[k])->putI l n=l.take k++ [n]++l.drop k
 | [],k,h,_,_=>by simp at h;subst h;rfl
 |x::r,0,_,_,h2=>by
  have h2:n<x:=h2 (by simp)
  unfold putI
  rw[zu (by omega),zu (by omega)]
  rfl
 |x::r,k+1,h,h1,h2=>by
  have hx:=h1 x (by rw[zbG];simp)
  unfold putI
  rw[zf hx,putI_new n r k (by simpa using h) (fun y hy=>h1 y (by rw[zbG];simp[hy])) (fun h'=>by
   have:=h2 (by simp;omega)
   simpa using this)]
  rfl
theorem putNum_spec (N:Nat) (hN:1048576<N) (l:List Int) (n:Int) (hl:l.length<=1000):s_l8Put_m N l n=some (putI l n):=by
 refine Def.get ?_
 unfold s_l8Put_m
 have ins:∀k:Nat,k<=l.length->(∀x,x∈l.take k->x<n)->(∀h:k<l.length,n<l[k])->Def (Option.bind (cut l 0 (k:Int)) fun y=>if room ([]:List Int).length y.length 8 then(if room (([]:List Int)++y).length ([n]:List Int).length 8 then Option.bind (cut l (k:Int) (l.length:Int)) fun y2=>if room ((([]:List Int)++y)++([n]:List Int)).length y2.length 8 then some (((([]:List Int)++y)++([n]:List Int))++y2)else none else none)else none) fun r=>r=putI l n:=fun k hk h1 h2=>by
  rw[cut_take' l k hk,za,zf (room_of (by rw[zah];simp;omega) (by rw[zah];simp;omega)),
   zf (room_of (by rw[zam,zah,zbE];simp;omega) (by rw[zam,zah,zbE];simp;omega)),cut_drop' l k hk,za,
   zf (room_of (by simp only[zam,zah,zbE,zaQ,zac];omega) (by simp only[zam,zah,zbE,zaQ,zac];omega))]
  exact Def.ret (by rw[putI_new n l k hk h1 h2,zaW])
 refine Def.upto l.length (fun k g=>(∀x,x∈l.take k->x<n)/\g=(l,n,(k:Int))) ?_ ?_ N 0 _ (zaf _) ⟨fun x hx=>by simp at hx,rfl⟩ (by omega)
 .rintro go _ ⟨h1,rfl⟩
  dsimp only
  rw[zd (zm _),ze,ze]
  exact ins l.length (zae _) h1 fun h=>absurd h (Nat.lt_irrefl _)
 .rintro go k _ hk ⟨h1,rfl⟩ hgo
  dsimp only
  rw[zb (by omega:(k:Int)<l.length),zg,zg,idx_at hk,za,za]
  refine Def.dif (fun e=>Def.ite (fits_nat (n:=k) (by omega)) (hgo _ ⟨fun x hx=>?_,by rw[cast_succ']⟩)) (fun e=>Def.dif (fun e2=>Def.ret (putI_in n l k hk h1 e2).symm) (fun e2=>ins k (by omega) h1 fun _=>by omega))
  rw[zo hk,zaB,zaD]at hx
  rcases hx with hx|rfl
  .exact h1 x hx
  .exact e
def putIs (l a:List Int):List Int:=a.foldl putI l
theorem putIs_mem (x:Int):∀a l,x∈putIs l a↔x∈a\/x∈l
 | [],l=>by simp[putIs]
 |n::a,l=>by
  have:=putIs_mem x a (putI l n)
  unfold putIs at*
  rw[zaq,this,putI_mem,zp]
  constructor
  .rintro (h|h|h)
   .exact .inl (.inr h)
   .exact .inl (.inl h)
   .exact .inr h
  .rintro ((h|h)|h)
   .exact .inr (.inl h)
   .exact .inl h
   .exact .inr (.inr h)
theorem putIs_up :∀a l,upL l->upL (putIs l a)
 | [],l,h=>h
 |n::a,l,h=>by
  have:=putIs_up a (putI l n) (putI_up n l h)
  unfold putIs at*
  rwa[zaq]
theorem putIs_len :∀a l,(putIs l a).length<=l.length+a.length
 | [],l=>by simp[putIs]
 |n::a,l=>by
  have h1:=putIs_len a (putI l n)
  have h2:=putI_len n l
  unfold putIs at*
  rw[zaq,zi]
  omega
theorem up_unique {R S:List Int} (hR:upL R) (hS:upL S) (h:∀x,x∈R↔x∈S):R=S:=
 sorted_unique (fun a b:Int=>decide (a<b)) (fun a=>by simp) (fun a b c h k=>by rw[zw]at*;omega) R S (hR.imp fun h=>by rw[zw];exact h) (hS.imp fun h=>by rw[zw];exact h) h
theorem sort_put {l a r:List Int} (hp:r.Perm (l++a)) (hs:r.Pairwise fun x y=>decide (y<x)=false) (hl:upL l) (ha:a.Nodup) (hd:∀x,x∈a->x∉l):r=putIs l a:=by
 have hln:l.Nodup:=hl.imp fun h e=>by omega
 have hn:(l++a).Nodup:=List.nodup_append.2 ⟨hln,ha,fun x hx y hy e=>hd y hy (e▸hx)⟩
 have hr:r.Nodup:=hp.symm.nodup hn
 refine up_unique ((hs.and hr).imp fun {x y} h=>?_) (putIs_up a l hl) fun x=>?_
 .obtain ⟨h1,h2⟩:=h
  rw[decide_eq_false_iff_not]at h1
  have h2:x≠y:=h2
  show x<y
  omega
 .rw [hp.mem_iff,putIs_mem,zaB]
  exact Or.comm
def hasL (id:Int) (l:ELive):Bool:=(docOf l.1.1 id).isSome&& !decide (id∈l.2)
def goneS (id:Int) (l:ELive):ELive:=bif hasL id l then(l.1,putI l.2 id)else l
structure FitP (N:Nat) (c:EConf) (ls:List ELive):Prop where
 big:1048576<N
 top:N<=16777216
 few:ls.length<=5
 good:∀l,l∈ls->GoodS N c l.1
 up:∀l,l∈ls->upL l.2
 dead:∀l,l∈ls->l.2.length<=200
theorem any_take {Y:Type} (p:Y->Bool) (l:List Y) (n:Nat) (h:n<l.length):(l.take (n+1)).any p=((l.take n).any p||p l[n]):=by
 rw[zo h,List.any_append]
 simp
theorem gone_spec {N:Nat} {c:EConf} {ls:List ELive} (h:FitP N c ls) (id:Int):s_l18Gone_m N c.1 c.2 ls id=some (c.1,c.2,ls.map (goneS id),ls.any (hasL id)):=by
 have hM:=h.big
 have hN:=h.top
 have hf:=h.few
 refine Def.get ?_
 unfold s_l18Gone_m
 refine Def.upto ls.length (fun n g=>g=(id,(ls.take n).any (hasL id),(n:Int),c.1,c.2,ls,c.1,c.2,(ls.take n).map (goneS id))) ?_ ?_ N 0 _ (zaf _) rfl (by omega)
 .rintro go _ rfl
  dsimp only
  rw[zd (zm _),ze,zq]
  exact Def.ret rfl
 .rintro go n _ hn rfl hgo
  dsimp only
  have hm:=zr hn
  have g:=h.good _ hm
  have hd:=h.dead _ hm
  rw[zb (by omega:(n:Int)<ls.length),zg,idx_at hn,za]
  refine Def.meet (fun g=>g=(id,(ls.take (n+1)).any (hasL id),(n:Int),c.1,c.2,ls,c.1,c.2,(ls.take n).map (goneS id),(goneS id ls[n]).1.1,(goneS id ls[n]).1.2,(goneS id ls[n]).2)) ?_ fun J hJ=>?_
  .rintro _ rfl
   dsimp only
   refine Def.ite (room_of (by rw[zar,zah];simp;omega) (by rw[zar,zah];simp;omega)) (Def.ite (fits_nat (n:=n) (by omega)) (hgo _ ?_))
   rw[zo hn,zaK,cast_succ']
   rfl
  .have ht:=any_take (hasL id) ls n hn
   rw[l12Doc_spec N g,za]
   cases hdo:docOf ls[n].1.1 id with
   |none=>
    have e:hasL id ls[n]=false:=by unfold hasL;rw[hdo];rfl
    show Def (bif !decide ((0:Int)=0)then _ else _) _
    rw[zb rfl,zn,ze]
    refine hJ _ ?_
    rw[ht,e,Bool.or_false]
    unfold goneS
    rw[e]
    rfl
   |some d=>
    have hid:¬d.1=0:=fun e=>by
     have h3:=docOf_some hdo
     have h4:=okDoc_each (okSeg_docs g.ok) d h3.1
     unfold okDoc at h4
     simp only[zj,zw]at h4
     omega
    have hd8:s_l18Dead_m N ls[n].1.1 ls[n].1.2 ls[n].2 id=some (decide (id∈ls[n].2)):=by
     unfold s_l18Dead_m
     rw[l8Has_spec N _ _ (by omega) (by omega),za]
    show Def (bif !decide (d.1=0)then _ else _) _
    rw[zd hid,zaI,zg,hd8,za]
    have e:hasL id ls[n]= !decide (id∈ls[n].2):=by unfold hasL;rw[hdo];rfl
    rw[<-e]
    cases hh:hasL id ls[n]with
    |true=>
     rw[zg]
     refine Def.ite (room_of (by simp;omega) (by simp;omega)) ?_
     rw[zaW,putNum_spec N hM _ _ (by omega),za]
     refine hJ _ ?_
     rw[ht,hh,Bool.or_true]
     unfold goneS
     rw[hh]
     rfl
    |false=>
     rw[ze]
     refine hJ _ ?_
     rw[ht,hh,Bool.or_false]
     unfold goneS
     rw[hh]
     rfl
theorem filter_take {Y:Type} (p:Y->Bool) (l:List Y) (n:Nat) (h:n<l.length):(l.take (n+1)).filter p=bif p l[n]then(l.take n).filter p++ [l[n]]else(l.take n).filter p:=by
 rw[zo h,za6]
 cases e:p l[n]<;>simp[za9,e]
theorem full_spec (N:Nat) (hN:1048576<N) (c:EConf) (ls:List ELive) (hl:ls.length<=1000):s_l18Full_m N c.1 c.2 ls=some (c.1,c.2,ls.filter fun l=>decide (l.2.length<l.1.1.length)):=by
 refine Def.get ?_
 unfold s_l18Full_m
 refine Def.upto ls.length (fun n g=>g=((n:Int),c.1,c.2,ls,c.1,c.2,(ls.take n).filter fun l=>decide (l.2.length<l.1.1.length))) ?_ ?_ N 0 _ (zaf _) rfl (by omega)
 .rintro go _ rfl
  dsimp only
  rw[zd (zm _),ze,zq]
  exact Def.ret rfl
 .rintro go n _ hn rfl hgo
  dsimp only
  have ht:=filter_take (fun l:ELive=>decide (l.2.length<l.1.1.length)) ls n hn
  have hle:((ls.take n).filter fun l:ELive=>decide (l.2.length<l.1.1.length)).length<=1000:=zau (zbh _ _) (by rw[zah];omega)
  rw[zb (by omega:(n:Int)<ls.length),zg,idx_at hn,za,za]
  refine Def.dif (fun e=>?_) (fun e=>?_)
  .rw [za]
   refine Def.ite (room_of (by simp only[zbE];omega) (by simp only[zbE];omega)) (Def.ite (fits_nat (n:=n) (by omega)) (hgo _ ?_))
   rw[ht,zb (by omega),zg,cast_succ']
  .refine Def.ite (fits_nat (n:=n) (by omega)) (hgo _ ?_)
   rw[ht,zd (by omega),ze,cast_succ']
theorem index2_def (N:Nat) (l:List Int) (a:Int) (h:l.length<N) (hN:N<=1099511627776):Def (k_slices_Index_484_v2_m N l a) fun r=>r.2=l/\((r.1=-1/\a∉l)\/(0<=r.1/\a∈l)):=by
 unfold k_slices_Index_484_v2_m
 refine Def.upto l.length (fun n g=>a∉l.take n/\g=(l,a,(l.length:Int),(n:Int))) ?_ ?_ N 0 _ (zaf _) ⟨by simp,rfl⟩ (by omega)
 .rintro go _ ⟨hm,rfl⟩
  dsimp only
  rw[zd (zm _),ze]
  rw[zq]at hm
  exact Def.ret ⟨rfl,.inl ⟨rfl,hm⟩⟩
 .rintro go n _ hn ⟨hm,rfl⟩ hgo
  dsimp only
  rw[zb (by omega:(n:Int)<l.length),zg,zf ⟨by omega,by omega⟩,zai,zc hn,za]
  refine Def.dif (fun e=>Def.ret ⟨rfl,.inr ⟨by show(0:Int)<=(n:Int);omega,e▸zr hn⟩⟩) (fun e=>?_)
  exact Def.ite (fits_nat (n:=n) (by omega)) (hgo _ ⟨not_take_succ hn hm e,by rw[cast_succ']⟩)
theorem contains2_spec (N:Nat) (l:List Int) (n:Int) (h:l.length<N) (hN:N<=1099511627776):k_slices_Contains_735_v2_m N l n=some (decide (n∈l),l):=by
 obtain⟨r,hr,h2,hc⟩:=index2_def N l n h hN
 unfold k_slices_Contains_735_v2_m
 rw[hr,za,h2]
 rcases hc with⟨h3,hn⟩|⟨h3,hm⟩
 .rw [h3,zd hn];rfl
 .rw [zb hm,zb h3]
theorem alive2_spec (N:Nat) (hM:1048576<N) (hN:N<=16777216) (l:ELive) (h1:l.1.1.length<=1000) (h2:l.2.length<=1000):i_Live_alive_v2_m N l.1.1 l.1.2 l.2=some (alive l,l.2):=by
 unfold i_Live_alive_v2_m alive
 refine(iter_scan _ l.1.1.length (fun n=>((l.1.1.take n).filter (fun d=> !decide (d.1∈l.2)),l.1.1,(l.1.1.length:Int),(n:Int),l.1.1,l.1.2,l.2)) (fun n=>some (l.1.1.filter (fun d=> !decide (d.1∈l.2)),l.2)) (fun go=>?_) (fun go n hn hgo=>?_) N 0 (zaf _) (by omega)).trans rfl
 .dsimp only
  rw[zd (zm _),ze,zq]
 .dsimp only
  have hll:((l.1.1.take n).filter (fun d=> !decide (d.1∈l.2))).length<=1000:=zau (zbh _ _) (by rw[zah];omega)
  simp only[cast_succ',alive_take l hn]at hgo
  generalize(l.1.1.take n).filter (fun d=> !decide (d.1∈l.2))=out at*
  rw[zb (by omega:(n:Int)<l.1.1.length),zg,idx_at hn,za,contains2_spec N _ _ (by omega) (by omega),za,zf (room_of (by rw[zbE];omega) (by rw[zbE];omega)),<-hgo]
  simp only[zf (fits_nat (n:=n) (by omega))]
  cases decide (l.1.1[n].1∈l.2)<;>rfl
def addD (ids:List Int) (l:ELive):List Int:=((alive l).map (·.1)).filter fun n=>decide (n∈ids)
def dropL (ids:List Int) (l:ELive):ELive:=(l.1,putIs l.2 (addD ids l))
def livB (l:ELive):Bool:=decide (0<(alive l).length)
theorem add_take (ids:List Int) (xs:List EDoc) (k:Nat) (h:k<xs.length):((xs.take (k+1)).map (·.1)).filter (fun n=>decide (n∈ids))=bif decide (xs[k].1∈ids)then((xs.take k).map (·.1)).filter (fun n=>decide (n∈ids))++ [xs[k].1]else((xs.take k).map (·.1)).filter (fun n=>decide (n∈ids)):=by
 rw[zo h,zaK,za6]
 by_cases e:xs[k].1∈ids<;>simp[e]
theorem lessI_ord :WOrd fun a b:Int=>decide (a<b):=
 ⟨fun x y h=>by rw[zw]at h;rw[decide_eq_false_iff_not];omega,fun x y z h k=>by rw[decide_eq_false_iff_not]at*;omega⟩
theorem cmpLess_def (N:Nat) (a b:Int):Def (cmp287 N a b) fun r=>r=decide (a<b):=by
 show Def (k_cmp_Less_67_m N a b) _
 have e:k_cmp_isNaN_538_m N a=some false:=by
  unfold k_cmp_isNaN_538_m
  simp
 unfold k_cmp_Less_67_m
 rw[e,za,ze]
 exact Def.ret rfl
theorem addD_nodup (ids:List Int) (l:ELive) (hi:l.1.1.Pairwise fun a b=>a.1<b.1):(addD ids l).Nodup/\∀x,x∈addD ids l->x∉l.2:=by
 refine⟨?_,fun x hx=>?_⟩
 .have h1:((alive l).map (·.1)).Nodup:=zbb.2 ((hi.sublist List.filter_sublist).imp fun h e=>by have:=h;omega)
  exact h1.sublist List.filter_sublist
 .obtain ⟨d,hd,rfl⟩:=zab.1 (zaZ.1 hx).1
  have:=(zaZ.1 hd).2
  simpa using this
theorem drop_spec {N:Nat} {c:EConf} {ls:List ELive} (h:FitP N c ls) (ids:List Int) (hids:ids.length<=1000):i_Index_drop_m N ids c.1 c.2 ls=some (((ls.flatMap (addD ids)).length:Int),c.1,c.2,(ls.map (dropL ids)).filter livB):=by
 have hM:=h.big
 have hN:=h.top
 have hf:=h.few
 refine Def.get ?_
 unfold i_Index_drop_m
 have cnt:∀L:List ELive,(∀l,l∈L->l∈ls)->(L.flatMap (addD ids)).length<=16*L.length:=by
  intro L
  induction L with
  |nil=>intro _;exact zaf _
  |cons a L ih=>
   intro hL
   have h3:=(h.good a (hL a (by simp))).dok.few
   have h4:=ih fun l hl=>hL l (by simp[hl])
   have h5:(alive a).length<=a.1.1.length:=zbh _ _
   have h6:(addD ids a).length<=(alive a).length:=by
    have:=zbh (fun n:Int=>decide (n∈ids)) ((alive a).map (·.1))
    rw[zar]at this
    exact this
   rw[zbu,zam,zi]
   omega
 refine Def.upto ls.length (fun n g=>g=(ids,(((ls.take n).flatMap (addD ids)).length:Int),((ls.take n).map (dropL ids)).filter livB,(ls,(n:Int)),(ls.length:Int),(n:Int),c.1,c.2)) ?_ ?_ N 0 _ (zaf _) rfl (by omega)
 .rintro go _ rfl
  dsimp only
  rw[zd (zm _),ze,zq]
  exact Def.ret rfl
 .rintro go n _ hn rfl hgo
  dsimp only
  have hm:=zr hn
  have g:=h.good _ hm
  have hd:=h.dead _ hm
  have hup:=h.up _ hm
  have hfew:=g.dok.few
  have hal:(alive ls[n]).length<=16:=zau (zbh _ _) hfew
  have hcn:=cnt (ls.take n) fun l hl=>zaP hl
  rw[zah]at hcn
  have hci:0<=(n:Int)/\(n:Int)<ls.length:=by omega
  rw[zb (by omega:(n:Int)<ls.length),zg]
  simp only[zai,zf (zae n),zc hn,za,zf hci,if_true]
  rw[alive2_spec N hM hN ls[n] (by omega) (by omega),za]
  dsimp only
  refine Def.upto (alive ls[n]).length (fun k g=>g=(ids,(((ls.take n).flatMap (addD ids)).length:Int)+(((((alive ls[n]).take k).map (·.1)).filter fun n=>decide (n∈ids)).length:Nat),((ls.take n).map (dropL ids)).filter livB,(ls,((n+1:Nat):Int)),(ls.length:Int),(n:Int),alive ls[n],((alive ls[n]).length:Int),(k:Int),ls[n].1.1,ls[n].1.2,ls[n].2++(((alive ls[n]).take k).map (·.1)).filter (fun n=>decide (n∈ids)),c.1,c.2)) ?_ ?_ N 0 _ (zaf _) (by simp) (by omega)
  .rintro go2 _ rfl
   dsimp only
   rw[zd (zm _),ze,zq]
   rw[show(((alive ls[n]).map (·.1)).filter fun n=>decide (n∈ids))=addD ids ls[n]from rfl]
   obtain⟨hnd,hno⟩:=addD_nodup ids ls[n] g.dok.inn.ids
   have hadl:(addD ids ls[n]).length<=16:=by
    have:=zbh (fun n:Int=>decide (n∈ids)) ((alive ls[n]).map (·.1))
    rw[zar]at this
    exact zau this hal
   refine Def.bind (sortWk_287 (fun a b=>decide (a<b)) lessI_ord N hN (by omega) _ ⟨fun x _ y _=>cmpLess_def N x y⟩ (by rw[zam];omega)) fun r ⟨h1,h2⟩=>?_
   obtain rfl:=sort_put h1 h2 hup hnd hno
   refine Def.meet (fun g=>g=(ids,(((ls.take n).flatMap (addD ids)).length:Int)+((addD ids ls[n]).length:Nat),((ls.take n).map (dropL ids)).filter livB,(ls,((n+1:Nat):Int)),(ls.length:Int),(n:Int),livB (dropL ids ls[n]),ls[n].1.1,ls[n].1.2,(dropL ids ls[n]).2,c.1,c.2)) ?_ fun J hJ=>?_
   .rintro _ rfl
    dsimp only
    have ht:=filter_take livB (ls.map (dropL ids)) n (by rw[zar];exact hn)
    rw[<-List.map_take,<-List.map_take,List.getElem_map]at ht
    have hsl:(((ls.take n).map (dropL ids)).filter livB).length<=5:=zau (zbh _ _) (by rw[zar,zah];omega)
    have hmany:(((ls.take (n+1)).flatMap (addD ids)).length:Int)=(((ls.take n).flatMap (addD ids)).length:Int)+((addD ids ls[n]).length:Nat):=by
     rw[zo hn,List.flatMap_append,zam]
     simp
    simp only[zai]
    cases hb:livB (dropL ids ls[n])with
    |true=>
     rw[hb,zg]at ht
     rw[zg]
     refine Def.ite (room_of (by simp only[zbE];omega) (by simp only[zbE];omega)) (Def.ite (fits_nat (n:=n) (by omega)) (hgo _ ?_))
     rw[ht,hmany,cast_succ']
     rfl
    |false=>
     rw[hb,ze]at ht
     rw[ze]
     refine Def.ite (fits_nat (n:=n) (by omega)) (hgo _ ?_)
     rw[ht,hmany,cast_succ']
   .have hpl:=putIs_len (addD ids ls[n]) ls[n].2
    have ha:=alive2_spec N hM hN (dropL ids ls[n]) (by show ls[n].1.1.length<=1000;omega) (by show(putIs ls[n].2 (addD ids ls[n])).length<=1000;omega)
    rw[show(dropL ids ls[n]).1=ls[n].1 from rfl,show(dropL ids ls[n]).2=putIs ls[n].2 (addD ids ls[n])from rfl]at ha
    rw[ha,za]
    refine hJ _ ?_
    simp only[zai]
    rw[show livB (dropL ids ls[n])=decide ((0:Int)<((alive (dropL ids ls[n])).length:Int))from by unfold livB;rw[decide_eq_decide];omega]
    rfl
  .rintro go2 k _ hk rfl hgo2
   dsimp only
   have ht:=add_take ids (alive ls[n]) k hk
   have hlen:((((alive ls[n]).take k).map (·.1)).filter fun n=>decide (n∈ids)).length<=16:=zau (zbh _ _) (by rw[zar,zah];omega)
   simp only[zai]
   rw[zb (by omega:(k:Int)<((alive ls[n]).length:Int)),zg,idx_at hk,za,containsI_spec N _ _ (by omega) (by omega),za]
   cases hb:decide ((alive ls[n])[k].1∈ids)with
   |true=>
    rw[hb,zg]at ht
    rw[zg]
    refine Def.ite (room_of (by rw[zam,zbE];omega) (by rw[zam,zbE];omega)) (Def.ite (by unfold fits;omega) (Def.ite (fits_nat (n:=k) (by omega)) (hgo2 _ ?_)))
    obtain⟨L,hL⟩:∃L,L=((((alive ls[n]).take k).map (·.1)).filter fun n=>decide (n∈ids)).length:=⟨_,rfl⟩
    rw[ht,zam,zbE,zao,cast_succ' k,<-hL,cast_succ' L,Int.add_assoc]
   |false=>
    rw[hb,ze]at ht
    rw[ze]
    refine Def.ite (fits_nat (n:=k) (by omega)) (hgo2 _ ?_)
    rw[ht,cast_succ' k]
theorem FitP.of {N:Nat} {x:EIndex} (h:FitI N x) (hk:okIdx x=true):FitP N x.1 x.2:=by
 obtain⟨k1,k2,k3,k4⟩:=okIdx_ok hk
 have hl:∀l,l∈x.2->okLive x.1 l=true:=zax.1 k3
 refine⟨h.big,h.top,k2,fun l hm=>⟨h.big,h.top,h.oc,(h.each l hm).1,(okLive_ok (hl l hm)).1⟩,fun l hm=>?_,fun l hm=>zau (okLive_ok (hl l hm)).2.2.1 (by omega)⟩
 have:=hl l hm
 unfold okLive at this
 rw[zj,zj]at this
 exact(upB_up this.2.1).1
theorem FitC.of {N:Nat} {c:EConf} (hM:1048576<N) (h:okD Sm TConf c):FitC N c:=⟨hM,h.1.1,h.2.1,fun y hy=>(h.2.2 y hy).1.1⟩
theorem okLive_dead {c:EConf} {l:ELive} (h:okLive c l=true):∀n,n∈l.2->∃d,d∈l.1.1/\d.1=n:=fun n hn=>by
 unfold okLive at h
 simp only[zj]at h
 have h1:=zax.1 h.2.2.2 n hn
 cases hdn:docOf l.1.1 n with
 |none=>rw[hdn]at h1;cases h1
 |some d=>exact⟨d,docOf_some hdn⟩
theorem map_eq {Y β:Type} {f g:Y->β} {l:List Y} (h:∀x,x∈l->f x=g x):l.map f=l.map g:=List.map_congr_left h
theorem filter_eq {Y:Type} {p q:Y->Bool}:∀ {l:List Y},(∀x,x∈l->p x=q x)->l.filter p=l.filter q:=fun h=>List.filter_congr h
abbrev zeroX :EIndex:=(([],[]),[])
theorem goneS_1 (id:Int) (l:ELive):(goneS id l).1=l.1:=by unfold goneS;cases hasL id l<;>rfl
theorem goneS_2 (id:Int) (l:ELive):(goneS id l).2.length<=l.2.length+1/\(upL l.2->upL (goneS id l).2):=by
 unfold goneS
 cases hasL id l with
 |false=>exact⟨Nat.le_succ _,fun h=>h⟩
 |true=>exact⟨putI_len id l.2,putI_up id l.2⟩
def goneN (ds:List EDoc) (l:ELive):ELive:=ds.foldl (fun l d=>goneS d.1 l) l
theorem goneN_1 :∀(ds:List EDoc) (l:ELive),(goneN ds l).1=l.1
 | [],l=>rfl
 |d::ds,l=>(goneN_1 ds (goneS d.1 l)).trans (goneS_1 d.1 l)
theorem goneN_2 :∀(ds:List EDoc) (l:ELive),(goneN ds l).2.length<=l.2.length+ds.length/\(upL l.2->upL (goneN ds l).2)
 | [],l=>⟨zae _,fun h=>h⟩
 |d::ds,l=>by
  obtain⟨h1,h2⟩:=goneN_2 ds (goneS d.1 l)
  obtain⟨h3,h4⟩:=goneS_2 d.1 l
  refine⟨?_,fun h=>h2 (h4 h)⟩
  show(goneN ds (goneS d.1 l)).2.length<=l.2.length+(ds.length+1)
  omega
theorem FitP.goneN {N:Nat} {c:EConf} {ls:List ELive} (h:FitP N c ls) (hd:∀l,l∈ls->l.2.length<=60) (ds:List EDoc) (hds:ds.length<=16):FitP N c (ls.map (goneN ds)):=by
 refine⟨h.big,h.top,by rw[zar];exact h.few,fun l' hl'=>?_,fun l' hl'=>?_,fun l' hl'=>?_⟩<;>obtain⟨l,hl,rfl⟩:=zab.1 hl'
 .rw [goneN_1];exact h.good l hl
 .exact (goneN_2 ds l).2 (h.up l hl)
 .have:=(goneN_2 ds l).1
  have:=hd l hl
  omega
def liveN (l:ELive):Bool:=decide (l.2.length<l.1.1.length)
def addY (docs:List EDoc) (x:EIndex):EIndex:=(x.1,(x.2.map (goneN docs)).filter liveN++ [((docs,entriesS x.1 docs),[])])
def addR (docs:List EDoc) (x:EIndex):EIndex×Bool:=bif okIdx x then(bif okDocs docs&&decide (0<docs.length)then(bif okIdx (addY docs x)then(addY docs x,true)else(x,false))else(x,false))else(zeroX,false)
theorem dead_few {x:EIndex} (hk:okIdx x=true):∀l,l∈x.2->l.2.length<=60:=fun l hl=>(okLive_ok (zax.1 (okIdx_ok hk).2.2.1 l hl)).2.2.1
theorem FitI.addY {N:Nat} {x:EIndex} (h:FitI N x) (hk:okIdx x=true) {docs:List EDoc} (od:∀d,d∈docs->okD Sm TDoc d) (hd:docs.length<=16):FitI N (addY docs x):=by
 obtain⟨k1,k2,k3,k4⟩:=okIdx_ok hk
 refine⟨h.big,h.top,h.oc,?_,fun l' hl'=>?_⟩
 .have h1:=zbh liveN (x.2.map (goneN docs))
  rw[zar]at h1
  show((x.2.map (goneN docs)).filter liveN++ [((docs,entriesS x.1 docs),([]:List Int))]).length<=_
  rw[zam,zbE]
  omega
 .rcases zaB.1 hl' with hl'|hl'
  .obtain ⟨l,hl,rfl⟩:=zab.1 (zaZ.1 hl').1
   have he:=h.each l hl
   have h2:=(goneN_2 docs l).1
   have h3:=dead_few hk l hl
   rw[goneN_1]
   exact⟨he.1,he.2.1,by omega⟩
  .rw [zaD]at hl'
   subst hl'
   exact⟨od,by show docs.length<=_;omega,zaf _⟩
theorem addIndex_s {N:Nat} {x:EIndex} (h:FitI N x) {docs:List EDoc} (od:∀d,d∈docs->okD Sm TDoc d) (hl:docs.length<=1048576):s_IndexAdd_m N x.1.1 x.1.2 x.2 docs=some ((addR docs x).1.1.1,(addR docs x).1.1.2,(addR docs x).1.2,(addR docs x).2):=by
 have hM:1048576<N:=h.big
 have hN:=h.top
 unfold s_IndexAdd_m addR
 rw[l18Ok_spec h,za]
 cases hk:okIdx x with
 |false=>rfl
 |true=>
  obtain⟨k1,k2,k3,k4⟩:=okIdx_ok hk
  have hcopy:=copyIndex_spec N x (.of h.big h.oc) (by omega) (fun l hl=>.of (zax.1 k3 l hl))
  rw[zn,ze,zg,l6Docs_spec N h.big (by omega) docs od (by omega),za]
  cases hdo:okDocs docs with
  |false=>
   rw[zaI,zg,hcopy,za]
   rfl
  |true=>
   have hdk:=okDocs_ok hdo
   have hd16:=hdk.few
   rw[zn,ze,zaj]
   by_cases h0:docs.length=0
   .rw [zb (by omega:(docs.length:Int)=0),zg,hcopy,za,zd (by omega)]
    rfl
   .rw [zd (by omega:¬(docs.length:Int)=0),ze,hcopy,za,zb (by omega:0<docs.length),zg]
    dsimp only
    have hp:=FitP.of h hk
    have e0:((docs,(0:Int),x.1.1,x.1.2,x.2,x.1.1,x.1.2,x.2):List EDoc×Int×List (List UInt8)×List ESyn×List ELive×List (List UInt8)×List ESyn×List ELive)=(docs,((0:Nat):Int),x.1.1,x.1.2,x.2,x.1.1,x.1.2,x.2.map (goneN (docs.take 0))):=by
     rw[show goneN (docs.take 0)=id from by funext l;rfl,List.map_id]
     rfl
    refine(congrArg (iter _ N) e0).trans ((iter_scan _ docs.length (fun n=>(docs,(n:Int),x.1.1,x.1.2,x.2,x.1.1,x.1.2,x.2.map (goneN (docs.take n)))) (fun _=>some ((bif okIdx (addY docs x)then(addY docs x,true)else(x,false)).1.1.1,(bif okIdx (addY docs x)then(addY docs x,true)else(x,false)).1.1.2,(bif okIdx (addY docs x)then(addY docs x,true)else(x,false)).1.2,(bif okIdx (addY docs x)then(addY docs x,true)else(x,false)).2)) (fun go=>?_) (fun go n hn hgo=>?_) N 0 (zaf _) (by omega)).trans rfl)
    .dsimp only
     have hY:=h.addY hk od hd16
     have hls:=zbh liveN (x.2.map (goneN docs))
     rw[zar]at hls
     rw[zd (zm _),ze,zq,full_spec N hM x.1 _ (by rw[zar];omega),za]
     dsimp only
     rw[l7Of_spec N x.1 k1 hdk hM,za,zf (room_of (by show(_+1)*72<=_;unfold liveN at hls;omega) (by show((_+1:Nat):Int)<=_;unfold liveN at hls;omega))]
     have e1:=l18Ok_spec hY
     rw[show(x.2.map (goneN docs)).filter (fun l=>decide (l.2.length<l.1.1.length))++ [((docs,entriesS x.1 docs),([]:List Int))]=(addY docs x).2 from rfl]
     rw[show(addY docs x).1=x.1 from rfl]at e1
     rw[e1,za]
     cases okIdx (addY docs x)with
     |false=>rw[zaI,zg,hcopy,za];rfl
     |true=>rfl
    .dsimp only
     have hpn:=hp.goneN (dead_few hk) (docs.take n) (by rw[zah];omega)
     rw[zb (by omega:(n:Int)<docs.length),zg,idx_at hn,za,gone_spec hpn,za,zf (fits_nat (n:=n) (by omega)),<-hgo,cast_succ',zo hn,List.map_map]
     have ef:(goneS docs[n].1∘goneN (docs.take n))=goneN (docs.take n++ [docs[n]]):=by
      funext l
      show _=goneN _ l
      unfold goneN
      rw[zaX]
      rfl
     rw[ef]
theorem goneS_mem (id x:Int) (l:ELive):x∈(goneS id l).2↔x∈l.2\/(x=id/\(docOf l.1.1 id).isSome=true):=by
 unfold goneS
 cases hh:hasL id l with
 |true=>
  have h1:(docOf l.1.1 id).isSome=true:=by unfold hasL at hh;rw[zj]at hh;exact hh.1
  rw[zg]
  show x∈putI l.2 id↔_
  rw[putI_mem,h1]
  constructor
  .rintro (h|h)
   .exact .inr ⟨h,rfl⟩
   .exact .inl h
  .rintro (h|h)
   .exact .inr h
   .exact .inl h.1
 |false=>
  rw[ze]
  constructor
  .exact .inl
  .rintro (h|⟨rfl,h⟩)
   .exact h
   .unfold hasL at hh
    rw[h,zaj]at hh
    simpa using hh
theorem goneN_mem (x:Int):∀(ds:List EDoc) (l:ELive),x∈(goneN ds l).2↔x∈l.2\/(x∈ds.map (·.1)/\(docOf l.1.1 x).isSome=true)
 | [],l=>by simp[goneN]
 |d::ds,l=>by
  have ih:=goneN_mem x ds (goneS d.1 l)
  rw[goneS_1,goneS_mem]at ih
  show x∈(goneN ds (goneS d.1 l)).2↔_
  rw[ih,zv,zp]
  constructor
  .rintro ((h|⟨rfl,h⟩)|⟨h1,h2⟩)
   .exact .inl h
   .exact .inr ⟨.inl rfl,h⟩
   .exact .inr ⟨.inr h1,h2⟩
  .rintro (h|⟨(rfl|h1),h2⟩)
   .exact .inl (.inl h)
   .exact .inl (.inr ⟨rfl,h2⟩)
   .exact .inr ⟨h1,h2⟩
theorem doc_some {ds:List EDoc} {d:EDoc} (hi:ds.Pairwise fun a b=>a.1<b.1) (h:d∈ds):(docOf ds d.1).isSome=true:=by rw[docOf_self hi d h];rfl
theorem drop_many (ds:List EDoc) (l:ELive) (hi:l.1.1.Pairwise fun a b=>a.1<b.1) (hu:upL l.2):dropL (ds.map (·.1)) l=goneN ds l:=by
 refine Prod.ext (goneN_1 ds l).symm ?_
 show putIs l.2 (addD (ds.map (·.1)) l)=(goneN ds l).2
 refine up_unique (putIs_up _ _ hu) ((goneN_2 ds l).2 hu) fun x=>?_
 rw[putIs_mem,goneN_mem]
 unfold addD
 rw[zaZ,zw,zab]
 constructor
 .rintro (⟨⟨d,hd,rfl⟩,h⟩|h)
  .exact .inr ⟨h,doc_some hi (zaZ.1 hd).1⟩
  .exact .inl h
 .rintro (h|⟨h1,h2⟩)
  .exact .inr h
  .by_cases e:x∈l.2
   .exact .inr e
   .cases hd:docOf l.1.1 x with
    |none=>rw[hd]at h2;cases h2
    |some d=>
     obtain⟨h5,rfl⟩:=docOf_some hd
     exact .inl ⟨⟨d,zaZ.2 ⟨h5,by rw[zd e];rfl⟩,rfl⟩,h1⟩
theorem dead_in {l:ELive} (hi:l.1.1.Pairwise fun a b=>a.1<b.1) (hs:∀n,n∈l.2->∃d,d∈l.1.1/\d.1=n) (ds:List EDoc):∀n,n∈(goneN ds l).2->∃d,d∈(goneN ds l).1.1/\d.1=n:=fun n hn=>by
 rw[goneN_1]
 rcases(goneN_mem n ds l).1 hn with h|⟨_,h⟩
 .exact hs n h
 .cases hd:docOf l.1.1 n with
  |none=>rw[hd]at h;cases h
  |some d=>exact⟨d,docOf_some hd⟩
theorem alive_goneN {l:ELive} (hi:l.1.1.Pairwise fun a b=>a.1<b.1) (hu:upL l.2) (hs:∀n,n∈l.2->∃d,d∈l.1.1/\d.1=n) (ds:List EDoc):(alive (goneN ds l)).length+(goneN ds l).2.length=(goneN ds l).1.1.length:=
 alive_len (goneN ds l) (by rw[goneN_1];exact hi) (((goneN_2 ds l).2 hu).imp fun h e=>by omega) (dead_in hi hs ds)
theorem live_goneN {l:ELive} (hi:l.1.1.Pairwise fun a b=>a.1<b.1) (hu:upL l.2) (hs:∀n,n∈l.2->∃d,d∈l.1.1/\d.1=n) (ds:List EDoc):livB (goneN ds l)=liveN (goneN ds l):=by
 have:=alive_goneN hi hu hs ds
 unfold livB liveN
 rw[decide_eq_decide]
 omega
theorem idsOf_spec (N:Nat) (docs:List EDoc) (h:docs.length<N) (hl:docs.length<=1000000):i_idsOf_m N docs=some (docs.map (·.1)):=by
 refine Def.get ?_
 unfold i_idsOf_m
 refine Def.upto docs.length (fun n v=>v=((docs.take n).map (·.1),docs,(docs.length:Int),(n:Int))) (fun go v hv=>?_) (fun go n v hn hv hgo=>?_) N 0 _ (zaf _) rfl (by omega)
 .subst hv
  dsimp only
  rw[zd (zm _),ze,zq]
  exact Def.ret rfl
 .subst hv
  dsimp only
  rw[zb (by omega:(n:Int)<docs.length),zg,idx_at hn,za]
  refine Def.ite (room_of (by rw[zar,zah,zbE];omega) (by rw[zar,zah,zbE];omega)) (Def.ite (fits_nat (n:=n) (by omega)) (hgo _ ?_))
  rw[zo hn,zaK,cast_succ']
  rfl
theorem FitX.cloneI {N:Nat} {x:EIndex} (h:FitI N x) (hk:okIdx x=true):i_cloneIndex_m N x.1.1 x.1.2 x.2=some (x.1.1,x.1.2,x.2):=by
 obtain⟨k1,k2,k3,k4⟩:=okIdx_ok hk
 exact cloneIndex_spec N x (.of h.big h.oc) (by omega) (fun l hl=>.of (zax.1 k3 l hl))
theorem indexAdd_i {N:Nat} {x:EIndex} (h:FitI N x) {docs:List EDoc} (od:∀d,d∈docs->okD Sm TDoc d) (hl:docs.length<=1048576):i_IndexAdd_m N x.1.1 x.1.2 x.2 docs=some ((addR docs x).1.1.1,(addR docs x).1.1.2,(addR docs x).1.2,(addR docs x).2):=by
 have hM:1048576<N:=h.big
 have hN:=h.top
 unfold i_IndexAdd_m addR
 rw[indexOk_spec h,za]
 cases hk:okIdx x with
 |false=>rfl
 |true=>
  obtain⟨k1,k2,k3,k4⟩:=okIdx_ok hk
  have hcopy:=FitX.cloneI h hk
  rw[zn,ze,zg,hcopy,za]
  dsimp only
  by_cases h0:docs.length=0
  .rw [zb (by omega:(docs.length:Int)=0),zg,zd (by omega:¬0<docs.length),Bool.and_false]
   rfl
  .rw [zd (by omega:¬(docs.length:Int)=0),ze,zb (by omega:0<docs.length),zaV,docsOk_spec N h.big (by omega) docs od (by omega),za]
   cases hdo:okDocs docs with
   |false=>rfl
   |true=>
    have hdk:=okDocs_ok hdo
    have hd16:=hdk.few
    have hp:=FitP.of h hk
    have hids:∀l,l∈x.2->l.1.1.Pairwise fun a b=>a.1<b.1:=fun l hl=>(hp.good l hl).dok.inn.ids
    have hdead:∀l,l∈x.2->∀n,n∈l.2->∃d,d∈l.1.1/\d.1=n:=fun l hl=>okLive_dead (zax.1 k3 l hl)
    have hls:=zbh liveN (x.2.map (goneN docs))
    rw[zar]at hls
    have eL:(x.2.map (dropL (docs.map (·.1)))).filter livB=(x.2.map (goneN docs)).filter liveN:=by
     rw[map_eq (fun l hl=>drop_many docs l (hids l hl) (hp.up l hl))]
     refine filter_eq fun l' hl'=>?_
     obtain⟨l,hl,rfl⟩:=zab.1 hl'
     exact live_goneN (hids l hl) (hp.up l hl) (hdead l hl) docs
    rw[zn,ze,zg,idsOf_spec N docs (by omega) (by omega),za,drop_spec hp _ (by rw[zar];omega),za]
    dsimp only
    rw[eL,segOf_spec N h.big hN x.1 h.oc docs od (by omega),k1,hdo,zaj,zg,za]
    rw[zf (room_of (by show(_+1)*72<=_;omega) (by show((_+1:Nat):Int)<=_;omega))]
    have hY:=h.addY hk od hd16
    have e1:=indexOk_spec hY
    rw[show(x.2.map (goneN docs)).filter liveN++ [((docs,entriesS x.1 docs),([]:List Int))]=(addY docs x).2 from rfl]
    rw[show(addY docs x).1=x.1 from rfl]at e1
    rw[e1,za]
    cases okIdx (addY docs x)with
    |false=>rw[zaI,zg,za];rfl
    |true=>rfl
end Go.Proofs.YtibcadmdkehmhaaGreat
