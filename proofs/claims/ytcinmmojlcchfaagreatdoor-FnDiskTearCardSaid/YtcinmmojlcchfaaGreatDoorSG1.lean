import Derived.Test.YtcinmmojlcchfaaGreatDoorSE1
import Derived.Test.YtcinmmojlcchfaaGreatDoorSF1
set_option linter.unusedVariables false
set_option linter.unusedSimpArgs false
namespace Go.Proofs.YtcinmmojlcchfaaGreatDoor
open Go.RowKit
def crcBit (c:Nat):Nat:=if c%2=1 then(c/2)^^^3988292384 else c/2
def crcByte (c:Nat) (b:UInt8):Nat:=crcBit (crcBit (crcBit (crcBit (crcBit (crcBit (crcBit (crcBit (c^^^b.toNat))))))))
def crcT (s:List UInt8):Nat:=(s.foldl crcByte 4294967295)^^^4294967295
abbrev EFile :Type:=List UInt8×List UInt8
def fileD (d:List EFile) (nm:List UInt8):Option (List UInt8):=(d.find? fun f=>decide (f.1=nm)).map (·.2)
abbrev UpN (d:List EFile):Prop:=d.Pairwise fun a b=>Op.bytesLess a.1 b.1=true
def writeD (f:EFile):List EFile->List EFile
 | []=>[f]
 |g::d=>if g.1=f.1 then f::d else if Op.bytesLess g.1 f.1=true then g::writeD f d else f::g::d
theorem fileD_cons (g:EFile) (d:List EFile) (nm:List UInt8):fileD (g::d) nm=if g.1=nm then some g.2 else fileD d nm:=by
 unfold fileD
 rw[List.find?_cons]
 by_cases h:g.1=nm
 .rw [zb h,zf h]
  rfl
 .rw [zd h,zu h]
theorem j1g (f:EFile) (nm:List UInt8):∀d,fileD (writeD f d) nm=if f.1=nm then some f.2 else fileD d nm
 | []=>by rw[writeD,fileD_cons]
 |g::d=>by
  rw[writeD]
  by_cases h1:g.1=f.1
  .rw [zf h1,fileD_cons,fileD_cons,h1]
   by_cases h:f.1=nm
   .rw [zf h,zf h]
   .rw [zu h,zu h,zu h]
  .rw [zu h1]
   by_cases h2:Op.bytesLess g.1 f.1=true
   .rw [zf h2,fileD_cons,j1g f nm d,fileD_cons]
    by_cases h:f.1=nm
    .rw [zu (fun e=>h1 (e.trans h.symm)),zf h,zf h]
    .rw [zu h,zu h]
   .rw [zu h2,fileD_cons]
theorem write_mem (f x:EFile):∀d,x∈writeD f d->x=f\/x∈d
 | [],h=>by rw[writeD,zaD]at h;exact .inl h
 |g::d,h=>by
  rw[writeD]at h
  split at h
  .rcases zp.1 h with h|h
   .exact .inl h
   .exact .inr (zl _ h)
  .split at h
   .rcases zp.1 h with h|h
    .exact .inr (h▸zy)
    .exact (write_mem f x d h).imp id (zl _)
   .rcases zp.1 h with h|h
    .exact .inl h
    .exact .inr h
theorem write_up (f:EFile):∀d,UpN d->UpN (writeD f d)
 | [],_=>List.pairwise_singleton _ _
 |g::d,h=>by
  rw[UpN,zas]at h
  rw[writeD]
  split
  .rename_i e
   rw[UpN,zas]
   exact⟨fun x hx=>by rw[<-e];exact h.1 x hx,h.2⟩
  .rename_i e
   split
   .rename_i e2
    rw[UpN,zas]
    refine⟨fun x hx=>?_,write_up f d h.2⟩
    rcases write_mem f x d hx with rfl|hx
    .exact e2
    .exact h.1 x hx
   .rename_i e2
    have e3:Op.bytesLess f.1 g.1=true:=bl_total (by simpa using e2) e
    rw[UpN,zas,zas]
    exact⟨fun x hx=>by
     rcases zp.1 hx with rfl|hx
     .exact e3
     .exact bl_trans e3 (h.1 x hx),h⟩
theorem write_len (f:EFile):∀d,(writeD f d).length<=d.length+1
 | []=>zae _
 |g::d=>by
  have ih:=write_len f d
  rw[writeD]
  split
  .simp
  .split
   .simp only [zi];omega
   .simp
def genN (n:Int):List UInt8:=[103,101,110]++Lib.itoa (1000+n)
def segN (n k:Int):List UInt8:=[115,101,103]++Lib.itoa (1000+n)++ [120]++Lib.itoa k
theorem j1t {a b:Int} (ha:0<=a) (hb:0<=b) (ha2:a<1000000000000000000) (hb2:b<1000000000000000000) (h:Lib.itoa a=Lib.itoa b):a=b:=by
 rw[<-atoi_itoa ha ha2,<-atoi_itoa hb hb2,h]
theorem genN_inj {a b:Int} (ha:0<=a) (hb:0<=b) (ha2:a<=1000000) (hb2:b<=1000000) (h:genN a=genN b):a=b:=by
 have:=j1t (by omega) (by omega) (by omega) (by omega) (List.append_cancel_left h)
 omega
theorem gen_seg (a n k:Int):genN a≠segN n k:=fun h=>by
 have h1:genN a=103::([101,110]++Lib.itoa (1000+a)):=rfl
 have h2:segN n k=115::([101,103]++Lib.itoa (1000+n)++ [120]++Lib.itoa k):=rfl
 rw[h1,h2]at h
 exact absurd (List.cons.inj h).1 (by decide)
theorem j1Z {n a b:Int} (ha:0<=a) (hb:0<=b) (ha2:a<=1000000) (hb2:b<=1000000) (h:segN n a=segN n b):a=b:=
 j1t ha hb (by omega) (by omega) (List.append_cancel_left h)
def manLn (f:EFile):List UInt8:=f.1++ [32]++Lib.itoa (crcT f.2:Int)
def endT :List UInt8:=[101,110,100]
def manT (fs:List EFile):List UInt8:=linesT (fs.map manLn)++endT
def segFrom (n:Int):Nat->List ELive->List EFile
 |_,[]=>[]
 |k,l::ls=>(segN n (k:Int),liveT l.1.1 l.2)::segFrom n (k+1) ls
def filesC (x:EIndex) (n:Int):List EFile:=segFrom n 0 x.2++ [(genN n,manT (segFrom n 0 x.2))]
theorem j1H :∀(ls:List (List UInt8)) (e:List UInt8),(∀l,l∈ls->(10:UInt8)∉l)->(10:UInt8)∉e->cutAt 10 (linesT ls++e)=ls++ [e]
 | [],e,_,he=>by
  rw[show linesT []++e=e from rfl,jXQ he]
  rfl
 |l::ls,e,h,he=>by
  rw[linesT_cons,zao,zbk,jXv (h l zy),j1H ls e (fun x hx=>h x (zl _ hx)) he]
  rfl
def lineL (c:EConf) (d:List EFile) (line:List UInt8):Option ELive:=match fileD d (cut1 32 line).1 with
 |none=>none
 |some t=>bif decide (Lib.itoa (crcT t:Int)=(cut1 32 line).2.1)then getI c t else none
def linesL (c:EConf) (d:List EFile):List (List UInt8)->Option (List ELive)
 | []=>some []
 |l::ls=>(lineL c d l).bind fun x=>(linesL c d ls).map fun xs=>x::xs
def openT (c:EConf) (d:List EFile) (s:List UInt8):Option EIndex:=
 bif decide ((cutAt 10 s).getLastD []=endT)then(linesL c d (cutAt 10 s).dropLast).bind fun ls=>bif okIdx (c,ls)then some (c,ls)else none else none
def openG (c:EConf) (d:List EFile) (n:Int):Option EIndex:=(fileD d (genN n)).bind (openT c d)
theorem jZP {x:EIndex} (hk:okIdx x=true) {l:ELive} (hl:l∈x.2):okIdx (x.1,[l])=true:=by
 obtain⟨k1,k2,k3,k4⟩:=okIdx_ok hk
 have h1:okLive x.1 l=true:=zax.1 k3 l hl
 have h2:okDocs (sortD (allD [l]))=true:=okDocs_sub k4 (allD_sub (List.singleton_sublist.2 hl))
 unfold okIdx
 dsimp only
 rw[k1,h2,List.all_cons,h1]
 rfl
theorem j1O (n k:Int) (hn:0<=n) (hk:0<=k) {c:UInt8} (hc:c≠115/\c≠101/\c≠103/\c≠120) (hd:digB c=false):c∉segN n k:=by
 unfold segN
 rw[zaB,zaB,zaB,not_or,not_or,not_or]
 refine⟨⟨⟨?_,itoa_no (by omega) hd⟩,?_⟩,itoa_no hk hd⟩
 .simp [hc.1,hc.2.1,hc.2.2.1]
 .simp [hc.2.2.2]
theorem j14 {n:Int} (hn:0<=n) (ls:List ELive) (k:Nat):∀l,l∈(segFrom n k ls).map manLn->(10:UInt8)∉l:=by
 induction ls generalizing k with
 |nil=>intro l hl;cases hl
 |cons x ls ih=>
  intro l hl
  rw[segFrom,zv,zp]at hl
  rcases hl with rfl|hl
  .unfold manLn
   dsimp only
   rw[zaB,zaB,not_or,not_or]
   exact⟨⟨j1O n k hn (by omega) (by decide) (by decide),by decide⟩,itoa_no (by omega) (by decide)⟩
  .exact ih (k+1) l hl
def j1c (d:List EFile) (n:Int):Nat->List ELive->Prop
 |_,[]=>True
 |k,l::ls=>fileD d (segN n (k:Int))=some (liveT l.1.1 l.2)/\j1c d n (k+1) ls
theorem j1S {c:EConf} {d:List EFile} {n:Int} (hn:0<=n):∀(ls:List ELive) (k:Nat),(∀l,l∈ls->okIdx (c,[l])=true)->j1c d n k ls->linesL c d ((segFrom n k ls).map manLn)=some ls
 | [],k,_,_=>rfl
 |l::ls,k,h,ht=>by
  have ih:=j1S hn ls (k+1) (fun x hx=>h x (zl _ hx)) ht.2
  have hc:cut1 32 (manLn (segN n (k:Int),liveT l.1.1 l.2))=(segN n (k:Int),Lib.itoa (crcT (liveT l.1.1 l.2):Int),true):=by
   have e:manLn (segN n (k:Int),liveT l.1.1 l.2)=segN n (k:Int)++32::Lib.itoa (crcT (liveT l.1.1 l.2):Int):=by unfold manLn;simp
   rw[e,cut1_hit (j1O n k hn (by omega) (by decide) (by decide))]
  have hl:lineL c d (manLn (segN n (k:Int),liveT l.1.1 l.2))=some l:=by
   unfold lineL
   rw[hc]
   dsimp only
   rw[ht.1]
   dsimp only
   rw[zb rfl,zg,getI_put (h l zy)]
  rw[segFrom,zv,linesL,hl,za,ih]
  rfl
theorem j16 {x:EIndex} (hk:okIdx x=true) {d:List EFile} {n:Int} (hn:0<=n) (hg:fileD d (genN n)=some (manT (segFrom n 0 x.2))) (ht:j1c d n 0 x.2):openG x.1 d n=some x:=by
 unfold openG
 rw[hg,za]
 unfold openT manT
 rw[j1H _ _ (j14 hn x.2 0) (by decide),List.getLastD_concat,List.dropLast_concat,zb rfl,zg,j1S hn x.2 0 (fun l hl=>jZP hk hl) ht,za]
 have:((x.1,x.2):EIndex)=x:=rfl
 rw[this,hk]
 rfl
def mostFrom (d:List EFile):Nat->Nat
 |0=>0
 |k+1=>bif(fileD d (genN ((k+1:Nat):Int))).isSome then k+1 else mostFrom d k
def mostD (d:List EFile):Nat:=mostFrom d 99
theorem mostFrom_le (d:List EFile):∀m,mostFrom d m<=m
 |0=>zae _
 |k+1=>by
  have ih:=mostFrom_le d k
  rw[mostFrom]
  cases(fileD d (genN ((k+1:Nat):Int))).isSome with
  |true=>exact zae _
  |false=>rw[ze];omega
theorem mostFrom_none (d:List EFile):∀(m j:Nat),mostFrom d m<j->j<=m->fileD d (genN (j:Int))=none
 |0,j,h1,h2=>by omega
 |k+1,j,h1,h2=>by
  rw[mostFrom]at h1
  cases hs:(fileD d (genN ((k+1:Nat):Int))).isSome with
  |true=>rw[hs,zg]at h1;omega
  |false=>
   rw[hs,ze]at h1
   by_cases e:j=k+1
   .subst e
    rw[<-Option.not_isSome_iff_eq_none,hs]
    decide
   .exact mostFrom_none d k j h1 (by omega)
def oldB (n:Int) (nm:List UInt8):Bool:=decide (7<=nm.length)&&(decide (nm.take 3=[103,101,110])||decide (nm.take 3=[115,101,103]))&&(((nm.drop 3).take 4).all digB&&(decide ((1001:Int)<=(numD 0 ((nm.drop 3).take 4):Int))&&decide ((numD 0 ((nm.drop 3).take 4):Int)<=1000+n-1)))
def cleanD (n:Int) (d:List EFile):List EFile:=d.filter fun f=> !oldB n f.1
theorem j1n (n:Int) (nm:List UInt8):∀d,fileD (cleanD n d) nm=if oldB n nm=true then none else fileD d nm
 | []=>by
  show(none:Option (List UInt8))=_
  split<;>rfl
 |g::d=>by
  have ih:=j1n n nm d
  unfold cleanD at ih⊢
  rw[za9,fileD_cons]
  cases ho:oldB n g.1 with
  |true=>
   rw[zu (by simp),ih]
   by_cases e:g.1=nm
   .rw [<-e,ho,zf rfl,zf rfl]
   .rw [zu e]
  |false=>
   rw[zf (by simp),fileD_cons,ih]
   by_cases e:g.1=nm
   .rw [zf e,zf e,zu (by rw[<-e,ho];decide)]
   .rw [zu e,zu e]
theorem j3t {u:Nat} (h1:1000<=u) (h2:u<10000):(Lib.decDigits u).length=4:=by
 rw[digits_eq,zu (by omega),digits_eq,zu (by omega),digits_eq,zu (by omega),digits_eq,zf (by omega)]
 rfl
theorem itoa_four {n:Int} (h1:0<=n) (h2:n<=1000):(Lib.itoa (1000+n)).length=4/\numD 0 (Lib.itoa (1000+n))=(1000+n).toNat:=by
 unfold Lib.itoa
 rw[zu (by omega)]
 exact⟨j3t (by omega) (by omega),jXH _ _ (zae _)⟩
theorem j27 {n:Int} (h1:0<=n) (h2:n<=1000):oldB n (genN n)=false:=by
 obtain⟨h3,h4⟩:=itoa_four h1 h2
 have e:((genN n).drop 3).take 4=Lib.itoa (1000+n):=by
  have:(genN n).drop 3=Lib.itoa (1000+n):=rfl
  rw[this,<-h3,zq]
 unfold oldB
 rw[e,h4,zd (by omega:¬(((1000+n).toNat:Nat):Int)<=1000+n-1),zcf,zcf,zcf]
theorem j2S {n:Int} (k:Int) (h1:0<=n) (h2:n<=1000):oldB n (segN n k)=false:=by
 obtain⟨h3,h4⟩:=itoa_four h1 h2
 have e:((segN n k).drop 3).take 4=Lib.itoa (1000+n):=by
  have:(segN n k).drop 3=Lib.itoa (1000+n)++([120]++Lib.itoa k):=by
   unfold segN
   rw[zao,zao]
   rfl
  rw[this,<-h3,List.take_left]
 unfold oldB
 rw[e,h4,zd (by omega:¬(((1000+n).toNat:Nat):Int)<=1000+n-1),zcf,zcf,zcf]
def writeAll (fs:List EFile) (d:List EFile):List EFile:=fs.foldl (fun d f=>writeD f d) d
theorem writeAll_cons (f:EFile) (fs d:List EFile):writeAll (f::fs) d=writeAll fs (writeD f d):=rfl
theorem j1C (a b d:List EFile):writeAll (a++b) d=writeAll b (writeAll a d):=by unfold writeAll;rw[zaX]
def takeW (w:Int) (fs:List EFile):List EFile:=bif decide (w<0)then fs else fs.take w.toNat
def commitD (d:List EFile) (x:EIndex) (w:Int):List EFile×Int:=
 bif decide (99<mostD d+1)||decide (24<d.length+6)then(d,0)else
  (bif decide (w<0)||decide (((filesC x (mostD d+1:Nat)).length:Int)<w)then cleanD (mostD d+1:Nat) (writeAll (takeW w (filesC x (mostD d+1:Nat))) d)else writeAll (takeW w (filesC x (mostD d+1:Nat))) d,(mostD d+1:Nat))
theorem file_other (nm:List UInt8):∀(fs d:List EFile),(∀f,f∈fs->f.1≠nm)->fileD (writeAll fs d) nm=fileD d nm
 | [],d,_=>rfl
 |f::fs,d,h=>by rw[writeAll_cons,file_other nm fs _ fun g hg=>h g (zl _ hg),j1g,zu (h f zy)]
theorem j1G :∀(fs d:List EFile),(fs.Pairwise fun a b=>a.1≠b.1)->∀f,f∈fs->fileD (writeAll fs d) f.1=some f.2
 |g::fs,d,hp,f,hf=>by
  rw[zas]at hp
  rw[writeAll_cons]
  rcases zp.1 hf with rfl|hf
  .rw [file_other f.1 fs _ (fun x hx=>(hp.1 x hx).symm),j1g,zf rfl]
  .exact j1G fs _ hp.2 f hf
theorem seg_mem {n:Int}:∀(ls:List ELive) (k:Nat) (f:EFile),f∈segFrom n k ls->∃j:Nat,k<=j/\j<k+ls.length/\f.1=segN n (j:Int)
 | [],k,f,h=>by cases h
 |l::ls,k,f,h=>by
  rw[segFrom]at h
  rcases zp.1 h with rfl|h
  .exact ⟨k,zae _,by simp,rfl⟩
  .obtain ⟨j,h1,h2,h3⟩:=seg_mem ls (k+1) f h
   exact⟨j,by omega,by rw[zi];omega,h3⟩
theorem j1P {n:Int}:∀(ls:List ELive) (k:Nat),k+ls.length<=1000000->(segFrom n k ls).Pairwise fun a b=>a.1≠b.1
 | [],k,_=>za4
 |l::ls,k,hl=>by
  rw[zi]at hl
  rw[segFrom,zas]
  refine⟨fun f hf e=>?_,j1P ls (k+1) (by omega)⟩
  obtain⟨j,h1,h2,h3⟩:=seg_mem ls (k+1) f hf
  have e:segN n (k:Int)=segN n (j:Int):=e.trans h3
  have:=j1Z (by omega) (by omega) (by omega) (by omega) e
  omega
theorem j28 {x:EIndex} (hx:x.2.length<=5) (n:Int):(filesC x n).Pairwise fun a b=>a.1≠b.1:=by
 unfold filesC
 rw[List.pairwise_append]
 refine⟨j1P x.2 0 (by omega),List.pairwise_singleton _ _,fun a ha b hb=>?_⟩
 rw[zaD]at hb
 obtain⟨j,_,_,h3⟩:=seg_mem x.2 0 a ha
 rw[hb,h3]
 exact(gen_seg n n j).symm
theorem segFrom_len (n:Int):∀(ls:List ELive) (k:Nat),(segFrom n k ls).length=ls.length
 | [],_=>rfl
 |l::ls,k=>by rw[segFrom,zi,zi,segFrom_len n ls]
theorem filesC_len (x:EIndex) (n:Int):(filesC x n).length=x.2.length+1:=by
 unfold filesC
 rw[zam,segFrom_len]
 rfl
theorem j1r {d:List EFile} {n:Int}:∀(ls:List ELive) (k:Nat),(∀f,f∈segFrom n k ls->fileD d f.1=some f.2)->j1c d n k ls
 | [],_,_=>True.intro
 |l::ls,k,h=>by
  rw[segFrom]at h
  exact⟨h _ zy,j1r ls (k+1) fun f hf=>h f (zl _ hf)⟩
def openFrom (c:EConf) (d:List EFile):Nat->EIndex×Int
 |0=>((c,[]),0)
 |k+1=>match openG c d ((k+1:Nat):Int)with
  |some x=>(x,((k+1:Nat):Int))
  |none=>openFrom c d k
def openD (c:EConf) (d:List EFile):EIndex×Int:=openFrom c d 99
theorem j1s (c:EConf) (d:List EFile):∀m,0<=(openFrom c d m).2/\(openFrom c d m).2<=(mostFrom d m:Int)
 |0=>⟨zbD _,zbD _⟩
 |k+1=>by
  have ih:=j1s c d k
  rw[openFrom,mostFrom]
  cases hg:openG c d ((k+1:Nat):Int)with
  |some x=>
   dsimp only
   have:(fileD d (genN ((k+1:Nat):Int))).isSome=true:=by
    unfold openG at hg
    cases hf:fileD d (genN ((k+1:Nat):Int))with
    |some s=>rfl
    |none=>rw[hf]at hg;cases hg
   rw[this,zg]
   exact⟨by omega,zbD _⟩
  |none=>
   dsimp only
   have hm:=mostFrom_le d k
   cases(fileD d (genN ((k+1:Nat):Int))).isSome with
   |true=>rw[zg];exact⟨ih.1,by omega⟩
   |false=>exact ih
theorem j1x {c:EConf} {d:List EFile} {n:Nat} {x:EIndex} (h1:1<=n) (hx:openG c d (n:Int)=some x):∀m,n<=m->(∀j:Nat,n<j->j<=m->fileD d (genN (j:Int))=none)->openFrom c d m=(x,(n:Int))
 |0,h,_=>by omega
 |k+1,h,hj=>by
  rw[openFrom]
  by_cases e:n=k+1
  .rw [<-e,hx]
  .have:openG c d ((k+1:Nat):Int)=none:=by
    unfold openG
    rw[hj (k+1) (by omega) (zae _)]
    rfl
   rw[this]
   exact j1x h1 hx k (by omega) fun j h2 h3=>hj j h2 (by omega)
theorem commit_open {d:List EFile} {x:EIndex} (hk:okIdx x=true) (hn:(decide (99<mostD d+1)||decide (24<d.length+6))=false) (w:Int) (hw:w<0\/((x.2.length+1:Nat):Int)<=w):
  (commitD d x w).2=((mostD d+1:Nat):Int)/\openD x.1 (commitD d x w).1=(x,((mostD d+1:Nat):Int)):=by
 have hx:x.2.length<=5:=(okIdx_ok hk).2.1
 have h99:mostD d+1<=99:=by
  rw[Bool.or_eq_false_iff,decide_eq_false_iff_not]at hn
  omega
 have hnone:∀j:Nat,mostD d+1<j->j<=99->fileD d (genN (j:Int))=none:=fun j h1 h2=>mostFrom_none d 99 j (by unfold mostD at h1;omega) h2
 unfold commitD
 rw[hn,ze]
 refine⟨rfl,?_⟩
 generalize hm:mostD d+1=n at*
 have hall:takeW w (filesC x (n:Int))=filesC x (n:Int):=by
  unfold takeW
  rcases hw with hw|hw
  .rw [zb hw];rfl
  .rw [zd (by omega),ze,zba]
   rw[filesC_len]
   omega
 rw[hall]
 have hin:=j1G (filesC x (n:Int)) d (j28 hx (n:Int))
 have hot:∀j:Nat,n<j->j<=99->fileD (writeAll (filesC x (n:Int)) d) (genN (j:Int))=none:=fun j h1 h2=>by
  rw[file_other _ _ _ fun f hf e=>?_]
  .exact hnone j h1 h2
  .unfold filesC at hf
   rw[zaB,zaD]at hf
   rcases hf with hf|rfl
   .obtain ⟨i,_,_,h3⟩:=seg_mem x.2 0 f hf
    exact gen_seg _ _ _ (e.symm.trans h3)
   .have:=genN_inj (by omega) (by omega) (by omega) (by omega) e
    omega
 have key:∀z:List EFile,(∀f,f∈filesC x (n:Int)->fileD z f.1=some f.2)->(∀j:Nat,n<j->j<=99->fileD z (genN (j:Int))=none)->openD x.1 z=(x,(n:Int)):=fun z h1 h2=>by
  have hg:openG x.1 z (n:Int)=some x:=j16 hk (by omega) (h1 (genN (n:Int),_) (by unfold filesC;exact zaJ _ zy)) (j1r x.2 0 fun f hf=>h1 f (by unfold filesC;exact zad _ hf))
  exact j1x (by omega) hg 99 (by omega) h2
 cases decide (w<0)||decide (((filesC x (n:Int)).length:Int)<w)with
 |false=>exact key _ hin hot
 |true=>
  rw[zg]
  refine key _ (fun f hf=>?_) (fun j h1 h2=>?_)
  .rw [j1n]
   have ho:oldB (n:Int) f.1=false:=by
    unfold filesC at hf
    rw[zaB,zaD]at hf
    rcases hf with hf|rfl
    .obtain ⟨i,_,_,h3⟩:=seg_mem x.2 0 f hf
     rw[h3]
     exact j2S _ (by omega) (by omega)
    .exact j27 (by omega) (by omega)
   rw[ho,zu (by decide)]
   exact hin f hf
  .rw [j1n,hot j h1 h2]
   split<;>rfl
theorem open_before (c:EConf) (d:List EFile):0<=(openD c d).2/\(openD c d).2<((mostD d+1:Nat):Int):=by
 have:=j1s c d 99
 unfold openD mostD
 omega
def flAt (d:List EFile) (n:Nat):EFile:=d[n]?.getD ([],[])
theorem flAt_eq {d:List EFile} {n:Nat} (h:n<d.length):d[n]=flAt d n:=by unfold flAt;rw[zc h];rfl
def okFl (d:List EFile) (n:Nat):Bool:=okW (flAt d n).1&&(decide (n=0)||Op.bytesLess (flAt d (n-1)).1 (flAt d n).1)
def okDisk (d:List EFile):Bool:=allN d.length (okFl d)&&decide ((d.length:Int)<=24)
structure DiskP (d:List EFile):Prop where
 up:UpN d
 names:∀f,f∈d->okW f.1=true
 few:d.length<=24
theorem okDisk_ok {d:List EFile} (h:okDisk d=true):DiskP d:=by
 unfold okDisk at h
 rw[zj,zw]at h
 refine⟨?_,fun f hf=>?_,by omega⟩
 .refine pairwise_adj (fun a b:EFile=>Op.bytesLess a.1 b.1=true) (fun a b c h1 h2=>bl_trans h1 h2) d fun n hn=>?_
  have h2:=allN_at h.1 hn
  unfold okFl at h2
  rw[zj,zd (by omega),zbf,zbq,<-flAt_eq hn,<-flAt_eq (by omega:n<d.length)]at h2
  exact h2.2
 .obtain ⟨n,hn,rfl⟩:=zav.1 hf
  have h2:=allN_at h.1 hn
  unfold okFl at h2
  rw[zj,<-flAt_eq hn]at h2
  exact h2.1
theorem DiskP.ok {d:List EFile} (h:DiskP d):okDisk d=true:=by
 have hf:=h.few
 unfold okDisk allN
 rw[zj,zax,zw]
 refine⟨fun n hn=>?_,by omega⟩
 have hn:n<d.length:=by simpa using hn
 unfold okFl
 rw[<-flAt_eq hn,h.names _ (zr hn),zaj]
 match n,hn with
 |0,_=>rfl
 |n+1,hn=>
  rw[zbq,<-flAt_eq (by omega:n<d.length),za2.1 h.up n (n+1) (by omega) hn (by omega),Bool.or_true]
theorem DiskP.write {d:List EFile} (h:DiskP d) {f:EFile} (hf:okW f.1=true) (hl:d.length<24):DiskP (writeD f d):=
 ⟨write_up f d h.up,fun g hg=>by
  rcases write_mem f g d hg with rfl|hg
  .exact hf
  .exact h.names g hg,by have:=write_len f d;omega⟩
theorem writeAll_len :∀(fs d:List EFile),(writeAll fs d).length<=d.length+fs.length
 | [],d=>zae _
 |f::fs,d=>by
  have h1:=writeAll_len fs (writeD f d)
  have h2:=write_len f d
  rw[writeAll_cons,zi]
  omega
theorem DiskP.all :∀(fs:List EFile) {d:List EFile},DiskP d->(∀f,f∈fs->okW f.1=true)->d.length+fs.length<=24->DiskP (writeAll fs d)
 | [],d,h,_,_=>h
 |f::fs,d,h,hf,hl=>by
  rw[zi]at hl
  have h1:=write_len f d
  exact DiskP.all fs (h.write (hf f zy) (by omega)) (fun g hg=>hf g (zl _ hg)) (by show(writeD f d).length+fs.length<=24;omega)
theorem DiskP.clean {d:List EFile} (h:DiskP d) (n:Int):DiskP (cleanD n d):=
 ⟨h.up.sublist List.filter_sublist,fun f hf=>h.names f (zaZ.1 hf).1,zau (zbh _ _) h.few⟩
theorem dig_wB {c:UInt8} (h:digB c=true):wB (c.toNat:Int)=true:=by
 unfold digB at h
 rw[zj,zw,zw]at h
 unfold wB
 rw[zb (by omega:(48:Int)<=(c.toNat:Int)),zb (by omega:(c.toNat:Int)<=57)]
 simp
theorem genN_ok {n:Int} (h1:0<=n) (h2:n<=1000):okW (genN n)=true:=by
 refine(okW_iff _).2 ⟨fun c hc=>?_,?_⟩
 .unfold genN at hc
  rw[zaB]at hc
  rcases hc with hc|hc
  .simp only [zp,List.mem_nil_iff,or_false]at hc
   rcases hc with rfl|rfl|rfl<;>decide
  .exact dig_wB (itoa_dig (by omega) c hc)
 .have:=(itoa_four h1 h2).1
  unfold genN
  rw[zam]
  show 1<=3+_/\3+_<=12
  omega
theorem segN_ok {n k:Int} (h1:0<=n) (h2:n<=1000) (h3:0<=k) (h4:k<=9):okW (segN n k)=true:=by
 refine(okW_iff _).2 ⟨fun c hc=>?_,?_⟩
 .unfold segN at hc
  rw[zaB,zaB,zaB]at hc
  rcases hc with((hc|hc)|hc)|hc
  .simp only [zp,List.mem_nil_iff,or_false]at hc
   rcases hc with rfl|rfl|rfl<;>decide
  .exact dig_wB (itoa_dig (by omega) c hc)
  .rw [zaD.1 hc]
   decide
  .exact dig_wB (itoa_dig (by omega) c hc)
 .have h5:=(itoa_four h1 h2).1
  have h6:(Lib.itoa k).length<=1:=by
   unfold Lib.itoa
   rw[zu (by omega)]
   exact digits_len 1 k.toNat (zae _) (by rw[Nat.pow_one];omega)
  unfold segN
  rw[zam,zam,zam]
  show 1<=3+_+1+_/\3+_+1+_<=12
  omega
theorem commit_ok {d:List EFile} (h:DiskP d) {x:EIndex} (hx:x.2.length<=5) (w:Int):DiskP (commitD d x w).1:=by
 unfold commitD
 cases hn:decide (99<mostD d+1)||decide (24<d.length+6)with
 |true=>exact h
 |false=>
  rw[ze]
  rw[Bool.or_eq_false_iff,decide_eq_false_iff_not,decide_eq_false_iff_not]at hn
  have hsub:∀f,f∈takeW w (filesC x ((mostD d+1:Nat):Int))->f∈filesC x ((mostD d+1:Nat):Int):=fun f hf=>by
   unfold takeW at hf
   cases h:decide (w<0)with
   |true=>rw[h]at hf;exact hf
   |false=>rw[h]at hf;exact zaP hf
  have hlen:(takeW w (filesC x ((mostD d+1:Nat):Int))).length<=x.2.length+1:=by
   rw[<-filesC_len x ((mostD d+1:Nat):Int)]
   unfold takeW
   cases decide (w<0)with
   |true=>exact zae _
   |false=>rw[ze,zah];exact Nat.min_le_right _ _
  have hz:DiskP (writeAll (takeW w (filesC x ((mostD d+1:Nat):Int))) d):=DiskP.all _ h (fun f hf=>by
   have hf:=hsub f hf
   unfold filesC at hf
   rw[zaB,zaD]at hf
   rcases hf with hf|rfl
   .obtain ⟨j,_,h2,h3⟩:=seg_mem x.2 0 f hf
    rw[h3]
    exact segN_ok (by omega) (by omega) (by omega) (by omega)
   .exact genN_ok (by omega) (by omega)) (by omega)
  dsimp only
  cases decide (w<0)||decide (((filesC x ((mostD d+1:Nat):Int)).length:Int)<w)with
  |true=>exact hz.clean _
  |false=>exact hz
theorem cut_head (b:UInt8):∀(s p:List UInt8) (ps:List (List UInt8)),cutAt b s=p::ps->∃c,s=p++c
 | [],p,ps,h=>by cases h;exact⟨[],rfl⟩
 |x::l,p,ps,h=>by
  unfold cutAt at h
  by_cases e:x=b
  .rw [zf e]at h
   cases h
   exact⟨x::l,rfl⟩
  .rw [zu e]at h
   cases hc:cutAt b l with
   |nil=>exact absurd hc (cutAt_ne b l)
   |cons q qs=>
    rw[hc]at h
    cases h
    obtain⟨c,hc2⟩:=cut_head b l q _ hc
    exact⟨c,by rw[hc2];rfl⟩
theorem cut_in (b:UInt8):∀(s l:List UInt8),l∈cutAt b s->∃a c,s=a++l++c
 | [],l,h=>by
  rw[show cutAt b []=[[]]from rfl,zaD]at h
  subst h
  exact⟨[],[],rfl⟩
 |x::t,l,h=>by
  have ih:=cut_in b t l
  unfold cutAt at h
  by_cases e:x=b
  .rw [zf e,zp]at h
   rcases h with rfl|h
   .exact ⟨[],x::t,rfl⟩
   .obtain ⟨a,c,h2⟩:=ih h
    exact⟨x::a,c,by rw[h2];rfl⟩
  .rw [zu e]at h
   cases hc:cutAt b t with
   |nil=>exact absurd hc (cutAt_ne b t)
   |cons q qs=>
    rw[hc]at h
    dsimp only at h
    rw[zp]at h
    rcases h with rfl|h
    .obtain ⟨c,h2⟩:=cut_head b t q qs hc
     exact⟨[],c,by rw[h2];rfl⟩
    .obtain ⟨a,c,h2⟩:=ih (by rw[hc];exact zl _ h)
     exact⟨x::a,c,by rw[h2];rfl⟩
theorem cut1_pre (b:UInt8) (s:List UInt8):∃r,s=(cut1 b s).1++r:=by
 by_cases h:b∈s
 .obtain ⟨p,r,e,hn⟩:=List.eq_append_cons_of_mem h
  rw[e,cut1_hit hn]
  exact⟨b::r,rfl⟩
 .rw [cut1_none h]
  exact⟨[],(zat _).symm⟩
def Mk (d:Nat) (t:List UInt8):Prop:=∀(p:Nat) (e:UInt8),t[p]? =some 115->t[p+6]? =some e->50<=e.toNat->e.toNat<=57->e.toNat=48+d
def MkP (d:Nat) (t:List UInt8):Prop:=∀p:Nat,t[p]? =some 115->t[p+6]? =some (UInt8.ofNat (48+d))
theorem itoa_k (n:Nat) (h:n<=9):Lib.itoa (1000+(n:Int))=[49,48,48,UInt8.ofNat (48+n)]:=by
 have e1:(1000+(n:Int)).toNat=1000+n:=by omega
 have e2:(1000+n)/10=100:=by omega
 have e3:(1000+n)%10=n:=by omega
 have d10:Lib.decDigits 10=[49,48]:=by
  rw[digits_eq 10,zu (by omega),show 10/10=1 from rfl,digits_eq 1,zf (by omega)]
  rfl
 have d100:Lib.decDigits 100=[49,48,48]:=by
  rw[digits_eq 100,zu (by omega),show 100/10=10 from rfl,d10]
  rfl
 unfold Lib.itoa
 rw[zu (by omega),e1,digits_eq,zu (by omega),e2,e3,d100]
 rfl
theorem segN_at :∀(n:Nat),1<=n->n<=9->∀j:Int,∃r,segN (n:Int) j=[115,101,103,49,48,48,UInt8.ofNat (48+n),120]++r:=fun n h1 h2 j=>by
 have:=itoa_k n h2
 refine⟨Lib.itoa j,?_⟩
 unfold segN
 rw[this]
 rfl
theorem mk_name {d n:Nat} {t l:List UInt8} {j:Int} (h:Mk d t) (h1:2<=n) (h2:n<=9) (hl:l∈cutAt 10 t) (e:(cut1 32 l).1=segN (n:Int) j):n=d:=by
 obtain⟨a,c,e1⟩:=cut_in 10 t l hl
 obtain⟨r,e2⟩:=cut1_pre 32 l
 obtain⟨q,e3⟩:=segN_at n (by omega) h2 j
 rw[e,e3]at e2
 have e4:t=a++([115,101,103,49,48,48,UInt8.ofNat (48+n),120]++(q++r++c)):=by
  rw[e1,e2]
  simp only[zao]
 have g:∀i,t[a.length+i]? =([115,101,103,49,48,48,UInt8.ofNat (48+n),120]++(q++r++c))[i]? :=fun i=>by
  rw[e4,zaz (by omega),Nat.add_sub_cancel_left]
 have en:(UInt8.ofNat (48+n)).toNat=48+n:=by
  rw[UInt8.toNat_ofNat']
  omega
 have:=h a.length (UInt8.ofNat (48+n)) (by have:=g 0;rw[zbz]at this;rw[this];rfl) (by rw[g 6];rfl) (by omega) (by omega)
 omega
theorem linesL_same {c:EConf} {d y:List EFile}:∀ls:List (List UInt8),(∀l,l∈ls->fileD y (cut1 32 l).1=fileD d (cut1 32 l).1)->linesL c y ls=linesL c d ls
 | [],_=>rfl
 |l::ls,h=>by
  unfold linesL lineL
  rw[h l zy,linesL_same ls fun l hl=>h l (zl _ hl)]
theorem openT_same {c:EConf} {d y:List EFile} {s:List UInt8} (h:∀l,l∈cutAt 10 s->fileD y (cut1 32 l).1=fileD d (cut1 32 l).1):openT c y s=openT c d s:=by
 unfold openT
 rw[linesL_same (y:=y) (d:=d) _ fun l hl=>h l (List.dropLast_subset _ hl)]
theorem openFrom_same {c:EConf} {d y:List EFile}:∀m:Nat,(∀k:Nat,1<=k->k<=m->openG c y (k:Int)=openG c d (k:Int))->openFrom c y m=openFrom c d m
 |0,_=>rfl
 |m+1,h=>by
  unfold openFrom
  rw[h (m+1) (by omega) (zae _),openFrom_same m fun k h1 h2=>h k h1 (by omega)]
def InvM (m:Nat) (P:Nat->List UInt8->Prop) (d:List EFile):Prop:=∀f,f∈d->∀k:Nat,1<=k->k<=99->f.1=genN (k:Int)->k<=m/\P k f.2
theorem fileD_mem {d:List EFile} {nm t:List UInt8} (h:fileD d nm=some t):(nm,t)∈d:=by
 unfold fileD at h
 cases hf:d.find? (fun f=>decide (f.1=nm))with
 |none=>rw[hf]at h;cases h
 |some f=>
  rw[hf]at h
  cases h
  have h1:=List.find?_some hf
  have h2:=List.mem_of_find?_eq_some hf
  rw[decide_eq_true_iff]at h1
  rw[<-h1]
  exact h2
theorem InvM.most {m:Nat} {P:Nat->List UInt8->Prop} {d:List EFile} (h:InvM m P d):∀j,j<=99->mostFrom d j<=m
 |0,_=>zaf _
 |j+1,hj=>by
  unfold mostFrom
  cases hf:fileD d (genN ((j+1:Nat):Int))with
  |none=>exact h.most j (by omega)
  |some t=>exact(h _ (fileD_mem hf) (j+1) (by omega) hj rfl).1
theorem torn_open {d:List EFile} {x:EIndex} {m:Nat} (h:InvM m Mk d) (hm:m+1<=9) (hn:(decide (99<mostD d+1)||decide (24<d.length+6))=false) (w:Int) (h0:0<=w) (hw:w<((x.2.length+1:Nat):Int)) (c:EConf):openD c (commitD d x w).1=openD c d:=by
 have hmost:mostD d<=m:=h.most 99 (zae _)
 unfold commitD
 rw[hn,ze]
 dsimp only
 have e1:(decide (w<0)||decide (((filesC x (mostD d+1:Nat)).length:Int)<w))=false:=by
  rw[filesC_len,zd (by omega),zd (by omega)]
  rfl
 rw[e1,ze]
 have hall:∀f,f∈takeW w (filesC x (mostD d+1:Nat))->∃j:Nat,f.1=segN ((mostD d+1:Nat):Int) (j:Int):=fun f hf=>by
  unfold takeW at hf
  rw[zd (by omega),ze]at hf
  unfold filesC at hf
  rw[List.take_append_of_le_length (by rw[segFrom_len];omega)]at hf
  obtain⟨j,_,_,e⟩:=seg_mem x.2 0 f (zaP hf)
  exact⟨j,e⟩
 have hother:∀nm,(∀j:Nat,nm≠segN ((mostD d+1:Nat):Int) (j:Int))->fileD (writeAll (takeW w (filesC x (mostD d+1:Nat))) d) nm=fileD d nm:=fun nm hnm=>file_other nm _ d fun f hf e=>by
  obtain⟨j,e2⟩:=hall f hf
  exact hnm j (e.symm.trans e2)
 unfold openD
 refine openFrom_same 99 fun k hk1 hk2=>?_
 unfold openG
 rw[hother _ fun j e=>gen_seg _ _ _ e]
 cases hf:fileD d (genN (k:Int))with
 |none=>rfl
 |some t=>
  rw[za,za]
  obtain⟨hkm,hkt⟩:=h _ (fileD_mem hf) k hk1 hk2 rfl
  have hk:k<=mostD d:=by
   refine Nat.le_of_not_lt fun hlt=>?_
   rw[mostFrom_none d 99 k hlt hk2]at hf
   cases hf
  refine openT_same fun l hl=>hother _ fun j e=>?_
  have:=mk_name hkt (by omega:2<=mostD d+1) (by omega) hl e
  omega
theorem man_mk {n:Nat} (h1:1<=n) (h2:n<=9):∀(ls:List ELive) (k:Nat),MkP n (linesT ((segFrom (n:Int) k ls).map manLn)++endT)
 | [],k,p,hp=>by
  exfalso
  have hp:([101,110,100]:List UInt8)[p]? =some 115:=hp
  have:=zak hp
  exact absurd this (by decide)
 |l::ls,k,p,hp=>by
  have ih:=man_mk h1 h2 ls (k+1)
  obtain⟨r,e3⟩:=segN_at n h1 h2 (k:Int)
  obtain⟨line,hline⟩:∃line,line=manLn (segN (n:Int) (k:Int),liveT l.1.1 l.2):=⟨_,rfl⟩
  have hrest:∀rest:List UInt8,linesT ((segFrom (n:Int) k (l::ls)).map manLn)++endT=(line++ [10])++(linesT ((segFrom (n:Int) (k+1) ls).map manLn)++endT):=fun _=>by
   show linesT (manLn (segN (n:Int) (k:Int),liveT l.1.1 l.2)::(segFrom (n:Int) (k+1) ls).map manLn)++endT=_
   rw[hline,linesT_cons]
   simp only[zao,zbk,zaW]
  rw[hrest []]at hp⊢
  have hl:line=[115,101,103,49,48,48,UInt8.ofNat (48+n),120]++(r++ [32]++Lib.itoa (crcT (liveT l.1.1 l.2):Int)):=by
   rw[hline]
   unfold manLn
   rw[e3]
   simp only[zao]
  have hno:(115:UInt8)∉([101,103,49,48,48,UInt8.ofNat (48+n),120]++(r++ [32]++Lib.itoa (crcT (liveT l.1.1 l.2):Int))++ [10]):=by
   have hr:(115:UInt8)∉r:=by
    have e4:r=Lib.itoa (k:Int):=by
     have e5:=itoa_k n h2
     unfold segN at e3
     rw[e5]at e3
     simpa using e3.symm
    rw[e4]
    exact itoa_no (by omega) (by decide)
   have hc:(115:UInt8)∉Lib.itoa (crcT (liveT l.1.1 l.2):Int):=itoa_no (by omega) (by decide)
   have hd:(115:UInt8)≠UInt8.ofNat (48+n):=fun e=>by
    have:=congrArg UInt8.toNat e
    rw[UInt8.toNat_ofNat']at this
    have h115:(115:UInt8).toNat=115:=rfl
    omega
   generalize UInt8.ofNat (48+n)=u at hd⊢
   simp[hr,hc,hd]
  by_cases hlt:p<(line++ [10]).length
  .rw [zay hlt]at hp
   have hp0:p=0:=by
    cases p with
    |zero=>rfl
    |succ p=>
     exfalso
     rw[hl]at hp
     have:([101,103,49,48,48,UInt8.ofNat (48+n),120]++(r++ [32]++Lib.itoa (crcT (liveT l.1.1 l.2):Int))++ [10])[p]? =some 115:=hp
     exact hno (zak this)
   subst hp0
   rw[hl]
   rfl
  .rw [zaz (by omega)]at hp⊢
   have:=ih _ hp
   rw[<-this]
   congr 1
   omega
theorem commit_inv {m:Nat} {d:List EFile} {x:EIndex} (h:InvM m MkP d) (hm:m+1<=9) (w:Int):InvM (m+1) MkP (commitD d x w).1:=by
 have hmost:mostD d<=m:=h.most 99 (zae _)
 unfold commitD
 cases hn:decide (99<mostD d+1)||decide (24<d.length+6)with
 |true=>
  rw[zg]
  exact fun f hf k h1 h2 e=>⟨zcn (h f hf k h1 h2 e).1,(h f hf k h1 h2 e).2⟩
 |false=>
  rw[ze]
  dsimp only
  have hwr:∀(fs y:List EFile),(∀f,f∈fs->f∈filesC x (mostD d+1:Nat))->InvM (m+1) MkP y->InvM (m+1) MkP (writeAll fs y):=fun fs=>by
   induction fs with
   |nil=>exact fun y _ hy=>hy
   |cons g fs ih=>
    intro y hfs hy
    rw[writeAll_cons]
    refine ih _ (fun f hf=>hfs f (zl _ hf)) fun f hf k h1 h2 e=>?_
    rcases write_mem g f y hf with rfl|hf
    .have:=hfs f zy
     unfold filesC at this
     rw[zaB,zaD]at this
     rcases this with h3|rfl
     .obtain ⟨j,_,_,e2⟩:=seg_mem x.2 0 f h3
      exact absurd (e.symm.trans e2) (gen_seg _ _ _)
     .have e3:mostD d+1=k:=by have:=genN_inj (by omega) (by omega) (by omega) (by omega) e;omega
      subst e3
      exact⟨by omega,man_mk (by omega) (by omega) x.2 0⟩
    .exact hy f hf k h1 h2 e
  have hd:InvM (m+1) MkP d:=fun f hf k h1 h2 e=>⟨zcn (h f hf k h1 h2 e).1,(h f hf k h1 h2 e).2⟩
  have htk:∀f,f∈takeW w (filesC x (mostD d+1:Nat))->f∈filesC x (mostD d+1:Nat):=fun f hf=>by
   unfold takeW at hf
   cases hw:decide (w<0)with
   |true=>rw[hw]at hf;exact hf
   |false=>rw[hw]at hf;exact zaP hf
  have:=hwr _ d htk hd
  cases decide (w<0)||decide (((filesC x (mostD d+1:Nat)).length:Int)<w)with
  |false=>exact this
  |true=>exact fun f hf k h1 h2 e=>this f (zaZ.1 hf).1 k h1 h2 e
inductive Bent (s:List UInt8):List UInt8->Prop where
 |same:Bent s s
 |set (k:Nat) (b:UInt8) (hb:b∈([48,49,32,40,41,10,58,128]:List UInt8)):Bent s (s.take k++ [b]++s.drop (k+1))
 |pre (k:Nat):Bent s (s.take k)
 |post (b:UInt8) (hb:b∈([48,32,41,10]:List UInt8)):Bent s (s++ [b])
theorem MkP.mk {d:Nat} {s:List UInt8} (h:MkP d s) (hd:d<=9):Mk d s:=fun p e h1 h2 _ _=>by
 rw[h p h1]at h2
 cases h2
 rw[UInt8.toNat_ofNat']
 omega
theorem Bent.mk {d:Nat} {s t:List UInt8} (hb:Bent s t) (h:MkP d s) (hd:d<=9):Mk d t:=by
 have key:=h.mk hd
 cases hb with
 |same=>exact key
 |set k b hb=>
  intro p e h1 h2 h3 h4
  have hbb:b.toNat≠115/\(b.toNat<50\/57<b.toNat):=by
   simp only[zp,zco,or_false]at hb
   rcases hb with rfl|rfl|rfl|rfl|rfl|rfl|rfl|rfl<;>decide
  by_cases hk:k<=s.length
  .have get:∀i,i≠k->(s.take k++ [b]++s.drop (k+1))[i]? =s[i]? :=fun i hi=>by
    rcases Nat.lt_or_gt_of_ne hi with hlt|hgt
    .rw [zao,zay (by rw[zah];omega),zaH,zf hlt]
    .rw [zaz (by rw[zam,zah,zbE];omega),zaL]
     congr 1
     rw[zam,zah,zbE]
     omega
   have atk:(s.take k++ [b]++s.drop (k+1))[k]? =some b:=by
    rw[zao,zaz (by rw[zah];omega),zah,zm hk,Nat.sub_self]
    rfl
   have hpk:p≠k:=fun e=>by
    rw[e,atk]at h1
    cases h1
    exact hbb.1 rfl
   have hqk:p+6≠k:=fun e2=>by
    rw[e2,atk]at h2
    cases h2
    omega
   rw[get p hpk]at h1
   rw[get _ hqk]at h2
   exact key p e h1 h2 h3 h4
  .have e1:s.take k=s:=zba (by omega)
   have e2:s.drop (k+1)=[]:=zbw (by omega)
   rw[e1,e2,zat]at h1 h2
   have h5:p+6<s.length:=by
    refine Nat.lt_of_not_le fun hle=>?_
    rw[zaz hle]at h2
    have:=zak h2
    rw[zaD]at this
    subst this
    omega
   rw[zay (by omega)]at h1
   rw[zay h5]at h2
   exact key p e h1 h2 h3 h4
 |pre k=>
  intro p e h1 h2 h3 h4
  rw[zaH]at h1 h2
  split at h1
  .split at h2
   .exact key p e h1 h2 h3 h4
   .cases h2
  .cases h1
 |post b hb=>
  intro p e h1 h2 h3 h4
  have h5:p+6<s.length:=by
   refine Nat.lt_of_not_le fun hle=>?_
   rw[zaz hle]at h2
   have:=zak h2
   rw[zaD]at this
   subst this
   simp only[zp,zco,or_false]at hb
   rcases hb with rfl|rfl|rfl|rfl<;>revert h3<;>decide
  rw[zay (by omega)]at h1
  rw[zay h5]at h2
  exact key p e h1 h2 h3 h4
theorem InvM.mk {m:Nat} {d:List EFile} (h:InvM m MkP d) (hm:m<=9):InvM m Mk d:=fun f hf k h1 h2 e=>⟨(h f hf k h1 h2 e).1,(h f hf k h1 h2 e).2.mk (by have:=(h f hf k h1 h2 e).1;omega)⟩
theorem wrap32N {a:Nat} (h:a<4294967296):IntKind.u32.wrap (a:Int)=(a:Int):=by
 simp only[IntKind.wrap,IntKind.bits,IntKind.signed]
 simp only[show((2:Int)^32)=4294967296 by rfl]
 have e:(a:Int)%4294967296=a:=zcp (by omega) (by omega)
 rw[e]
 simp
theorem bv_nat {k:Nat} {a:Nat} (h:a<2^k):(BitVec.ofInt k (a:Int)).toNat=a:=by
 rw[BitVec.toNat_ofInt]
 have:(a:Int)%((2^k:Nat):Int)=a:=zcp (by omega) (by exact_mod_cast h)
 rw[this]
 rfl
theorem xor32N {a b:Nat} (ha:a<4294967296) (hb:b<4294967296):bitsI .xor .u32 (a:Int) (b:Int)=((a^^^b:Nat):Int):=by
 have hx:a^^^b<2^32:=zcm (by omega) (by omega)
 show IntKind.u32.wrap ((BitVec.ofInt 32 (a:Int)^^^BitVec.ofInt 32 (b:Int)).toNat:Int)=_
 rw[BitVec.toNat_xor,bv_nat (by omega),bv_nat (by omega),wrap32N (by omega)]
theorem and32N {a:Nat} (ha:a<4294967296):bitsI .and .u32 (a:Int) 1=((a%2:Nat):Int):=by
 show IntKind.u32.wrap ((BitVec.ofInt 32 (a:Int)&&&BitVec.ofInt 32 ((1:Nat):Int)).toNat:Int)=_
 rw[BitVec.toNat_and,bv_nat (by omega),bv_nat (by omega),Nat.and_one_is_mod,wrap32N (by omega)]
theorem xor64N {a b:Nat} (ha:a<4294967296) (hb:b<4294967296):bitsI .xor .i64 (a:Int) (b:Int)=((a^^^b:Nat):Int):=by
 have hx:a^^^b<2^32:=zcm (by omega) (by omega)
 show IntKind.i64.wrap ((BitVec.ofInt 64 (a:Int)^^^BitVec.ofInt 64 (b:Int)).toNat:Int)=_
 rw[BitVec.toNat_xor,bv_nat (by omega),bv_nat (by omega),wrap64 (by omega) (by omega)]
def repB :Nat->Nat->Nat
 |0,c=>c
 |k+1,c=>repB k (crcBit c)
theorem crcByte_rep (c:Nat) (b:UInt8):crcByte c b=repB 8 (c^^^b.toNat):=rfl
theorem crcBit_lt {c:Nat} (h:c<4294967296):crcBit c<4294967296:=by
 unfold crcBit
 split
 .exact zcm (n:=32) (by omega) (by omega)
 .omega
theorem repB_lt :∀(k:Nat) {c:Nat},c<4294967296->repB k c<4294967296
 |0,_,h=>h
 |k+1,_,h=>repB_lt k (crcBit_lt h)
theorem byte_lt {c:Nat} (h:c<4294967296) (b:UInt8):c^^^b.toNat<4294967296:=zcm (n:=32) (by omega) (by have:=b.toNat_lt;omega)
theorem crc_i (N:Nat) (hN:16<=N) (s:List UInt8) (hs:s.length<N) (hl:s.length<=1099511627776):i_Crc_m N s=some (crcT s:Int):=by
 unfold i_Crc_m
 refine Def.get ?_
 refine Def.iter (fun g=>∃(n c:Nat),g=(s,(c:Int),(s.length:Int),(n:Int))/\n<=s.length/\c<4294967296/\(s.drop n).foldl crcByte c=s.foldl crcByte 4294967295) (fun g=>s.length-g.2.2.2.toNat) (fun go g hI ih=>?_) N _ ⟨0,4294967295,rfl,zaf _,by omega,rfl⟩ (by dsimp only;omega)
 obtain⟨n,c,rfl,h1,h2,h3⟩:=hI
 dsimp only
 by_cases hn:n<s.length
 .rw [zb (by omega:(n:Int)<s.length),zg,idx_at hn,za]
  have hd:s.drop n=s[n]::s.drop (n+1):=zan hn
  rw[hd,zaq,crcByte_rep]at h3
  have hb:=s[n].toNat_lt
  have hx:=byte_lt h2 s[n]
  rw[wrap32N (by omega),xor32N h2 (by omega)]
  refine Def.iter (fun g=>∃(k c':Nat),g=(s,(c':Int),(s.length:Int),(n:Int),(k:Int))/\k<=8/\c'<4294967296/\repB (8-k) c'=repB 8 (c^^^s[n].toNat)) (fun g=>8-g.2.2.2.2.toNat) (fun go2 g hI ih2=>?_) N _ ⟨0,_,rfl,by omega,hx,rfl⟩ (by dsimp only;omega)
  obtain⟨k,c',rfl,k1,k2,k3⟩:=hI
  dsimp only
  by_cases hk:k<8
  .have e8:8-k=(8-(k+1))+1:=by omega
   rw[e8]at k3
   have k3:repB (8-(k+1)) (crcBit c')=repB 8 (c^^^s[n].toNat):=k3
   have hf:((c':Nat):Int).fdiv (2^(min (1:Int).toNat (IntKind.bits .u32)))=((c'/2:Nat):Int):=by
    rw[show((2:Int)^(min (1:Int).toNat (IntKind.bits .u32)))=2 by rfl,Int.fdiv_eq_ediv_of_nonneg _ (by decide:(0:Int)<=2)]
    omega
   rw[zb (by omega:(k:Int)<8),zg,and32N k2,hf]
   by_cases hm:c'%2=1
   .rw [zb (by omega:((c'%2:Nat):Int)=1),zg]
    refine Def.ite (by decide) (Def.ite (fits_nat (by omega)) (ih2 _ ⟨k+1,crcBit c',?_,by omega,crcBit_lt k2,k3⟩ (by dsimp only;omega)))
    have e:crcBit c'=(c'/2)^^^3988292384:=by unfold crcBit;rw[zf hm]
    have hq:bitsI .xor .u32 ((c'/2:Nat):Int) 3988292384=(((c'/2)^^^3988292384:Nat):Int):=xor32N (a:=c'/2) (b:=3988292384) (by omega) (by omega)
    rw[hq,e,cast_succ']
   .rw [zd (by omega:¬((c'%2:Nat):Int)=1),ze]
    refine Def.ite (by decide) (Def.ite (fits_nat (by omega)) (ih2 _ ⟨k+1,crcBit c',?_,by omega,crcBit_lt k2,k3⟩ (by dsimp only;omega)))
    have e:crcBit c'=c'/2:=by unfold crcBit;rw[zu hm]
    rw[e,cast_succ']
  .rw [zd (by omega:¬(k:Int)<8),ze]
   have e8:8-k=0:=by omega
   rw[e8]at k3
   have k3:c'=repB 8 (c^^^s[n].toNat):=k3
   refine Def.ite (fits_nat (by omega)) (ih _ ⟨n+1,c',by rw[cast_succ'],hn,k2,?_⟩ (by dsimp only;omega))
   rw[k3]
   exact h3
 .rw [zd (by omega:¬(n:Int)<s.length),ze]
  rw[zbw (by omega)]at h3
  have h3:c=s.foldl crcByte 4294967295:=h3
  refine Def.ret ?_
  have hq:bitsI .xor .u32 4294967295 (c:Int)=((4294967295^^^c:Nat):Int):=xor32N (a:=4294967295) (b:=c) (by omega) h2
  have hx:4294967295^^^c<2^32:=zcm (by omega) (by omega)
  rw[hq,wrap64 (by omega) (by omega)]
  unfold crcT
  rw[<-h3,Nat.xor_comm]
theorem crc_s (N:Nat) (hN:16<=N) (s:List UInt8) (hs:s.length<N) (hl:s.length<=1099511627776):s_l19Crc_m N s=some (crcT s:Int):=by
 unfold s_l19Crc_m
 refine Def.get ?_
 refine Def.iter (fun g=>∃(n c:Nat),g=(s,(c:Int),(n:Int))/\n<=s.length/\c<4294967296/\(s.drop n).foldl crcByte c=s.foldl crcByte 4294967295) (fun g=>s.length-g.2.2.toNat) (fun go g hI ih=>?_) N _ ⟨0,4294967295,rfl,zaf _,by omega,rfl⟩ (by dsimp only;omega)
 obtain⟨n,c,rfl,h1,h2,h3⟩:=hI
 dsimp only
 by_cases hn:n<s.length
 .rw [zb (by omega:(n:Int)<s.length),zg,idx_at hn,za]
  have hd:s.drop n=s[n]::s.drop (n+1):=zan hn
  rw[hd,zaq,crcByte_rep]at h3
  have hb:=s[n].toNat_lt
  have hx:=byte_lt h2 s[n]
  rw[wrap64 (by omega) (by omega),xor64N h2 (by omega)]
  refine Def.iter (fun g=>∃(k c':Nat),g=(s,(c':Int),(n:Int),(k:Int))/\k<=8/\c'<4294967296/\repB (8-k) c'=repB 8 (c^^^s[n].toNat)) (fun g=>8-g.2.2.2.toNat) (fun go2 g hI ih2=>?_) N _ ⟨0,_,rfl,by omega,hx,rfl⟩ (by dsimp only;omega)
  obtain⟨k,c',rfl,k1,k2,k3⟩:=hI
  dsimp only
  by_cases hk:k<8
  .have e8:8-k=(8-(k+1))+1:=by omega
   rw[e8]at k3
   have k3:repB (8-(k+1)) (crcBit c')=repB 8 (c^^^s[n].toNat):=k3
   have hf:((c':Nat):Int).tdiv 2=((c'/2:Nat):Int):=rfl
   have hg:((c':Nat):Int).tmod 2=((c'%2:Nat):Int):=rfl
   rw[zb (by omega:(k:Int)<8),zg,hf,hg,zf (by decide:(2:Nat)≠0)]
   by_cases hm:c'%2=1
   .rw [zb (by omega:((c'%2:Nat):Int)=1),zg]
    refine Def.ite (by decide) (Def.ite (by unfold fits;omega) (Def.ite (fits_nat (by omega)) (ih2 _ ⟨k+1,crcBit c',?_,by omega,crcBit_lt k2,k3⟩ (by dsimp only;omega))))
    have e:crcBit c'=(c'/2)^^^3988292384:=by unfold crcBit;rw[zf hm]
    have hq:bitsI .xor .i64 ((c'/2:Nat):Int) 3988292384=(((c'/2)^^^3988292384:Nat):Int):=xor64N (a:=c'/2) (b:=3988292384) (by omega) (by omega)
    rw[hq,e,cast_succ']
   .rw [zd (by omega:¬((c'%2:Nat):Int)=1),ze]
    refine Def.ite (by decide) (Def.ite (by unfold fits;omega) (Def.ite (fits_nat (by omega)) (ih2 _ ⟨k+1,crcBit c',?_,by omega,crcBit_lt k2,k3⟩ (by dsimp only;omega))))
    have e:crcBit c'=c'/2:=by unfold crcBit;rw[zu hm]
    rw[e,cast_succ']
  .rw [zd (by omega:¬(k:Int)<8),ze]
   have e8:8-k=0:=by omega
   rw[e8]at k3
   have k3:c'=repB 8 (c^^^s[n].toNat):=k3
   refine Def.ite (fits_nat (by omega)) (ih _ ⟨n+1,c',by rw[cast_succ'],hn,k2,?_⟩ (by dsimp only;omega))
   rw[k3]
   exact h3
 .rw [zd (by omega:¬(n:Int)<s.length),ze]
  rw[zbw (by omega)]at h3
  have h3:c=s.foldl crcByte 4294967295:=h3
  refine Def.ret ?_
  have hq:bitsI .xor .i64 (c:Int) 4294967295=((c^^^4294967295:Nat):Int):=xor64N (a:=c) (b:=4294967295) h2 (by omega)
  rw[hq]
  unfold crcT
  rw[<-h3]
theorem crcT_lt (s:List UInt8):crcT s<4294967296:=by
 have h:∀(l:List UInt8) (c:Nat),c<4294967296->l.foldl crcByte c<4294967296:=fun l=>by
  induction l with
  |nil=>exact fun c h=>h
  |cons b l ih=>exact fun c h=>ih _ (repB_lt 8 (byte_lt h b))
 exact zcm (n:=32) (h s _ (by omega)) (by omega)
def outF :Option (List UInt8)->List UInt8×Bool
 |some t=>(t,true)
 |none=>([],false)
theorem file_i (N:Nat) (d:List EFile) (nm:List UInt8) (h:d.length<N) (hN:N<=16777216):i_Disk_file_m N d nm=some (outF (fileD d nm)):=by
 unfold i_Disk_file_m
 refine(iter_scan _ d.length (fun n=>(nm,d,(d.length:Int),(n:Int))) (fun n=>some (outF (fileD (d.drop n) nm))) (fun go=>?_) (fun go n hn hgo=>?_) N 0 (zaf _) (by omega)).trans rfl
 .dsimp only
  rw[zd (zcd _),ze,zbp]
  rfl
 .dsimp only
  rw[zb (by omega:(n:Int)<d.length),zg,idx_at hn,za,zan hn,fileD_cons]
  by_cases e:d[n].1=nm
  .rw [zb e,zg,zf e]
   rfl
  .rw [zd e,ze,zu e,zf (fits_nat (n:=n) (by omega)),<-hgo,cast_succ']
theorem file_s (N:Nat) (d:List EFile) (nm:List UInt8) (h:d.length<N) (hN:N<=16777216):s_l19File_m N d nm=some (outF (fileD d nm)):=by
 unfold s_l19File_m
 refine(iter_scan _ d.length (fun n=>(nm,(n:Int),d)) (fun n=>some (outF (fileD (d.drop n) nm))) (fun go=>?_) (fun go n hn hgo=>?_) N 0 (zaf _) (by omega)).trans rfl
 .dsimp only
  rw[zd (zcd _),ze,zbp]
  rfl
 .dsimp only
  rw[zb (by omega:(n:Int)<d.length),zg,idx_at hn,za,zan hn,fileD_cons]
  by_cases e:d[n].1=nm
  .rw [zb e,zg,zf e,za]
   rfl
  .rw [zd e,ze,zu e,zf (fits_nat (n:=n) (by omega)),<-hgo,cast_succ']
theorem gen_i (N:Nat) (n:Int) (h0:0<=n) (h1:n<=1000):i_genName_m N n=some (genN n):=by
 have h2:=itoa_len20 (n:=1000+n) (by omega) (by omega)
 have h3:=itoa_spec N (1000+n) (by omega) (by omega)
 unfold itoaL at h3
 unfold i_genName_m
 rw[zf (by unfold fits;omega),h3,za,zf (by simp only[zi,zac];omega)]
 rfl
theorem gen_s (N:Nat) (hN:1048576<N) (hN2:N<=16777216) (n:Int) (h0:0<=n) (h1:n<=1000):s_l19Gen_m N n=some (genN n):=by
 have h2:=itoa_len20 (n:=1000+n) (by omega) (by omega)
 have h3:=dec_spec N N (by omega) (by omega) (1000+n) (by omega) (by omega)
 unfold itoaL at h3
 unfold s_l19Gen_m
 rw[zf (by unfold fits;omega),h3,za,zf (by simp only[zi,zac];omega)]
 rfl
theorem cloneConf_spec (N:Nat) (c:EConf) (h:FitC N c):i_cloneConf_m N c.1 c.2=some (c.1,c.2):=by
 have hb:=h.big
 have h1:=h.a
 have h2:=h.b
 unfold i_cloneConf_m
 rw[zf (room_of (by simp;omega) (by simp;omega)),zaW]
 refine(iter_scan _ c.2.length (fun n=>(c.2,(c.2.length:Int),(n:Int),c.1,c.2.take n)) (fun _=>some (c.1,c.2)) (fun go=>?_) (fun go n hn hgo=>?_) N 0 (zaf _) (by omega)).trans rfl
 .dsimp only
  rw[zd (zcd _),ze,zq]
 .dsimp only
  have hx:=h.e _ (zr hn)
  rw[zb (by omega:(n:Int)<c.2.length),zg,idx_at hn,za,zf (room_of (by simp;omega) (by simp;omega)),zf (room_of (by simp;omega) (by simp;omega)),zf (fits_nat (n:=n) (by omega)),zaW,<-hgo,zo hn,cast_succ']
theorem indexNew_i {N:Nat} (hM:Sm<N) (hN:N<=16777216) (c:EConf) (oc:okD Sm TConf c):i_IndexNew_m N c.1 c.2=some (bif okConf c then(c.1,c.2,[])else([],[],[])):=by
 unfold i_IndexNew_m
 rw[confOk_spec N hM (by omega) c oc,za]
 cases okConf c with
 |false=>rfl
 |true=>
  rw[zn,ze,cloneConf_spec N c (.of hM oc),za]
  rfl
structure FitD (d:List EFile):Prop where
 len:d.length<=1048576
 each:∀f,f∈d->f.1.length<=1048576/\f.2.length<=1048576
theorem fileD_some {d:List EFile} {nm t:List UInt8} (h:fileD d nm=some t):∃f,f∈d/\f.2=t:=by
 unfold fileD at h
 obtain⟨f,hf,e⟩:=zaA.1 h
 exact⟨f,List.mem_of_find?_eq_some hf,e⟩
theorem FitD.text {d:List EFile} (h:FitD d) {nm t:List UInt8} (ht:fileD d nm=some t):t.length<=1048576:=by
 obtain⟨f,hf,rfl⟩:=fileD_some ht
 exact(h.each f hf).2
theorem diskOk_i (N:Nat) (hM:1048576<N) (hN:N<=16777216) (d:List EFile) (h:FitD d):i_DiskOk_m N d=some (okDisk d):=by
 have hl:=h.len
 unfold i_DiskOk_m
 refine check_loop _ d.length (fun n=>(d,(d.length:Int),(n:Int),d)) (okFl d) _ (fun go=>?_) (fun go n hn=>?_) N (by omega)
 .dsimp only
  rw[zd (zcd _),ze]
 .have hw:=(h.each _ (zr hn)).1
  dsimp only
  rw[zb (by omega:(n:Int)<d.length),zg,idx_at hn,za,wordOk_spec N _ (by omega) (by omega),za,zf (fits_nat (n:=n) (by omega)),cast_succ']
  unfold okFl
  rw[<-flAt_eq hn]
  cases okW d[n].1 with
  |false=>rfl
  |true=>
   rw[zn,ze,zaj]
   cases n with
   |zero=>rfl
   |succ n=>
    rw[zb (by omega:(0:Int)<((n+1:Nat):Int)),zg,zf (by unfold fits;omega),show(((n+1:Nat):Int)-1)=(n:Int)from by omega,idx_at (by omega),za,flAt_eq (n:=n) (by omega),zd (by omega:¬n+1=0),zbf,zbq]
    cases Op.bytesLess (flAt d n).1 d[n+1].1<;>rfl
theorem diskOk_s (N:Nat) (hM:1048576<N) (hN:N<=16777216) (d:List EFile) (h:FitD d):s_l19DiskOk_m N d=some (okDisk d):=by
 have hl:=h.len
 unfold s_l19DiskOk_m
 refine check_loop _ d.length (fun n=>((n:Int),d)) (okFl d) _ (fun go=>?_) (fun go n hn=>?_) N (by omega)
 .dsimp only
  rw[zd (zcd _),ze]
 .have hw:=(h.each _ (zr hn)).1
  dsimp only
  rw[zb (by omega:(n:Int)<d.length),zg,idx_at hn,za,l1WordOk_spec N _ (by omega) (by omega),za,zf (fits_nat (n:=n) (by omega)),cast_succ',za]
  unfold okFl
  rw[<-flAt_eq hn]
  cases okW d[n].1 with
  |false=>rfl
  |true=>
   rw[zn,ze,zaj]
   cases n with
   |zero=>rfl
   |succ n=>
    rw[zb (by omega:(0:Int)<((n+1:Nat):Int)),zg,zf (by unfold fits;omega),show(((n+1:Nat):Int)-1)=(n:Int)from by omega,idx_at (by omega),za,flAt_eq (n:=n) (by omega),zd (by omega:¬n+1=0),zbf,zbq,bytesLess_or]
    cases Op.bytesLess (flAt d n).1 d[n+1].1<;>rfl
theorem idx_last {ls:List (List UInt8)} (h:ls≠ []):idx ls ((ls.length:Int)-1)=some (ls.getLastD []):=by
 rcases List.eq_nil_or_concat ls with e|⟨xs,x,rfl⟩
 .exact absurd e h
 .rw [List.concat_eq_append,List.getLastD_concat]
  have e:((xs++ [x]).length:Int)-1=(xs.length:Int):=by
   rw[zam,zbE]
   omega
  rw[e,idx_at (by simp)]
  simp
theorem cut_last {ls:List (List UInt8)} (h:ls≠ []):cut ls 0 ((ls.length:Int)-1)=some ls.dropLast:=by
 have hp:0<ls.length:=List.length_pos_iff.2 h
 have e:(ls.length:Int)-1=((ls.length-1:Nat):Int):=by omega
 rw[e,cut_take' ls (ls.length-1) (by omega),List.dropLast_eq_take]
theorem fitMany {N:Nat} (hM:Sm<N) (hN:N<=16777216) {c:EConf} (oc:okD Sm TConf c) {xs:List ELive} (hl:xs.length<=1048576) (h:∀l,l∈xs->okIdx (c,[l])=true):FitI N (c,xs):=
 ⟨hM,hN,oc,hl,fun l hm=>by
  have o:=oneL (h l hm)
  have h1:=o.few
  have h2:=o.dead
  exact⟨fun d hd=>okD_ok (okDoc_each o.docs d hd),by omega,by omega⟩⟩
theorem linesL_at (c:EConf) (d:List EFile) (ms:List (List UInt8)) {n:Nat} (hn:n<ms.length) {xs:List ELive} (h:linesL c d ms=(linesL c d (ms.drop n)).map (xs++ ·)):(lineL c d ms[n]=none->linesL c d ms=none)/\∀l,lineL c d ms[n]=some l->linesL c d ms=(linesL c d (ms.drop (n+1))).map ((xs++ [l])++ ·):=by
 rw[zan hn]at h
 have hc:linesL c d (ms[n]::ms.drop (n+1))=(lineL c d ms[n]).bind fun x=>(linesL c d (ms.drop (n+1))).map fun xs=>x::xs:=rfl
 rw[hc]at h
 refine⟨fun e=>by rw[h,e];rfl,fun l e=>?_⟩
 rw[h,e,za,Option.map_map]
 congr 1
 funext ys
 simp
def Told (o:Option EIndex) (r:List (List UInt8)×List ESyn×List ELive×Bool):Prop:=(r.2.2.2=true->o=some ((r.1,r.2.1),r.2.2.1))/\(r.2.2.2=false->o=none)
theorem Told.no {o:Option EIndex} (h:o=none) (a:List (List UInt8)) (b:List ESyn) (x:List ELive):Told o (a,b,x,false):=⟨(fun h=>by cases h),fun _=>h⟩
set_option maxHeartbeats 1000000 in
theorem commit_i {N:Nat} (hN:1048600<=N) (hN2:N<=16777216) (c:EConf) (oc:okD Sm TConf c) (d:List EFile) (hd:FitD d) (n:Int) (h0:0<=n) (h1:n<=1000):Def (i_Disk_commit_m N d c.1 c.2 n) (Told (openG c d n)):=by
 have hM:Sm<N:=by show 1048576<N;omega
 have hdl:=hd.len
 unfold i_Disk_commit_m openG
 rw[gen_i N n h0 h1,za,file_i N d _ (by omega) hN2,za]
 have hsp:∀t:List UInt8,t.length<=1048576->k_strings_Split_m N t [10]=some (cutAt 10 t):=fun t ht=>by
  show splitM t [10]=_
  unfold splitM
  dsimp only
  rw[zf (by omega)]
 cases hf:fileD d (genN n)with
 |none=>
  unfold outF
  dsimp only
  rw[hsp [] (by simp),za]
  refine Def.ite (by decide) ?_
  rw[zaI,zg]
  exact Def.ret (Told.no rfl _ _ _)
 |some t=>
  have ht:=hd.text hf
  have hsum:=sumL_cut 10 t
  have hne:=cutAt_ne 10 t
  rw[za]
  unfold outF openT
  dsimp only
  rw[hsp t ht,za]
  generalize cutAt 10 t=ls at hsum hne⊢
  have hlen:=sumL_len ls
  have hpos:0<ls.length:=List.length_pos_iff.2 hne
  refine Def.ite (by unfold fits;omega) ?_
  rw[zn,ze,idx_last hne,za]
  by_cases he:ls.getLastD []=endT
  .have he':ls.getLastD []=[101,110,100]:=he
   rw[zb he',zn,ze,zb he,zg,cloneConf_spec N c (.of hM oc),za,cut_last hne,za]
   have hml:ls.dropLast.length=ls.length-1:=List.length_dropLast
   have hmm:∀l,l∈ls.dropLast->l.length<=1048576:=fun l h=>by have:=sumL_mem (List.dropLast_subset ls h);omega
   generalize ls.dropLast=ms at hml hmm⊢
   refine Def.iter (fun g=>∃(k:Nat) (xs:List ELive),g=(ms,(ms.length:Int),(k:Int),d,c.1,c.2,c.1,c.2,xs)/\k<=ms.length/\xs.length<=k/\(∀l,l∈xs->okIdx (c,[l])=true)/\linesL c d ms=(linesL c d (ms.drop k)).map (xs++ ·)) (fun g=>ms.length-g.2.2.1.toNat) (fun go g hI ih=>?_) N _ ⟨0,[],rfl,zaf _,zae _,(fun l h=>by cases h),by simp⟩ (by dsimp only;omega)
   obtain⟨k,xs,rfl,k1,k2,k3,k4⟩:=hI
   dsimp only
   by_cases hk:k<ms.length
   .have hx:=hmm _ (zr hk)
    obtain⟨hno,hyes⟩:=linesL_at c d ms hk k4
    have hcut:k_strings_Cut_m N ms[k] [32]=some (cut1 32 ms[k]):=cutM_one hx
    rw[zb (by omega:(k:Int)<ms.length),zg,idx_at hk,za,hcut,za,file_i N d _ (by omega) hN2,za]
    have hfail:lineL c d ms[k]=none->Told ((linesL c d ms).bind fun ls=>bif okIdx (c,ls)then some (c,ls)else none) (([]:List (List UInt8)),([]:List ESyn),([]:List ELive),false):=fun e=>Told.no (by rw[hno e];rfl) _ _ _
    unfold lineL at hfail hyes
    cases hq:fileD d (cut1 32 ms[k]).1 with
    |none=>
     rw[hq]at hfail
     unfold outF
     dsimp only
     rw[zaI,zg]
     exact Def.ret (hfail rfl)
    |some u=>
     have hu:=hd.text hq
     have hcl:=crcT_lt u
     have hit:=itoa_spec N (crcT u:Int) (by omega) (by omega)
     unfold itoaL at hit
     rw[hq]at hfail hyes
     dsimp only at hfail hyes
     unfold outF
     dsimp only
     rw[zn,ze,crc_i N (by omega) u (by omega) (by omega),za,hit,za]
     by_cases hs:Lib.itoa (crcT u:Int)=(cut1 32 ms[k]).2.1
     .rw [zb hs,zg]at hfail hyes
      rw[zb hs,zn,ze,liveGet_i hN hN2 c oc u hu,za]
      cases hg:getI c u with
      |none=>
       unfold outL
       dsimp only
       rw[zaI,zg]
       exact Def.ret (hfail hg)
      |some l=>
       unfold outL
       dsimp only
       rw[zn,ze]
       refine Def.ite (room_of (by rw[zbE];omega) (by rw[zbE];omega)) (Def.ite (fits_nat (by omega)) (ih _ ⟨k+1,xs++ [l],by rw[cast_succ'],hk,by rw[zam,zbE];omega,fun l' hl'=>?_,hyes l hg⟩ (by dsimp only;omega)))
       rcases zaB.1 hl' with hl'|hl'
       .exact k3 l' hl'
       .rw [zaD]at hl'
        rw[hl']
        exact(getI_some hg).1
     .rw [zd hs,ze]at hfail
      rw[zd hs,zaI,zg]
      exact Def.ret (hfail rfl)
   .rw [zd (by omega:¬(k:Int)<ms.length),ze]
    rw[zbw (by omega)]at k4
    have k4:linesL c d ms=some xs:=by rw[k4];simp[linesL]
    have hi:i_IndexOk_m N c.1 c.2 xs=some (okIdx (c,xs)):=indexOk_spec (fitMany hM hN2 oc (by omega) k3)
    rw[hi,za,k4,za]
    refine Def.ret ⟨fun h=>?_,fun h=>?_⟩
    .have h:okIdx (c,xs)=true:=h
     rw[h]
     rfl
    .have h:okIdx (c,xs)=false:=h
     rw[h]
     rfl
  .have he':¬ls.getLastD []=[101,110,100]:=he
   rw[zd he',zaI,zg,zd he,ze]
   exact Def.ret (Told.no rfl _ _ _)
def lastT (c:EConf) (d:List EFile):Nat->EIndex×Int
 |0=>((c,[]),0)
 |n+1=>match openG c d ((n+1:Nat):Int)with
  |some x=>(x,((n+1:Nat):Int))
  |none=>lastT c d n
def openD2 (c:EConf) (d:List EFile):EIndex×Int:=bif okConf c&&okDisk d then lastT c d 99 else((([],[]),[]),-1)
def outO (r:EIndex×Int):List (List UInt8)×List ESyn×List ELive×Int:=(r.1.1.1,r.1.1.2,r.1.2,r.2)
theorem diskOpen_i {N:Nat} (hN:1048600<=N) (hN2:N<=16777216) (c:EConf) (oc:okD Sm TConf c) (d:List EFile) (hd:FitD d):i_DiskOpen_m N c.1 c.2 d=some (outO (openD2 c d)):=by
 have hM:Sm<N:=by show 1048576<N;omega
 unfold i_DiskOpen_m openD2
 rw[confOk_spec N hM (by omega) c oc,za]
 cases hc:okConf c with
 |false=>rfl
 |true=>
  rw[zn,ze,diskOk_i N hM hN2 d hd,za,zaj]
  cases okDisk d with
  |false=>rfl
  |true=>
   rw[zn,ze,zg]
   refine Def.get ?_
   refine Def.iter (fun g=>∃k:Nat,g=((k:Int),c.1,c.2,d)/\k<=99/\lastT c d k=lastT c d 99) (fun g=>g.1.toNat) (fun go g hI ih=>?_) N _ ⟨99,rfl,zae _,rfl⟩ (by show(99:Int).toNat<N;omega)
   obtain⟨k,rfl,k1,k2⟩:=hI
   dsimp only
   cases k with
   |zero=>
    rw[zd (by decide:¬(1:Int)<=((0:Nat):Int)),ze,indexNew_i hM hN2 c oc,za,hc,zg]
    rw[<-k2]
    exact Def.ret rfl
   |succ k=>
    rw[zb (by omega:(1:Int)<=((k+1:Nat):Int)),zg]
    refine Def.bind (commit_i hN hN2 c oc d hd ((k+1:Nat):Int) (by omega) (by omega)) fun r ⟨t1,t2⟩=>?_
    unfold lastT at k2
    refine Def.bif (fun h=>?_) (fun h=>?_)
    .rw [t1 h]at k2
     refine Def.ret ?_
     have k2:(((r.1,r.2.1),r.2.2.1),((k+1:Nat):Int))=lastT c d 99:=k2
     rw[<-k2]
     rfl
    .rw [t2 h]at k2
     exact Def.ite (by unfold fits;omega) (ih _ ⟨k,by rw[show((k+1:Nat):Int)-1=(k:Int)from by omega],by omega,k2⟩ (by dsimp only;omega))
end Go.Proofs.YtcinmmojlcchfaaGreatDoor
