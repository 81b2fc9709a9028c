import Derived.Test.YtcinmmojlcchfaaGreatDoorSE1
import Derived.Test.YtcinmmojlcchfaaGreatDoorSF1
set_option linter.unusedVariables false
set_option linter.unusedSimpArgs false
namespace Go.Proofs.YtcinmmojlcchfaaGreatDoor
open Go.RowKit
def crcBit (c:Nat):Nat:=if c%2=1 then(c/2)^^^3988292384 else c/2
def crcByte (c:Nat) (b:UInt8):Nat:=crcBit (crcBit (crcBit (crcBit (crcBit (crcBit (crcBit (crcBit (c^^^b.toNat))))))))
def crcT (s:List UInt8):Nat:=(s.foldl crcByte 4294967295)^^^4294967295
abbrev EFile :Type:=List UInt8×List UInt8
def fileD (d:List EFile) (nm:List UInt8):Option (List UInt8):=(d.find? fun f=>decide (f.1=nm)).map (·.2)
abbrev UpN (d:List EFile):Prop:=d.Pairwise fun a b=>Op.bytesLess a.1 b.1=true
def writeD (f:EFile):List EFile->List EFile
 | []=>[f]
 |g::d=>if g.1=f.1 then f::d else if Op.bytesLess g.1 f.1=true then g::writeD f d else f::g::d
theorem fileD_cons (g:EFile) (d:List EFile) (nm:List UInt8):fileD (g::d) nm=if g.1=nm then some g.2 else fileD d nm:=by
 unfold fileD
 rw[List.find?_cons]
 by_cases h:g.1=nm
 .rw [zb h,zf h]
  rfl
 .rw [zd h,zu h]
theorem write_mem (f x:EFile):∀d,x∈writeD f d->x=f\/x∈d
 | [],h=>by rw[writeD,zaD]at h;exact .inl h
 |g::d,h=>by
  rw[writeD]at h
  split at h
  .rcases zp.1 h with h|h
   .exact .inl h
   .exact .inr (zl _ h)
  .split at h
   .rcases zp.1 h with h|h
    .exact .inr (h▸zy)
    .exact (write_mem f x d h).imp id (zl _)
   .rcases zp.1 h with h|h
    .exact .inl h
    .exact .inr h
theorem j3W (f:EFile):∀d,UpN d->UpN (writeD f d)
 | [],_=>List.pairwise_singleton _ _
 |g::d,h=>by
  rw[UpN,zas]at h
  rw[writeD]
  split
  .rename_i e
   rw[UpN,zas]
   exact⟨fun x hx=>by rw[<-e];exact h.1 x hx,h.2⟩
  .rename_i e
   split
   .rename_i e2
    rw[UpN,zas]
    refine⟨fun x hx=>?_,j3W f d h.2⟩
    rcases write_mem f x d hx with rfl|hx
    .exact e2
    .exact h.1 x hx
   .rename_i e2
    have e3:Op.bytesLess f.1 g.1=true:=bl_total (by simpa using e2) e
    rw[UpN,zas,zas]
    exact⟨fun x hx=>by
     rcases zp.1 hx with rfl|hx
     .exact e3
     .exact bl_trans e3 (h.1 x hx),h⟩
theorem write_len (f:EFile):∀d,(writeD f d).length<=d.length+1
 | []=>zae _
 |g::d=>by
  have ih:=write_len f d
  rw[writeD]
  split
  .simp
  .split
   .simp only [zi];omega
   .simp
def genN (n:Int):List UInt8:=[103,101,110]++Lib.itoa (1000+n)
def segN (n k:Int):List UInt8:=[115,101,103]++Lib.itoa (1000+n)++ [120]++Lib.itoa k
theorem j1t {a b:Int} (ha:0<=a) (hb:0<=b) (ha2:a<1000000000000000000) (hb2:b<1000000000000000000) (h:Lib.itoa a=Lib.itoa b):a=b:=by
 rw[<-atoi_itoa ha ha2,<-atoi_itoa hb hb2,h]
theorem genN_inj {a b:Int} (ha:0<=a) (hb:0<=b) (ha2:a<=1000000) (hb2:b<=1000000) (h:genN a=genN b):a=b:=by
 have:=j1t (by omega) (by omega) (by omega) (by omega) (List.append_cancel_left h)
 omega
theorem gen_seg (a n k:Int):genN a≠segN n k:=fun h=>by
 have h1:genN a=103::([101,110]++Lib.itoa (1000+a)):=rfl
 have h2:segN n k=115::([101,103]++Lib.itoa (1000+n)++ [120]++Lib.itoa k):=rfl
 rw[h1,h2]at h
 exact absurd (List.cons.inj h).1 (by decide)
def manLn (f:EFile):List UInt8:=f.1++ [32]++Lib.itoa (crcT f.2:Int)
def endT :List UInt8:=[101,110,100]
def manT (fs:List EFile):List UInt8:=linesT (fs.map manLn)++endT
def segFrom (n:Int):Nat->List ELive->List EFile
 |_,[]=>[]
 |k,l::ls=>(segN n (k:Int),liveT l.1.1 l.2)::segFrom n (k+1) ls
def filesC (x:EIndex) (n:Int):List EFile:=segFrom n 0 x.2++ [(genN n,manT (segFrom n 0 x.2))]
def lineL (c:EConf) (d:List EFile) (line:List UInt8):Option ELive:=match fileD d (cut1 32 line).1 with
 |none=>none
 |some t=>bif decide (Lib.itoa (crcT t:Int)=(cut1 32 line).2.1)then getI c t else none
def linesL (c:EConf) (d:List EFile):List (List UInt8)->Option (List ELive)
 | []=>some []
 |l::ls=>(lineL c d l).bind fun x=>(linesL c d ls).map fun xs=>x::xs
def openT (c:EConf) (d:List EFile) (s:List UInt8):Option EIndex:=
 bif decide ((cutAt 10 s).getLastD []=endT)then(linesL c d (cutAt 10 s).dropLast).bind fun ls=>bif okIdx (c,ls)then some (c,ls)else none else none
def openG (c:EConf) (d:List EFile) (n:Int):Option EIndex:=(fileD d (genN n)).bind (openT c d)
theorem jZP {x:EIndex} (hk:okIdx x=true) {l:ELive} (hl:l∈x.2):okIdx (x.1,[l])=true:=by
 obtain⟨k1,k2,k3,k4⟩:=okIdx_ok hk
 have h1:okLive x.1 l=true:=zax.1 k3 l hl
 have h2:okDocs (sortD (allD [l]))=true:=okDocs_sub k4 (allD_sub (List.singleton_sublist.2 hl))
 unfold okIdx
 dsimp only
 rw[k1,h2,List.all_cons,h1]
 rfl
def mostFrom (d:List EFile):Nat->Nat
 |0=>0
 |k+1=>bif(fileD d (genN ((k+1:Nat):Int))).isSome then k+1 else mostFrom d k
def mostD (d:List EFile):Nat:=mostFrom d 99
theorem mostFrom_le (d:List EFile):∀m,mostFrom d m<=m
 |0=>zae _
 |k+1=>by
  have ih:=mostFrom_le d k
  rw[mostFrom]
  cases(fileD d (genN ((k+1:Nat):Int))).isSome with
  |true=>exact zae _
  |false=>rw[ze];omega
def oldB (n:Int) (nm:List UInt8):Bool:=decide (7<=nm.length)&&(decide (nm.take 3=[103,101,110])||decide (nm.take 3=[115,101,103]))&&(((nm.drop 3).take 4).all digB&&(decide ((1001:Int)<=(numD 0 ((nm.drop 3).take 4):Int))&&decide ((numD 0 ((nm.drop 3).take 4):Int)<=1000+n-1)))
def j3H (n:Int) (d:List EFile):List EFile:=d.filter fun f=> !oldB n f.1
def writeAll (fs:List EFile) (d:List EFile):List EFile:=fs.foldl (fun d f=>writeD f d) d
theorem writeAll_cons (f:EFile) (fs d:List EFile):writeAll (f::fs) d=writeAll fs (writeD f d):=rfl
theorem j1C (a b d:List EFile):writeAll (a++b) d=writeAll b (writeAll a d):=by unfold writeAll;rw[zaX]
def takeW (w:Int) (fs:List EFile):List EFile:=bif decide (w<0)then fs else fs.take w.toNat
def commitD (d:List EFile) (x:EIndex) (w:Int):List EFile×Int:=
 bif decide (99<mostD d+1)||decide (24<d.length+6)then(d,0)else
  (bif decide (w<0)||decide (((filesC x (mostD d+1:Nat)).length:Int)<w)then j3H (mostD d+1:Nat) (writeAll (takeW w (filesC x (mostD d+1:Nat))) d)else writeAll (takeW w (filesC x (mostD d+1:Nat))) d,(mostD d+1:Nat))
theorem seg_mem {n:Int}:∀(ls:List ELive) (k:Nat) (f:EFile),f∈segFrom n k ls->∃j:Nat,k<=j/\j<k+ls.length/\f.1=segN n (j:Int)
 | [],k,f,h=>by cases h
 |l::ls,k,f,h=>by
  rw[segFrom]at h
  rcases zp.1 h with rfl|h
  .exact ⟨k,zae _,by simp,rfl⟩
  .obtain ⟨j,h1,h2,h3⟩:=seg_mem ls (k+1) f h
   exact⟨j,by omega,by rw[zi];omega,h3⟩
theorem j3z (n:Int):∀(ls:List ELive) (k:Nat),(segFrom n k ls).length=ls.length
 | [],_=>rfl
 |l::ls,k=>by rw[segFrom,zi,zi,j3z n ls]
theorem filesC_len (x:EIndex) (n:Int):(filesC x n).length=x.2.length+1:=by
 unfold filesC
 rw[zam,j3z]
 rfl
def openFrom (c:EConf) (d:List EFile):Nat->EIndex×Int
 |0=>((c,[]),0)
 |k+1=>match openG c d ((k+1:Nat):Int)with
  |some x=>(x,((k+1:Nat):Int))
  |none=>openFrom c d k
def openD (c:EConf) (d:List EFile):EIndex×Int:=openFrom c d 99
theorem openFrom_le (c:EConf) (d:List EFile):∀m,0<=(openFrom c d m).2/\(openFrom c d m).2<=(mostFrom d m:Int)
 |0=>⟨zbD _,zbD _⟩
 |k+1=>by
  have ih:=openFrom_le c d k
  rw[openFrom,mostFrom]
  cases hg:openG c d ((k+1:Nat):Int)with
  |some x=>
   dsimp only
   have:(fileD d (genN ((k+1:Nat):Int))).isSome=true:=by
    unfold openG at hg
    cases hf:fileD d (genN ((k+1:Nat):Int))with
    |some s=>rfl
    |none=>rw[hf]at hg;cases hg
   rw[this,zg]
   exact⟨by omega,zbD _⟩
  |none=>
   dsimp only
   have hm:=mostFrom_le d k
   cases(fileD d (genN ((k+1:Nat):Int))).isSome with
   |true=>rw[zg];exact⟨ih.1,by omega⟩
   |false=>exact ih
def flAt (d:List EFile) (n:Nat):EFile:=d[n]?.getD ([],[])
theorem flAt_eq {d:List EFile} {n:Nat} (h:n<d.length):d[n]=flAt d n:=by unfold flAt;rw[zc h];rfl
def okFl (d:List EFile) (n:Nat):Bool:=okW (flAt d n).1&&(decide (n=0)||Op.bytesLess (flAt d (n-1)).1 (flAt d n).1)
def okDisk (d:List EFile):Bool:=allN d.length (okFl d)&&decide ((d.length:Int)<=24)
structure DiskP (d:List EFile):Prop where
 up:UpN d
 names:∀f,f∈d->okW f.1=true
 few:d.length<=24
theorem okDisk_ok {d:List EFile} (h:okDisk d=true):DiskP d:=by
 unfold okDisk at h
 rw[zj,zw]at h
 refine⟨?_,fun f hf=>?_,by omega⟩
 .refine pairwise_adj (fun a b:EFile=>Op.bytesLess a.1 b.1=true) (fun a b c h1 h2=>bl_trans h1 h2) d fun n hn=>?_
  have h2:=allN_at h.1 hn
  unfold okFl at h2
  rw[zj,zd (by omega),zbf,zbq,<-flAt_eq hn,<-flAt_eq (by omega:n<d.length)]at h2
  exact h2.2
 .obtain ⟨n,hn,rfl⟩:=zav.1 hf
  have h2:=allN_at h.1 hn
  unfold okFl at h2
  rw[zj,<-flAt_eq hn]at h2
  exact h2.1
theorem writeAll_len :∀(fs d:List EFile),(writeAll fs d).length<=d.length+fs.length
 | [],d=>zae _
 |f::fs,d=>by
  have h1:=writeAll_len fs (writeD f d)
  have h2:=write_len f d
  rw[writeAll_cons,zi]
  omega
theorem cutN_ne (b:UInt8):∀(k:Nat) (s:List UInt8),cutN b k s≠ []
 |0,s=>by rw[cutN];simp
 |k+1,[]=>by rw[cutN];simp
 |k+1,x::s=>by
  rw[cutN]
  split
  .simp
  .split<;>simp
theorem cutN_all (b:UInt8):∀(n:Nat) (s:List UInt8) (k:Nat),s.length<=n->(cutAt b s).length<=k+1->cutN b k s=cutAt b s
 |n,s,k,hn,hk=>by
  rcases first_cut b s with h|⟨p,r,h,rfl⟩
  .rw [cutAt_none h,cutN_none k h]
  .rw [cutAt_hit h,zi]at hk
   have hp:=zcl.2 (cutAt_ne b r)
   have hl:(p++b::r).length=p.length+1+r.length:=by simp;omega
   match n,k,hn,hk with
   |0,_,hn,_=>omega
   |n+1,0,_,hk=>omega
   |n+1,k+1,hn,hk=>
    rw[cutAt_hit h,cutN_hit k h,cutN_all b n r k (by omega) (by omega)]
theorem cutN_rest (b:UInt8):∀(n:Nat) (s:List UInt8) (k:Nat),s.length<=n->k+1<(cutAt b s).length->b∈(cutN b k s).getLastD []
 |n,s,k,hn,hk=>by
  rcases first_cut b s with h|⟨p,r,h,rfl⟩
  .rw [cutAt_none h]at hk
   simp at hk
  .rw [cutAt_hit h,zi]at hk
   have hl:(p++b::r).length=p.length+1+r.length:=by simp;omega
   match n,k,hn,hk with
   |0,_,hn,_=>omega
   |n+1,0,_,_=>
    rw[cutN]
    show b∈p++b::r
    simp
   |n+1,k+1,hn,hk=>
    rw[cutN_hit k h]
    have ih:=cutN_rest b n r k (by omega) (by omega)
    have hne:=cutN_ne b k r
    cases hc:cutN b k r with
    |nil=>exact absurd hc hne
    |cons y ys=>
     rw[hc]at ih
     exact ih
def lineQ (c:EConf) (d:List EFile) (line:List UInt8):Option ELive:=match cutN 32 2 line with
 | [a,b]=>(match fileD d a with
  |none=>none
  |some t=>bif decide (b=Lib.itoa (crcT t:Int))then getS c t else none)
 |_=>none
def linesQ (c:EConf) (d:List EFile):List (List UInt8)->Option (List ELive)
 | []=>some []
 |l::ls=>(lineQ c d l).bind fun x=>(linesQ c d ls).map fun xs=>x::xs
def openQ (c:EConf) (d:List EFile) (s:List UInt8):Option EIndex:=
 (linesQ c d (cutN 10 6 s).dropLast).bind fun ls=>bif decide ((cutN 10 6 s).getLastD []=endT)&&okIdx (c,ls)then some (c,ls)else none
theorem itoa_ne (n:Int):Lib.itoa n≠ []:=by
 unfold Lib.itoa
 split
 .simp
 .exact digits_ne _
theorem line_same (c:EConf) (d:List EFile) (line:List UInt8):lineQ c d line=lineL c d line:=by
 unfold lineQ lineL
 rcases first_cut 32 line with h|⟨p,r,h,rfl⟩
 .rw [cutN_none 2 h,cut1_none h]
  dsimp only
  cases fileD d line with
  |none=>rfl
  |some t=>
   dsimp only
   rw[zd (itoa_ne _)]
   rfl
 .rw [cutN_hit 1 h,cut1_hit h]
  dsimp only
  rcases first_cut 32 r with h2|⟨p2,r2,h2,rfl⟩
  .rw [cutN_none 1 h2]
   dsimp only
   cases fileD d p with
   |none=>rfl
   |some t=>
    dsimp only
    rw[get_same,decide_eq_decide.2 (eq_comm (a:=r) (b:=Lib.itoa (crcT t:Int)))]
  .rw [cutN_hit 0 h2]
   rw[cutN]
   dsimp only
   cases fileD d p with
   |none=>rfl
   |some t=>
    dsimp only
    have:Lib.itoa (crcT t:Int)≠p2++32::r2:=fun e=>by
     have h3:(32:UInt8)∈Lib.itoa (crcT t:Int):=by rw[e];simp
     exact itoa_no (by omega) (by decide) h3
    rw[zd this]
    rfl
theorem lines_same (c:EConf) (d:List EFile):∀ls,linesQ c d ls=linesL c d ls
 | []=>rfl
 |l::ls=>by rw[linesQ,linesL,line_same,lines_same c d ls]
theorem linesL_len (c:EConf) (d:List EFile):∀(ls:List (List UInt8)) (xs:List ELive),linesL c d ls=some xs->xs.length=ls.length
 | [],xs,h=>by
  rw[linesL,zaE]at h
  rw[<-h]
  rfl
 |l::ls,xs,h=>by
  rw[linesL]at h
  obtain⟨x,_,h⟩:=zaw.1 h
  obtain⟨ys,h2,rfl⟩:=zaA.1 h
  rw[zi,zi,linesL_len c d ls ys h2]
theorem idx_few {c:EConf} {ls:List ELive} (h:5<ls.length):okIdx (c,ls)=false:=by
 cases hk:okIdx (c,ls)with
 |false=>rfl
 |true=>
  have:=(okIdx_ok hk).2.1
  dsimp only at this
  omega
theorem open_same (c:EConf) (d:List EFile) (s:List UInt8):openQ c d s=openT c d s:=by
 unfold openQ openT
 by_cases h:(cutAt 10 s).length<=7
 .rw [cutN_all 10 s.length s 6 (zae _) h,lines_same]
  cases decide ((cutAt 10 s).getLastD []=endT)with
  |true=>rfl
  |false=>
   rw[ze]
   cases linesL c d (cutAt 10 s).dropLast<;>rfl
 .have h1:=cutN_rest 10 s.length s 6 (zae _) (by omega)
  have h2:(cutN 10 6 s).getLastD []≠endT:=fun e=>by
   rw[e]at h1
   exact absurd h1 (by decide)
  rw[zd h2]
  cases decide ((cutAt 10 s).getLastD []=endT)with
  |false=>
   rw[ze]
   cases linesQ c d (cutN 10 6 s).dropLast<;>rfl
  |true=>
   rw[zg]
   have:(linesL c d (cutAt 10 s).dropLast).bind (fun ls=>bif okIdx (c,ls)then some ((c,ls):EIndex)else none)=none:=by
    cases hl:linesL c d (cutAt 10 s).dropLast with
    |none=>rfl
    |some xs=>
     have:=linesL_len c d _ xs hl
     rw[List.length_dropLast]at this
     rw[za,idx_few (by omega)]
     rfl
   rw[this]
   cases linesQ c d (cutN 10 6 s).dropLast<;>rfl
def Mk (d:Nat) (t:List UInt8):Prop:=∀(p:Nat) (e:UInt8),t[p]? =some 115->t[p+6]? =some e->50<=e.toNat->e.toNat<=57->e.toNat=48+d
def MkP (d:Nat) (t:List UInt8):Prop:=∀p:Nat,t[p]? =some 115->t[p+6]? =some (UInt8.ofNat (48+d))
theorem itoa_k (n:Nat) (h:n<=9):Lib.itoa (1000+(n:Int))=[49,48,48,UInt8.ofNat (48+n)]:=by
 have e1:(1000+(n:Int)).toNat=1000+n:=by omega
 have e2:(1000+n)/10=100:=by omega
 have e3:(1000+n)%10=n:=by omega
 have d10:Lib.decDigits 10=[49,48]:=by
  rw[digits_eq 10,zu (by omega),show 10/10=1 from rfl,digits_eq 1,zf (by omega)]
  rfl
 have d100:Lib.decDigits 100=[49,48,48]:=by
  rw[digits_eq 100,zu (by omega),show 100/10=10 from rfl,d10]
  rfl
 unfold Lib.itoa
 rw[zu (by omega),e1,digits_eq,zu (by omega),e2,e3,d100]
 rfl
theorem segN_at :∀(n:Nat),1<=n->n<=9->∀j:Int,∃r,segN (n:Int) j=[115,101,103,49,48,48,UInt8.ofNat (48+n),120]++r:=fun n h1 h2 j=>by
 have:=itoa_k n h2
 refine⟨Lib.itoa j,?_⟩
 unfold segN
 rw[this]
 rfl
def InvM (m:Nat) (P:Nat->List UInt8->Prop) (d:List EFile):Prop:=∀f,f∈d->∀k:Nat,1<=k->k<=99->f.1=genN (k:Int)->k<=m/\P k f.2
theorem fileD_mem {d:List EFile} {nm t:List UInt8} (h:fileD d nm=some t):(nm,t)∈d:=by
 unfold fileD at h
 cases hf:d.find? (fun f=>decide (f.1=nm))with
 |none=>rw[hf]at h;cases h
 |some f=>
  rw[hf]at h
  cases h
  have h1:=List.find?_some hf
  have h2:=List.mem_of_find?_eq_some hf
  rw[decide_eq_true_iff]at h1
  rw[<-h1]
  exact h2
theorem InvM.most {m:Nat} {P:Nat->List UInt8->Prop} {d:List EFile} (h:InvM m P d):∀j,j<=99->mostFrom d j<=m
 |0,_=>zaf _
 |j+1,hj=>by
  unfold mostFrom
  cases hf:fileD d (genN ((j+1:Nat):Int))with
  |none=>exact h.most j (by omega)
  |some t=>exact(h _ (fileD_mem hf) (j+1) (by omega) hj rfl).1
theorem man_mk {n:Nat} (h1:1<=n) (h2:n<=9):∀(ls:List ELive) (k:Nat),MkP n (linesT ((segFrom (n:Int) k ls).map manLn)++endT)
 | [],k,p,hp=>by
  exfalso
  have hp:([101,110,100]:List UInt8)[p]? =some 115:=hp
  have:=zak hp
  exact absurd this (by decide)
 |l::ls,k,p,hp=>by
  have ih:=man_mk h1 h2 ls (k+1)
  obtain⟨r,e3⟩:=segN_at n h1 h2 (k:Int)
  obtain⟨line,hline⟩:∃line,line=manLn (segN (n:Int) (k:Int),liveT l.1.1 l.2):=⟨_,rfl⟩
  have hrest:∀rest:List UInt8,linesT ((segFrom (n:Int) k (l::ls)).map manLn)++endT=(line++ [10])++(linesT ((segFrom (n:Int) (k+1) ls).map manLn)++endT):=fun _=>by
   show linesT (manLn (segN (n:Int) (k:Int),liveT l.1.1 l.2)::(segFrom (n:Int) (k+1) ls).map manLn)++endT=_
   rw[hline,linesT_cons]
   simp only[zao,zbk,zaW]
  rw[hrest []]at hp⊢
  have hl:line=[115,101,103,49,48,48,UInt8.ofNat (48+n),120]++(r++ [32]++Lib.itoa (crcT (liveT l.1.1 l.2):Int)):=by
   rw[hline]
   unfold manLn
   rw[e3]
   simp only[zao]
  have hno:(115:UInt8)∉([101,103,49,48,48,UInt8.ofNat (48+n),120]++(r++ [32]++Lib.itoa (crcT (liveT l.1.1 l.2):Int))++ [10]):=by
   have hr:(115:UInt8)∉r:=by
    have e4:r=Lib.itoa (k:Int):=by
     have e5:=itoa_k n h2
     unfold segN at e3
     rw[e5]at e3
     simpa using e3.symm
    rw[e4]
    exact itoa_no (by omega) (by decide)
   have hc:(115:UInt8)∉Lib.itoa (crcT (liveT l.1.1 l.2):Int):=itoa_no (by omega) (by decide)
   have hd:(115:UInt8)≠UInt8.ofNat (48+n):=fun e=>by
    have:=congrArg UInt8.toNat e
    rw[UInt8.toNat_ofNat']at this
    have h115:(115:UInt8).toNat=115:=rfl
    omega
   generalize UInt8.ofNat (48+n)=u at hd⊢
   simp[hr,hc,hd]
  by_cases hlt:p<(line++ [10]).length
  .rw [zay hlt]at hp
   have hp0:p=0:=by
    cases p with
    |zero=>rfl
    |succ p=>
     exfalso
     rw[hl]at hp
     have:([101,103,49,48,48,UInt8.ofNat (48+n),120]++(r++ [32]++Lib.itoa (crcT (liveT l.1.1 l.2):Int))++ [10])[p]? =some 115:=hp
     exact hno (zak this)
   subst hp0
   rw[hl]
   rfl
  .rw [zaz (by omega)]at hp⊢
   have:=ih _ hp
   rw[<-this]
   congr 1
   omega
theorem commit_inv {m:Nat} {d:List EFile} {x:EIndex} (h:InvM m MkP d) (hm:m+1<=9) (w:Int):InvM (m+1) MkP (commitD d x w).1:=by
 have hmost:mostD d<=m:=h.most 99 (zae _)
 unfold commitD
 cases hn:decide (99<mostD d+1)||decide (24<d.length+6)with
 |true=>
  rw[zg]
  exact fun f hf k h1 h2 e=>⟨zcn (h f hf k h1 h2 e).1,(h f hf k h1 h2 e).2⟩
 |false=>
  rw[ze]
  dsimp only
  have hwr:∀(fs y:List EFile),(∀f,f∈fs->f∈filesC x (mostD d+1:Nat))->InvM (m+1) MkP y->InvM (m+1) MkP (writeAll fs y):=fun fs=>by
   induction fs with
   |nil=>exact fun y _ hy=>hy
   |cons g fs ih=>
    intro y hfs hy
    rw[writeAll_cons]
    refine ih _ (fun f hf=>hfs f (zl _ hf)) fun f hf k h1 h2 e=>?_
    rcases write_mem g f y hf with rfl|hf
    .have:=hfs f zy
     unfold filesC at this
     rw[zaB,zaD]at this
     rcases this with h3|rfl
     .obtain ⟨j,_,_,e2⟩:=seg_mem x.2 0 f h3
      exact absurd (e.symm.trans e2) (gen_seg _ _ _)
     .have e3:mostD d+1=k:=by have:=genN_inj (by omega) (by omega) (by omega) (by omega) e;omega
      subst e3
      exact⟨by omega,man_mk (by omega) (by omega) x.2 0⟩
    .exact hy f hf k h1 h2 e
  have hd:InvM (m+1) MkP d:=fun f hf k h1 h2 e=>⟨zcn (h f hf k h1 h2 e).1,(h f hf k h1 h2 e).2⟩
  have htk:∀f,f∈takeW w (filesC x (mostD d+1:Nat))->f∈filesC x (mostD d+1:Nat):=fun f hf=>by
   unfold takeW at hf
   cases hw:decide (w<0)with
   |true=>rw[hw]at hf;exact hf
   |false=>rw[hw]at hf;exact zaP hf
  have:=hwr _ d htk hd
  cases decide (w<0)||decide (((filesC x (mostD d+1:Nat)).length:Int)<w)with
  |false=>exact this
  |true=>exact fun f hf k h1 h2 e=>this f (zaZ.1 hf).1 k h1 h2 e
inductive Bent (s:List UInt8):List UInt8->Prop where
 |same:Bent s s
 |set (k:Nat) (b:UInt8) (hb:b∈([48,49,32,40,41,10,58,128]:List UInt8)):Bent s (s.take k++ [b]++s.drop (k+1))
 |pre (k:Nat):Bent s (s.take k)
 |post (b:UInt8) (hb:b∈([48,32,41,10]:List UInt8)):Bent s (s++ [b])
theorem MkP.mk {d:Nat} {s:List UInt8} (h:MkP d s) (hd:d<=9):Mk d s:=fun p e h1 h2 _ _=>by
 rw[h p h1]at h2
 cases h2
 rw[UInt8.toNat_ofNat']
 omega
theorem Bent.mk {d:Nat} {s t:List UInt8} (hb:Bent s t) (h:MkP d s) (hd:d<=9):Mk d t:=by
 have key:=h.mk hd
 cases hb with
 |same=>exact key
 |set k b hb=>
  intro p e h1 h2 h3 h4
  have hbb:b.toNat≠115/\(b.toNat<50\/57<b.toNat):=by
   simp only[zp,zco,or_false]at hb
   rcases hb with rfl|rfl|rfl|rfl|rfl|rfl|rfl|rfl<;>decide
  by_cases hk:k<=s.length
  .have get:∀i,i≠k->(s.take k++ [b]++s.drop (k+1))[i]? =s[i]? :=fun i hi=>by
    rcases Nat.lt_or_gt_of_ne hi with hlt|hgt
    .rw [zao,zay (by rw[zah];omega),zaH,zf hlt]
    .rw [zaz (by rw[zam,zah,zbE];omega),zaL]
     congr 1
     rw[zam,zah,zbE]
     omega
   have atk:(s.take k++ [b]++s.drop (k+1))[k]? =some b:=by
    rw[zao,zaz (by rw[zah];omega),zah,zcq hk,Nat.sub_self]
    rfl
   have hpk:p≠k:=fun e=>by
    rw[e,atk]at h1
    cases h1
    exact hbb.1 rfl
   have hqk:p+6≠k:=fun e2=>by
    rw[e2,atk]at h2
    cases h2
    omega
   rw[get p hpk]at h1
   rw[get _ hqk]at h2
   exact key p e h1 h2 h3 h4
  .have e1:s.take k=s:=zba (by omega)
   have e2:s.drop (k+1)=[]:=zbw (by omega)
   rw[e1,e2,zat]at h1 h2
   have h5:p+6<s.length:=by
    refine Nat.lt_of_not_le fun hle=>?_
    rw[zaz hle]at h2
    have:=zak h2
    rw[zaD]at this
    subst this
    omega
   rw[zay (by omega)]at h1
   rw[zay h5]at h2
   exact key p e h1 h2 h3 h4
 |pre k=>
  intro p e h1 h2 h3 h4
  rw[zaH]at h1 h2
  split at h1
  .split at h2
   .exact key p e h1 h2 h3 h4
   .cases h2
  .cases h1
 |post b hb=>
  intro p e h1 h2 h3 h4
  have h5:p+6<s.length:=by
   refine Nat.lt_of_not_le fun hle=>?_
   rw[zaz hle]at h2
   have:=zak h2
   rw[zaD]at this
   subst this
   simp only[zp,zco,or_false]at hb
   rcases hb with rfl|rfl|rfl|rfl<;>revert h3<;>decide
  rw[zay (by omega)]at h1
  rw[zay h5]at h2
  exact key p e h1 h2 h3 h4
theorem InvM.mk {m:Nat} {d:List EFile} (h:InvM m MkP d) (hm:m<=9):InvM m Mk d:=fun f hf k h1 h2 e=>⟨(h f hf k h1 h2 e).1,(h f hf k h1 h2 e).2.mk (by have:=(h f hf k h1 h2 e).1;omega)⟩
theorem wrap32N {a:Nat} (h:a<4294967296):IntKind.u32.wrap (a:Int)=(a:Int):=by
 simp only[IntKind.wrap,IntKind.bits,IntKind.signed]
 simp only[show((2:Int)^32)=4294967296 by rfl]
 have e:(a:Int)%4294967296=a:=zcp (by omega) (by omega)
 rw[e]
 simp
theorem bv_nat {k:Nat} {a:Nat} (h:a<2^k):(BitVec.ofInt k (a:Int)).toNat=a:=by
 rw[BitVec.toNat_ofInt]
 have:(a:Int)%((2^k:Nat):Int)=a:=zcp (by omega) (by exact_mod_cast h)
 rw[this]
 rfl
theorem xor32N {a b:Nat} (ha:a<4294967296) (hb:b<4294967296):bitsI .xor .u32 (a:Int) (b:Int)=((a^^^b:Nat):Int):=by
 have hx:a^^^b<2^32:=zcm (by omega) (by omega)
 show IntKind.u32.wrap ((BitVec.ofInt 32 (a:Int)^^^BitVec.ofInt 32 (b:Int)).toNat:Int)=_
 rw[BitVec.toNat_xor,bv_nat (by omega),bv_nat (by omega),wrap32N (by omega)]
theorem and32N {a:Nat} (ha:a<4294967296):bitsI .and .u32 (a:Int) 1=((a%2:Nat):Int):=by
 show IntKind.u32.wrap ((BitVec.ofInt 32 (a:Int)&&&BitVec.ofInt 32 ((1:Nat):Int)).toNat:Int)=_
 rw[BitVec.toNat_and,bv_nat (by omega),bv_nat (by omega),Nat.and_one_is_mod,wrap32N (by omega)]
theorem xor64N {a b:Nat} (ha:a<4294967296) (hb:b<4294967296):bitsI .xor .i64 (a:Int) (b:Int)=((a^^^b:Nat):Int):=by
 have hx:a^^^b<2^32:=zcm (by omega) (by omega)
 show IntKind.i64.wrap ((BitVec.ofInt 64 (a:Int)^^^BitVec.ofInt 64 (b:Int)).toNat:Int)=_
 rw[BitVec.toNat_xor,bv_nat (by omega),bv_nat (by omega),wrap64 (by omega) (by omega)]
def repB :Nat->Nat->Nat
 |0,c=>c
 |k+1,c=>repB k (crcBit c)
theorem crcByte_rep (c:Nat) (b:UInt8):crcByte c b=repB 8 (c^^^b.toNat):=rfl
theorem crcBit_lt {c:Nat} (h:c<4294967296):crcBit c<4294967296:=by
 unfold crcBit
 split
 .exact zcm (n:=32) (by omega) (by omega)
 .omega
theorem repB_lt :∀(k:Nat) {c:Nat},c<4294967296->repB k c<4294967296
 |0,_,h=>h
 |k+1,_,h=>repB_lt k (crcBit_lt h)
theorem byte_lt {c:Nat} (h:c<4294967296) (b:UInt8):c^^^b.toNat<4294967296:=zcm (n:=32) (by omega) (by have:=b.toNat_lt;omega)
theorem crc_i (N:Nat) (hN:16<=N) (s:List UInt8) (hs:s.length<N) (hl:s.length<=1099511627776):i_Crc_m N s=some (crcT s:Int):=by
 unfold i_Crc_m
 refine Def.get ?_
 refine Def.iter (fun g=>∃(n c:Nat),g=(s,(c:Int),(s.length:Int),(n:Int))/\n<=s.length/\c<4294967296/\(s.drop n).foldl crcByte c=s.foldl crcByte 4294967295) (fun g=>s.length-g.2.2.2.toNat) (fun go g hI ih=>?_) N _ ⟨0,4294967295,rfl,zaf _,by omega,rfl⟩ (by dsimp only;omega)
 obtain⟨n,c,rfl,h1,h2,h3⟩:=hI
 dsimp only
 by_cases hn:n<s.length
 .rw [zb (by omega:(n:Int)<s.length),zg,idx_at hn,za]
  have hd:s.drop n=s[n]::s.drop (n+1):=zan hn
  rw[hd,zaq,crcByte_rep]at h3
  have hb:=s[n].toNat_lt
  have hx:=byte_lt h2 s[n]
  rw[wrap32N (by omega),xor32N h2 (by omega)]
  refine Def.iter (fun g=>∃(k c':Nat),g=(s,(c':Int),(s.length:Int),(n:Int),(k:Int))/\k<=8/\c'<4294967296/\repB (8-k) c'=repB 8 (c^^^s[n].toNat)) (fun g=>8-g.2.2.2.2.toNat) (fun go2 g hI ih2=>?_) N _ ⟨0,_,rfl,by omega,hx,rfl⟩ (by dsimp only;omega)
  obtain⟨k,c',rfl,k1,k2,k3⟩:=hI
  dsimp only
  by_cases hk:k<8
  .have e8:8-k=(8-(k+1))+1:=by omega
   rw[e8]at k3
   have k3:repB (8-(k+1)) (crcBit c')=repB 8 (c^^^s[n].toNat):=k3
   have hf:((c':Nat):Int).fdiv (2^(min (1:Int).toNat (IntKind.bits .u32)))=((c'/2:Nat):Int):=by
    rw[show((2:Int)^(min (1:Int).toNat (IntKind.bits .u32)))=2 by rfl,Int.fdiv_eq_ediv_of_nonneg _ (by decide:(0:Int)<=2)]
    omega
   rw[zb (by omega:(k:Int)<8),zg,and32N k2,hf]
   by_cases hm:c'%2=1
   .rw [zb (by omega:((c'%2:Nat):Int)=1),zg]
    refine Def.ite (by decide) (Def.ite (fits_nat (by omega)) (ih2 _ ⟨k+1,crcBit c',?_,by omega,crcBit_lt k2,k3⟩ (by dsimp only;omega)))
    have e:crcBit c'=(c'/2)^^^3988292384:=by unfold crcBit;rw[zf hm]
    have hq:bitsI .xor .u32 ((c'/2:Nat):Int) 3988292384=(((c'/2)^^^3988292384:Nat):Int):=xor32N (a:=c'/2) (b:=3988292384) (by omega) (by omega)
    rw[hq,e,cast_succ']
   .rw [zd (by omega:¬((c'%2:Nat):Int)=1),ze]
    refine Def.ite (by decide) (Def.ite (fits_nat (by omega)) (ih2 _ ⟨k+1,crcBit c',?_,by omega,crcBit_lt k2,k3⟩ (by dsimp only;omega)))
    have e:crcBit c'=c'/2:=by unfold crcBit;rw[zu hm]
    rw[e,cast_succ']
  .rw [zd (by omega:¬(k:Int)<8),ze]
   have e8:8-k=0:=by omega
   rw[e8]at k3
   have k3:c'=repB 8 (c^^^s[n].toNat):=k3
   refine Def.ite (fits_nat (by omega)) (ih _ ⟨n+1,c',by rw[cast_succ'],hn,k2,?_⟩ (by dsimp only;omega))
   rw[k3]
   exact h3
 .rw [zd (by omega:¬(n:Int)<s.length),ze]
  rw[zbw (by omega)]at h3
  have h3:c=s.foldl crcByte 4294967295:=h3
  refine Def.ret ?_
  have hq:bitsI .xor .u32 4294967295 (c:Int)=((4294967295^^^c:Nat):Int):=xor32N (a:=4294967295) (b:=c) (by omega) h2
  have hx:4294967295^^^c<2^32:=zcm (by omega) (by omega)
  rw[hq,wrap64 (by omega) (by omega)]
  unfold crcT
  rw[<-h3,Nat.xor_comm]
theorem crc_s (N:Nat) (hN:16<=N) (s:List UInt8) (hs:s.length<N) (hl:s.length<=1099511627776):s_l19Crc_m N s=some (crcT s:Int):=by
 unfold s_l19Crc_m
 refine Def.get ?_
 refine Def.iter (fun g=>∃(n c:Nat),g=(s,(c:Int),(n:Int))/\n<=s.length/\c<4294967296/\(s.drop n).foldl crcByte c=s.foldl crcByte 4294967295) (fun g=>s.length-g.2.2.toNat) (fun go g hI ih=>?_) N _ ⟨0,4294967295,rfl,zaf _,by omega,rfl⟩ (by dsimp only;omega)
 obtain⟨n,c,rfl,h1,h2,h3⟩:=hI
 dsimp only
 by_cases hn:n<s.length
 .rw [zb (by omega:(n:Int)<s.length),zg,idx_at hn,za]
  have hd:s.drop n=s[n]::s.drop (n+1):=zan hn
  rw[hd,zaq,crcByte_rep]at h3
  have hb:=s[n].toNat_lt
  have hx:=byte_lt h2 s[n]
  rw[wrap64 (by omega) (by omega),xor64N h2 (by omega)]
  refine Def.iter (fun g=>∃(k c':Nat),g=(s,(c':Int),(n:Int),(k:Int))/\k<=8/\c'<4294967296/\repB (8-k) c'=repB 8 (c^^^s[n].toNat)) (fun g=>8-g.2.2.2.toNat) (fun go2 g hI ih2=>?_) N _ ⟨0,_,rfl,by omega,hx,rfl⟩ (by dsimp only;omega)
  obtain⟨k,c',rfl,k1,k2,k3⟩:=hI
  dsimp only
  by_cases hk:k<8
  .have e8:8-k=(8-(k+1))+1:=by omega
   rw[e8]at k3
   have k3:repB (8-(k+1)) (crcBit c')=repB 8 (c^^^s[n].toNat):=k3
   have hf:((c':Nat):Int).tdiv 2=((c'/2:Nat):Int):=rfl
   have hg:((c':Nat):Int).tmod 2=((c'%2:Nat):Int):=rfl
   rw[zb (by omega:(k:Int)<8),zg,hf,hg,zf (by decide:(2:Nat)≠0)]
   by_cases hm:c'%2=1
   .rw [zb (by omega:((c'%2:Nat):Int)=1),zg]
    refine Def.ite (by decide) (Def.ite (by unfold fits;omega) (Def.ite (fits_nat (by omega)) (ih2 _ ⟨k+1,crcBit c',?_,by omega,crcBit_lt k2,k3⟩ (by dsimp only;omega))))
    have e:crcBit c'=(c'/2)^^^3988292384:=by unfold crcBit;rw[zf hm]
    have hq:bitsI .xor .i64 ((c'/2:Nat):Int) 3988292384=(((c'/2)^^^3988292384:Nat):Int):=xor64N (a:=c'/2) (b:=3988292384) (by omega) (by omega)
    rw[hq,e,cast_succ']
   .rw [zd (by omega:¬((c'%2:Nat):Int)=1),ze]
    refine Def.ite (by decide) (Def.ite (by unfold fits;omega) (Def.ite (fits_nat (by omega)) (ih2 _ ⟨k+1,crcBit c',?_,by omega,crcBit_lt k2,k3⟩ (by dsimp only;omega))))
    have e:crcBit c'=c'/2:=by unfold crcBit;rw[zu hm]
    rw[e,cast_succ']
  .rw [zd (by omega:¬(k:Int)<8),ze]
   have e8:8-k=0:=by omega
   rw[e8]at k3
   have k3:c'=repB 8 (c^^^s[n].toNat):=k3
   refine Def.ite (fits_nat (by omega)) (ih _ ⟨n+1,c',by rw[cast_succ'],hn,k2,?_⟩ (by dsimp only;omega))
   rw[k3]
   exact h3
 .rw [zd (by omega:¬(n:Int)<s.length),ze]
  rw[zbw (by omega)]at h3
  have h3:c=s.foldl crcByte 4294967295:=h3
  refine Def.ret ?_
  have hq:bitsI .xor .i64 (c:Int) 4294967295=((c^^^4294967295:Nat):Int):=xor64N (a:=c) (b:=4294967295) h2 (by omega)
  rw[hq]
  unfold crcT
  rw[<-h3]
theorem crcT_lt (s:List UInt8):crcT s<4294967296:=by
 have h:∀(l:List UInt8) (c:Nat),c<4294967296->l.foldl crcByte c<4294967296:=fun l=>by
  induction l with
  |nil=>exact fun c h=>h
  |cons b l ih=>exact fun c h=>ih _ (repB_lt 8 (byte_lt h b))
 exact zcm (n:=32) (h s _ (by omega)) (by omega)
def outF :Option (List UInt8)->List UInt8×Bool
 |some t=>(t,true)
 |none=>([],false)
theorem file_i (N:Nat) (d:List EFile) (nm:List UInt8) (h:d.length<N) (hN:N<=16777216):i_Disk_file_m N d nm=some (outF (fileD d nm)):=by
 unfold i_Disk_file_m
 refine(iter_scan _ d.length (fun n=>(nm,d,(d.length:Int),(n:Int))) (fun n=>some (outF (fileD (d.drop n) nm))) (fun go=>?_) (fun go n hn hgo=>?_) N 0 (zaf _) (by omega)).trans rfl
 .dsimp only
  rw[zd (zcd _),ze,zbp]
  rfl
 .dsimp only
  rw[zb (by omega:(n:Int)<d.length),zg,idx_at hn,za,zan hn,fileD_cons]
  by_cases e:d[n].1=nm
  .rw [zb e,zg,zf e]
   rfl
  .rw [zd e,ze,zu e,zf (fits_nat (n:=n) (by omega)),<-hgo,cast_succ']
theorem file_s (N:Nat) (d:List EFile) (nm:List UInt8) (h:d.length<N) (hN:N<=16777216):s_l19File_m N d nm=some (outF (fileD d nm)):=by
 unfold s_l19File_m
 refine(iter_scan _ d.length (fun n=>(nm,(n:Int),d)) (fun n=>some (outF (fileD (d.drop n) nm))) (fun go=>?_) (fun go n hn hgo=>?_) N 0 (zaf _) (by omega)).trans rfl
 .dsimp only
  rw[zd (zcd _),ze,zbp]
  rfl
 .dsimp only
  rw[zb (by omega:(n:Int)<d.length),zg,idx_at hn,za,zan hn,fileD_cons]
  by_cases e:d[n].1=nm
  .rw [zb e,zg,zf e,za]
   rfl
  .rw [zd e,ze,zu e,zf (fits_nat (n:=n) (by omega)),<-hgo,cast_succ']
theorem gen_i (N:Nat) (n:Int) (h0:0<=n) (h1:n<=1000):i_genName_m N n=some (genN n):=by
 have h2:=itoa_len20 (n:=1000+n) (by omega) (by omega)
 have h3:=itoa_spec N (1000+n) (by omega) (by omega)
 unfold itoaL at h3
 unfold i_genName_m
 rw[zf (by unfold fits;omega),h3,za,zf (by simp only[zi,zac];omega)]
 rfl
theorem gen_s (N:Nat) (hN:1048576<N) (hN2:N<=16777216) (n:Int) (h0:0<=n) (h1:n<=1000):s_l19Gen_m N n=some (genN n):=by
 have h2:=itoa_len20 (n:=1000+n) (by omega) (by omega)
 have h3:=dec_spec N N (by omega) (by omega) (1000+n) (by omega) (by omega)
 unfold itoaL at h3
 unfold s_l19Gen_m
 rw[zf (by unfold fits;omega),h3,za,zf (by simp only[zi,zac];omega)]
 rfl
theorem cloneConf_spec (N:Nat) (c:EConf) (h:FitC N c):i_cloneConf_m N c.1 c.2=some (c.1,c.2):=by
 have hb:=h.big
 have h1:=h.a
 have h2:=h.b
 unfold i_cloneConf_m
 rw[zf (room_of (by simp;omega) (by simp;omega)),zaW]
 refine(iter_scan _ c.2.length (fun n=>(c.2,(c.2.length:Int),(n:Int),c.1,c.2.take n)) (fun _=>some (c.1,c.2)) (fun go=>?_) (fun go n hn hgo=>?_) N 0 (zaf _) (by omega)).trans rfl
 .dsimp only
  rw[zd (zcd _),ze,zq]
 .dsimp only
  have hx:=h.e _ (zr hn)
  rw[zb (by omega:(n:Int)<c.2.length),zg,idx_at hn,za,zf (room_of (by simp;omega) (by simp;omega)),zf (room_of (by simp;omega) (by simp;omega)),zf (fits_nat (n:=n) (by omega)),zaW,<-hgo,zo hn,cast_succ']
theorem indexNew_i {N:Nat} (hM:Sm<N) (hN:N<=16777216) (c:EConf) (oc:okD Sm TConf c):i_IndexNew_m N c.1 c.2=some (bif okConf c then(c.1,c.2,[])else([],[],[])):=by
 unfold i_IndexNew_m
 rw[confOk_spec N hM (by omega) c oc,za]
 cases okConf c with
 |false=>rfl
 |true=>
  rw[zn,ze,cloneConf_spec N c (.of hM oc),za]
  rfl
structure FitD (d:List EFile):Prop where
 len:d.length<=1048576
 each:∀f,f∈d->f.1.length<=1048576/\f.2.length<=1048576
theorem fileD_some {d:List EFile} {nm t:List UInt8} (h:fileD d nm=some t):∃f,f∈d/\f.2=t:=by
 unfold fileD at h
 obtain⟨f,hf,e⟩:=zaA.1 h
 exact⟨f,List.mem_of_find?_eq_some hf,e⟩
theorem FitD.text {d:List EFile} (h:FitD d) {nm t:List UInt8} (ht:fileD d nm=some t):t.length<=1048576:=by
 obtain⟨f,hf,rfl⟩:=fileD_some ht
 exact(h.each f hf).2
theorem diskOk_i (N:Nat) (hM:1048576<N) (hN:N<=16777216) (d:List EFile) (h:FitD d):i_DiskOk_m N d=some (okDisk d):=by
 have hl:=h.len
 unfold i_DiskOk_m
 refine check_loop _ d.length (fun n=>(d,(d.length:Int),(n:Int),d)) (okFl d) _ (fun go=>?_) (fun go n hn=>?_) N (by omega)
 .dsimp only
  rw[zd (zcd _),ze]
 .have hw:=(h.each _ (zr hn)).1
  dsimp only
  rw[zb (by omega:(n:Int)<d.length),zg,idx_at hn,za,wordOk_spec N _ (by omega) (by omega),za,zf (fits_nat (n:=n) (by omega)),cast_succ']
  unfold okFl
  rw[<-flAt_eq hn]
  cases okW d[n].1 with
  |false=>rfl
  |true=>
   rw[zn,ze,zaj]
   cases n with
   |zero=>rfl
   |succ n=>
    rw[zb (by omega:(0:Int)<((n+1:Nat):Int)),zg,zf (by unfold fits;omega),show(((n+1:Nat):Int)-1)=(n:Int)from by omega,idx_at (by omega),za,flAt_eq (n:=n) (by omega),zd (by omega:¬n+1=0),zbf,zbq]
    cases Op.bytesLess (flAt d n).1 d[n+1].1<;>rfl
theorem diskOk_s (N:Nat) (hM:1048576<N) (hN:N<=16777216) (d:List EFile) (h:FitD d):s_l19DiskOk_m N d=some (okDisk d):=by
 have hl:=h.len
 unfold s_l19DiskOk_m
 refine check_loop _ d.length (fun n=>((n:Int),d)) (okFl d) _ (fun go=>?_) (fun go n hn=>?_) N (by omega)
 .dsimp only
  rw[zd (zcd _),ze]
 .have hw:=(h.each _ (zr hn)).1
  dsimp only
  rw[zb (by omega:(n:Int)<d.length),zg,idx_at hn,za,l1WordOk_spec N _ (by omega) (by omega),za,zf (fits_nat (n:=n) (by omega)),cast_succ',za]
  unfold okFl
  rw[<-flAt_eq hn]
  cases okW d[n].1 with
  |false=>rfl
  |true=>
   rw[zn,ze,zaj]
   cases n with
   |zero=>rfl
   |succ n=>
    rw[zb (by omega:(0:Int)<((n+1:Nat):Int)),zg,zf (by unfold fits;omega),show(((n+1:Nat):Int)-1)=(n:Int)from by omega,idx_at (by omega),za,flAt_eq (n:=n) (by omega),zd (by omega:¬n+1=0),zbf,zbq,bytesLess_or]
    cases Op.bytesLess (flAt d n).1 d[n+1].1<;>rfl
theorem idx_last {ls:List (List UInt8)} (h:ls≠ []):idx ls ((ls.length:Int)-1)=some (ls.getLastD []):=by
 rcases List.eq_nil_or_concat ls with e|⟨xs,x,rfl⟩
 .exact absurd e h
 .rw [List.concat_eq_append,List.getLastD_concat]
  have e:((xs++ [x]).length:Int)-1=(xs.length:Int):=by
   rw[zam,zbE]
   omega
  rw[e,idx_at (by simp)]
  simp
theorem cut_last {ls:List (List UInt8)} (h:ls≠ []):cut ls 0 ((ls.length:Int)-1)=some ls.dropLast:=by
 have hp:0<ls.length:=zcl.2 h
 have e:(ls.length:Int)-1=((ls.length-1:Nat):Int):=by omega
 rw[e,cut_take' ls (ls.length-1) (by omega),List.dropLast_eq_take]
theorem fitMany {N:Nat} (hM:Sm<N) (hN:N<=16777216) {c:EConf} (oc:okD Sm TConf c) {xs:List ELive} (hl:xs.length<=1048576) (h:∀l,l∈xs->okIdx (c,[l])=true):FitI N (c,xs):=
 ⟨hM,hN,oc,hl,fun l hm=>by
  have o:=oneL (h l hm)
  have h1:=o.few
  have h2:=o.dead
  exact⟨fun d hd=>okD_ok (okDoc_each o.docs d hd),by omega,by omega⟩⟩
theorem linesL_at (c:EConf) (d:List EFile) (ms:List (List UInt8)) {n:Nat} (hn:n<ms.length) {xs:List ELive} (h:linesL c d ms=(linesL c d (ms.drop n)).map (xs++ ·)):(lineL c d ms[n]=none->linesL c d ms=none)/\∀l,lineL c d ms[n]=some l->linesL c d ms=(linesL c d (ms.drop (n+1))).map ((xs++ [l])++ ·):=by
 rw[zan hn]at h
 have hc:linesL c d (ms[n]::ms.drop (n+1))=(lineL c d ms[n]).bind fun x=>(linesL c d (ms.drop (n+1))).map fun xs=>x::xs:=rfl
 rw[hc]at h
 refine⟨fun e=>by rw[h,e];rfl,fun l e=>?_⟩
 rw[h,e,za,Option.map_map]
 congr 1
 funext ys
 simp
theorem linesQ_at (c:EConf) (d:List EFile) (ms:List (List UInt8)) {n:Nat} (hn:n<ms.length) {xs:List ELive} (h:linesQ c d ms=(linesQ c d (ms.drop n)).map (xs++ ·)):(lineQ c d ms[n]=none->linesQ c d ms=none)/\∀l,lineQ c d ms[n]=some l->linesQ c d ms=(linesQ c d (ms.drop (n+1))).map ((xs++ [l])++ ·):=by
 rw[zan hn]at h
 have hc:linesQ c d (ms[n]::ms.drop (n+1))=(lineQ c d ms[n]).bind fun x=>(linesQ c d (ms.drop (n+1))).map fun xs=>x::xs:=rfl
 rw[hc]at h
 refine⟨fun e=>by rw[h,e];rfl,fun l e=>?_⟩
 rw[h,e,za,Option.map_map]
 congr 1
 funext ys
 simp
def Told (o:Option EIndex) (r:List (List UInt8)×List ESyn×List ELive×Bool):Prop:=(r.2.2.2=true->o=some ((r.1,r.2.1),r.2.2.1))/\(r.2.2.2=false->o=none)
theorem Told.no {o:Option EIndex} (h:o=none) (a:List (List UInt8)) (b:List ESyn) (x:List ELive):Told o (a,b,x,false):=⟨(fun h=>by cases h),fun _=>h⟩
set_option maxHeartbeats 1000000 in
theorem commit_i {N:Nat} (hN:1048600<=N) (hN2:N<=16777216) (c:EConf) (oc:okD Sm TConf c) (d:List EFile) (hd:FitD d) (n:Int) (h0:0<=n) (h1:n<=1000):Def (i_Disk_commit_m N d c.1 c.2 n) (Told (openG c d n)):=by
 have hM:Sm<N:=by show 1048576<N;omega
 have hdl:=hd.len
 unfold i_Disk_commit_m openG
 rw[gen_i N n h0 h1,za,file_i N d _ (by omega) hN2,za]
 have hsp:∀t:List UInt8,t.length<=1048576->k_strings_Split_m N t [10]=some (cutAt 10 t):=fun t ht=>by
  show splitM t [10]=_
  unfold splitM
  dsimp only
  rw[zf (by omega)]
 cases hf:fileD d (genN n)with
 |none=>
  unfold outF
  dsimp only
  rw[hsp [] (by simp),za]
  refine Def.ite (by decide) ?_
  rw[zaI,zg]
  exact Def.ret (Told.no rfl _ _ _)
 |some t=>
  have ht:=hd.text hf
  have hsum:=sumL_cut 10 t
  have hne:=cutAt_ne 10 t
  rw[za]
  unfold outF openT
  dsimp only
  rw[hsp t ht,za]
  generalize cutAt 10 t=ls at hsum hne⊢
  have hlen:=sumL_len ls
  have hpos:0<ls.length:=zcl.2 hne
  refine Def.ite (by unfold fits;omega) ?_
  rw[zn,ze,idx_last hne,za]
  by_cases he:ls.getLastD []=endT
  .have he':ls.getLastD []=[101,110,100]:=he
   rw[zb he',zn,ze,zb he,zg,cloneConf_spec N c (.of hM oc),za,cut_last hne,za]
   have hml:ls.dropLast.length=ls.length-1:=List.length_dropLast
   have hmm:∀l,l∈ls.dropLast->l.length<=1048576:=fun l h=>by have:=sumL_mem (List.dropLast_subset ls h);omega
   generalize ls.dropLast=ms at hml hmm⊢
   refine Def.iter (fun g=>∃(k:Nat) (xs:List ELive),g=(ms,(ms.length:Int),(k:Int),d,c.1,c.2,c.1,c.2,xs)/\k<=ms.length/\xs.length<=k/\(∀l,l∈xs->okIdx (c,[l])=true)/\linesL c d ms=(linesL c d (ms.drop k)).map (xs++ ·)) (fun g=>ms.length-g.2.2.1.toNat) (fun go g hI ih=>?_) N _ ⟨0,[],rfl,zaf _,zae _,(fun l h=>by cases h),by simp⟩ (by dsimp only;omega)
   obtain⟨k,xs,rfl,k1,k2,k3,k4⟩:=hI
   dsimp only
   by_cases hk:k<ms.length
   .have hx:=hmm _ (zr hk)
    obtain⟨hno,hyes⟩:=linesL_at c d ms hk k4
    have hcut:k_strings_Cut_m N ms[k] [32]=some (cut1 32 ms[k]):=cutM_one hx
    rw[zb (by omega:(k:Int)<ms.length),zg,idx_at hk,za,hcut,za,file_i N d _ (by omega) hN2,za]
    have hfail:lineL c d ms[k]=none->Told ((linesL c d ms).bind fun ls=>bif okIdx (c,ls)then some (c,ls)else none) (([]:List (List UInt8)),([]:List ESyn),([]:List ELive),false):=fun e=>Told.no (by rw[hno e];rfl) _ _ _
    unfold lineL at hfail hyes
    cases hq:fileD d (cut1 32 ms[k]).1 with
    |none=>
     rw[hq]at hfail
     unfold outF
     dsimp only
     rw[zaI,zg]
     exact Def.ret (hfail rfl)
    |some u=>
     have hu:=hd.text hq
     have hcl:=crcT_lt u
     have hit:=itoa_spec N (crcT u:Int) (by omega) (by omega)
     unfold itoaL at hit
     rw[hq]at hfail hyes
     dsimp only at hfail hyes
     unfold outF
     dsimp only
     rw[zn,ze,crc_i N (by omega) u (by omega) (by omega),za,hit,za]
     by_cases hs:Lib.itoa (crcT u:Int)=(cut1 32 ms[k]).2.1
     .rw [zb hs,zg]at hfail hyes
      rw[zb hs,zn,ze,liveGet_i hN hN2 c oc u hu,za]
      cases hg:getI c u with
      |none=>
       unfold outL
       dsimp only
       rw[zaI,zg]
       exact Def.ret (hfail hg)
      |some l=>
       unfold outL
       dsimp only
       rw[zn,ze]
       refine Def.ite (room_of (by rw[zbE];omega) (by rw[zbE];omega)) (Def.ite (fits_nat (by omega)) (ih _ ⟨k+1,xs++ [l],by rw[cast_succ'],hk,by rw[zam,zbE];omega,fun l' hl'=>?_,hyes l hg⟩ (by dsimp only;omega)))
       rcases zaB.1 hl' with hl'|hl'
       .exact k3 l' hl'
       .rw [zaD]at hl'
        rw[hl']
        exact(getI_some hg).1
     .rw [zd hs,ze]at hfail
      rw[zd hs,zaI,zg]
      exact Def.ret (hfail rfl)
   .rw [zd (by omega:¬(k:Int)<ms.length),ze]
    rw[zbw (by omega)]at k4
    have k4:linesL c d ms=some xs:=by rw[k4];simp[linesL]
    have hi:i_IndexOk_m N c.1 c.2 xs=some (okIdx (c,xs)):=indexOk_spec (fitMany hM hN2 oc (by omega) k3)
    rw[hi,za,k4,za]
    refine Def.ret ⟨fun h=>?_,fun h=>?_⟩
    .have h:okIdx (c,xs)=true:=h
     rw[h]
     rfl
    .have h:okIdx (c,xs)=false:=h
     rw[h]
     rfl
  .have he':¬ls.getLastD []=[101,110,100]:=he
   rw[zd he',zaI,zg,zd he,ze]
   exact Def.ret (Told.no rfl _ _ _)
set_option maxHeartbeats 1000000 in
theorem open_s {N:Nat} (hN:1048600<=N) (hN2:N<=16777216) (c:EConf) (oc:okD Sm TConf c) (hc:okConf c=true) (d:List EFile) (hd:FitD d) (s:List UInt8) (hs:s.length<=1048576):Def (s_l19Open_m N c.1 c.2 d s) (Told (openT c d s)):=by
 have hM:Sm<N:=by show 1048576<N;omega
 have hdl:=hd.len
 rw[<-open_same]
 unfold s_l19Open_m openQ
 rw[copyConf_spec N c (.of hM oc),za,cutS_spec N s 10 10 6 6 rfl rfl (by omega) (by omega),za]
 have hsum:=sumL_cutN 10 6 s
 have hlen:=cutN_len 10 6 s
 have hne:=cutN_nn 10 6 s
 generalize cutN 10 6 s=ls at hsum hlen hne⊢
 have hpos:0<ls.length:=zcl.2 hne
 have hml:ls.dropLast.length=ls.length-1:=List.length_dropLast
 refine Def.iter (fun g=>∃(k:Nat) (xs:List ELive),g=(ls,(k:Int),c.1,c.2,d,c.1,c.2,xs)/\k+1<=ls.length/\xs.length<=k/\(∀l,l∈xs->okIdx (c,[l])=true)/\linesQ c d ls.dropLast=(linesQ c d (ls.dropLast.drop k)).map (xs++ ·)) (fun g=>ls.length-g.2.1.toNat) (fun go g hI ih=>?_) N _ ⟨0,[],rfl,hpos,zae _,(fun l h=>by cases h),by simp⟩ (by dsimp only;omega)
 obtain⟨k,xs,rfl,k1,k2,k3,k4⟩:=hI
 dsimp only
 refine Def.ite (fits_nat (by omega)) ?_
 by_cases hk:k+1<ls.length
 .have hk':k<ls.length:=by omega
  have hkd:k<ls.dropLast.length:=by omega
  have hx:=sumL_mem (zr hk')
  have hat:ls.dropLast[k]=ls[k]:=List.getElem_dropLast ..
  obtain⟨hno,hyes⟩:=linesQ_at c d ls.dropLast hkd k4
  rw[hat]at hno hyes
  have hfail:lineQ c d ls[k]=none->Told ((linesQ c d ls.dropLast).bind fun xs=>bif decide (ls.getLastD []=endT)&&okIdx (c,xs)then some (c,xs)else none) (([]:List (List UInt8)),([]:List ESyn),([]:List ELive),false):=fun e=>Told.no (by rw[hno e];rfl) _ _ _
  unfold lineQ at hfail hyes
  rw[zb (by omega:(k:Int)+1<(ls.length:Int)),zg,idx_at hk',za,cutS_spec N ls[k] 32 32 2 2 rfl rfl (by omega) (by omega),za]
  rcases cut3 ls[k]with⟨a,e⟩|⟨a,b,e,hl⟩|⟨a,b,c',e,hl⟩
  .rw [e]at hfail⊢
   have l2:decide ((([a]:List (List UInt8)).length:Int)=2)=false:=rfl
   rw[l2,zaI,zg]
   exact Def.ret (hfail rfl)
  .rw [e]at hfail hyes⊢
   dsimp only at hfail hyes
   have l2:decide ((([a,b]:List (List UInt8)).length:Int)=2)=true:=rfl
   have i0:idx [a,b] 0=some a:=rfl
   have i1:idx [a,b] 1=some b:=rfl
   rw[l2,zn,ze,i0,za,file_s N d a (by omega) hN2,za]
   cases hq:fileD d a with
   |none=>
    rw[hq]at hfail
    unfold outF
    dsimp only
    rw[zaI,zg]
    exact Def.ret (hfail rfl)
   |some u=>
    have hu:=hd.text hq
    have hcl:=crcT_lt u
    have hit:=dec_spec N N (by omega) (by omega) (crcT u:Int) (by omega) (by omega)
    unfold itoaL at hit
    rw[hq]at hfail hyes
    dsimp only at hfail hyes
    unfold outF
    dsimp only
    rw[zn,ze,i1,za,crc_s N (by omega) u (by omega) (by omega),za,hit,za]
    by_cases hs2:b=Lib.itoa (crcT u:Int)
    .rw [zb hs2,zg]at hfail hyes
     rw[zb hs2,zn,ze,get_s hN hN2 c oc hc u hu,za]
     cases hg:getS c u with
     |none=>
      unfold outL
      dsimp only
      rw[zaI,zg]
      exact Def.ret (hfail hg)
     |some l=>
      unfold outL
      dsimp only
      rw[zn,ze]
      refine Def.ite (room_of (by rw[zbE];omega) (by rw[zbE];omega)) (Def.ite (fits_nat (by omega)) (ih _ ⟨k+1,xs++ [l],by rw[cast_succ'],hk,by rw[zam,zbE];omega,fun l' hl'=>?_,hyes l hg⟩ (by dsimp only;omega)))
      rcases zaB.1 hl' with hl'|hl'
      .exact k3 l' hl'
      .rw [zaD]at hl'
       rw[hl']
       exact(getS_some hg).1
    .rw [zd hs2,ze]at hfail
     rw[zd hs2,zaI,zg]
     exact Def.ret (hfail rfl)
  .rw [e]at hfail⊢
   have l2:decide ((([a,b,c']:List (List UInt8)).length:Int)=2)=false:=rfl
   rw[l2,zaI,zg]
   exact Def.ret (hfail rfl)
 .rw [zd (by omega:¬(k:Int)+1<(ls.length:Int)),ze]
  rw[zbw (by omega)]at k4
  have k4:linesQ c d ls.dropLast=some xs:=by rw[k4];simp[linesQ]
  have hi:s_l18Ok_m N c.1 c.2 xs=some (okIdx (c,xs)):=l18Ok_spec (fitMany hM hN2 oc (by omega) k3)
  refine Def.ite (by unfold fits;omega) ?_
  rw[idx_last hne,za,k4,za]
  by_cases he:ls.getLastD []=endT
  .have he':ls.getLastD []=[101,110,100]:=he
   rw[zb he',zg,hi,za,zb he,zaj]
   refine Def.ret ⟨fun h=>?_,fun h=>?_⟩
   .have h:okIdx (c,xs)=true:=h
    rw[h]
    rfl
   .have h:okIdx (c,xs)=false:=h
    rw[h]
    rfl
  .have he':¬ls.getLastD []=[101,110,100]:=he
   rw[zd he',ze,zd he,zce]
   exact Def.ret (Told.no rfl _ _ _)
def lastT (c:EConf) (d:List EFile):Nat->EIndex×Int
 |0=>((c,[]),0)
 |n+1=>match openG c d ((n+1:Nat):Int)with
  |some x=>(x,((n+1:Nat):Int))
  |none=>lastT c d n
def openD2 (c:EConf) (d:List EFile):EIndex×Int:=bif okConf c&&okDisk d then lastT c d 99 else((([],[]),[]),-1)
def outO (r:EIndex×Int):List (List UInt8)×List ESyn×List ELive×Int:=(r.1.1.1,r.1.1.2,r.1.2,r.2)
theorem diskOpen_i {N:Nat} (hN:1048600<=N) (hN2:N<=16777216) (c:EConf) (oc:okD Sm TConf c) (d:List EFile) (hd:FitD d):i_DiskOpen_m N c.1 c.2 d=some (outO (openD2 c d)):=by
 have hM:Sm<N:=by show 1048576<N;omega
 unfold i_DiskOpen_m openD2
 rw[confOk_spec N hM (by omega) c oc,za]
 cases hc:okConf c with
 |false=>rfl
 |true=>
  rw[zn,ze,diskOk_i N hM hN2 d hd,za,zaj]
  cases okDisk d with
  |false=>rfl
  |true=>
   rw[zn,ze,zg]
   refine Def.get ?_
   refine Def.iter (fun g=>∃k:Nat,g=((k:Int),c.1,c.2,d)/\k<=99/\lastT c d k=lastT c d 99) (fun g=>g.1.toNat) (fun go g hI ih=>?_) N _ ⟨99,rfl,zae _,rfl⟩ (by show(99:Int).toNat<N;omega)
   obtain⟨k,rfl,k1,k2⟩:=hI
   dsimp only
   cases k with
   |zero=>
    rw[zd (by decide:¬(1:Int)<=((0:Nat):Int)),ze,indexNew_i hM hN2 c oc,za,hc,zg]
    rw[<-k2]
    exact Def.ret rfl
   |succ k=>
    rw[zb (by omega:(1:Int)<=((k+1:Nat):Int)),zg]
    refine Def.bind (commit_i hN hN2 c oc d hd ((k+1:Nat):Int) (by omega) (by omega)) fun r ⟨t1,t2⟩=>?_
    unfold lastT at k2
    refine Def.bif (fun h=>?_) (fun h=>?_)
    .rw [t1 h]at k2
     refine Def.ret ?_
     have k2:(((r.1,r.2.1),r.2.2.1),((k+1:Nat):Int))=lastT c d 99:=k2
     rw[<-k2]
     rfl
    .rw [t2 h]at k2
     exact Def.ite (by unfold fits;omega) (ih _ ⟨k,by rw[show((k+1:Nat):Int)-1=(k:Int)from by omega],by omega,k2⟩ (by dsimp only;omega))
theorem diskOpen_s {N:Nat} (hN:1048600<=N) (hN2:N<=16777216) (c:EConf) (oc:okD Sm TConf c) (d:List EFile) (hd:FitD d):s_DiskOpen_m N c.1 c.2 d=some (outO (openD2 c d)):=by
 have hM:Sm<N:=by show 1048576<N;omega
 have hdl:=hd.len
 unfold s_DiskOpen_m openD2
 rw[l2Ok_spec N hM (by omega) c oc,za]
 cases hc:okConf c with
 |false=>rfl
 |true=>
  rw[zn,ze,diskOk_s N hM hN2 d hd,za,zaj]
  cases okDisk d with
  |false=>rfl
  |true=>
   rw[zn,ze,zg]
   suffices h:s_l19Last_m N c.1 c.2 d=some (outO (lastT c d 99)) by
    rw[h,za]
   unfold s_l19Last_m
   refine Def.get ?_
   refine Def.iter (fun g=>∃k:Nat,g=((k:Int),c.1,c.2,d)/\k<=99/\lastT c d k=lastT c d 99) (fun g=>g.1.toNat) (fun go g hI ih=>?_) N _ ⟨99,rfl,zae _,rfl⟩ (by show(99:Int).toNat<N;omega)
   obtain⟨k,rfl,k1,k2⟩:=hI
   dsimp only
   cases k with
   |zero=>
    rw[zd (by decide:¬(1:Int)<=((0:Nat):Int)),ze,copyConf_spec N c (.of hM oc),za]
    rw[<-k2]
    exact Def.ret rfl
   |succ k=>
    have hnext:lastT c d k=lastT c d 99->Def (if fits (((k+1:Nat):Int)-1)then go (((k+1:Nat):Int)-1,c.1,c.2,d)else none) fun r=>r=outO (lastT c d 99):=fun e=>Def.ite (by unfold fits;omega) (ih _ ⟨k,by rw[show((k+1:Nat):Int)-1=(k:Int)from by omega],by omega,e⟩ (by dsimp only;omega))
    rw[zb (by omega:(1:Int)<=((k+1:Nat):Int)),zg,gen_s N hM hN2 ((k+1:Nat):Int) (by omega) (by omega),za,file_s N d _ (by omega) hN2,za]
    unfold lastT openG at k2
    cases hf:fileD d (genN ((k+1:Nat):Int))with
    |none=>
     rw[hf]at k2
     unfold outF
     dsimp only
     rw[zaI,zg]
     exact hnext k2
    |some t=>
     rw[hf,za]at k2
     unfold outF
     dsimp only
     rw[zn,ze]
     refine Def.bind (open_s hN hN2 c oc hc d hd t (hd.text hf)) fun r ⟨t1,t2⟩=>?_
     refine Def.bif (fun h=>?_) (fun h=>?_)
     .rw [t1 h]at k2
      refine Def.ret ?_
      have k2:(((r.1,r.2.1),r.2.2.1),((k+1:Nat):Int))=lastT c d 99:=k2
      rw[<-k2]
      rfl
     .rw [t2 h]at k2
      exact hnext k2
end Go.Proofs.YtcinmmojlcchfaaGreatDoor
