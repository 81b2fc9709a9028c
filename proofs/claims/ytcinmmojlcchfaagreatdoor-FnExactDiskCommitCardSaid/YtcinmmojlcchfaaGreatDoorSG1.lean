import Derived.Test.YtcinmmojlcchfaaGreatDoorSE1
import Derived.Test.YtcinmmojlcchfaaGreatDoorSF1
set_option linter.unusedVariables false
set_option linter.unusedSimpArgs false
namespace Go.Proofs.YtcinmmojlcchfaaGreatDoor
open Go.RowKit
def crcBit (c:Nat):Nat:=if c%2=1 then(c/2)^^^3988292384 else c/2
def crcByte (c:Nat) (b:UInt8):Nat:=crcBit (crcBit (crcBit (crcBit (crcBit (crcBit (crcBit (crcBit (c^^^b.toNat))))))))
def crcT (s:List UInt8):Nat:=(s.foldl crcByte 4294967295)^^^4294967295
abbrev EFile :Type:=List UInt8×List UInt8
def fileD (d:List EFile) (nm:List UInt8):Option (List UInt8):=(d.find? fun f=>decide (f.1=nm)).map (·.2)
abbrev UpN (d:List EFile):Prop:=d.Pairwise fun a b=>Op.bytesLess a.1 b.1=true
def writeD (f:EFile):List EFile->List EFile
 | []=>[f]
 |g::d=>if g.1=f.1 then f::d else if Op.bytesLess g.1 f.1=true then g::writeD f d else f::g::d
theorem fileD_cons (g:EFile) (d:List EFile) (nm:List UInt8):fileD (g::d) nm=if g.1=nm then some g.2 else fileD d nm:=by
 unfold fileD
 rw[List.find?_cons]
 by_cases h:g.1=nm
 .rw [zb h,zf h]
  rfl
 .rw [zd h,zu h]
theorem j3V (f x:EFile):∀d,x∈writeD f d->x=f\/x∈d
 | [],h=>by rw[writeD,zaD]at h;exact .inl h
 |g::d,h=>by
  rw[writeD]at h
  split at h
  .rcases zp.1 h with h|h
   .exact .inl h
   .exact .inr (zl _ h)
  .split at h
   .rcases zp.1 h with h|h
    .exact .inr (h▸zy)
    .exact (j3V f x d h).imp id (zl _)
   .rcases zp.1 h with h|h
    .exact .inl h
    .exact .inr h
theorem j3W (f:EFile):∀d,UpN d->UpN (writeD f d)
 | [],_=>List.pairwise_singleton _ _
 |g::d,h=>by
  rw[UpN,zas]at h
  rw[writeD]
  split
  .rename_i e
   rw[UpN,zas]
   exact⟨fun x hx=>by rw[<-e];exact h.1 x hx,h.2⟩
  .rename_i e
   split
   .rename_i e2
    rw[UpN,zas]
    refine⟨fun x hx=>?_,j3W f d h.2⟩
    rcases j3V f x d hx with rfl|hx
    .exact e2
    .exact h.1 x hx
   .rename_i e2
    have e3:Op.bytesLess f.1 g.1=true:=bl_total (by simpa using e2) e
    rw[UpN,zas,zas]
    exact⟨fun x hx=>by
     rcases zp.1 hx with rfl|hx
     .exact e3
     .exact bl_trans e3 (h.1 x hx),h⟩
theorem write_len (f:EFile):∀d,(writeD f d).length<=d.length+1
 | []=>zae _
 |g::d=>by
  have ih:=write_len f d
  rw[writeD]
  split
  .simp
  .split
   .simp only [zi];omega
   .simp
def genN (n:Int):List UInt8:=[103,101,110]++Lib.itoa (1000+n)
def segN (n k:Int):List UInt8:=[115,101,103]++Lib.itoa (1000+n)++ [120]++Lib.itoa k
def j3L (f:EFile):List UInt8:=f.1++ [32]++Lib.itoa (crcT f.2:Int)
def endT :List UInt8:=[101,110,100]
def manT (fs:List EFile):List UInt8:=linesT (fs.map j3L)++endT
def j3I (n:Int):Nat->List ELive->List EFile
 |_,[]=>[]
 |k,l::ls=>(segN n (k:Int),liveT l.1.1 l.2)::j3I n (k+1) ls
def j3J (x:EIndex) (n:Int):List EFile:=j3I n 0 x.2++ [(genN n,manT (j3I n 0 x.2))]
theorem jZP {x:EIndex} (hk:okIdx x=true) {l:ELive} (hl:l∈x.2):okIdx (x.1,[l])=true:=by
 obtain⟨k1,k2,k3,k4⟩:=okIdx_ok hk
 have h1:okLive x.1 l=true:=zax.1 k3 l hl
 have h2:okDocs (sortD (allD [l]))=true:=j0y k4 (j0q (List.singleton_sublist.2 hl))
 unfold okIdx
 dsimp only
 rw[k1,h2,List.all_cons,h1]
 rfl
def j3K (d:List EFile):Nat->Nat
 |0=>0
 |k+1=>bif(fileD d (genN ((k+1:Nat):Int))).isSome then k+1 else j3K d k
def j3F (d:List EFile):Nat:=j3K d 99
theorem j3T (d:List EFile):∀m,j3K d m<=m
 |0=>zae _
 |k+1=>by
  have ih:=j3T d k
  rw[j3K]
  cases(fileD d (genN ((k+1:Nat):Int))).isSome with
  |true=>exact zae _
  |false=>rw[ze];omega
def oldB (n:Int) (nm:List UInt8):Bool:=decide (7<=nm.length)&&(decide (nm.take 3=[103,101,110])||decide (nm.take 3=[115,101,103]))&&(((nm.drop 3).take 4).all digB&&(decide ((1001:Int)<=(numD 0 ((nm.drop 3).take 4):Int))&&decide ((numD 0 ((nm.drop 3).take 4):Int)<=1000+n-1)))
def j3H (n:Int) (d:List EFile):List EFile:=d.filter fun f=> !oldB n f.1
def writeAll (fs:List EFile) (d:List EFile):List EFile:=fs.foldl (fun d f=>writeD f d) d
theorem writeAll_cons (f:EFile) (fs d:List EFile):writeAll (f::fs) d=writeAll fs (writeD f d):=rfl
theorem j1C (a b d:List EFile):writeAll (a++b) d=writeAll b (writeAll a d):=by unfold writeAll;rw[zaX]
def j3G (w:Int) (fs:List EFile):List EFile:=bif decide (w<0)then fs else fs.take w.toNat
def j3O (d:List EFile) (x:EIndex) (w:Int):List EFile×Int:=
 bif decide (99<j3F d+1)||decide (24<d.length+6)then(d,0)else
  (bif decide (w<0)||decide (((j3J x (j3F d+1:Nat)).length:Int)<w)then j3H (j3F d+1:Nat) (writeAll (j3G w (j3J x (j3F d+1:Nat))) d)else writeAll (j3G w (j3J x (j3F d+1:Nat))) d,(j3F d+1:Nat))
theorem j3z (n:Int):∀(ls:List ELive) (k:Nat),(j3I n k ls).length=ls.length
 | [],_=>rfl
 |l::ls,k=>by rw[j3I,zi,zi,j3z n ls]
theorem j3X (x:EIndex) (n:Int):(j3J x n).length=x.2.length+1:=by
 unfold j3J
 rw[zam,j3z]
 rfl
def flAt (d:List EFile) (n:Nat):EFile:=d[n]?.getD ([],[])
theorem flAt_eq {d:List EFile} {n:Nat} (h:n<d.length):d[n]=flAt d n:=by unfold flAt;rw[zc h];rfl
def okFl (d:List EFile) (n:Nat):Bool:=okW (flAt d n).1&&(decide (n=0)||Op.bytesLess (flAt d (n-1)).1 (flAt d n).1)
def okDisk (d:List EFile):Bool:=allN d.length (okFl d)&&decide ((d.length:Int)<=24)
structure DiskP (d:List EFile):Prop where
 up:UpN d
 names:∀f,f∈d->okW f.1=true
 few:d.length<=24
theorem okDisk_ok {d:List EFile} (h:okDisk d=true):DiskP d:=by
 unfold okDisk at h
 rw[zj,zw]at h
 refine⟨?_,fun f hf=>?_,by omega⟩
 .refine pairwise_adj (fun a b:EFile=>Op.bytesLess a.1 b.1=true) (fun a b c h1 h2=>bl_trans h1 h2) d fun n hn=>?_
  have h2:=allN_at h.1 hn
  unfold okFl at h2
  rw[zj,zd (by omega),zbf,zbq,<-flAt_eq hn,<-flAt_eq (by omega:n<d.length)]at h2
  exact h2.2
 .obtain ⟨n,hn,rfl⟩:=zav.1 hf
  have h2:=allN_at h.1 hn
  unfold okFl at h2
  rw[zj,<-flAt_eq hn]at h2
  exact h2.1
theorem writeAll_len :∀(fs d:List EFile),(writeAll fs d).length<=d.length+fs.length
 | [],d=>zae _
 |f::fs,d=>by
  have h1:=writeAll_len fs (writeD f d)
  have h2:=write_len f d
  rw[writeAll_cons,zi]
  omega
inductive Bent (s:List UInt8):List UInt8->Prop where
 |same:Bent s s
 |set (k:Nat) (b:UInt8) (hb:b∈([48,49,32,40,41,10,58,128]:List UInt8)):Bent s (s.take k++ [b]++s.drop (k+1))
 |pre (k:Nat):Bent s (s.take k)
 |post (b:UInt8) (hb:b∈([48,32,41,10]:List UInt8)):Bent s (s++ [b])
theorem wrap32N {a:Nat} (h:a<4294967296):IntKind.u32.wrap (a:Int)=(a:Int):=by
 simp only[IntKind.wrap,IntKind.bits,IntKind.signed]
 simp only[show((2:Int)^32)=4294967296 by rfl]
 have e:(a:Int)%4294967296=a:=Int.emod_eq_of_lt (by omega) (by omega)
 rw[e]
 simp
theorem bv_nat {k:Nat} {a:Nat} (h:a<2^k):(BitVec.ofInt k (a:Int)).toNat=a:=by
 rw[BitVec.toNat_ofInt]
 have:(a:Int)%((2^k:Nat):Int)=a:=Int.emod_eq_of_lt (by omega) (by exact_mod_cast h)
 rw[this]
 rfl
theorem xor32N {a b:Nat} (ha:a<4294967296) (hb:b<4294967296):bitsI .xor .u32 (a:Int) (b:Int)=((a^^^b:Nat):Int):=by
 have hx:a^^^b<2^32:=zcm (by omega) (by omega)
 show IntKind.u32.wrap ((BitVec.ofInt 32 (a:Int)^^^BitVec.ofInt 32 (b:Int)).toNat:Int)=_
 rw[BitVec.toNat_xor,bv_nat (by omega),bv_nat (by omega),wrap32N (by omega)]
theorem and32N {a:Nat} (ha:a<4294967296):bitsI .and .u32 (a:Int) 1=((a%2:Nat):Int):=by
 show IntKind.u32.wrap ((BitVec.ofInt 32 (a:Int)&&&BitVec.ofInt 32 ((1:Nat):Int)).toNat:Int)=_
 rw[BitVec.toNat_and,bv_nat (by omega),bv_nat (by omega),Nat.and_one_is_mod,wrap32N (by omega)]
theorem xor64N {a b:Nat} (ha:a<4294967296) (hb:b<4294967296):bitsI .xor .i64 (a:Int) (b:Int)=((a^^^b:Nat):Int):=by
 have hx:a^^^b<2^32:=zcm (by omega) (by omega)
 show IntKind.i64.wrap ((BitVec.ofInt 64 (a:Int)^^^BitVec.ofInt 64 (b:Int)).toNat:Int)=_
 rw[BitVec.toNat_xor,bv_nat (by omega),bv_nat (by omega),wrap64 (by omega) (by omega)]
def repB :Nat->Nat->Nat
 |0,c=>c
 |k+1,c=>repB k (crcBit c)
theorem crcByte_rep (c:Nat) (b:UInt8):crcByte c b=repB 8 (c^^^b.toNat):=rfl
theorem crcBit_lt {c:Nat} (h:c<4294967296):crcBit c<4294967296:=by
 unfold crcBit
 split
 .exact zcm (n:=32) (by omega) (by omega)
 .omega
theorem repB_lt :∀(k:Nat) {c:Nat},c<4294967296->repB k c<4294967296
 |0,_,h=>h
 |k+1,_,h=>repB_lt k (crcBit_lt h)
theorem byte_lt {c:Nat} (h:c<4294967296) (b:UInt8):c^^^b.toNat<4294967296:=zcm (n:=32) (by omega) (by have:=b.toNat_lt;omega)
theorem crc_i (N:Nat) (hN:16<=N) (s:List UInt8) (hs:s.length<N) (hl:s.length<=1099511627776):i_Crc_m N s=some (crcT s:Int):=by
 unfold i_Crc_m
 refine Def.get ?_
 refine Def.iter (fun g=>∃(n c:Nat),g=(s,(c:Int),(s.length:Int),(n:Int))/\n<=s.length/\c<4294967296/\(s.drop n).foldl crcByte c=s.foldl crcByte 4294967295) (fun g=>s.length-g.2.2.2.toNat) (fun go g hI ih=>?_) N _ ⟨0,4294967295,rfl,zaf _,by omega,rfl⟩ (by dsimp only;omega)
 obtain⟨n,c,rfl,h1,h2,h3⟩:=hI
 dsimp only
 by_cases hn:n<s.length
 .rw [zb (by omega:(n:Int)<s.length),zg,idx_at hn,za]
  have hd:s.drop n=s[n]::s.drop (n+1):=zan hn
  rw[hd,zaq,crcByte_rep]at h3
  have hb:=s[n].toNat_lt
  have hx:=byte_lt h2 s[n]
  rw[wrap32N (by omega),xor32N h2 (by omega)]
  refine Def.iter (fun g=>∃(k c':Nat),g=(s,(c':Int),(s.length:Int),(n:Int),(k:Int))/\k<=8/\c'<4294967296/\repB (8-k) c'=repB 8 (c^^^s[n].toNat)) (fun g=>8-g.2.2.2.2.toNat) (fun go2 g hI ih2=>?_) N _ ⟨0,_,rfl,by omega,hx,rfl⟩ (by dsimp only;omega)
  obtain⟨k,c',rfl,k1,k2,k3⟩:=hI
  dsimp only
  by_cases hk:k<8
  .have e8:8-k=(8-(k+1))+1:=by omega
   rw[e8]at k3
   have k3:repB (8-(k+1)) (crcBit c')=repB 8 (c^^^s[n].toNat):=k3
   have hf:((c':Nat):Int).fdiv (2^(min (1:Int).toNat (IntKind.bits .u32)))=((c'/2:Nat):Int):=by
    rw[show((2:Int)^(min (1:Int).toNat (IntKind.bits .u32)))=2 by rfl,Int.fdiv_eq_ediv_of_nonneg _ (by decide:(0:Int)<=2)]
    omega
   rw[zb (by omega:(k:Int)<8),zg,and32N k2,hf]
   by_cases hm:c'%2=1
   .rw [zb (by omega:((c'%2:Nat):Int)=1),zg]
    refine Def.ite (by decide) (Def.ite (fits_nat (by omega)) (ih2 _ ⟨k+1,crcBit c',?_,by omega,crcBit_lt k2,k3⟩ (by dsimp only;omega)))
    have e:crcBit c'=(c'/2)^^^3988292384:=by unfold crcBit;rw[zf hm]
    have hq:bitsI .xor .u32 ((c'/2:Nat):Int) 3988292384=(((c'/2)^^^3988292384:Nat):Int):=xor32N (a:=c'/2) (b:=3988292384) (by omega) (by omega)
    rw[hq,e,cast_succ']
   .rw [zd (by omega:¬((c'%2:Nat):Int)=1),ze]
    refine Def.ite (by decide) (Def.ite (fits_nat (by omega)) (ih2 _ ⟨k+1,crcBit c',?_,by omega,crcBit_lt k2,k3⟩ (by dsimp only;omega)))
    have e:crcBit c'=c'/2:=by unfold crcBit;rw[zu hm]
    rw[e,cast_succ']
  .rw [zd (by omega:¬(k:Int)<8),ze]
   have e8:8-k=0:=by omega
   rw[e8]at k3
   have k3:c'=repB 8 (c^^^s[n].toNat):=k3
   refine Def.ite (fits_nat (by omega)) (ih _ ⟨n+1,c',by rw[cast_succ'],hn,k2,?_⟩ (by dsimp only;omega))
   rw[k3]
   exact h3
 .rw [zd (by omega:¬(n:Int)<s.length),ze]
  rw[zbw (by omega)]at h3
  have h3:c=s.foldl crcByte 4294967295:=h3
  refine Def.ret ?_
  have hq:bitsI .xor .u32 4294967295 (c:Int)=((4294967295^^^c:Nat):Int):=xor32N (a:=4294967295) (b:=c) (by omega) h2
  have hx:4294967295^^^c<2^32:=zcm (by omega) (by omega)
  rw[hq,wrap64 (by omega) (by omega)]
  unfold crcT
  rw[<-h3,Nat.xor_comm]
theorem crc_s (N:Nat) (hN:16<=N) (s:List UInt8) (hs:s.length<N) (hl:s.length<=1099511627776):s_l19Crc_m N s=some (crcT s:Int):=by
 unfold s_l19Crc_m
 refine Def.get ?_
 refine Def.iter (fun g=>∃(n c:Nat),g=(s,(c:Int),(n:Int))/\n<=s.length/\c<4294967296/\(s.drop n).foldl crcByte c=s.foldl crcByte 4294967295) (fun g=>s.length-g.2.2.toNat) (fun go g hI ih=>?_) N _ ⟨0,4294967295,rfl,zaf _,by omega,rfl⟩ (by dsimp only;omega)
 obtain⟨n,c,rfl,h1,h2,h3⟩:=hI
 dsimp only
 by_cases hn:n<s.length
 .rw [zb (by omega:(n:Int)<s.length),zg,idx_at hn,za]
  have hd:s.drop n=s[n]::s.drop (n+1):=zan hn
  rw[hd,zaq,crcByte_rep]at h3
  have hb:=s[n].toNat_lt
  have hx:=byte_lt h2 s[n]
  rw[wrap64 (by omega) (by omega),xor64N h2 (by omega)]
  refine Def.iter (fun g=>∃(k c':Nat),g=(s,(c':Int),(n:Int),(k:Int))/\k<=8/\c'<4294967296/\repB (8-k) c'=repB 8 (c^^^s[n].toNat)) (fun g=>8-g.2.2.2.toNat) (fun go2 g hI ih2=>?_) N _ ⟨0,_,rfl,by omega,hx,rfl⟩ (by dsimp only;omega)
  obtain⟨k,c',rfl,k1,k2,k3⟩:=hI
  dsimp only
  by_cases hk:k<8
  .have e8:8-k=(8-(k+1))+1:=by omega
   rw[e8]at k3
   have k3:repB (8-(k+1)) (crcBit c')=repB 8 (c^^^s[n].toNat):=k3
   have hf:((c':Nat):Int).tdiv 2=((c'/2:Nat):Int):=rfl
   have hg:((c':Nat):Int).tmod 2=((c'%2:Nat):Int):=rfl
   rw[zb (by omega:(k:Int)<8),zg,hf,hg,zf (by decide:(2:Nat)≠0)]
   by_cases hm:c'%2=1
   .rw [zb (by omega:((c'%2:Nat):Int)=1),zg]
    refine Def.ite (by decide) (Def.ite (by unfold fits;omega) (Def.ite (fits_nat (by omega)) (ih2 _ ⟨k+1,crcBit c',?_,by omega,crcBit_lt k2,k3⟩ (by dsimp only;omega))))
    have e:crcBit c'=(c'/2)^^^3988292384:=by unfold crcBit;rw[zf hm]
    have hq:bitsI .xor .i64 ((c'/2:Nat):Int) 3988292384=(((c'/2)^^^3988292384:Nat):Int):=xor64N (a:=c'/2) (b:=3988292384) (by omega) (by omega)
    rw[hq,e,cast_succ']
   .rw [zd (by omega:¬((c'%2:Nat):Int)=1),ze]
    refine Def.ite (by decide) (Def.ite (by unfold fits;omega) (Def.ite (fits_nat (by omega)) (ih2 _ ⟨k+1,crcBit c',?_,by omega,crcBit_lt k2,k3⟩ (by dsimp only;omega))))
    have e:crcBit c'=c'/2:=by unfold crcBit;rw[zu hm]
    rw[e,cast_succ']
  .rw [zd (by omega:¬(k:Int)<8),ze]
   have e8:8-k=0:=by omega
   rw[e8]at k3
   have k3:c'=repB 8 (c^^^s[n].toNat):=k3
   refine Def.ite (fits_nat (by omega)) (ih _ ⟨n+1,c',by rw[cast_succ'],hn,k2,?_⟩ (by dsimp only;omega))
   rw[k3]
   exact h3
 .rw [zd (by omega:¬(n:Int)<s.length),ze]
  rw[zbw (by omega)]at h3
  have h3:c=s.foldl crcByte 4294967295:=h3
  refine Def.ret ?_
  have hq:bitsI .xor .i64 (c:Int) 4294967295=((c^^^4294967295:Nat):Int):=xor64N (a:=c) (b:=4294967295) h2 (by omega)
  rw[hq]
  unfold crcT
  rw[<-h3]
theorem crcT_lt (s:List UInt8):crcT s<4294967296:=by
 have h:∀(l:List UInt8) (c:Nat),c<4294967296->l.foldl crcByte c<4294967296:=fun l=>by
  induction l with
  |nil=>exact fun c h=>h
  |cons b l ih=>exact fun c h=>ih _ (repB_lt 8 (byte_lt h b))
 exact zcm (n:=32) (h s _ (by omega)) (by omega)
def outF :Option (List UInt8)->List UInt8×Bool
 |some t=>(t,true)
 |none=>([],false)
theorem file_i (N:Nat) (d:List EFile) (nm:List UInt8) (h:d.length<N) (hN:N<=16777216):i_Disk_file_m N d nm=some (outF (fileD d nm)):=by
 unfold i_Disk_file_m
 refine(iter_scan _ d.length (fun n=>(nm,d,(d.length:Int),(n:Int))) (fun n=>some (outF (fileD (d.drop n) nm))) (fun go=>?_) (fun go n hn hgo=>?_) N 0 (zaf _) (by omega)).trans rfl
 .dsimp only
  rw[zd (zcd _),ze,zbp]
  rfl
 .dsimp only
  rw[zb (by omega:(n:Int)<d.length),zg,idx_at hn,za,zan hn,fileD_cons]
  by_cases e:d[n].1=nm
  .rw [zb e,zg,zf e]
   rfl
  .rw [zd e,ze,zu e,zf (fits_nat (n:=n) (by omega)),<-hgo,cast_succ']
theorem file_s (N:Nat) (d:List EFile) (nm:List UInt8) (h:d.length<N) (hN:N<=16777216):s_l19File_m N d nm=some (outF (fileD d nm)):=by
 unfold s_l19File_m
 refine(iter_scan _ d.length (fun n=>(nm,(n:Int),d)) (fun n=>some (outF (fileD (d.drop n) nm))) (fun go=>?_) (fun go n hn hgo=>?_) N 0 (zaf _) (by omega)).trans rfl
 .dsimp only
  rw[zd (zcd _),ze,zbp]
  rfl
 .dsimp only
  rw[zb (by omega:(n:Int)<d.length),zg,idx_at hn,za,zan hn,fileD_cons]
  by_cases e:d[n].1=nm
  .rw [zb e,zg,zf e,za]
   rfl
  .rw [zd e,ze,zu e,zf (fits_nat (n:=n) (by omega)),<-hgo,cast_succ']
theorem gen_i (N:Nat) (n:Int) (h0:0<=n) (h1:n<=1000):i_genName_m N n=some (genN n):=by
 have h2:=itoa_len20 (n:=1000+n) (by omega) (by omega)
 have h3:=itoa_spec N (1000+n) (by omega) (by omega)
 unfold itoaL at h3
 unfold i_genName_m
 rw[zf (by unfold fits;omega),h3,za,zf (by simp only[zi,zac];omega)]
 rfl
theorem gen_s (N:Nat) (hN:1048576<N) (hN2:N<=16777216) (n:Int) (h0:0<=n) (h1:n<=1000):s_l19Gen_m N n=some (genN n):=by
 have h2:=itoa_len20 (n:=1000+n) (by omega) (by omega)
 have h3:=dec_spec N N (by omega) (by omega) (1000+n) (by omega) (by omega)
 unfold itoaL at h3
 unfold s_l19Gen_m
 rw[zf (by unfold fits;omega),h3,za,zf (by simp only[zi,zac];omega)]
 rfl
structure FitD (d:List EFile):Prop where
 len:d.length<=1048576
 each:∀f,f∈d->f.1.length<=1048576/\f.2.length<=1048576
theorem diskOk_i (N:Nat) (hM:1048576<N) (hN:N<=16777216) (d:List EFile) (h:FitD d):i_DiskOk_m N d=some (okDisk d):=by
 have hl:=h.len
 unfold i_DiskOk_m
 refine check_loop _ d.length (fun n=>(d,(d.length:Int),(n:Int),d)) (okFl d) _ (fun go=>?_) (fun go n hn=>?_) N (by omega)
 .dsimp only
  rw[zd (zcd _),ze]
 .have hw:=(h.each _ (zr hn)).1
  dsimp only
  rw[zb (by omega:(n:Int)<d.length),zg,idx_at hn,za,wordOk_spec N _ (by omega) (by omega),za,zf (fits_nat (n:=n) (by omega)),cast_succ']
  unfold okFl
  rw[<-flAt_eq hn]
  cases okW d[n].1 with
  |false=>rfl
  |true=>
   rw[zn,ze,zaj]
   cases n with
   |zero=>rfl
   |succ n=>
    rw[zb (by omega:(0:Int)<((n+1:Nat):Int)),zg,zf (by unfold fits;omega),show(((n+1:Nat):Int)-1)=(n:Int)from by omega,idx_at (by omega),za,flAt_eq (n:=n) (by omega),zd (by omega:¬n+1=0),zbf,zbq]
    cases Op.bytesLess (flAt d n).1 d[n+1].1<;>rfl
theorem diskOk_s (N:Nat) (hM:1048576<N) (hN:N<=16777216) (d:List EFile) (h:FitD d):s_l19DiskOk_m N d=some (okDisk d):=by
 have hl:=h.len
 unfold s_l19DiskOk_m
 refine check_loop _ d.length (fun n=>((n:Int),d)) (okFl d) _ (fun go=>?_) (fun go n hn=>?_) N (by omega)
 .dsimp only
  rw[zd (zcd _),ze]
 .have hw:=(h.each _ (zr hn)).1
  dsimp only
  rw[zb (by omega:(n:Int)<d.length),zg,idx_at hn,za,l1WordOk_spec N _ (by omega) (by omega),za,zf (fits_nat (n:=n) (by omega)),cast_succ',za]
  unfold okFl
  rw[<-flAt_eq hn]
  cases okW d[n].1 with
  |false=>rfl
  |true=>
   rw[zn,ze,zaj]
   cases n with
   |zero=>rfl
   |succ n=>
    rw[zb (by omega:(0:Int)<((n+1:Nat):Int)),zg,zf (by unfold fits;omega),show(((n+1:Nat):Int)-1)=(n:Int)from by omega,idx_at (by omega),za,flAt_eq (n:=n) (by omega),zd (by omega:¬n+1=0),zbf,zbq,bytesLess_or]
    cases Op.bytesLess (flAt d n).1 d[n+1].1<;>rfl
theorem fitMany {N:Nat} (hM:Sm<N) (hN:N<=16777216) {c:EConf} (oc:okD Sm TConf c) {xs:List ELive} (hl:xs.length<=1048576) (h:∀l,l∈xs->okIdx (c,[l])=true):FitI N (c,xs):=
 ⟨hM,hN,oc,hl,fun l hm=>by
  have o:=oneL (h l hm)
  have h1:=o.few
  have h2:=o.dead
  exact⟨fun d hd=>okD_ok (okDoc_each o.docs d hd),by omega,by omega⟩⟩
end Go.Proofs.YtcinmmojlcchfaaGreatDoor
