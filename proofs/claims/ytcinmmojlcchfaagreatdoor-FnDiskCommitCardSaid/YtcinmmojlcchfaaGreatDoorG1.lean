import Derived.Test.YtcinmmojlcchfaaGreatDoorG1A
set_option linter.unusedVariables false
set_option linter.unusedSimpArgs false
namespace Go.Proofs.YtcinmmojlcchfaaGreatDoor
open Go.RowKit Go.Proofs.Tryz
variable (N : Nat)
open Option renaming bind -> oB
def jI7 :Sh:=⟨.mtk 800000 Y4 95 false:: .dead::pI::pI:: .clo 155 []::dz 5 (pI::dz 71 []),[]⟩
def jJE :Sh:=⟨.mtk 800000 Y4 95 false:: .dead::pI::pI:: .clo 155 []::dz 5 (pI::pI::dz 70 []),[]⟩
def jJr (b:List Z0) (a:Int) (c:Int) (e:Int) (d:Unit):Z14:=siftG (cmp669 N) N b a c e d
 
theorem jIA :mK 319 (bX [.mtk 800000 Y4 95 false,pI,pI,pI,.clo 155 []] [.tup [],.mtk 800000 Y4 95 false] (c5A (jJr N))):=
 mO (fC (jHC N) ja) func319 rfl N (.seq .no (.block (.loop jI7 (.block (.seq .no (.seq .no (.meet jJE .no .no))))))) _ (rs:=[800000])
def jH9 :Sh:=⟨.mtk 800000 Y4 95 false:: .dead:: .dead:: .clo 155 []::dz 4 (pI::pI::pI::pI::dz 48 []),[]⟩
def jIK :Sh:=⟨.mtk 800000 Y4 95 false:: .dead:: .dead:: .clo 155 []::dz 4 (pI::pI:: .dead:: .dead::pI::dz 47 []),[]⟩
def jIj (c:List Z0) (a:Int) (b:Int) (d:Unit):Z14:=heapG (cmp669 N) N c a b d
 
theorem jJa :mK 273 (bX [.mtk 800000 Y4 95 false,pI,pI,.clo 155 []] [.tup [],.mtk 800000 Y4 95 false] (c4A (jIj N))):=
 mO (fC (jIA N) ja) func273 rfl N (.seq .no (.seq .no (.seq .no (.seq (.seq .no (.block (.loop jH9 .no))) (.seq .no (.block (.loop jIK .no))))))) _ (rs:=[800000])
def jH6 :Sh:=⟨.mtk 800000 Y4 95 false::pI::dz 6 (pI:: .box 9 0:: .pv (.int .u64)::pI::dz 55 []),[(9,false,[.pv (.int .u64)])]⟩
def jJm :Sh:=⟨.mtk 800000 Y4 95 false::pI::dz 6 (pI:: .box 9 0:: .pv (.int .u64)::pI::pI::dz 54 []),[(9,false,[.pv (.int .u64)])]⟩
def jI4 (c:List Z0) (a:Int) (b:Int) (d:Unit):Z14:=breakG N c a b d
 
theorem jIs :mK 274 (bX [.mtk 800000 Y4 95 false,pI,pI,.clo 155 []] [.tup [],.mtk 800000 Y4 95 false] (c4A (jI4 N))):=
 mO (fC (jhv N) (fC (jet N) ja)) func274 rfl N (.seq .no (.seq .no (.cond (.seq .no (.seq .no (.seq .no (.block (.loop jH6 (.seq .no (.seq (.block (.seq .no (.meet jJm .no .no))) .no))))))) .no))) _ (rs:=[800000])
def jJC (c:List Z0) (a:Int) (b:Int) (e:Unit) (d:Int):Option (Int×Int×(List Z0)×Int):=order2G (cmp669 N) N c a b e d
 
theorem jIo :mK 340 ⟨⟨[.mtk 800000 Y4 95 false,pI,pI,.box 900003 0,.clo 155 []],[(900003,false,[pI])]⟩,⟨[.tup [pI,pI],.mtk 800000 Y4 95 false],[(900003,false,[pI])]⟩,c5A (jJC N)⟩:=
 mO (fC (jHC N) ja) func340 rfl N .no _ (rs:=[900003,800000])
def jII (d:List Z0) (a:Int) (c:Int) (b:Int) (f:Unit) (e:Int):Option (Int×(List Z0)×Int):=medianG (cmp669 N) N d a c b f e
 
theorem jHQ :mK 321 ⟨⟨[.mtk 800000 Y4 95 false,pI,pI,pI,.box 900004 0,.clo 155 []],[(900004,false,[pI])]⟩,⟨[pI,.mtk 800000 Y4 95 false],[(900004,false,[pI])]⟩,c6A (jII N)⟩:=
 mO (fC (jIo N) ja) func321 rfl N .no _ (rs:=[900004,800000])
def jIn (c:List Z0) (a:Int) (d:Unit) (b:Int):Option (Int×(List Z0)×Int):=medianAdjacentG (cmp669 N) N c a d b
 
theorem jI9 :mK 320 ⟨⟨[.mtk 800000 Y4 95 false,pI,.box 900002 0,.clo 155 []],[(900002,false,[pI])]⟩,⟨[pI,.mtk 800000 Y4 95 false],[(900002,false,[pI])]⟩,c4A (jIn N)⟩:=
 mO (fC (jHQ N) ja) func320 rfl N .no _ (rs:=[900002,800000])
def jJw :Sh:=⟨.mtk 800000 Y4 95 false:: .dead:: .dead:: .clo 155 []::dz 7 (.box 11 0::pI::pI::pI::dz 48 []),[(11,false,[pI])]⟩
def jI6 :Sh:=⟨.mtk 800000 Y4 95 false::dz 10 (.box 11 0:: .dead::pI::dz 49 []),[(11,false,[pI])]⟩
def jIq (c:List Z0) (a:Int) (b:Int) (d:Unit):Option (Int×Int×(List Z0)):=choosePivotG (cmp669 N) N c a b d
 
theorem jJz :mK 275 (bX [.mtk 800000 Y4 95 false,pI,pI,.clo 155 []] [.tup [pI,pI],.mtk 800000 Y4 95 false] (c4A (jIq N))):=
 mO (fC (jI9 N) (fC (jHQ N) ja)) func275 rfl N (.seq .no (.seq .no (.seq .no (.seq .no (.seq .no (.seq .no (.meet jI6 (.seq .no (.cond (.meet jJw .no .no) .no)) .no))))))) _ (rs:=[800000])
def jJB :Sh:=⟨.mtk 800000 Y4 95 false::dz 7 (pI::pI::dz 24 []),[]⟩
def jJs (c:List Z0) (a:Int) (b:Int) (d:Unit):Z14:=reverseRangeG N c a b d
 
theorem jIk :mK 276 (bX [.mtk 800000 Y4 95 false,pI,pI,.clo 155 []] [.tup [],.mtk 800000 Y4 95 false] (c4A (jJs N))):=
 mO ja func276 rfl N (.seq .no (.seq .no (.block (.loop jJB .no)))) _ (rs:=[800000])
def jHL :Sh:=⟨.mtk 800000 Y4 95 false::pI::pI:: .clo 155 []::dz 5 (pI::pI::dz 130 []),[]⟩
def jJh :Sh:=⟨.mtk 800000 Y4 95 false::pI::pI:: .clo 155 []::dz 5 (pI::pI::pI::dz 129 []),[]⟩
def jIF :Sh:=⟨.mtk 800000 Y4 95 false::pI::pI:: .clo 155 []::dz 5 (pI::pI:: .dead::pI::dz 128 []),[]⟩
def jIx (c:List Z0) (a:Int) (b:Int) (d:Unit):Option (Bool×(List Z0)):=pisG (cmp669 N) N c a b d
 
theorem jI1 :mK 277 (bX [.mtk 800000 Y4 95 false,pI,pI,.clo 155 []] [pB,.mtk 800000 Y4 95 false] (c4A (jIx N))):=
 mO (fC (jHC N) ja) func277 rfl N (.seq .no (.seq .no (.seq (.seq .no (.block (.loop jHL (.seq .no (.seq (.block (.seq (.block (.loop jHL .no)) (.seq .no (.seq .no (.seq .no (.meet jHL (.seq .no (.cond (.seq .no (.block (.loop jJh .no))) .no)) (.seq .no (.cond (.seq .no (.block (.loop jIF .no))) .no)))))))) .no))))) .no))) _ (rs:=[800000])
def jHK :Sh:=⟨.mtk 800000 Y4 95 false::pI:: .dead:: .dead:: .clo 155 []::dz 6 (pI::pI::dz 77 []),[]⟩
def jIh (c:List Z0) (e:Int) (b:Int) (a:Int) (d:Unit):Option (Int×(List Z0)):=peqG (cmp669 N) N c e b a d
 
theorem jH7 :mK 278 (bX [.mtk 800000 Y4 95 false,pI,pI,pI,.clo 155 []] [pI,.mtk 800000 Y4 95 false] (c5A (jIh N))):=
 mO (fC (jHC N) ja) func278 rfl N (.seq .no (.seq .no (.seq .no (.seq (.block (.loop jHK (.block (.seq (.block (.loop jHK .no)) (.seq (.block (.loop jHK .no)) .no))))) .no)))) _ (rs:=[800000])
def jHD :Sh:=⟨.mtk 800000 Y4 95 false::pI:: .dead:: .dead:: .clo 155 []::dz 7 (pI::pI::dz 164 []),[]⟩
def jIZ (c:List Z0) (e:Int) (b:Int) (a:Int) (d:Unit):Option (Int×Bool×(List Z0)):=partG (cmp669 N) N c e b a d
 
theorem jJc :mK 279 (bX [.mtk 800000 Y4 95 false,pI,pI,pI,.clo 155 []] [.tup [pI,pB],.mtk 800000 Y4 95 false] (c5A (jIZ N))):=
 mO (fC (jHC N) ja) func279 rfl N (.seq .no (.seq .no (.seq .no (.seq (.block (.loop jHD .no)) (.seq (.block (.loop jHD .no)) (.seq .no (.seq .no (.seq .no (.seq .no (.seq (.block (.loop jHD (.block (.seq (.block (.loop jHD .no)) (.seq (.block (.loop jHD .no)) .no))))) .no)))))))))) _ (rs:=[800000])
def jIv :Sh:=⟨.mtk 800000 Y4 95 false::pI::pI::pI:: .clo 155 []::dz 5 (pB::pB::dz 136 []),[]⟩
def jIt :Sh:=⟨.mtk 800000 Y4 95 false::pI::pI::pI:: .clo 155 []::dz 5 (pB::pB::pI::pI::dz 134 []),[]⟩
def jIU :Sh:=⟨.mtk 800000 Y4 95 false::pI::pI::pI:: .clo 155 []::dz 5 (pB::pB::pI::pI::pI::dz 133 []),[]⟩
def jID :Sh:=⟨.mtk 800000 Y4 95 false::pI::pI::pI:: .clo 155 []::dz 5 (pB::pB::pI::dz 135 []),[]⟩
def jHN (N D:Nat) (h:List Z0) (b a limit:Int) (e:Unit):Z14:=pdqG (cmp669 N) (fun c b a d=>heapG (cmp669 N) N c b a d) (fun c b a f d=>peqG (cmp669 N) N c b a f d) N D h b a limit e
 
def jHF (N D:Nat):Model:=⟨⟨[.mtk 800000 Y4 95 false,pI,pI,pI,.clo 155 []],[]⟩,⟨[.tup [],.mtk 800000 Y4 95 false],[]⟩,c5A (jHN N D)⟩
theorem jJo (N D:Nat) (ih:mK 221 (jHF N D)):mK 221 (jHF N (D+1)):=
 mO (fC ih (fC (jIC N) (fC (jJa N) (fC (jIs N) (fC (jJz N) (fC (jIk N) (fC (jI1 N) (fC (jHC N) (fC (jH7 N) (fC (jJc N) ja)))))))))) func221 rfl N (.seq .no (.seq .no (.block (.loop jIv (.block (.seq .no (.seq .no (.seq .no (.meet jID .no (.seq .no (.meet jIU .no (.meet jIt .no .no)))))))))))) (jHF N (D+1)) (rs:=[800000])
theorem jHV (N:Nat):∀D,mK 221 (jHF N D)
 |0=>modelOk_none ⟨_,func221,by decide,by kernel_rfl⟩ _ (fun a=>rfl)
 |D+1=>jJo N D (jHV N D)
def k_slices_SortFunc_669_m (a:List Z0) (d:Unit):Z14:=
 (oB (k_math_bits_Len_m N (IntKind.u64.wrap (a.length:Int))) fun c=>oB (jHN N N a 0 (a.length:Int) c ()) fun b=>some b)
theorem jIu :mK 154 (bX [.mtk 800000 Y4 95 false,.clo 155 []] [.tup [],.mtk 800000 Y4 95 false] (c2A (k_slices_SortFunc_669_m N))):=
 mO (fC (jda N) (fC (jHV N N) ja)) func154 rfl N .no _ (rs:=[800000])
def jH5 :Sh:=⟨dz 3 (.mtk 600003 Y4 95 false::dz 3 (.pv Y0::pI::pI::dz 11 [])),[]⟩
def i_allAlive_m (d:List Z2):Z14:=
 (iter (fun j (b,f,e,a)=>bif decide (a<e)then oB (idx f a) fun c=>(oB (i_Live_alive_m N c.1.1 c.1.2 c.2) fun h=>if room b.length h.length 56 then if fits (a+1)then j ((b++h),f,e,(a+1))else none else none)else oB (k_slices_SortFunc_669_m N b ()) fun i=>some i) N (([]:List Z0),d,(d.length:Int),(0:Int)))
theorem jHR :mK 74 (bX [.pv Y0] [.own 1 Y4 95 false] (c1A (i_allAlive_m N))):=
 mO (fC (jH4 N) (fC (jIu N) ja)) func74 rfl N (.seq .no (.seq .no (.seq (.seq .no (.block (.loop jH5 .no))) .no))) _ (wr:=[6,16])
def jIf :Sh:=⟨.dead:: .box 1 0::dz 14 (.pv Y0::pI::pI::dz 13 []),[(1,false,[.pv (.sl .str),.pv Y14,.pv Y0])]⟩
noncomputable def i_IndexOk_m (i:List Z1) (d:List Z4) (a:List Z2):Z10:=
 (oB (jaj N i d) fun q=>bif !q then some false else bif decide ((5:Int)<a.length)then some false else iter (fun o (k,h,b,j,e,f)=>bif decide (b<h)then oB (idx k b) fun c=>(oB (i_liveOk_m N j e c.1.1 c.1.2 c.2) fun l=>bif !l then some false else if fits (b+1)then o (k,h,(b+1),j,e,f)else none)else oB (i_allAlive_m N f) fun m=>oB (jbf N m) fun n=>some n) N (a,(a.length:Int),(0:Int),i,d,a))
theorem jIr :mK 24 (bX [.agg [.pv (.sl .str),.pv Y14,.pv Y0]] [pB] (c3A (i_IndexOk_m N))):=
 mO (fC (jdX N) (fC (jJD N) (fC (jHR N) (fC (jjU N) ja)))) func24 rfl N (.seq .no (.seq .no (.seq (.seq .no (.block (.loop jIf .no))) .no))) _
def k_strconv_Itoa_m (N:Nat) (a:Int):Option (Z1):=itoaM a
 
def jOU (N:Nat):Model:=⟨⟨[pI],[]⟩,⟨[pS],[]⟩,c1A (k_strconv_Itoa_m N)⟩
theorem jO0 :mK 86 (jOU N):=jPp
def jXY :Sh:=⟨.dead:: .box 1 0:: .dead::pS::dz 13 (.pv Y17::pI::pI::dz 34 []),[(1,false,[pI,.pv Y17,.pv Y13])]⟩
def jX3 :Sh:=⟨dz 3 (pS::dz 31 (.pv Y13::pI::pI::dz 16 [])),[]⟩
def i_DocPut_m (j:Int) (e:Z5) (q:Z8):Option (Z1):=
 (oB (i_DocOk_m N j e q) fun u=>bif !u then some ([]:List UInt8)else oB (k_strconv_Itoa_m N j) fun h=>if([100,111,99,32]:List UInt8).length+h.length<=9223372036854775807 then if(([100,111,99,32]:List UInt8)++h).length+([10]:List UInt8).length<=9223372036854775807 then iter (fun t (k,r,o,c,w,x,l)=>bif decide (c<o)then oB (idx r c) fun a=>(if([102,105,101,108,100,32]:List UInt8).length+a.1.length<=9223372036854775807 then if(([102,105,101,108,100,32]:List UInt8)++a.1).length+([32]:List UInt8).length<=9223372036854775807 then if((([102,105,101,108,100,32]:List UInt8)++a.1)++([32]:List UInt8)).length+a.2.length<=9223372036854775807 then if(((([102,105,101,108,100,32]:List UInt8)++a.1)++([32]:List UInt8))++a.2).length+([10]:List UInt8).length<=9223372036854775807 then if k.length+((((([102,105,101,108,100,32]:List UInt8)++a.1)++([32]:List UInt8))++a.2)++([10]:List UInt8)).length<=9223372036854775807 then if fits (c+1)then t ((k++((((([102,105,101,108,100,32]:List UInt8)++a.1)++([32]:List UInt8))++a.2)++([10]:List UInt8))),r,o,(c+1),w,x,l)else none else none else none else none else none else none)else iter (fun v (i,p,n,f)=>bif decide (f<n)then oB (idx p f) fun b=>(if([110,117,109,32]:List UInt8).length+b.1.length<=9223372036854775807 then if(([110,117,109,32]:List UInt8)++b.1).length+([32]:List UInt8).length<=9223372036854775807 then oB (k_strconv_Itoa_m N b.2) fun d=>(if((([110,117,109,32]:List UInt8)++b.1)++([32]:List UInt8)).length+d.length<=9223372036854775807 then if(((([110,117,109,32]:List UInt8)++b.1)++([32]:List UInt8))++d).length+([10]:List UInt8).length<=9223372036854775807 then if i.length+((((([110,117,109,32]:List UInt8)++b.1)++([32]:List UInt8))++d)++([10]:List UInt8)).length<=9223372036854775807 then if fits (f+1)then v ((i++((((([110,117,109,32]:List UInt8)++b.1)++([32]:List UInt8))++d)++([10]:List UInt8))),p,n,(f+1))else none else none else none else none)else none else none)else some i) N (k,l,(l.length:Int),(0:Int))) N (((([100,111,99,32]:List UInt8)++h)++([10]:List UInt8)),e,(e.length:Int),(0:Int),j,e,q)else none else none)
theorem jYs :mK 127 (bX [.agg [pI,.pv Y17,.pv Y13]] [pS] (c3A (i_DocPut_m N))):=
 mO (fC (jh0 N) (fC (jO0 N) ja)) func127 rfl N (.seq .no (.seq .no (.seq .no (.seq (.seq .no (.block (.loop jXY .no))) (.seq (.seq .no (.block (.loop jX3 .no))) .no))))) _
def jYE :Sh:=⟨dz 3 (.box 3 0:: .dead::pS::dz 12 (.pv Y3::pI::pI::dz 23 [])),[(3,false,[.pv Y3,.pv Y5,.pv Y19])]⟩
def jX8 :Sh:=⟨dz 5 (pS::dz 24 (.pv Y19::pI::pI::dz 11 [])),[]⟩
noncomputable def i_LivePut_m (v:List Z1) (x:List Z4) (a:List Z0) (m:List Z3) (p:List Int):Option (Z1):=
 (oB (i_IndexOk_m N v x ([((a,m),p)]:List Z2)) fun t=>bif !t then some ([]:List UInt8)else iter (fun r (h,n,k,d,y,w,j)=>bif decide (d<k)then oB (idx n d) fun f=>(oB (i_DocPut_m N f.1 f.2.1 f.2.2) fun l=>if h.length+l.length<=9223372036854775807 then if fits (d+1)then r ((h++l),n,k,(d+1),y,w,j)else none else none)else iter (fun z (e,o,q,c)=>bif decide (c<q)then oB (idx o c) fun u=>(oB (k_strconv_Itoa_m N u) fun b=>if([100,101,97,100,32]:List UInt8).length+b.length<=9223372036854775807 then if(([100,101,97,100,32]:List UInt8)++b).length+([10]:List UInt8).length<=9223372036854775807 then if e.length+((([100,101,97,100,32]:List UInt8)++b)++([10]:List UInt8)).length<=9223372036854775807 then if fits (c+1)then z ((e++((([100,101,97,100,32]:List UInt8)++b)++([10]:List UInt8))),o,q,(c+1))else none else none else none else none)else some e) N (h,j,(j.length:Int),(0:Int))) N (([]:List UInt8),a,(a.length:Int),(0:Int),a,m,p))
theorem jXI :mK 52 (bX [.agg [.pv (.sl .str),.pv Y14],.agg [.pv Y3,.pv Y5,.pv Y19]] [pS] (c5A (i_LivePut_m N))):=
 mO (fC (jIr N) (fC (jYs N) (fC (jO0 N) ja))) func52 rfl N (.seq .no (.seq .no (.seq .no (.seq (.seq .no (.block (.loop jYE .no))) (.seq (.seq .no (.block (.loop jX8 .no))) .no))))) _
def jX4 :Sh:=⟨.dead::pS:: .box 2 0:: .dead:: .box 4 0:: .dead:: .own 600006 Y4 95 true:: .own 600007 tI 3 true:: .pv (.sl .str)::pI::dz 92 [],[(2,false,[.pv (.sl .str),.pv Y14]),(4,false,[.nils,.nils,.nils])]⟩
def jYB :Sh:=⟨.dead::pS:: .box 2 0:: .dead:: .box 4 0:: .dead:: .own 600006 Y4 95 true:: .own 600007 tI 3 true:: .pv (.sl .str)::pI::dz 4 (pI::dz 87 []),[(2,false,[.pv (.sl .str),.pv Y14]),(4,false,[.nils,.nils,.nils])]⟩
noncomputable def jY4 (v:List Z1) (A:List Z4) (x:List UInt8):Option ((List Z0)×(List Z3)×(List Int)×Bool):=
 (oB (jaj N v A) fun R=>bif !R then some (([]:List Z0),([]:List Z3),([]:List Int),false)else oB (k_strings_Split_m N x ([10]:List UInt8)) fun D=>iter (fun i (m,t,l,p,d,o,n)=>bif decide (d<(p.length:Int))then oB (idx p d) fun T=>(oB (k_strings_CutPrefix_m N T ([100,101,97,100,32]:List UInt8)) fun u=>bif u.2 then oB (jXn N u.1) fun B=>(if room l.length ([B]:List Int).length 8 then if fits (d+1)then i (m,t,(l++([B]:List Int)),p,(d+1),o,n)else none else none)else if fits (d+1)then iter (fun I (f,c,e,a,j,b,k,h)=>bif decide (b<(a.length:Int))then oB (idx a b) fun G=>(oB (k_strings_HasPrefix_m N G ([100,111,99,32]:List UInt8)) fun L=>bif !L then oB (idx a b) fun E=>(oB (k_strings_HasPrefix_m N E ([100,101,97,100,32]:List UInt8)) fun O=>bif !O then if fits (b+1)then I (f,c,e,a,j,(b+1),k,h)else none else oB (idx a j) fun Q=>bif !decide (Q=([]:List UInt8))then oB (cut a j b) fun S=>(oB (jXo N S) fun z=>if room c.length ([z]:List Z0).length 56 then i (f,(c++([z]:List Z0)),e,a,b,k,h)else none)else i (f,c,e,a,b,k,h))else oB (idx a j) fun K=>bif !decide (K=([]:List UInt8))then oB (cut a j b) fun U=>(oB (jXo N U) fun y=>if room c.length ([y]:List Z0).length 56 then i (f,(c++([y]:List Z0)),e,a,b,k,h)else none)else i (f,c,e,a,b,k,h))else oB (idx a j) fun P=>bif !decide (P=([]:List UInt8))then oB (cut a j b) fun H=>(oB (jXo N H) fun w=>if room c.length ([w]:List Z0).length 56 then i (f,(c++([w]:List Z0)),e,a,b,k,h)else none)else i (f,c,e,a,b,k,h)) N (m,t,l,p,d,(d+1),o,n)else none)else oB (jbT N o n t) fun q=>bif decide (m=([]:List UInt8))then some (([]:List Z0),([]:List Z3),([]:List Int),false)else oB (i_LivePut_m N o n q.1 q.2 l) fun C=>bif !decide (C=m)then some (([]:List Z0),([]:List Z3),([]:List Int),false)else some (q.1,q.2,l,true)) N (x,([]:List Z0),([]:List Int),D,(0:Int),v,A))
theorem jYm :mK 12 (bX [.agg [.pv (.sl .str),.pv Y14],pS] [.tup [.agg [.own 1 Y4 95 true,.own 2 Y6 167 true,.own 3 tI 3 true],pB]] (c3A (jY4 N))):=
 mO (fC (jdX N) (fC (jYi N) (fC (jYg N) (fC (jXC N) (fC (jXS N) (fC (jYG N) (fC (jqC N) (fC (jXI N) ja)))))))) func12 rfl N (.seq .no (.seq .no (.seq .no (.seq .no (.seq .no (.seq (.seq .no (.block (.loop jX4 (.seq .no (.block (.seq .no (.seq .no (.seq (.block (.loop jYB .no)) .no)))))))) .no)))))) _
def s_l30Open_m (N:Nat) (a:List Int):Option ((List Int)×Int):=
 (bif decide ((2000:Int)<a.length)then oB (cut a 0 2000) fun b=>(some (b,0))else some (a,0))
theorem juQ :mK 64 ⟨⟨[.pv (.sl (.int .u8))],[]⟩,⟨[.box 10 0],[(10,false,[.pv (.sl (.int .u8)),pI])]⟩,c1A (s_l30Open_m N)⟩:=
 mO ja func64 rfl N .no _
def s_l30Rd_pick_m (N:Nat) (e:Int) (b:List Int) (a:Int):Option (Int×(List Int)×Int):=
 (if fits (a+1)then bif decide (e<1)then some (0,b,(a+1))else(bif decide ((b.length:Int)=0)then some (0,b,(a+1))else if fits ((a+1)-1)then bif decide (((a+1)-1)<(b.length:Int))then oB (idx b ((a+1)-1)) fun f=>(if e≠0 then some (((IntKind.i64.wrap f).tmod e),b,(a+1))else none)else(if(b.length:Int)≠0 then oB (idx b (((a+1)-1).tmod (b.length:Int))) fun d=>(if fits ((IntKind.i64.wrap d)*131)then if fits (((a+1)-1)*7)then if fits ((((a+1)-1)*7)+3)then if(b.length:Int)≠0 then oB (idx b (((((a+1)-1)*7)+3).tmod (b.length:Int))) fun c=>(if fits ((IntKind.i64.wrap c)*1117)then if fits (((IntKind.i64.wrap d)*131)+((IntKind.i64.wrap c)*1117))then if fits (((a+1)-1)*29)then if fits ((((IntKind.i64.wrap d)*131)+((IntKind.i64.wrap c)*1117))+(((a+1)-1)*29))then if(b.length:Int)≠0 then if fits (((a+1)-1).tdiv (b.length:Int))then if fits ((((a+1)-1).tdiv (b.length:Int))*53)then if fits (((((IntKind.i64.wrap d)*131)+((IntKind.i64.wrap c)*1117))+(((a+1)-1)*29))+((((a+1)-1).tdiv (b.length:Int))*53))then if 64≠0 then if fits ((((((IntKind.i64.wrap d)*131)+((IntKind.i64.wrap c)*1117))+(((a+1)-1)*29))+((((a+1)-1).tdiv (b.length:Int))*53)).tdiv 64)then if e≠0 then some (((bitsI .xor .i64 (((((IntKind.i64.wrap d)*131)+((IntKind.i64.wrap c)*1117))+(((a+1)-1)*29))+((((a+1)-1).tdiv (b.length:Int))*53)) ((((((IntKind.i64.wrap d)*131)+((IntKind.i64.wrap c)*1117))+(((a+1)-1)*29))+((((a+1)-1).tdiv (b.length:Int))*53)).tdiv 64)).tmod e),b,(a+1))else none else none else none else none else none else none else none else none else none else none else none)else none else none else none else none)else none)else none)else none)
theorem jtX :mK 137 ⟨⟨[.box 900000 0,pI],[(900000,false,[.pv (.sl (.int .u8)),pI])]⟩,⟨[pI],[(900000,false,[.pv (.sl (.int .u8)),pI])]⟩,c3A (s_l30Rd_pick_m N)⟩:=
 mO ja func137 rfl N .no _ (rs:=[900000])
def juL :Sh:=⟨.box 900000 0:: .dead:: .box 2 0:: .box 3 0::dz 30 [],[(2,false,[.nils,.nils]),(3,false,[.own 13 .str 9 true,.nils]),(900000,false,[.pv (.sl (.int .u8)),pI])]⟩
def juw :Sh:=⟨.box 900000 0:: .dead:: .box 2 0:: .box 3 0::dz 30 [],[(2,false,[.nils,.nils]),(3,false,[.own 8 .str 9 true,.nils]),(900000,false,[.pv (.sl (.int .u8)),pI])]⟩
def s_l30Conf_m (l:List Int) (n:Int):Option ((List Z1)×(List Z4)×(List Int)×Int):=
 (meet (fun(e:(List Z1)×(List Int)×Int)=>match e with|(o,i,j)=>meet (fun(e:(List Z1)×(List Int)×Int)=>match e with|(d,m,k)=>oB (s_l30Rd_pick_m N 4 m k) fun a=>bif decide (a.1=0)then some (d,([(([([110,101,119]:List UInt8),([121,111,114,107]:List UInt8)]:List Z1),([110,121]:List UInt8))]:List Z4),a.2.1,a.2.2)else bif decide (a.1=1)then some (d,([(([([98,105,103]:List UInt8)]:List Z1),([108,97,114,103]:List UInt8)),(([([98,105,103]:List UInt8),([114,101,100]:List UInt8),([102,111,120]:List UInt8)]:List Z1),([102,111,120]:List UInt8)),(([([110,101,119]:List UInt8),([121,111,114,107]:List UInt8)]:List Z1),([110,121]:List UInt8))]:List Z4),a.2.1,a.2.2)else some (d,([]:List Z4),a.2.1,a.2.2)) fun f=>oB (s_l30Rd_pick_m N 4 i j) fun b=>bif decide (b.1=0)then f (([([100,111,103]:List UInt8),([116,104,101]:List UInt8)]:List Z1),b.2.1,b.2.2)else f (o,b.2.1,b.2.2)) fun h=>oB (s_l30Rd_pick_m N 3 l n) fun c=>bif decide ((0:Int)<c.1)then h (([([116,104,101]:List UInt8)]:List Z1),c.2.1,c.2.2)else h (([]:List Z1),c.2.1,c.2.2))
theorem jva :mK 261 ⟨⟨[.box 900000 0],[(900000,false,[.pv (.sl (.int .u8)),pI])]⟩,⟨[.agg [.own 1 .str 9 true,.own 2 Y16 142 true]],[(900000,false,[.pv (.sl (.int .u8)),pI])]⟩,c2A (s_l30Conf_m N)⟩:=
 mO (fC (jtX N) ja) func261 rfl N (.seq .no (.seq .no (.meet juw .no (.meet juL .no .no)))) _ (rs:=[900000])
def jMA :Sh:=⟨.dead:: .box 1 0:: .box 2 0:: .box 3 0::pI::dz 33 [],[(1,false,[.pv (.sl .str),.pv Y14]),(2,false,[.nils,.nils]),(3,false,[.own 700300 .str 9 true,.own 700301 Y16 142 true])]⟩
def s_l18CopyConf_m (d:List Z1) (j:List Z4):Option ((List Z1)×(List Z4)):=
 (if room ([]:List Z1).length d.length 16 then iter (fun k (a,i,b,h,c)=>bif decide (a<(b.length:Int))then oB (idx b a) fun e=>(if room ([]:List Z1).length e.1.length 16 then oB (idx b a) fun f=>(if room c.length ([((([]:List Z1)++e.1),f.2)]:List Z4).length 40 then if fits (a+1)then k ((a+1),i,b,h,(c++([((([]:List Z1)++e.1),f.2)]:List Z4)))else none else none)else none)else some (h,c)) N ((0:Int),d,j,(([]:List Z1)++d),([]:List Z4))else none)
theorem jMp :mK 144 (bX [.agg [.pv (.sl .str),.pv Y14]] [.agg [.own 1 .str 9 true,.own 2 Y16 142 true]] (c2A (s_l18CopyConf_m N))):=
 mO ja func144 rfl N (.seq .no (.seq .no (.seq (.seq .no (.block (.loop jMA .no))) .no))) _
def s_IndexNew_m (c:List Z1) (a:List Z4):Option ((List Z1)×(List Z4)):=
 (oB (jcw N c a) fun d=>bif !d then some (([]:List Z1),([]:List Z4))else oB (s_l18CopyConf_m N c a) fun b=>some (b.1,b.2))
theorem jOh :mK 260 (bX [.agg [.pv (.sl .str),.pv Y14]] [.agg [.own 1 .str 9 true,.own 2 Y16 142 true,.nils]] (c2A (s_IndexNew_m N))):=
 mO (fC (jtf N) (fC (jMp N) ja)) func260 rfl N .no _
def jMc :Sh:=⟨.pv Y11:: .dead:: .dead:: .own 600003 Y12 241 true::pI::dz 24 [],[]⟩
def s_l7CopyPosts_m (i:Z6):Option (Z12):=
 (iter (fun f (b,d,a)=>bif decide (a<(b.length:Int))then oB (idx b a) fun e=>(oB (idx b a) fun c=>if room ([]:List Int).length c.2.length 8 then if room d.length ([(e.1,(([]:List Int)++c.2))]:Z6).length 32 then if fits (a+1)then f (b,(d++([(e.1,(([]:List Int)++c.2))]:Z6)),(a+1))else none else none else none)else some d) N (i,([]:Z6),(0:Int)))
theorem jLV :mK 338 (bX [.pv Y11] [.own 1 Y12 241 true] (c1A (s_l7CopyPosts_m N))):=
 mO ja func338 rfl N (.seq .no (.seq .no (.seq (.seq .no (.block (.loop jMc .no))) .no))) _
def jLx :Sh:=⟨.dead:: .box 1 0:: .box 2 0:: .box 3 0::pI::dz 47 [],[(1,false,[.pv Y3,.pv Y5]),(2,false,[.nils,.nils]),(3,false,[.own 700300 Y4 95 true,.nils])]⟩
def jKX :Sh:=⟨.dead:: .box 1 0:: .box 2 0:: .box 3 0:: .dead::pI::dz 46 [],[(1,false,[.pv Y3,.pv Y5]),(2,false,[.nils,.nils]),(3,false,[.own 700300 Y4 95 true,.own 700301 Y6 167 true])]⟩
def s_l18CopySeg_m (r:List Z0) (o:List Z3):Option ((List Z0)×(List Z3)):=
 (iter (fun p (b,c,n,i)=>bif decide (b<(c.length:Int))then oB (idx c b) fun h=>(oB (s_l7CopyDoc_m N h.1 h.2.1 h.2.2) fun m=>if room i.length ([m]:List Z0).length 56 then if fits (b+1)then p ((b+1),c,n,(i++([m]:List Z0)))else none else none)else iter (fun t (d,q,e,l,f)=>bif decide (d<(e.length:Int))then oB (idx e d) fun a=>(oB (s_l7CopyPosts_m N a.2.2) fun k=>if room f.length ([(a.1,a.2.1,k)]:List Z3).length 56 then if fits (d+1)then t ((d+1),q,e,l,(f++([(a.1,a.2.1,k)]:List Z3)))else none else none)else some (l,f)) N ((0:Int),c,n,i,([]:List Z3))) N ((0:Int),r,o,([]:List Z0)))
theorem jK3 :mK 315 (bX [.agg [.pv Y3,.pv Y5]] [.agg [.own 1 Y4 95 true,.own 2 Y6 167 true]] (c2A (s_l18CopySeg_m N))):=
 mO (fC (jtC N) (fC (jLV N) ja)) func315 rfl N (.seq .no (.seq .no (.seq (.seq .no (.block (.loop jLx .no))) (.seq (.seq .no (.block (.loop jKX .no))) .no)))) _
def jMK :Sh:=⟨.dead:: .box 1 0:: .box 2 0:: .box 3 0::pI::dz 33 [],[(1,false,[.pv (.sl .str),.pv Y14,.pv Y0]),(2,false,[.nils,.nils,.nils]),(3,false,[.own 700300 .str 9 true,.own 700301 Y16 142 true,.own 700302 Y1 33 true])]⟩
def s_l18Copy_m (j:List Z1) (f:List Z4) (m:List Z2):Option ((List Z1)×(List Z4)×(List Z2)):=
 (oB (s_l18CopyConf_m N j f) fun k=>iter (fun o (a,q,n,b,i,h,d)=>bif decide (a<(b.length:Int))then oB (idx b a) fun l=>(oB (s_l18CopySeg_m N l.1.1 l.1.2) fun e=>oB (idx b a) fun c=>if room ([]:List Int).length c.2.length 8 then if room d.length ([(e,(([]:List Int)++c.2))]:List Z2).length 72 then if fits (a+1)then o ((a+1),q,n,b,i,h,(d++([(e,(([]:List Int)++c.2))]:List Z2)))else none else none else none)else some (i,h,d)) N ((0:Int),j,f,m,k.1,k.2,([]:List Z2)))
theorem jL0 :mK 264 (bX [.agg [.pv (.sl .str),.pv Y14,.pv Y0]] [.agg [.own 1 .str 9 true,.own 2 Y16 142 true,.own 3 Y1 33 true]] (c3A (s_l18Copy_m N))):=
 mO (fC (jMp N) (fC (jK3 N) ja)) func264 rfl N (.seq .no (.seq .no (.seq (.seq .no (.block (.loop jMK .no))) .no))) _
def jLU :Sh:=⟨.pv Y19::pI::dz 3 (pI::dz 42 []),[]⟩
def s_l8Put_m (p:List Int) (o:Int):Option ((List Int)):=
 (iter (fun n (a,b,c)=>bif decide (c<(a.length:Int))then oB (idx a c) fun q=>(bif decide (q<b)then if fits (c+1)then n (a,b,(c+1))else none else bif decide (c<(a.length:Int))then oB (idx a c) fun r=>(bif decide (r=b)then some a else oB (cut a 0 c) fun e=>if room ([]:List Int).length e.length 8 then if room (([]:List Int)++e).length ([b]:List Int).length 8 then oB (cut a c (a.length:Int)) fun k=>(if room ((([]:List Int)++e)++([b]:List Int)).length k.length 8 then some (((([]:List Int)++e)++([b]:List Int))++k)else none)else none else none)else oB (cut a 0 c) fun h=>if room ([]:List Int).length h.length 8 then if room (([]:List Int)++h).length ([b]:List Int).length 8 then oB (cut a c (a.length:Int)) fun j=>(if room ((([]:List Int)++h)++([b]:List Int)).length j.length 8 then some (((([]:List Int)++h)++([b]:List Int))++j)else none)else none else none)else bif decide (c<(a.length:Int))then oB (idx a c) fun m=>(bif decide (m=b)then some a else oB (cut a 0 c) fun f=>if room ([]:List Int).length f.length 8 then if room (([]:List Int)++f).length ([b]:List Int).length 8 then oB (cut a c (a.length:Int)) fun i=>(if room ((([]:List Int)++f)++([b]:List Int)).length i.length 8 then some (((([]:List Int)++f)++([b]:List Int))++i)else none)else none else none)else oB (cut a 0 c) fun d=>if room ([]:List Int).length d.length 8 then if room (([]:List Int)++d).length ([b]:List Int).length 8 then oB (cut a c (a.length:Int)) fun l=>(if room ((([]:List Int)++d)++([b]:List Int)).length l.length 8 then some (((([]:List Int)++d)++([b]:List Int))++l)else none)else none else none) N (p,o,(0:Int)))
theorem jLS :mK 316 (bX [.pv Y19,pI] [.pv Y19] (c2A (s_l8Put_m N))):=
 mO ja func316 rfl N (.seq .no (.seq .no (.seq (.block (.loop jLU .no)) .no))) _
def jL4 :Sh:=⟨.dead::pI:: .box 2 0:: .dead:: .box 4 0:: .dead:: .box 6 0::pB::pI::dz 43 [],[(2,false,[.pv (.sl .str),.pv Y14,.pv Y0]),(4,false,[.nils,.nils,.nils]),(6,false,[.pv (.sl .str),.pv Y14,.own 700602 Y1 33 false])]⟩
def jLD :Sh:=⟨.dead::pI:: .box 2 0:: .dead:: .box 4 0:: .dead:: .box 6 0::pB::pI:: .box 9 0::dz 42 [],[(2,false,[.pv (.sl .str),.pv Y14,.pv Y0]),(4,false,[.nils,.nils,.nils]),(6,false,[.pv (.sl .str),.pv Y14,.own 700602 Y1 33 false]),(9,false,[.pv Y3,.pv Y5,.pv Y19])]⟩
def s_l18Gone_m (q:List Z1) (o:List Z4) (H:List Z2) (w:Int):Z13:=
 (iter (fun B (b,k,c,l,i,d,h,e,f)=>bif decide (c<(d.length:Int))then oB (idx d c) fun a=>(meet (fun(m:Int×Bool×Int×(List Z1)×(List Z4)×(List Z2)×(List Z1)×(List Z4)×(List Z2)×(List Z0)×(List Z3)×(List Int))=>match m with|(x,D,u,A,G,z,I,E,t,n,p,r)=>if room t.length ([((n,p),r)]:List Z2).length 72 then if fits (u+1)then B (x,D,(u+1),A,G,z,I,E,(t++([((n,p),r)]:List Z2)))else none else none) fun j=>oB (s_l12Doc_m N a.1.1 a.1.2 b) fun C=>bif !decide (C.1=0)then oB (s_l18Dead_m N a.1.1 a.1.2 a.2 b) fun v=>(bif !v then if room ([]:List Int).length a.2.length 8 then oB (s_l8Put_m N (([]:List Int)++a.2) b) fun y=>(j (b,true,c,l,i,d,h,e,f,a.1.1,a.1.2,y))else none else j (b,k,c,l,i,d,h,e,f,a.1.1,a.1.2,a.2))else j (b,k,c,l,i,d,h,e,f,a.1.1,a.1.2,a.2))else some (h,e,f,k)) N (w,false,(0:Int),q,o,H,q,o,([]:List Z2)))
theorem jLr :mK 265 (bX [.agg [.pv (.sl .str),.pv Y14,.pv Y0],pI] [.tup [.agg [.pv (.sl .str),.pv Y14,.own 1 Y1 33 false],pB]] (c4A (s_l18Gone_m N))):=
 mO (fC (jDn N) (fC (jIy N) (fC (jLS N) ja))) func265 rfl N (.seq .no (.seq .no (.seq .no (.seq (.seq .no (.block (.loop jL4 (.seq .no (.seq (.block (.seq .no (.meet jLD .no .no))) .no))))) .no)))) _
def jL1 :Sh:=⟨.dead:: .box 1 0:: .box 2 0:: .box 3 0::pI::dz 37 [],[(1,false,[.pv (.sl .str),.pv Y14,.pv Y0]),(2,false,[.nils,.nils,.nils]),(3,false,[.pv (.sl .str),.pv Y14,.own 700302 Y1 33 false])]⟩
def s_l18Full_m (k:List Z1) (f:List Z4) (m:List Z2):Option ((List Z1)×(List Z4)×(List Z2)):=
 (iter (fun j (a,l,h,b,e,d,c)=>bif decide (a<(b.length:Int))then oB (idx b a) fun n=>(oB (idx b a) fun p=>bif decide ((n.2.length:Int)<(p.1.1.length:Int))then oB (idx b a) fun i=>(if room c.length ([i]:List Z2).length 72 then if fits (a+1)then j ((a+1),l,h,b,e,d,(c++([i]:List Z2)))else none else none)else if fits (a+1)then j ((a+1),l,h,b,e,d,c)else none)else some (e,d,c)) N ((0:Int),k,f,m,k,f,([]:List Z2)))
theorem jM5 :mK 266 (bX [.agg [.pv (.sl .str),.pv Y14,.pv Y0]] [.agg [.pv (.sl .str),.pv Y14,.own 1 Y1 33 false]] (c3A (s_l18Full_m N))):=
 mO ja func266 rfl N (.seq .no (.seq .no (.seq (.seq .no (.block (.loop jL1 .no))) .no))) _
def s_IndexDrop_m (f:List Z1) (e:List Z4) (d:List Z2) (h:Int):Z13:=
 (oB (s_l18Ok_m N f e d) fun i=>bif !i then some (([]:List Z1),([]:List Z4),([]:List Z2),false)else oB (s_l18Copy_m N f e d) fun b=>oB (s_l18Gone_m N b.1 b.2.1 b.2.2 h) fun a=>oB (s_l18Full_m N a.1 a.2.1 a.2.2.1) fun c=>some (c.1,c.2.1,c.2.2,a.2.2.2))
theorem jLL :mK 262 (bX [.agg [.pv (.sl .str),.pv Y14,.pv Y0],pI] [.tup [.agg [.pv (.sl .str),.pv Y14,.own 1 Y1 33 false],pB]] (c4A (s_IndexDrop_m N))):=
 mO (fC (jIW N) (fC (jL0 N) (fC (jLr N) (fC (jM5 N) ja)))) func262 rfl N .no _
def s_IndexMerge_m (f:List Z1) (d:List Z4) (b:List Z2) (a:Int):Z13:=
 (oB (s_l18Ok_m N f d b) fun m=>bif !m then some (([]:List Z1),([]:List Z4),([]:List Z2),false)else if fits ((b.length:Int)-2)then oB (jJ N a 0 ((b.length:Int)-2)) fun k=>(bif !k then oB (s_l18Copy_m N f d b) fun i=>(some (i.1,i.2.1,i.2.2,false))else if fits (a+2)then oB (cut b a (a+2)) fun n=>(oB (s_l18Docs_m N ([]:List Z1) ([]:List Z4) n) fun l=>oB (s_l18Copy_m N f d b) fun c=>oB (cut c.2.2 0 a) fun e=>if room ([]:List Z2).length e.length 72 then oB (s_l7Of_m N f d l) fun h=>(if room (([]:List Z2)++e).length ([(h,([]:List Int))]:List Z2).length 72 then if fits (a+2)then oB (cut c.2.2 (a+2) (c.2.2.length:Int)) fun j=>(if room ((([]:List Z2)++e)++([(h,([]:List Int))]:List Z2)).length j.length 72 then some (c.1,c.2.1,(((([]:List Z2)++e)++([(h,([]:List Int))]:List Z2))++j),true)else none)else none else none)else none)else none)else none)
theorem jNO :mK 263 (bX [.agg [.pv (.sl .str),.pv Y14,.pv Y0],pI] [.tup [.agg [.own 1 .str 9 true,.own 2 Y16 142 true,.own 3 Y1 33 false],pB]] (c4A (s_IndexMerge_m N))):=
 mO (fC (jIW N) (fC (jcL N) (fC (jL0 N) (fC (jH3 N) (fC (jmU N) ja))))) func263 rfl N .no _
def s_l30Rd_of_m (b:List Z1) (c:List Int) (d:Int):Option (Z1×(List Int)×Int):=
 (oB (s_l30Rd_pick_m N (b.length:Int) c d) fun a=>oB (idx b a.1) fun e=>some (e,a.2.1,a.2.2))
theorem jt3 :mK 139 ⟨⟨[.box 900000 0,.pv (.sl .str)],[(900000,false,[.pv (.sl (.int .u8)),pI])]⟩,⟨[pS],[(900000,false,[.pv (.sl (.int .u8)),pI])]⟩,c3A (s_l30Rd_of_m N)⟩:=
 mO (fC (jtX N) ja) func139 rfl N .no _ (rs:=[900000])
def s_l30Raw_m (b:List Int) (c:Int):Option (Z1×(List Int)×Int):=
 (oB (s_l30Rd_of_m N ([([99,97,116]:List UInt8),([67,97,116,115]:List UInt8),([100,111,103]:List UInt8),([100,111,103,115]:List UInt8),([114,117,110]:List UInt8),([82,85,78,78,73,78,71]:List UInt8),([116,104,101]:List UInt8),([114,101,100]:List UInt8),([98,105,103]:List UInt8),([110,101,119,32,121,111,114,107]:List UInt8),([78,101,119,32,32,89,111,114,107]:List UInt8),([110,121]:List UInt8),([102,111,120]:List UInt8),([112,97,115,115,101,100]:List UInt8),([120,49]:List UInt8),([97,118,101,114,121,118,101,114,121,108,111,110,103,119,111,114,100]:List UInt8)]:List Z1) b c) fun a=>some (a.1,a.2.1,a.2.2))
theorem jvg :mK 339 ⟨⟨[.box 900000 0],[(900000,false,[.pv (.sl (.int .u8)),pI])]⟩,⟨[pS],[(900000,false,[.pv (.sl (.int .u8)),pI])]⟩,c2A (s_l30Raw_m N)⟩:=
 mO (fC (jt3 N) ja) func339 rfl N .no _ (rs:=[900000])
def juP :Sh:=⟨.box 900000 0:: .dead:: .dead::pS::pI::dz 15 [],[(900000,false,[.pv (.sl (.int .u8)),pI])]⟩
def s_l30Text_m (k:List Int) (l:Int):Option (Z1×(List Int)×Int):=
 (oB (s_l30Rd_pick_m N 9 k l) fun e=>iter (fun i (c,d,f,h)=>bif decide ((0:Int)<d)then oB (s_l30Raw_m N f h) fun a=>(if c.length+a.1.length<=9223372036854775807 then oB (s_l30Rd_of_m N ([([32]:List UInt8),([32]:List UInt8),([44,32]:List UInt8),([45]:List UInt8),([46,32]:List UInt8)]:List Z1) a.2.1 a.2.2) fun b=>(if(c++a.1).length+b.1.length<=9223372036854775807 then if fits (d-1)then i (((c++a.1)++b.1),(d-1),b.2.1,b.2.2)else none else none)else none)else some (c,f,h)) N (([]:List UInt8),e.1,e.2.1,e.2.2))
theorem juT :mK 317 ⟨⟨[.box 900000 0],[(900000,false,[.pv (.sl (.int .u8)),pI])]⟩,⟨[pS],[(900000,false,[.pv (.sl (.int .u8)),pI])]⟩,c2A (s_l30Text_m N)⟩:=
 mO (fC (jtX N) (fC (jvg N) (fC (jt3 N) ja))) func317 rfl N (.seq .no (.seq .no (.seq (.seq .no (.block (.loop juP .no))) .no))) _ (rs:=[900000])
def juy :Sh:=⟨.box 900000 0::dz 3 (.box 4 0:: .box 5 0::dz 48 []),[(4,false,[pI,.nils,.nils]),(5,false,[pI,.own 28 Y18 155 true,.own 39 Y15 157 true]),(900000,false,[.pv (.sl (.int .u8)),pI])]⟩
def juX :Sh:=⟨.box 900000 0::dz 3 (.box 4 0:: .box 5 0::dz 48 []),[(4,false,[pI,.nils,.nils]),(5,false,[pI,.own 28 Y18 155 true,.nils]),(900000,false,[.pv (.sl (.int .u8)),pI])]⟩
def jvb :Sh:=⟨.box 900000 0::dz 3 (.box 4 0:: .box 5 0::dz 48 []),[(4,false,[pI,.nils,.nils]),(5,false,[pI,.own 17 Y18 155 true,.nils]),(900000,false,[.pv (.sl (.int .u8)),pI])]⟩
def s_l30Doc_m (n:Int) (A:List Int) (G:Int):Option (Int×Z7×Z9×(List Int)×Int):=
 (meet (fun(e:Int×Int×Z7×(List Int)×Int)=>match e with|(m,q,l,B,E)=>meet (fun(e:Int×Int×Z7×(List Int)×Int)=>match e with|(p,u,v,y,C)=>meet (fun(e:Int×Int×Z7×Z9×(List Int)×Int)=>match e with|(H,x,t,k,D,z)=>oB (s_l30Rd_pick_m N 3 D z) fun b=>bif decide (b.1=0)then oB (s_l30Rd_pick_m N 30 b.2.1 b.2.2) fun f=>(if fits (2000+f.1)then if room k.length ([(([121,101,97,114]:List UInt8),(2000+f.1))]:Z8).length 24 then some (x,t,(k++([(([121,101,97,114]:List UInt8),(2000+f.1))]:Z8)),f.2.1,f.2.2)else none else none)else some (x,t,k,b.2.1,b.2.2)) fun w=>oB (s_l30Rd_pick_m N 3 y C) fun a=>bif decide ((0:Int)<a.1)then oB (s_l30Rd_pick_m N 4 a.2.1 a.2.2) fun i=>(if room ([]:Z8).length ([(([114,97,116,101]:List UInt8),i.1)]:Z8).length 24 then w (p,u,v,(([]:Z8)++([(([114,97,116,101]:List UInt8),i.1)]:Z8)),i.2.1,i.2.2)else none)else w (p,u,v,([]:Z8),a.2.1,a.2.2)) fun r=>oB (s_l30Rd_pick_m N 3 B E) fun c=>bif decide (c.1=0)then oB (s_l30Text_m N c.2.1 c.2.2) fun j=>(if room l.length ([(([116,105,116,108,101]:List UInt8),j.1)]:Z5).length 32 then r (m,q,(l++([(([116,105,116,108,101]:List UInt8),j.1)]:Z5)),j.2.1,j.2.2)else none)else r (m,q,l,c.2.1,c.2.2)) fun o=>oB (s_l30Rd_pick_m N 6 A G) fun d=>bif decide ((0:Int)<d.1)then oB (s_l30Text_m N d.2.1 d.2.2) fun h=>(if room ([]:Z5).length ([(([98,111,100,121]:List UInt8),h.1)]:Z5).length 32 then o (0,n,(([]:Z5)++([(([98,111,100,121]:List UInt8),h.1)]:Z5)),h.2.1,h.2.2)else none)else o (0,n,([]:Z5),d.2.1,d.2.2))
theorem jvf :mK 267 ⟨⟨[.box 900000 0,pI],[(900000,false,[.pv (.sl (.int .u8)),pI])]⟩,⟨[.agg [pI,.own 1 Y18 155 true,.own 2 Y15 157 true]],[(900000,false,[.pv (.sl (.int .u8)),pI])]⟩,c3A (s_l30Doc_m N)⟩:=
 mO (fC (jtX N) (fC (juT N) ja)) func267 rfl N (.seq .no (.seq .no (.meet jvb .no (.meet juX .no (.meet juy .no .no))))) _ (rs:=[900000])
def juU :Sh:=⟨.box 900000 0:: .dead:: .dead:: .own 600003 Y4 95 true::pI::pI::dz 19 [],[(900000,false,[.pv (.sl (.int .u8)),pI])]⟩
def s_l30Docs_m (l:List Int) (m:Int):Option ((List Z0)×(List Int)×Int):=
 (oB (s_l30Rd_pick_m N 6 l m) fun f=>iter (fun j (d,c,e,h,i)=>bif decide ((0:Int)<e)then if fits (c+1)then oB (s_l30Rd_pick_m N 3 h i) fun b=>(if fits ((c+1)+b.1)then oB (s_l30Doc_m N ((c+1)+b.1) b.2.1 b.2.2) fun a=>(if room d.length ([(a.1,a.2.1,a.2.2.1)]:List Z0).length 56 then if fits (e-1)then j ((d++([(a.1,a.2.1,a.2.2.1)]:List Z0)),((c+1)+b.1),(e-1),a.2.2.2.1,a.2.2.2.2)else none else none)else none)else none else some (d,h,i)) N (([]:List Z0),(0:Int),f.1,f.2.1,f.2.2))
theorem juO :mK 215 ⟨⟨[.box 900000 0],[(900000,false,[.pv (.sl (.int .u8)),pI])]⟩,⟨[.own 1 Y4 95 true],[(900000,false,[.pv (.sl (.int .u8)),pI])]⟩,c2A (s_l30Docs_m N)⟩:=
 mO (fC (jtX N) (fC (jvf N) ja)) func215 rfl N (.seq .no (.seq .no (.seq .no (.seq (.seq .no (.block (.loop juU .no))) .no)))) _ (rs:=[900000])
def jNS :Sh:=⟨.dead:: .pv Y3:: .box 2 0:: .dead:: .box 4 0:: .dead:: .box 6 0::pI::dz 53 [],[(2,false,[.pv (.sl .str),.pv Y14,.pv Y0]),(4,false,[.nils,.nils,.nils]),(6,false,[.pv (.sl .str),.pv Y14,.own 700602 Y1 33 false])]⟩
def s_IndexAdd_m (c:List Z1) (b:List Z4) (d:List Z2) (l:List Z0):Z13:=
 (oB (s_l18Ok_m N c b d) fun x=>bif !x then some (([]:List Z1),([]:List Z4),([]:List Z2),false)else oB (jbU N l) fun v=>bif !v then oB (s_l18Copy_m N c b d) fun k=>(some (k.1,k.2.1,k.2.2,false))else bif decide ((l.length:Int)=0)then oB (s_l18Copy_m N c b d) fun n=>(some (n.1,n.2.1,n.2.2,false))else oB (s_l18Copy_m N c b d) fun h=>iter (fun w (f,e,m,j,u,t,q,r)=>bif decide (e<(f.length:Int))then oB (idx f e) fun y=>(oB (s_l18Gone_m N t q r y.1) fun i=>if fits (e+1)then w (f,(e+1),m,j,u,i.1,i.2.1,i.2.2.1)else none)else oB (s_l18Full_m N t q r) fun a=>oB (s_l7Of_m N m j f) fun o=>if room a.2.2.length ([(o,([]:List Int))]:List Z2).length 72 then oB (s_l18Ok_m N a.1 a.2.1 (a.2.2++([(o,([]:List Int))]:List Z2))) fun z=>(bif !z then oB (s_l18Copy_m N m j u) fun p=>(some (p.1,p.2.1,p.2.2,false))else some (a.1,a.2.1,(a.2.2++([(o,([]:List Int))]:List Z2)),true))else none) N (l,(0:Int),c,b,d,h.1,h.2.1,h.2.2))
theorem jNM :mK 214 (bX [.agg [.pv (.sl .str),.pv Y14,.pv Y0],.pv Y3] [.tup [.agg [.pv (.sl .str),.pv Y14,.own 1 Y1 33 false],pB]] (c4A (s_IndexAdd_m N))):=
 mO (fC (jIW N) (fC (jpx N) (fC (jL0 N) (fC (jLr N) (fC (jM5 N) (fC (jmU N) ja)))))) func214 rfl N (.seq .no (.seq .no (.seq .no (.seq .no (.seq (.seq .no (.block (.loop jNS .no))) .no))))) _
def jOd :Sh:=⟨.box 900000 0:: .dead:: .box 2 0:: .box 3 0::pI::dz 47 [],[(2,false,[.nils,.nils,.nils]),(3,false,[.pv (.sl .str),.pv Y14,.own 700302 Y1 33 false]),(900000,false,[.pv (.sl (.int .u8)),pI])]⟩
def s_l30Index_m (t:List Int) (v:Int):Option ((List Z1)×(List Z4)×(List Z2)×(List Int)×Int):=
 (oB (s_l30Conf_m N t v) fun f=>oB (s_IndexNew_m N f.1 f.2.1) fun q=>oB (s_l30Rd_pick_m N 7 f.2.2.1 f.2.2.2) fun k=>iter (fun l (b,e,d,h,p,r)=>bif decide ((0:Int)<b)then oB (s_l30Rd_pick_m N 5 p r) fun a=>(bif decide (a.1=0)then oB (s_l30Rd_pick_m N 8 a.2.1 a.2.2) fun c=>(if fits (1+c.1)then oB (s_IndexDrop_m N e d h (1+c.1)) fun i=>(if fits (b-1)then l ((b-1),i.1,i.2.1,i.2.2.1,c.2.1,c.2.2)else none)else none)else bif decide (a.1=1)then oB (s_l30Rd_pick_m N 3 a.2.1 a.2.2) fun j=>(oB (s_IndexMerge_m N e d h j.1) fun n=>if fits (b-1)then l ((b-1),n.1,n.2.1,n.2.2.1,j.2.1,j.2.2)else none)else oB (s_l30Docs_m N a.2.1 a.2.2) fun m=>oB (s_IndexAdd_m N e d h m.1) fun o=>if fits (b-1)then l ((b-1),o.1,o.2.1,o.2.2.1,m.2.1,m.2.2)else none)else some (e,d,h,p,r)) N (k.1,q.1,q.2,([]:List Z2),k.2.1,k.2.2))
theorem jNR :mK 213 ⟨⟨[.box 900000 0],[(900000,false,[.pv (.sl (.int .u8)),pI])]⟩,⟨[.agg [.pv (.sl .str),.pv Y14,.own 1 Y1 33 false]],[(900000,false,[.pv (.sl (.int .u8)),pI])]⟩,c2A (s_l30Index_m N)⟩:=
 mO (fC (jva N) (fC (jOh N) (fC (jtX N) (fC (jLL N) (fC (jNO N) (fC (juO N) (fC (jNM N) ja))))))) func213 rfl N (.seq .no (.seq .no (.seq (.seq .no (.block (.loop jOd .no))) .no))) _ (rs:=[900000])
def s_l30Rd_one_m (b:List Int) (c:List Int) (d:Int):Option (Int×(List Int)×Int):=
 (oB (s_l30Rd_pick_m N (b.length:Int) c d) fun a=>oB (idx b a.1) fun e=>some (e,a.2.1,a.2.2))
theorem juA :mK 83 ⟨⟨[.box 900000 0,.pv Y19],[(900000,false,[.pv (.sl (.int .u8)),pI])]⟩,⟨[pI],[(900000,false,[.pv (.sl (.int .u8)),pI])]⟩,c3A (s_l30Rd_one_m N)⟩:=
 mO (fC (jtX N) ja) func83 rfl N .no _ (rs:=[900000])
def jZN :Sh:=⟨.dead:: .box 1 0:: .dead::pI::dz 39 [],[(1,false,[.pv Y17])]⟩
def s_l19DiskOk_m (f:Z5):Z10:=
 (iter (fun d (a,b)=>bif decide (a<(b.length:Int))then oB (idx b a) fun h=>(oB (jT N h.1) fun j=>bif !j then some false else bif decide ((0:Int)<a)then oB (idx b a) fun e=>(if fits (a-1)then oB (idx b (a-1)) fun c=>(bif Op.bytesLess e.1 c.1||decide (e.1=c.1)then some false else if fits (a+1)then d ((a+1),b)else none)else none)else if fits (a+1)then d ((a+1),b)else none)else some (decide ((b.length:Int)<=24))) N ((0:Int),f))
theorem j0g :mK 67 (bX [.agg [.pv Y17]] [pB] (c1A (s_l19DiskOk_m N))):=
 mO (fC (jgp N) ja) func67 rfl N (.seq .no (.seq (.seq .no (.block (.loop jZN .no))) .no)) _
def s_l19Gen_m (b:Int):Option (Z1):=
 (if fits (1000+b)then oB (s_l1Dec_m N N (1000+b)) fun a=>(if([103,101,110]:List UInt8).length+a.length<=9223372036854775807 then some (([103,101,110]:List UInt8)++a)else none)else none)
theorem j0N :mK 142 (bX [pI] [pS] (c1A (s_l19Gen_m N))):=
 mO (fC (jOx N N) ja) func142 rfl N .no _
def j0j :Sh:=⟨.dead::pS:: .box 2 0::dz 3 (pI::dz 21 []),[(2,false,[.pv Y17])]⟩
def s_l19File_m (d:Z5) (f:List UInt8):Option (Z1×Bool):=
 (iter (fun h (c,a,b)=>bif decide (a<(b.length:Int))then oB (idx b a) fun j=>(bif decide (j.1=c)then oB (idx b a) fun e=>(some (e.2,true))else if fits (a+1)then h (c,(a+1),b)else none)else some (([]:List UInt8),false)) N (f,(0:Int),d))
theorem jZK :mK 141 (bX [.agg [.pv Y17],pS] [.tup [pS,pB]] (c2A (s_l19File_m N))):=
 mO ja func141 rfl N (.seq .no (.seq (.seq .no (.block (.loop j0j .no))) .no)) _
def j2E :Sh:=⟨.dead:: .box 1 0:: .dead::pI::dz 15 [],[(1,false,[.pv Y17])]⟩
def j04 (c:Z5):Z16:=
 (iter (fun e (a,b)=>bif decide ((1:Int)<=a)then oB (s_l19Gen_m N a) fun h=>(oB (s_l19File_m N b h) fun d=>bif d.2 then some a else if fits (a-1)then e ((a-1),b)else none)else some 0) N ((99:Int),c))
theorem j2k :mK 93 (bX [.agg [.pv Y17]] [pI] (c1A (j04 N))):=
 mO (fC (j0N N) (fC (jZK N) ja)) func93 rfl N (.seq .no (.seq (.seq .no (.block (.loop j2E .no))) .no)) _
def j0u :Sh:=⟨pS:: .dead:: .dead::pI::pI::dz 27 [],[]⟩
def j0M :Sh:=⟨pS:: .dead:: .dead::pI::pI::pI::dz 26 [],[]⟩
def s_l19Crc_m (l:List UInt8):Z16:=
 (iter (fun m (d,j,e)=>bif decide (e<(d.length:Int))then oB (idx d e) fun k=>(iter (fun i (f,a,c,b)=>bif decide (b<8)then if 2≠0 then bif decide ((a.tmod 2)=1)then if 2≠0 then if fits (a.tdiv 2)then if fits (b+1)then i (f,(bitsI .xor .i64 (a.tdiv 2) 3988292384),c,(b+1))else none else none else none else(if 2≠0 then if fits (a.tdiv 2)then if fits (b+1)then i (f,(a.tdiv 2),c,(b+1))else none else none else none)else none else if fits (c+1)then m (f,a,(c+1))else none) N (d,(bitsI .xor .i64 j (IntKind.i64.wrap (k.toNat:Int))),e,(0:Int)))else some (bitsI .xor .i64 j 4294967295)) N (l,(4294967295:Int),(0:Int)))
theorem jZT :mK 171 (bX [pS] [pI] (c1A (s_l19Crc_m N))):=
 mO ja func171 rfl N (.seq .no (.seq .no (.seq (.seq .no (.block (.loop j0u (.seq .no (.seq (.block (.seq .no (.seq .no (.block (.loop j0M .no))))) .no))))) .no))) _
def j3v :Sh:=⟨.dead::pI:: .box 2 0:: .dead:: .dead:: .own 600005 Y18 114 true::pS::pI::dz 47 [],[(2,false,[.pv (.sl .str),.pv Y14,.pv Y0])]⟩
def j09 (q:List Z1) (m:List Z4) (t:List Z2) (p:Int):Option (Z7):=
 (iter (fun o (e,f,c,d,r,n,k)=>bif decide (d<(k.length:Int))then if fits (1000+e)then oB (s_l1Dec_m N N (1000+e)) fun a=>(if([115,101,103]:List UInt8).length+a.length<=9223372036854775807 then if(([115,101,103]:List UInt8)++a).length+([120]:List UInt8).length<=9223372036854775807 then oB (s_l1Dec_m N N d) fun b=>(if((([115,101,103]:List UInt8)++a)++([120]:List UInt8)).length+b.length<=9223372036854775807 then oB (idx k d) fun j=>(oB (s_l19Seg_m N j.1.1 j.1.2 j.2) fun i=>if room f.length ([((((([115,101,103]:List UInt8)++a)++([120]:List UInt8))++b),i)]:Z5).length 32 then if c.length+(((([115,101,103]:List UInt8)++a)++([120]:List UInt8))++b).length<=9223372036854775807 then if(c++(((([115,101,103]:List UInt8)++a)++([120]:List UInt8))++b)).length+([32]:List UInt8).length<=9223372036854775807 then oB (s_l19Crc_m N i) fun u=>(oB (s_l1Dec_m N N u) fun h=>if((c++(((([115,101,103]:List UInt8)++a)++([120]:List UInt8))++b))++([32]:List UInt8)).length+h.length<=9223372036854775807 then if(((c++(((([115,101,103]:List UInt8)++a)++([120]:List UInt8))++b))++([32]:List UInt8))++h).length+([10]:List UInt8).length<=9223372036854775807 then if fits (d+1)then o (e,(f++([((((([115,101,103]:List UInt8)++a)++([120]:List UInt8))++b),i)]:Z5)),((((c++(((([115,101,103]:List UInt8)++a)++([120]:List UInt8))++b))++([32]:List UInt8))++h)++([10]:List UInt8)),(d+1),r,n,k)else none else none else none)else none else none else none)else none)else none else none)else none else oB (s_l19Gen_m N e) fun l=>if c.length+([101,110,100]:List UInt8).length<=9223372036854775807 then if room f.length ([(l,(c++([101,110,100]:List UInt8)))]:Z5).length 32 then some (f++([(l,(c++([101,110,100]:List UInt8)))]:Z5))else none else none) N (p,([]:Z5),([]:List UInt8),(0:Int),q,m,t))
theorem j2w :mK 94 (bX [.agg [.pv (.sl .str),.pv Y14,.pv Y0],pI] [.own 1 Y18 114 true] (c4A (j09 N))):=
 mO (fC (jOx N N) (fC (jX1 N) (fC (jZT N) (fC (j0N N) ja)))) func94 rfl N (.seq .no (.seq .no (.seq .no (.seq (.seq .no (.block (.loop j3v .no))) .no)))) _
def j3i :Sh:=⟨.dead:: .dead:: .box 2 0:: .box 3 0:: .box 4 0:: .box 5 0::pB::pI::dz 55 [],[(2,false,[.pv Y17]),(3,false,[pS,pS]),(4,false,[.nils]),(5,false,[.own 700500 Y18 114 true])]⟩
def j1Y :Sh:=⟨.dead:: .dead:: .box 2 0:: .box 3 0:: .box 4 0:: .box 5 0::pB::pI::dz 55 [],[(2,false,[.pv Y17]),(3,false,[pS,pS]),(4,false,[.nils]),(5,false,[.own 33 Y18 114 true])]⟩
def j0X (v:Z5) (r:List UInt8) (w:List UInt8):Option (Z7):=
 (iter (fun p (h,e,f,a,b,c)=>bif decide (e<(f.length:Int))then meet (fun(m:Bool×Int×Z7×Z1×Z1×Z7)=>match m with|(q,d,i,l,n,j)=>oB (idx i d) fun t=>bif !decide (t.1=l)then oB (idx i d) fun o=>(if room j.length ([o]:Z5).length 32 then if fits (d+1)then p (q,(d+1),i,l,n,(j++([o]:Z5)))else none else none)else if fits (d+1)then p (q,(d+1),i,l,n,j)else none) fun k=>(bif !h then oB (idx f e) fun u=>(bif !Op.bytesLess u.1 a then if room c.length ([(a,b)]:Z5).length 32 then k (true,e,f,a,b,(c++([(a,b)]:Z5)))else none else k (h,e,f,a,b,c))else k (h,e,f,a,b,c))else bif !h then if room c.length ([(a,b)]:Z5).length 32 then some (c++([(a,b)]:Z5))else none else some c) N (false,(0:Int),v,r,w,([]:Z5)))
theorem j2f :mK 95 (bX [.agg [.pv Y17],.agg [pS,pS]] [.agg [.own 1 Y18 114 true]] (c3A (j0X N))):=
 mO ja func95 rfl N (.seq .no (.seq .no (.seq .no (.seq (.seq .no (.block (.loop j3i (.seq .no (.seq (.block (.meet j1Y .no .no)) .no))))) .no)))) _
def j2G :Sh:=⟨.dead::pI:: .box 2 0:: .dead:: .box 4 0:: .box 5 0::pI::dz 51 [],[(2,false,[.pv Y17]),(4,false,[.nils]),(5,false,[.own 700500 Y18 114 true])]⟩
def j0S (t:Z5) (n:Int):Option (Z7):=
 (iter (fun e (c,a,b,d)=>bif decide (a<(b.length:Int))then oB (idx b a) fun f=>(bif decide ((7:Int)<=f.1.length)then oB (cut f.1 0 3) fun p=>(bif decide (p=([103,101,110]:List UInt8))then oB (cut f.1 3 7) fun u=>(oB (s_l1Num_m N u) fun o=>if fits (1000+c)then if fits ((1000+c)-1)then oB (jJ N o 1001 ((1000+c)-1)) fun l=>(bif !l then oB (idx b a) fun j=>(if room d.length ([j]:Z5).length 32 then if fits (a+1)then e (c,(a+1),b,(d++([j]:Z5)))else none else none)else if fits (a+1)then e (c,(a+1),b,d)else none)else none else none)else oB (cut f.1 0 3) fun r=>bif decide (r=([115,101,103]:List UInt8))then oB (cut f.1 3 7) fun q=>(oB (s_l1Num_m N q) fun m=>if fits (1000+c)then if fits ((1000+c)-1)then oB (jJ N m 1001 ((1000+c)-1)) fun v=>(bif !v then oB (idx b a) fun h=>(if room d.length ([h]:Z5).length 32 then if fits (a+1)then e (c,(a+1),b,(d++([h]:Z5)))else none else none)else if fits (a+1)then e (c,(a+1),b,d)else none)else none else none)else oB (idx b a) fun i=>if room d.length ([i]:Z5).length 32 then if fits (a+1)then e (c,(a+1),b,(d++([i]:Z5)))else none else none)else oB (idx b a) fun k=>if room d.length ([k]:Z5).length 32 then if fits (a+1)then e (c,(a+1),b,(d++([k]:Z5)))else none else none)else some d) N (n,(0:Int),t,([]:Z5)))
theorem j3g :mK 96 (bX [.agg [.pv Y17],pI] [.agg [.own 1 Y18 114 true]] (c2A (j0S N))):=
 mO (fC (jYO N) (fC (jcL N) ja)) func96 rfl N (.seq .no (.seq .no (.seq (.seq .no (.block (.loop j2G .no))) .no))) _
def j2B :Sh:=⟨.dead:: .dead::pI::dz 3 (.box 6 0:: .dead::pI:: .box 9 0:: .own 600010 Y18 114 true::pI::dz 69 []),[(6,false,[.nils]),(9,false,[.own 700900 Y18 114 true])]⟩
def s_DiskCommit_m (b:Z5) (k:List Z1) (i:List Z4) (n:List Z2) (t:Int):Option (Z7×Int):=
 (oB (s_l19DiskOk_m N b) fun u=>bif !u then some (([]:Z5),(-1))else oB (s_l18Ok_m N k i n) fun p=>bif !p then some (([]:Z5),(-1))else oB (j04 N b) fun h=>if fits (h+1)then bif decide ((99:Int)<(h+1))then if room ([]:Z5).length b.length 32 then some ((([]:Z5)++b),0)else none else(if fits ((b.length:Int)+5)then if fits (((b.length:Int)+5)+1)then bif decide ((24:Int)<(((b.length:Int)+5)+1))then if room ([]:Z5).length b.length 32 then some ((([]:Z5)++b),0)else none else(if room ([]:Z5).length b.length 32 then oB (j09 N k i n (h+1)) fun v=>(iter (fun j (c,a,f,d,e)=>bif decide (d<(f.length:Int))then bif decide (c<0)then oB (idx f d) fun m=>(oB (j0X N e m.1 m.2) fun o=>if fits (d+1)then j (c,a,f,(d+1),o)else none)else(bif decide (d<c)then oB (idx f d) fun l=>(oB (j0X N e l.1 l.2) fun q=>if fits (d+1)then j (c,a,f,(d+1),q)else none)else bif decide (c<0)then oB (j0S N e a) fun r=>(some (r,a))else bif decide ((f.length:Int)<c)then oB (j0S N e a) fun y=>(some (y,a))else some (e,a))else bif decide (c<0)then oB (j0S N e a) fun w=>(some (w,a))else bif decide ((f.length:Int)<c)then oB (j0S N e a) fun z=>(some (z,a))else some (e,a)) N (t,(h+1),v,(0:Int),(([]:Z5)++b)))else none)else none else none)else none)
theorem j1N :mK 34 (bX [.agg [.pv Y17],.agg [.pv (.sl .str),.pv Y14,.pv Y0],pI] [.tup [.agg [.own 1 Y18 114 true],pI]] (c5A (s_DiskCommit_m N))):=
 mO (fC (j0g N) (fC (jIW N) (fC (j2k N) (fC (j2w N) (fC (j2f N) (fC (j3g N) ja)))))) func34 rfl N (.seq .no (.seq .no (.seq .no (.seq .no (.seq .no (.seq .no (.seq (.seq .no (.block (.loop j2B .no))) .no))))))) _
def j2t :Sh:=⟨.box 900000 0:: .dead:: .box 2 0:: .box 3 0:: .box 4 0:: .box 5 0::pI::dz 33 [],[(2,false,[.nils]),(3,false,[.nils,.nils,.nils]),(4,false,[.own 700400 Y18 114 true]),(5,false,[.pv (.sl .str),.pv Y14,.own 700502 Y1 33 false]),(900000,false,[.pv (.sl (.int .u8)),pI])]⟩
def s_l30Disk_m (o:List Int) (r:Int):Option (Z7×(List Z1)×(List Z4)×(List Z2)×(List Int)×Int):=
 (oB (s_l30Index_m N o r) fun a=>oB (s_l30Rd_pick_m N 4 a.2.2.2.1 a.2.2.2.2) fun c=>iter (fun n (h,m,i,e,j,k,l)=>bif decide ((0:Int)<h)then oB (s_l30Rd_one_m N ([(-1),(-1),0,1,2,9]:List Int) k l) fun f=>(oB (s_DiskCommit_m N m i e j f.1) fun p=>oB (s_l30Docs_m N f.2.1 f.2.2) fun b=>oB (s_IndexAdd_m N i e j b.1) fun d=>if fits (h-1)then n ((h-1),p.1,d.1,d.2.1,d.2.2.1,b.2.1,b.2.2)else none)else some (m,i,e,j,k,l)) N (c.1,([]:Z5),a.1,a.2.1,a.2.2.1,c.2.1,c.2.2))
theorem j2O :mK 136 ⟨⟨[.box 900000 0],[(900000,false,[.pv (.sl (.int .u8)),pI])]⟩,⟨[.tup [.agg [.own 1 Y18 114 true],.agg [.pv (.sl .str),.pv Y14,.own 2 Y1 33 false]]],[(900000,false,[.pv (.sl (.int .u8)),pI])]⟩,c2A (s_l30Disk_m N)⟩:=
 mO (fC (jNR N) (fC (jtX N) (fC (juA N) (fC (j1N N) (fC (juO N) (fC (jNM N) ja)))))) func136 rfl N (.seq .no (.seq .no (.seq .no (.seq (.seq .no (.block (.loop j2t .no))) .no)))) _ (rs:=[900000])
def s_l30Bent_m (b:List UInt8) (i:List Int) (j:Int):Option (Z1×(List Int)×Int):=
 (if fits ((b.length:Int)+1)then oB (s_l30Rd_pick_m N ((b.length:Int)+1) i j) fun c=>(oB (s_l30Rd_pick_m N 5 c.2.1 c.2.2) fun a=>bif decide (a.1=0)then bif decide (c.1<(b.length:Int))then oB (cut b 0 c.1) fun f=>(oB (s_l30Rd_of_m N ([([48]:List UInt8),([49]:List UInt8),([32]:List UInt8),([40]:List UInt8),([41]:List UInt8),([10]:List UInt8),([58]:List UInt8),([128]:List UInt8)]:List Z1) a.2.1 a.2.2) fun d=>if f.length+d.1.length<=9223372036854775807 then if fits (c.1+1)then oB (cut b (c.1+1) (b.length:Int)) fun h=>(if(f++d.1).length+h.length<=9223372036854775807 then some (((f++d.1)++h),d.2.1,d.2.2)else none)else none else none)else(some (b,a.2.1,a.2.2))else bif decide (a.1=1)then oB (cut b 0 c.1) fun k=>(some (k,a.2.1,a.2.2))else bif decide (a.1=2)then oB (s_l30Rd_of_m N ([([48]:List UInt8),([32]:List UInt8),([41]:List UInt8),([10]:List UInt8)]:List Z1) a.2.1 a.2.2) fun e=>(if b.length+e.1.length<=9223372036854775807 then some ((b++e.1),e.2.1,e.2.2)else none)else some (b,a.2.1,a.2.2))else none)
theorem jYX :mK 138 ⟨⟨[.box 900000 0,pS],[(900000,false,[.pv (.sl (.int .u8)),pI])]⟩,⟨[pS],[(900000,false,[.pv (.sl (.int .u8)),pI])]⟩,c3A (s_l30Bent_m N)⟩:=
 mO (fC (jtX N) (fC (jt3 N) ja)) func138 rfl N .no _ (rs:=[900000])
def s_l30AnyDisk_m (i:List Int) (j:Int):Option (Z7×(List Z1)×(List Z4)×(List Z2)×(List Int)×Int):=
 (oB (s_l30Disk_m N i j) fun a=>if room ([]:Z5).length a.1.length 32 then bif decide ((0:Int)<((([]:Z5)++a.1).length:Int))then oB (s_l30Rd_pick_m N ((([]:Z5)++a.1).length:Int) a.2.2.2.2.1 a.2.2.2.2.2) fun b=>(oB (s_l30Rd_pick_m N 12 b.2.1 b.2.2) fun c=>bif decide (c.1=0)then if 0<=b.1/\b.1<((([]:Z5)++a.1).length:Int)then oB ((([]:Z5)++a.1)[b.1.toNat]?) fun k=>(oB (s_l30Bent_m N k.2 c.2.1 c.2.2) fun e=>if 0<=b.1/\b.1<((([]:Z5)++a.1).length:Int)then oB ((([]:Z5)++a.1)[b.1.toNat]?) fun f=>(some (((([]:Z5)++a.1).set b.1.toNat (f.1,e.1)),a.2.1,a.2.2.1,a.2.2.2.1,e.2.1,e.2.2))else none)else none else bif decide (c.1=1)then oB (s_l30Rd_of_m N ([([]:List UInt8),([122,122]:List UInt8),([65]:List UInt8)]:List Z1) c.2.1 c.2.2) fun d=>(if 0<=b.1/\b.1<((([]:Z5)++a.1).length:Int)then oB ((([]:Z5)++a.1)[b.1.toNat]?) fun h=>(some (((([]:Z5)++a.1).set b.1.toNat (d.1,h.2)),a.2.1,a.2.2.1,a.2.2.2.1,d.2.1,d.2.2))else none)else bif decide (c.1=2)then oB (cut (([]:Z5)++a.1) 0 b.1) fun _=>(if fits (b.1+1)then oB (cut (([]:Z5)++a.1) (b.1+1) ((([]:Z5)++a.1).length:Int)) fun _=>(if b.1.toNat<=(b.1+1).toNat then some (((([]:Z5)++a.1).take b.1.toNat++((([]:Z5)++a.1).take (((([]:Z5)++a.1).length:Int).toNat)).drop ((b.1+1).toNat)),a.2.1,a.2.2.1,a.2.2.2.1,c.2.1,c.2.2)else none)else none)else some ((([]:Z5)++a.1),a.2.1,a.2.2.1,a.2.2.2.1,c.2.1,c.2.2))else(some ((([]:Z5)++a.1),a.2.1,a.2.2.1,a.2.2.2.1,a.2.2.2.2.1,a.2.2.2.2.2))else none)
theorem j2N :mK 63 ⟨⟨[.box 900000 0],[(900000,false,[.pv (.sl (.int .u8)),pI])]⟩,⟨[.tup [.agg [.own 1 Y18 114 true],.agg [.pv (.sl .str),.pv Y14,.own 2 Y1 33 false]]],[(900000,false,[.pv (.sl (.int .u8)),pI])]⟩,c2A (s_l30AnyDisk_m N)⟩:=
 mO (fC (j2O N) (fC (jtX N) (fC (jYX N) (fC (jt3 N) ja)))) func63 rfl N .no _ (wr:=[12,15,49,64]) (rs:=[900000]) (dw:=[58,63])
def jZS :Sh:=⟨.dead:: .box 1 0::dz 4 (.pv Y17::pI::pI::dz 29 []),[(1,false,[.pv Y17])]⟩
def i_DiskOk_m (c:Z5):Z10:=
 (iter (fun f (d,e,a,b)=>bif decide (a<e)then oB (idx d a) fun h=>(oB (jO N h.1) fun k=>bif !k then some false else bif decide ((0:Int)<a)then if fits (a-1)then oB (idx b (a-1)) fun i=>(bif !Op.bytesLess i.1 h.1 then some false else if fits (a+1)then f (d,e,(a+1),b)else none)else none else if fits (a+1)then f (d,e,(a+1),b)else none)else some (decide ((b.length:Int)<=24))) N (c,(c.length:Int),(0:Int),c))
theorem j0P :mK 22 (bX [.agg [.pv Y17]] [pB] (c1A (i_DiskOk_m N))):=
 mO (fC (jcM N) ja) func22 rfl N (.seq .no (.seq (.seq .no (.block (.loop jZS .no))) .no)) _
def i_genName_m (b:Int):Option (Z1):=
 (if fits (1000+b)then oB (k_strconv_Itoa_m N (1000+b)) fun a=>(if([103,101,110]:List UInt8).length+a.length<=9223372036854775807 then some (([103,101,110]:List UInt8)++a)else none)else none)
theorem j0B :mK 85 (bX [pI] [pS] (c1A (i_genName_m N))):=
 mO (fC (jO0 N) ja) func85 rfl N .no _
def j0n :Sh:=⟨.dead::pS::dz 7 (.pv Y17::pI::pI::dz 10 []),[]⟩
def i_Disk_file_m (b:Z5) (h:List UInt8):Option (Z1×Bool):=
 (iter (fun i (d,c,f,a)=>bif decide (a<f)then oB (idx c a) fun e=>(bif decide (e.1=d)then some (e.2,true)else if fits (a+1)then i (d,c,f,(a+1))else none)else some (([]:List UInt8),false)) N (h,b,(b.length:Int),(0:Int)))
theorem j0r :mK 84 (bX [.agg [.pv Y17],pS] [.tup [pS,pB]] (c2A (i_Disk_file_m N))):=
 mO ja func84 rfl N (.seq .no (.seq (.seq .no (.block (.loop j0n .no))) .no)) _
def jM7 :Sh:=⟨.dead:: .dead:: .box 2 0:: .box 3 0::dz 9 (.pv Y14::pI::pI::dz 17 []),[(2,false,[.nils,.nils]),(3,false,[.own 700300 .str 9 true,.own 700301 Y16 142 true])]⟩
def i_cloneConf_m (i:List Z1) (e:List Z4):Option ((List Z1)×(List Z4)):=
 (if room ([]:List Z1).length i.length 16 then iter (fun j (d,h,b,f,c)=>bif decide (b<h)then oB (idx d b) fun a=>(if room ([]:List Z1).length a.1.length 16 then if room c.length ([((([]:List Z1)++a.1),a.2)]:List Z4).length 40 then if fits (b+1)then j (d,h,(b+1),f,(c++([((([]:List Z1)++a.1),a.2)]:List Z4)))else none else none else none)else some (f,c)) N (e,(e.length:Int),(0:Int),(([]:List Z1)++i),([]:List Z4))else none)
theorem jLo :mK 140 (bX [.agg [.pv (.sl .str),.pv Y14]] [.agg [.own 1 .str 9 true,.own 2 Y16 142 true]] (c2A (i_cloneConf_m N))):=
 mO ja func140 rfl N (.seq .no (.seq .no (.seq (.seq .no (.block (.loop jM7 .no))) .no))) _
def jZO :Sh:=⟨pS:: .dead:: .dead:: .pv (.int .u32):: .dead:: .dead::pI::pI::dz 23 [],[]⟩
def j0x :Sh:=⟨pS:: .dead:: .dead:: .pv (.int .u32):: .dead:: .dead::pI::pI::dz 8 (pI::dz 14 []),[]⟩
def i_Crc_m (k:List UInt8):Z16:=
 (iter (fun o (i,m,j,h)=>bif decide (h<j)then oB (idx i h) fun n=>(iter (fun l (e,b,d,c,a)=>bif decide (a<8)then bif decide ((bitsI .and .u32 b 1)=1)then if 0<=(1:Int)then if fits (a+1)then l (e,(bitsI .xor .u32 (b.fdiv (2^(min (1:Int).toNat (IntKind.bits .u32)))) 3988292384),d,c,(a+1))else none else none else(if 0<=(1:Int)then if fits (a+1)then l (e,(b.fdiv (2^(min (1:Int).toNat (IntKind.bits .u32)))),d,c,(a+1))else none else none)else if fits (c+1)then o (e,b,d,(c+1))else none) N (i,(bitsI .xor .u32 m (IntKind.u32.wrap (n.toNat:Int))),j,h,(0:Int)))else some (IntKind.i64.wrap (bitsI .xor .u32 4294967295 m))) N (k,(4294967295:Int),(k.length:Int),(0:Int)))
theorem jZY :mK 87 (bX [pS] [pI] (c1A (i_Crc_m N))):=
 mO ja func87 rfl N (.seq .no (.seq .no (.seq (.seq .no (.block (.loop jZO (.seq .no (.seq .no (.seq (.block (.seq .no (.seq .no (.seq .no (.block (.loop j0x .no)))))) .no)))))) .no))) _
def jZQ :Sh:=⟨dz 3 (.box 3 0:: .box 4 0:: .dead:: .box 6 0::dz 5 (.box 12 0::dz 37 (.pv (.sl .str)::pI::pI::dz 44 []))),[(3,false,[.pv Y17]),(4,false,[.pv (.sl .str),.pv Y14]),(6,false,[.nils,.nils,.nils]),(12,false,[.own 701200 .str 9 true,.own 701201 Y16 142 true,.own 701202 Y1 33 true])]⟩
noncomputable def i_Disk_commit_m (o:Z5) (m:List Z1) (q:List Z4) (x:Int):Z13:=
 (oB (i_genName_m N x) fun y=>oB (i_Disk_file_m N o y) fun j=>oB (k_strings_Split_m N j.1 ([10]:List UInt8)) fun b=>if fits ((b.length:Int)-1)then bif !j.2 then some (([]:List Z1),([]:List Z4),([]:List Z2),false)else(oB (idx b ((b.length:Int)-1)) fun A=>bif !decide (A=([101,110,100]:List UInt8))then some (([]:List Z1),([]:List Z4),([]:List Z2),false)else oB (i_cloneConf_m N m q) fun u=>oB (cut b 0 ((b.length:Int)-1)) fun l=>iter (fun w (n,r,d,t,p,k,h,f,c)=>bif decide (d<r)then oB (idx n d) fun z=>(oB (k_strings_Cut_m N z ([32]:List UInt8)) fun i=>oB (i_Disk_file_m N t i.1) fun e=>bif !e.2 then some (([]:List Z1),([]:List Z4),([]:List Z2),false)else oB (i_Crc_m N e.1) fun v=>oB (k_strconv_Itoa_m N v) fun C=>bif !decide (C=i.2.1)then some (([]:List Z1),([]:List Z4),([]:List Z2),false)else oB (jY4 N p k e.1) fun a=>bif !a.2.2.2 then some (([]:List Z1),([]:List Z4),([]:List Z2),false)else if room c.length ([((a.1,a.2.1),a.2.2.1)]:List Z2).length 72 then if fits (d+1)then w (n,r,(d+1),t,p,k,h,f,(c++([((a.1,a.2.1),a.2.2.1)]:List Z2)))else none else none)else oB (i_IndexOk_m N h f c) fun D=>some (h,f,c,D)) N (l,(l.length:Int),(0:Int),o,m,q,u.1,u.2,([]:List Z2)))else none)
theorem j0h :mK 65 (bX [.agg [.pv Y17],.agg [.pv (.sl .str),.pv Y14],pI] [.tup [.agg [.own 1 .str 9 true,.own 2 Y16 142 true,.own 3 Y1 33 true],pB]] (c4A (i_Disk_commit_m N))):=
 mO (fC (j0B N) (fC (j0r N) (fC (jYi N) (fC (jLo N) (fC (jX0 N) (fC (jZY N) (fC (jO0 N) (fC (jYm N) (fC (jIr N) ja))))))))) func65 rfl N (.seq .no (.seq .no (.seq .no (.seq .no (.seq .no (.seq .no (.seq (.seq .no (.block (.loop jZQ .no))) .no))))))) _
def i_IndexNew_m (c:List Z1) (a:List Z4):Option ((List Z1)×(List Z4)×(List Z2)):=
 (oB (jaj N c a) fun d=>bif !d then some (([]:List Z1),([]:List Z4),([]:List Z2))else oB (i_cloneConf_m N c a) fun b=>some (b.1,b.2,([]:List Z2)))
theorem jRK :mK 66 (bX [.agg [.pv (.sl .str),.pv Y14]] [.agg [.own 1 .str 9 true,.own 2 Y16 142 true,.own 3 Y1 33 true]] (c2A (i_IndexNew_m N))):=
 mO (fC (jdX N) (fC (jLo N) ja)) func66 rfl N .no _
def jZ2 :Sh:=⟨.dead:: .dead:: .box 2 0:: .box 3 0:: .box 4 0:: .dead::pI::dz 27 [],[(2,false,[.pv (.sl .str),.pv Y14]),(3,false,[.pv Y17]),(4,false,[.nils,.nils,.nils])]⟩
noncomputable def i_DiskOpen_m (i:List Z1) (h:List Z4) (f:Z5):Option ((List Z1)×(List Z4)×(List Z2)×Int):=
 (oB (jaj N i h) fun n=>bif !n then some (([]:List Z1),([]:List Z4),([]:List Z2),(-1))else oB (i_DiskOk_m N f) fun k=>bif !k then some (([]:List Z1),([]:List Z4),([]:List Z2),(-1))else iter (fun l (a,c,e,j)=>bif decide ((1:Int)<=a)then oB (i_Disk_commit_m N j c e a) fun b=>(bif b.2.2.2 then some (b.1,b.2.1,b.2.2.1,a)else if fits (a-1)then l ((a-1),c,e,j)else none)else oB (i_IndexNew_m N c e) fun d=>some (d.1,d.2.1,d.2.2,0)) N ((99:Int),i,h,f))
theorem j0w :mK 19 (bX [.agg [.pv (.sl .str),.pv Y14],.agg [.pv Y17]] [.tup [.agg [.own 1 .str 9 true,.own 2 Y16 142 true,.own 3 Y1 33 true],pI]] (c3A (i_DiskOpen_m N))):=
 mO (fC (jdX N) (fC (j0P N) (fC (j0h N) (fC (jRK N) ja)))) func19 rfl N (.seq .no (.seq .no (.seq (.seq .no (.block (.loop jZ2 .no))) .no))) _
def jve :Sh:=⟨.pv (.sl .str):: .pv (.sl .str)::dz 3 (pI::dz 20 []),[]⟩
def j0Z (c:List Z1) (d:List Z1):Z10:=
 (bif !decide ((c.length:Int)=(d.length:Int))then some false else iter (fun h (b,e,a)=>bif decide (a<(b.length:Int))then oB (idx b a) fun j=>(oB (idx e a) fun f=>bif !decide (j=f)then some false else if fits (a+1)then h (b,e,(a+1))else none)else some true) N (c,d,(0:Int)))
theorem juE :mK 145 (bX [.pv (.sl .str),.pv (.sl .str)] [pB] (c2A (j0Z N))):=
 mO ja func145 rfl N (.seq .no (.seq .no (.seq (.seq .no (.block (.loop jve .no))) .no))) _
def jRo :Sh:=⟨.dead:: .dead:: .box 2 0:: .box 3 0:: .dead::pI::dz 51 [],[(2,false,[.pv (.sl .str),.pv Y14]),(3,false,[.pv (.sl .str),.pv Y14])]⟩
def j1a (h:List Z1) (e:List Z4) (d:List Z1) (f:List Z4):Z10:=
 (oB (j0Z N h d) fun p=>bif !p then some false else bif !decide ((e.length:Int)=(f.length:Int))then some false else iter (fun l (a,m,b,i,c)=>bif decide (a<(b.length:Int))then oB (idx b a) fun n=>(oB (idx c a) fun q=>bif !decide (n.2=q.2)then some false else oB (idx b a) fun k=>oB (idx c a) fun o=>oB (j0Z N k.1 o.1) fun j=>bif !j then some false else if fits (a+1)then l ((a+1),m,b,i,c)else none)else some true) N ((0:Int),h,e,d,f))
theorem jRp :mK 69 (bX [.agg [.pv (.sl .str),.pv Y14],.agg [.pv (.sl .str),.pv Y14]] [pB] (c4A (j1a N))):=
 mO (fC (juE N) ja) func69 rfl N (.seq .no (.seq .no (.seq (.seq .no (.block (.loop jRo .no))) .no))) _
def jRj :Sh:=⟨.dead:: .dead:: .box 2 0:: .box 3 0:: .dead::pI::dz 60 [],[(2,false,[pI,.pv Y17,.pv Y13]),(3,false,[pI,.pv Y17,.pv Y13])]⟩
def jRu :Sh:=⟨.dead:: .dead:: .box 2 0:: .box 3 0:: .dead:: .dead::pI::dz 59 [],[(2,false,[pI,.pv Y17,.pv Y13]),(3,false,[pI,.pv Y17,.pv Y13])]⟩
def l_foDoc_m (v:Int) (m:Z5) (n:Z8) (l:Int) (u:Z5) (i:Z8):Z10:=
 (bif !decide (v=l)then some false else bif !decide ((m.length:Int)=(u.length:Int))then some false else bif !decide ((n.length:Int)=(i.length:Int))then some false else iter (fun z (a,j,c,w,t,f,r)=>bif decide (a<(c.length:Int))then oB (idx c a) fun p=>(oB (idx f a) fun q=>bif !((decide (p.1=q.1))&&(decide (p.2=q.2)))then some false else if fits (a+1)then z ((a+1),j,c,w,t,f,r)else none)else iter (fun B (b,y,C,d,x,A,h)=>bif decide (b<(d.length:Int))then oB (idx d b) fun k=>(oB (idx h b) fun o=>bif !((decide (k.1=o.1))&&(decide (k.2=o.2)))then some false else if fits (b+1)then B ((b+1),y,C,d,x,A,h)else none)else some true) N ((0:Int),j,c,w,t,f,r)) N ((0:Int),v,m,n,l,u,i))
theorem jRr :mK 268 (bX [.agg [pI,.pv Y17,.pv Y13],.agg [pI,.pv Y17,.pv Y13]] [pB] (c6A (l_foDoc_m N))):=
 mO ja func268 rfl N (.seq .no (.seq .no (.seq (.seq .no (.block (.loop jRj .no))) (.seq (.seq .no (.block (.loop jRu .no))) .no)))) _
def jRs :Sh:=⟨.pv Y3:: .pv Y3::dz 3 (pI::dz 21 []),[]⟩
def l_foDocs_m (e:List Z0) (f:List Z0):Z10:=
 (bif !decide ((e.length:Int)=(f.length:Int))then some false else iter (fun i (c,h,a)=>bif decide (a<(c.length:Int))then oB (idx c a) fun d=>(oB (idx h a) fun b=>oB (l_foDoc_m N d.1 d.2.1 d.2.2 b.1 b.2.1 b.2.2) fun k=>bif !k then some false else if fits (a+1)then i (c,h,(a+1))else none)else some true) N (e,f,(0:Int)))
theorem jQV :mK 216 (bX [.pv Y3,.pv Y3] [pB] (c2A (l_foDocs_m N))):=
 mO (fC (jRr N) ja) func216 rfl N (.seq .no (.seq .no (.seq (.seq .no (.block (.loop jRs .no))) .no))) _
def l_foInts_m (c:List Int) (d:List Int):Z10:=
 (bif !decide ((c.length:Int)=(d.length:Int))then some false else iter (fun h (b,e,a)=>bif decide (a<(b.length:Int))then oB (idx b a) fun j=>(oB (idx e a) fun f=>bif !decide (j=f)then some false else if fits (a+1)then h (b,e,(a+1))else none)else some true) N (c,d,(0:Int)))
theorem jQS :mK 147 (bX [.pv Y19,.pv Y19] [pB] (c2A (l_foInts_m N))):=
 mO ja func147 rfl N (.seq .no (.seq .no (.seq (.seq .no (.block (.loop jnI .no))) .no))) _
def jQ6 :Sh:=⟨.pv Y11:: .pv Y11::dz 3 (pI::dz 36 []),[]⟩
def l_foPosts_m (d:Z6) (e:Z6):Z10:=
 (bif !decide ((d.length:Int)=(e.length:Int))then some false else iter (fun h (b,c,a)=>bif decide (a<(b.length:Int))then oB (idx b a) fun i=>(oB (idx c a) fun m=>bif !decide (i.1=m.1)then some false else oB (idx b a) fun f=>oB (idx c a) fun k=>oB (l_foInts_m N f.2 k.2) fun l=>bif !l then some false else if fits (a+1)then h (b,c,(a+1))else none)else some true) N (d,e,(0:Int)))
theorem jRl :mK 217 (bX [.pv Y11,.pv Y11] [pB] (c2A (l_foPosts_m N))):=
 mO (fC (jQS N) ja) func217 rfl N (.seq .no (.seq .no (.seq (.seq .no (.block (.loop jQ6 .no))) .no))) _
def jQ7 :Sh:=⟨.dead:: .dead:: .box 2 0:: .box 3 0:: .dead::pI::dz 66 [],[(2,false,[.pv Y3,.pv Y5]),(3,false,[.pv Y3,.pv Y5])]⟩
def l_foSeg_m (h:List Z0) (e:List Z3) (d:List Z0) (f:List Z3):Z10:=
 (oB (l_foDocs_m N h d) fun p=>bif !p then some false else bif !decide ((e.length:Int)=(f.length:Int))then some false else iter (fun m (a,t,b,i,c)=>bif decide (a<(b.length:Int))then oB (idx b a) fun q=>(oB (idx c a) fun r=>bif !decide (q.1=r.1)then some false else oB (idx b a) fun l=>oB (idx c a) fun o=>bif !decide (l.2.1=o.2.1)then some false else oB (idx b a) fun n=>oB (idx c a) fun k=>oB (l_foPosts_m N n.2.2 k.2.2) fun j=>bif !j then some false else if fits (a+1)then m ((a+1),t,b,i,c)else none)else some true) N ((0:Int),h,e,d,f))
theorem jRc :mK 146 (bX [.agg [.pv Y3,.pv Y5],.agg [.pv Y3,.pv Y5]] [pB] (c4A (l_foSeg_m N))):=
 mO (fC (jQV N) (fC (jRl N) ja)) func146 rfl N (.seq .no (.seq .no (.seq (.seq .no (.block (.loop jQ7 .no))) .no))) _
def j06 (i:List Z0) (d:List Z3) (f:List Int) (c:List Z0) (e:List Z3) (a:List Int):Z10:=
 (oB (l_foSeg_m N i d c e) fun h=>bif h then oB (l_foInts_m N f a) fun b=>(some b)else some false)
theorem jQ4 :mK 70 (bX [.agg [.pv Y3,.pv Y5,.pv Y19],.agg [.pv Y3,.pv Y5,.pv Y19]] [pB] (c6A (j06 N))):=
 mO (fC (jRc N) (fC (jQS N) ja)) func70 rfl N .no _
def jRd :Sh:=⟨.dead:: .dead:: .box 2 0:: .box 3 0:: .dead::pI::dz 34 [],[(2,false,[.pv (.sl .str),.pv Y14,.pv Y0]),(3,false,[.pv (.sl .str),.pv Y14,.pv Y0])]⟩
def l_foIndex_m (l:List Z1) (h:List Z4) (i:List Z2) (f:List Z1) (k:List Z4) (e:List Z2):Z10:=
 (oB (j1a N l h f k) fun p=>bif !p then some false else bif !decide ((i.length:Int)=(e.length:Int))then some false else iter (fun o (a,m,r,d,q,u,j)=>bif decide (a<(d.length:Int))then oB (idx d a) fun b=>(oB (idx j a) fun c=>oB (j06 N b.1.1 b.1.2 b.2 c.1.1 c.1.2 c.2) fun n=>bif !n then some false else if fits (a+1)then o ((a+1),m,r,d,q,u,j)else none)else some true) N ((0:Int),l,h,i,f,k,e))
theorem jRf :mK 21 (bX [.agg [.pv (.sl .str),.pv Y14,.pv Y0],.agg [.pv (.sl .str),.pv Y14,.pv Y0]] [pB] (c6A (l_foIndex_m N))):=
 mO (fC (jRp N) (fC (jQ4 N) ja)) func21 rfl N (.seq .no (.seq .no (.seq (.seq .no (.block (.loop jRd .no))) .no))) _
def s_DrawDiskCommit_m (c:List Int):Option (Z7×(List Z1)×(List Z4)×(List Z2)×Int):=
 (oB (s_l30Open_m N c) fun b=>oB (s_l30AnyDisk_m N b.1 b.2) fun a=>oB (s_l30Rd_one_m N ([(-1),0,1,2,3,9]:List Int) a.2.2.2.2.1 a.2.2.2.2.2) fun d=>some (a.1,a.2.1,a.2.2.1,a.2.2.2.1,d.1))
theorem j3b :mK 32 (bX [.pv (.sl (.int .u8))] [.tup [.agg [.own 1 Y18 114 true],.agg [.pv (.sl .str),.pv Y14,.own 2 Y1 33 false],pI]] (c1A (s_DrawDiskCommit_m N))):=
 mO (fC (juQ N) (fC (j2N N) (fC (juA N) ja))) func32 rfl N .no _
def jbn (N:Nat) (a:List UInt8):Z10:=
 (some (!decide (a=a)))
theorem jkt :mK 204 (bX [pS] [pB] (c1A (jbn N))):=
 mO ja func204 rfl N .no _
def jam (a:List UInt8) (b:List UInt8):Z16:=
 (oB (jbn N a) fun d=>oB (jbn N b) fun c=>bif d then bif c then some 0 else(some (-1))else bif c then some 1 else bif Op.bytesLess a b then some (-1)else bif !(Op.bytesLess a b||decide (a=b))then some 1 else some 0)
theorem ji2 :mK 126 (bX [pS,pS] [pI] (c2A (jam N))):=
 mO (fC (jkt N) ja) func126 rfl N .no _
def j08 (c:List UInt8) (d:List UInt8) (a:List UInt8) (e:List UInt8):Z16:=
 (oB (jam N c a) fun b=>some b)
theorem j0T :mK 164 (bX [.agg [pS,pS],.agg [pS,pS]] [pI] (c4A (j08 N))):=
 mO (fC (ji2 N) ja) func164 rfl N .no _
def cmp581 (N:Nat):(Unit)->(Z1×Z1)->(Z1×Z1)->Option Int:=(fun(cmp:Unit) (e e2:Z1×Z1)=>j08 N e.1 e.2 e2.1 e2.2)
def j3f :Sh:=⟨.mtk 800000 Y18 114 true::pI::pI:: .clo 164 []::dz 4 (pI::dz 44 []),[]⟩
def j2q :Sh:=⟨.mtk 800000 Y18 114 true::pI::pI:: .clo 164 []::dz 4 (pI::pI::dz 43 []),[]⟩
def j2d (c:Z5) (a:Int) (b:Int) (d:Unit):Option (Z7):=insG (cmp581 N) N c a b d
 
theorem j3c :mK 284 (bX [.mtk 800000 Y18 114 true,pI,pI,.clo 164 []] [.tup [],.mtk 800000 Y18 114 true] (c4A (j2d N))):=
 mO (fC (j0T N) ja) func284 rfl N (.seq .no (.block (.loop j3f (.seq .no (.seq (.block (.seq .no (.block (.loop j2q .no)))) .no))))) _ (rs:=[800000])
def j25 :Sh:=⟨.mtk 800000 Y18 114 true:: .dead::pI::pI:: .clo 164 []::dz 5 (pI::dz 71 []),[]⟩
def j3s :Sh:=⟨.mtk 800000 Y18 114 true:: .dead::pI::pI:: .clo 164 []::dz 5 (pI::pI::dz 70 []),[]⟩
def j2J (b:Z5) (a:Int) (c:Int) (e:Int) (d:Unit):Option (Z7):=siftG (cmp581 N) N b a c e d
 
theorem j2X :mK 326 (bX [.mtk 800000 Y18 114 true,pI,pI,pI,.clo 164 []] [.tup [],.mtk 800000 Y18 114 true] (c5A (j2J N))):=
 mO (fC (j0T N) ja) func326 rfl N (.seq .no (.block (.loop j25 (.block (.seq .no (.seq .no (.meet j3s .no .no))))))) _ (rs:=[800000])
def j2M :Sh:=⟨.mtk 800000 Y18 114 true:: .dead:: .dead:: .clo 164 []::dz 4 (pI::pI::pI::pI::dz 48 []),[]⟩
def j22 :Sh:=⟨.mtk 800000 Y18 114 true:: .dead:: .dead:: .clo 164 []::dz 4 (pI::pI:: .dead:: .dead::pI::dz 47 []),[]⟩
def j2b (c:Z5) (a:Int) (b:Int) (d:Unit):Option (Z7):=heapG (cmp581 N) N c a b d
 
theorem j3x :mK 285 (bX [.mtk 800000 Y18 114 true,pI,pI,.clo 164 []] [.tup [],.mtk 800000 Y18 114 true] (c4A (j2b N))):=
 mO (fC (j2X N) ja) func285 rfl N (.seq .no (.seq .no (.seq .no (.seq (.seq .no (.block (.loop j2M .no))) (.seq .no (.block (.loop j22 .no))))))) _ (rs:=[800000])
def j3a :Sh:=⟨.mtk 800000 Y18 114 true::pI::dz 6 (pI:: .box 9 0:: .pv (.int .u64)::pI::dz 55 []),[(9,false,[.pv (.int .u64)])]⟩
def j19 :Sh:=⟨.mtk 800000 Y18 114 true::pI::dz 6 (pI:: .box 9 0:: .pv (.int .u64)::pI::pI::dz 54 []),[(9,false,[.pv (.int .u64)])]⟩
def j2m (c:Z5) (a:Int) (b:Int) (d:Unit):Option (Z7):=breakG N c a b d
 
theorem j2a :mK 286 (bX [.mtk 800000 Y18 114 true,pI,pI,.clo 164 []] [.tup [],.mtk 800000 Y18 114 true] (c4A (j2m N))):=
 mO (fC (jhv N) (fC (jet N) ja)) func286 rfl N (.seq .no (.seq .no (.cond (.seq .no (.seq .no (.seq .no (.block (.loop j3a (.seq .no (.seq (.block (.seq .no (.meet j19 .no .no))) .no))))))) .no))) _ (rs:=[800000])
def j3u (c:Z5) (a:Int) (b:Int) (e:Unit) (d:Int):Option (Int×Int×Z7×Int):=order2G (cmp581 N) N c a b e d
 
theorem j24 :mK 343 ⟨⟨[.mtk 800000 Y18 114 true,pI,pI,.box 900003 0,.clo 164 []],[(900003,false,[pI])]⟩,⟨[.tup [pI,pI],.mtk 800000 Y18 114 true],[(900003,false,[pI])]⟩,c5A (j3u N)⟩:=
 mO (fC (j0T N) ja) func343 rfl N .no _ (rs:=[900003,800000])
def j2e (d:Z5) (a:Int) (c:Int) (b:Int) (f:Unit) (e:Int):Option (Int×Z7×Int):=medianG (cmp581 N) N d a c b f e
 
theorem j1L :mK 328 ⟨⟨[.mtk 800000 Y18 114 true,pI,pI,pI,.box 900004 0,.clo 164 []],[(900004,false,[pI])]⟩,⟨[pI,.mtk 800000 Y18 114 true],[(900004,false,[pI])]⟩,c6A (j2e N)⟩:=
 mO (fC (j24 N) ja) func328 rfl N .no _ (rs:=[900004,800000])
def j2K (c:Z5) (a:Int) (d:Unit) (b:Int):Option (Int×Z7×Int):=medianAdjacentG (cmp581 N) N c a d b
 
theorem j2y :mK 327 ⟨⟨[.mtk 800000 Y18 114 true,pI,.box 900002 0,.clo 164 []],[(900002,false,[pI])]⟩,⟨[pI,.mtk 800000 Y18 114 true],[(900002,false,[pI])]⟩,c4A (j2K N)⟩:=
 mO (fC (j1L N) ja) func327 rfl N .no _ (rs:=[900002,800000])
def j2s :Sh:=⟨.mtk 800000 Y18 114 true:: .dead:: .dead:: .clo 164 []::dz 7 (.box 11 0::pI::pI::pI::dz 48 []),[(11,false,[pI])]⟩
def j2H :Sh:=⟨.mtk 800000 Y18 114 true::dz 10 (.box 11 0:: .dead::pI::dz 49 []),[(11,false,[pI])]⟩
def j2D (c:Z5) (a:Int) (b:Int) (d:Unit):Option (Int×Int×Z7):=choosePivotG (cmp581 N) N c a b d
 
theorem j2F :mK 287 (bX [.mtk 800000 Y18 114 true,pI,pI,.clo 164 []] [.tup [pI,pI],.mtk 800000 Y18 114 true] (c4A (j2D N))):=
 mO (fC (j2y N) (fC (j1L N) ja)) func287 rfl N (.seq .no (.seq .no (.seq .no (.seq .no (.seq .no (.seq .no (.meet j2H (.seq .no (.cond (.meet j2s .no .no) .no)) .no))))))) _ (rs:=[800000])
def j12 :Sh:=⟨.mtk 800000 Y18 114 true::dz 7 (pI::pI::dz 24 []),[]⟩
def j3m (c:Z5) (a:Int) (b:Int) (d:Unit):Option (Z7):=reverseRangeG N c a b d
 
theorem j2c :mK 288 (bX [.mtk 800000 Y18 114 true,pI,pI,.clo 164 []] [.tup [],.mtk 800000 Y18 114 true] (c4A (j3m N))):=
 mO ja func288 rfl N (.seq .no (.seq .no (.block (.loop j12 .no)))) _ (rs:=[800000])
def j1i :Sh:=⟨.mtk 800000 Y18 114 true::pI::pI:: .clo 164 []::dz 5 (pI::pI::dz 130 []),[]⟩
def j2u :Sh:=⟨.mtk 800000 Y18 114 true::pI::pI:: .clo 164 []::dz 5 (pI::pI::pI::dz 129 []),[]⟩
def j2n :Sh:=⟨.mtk 800000 Y18 114 true::pI::pI:: .clo 164 []::dz 5 (pI::pI:: .dead::pI::dz 128 []),[]⟩
def j3e (c:Z5) (a:Int) (b:Int) (d:Unit):Option (Bool×Z7):=pisG (cmp581 N) N c a b d
 
theorem j2Z :mK 289 (bX [.mtk 800000 Y18 114 true,pI,pI,.clo 164 []] [pB,.mtk 800000 Y18 114 true] (c4A (j3e N))):=
 mO (fC (j0T N) ja) func289 rfl N (.seq .no (.seq .no (.seq (.seq .no (.block (.loop j1i (.seq .no (.seq (.block (.seq (.block (.loop j1i .no)) (.seq .no (.seq .no (.seq .no (.meet j1i (.seq .no (.cond (.seq .no (.block (.loop j2u .no))) .no)) (.seq .no (.cond (.seq .no (.block (.loop j2n .no))) .no)))))))) .no))))) .no))) _ (rs:=[800000])
def j1j :Sh:=⟨.mtk 800000 Y18 114 true::pI:: .dead:: .dead:: .clo 164 []::dz 6 (pI::pI::dz 77 []),[]⟩
def j3n (c:Z5) (e:Int) (b:Int) (a:Int) (d:Unit):Option (Int×Z7):=peqG (cmp581 N) N c e b a d
 
theorem j2z :mK 290 (bX [.mtk 800000 Y18 114 true,pI,pI,pI,.clo 164 []] [pI,.mtk 800000 Y18 114 true] (c5A (j3n N))):=
 mO (fC (j0T N) ja) func290 rfl N (.seq .no (.seq .no (.seq .no (.seq (.block (.loop j1j (.block (.seq (.block (.loop j1j .no)) (.seq (.block (.loop j1j .no)) .no))))) .no)))) _ (rs:=[800000])
def j00 :Sh:=⟨.mtk 800000 Y18 114 true::pI:: .dead:: .dead:: .clo 164 []::dz 7 (pI::pI::dz 164 []),[]⟩
def j23 (c:Z5) (e:Int) (b:Int) (a:Int) (d:Unit):Option (Int×Bool×Z7):=partG (cmp581 N) N c e b a d
 
theorem j2T :mK 291 (bX [.mtk 800000 Y18 114 true,pI,pI,pI,.clo 164 []] [.tup [pI,pB],.mtk 800000 Y18 114 true] (c5A (j23 N))):=
 mO (fC (j0T N) ja) func291 rfl N (.seq .no (.seq .no (.seq .no (.seq (.block (.loop j00 .no)) (.seq (.block (.loop j00 .no)) (.seq .no (.seq .no (.seq .no (.seq .no (.seq (.block (.loop j00 (.block (.seq (.block (.loop j00 .no)) (.seq (.block (.loop j00 .no)) .no))))) .no)))))))))) _ (rs:=[800000])
def j3l :Sh:=⟨.mtk 800000 Y18 114 true::pI::pI::pI:: .clo 164 []::dz 5 (pB::pB::dz 136 []),[]⟩
def j20 :Sh:=⟨.mtk 800000 Y18 114 true::pI::pI::pI:: .clo 164 []::dz 5 (pB::pB::pI::pI::dz 134 []),[]⟩
def j2V :Sh:=⟨.mtk 800000 Y18 114 true::pI::pI::pI:: .clo 164 []::dz 5 (pB::pB::pI::pI::pI::dz 133 []),[]⟩
def j2h :Sh:=⟨.mtk 800000 Y18 114 true::pI::pI::pI:: .clo 164 []::dz 5 (pB::pB::pI::dz 135 []),[]⟩
def j1u (N D:Nat) (h:Z5) (b a limit:Int) (e:Unit):Option (Z7):=pdqG (cmp581 N) (fun c b a d=>heapG (cmp581 N) N c b a d) (fun c b a f d=>peqG (cmp581 N) N c b a f d) N D h b a limit e
 
def j1d (N D:Nat):Model:=⟨⟨[.mtk 800000 Y18 114 true,pI,pI,pI,.clo 164 []],[]⟩,⟨[.tup [],.mtk 800000 Y18 114 true],[]⟩,c5A (j1u N D)⟩
theorem j2P (N D:Nat) (ih:mK 224 (j1d N D)):mK 224 (j1d N (D+1)):=
 mO (fC ih (fC (j3c N) (fC (j3x N) (fC (j2a N) (fC (j2F N) (fC (j2c N) (fC (j2Z N) (fC (j0T N) (fC (j2z N) (fC (j2T N) ja)))))))))) func224 rfl N (.seq .no (.seq .no (.block (.loop j3l (.block (.seq .no (.seq .no (.seq .no (.meet j2h .no (.seq .no (.meet j2V .no (.meet j20 .no .no)))))))))))) (j1d N (D+1)) (rs:=[800000])
theorem j1B (N:Nat):∀D,mK 224 (j1d N D)
 |0=>modelOk_none ⟨_,func224,by decide,by kernel_rfl⟩ _ (fun a=>rfl)
 |D+1=>j2P N D (j1B N D)
def k_slices_SortFunc_581_m (a:Z5) (d:Unit):Option (Z7):=
 (oB (k_math_bits_Len_m N (IntKind.u64.wrap (a.length:Int))) fun c=>oB (j1u N N a 0 (a.length:Int) c ()) fun b=>some b)
theorem j2C :mK 163 (bX [.mtk 800000 Y18 114 true,.clo 164 []] [.tup [],.mtk 800000 Y18 114 true] (c2A (k_slices_SortFunc_581_m N))):=
 mO (fC (jda N) (fC (j1B N N) ja)) func163 rfl N .no _ (rs:=[800000])
def j10 :Sh:=⟨.box 900000 0::pS::pS::dz 8 (pI::pI::dz 38 []),[(900000,false,[.mtk 850000 Y18 114 true])]⟩
def j0Y (i:List UInt8) (h:List UInt8) (e:Z5):Option (Z7):=
 (iter (fun j (d,c,f,a,b)=>bif decide (a<f)then if 0<=a/\a<(b.length:Int)then oB (b[a.toNat]?) fun k=>(bif decide (k.1=d)then if 0<=a/\a<(b.length:Int)then oB (b[a.toNat]?) fun n=>(some (b.set a.toNat (n.1,c)))else none else if fits (a+1)then j (d,c,f,(a+1),b)else none)else none else if room b.length ([(d,c)]:Z5).length 32 then oB (k_slices_SortFunc_581_m N (b++([(d,c)]:Z5)) ()) fun m=>(some m)else none) N (i,h,(e.length:Int),(0:Int),e))
theorem j2A :mK 88 ⟨⟨[.box 900000 0,pS,pS],[(900000,false,[.mtk 850000 Y18 114 true])]⟩,⟨[.tup []],[(900000,false,[.mtk 1 Y18 114 true])]⟩,c3A (j0Y N)⟩:=
 mO (fC (j2C N) ja) func88 rfl N (.seq (.seq .no (.block (.loop j10 .no))) .no) _ (wr:=[42,43]) (rs:=[900000,850000])
def j1V :Sh:=⟨pS::pI::dz 3 (pI::dz 40 []),[]⟩
def j07 (a:List UInt8) (k:Int):Z10:=
 (bif decide ((a.length:Int)<7)then some false else oB (cut a 0 3) fun q=>bif !decide (q=([103,101,110]:List UInt8))then oB (cut a 0 3) fun w=>(bif !decide (w=([115,101,103]:List UInt8))then some false else iter (fun o (e,h,c)=>bif decide (c<7)then oB (idx e c) fun p=>(bif decide ((p.toNat:Int)<48)then some false else oB (idx e c) fun v=>bif decide ((57:Int)<(v.toNat:Int))then some false else if fits (c+1)then o (e,h,(c+1))else none)else oB (cut e 3 7) fun t=>oB (jXn N t) fun l=>if fits (l-1000)then if fits (h-1)then oB (jm N (l-1000) 1 (h-1)) fun m=>(some m)else none else none) N (a,k,(3:Int)))else iter (fun y (d,f,b)=>bif decide (b<7)then oB (idx d b) fun u=>(bif decide ((u.toNat:Int)<48)then some false else oB (idx d b) fun n=>bif decide ((57:Int)<(n.toNat:Int))then some false else if fits (b+1)then y (d,f,(b+1))else none)else oB (cut d 3 7) fun r=>oB (jXn N r) fun j=>if fits (j-1000)then if fits (f-1)then oB (jm N (j-1000) 1 (f-1)) fun x=>(some x)else none else none) N (a,k,(3:Int)))
theorem j2l :mK 91 (bX [pS,pI] [pB] (c2A (j07 N))):=
 mO (fC (jXC N) (fC (jY N) ja)) func91 rfl N (.seq .no (.seq .no (.seq (.seq .no (.block (.loop j1V .no))) .no))) _
def j0U (b:List UInt8) (d:List UInt8) (a:Int):Z10:=
 (oB (j07 N b a) fun c=>some c)
theorem j1q :mK 90 (bX [.agg [pS,pS],.ptr tI] [pB] (c3A (j0U N))):=
 mO (fC (j2l N) ja) func90 rfl N .no _
def j11 :Sh:=⟨.mtk 800000 Y18 114 true:: .clo 90 [.ptr tI]::dz 5 (pI::pI::dz 10 []),[]⟩
def j03 (c:Z5) (h:Int):Option (Int×Z7):=
 (iter (fun i (b,e,d,a)=>bif decide (a<d)then if 0<=a/\a<(b.length:Int)then oB (b[a.toNat]?) fun f=>(oB (j0U N f.1 f.2 e) fun k=>bif k then some (a,b)else if fits (a+1)then i (b,e,d,(a+1))else none)else none else some ((-1),b)) N (c,h,(c.length:Int),(0:Int)))
theorem j1X :mK 165 (bX [.mtk 800000 Y18 114 true,.clo 90 [.ptr tI]] [pI,.mtk 800000 Y18 114 true] (c2A (j03 N))):=
 mO (fC (j1q N) ja) func165 rfl N (.seq .no (.seq (.seq .no (.block (.loop j11 .no))) .no)) _ (rs:=[800000])
def j2W :Sh:=⟨.mtk 800000 Y18 114 true:: .clo 90 [.ptr tI]::dz 3 (pI::pI::dz 35 []),[]⟩
def j02 (l:Z5) (h:Int):Option (Z7):=
 (oB (j03 N l h) fun d=>bif decide (d.1=(-1))then some d.2 else if fits (d.1+1)then iter (fun i (a,e,b,c)=>bif decide (c<(a.length:Int))then if 0<=c/\c<(a.length:Int)then oB (a[c.toNat]?) fun f=>(oB (j0U N f.1 f.2 e) fun j=>bif !j then if 0<=b/\b<(a.length:Int)then oB (a[b.toNat]?) fun n=>(if fits (b+1)then if fits (c+1)then i ((a.set b.toNat f),e,(b+1),(c+1))else none else none)else none else if fits (c+1)then i (a,e,b,(c+1))else none)else none else oB (cut a b (a.length:Int)) fun _=>oB (cut (a.take b.toNat++List.replicate ((a.length:Int).toNat-b.toNat) (([]:List UInt8),([]:List UInt8))++a.drop ((a.length:Int).toNat)) 0 b) fun k=>some k) N (d.2,h,d.1,(d.1+1))else none)
theorem j3h :mK 89 (bX [.mtk 800000 Y18 114 true,.clo 90 [.ptr tI]] [.own 1 Y18 114 true,.dead] (c2A (j02 N))):=
 mO (fC (j1X N) (fC (j1q N) ja)) func89 rfl N (.seq .no (.seq .no (.seq .no (.seq (.seq .no (.block (.loop j2W .no))) .no)))) _ (wr:=[41]) (rs:=[800000]) (dw:=[38])
def j26 :Sh:=⟨.dead:: .dead::pI:: .box 3 0:: .box 4 0:: .dead:: .box 6 0:: .dead:: .box 8 0:: .box 9 0::pI::dz 134 [],[(3,false,[.pv Y17]),(4,false,[.pv (.sl .str),.pv Y14,.pv Y0]),(6,false,[.nils]),(8,false,[.mtk 700800 Y18 114 true]),(9,false,[pI])]⟩
def j2L :Sh:=⟨.dead:: .dead::pI:: .dead:: .box 4 0:: .dead:: .box 6 0:: .dead:: .box 8 0:: .box 9 0::dz 3 (.mtk 600013 Y18 114 true::pS::dz 46 (.pv Y0::pI::pI::dz 81 [])),[(4,false,[.pv (.sl .str),.pv Y14,.pv Y0]),(6,false,[.nils]),(8,false,[.mtk 700800 Y18 114 true]),(9,false,[pI])]⟩
def j3q :Sh:=⟨.dead:: .dead::pI::dz 3 (.box 6 0:: .dead:: .box 8 0:: .box 9 0::dz 3 (.pv Y17::dz 91 (.pv Y17::pI::pI::dz 37 []))),[(6,false,[.nils]),(8,false,[.mtk 700800 Y18 114 true]),(9,false,[pI])]⟩
noncomputable def i_DiskCommit_m (d:Z5) (x:List Z1) (x2:List Z4) (x3:List Z2) (writes:Int):Option (Z7×Int):=
 (oB (i_DiskOk_m N d) fun r=>bif !r then some (([]:Z5),(-1))else oB (i_IndexOk_m N x x2 x3) fun r2=>bif !r2 then some (([]:Z5),(-1))else if room ([]:Z5).length d.length 32 then iter (fun go (writes2,k,d2,x4,x5,x6,out,n)=>bif decide (k<=99)then oB (i_genName_m N k) fun r3=>(oB (i_Disk_file_m N d2 r3) fun r4=>bif r4.2 then if fits (k+1)then if fits (k+1)then go (writes2,(k+1),d2,x4,x5,x6,out,(k+1))else none else none else if fits (k+1)then go (writes2,(k+1),d2,x4,x5,x6,out,n)else none)else bif decide ((99:Int)<n)then some (out,0)else if fits ((d2.length:Int)+5)then if fits (((d2.length:Int)+5)+1)then bif decide ((24:Int)<(((d2.length:Int)+5)+1))then some (out,0)else(iter (fun go2 (writes3,list,manifest,t61,t62,t63,x7,x8,x9,out2,n2)=>bif decide (t63<t62)then oB (idx t61 t63) fun e=>(if fits (1000+n2)then oB (k_strconv_Itoa_m N (1000+n2)) fun r5=>(if([115,101,103]:List UInt8).length+r5.length<=9223372036854775807 then if(([115,101,103]:List UInt8)++r5).length+([120]:List UInt8).length<=9223372036854775807 then oB (k_strconv_Itoa_m N t63) fun r6=>(if((([115,101,103]:List UInt8)++r5)++([120]:List UInt8)).length+r6.length<=9223372036854775807 then oB (i_LivePut_m N x7 x8 e.1.1 e.1.2 e.2) fun r7=>(if room list.length ([((((([115,101,103]:List UInt8)++r5)++([120]:List UInt8))++r6),r7)]:Z5).length 32 then if(((([115,101,103]:List UInt8)++r5)++([120]:List UInt8))++r6).length+([32]:List UInt8).length<=9223372036854775807 then oB (i_Crc_m N r7) fun r8=>(oB (k_strconv_Itoa_m N r8) fun r9=>if((((([115,101,103]:List UInt8)++r5)++([120]:List UInt8))++r6)++([32]:List UInt8)).length+r9.length<=9223372036854775807 then if(((((([115,101,103]:List UInt8)++r5)++([120]:List UInt8))++r6)++([32]:List UInt8))++r9).length+([10]:List UInt8).length<=9223372036854775807 then if manifest.length+((((((([115,101,103]:List UInt8)++r5)++([120]:List UInt8))++r6)++([32]:List UInt8))++r9)++([10]:List UInt8)).length<=9223372036854775807 then if fits (t63+1)then go2 (writes3,(list++([((((([115,101,103]:List UInt8)++r5)++([120]:List UInt8))++r6),r7)]:Z5)),(manifest++((((((([115,101,103]:List UInt8)++r5)++([120]:List UInt8))++r6)++([32]:List UInt8))++r9)++([10]:List UInt8))),t61,t62,(t63+1),x7,x8,x9,out2,n2)else none else none else none else none)else none else none)else none)else none else none)else none)else oB (i_genName_m N n2) fun r10=>if manifest.length+([101,110,100]:List UInt8).length<=9223372036854775807 then if room list.length ([(r10,(manifest++([101,110,100]:List UInt8)))]:Z5).length 32 then iter (fun go3 (writes4,list2,t105,t106,t107,out3,n3)=>bif decide (t107<t106)then oB (idx t105 t107) fun e2=>(bif decide (writes4<0)then oB (j0Y N e2.1 e2.2 out3) fun r11=>(if fits (t107+1)then go3 (writes4,list2,t105,t106,(t107+1),r11,n3)else none)else bif decide (t107<writes4)then oB (j0Y N e2.1 e2.2 out3) fun r12=>(if fits (t107+1)then go3 (writes4,list2,t105,t106,(t107+1),r12,n3)else none)else if fits (t107+1)then go3 (writes4,list2,t105,t106,(t107+1),out3,n3)else none)else bif decide (writes4<0)then oB (j02 N out3 n3) fun r13=>(if room ([]:Z5).length r13.length 32 then some ((([]:Z5)++r13),n3)else none)else bif decide ((list2.length:Int)<writes4)then oB (j02 N out3 n3) fun r14=>(if room ([]:Z5).length r14.length 32 then some ((([]:Z5)++r14),n3)else none)else some (out3,n3)) N (writes3,(list++([(r10,(manifest++([101,110,100]:List UInt8)))]:Z5)),(list++([(r10,(manifest++([101,110,100]:List UInt8)))]:Z5)),((list++([(r10,(manifest++([101,110,100]:List UInt8)))]:Z5)).length:Int),(0:Int),out2,n2)else none else none) N (writes2,([]:Z5),([]:List UInt8),x6,(x6.length:Int),(0:Int),x4,x5,x6,out,n))else none else none) N (writes,(1:Int),d,x,x2,x3,(([]:Z5)++d),(1:Int))else none)
theorem j29 :mK 33 (bX [.agg [.pv Y17],.agg [.pv (.sl .str),.pv Y14,.pv Y0],pI] [.tup [.agg [.own 1 Y18 114 true],pI]] (c5A (i_DiskCommit_m N))):=
 mO (fC (j0P N) (fC (jIr N) (fC (j0B N) (fC (j0r N) (fC (jO0 N) (fC (jXI N) (fC (jZY N) (fC (j2A N) (fC (j3h N) ja))))))))) func33 rfl N (.seq .no (.seq .no (.seq .no (.seq .no (.seq (.seq .no (.block (.loop j26 .no))) (.seq .no (.seq .no (.seq .no (.seq (.seq .no (.block (.loop j2L .no))) (.seq .no (.seq (.seq .no (.block (.loop j3q .no))) .no))))))))))) _ (wr:=[29,32,59,83,84,103,104,138,141])
def j2j :Sh:=⟨.dead:: .dead:: .box 2 0:: .box 3 0:: .dead::pI::dz 25 [],[(2,false,[.pv Y17]),(3,false,[.pv Y17])]⟩
def j0V (d:Z5) (e:Z5):Z10:=
 (bif !decide ((d.length:Int)=(e.length:Int))then some false else iter (fun i (a,b,f)=>bif decide (a<(b.length:Int))then oB (idx b a) fun h=>(oB (idx f a) fun c=>bif !((decide (h.1=c.1))&&(decide (h.2=c.2)))then some false else if fits (a+1)then i ((a+1),b,f)else none)else some true) N ((0:Int),d,e))
theorem j18 :mK 35 (bX [.agg [.pv Y17],.agg [.pv Y17]] [pB] (c2A (j0V N))):=
 mO ja func35 rfl N (.seq .no (.seq .no (.seq (.seq .no (.block (.loop j2j .no))) .no))) _
noncomputable def l_FnDiskCommit_m (f:List Int):Z10:=
 (bif decide ((1048576:Int)<f.length)then some true else oB (s_DrawDiskCommit_m N f) fun a=>oB (i_DiskCommit_m N a.1 a.2.1 a.2.2.1 a.2.2.2.1 a.2.2.2.2) fun b=>oB (s_DiskCommit_m N a.1 a.2.1 a.2.2.1 a.2.2.2.1 a.2.2.2.2) fun c=>bif !decide (b.2=c.2)then bif decide (b.2=c.2)then oB (j0V N b.1 c.1) fun l=>(bif l then bif !decide (b.2=0)then some true else(oB (j0V N b.1 a.1) fun h=>some h)else some false)else(some false)else oB (j0V N b.1 c.1) fun i=>bif !i then bif decide (b.2=c.2)then oB (j0V N b.1 c.1) fun j=>(bif j then bif !decide (b.2=0)then some true else(oB (j0V N b.1 a.1) fun n=>some n)else some false)else(some false)else bif decide (b.2<=0)then bif decide (b.2=c.2)then oB (j0V N b.1 c.1) fun m=>(bif m then bif !decide (b.2=0)then some true else(oB (j0V N b.1 a.1) fun q=>some q)else some false)else(some false)else oB (i_DiskCommit_m N a.1 a.2.1 a.2.2.1 a.2.2.2.1 (-1)) fun e=>oB (i_DiskOpen_m N a.2.1 a.2.2.1 a.1) fun k=>oB (i_DiskOpen_m N a.2.1 a.2.2.1 e.1) fun d=>bif decide (e.2=b.2)then bif decide (d.2.2.2=b.2)then oB (l_foIndex_m N d.1 d.2.1 d.2.2.1 a.2.1 a.2.2.1 a.2.2.2.1) fun o=>(bif o then bif decide (k.2.2.2<b.2)then oB (i_DiskOk_m N b.1) fun p=>(some p)else(some false)else some false)else(some false)else some false)
noncomputable def j3A (N:Nat):Model:=⟨⟨[.pv (.sl (.int .u8))],[]⟩,⟨[pB],[]⟩,c1A (l_FnDiskCommit_m N)⟩
theorem j3E :mK 6 (j3A N):=
 mO (fC (j3b N) (fC (j29 N) (fC (j1N N) (fC (j18 N) (fC (j0w N) (fC (jRf N) (fC (j0P N) ja))))))) func6 rfl N .no (j3A N)
end Go.Proofs.YtcinmmojlcchfaaGreatDoor
