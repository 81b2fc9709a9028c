import Derived.Test.YtcinmmojlcchfaaGreatDoorG1A
set_option linter.unusedVariables false
set_option linter.unusedSimpArgs false
namespace Go.Proofs.YtcinmmojlcchfaaGreatDoor
open Go.RowKit Go.Proofs.Tryz
variable (N : Nat)
open Option renaming bind -> oB
def jI7 :Sh:=⟨.mtk 800000 Y4 95 false:: .dead::pI::pI:: .clo 155 []::dz 5 (pI::dz 71 []),[]⟩
def jJE :Sh:=⟨.mtk 800000 Y4 95 false:: .dead::pI::pI:: .clo 155 []::dz 5 (pI::pI::dz 70 []),[]⟩
def jJr (e:List Z0) (b:Int) (c:Int) (d:Int) (a:Unit):Z14:=siftG (cmp669 N) N e b c d a
 
theorem jIA :mK 319 (bX [.mtk 800000 Y4 95 false,pI,pI,pI,.clo 155 []] [.tup [],.mtk 800000 Y4 95 false] (c5A (jJr N))):=
 mO (fC (jHC N) ja) func319 rfl N (.seq .no (.block (.loop jI7 (.block (.seq .no (.seq .no (.meet jJE .no .no))))))) _ (rs:=[800000])
def jH9 :Sh:=⟨.mtk 800000 Y4 95 false:: .dead:: .dead:: .clo 155 []::dz 4 (pI::pI::pI::pI::dz 48 []),[]⟩
def jIK :Sh:=⟨.mtk 800000 Y4 95 false:: .dead:: .dead:: .clo 155 []::dz 4 (pI::pI:: .dead:: .dead::pI::dz 47 []),[]⟩
def jIj (d:List Z0) (b:Int) (c:Int) (a:Unit):Z14:=heapG (cmp669 N) N d b c a
 
theorem jJa :mK 273 (bX [.mtk 800000 Y4 95 false,pI,pI,.clo 155 []] [.tup [],.mtk 800000 Y4 95 false] (c4A (jIj N))):=
 mO (fC (jIA N) ja) func273 rfl N (.seq .no (.seq .no (.seq .no (.seq (.seq .no (.block (.loop jH9 .no))) (.seq .no (.block (.loop jIK .no))))))) _ (rs:=[800000])
def jH6 :Sh:=⟨.mtk 800000 Y4 95 false::pI::dz 6 (pI:: .box 9 0:: .pv (.int .u64)::pI::dz 55 []),[(9,false,[.pv (.int .u64)])]⟩
def jJm :Sh:=⟨.mtk 800000 Y4 95 false::pI::dz 6 (pI:: .box 9 0:: .pv (.int .u64)::pI::pI::dz 54 []),[(9,false,[.pv (.int .u64)])]⟩
def jI4 (d:List Z0) (b:Int) (c:Int) (a:Unit):Z14:=breakG N d b c a
 
theorem jIs :mK 274 (bX [.mtk 800000 Y4 95 false,pI,pI,.clo 155 []] [.tup [],.mtk 800000 Y4 95 false] (c4A (jI4 N))):=
 mO (fC (jhv N) (fC (jet N) ja)) func274 rfl N (.seq .no (.seq .no (.cond (.seq .no (.seq .no (.seq .no (.block (.loop jH6 (.seq .no (.seq (.block (.seq .no (.meet jJm .no .no))) .no))))))) .no))) _ (rs:=[800000])
def jJC (e:List Z0) (b:Int) (c:Int) (a:Unit) (d:Int):Option (Int×Int×(List Z0)×Int):=order2G (cmp669 N) N e b c a d
 
theorem jIo :mK 340 ⟨⟨[.mtk 800000 Y4 95 false,pI,pI,.box 900003 0,.clo 155 []],[(900003,false,[pI])]⟩,⟨[.tup [pI,pI],.mtk 800000 Y4 95 false],[(900003,false,[pI])]⟩,c5A (jJC N)⟩:=
 mO (fC (jHC N) ja) func340 rfl N .no _ (rs:=[900003,800000])
def jII (f:List Z0) (b:Int) (c:Int) (e:Int) (a:Unit) (d:Int):Option (Int×(List Z0)×Int):=medianG (cmp669 N) N f b c e a d
 
theorem jHQ :mK 321 ⟨⟨[.mtk 800000 Y4 95 false,pI,pI,pI,.box 900004 0,.clo 155 []],[(900004,false,[pI])]⟩,⟨[pI,.mtk 800000 Y4 95 false],[(900004,false,[pI])]⟩,c6A (jII N)⟩:=
 mO (fC (jIo N) ja) func321 rfl N .no _ (rs:=[900004,800000])
def jIn (d:List Z0) (b:Int) (a:Unit) (c:Int):Option (Int×(List Z0)×Int):=medianAdjacentG (cmp669 N) N d b a c
 
theorem jI9 :mK 320 ⟨⟨[.mtk 800000 Y4 95 false,pI,.box 900002 0,.clo 155 []],[(900002,false,[pI])]⟩,⟨[pI,.mtk 800000 Y4 95 false],[(900002,false,[pI])]⟩,c4A (jIn N)⟩:=
 mO (fC (jHQ N) ja) func320 rfl N .no _ (rs:=[900002,800000])
def jJw :Sh:=⟨.mtk 800000 Y4 95 false:: .dead:: .dead:: .clo 155 []::dz 7 (.box 11 0::pI::pI::pI::dz 48 []),[(11,false,[pI])]⟩
def jI6 :Sh:=⟨.mtk 800000 Y4 95 false::dz 10 (.box 11 0:: .dead::pI::dz 49 []),[(11,false,[pI])]⟩
def jIq (d:List Z0) (b:Int) (c:Int) (a:Unit):Option (Int×Int×(List Z0)):=choosePivotG (cmp669 N) N d b c a
 
theorem jJz :mK 275 (bX [.mtk 800000 Y4 95 false,pI,pI,.clo 155 []] [.tup [pI,pI],.mtk 800000 Y4 95 false] (c4A (jIq N))):=
 mO (fC (jI9 N) (fC (jHQ N) ja)) func275 rfl N (.seq .no (.seq .no (.seq .no (.seq .no (.seq .no (.seq .no (.meet jI6 (.seq .no (.cond (.meet jJw .no .no) .no)) .no))))))) _ (rs:=[800000])
def jJB :Sh:=⟨.mtk 800000 Y4 95 false::dz 7 (pI::pI::dz 24 []),[]⟩
def jJs (d:List Z0) (b:Int) (c:Int) (a:Unit):Z14:=reverseRangeG N d b c a
 
theorem jIk :mK 276 (bX [.mtk 800000 Y4 95 false,pI,pI,.clo 155 []] [.tup [],.mtk 800000 Y4 95 false] (c4A (jJs N))):=
 mO ja func276 rfl N (.seq .no (.seq .no (.block (.loop jJB .no)))) _ (rs:=[800000])
def jHL :Sh:=⟨.mtk 800000 Y4 95 false::pI::pI:: .clo 155 []::dz 5 (pI::pI::dz 130 []),[]⟩
def jJh :Sh:=⟨.mtk 800000 Y4 95 false::pI::pI:: .clo 155 []::dz 5 (pI::pI::pI::dz 129 []),[]⟩
def jIF :Sh:=⟨.mtk 800000 Y4 95 false::pI::pI:: .clo 155 []::dz 5 (pI::pI:: .dead::pI::dz 128 []),[]⟩
def jIx (d:List Z0) (b:Int) (c:Int) (a:Unit):Option (Bool×(List Z0)):=pisG (cmp669 N) N d b c a
 
theorem jI1 :mK 277 (bX [.mtk 800000 Y4 95 false,pI,pI,.clo 155 []] [pB,.mtk 800000 Y4 95 false] (c4A (jIx N))):=
 mO (fC (jHC N) ja) func277 rfl N (.seq .no (.seq .no (.seq (.seq .no (.block (.loop jHL (.seq .no (.seq (.block (.seq (.block (.loop jHL .no)) (.seq .no (.seq .no (.seq .no (.meet jHL (.seq .no (.cond (.seq .no (.block (.loop jJh .no))) .no)) (.seq .no (.cond (.seq .no (.block (.loop jIF .no))) .no)))))))) .no))))) .no))) _ (rs:=[800000])
def jHK :Sh:=⟨.mtk 800000 Y4 95 false::pI:: .dead:: .dead:: .clo 155 []::dz 6 (pI::pI::dz 77 []),[]⟩
def jIh (e:List Z0) (c:Int) (d:Int) (a:Int) (b:Unit):Option (Int×(List Z0)):=peqG (cmp669 N) N e c d a b
 
theorem jH7 :mK 278 (bX [.mtk 800000 Y4 95 false,pI,pI,pI,.clo 155 []] [pI,.mtk 800000 Y4 95 false] (c5A (jIh N))):=
 mO (fC (jHC N) ja) func278 rfl N (.seq .no (.seq .no (.seq .no (.seq (.block (.loop jHK (.block (.seq (.block (.loop jHK .no)) (.seq (.block (.loop jHK .no)) .no))))) .no)))) _ (rs:=[800000])
def jHD :Sh:=⟨.mtk 800000 Y4 95 false::pI:: .dead:: .dead:: .clo 155 []::dz 7 (pI::pI::dz 164 []),[]⟩
def jIZ (e:List Z0) (c:Int) (d:Int) (a:Int) (b:Unit):Option (Int×Bool×(List Z0)):=partG (cmp669 N) N e c d a b
 
theorem jJc :mK 279 (bX [.mtk 800000 Y4 95 false,pI,pI,pI,.clo 155 []] [.tup [pI,pB],.mtk 800000 Y4 95 false] (c5A (jIZ N))):=
 mO (fC (jHC N) ja) func279 rfl N (.seq .no (.seq .no (.seq .no (.seq (.block (.loop jHD .no)) (.seq (.block (.loop jHD .no)) (.seq .no (.seq .no (.seq .no (.seq .no (.seq (.block (.loop jHD (.block (.seq (.block (.loop jHD .no)) (.seq (.block (.loop jHD .no)) .no))))) .no)))))))))) _ (rs:=[800000])
def jIv :Sh:=⟨.mtk 800000 Y4 95 false::pI::pI::pI:: .clo 155 []::dz 5 (pB::pB::dz 136 []),[]⟩
def jIt :Sh:=⟨.mtk 800000 Y4 95 false::pI::pI::pI:: .clo 155 []::dz 5 (pB::pB::pI::pI::dz 134 []),[]⟩
def jIU :Sh:=⟨.mtk 800000 Y4 95 false::pI::pI::pI:: .clo 155 []::dz 5 (pB::pB::pI::pI::pI::dz 133 []),[]⟩
def jID :Sh:=⟨.mtk 800000 Y4 95 false::pI::pI::pI:: .clo 155 []::dz 5 (pB::pB::pI::dz 135 []),[]⟩
def jHN (N D:Nat) (h:List Z0) (b a limit:Int) (e:Unit):Z14:=pdqG (cmp669 N) (fun d b a c=>heapG (cmp669 N) N d b a c) (fun d b a f c=>peqG (cmp669 N) N d b a f c) N D h b a limit e
 
def jHF (N D:Nat):Model:=⟨⟨[.mtk 800000 Y4 95 false,pI,pI,pI,.clo 155 []],[]⟩,⟨[.tup [],.mtk 800000 Y4 95 false],[]⟩,c5A (jHN N D)⟩
theorem jJo (N D:Nat) (ih:mK 221 (jHF N D)):mK 221 (jHF N (D+1)):=
 mO (fC ih (fC (jIC N) (fC (jJa N) (fC (jIs N) (fC (jJz N) (fC (jIk N) (fC (jI1 N) (fC (jHC N) (fC (jH7 N) (fC (jJc N) ja)))))))))) func221 rfl N (.seq .no (.seq .no (.block (.loop jIv (.block (.seq .no (.seq .no (.seq .no (.meet jID .no (.seq .no (.meet jIU .no (.meet jIt .no .no)))))))))))) (jHF N (D+1)) (rs:=[800000])
theorem jHV (N:Nat):∀D,mK 221 (jHF N D)
 |0=>modelOk_none ⟨_,func221,by decide,by kernel_rfl⟩ _ (fun a=>rfl)
 |D+1=>jJo N D (jHV N D)
def k_slices_SortFunc_669_m (a:List Z0) (d:Unit):Z14:=
 (oB (k_math_bits_Len_m N (IntKind.u64.wrap (a.length:Int))) fun b=>oB (jHN N N a 0 (a.length:Int) b ()) fun c=>some c)
theorem jIu :mK 154 (bX [.mtk 800000 Y4 95 false,.clo 155 []] [.tup [],.mtk 800000 Y4 95 false] (c2A (k_slices_SortFunc_669_m N))):=
 mO (fC (jda N) (fC (jHV N N) ja)) func154 rfl N .no _ (rs:=[800000])
def jH5 :Sh:=⟨dz 3 (.mtk 600003 Y4 95 false::dz 3 (.pv Y0::pI::pI::dz 11 [])),[]⟩
def i_allAlive_m (e:List Z3):Z14:=
 (iter (fun i (c,f,h,a)=>bif decide (a<h)then oB (idx f a) fun b=>(oB (i_Live_alive_m N b.1.1 b.1.2 b.2) fun d=>if room c.length d.length 56 then if fits (a+1)then i ((c++d),f,h,(a+1))else none else none)else oB (k_slices_SortFunc_669_m N c ()) fun j=>some j) N (([]:List Z0),e,(e.length:Int),(0:Int)))
theorem jHR :mK 74 (bX [.pv Y0] [.own 1 Y4 95 false] (c1A (i_allAlive_m N))):=
 mO (fC (jH4 N) (fC (jIu N) ja)) func74 rfl N (.seq .no (.seq .no (.seq (.seq .no (.block (.loop jH5 .no))) .no))) _ (wr:=[6,16])
def jIf :Sh:=⟨.dead:: .box 1 0::dz 14 (.pv Y0::pI::pI::dz 13 []),[(1,false,[.pv (.sl .str),.pv Y14,.pv Y0])]⟩
noncomputable def i_IndexOk_m (d:List Z1) (e:List Z6) (a:List Z3):Z8:=
 (oB (jaj N d e) fun l=>bif !l then some false else bif decide ((5:Int)<a.length)then some false else iter (fun m (j,i,b,f,h,k)=>bif decide (b<i)then oB (idx j b) fun c=>(oB (i_liveOk_m N f h c.1.1 c.1.2 c.2) fun o=>bif !o then some false else if fits (b+1)then m (j,i,(b+1),f,h,k)else none)else oB (i_allAlive_m N k) fun q=>oB (jbf N q) fun n=>some n) N (a,(a.length:Int),(0:Int),d,e,a))
theorem jIr :mK 24 (bX [.agg [.pv (.sl .str),.pv Y14,.pv Y0]] [pB] (c3A (i_IndexOk_m N))):=
 mO (fC (jdX N) (fC (jJD N) (fC (jHR N) (fC (jjU N) ja)))) func24 rfl N (.seq .no (.seq .no (.seq (.seq .no (.block (.loop jIf .no))) .no))) _
def k_strconv_Itoa_m (N:Nat) (a:Int):Option (Z1):=itoaM a
 
def jOU (N:Nat):Model:=⟨⟨[pI],[]⟩,⟨[pS],[]⟩,c1A (k_strconv_Itoa_m N)⟩
theorem jO0 :mK 86 (jOU N):=jPp
def jXY :Sh:=⟨.dead:: .box 1 0:: .dead::pS::dz 13 (.pv Y17::pI::pI::dz 34 []),[(1,false,[pI,.pv Y17,.pv Y13])]⟩
def jX3 :Sh:=⟨dz 3 (pS::dz 31 (.pv Y13::pI::pI::dz 16 [])),[]⟩
def i_DocPut_m (m:Int) (e:Z4) (p:Z9):Option (Z1):=
 (oB (i_DocOk_m N m e p) fun t=>bif !t then some ([]:List UInt8)else oB (k_strconv_Itoa_m N m) fun k=>if([100,111,99,32]:List UInt8).length+k.length<=9223372036854775807 then if(([100,111,99,32]:List UInt8)++k).length+([10]:List UInt8).length<=9223372036854775807 then iter (fun x (j,n,q,d,v,u,h)=>bif decide (d<q)then oB (idx n d) fun a=>(if([102,105,101,108,100,32]:List UInt8).length+a.1.length<=9223372036854775807 then if(([102,105,101,108,100,32]:List UInt8)++a.1).length+([32]:List UInt8).length<=9223372036854775807 then if((([102,105,101,108,100,32]:List UInt8)++a.1)++([32]:List UInt8)).length+a.2.length<=9223372036854775807 then if(((([102,105,101,108,100,32]:List UInt8)++a.1)++([32]:List UInt8))++a.2).length+([10]:List UInt8).length<=9223372036854775807 then if j.length+((((([102,105,101,108,100,32]:List UInt8)++a.1)++([32]:List UInt8))++a.2)++([10]:List UInt8)).length<=9223372036854775807 then if fits (d+1)then x ((j++((((([102,105,101,108,100,32]:List UInt8)++a.1)++([32]:List UInt8))++a.2)++([10]:List UInt8))),n,q,(d+1),v,u,h)else none else none else none else none else none else none)else iter (fun w (l,r,o,c)=>bif decide (c<o)then oB (idx r c) fun b=>(if([110,117,109,32]:List UInt8).length+b.1.length<=9223372036854775807 then if(([110,117,109,32]:List UInt8)++b.1).length+([32]:List UInt8).length<=9223372036854775807 then oB (k_strconv_Itoa_m N b.2) fun f=>(if((([110,117,109,32]:List UInt8)++b.1)++([32]:List UInt8)).length+f.length<=9223372036854775807 then if(((([110,117,109,32]:List UInt8)++b.1)++([32]:List UInt8))++f).length+([10]:List UInt8).length<=9223372036854775807 then if l.length+((((([110,117,109,32]:List UInt8)++b.1)++([32]:List UInt8))++f)++([10]:List UInt8)).length<=9223372036854775807 then if fits (c+1)then w ((l++((((([110,117,109,32]:List UInt8)++b.1)++([32]:List UInt8))++f)++([10]:List UInt8))),r,o,(c+1))else none else none else none else none)else none else none)else some l) N (j,h,(h.length:Int),(0:Int))) N (((([100,111,99,32]:List UInt8)++k)++([10]:List UInt8)),e,(e.length:Int),(0:Int),m,e,p)else none else none)
theorem jYs :mK 127 (bX [.agg [pI,.pv Y17,.pv Y13]] [pS] (c3A (i_DocPut_m N))):=
 mO (fC (jh0 N) (fC (jO0 N) ja)) func127 rfl N (.seq .no (.seq .no (.seq .no (.seq (.seq .no (.block (.loop jXY .no))) (.seq (.seq .no (.block (.loop jX3 .no))) .no))))) _
def jYE :Sh:=⟨dz 3 (.box 3 0:: .dead::pS::dz 12 (.pv Y3::pI::pI::dz 23 [])),[(3,false,[.pv Y3,.pv Y5,.pv Y19])]⟩
def jX8 :Sh:=⟨dz 5 (pS::dz 24 (.pv Y19::pI::pI::dz 11 [])),[]⟩
noncomputable def i_LivePut_m (u:List Z1) (y:List Z6) (d:List Z0) (q:List Z2) (l:List Int):Option (Z1):=
 (oB (i_IndexOk_m N u y ([((d,q),l)]:List Z3)) fun r=>bif !r then some ([]:List UInt8)else iter (fun x (h,p,m,a,t,z,e)=>bif decide (a<m)then oB (idx p a) fun i=>(oB (i_DocPut_m N i.1 i.2.1 i.2.2) fun o=>if h.length+o.length<=9223372036854775807 then if fits (a+1)then x ((h++o),p,m,(a+1),t,z,e)else none else none)else iter (fun w (j,n,k,b)=>bif decide (b<k)then oB (idx n b) fun v=>(oB (k_strconv_Itoa_m N v) fun c=>if([100,101,97,100,32]:List UInt8).length+c.length<=9223372036854775807 then if(([100,101,97,100,32]:List UInt8)++c).length+([10]:List UInt8).length<=9223372036854775807 then if j.length+((([100,101,97,100,32]:List UInt8)++c)++([10]:List UInt8)).length<=9223372036854775807 then if fits (b+1)then w ((j++((([100,101,97,100,32]:List UInt8)++c)++([10]:List UInt8))),n,k,(b+1))else none else none else none else none)else some j) N (h,e,(e.length:Int),(0:Int))) N (([]:List UInt8),d,(d.length:Int),(0:Int),d,q,l))
theorem jXI :mK 52 (bX [.agg [.pv (.sl .str),.pv Y14],.agg [.pv Y3,.pv Y5,.pv Y19]] [pS] (c5A (i_LivePut_m N))):=
 mO (fC (jIr N) (fC (jYs N) (fC (jO0 N) ja))) func52 rfl N (.seq .no (.seq .no (.seq .no (.seq (.seq .no (.block (.loop jYE .no))) (.seq (.seq .no (.block (.loop jX8 .no))) .no))))) _
def jbd (N:Nat) (b:List UInt8) (a:List UInt8) (c:List UInt8) (d:List UInt8):Z8:=
 (bif !decide (b=c)then some false else bif !decide (a=d)then some false else some true)
theorem jmy :mK 312 (bX [.agg [pS,pS],.agg [pS,pS]] [pB] (c4A (jbd N))):=
 mO ja func312 rfl N .no _
def jqq :Sh:=⟨.pv Y17:: .pv Y17::dz 3 (pI::dz 21 []),[]⟩
def jdj (h:Z4) (d:Z4):Z8:=
 (bif !decide ((h.length:Int)=(d.length:Int))then some false else iter (fun j (b,e,a)=>bif decide (a<(b.length:Int))then oB (idx b a) fun f=>(oB (idx e a) fun c=>oB (jbd N f.1 f.2 c.1 c.2) fun i=>bif !i then some false else if fits (a+1)then j (b,e,(a+1))else none)else some true) N (h,d,(0:Int)))
theorem jmD :mK 257 (bX [.pv Y17,.pv Y17] [pB] (c2A (jdj N))):=
 mO (fC (jmy N) ja) func257 rfl N (.seq .no (.seq .no (.seq (.seq .no (.block (.loop jqq .no))) .no))) _
def jbo (N:Nat) (b:List UInt8) (a:Int) (c:List UInt8) (d:Int):Z8:=
 (bif !decide (b=c)then some false else bif !decide (a=d)then some false else some true)
theorem jtn :mK 313 (bX [.agg [pS,pI],.agg [pS,pI]] [pB] (c4A (jbo N))):=
 mO ja func313 rfl N .no _
def jtU :Sh:=⟨.pv Y13:: .pv Y13::dz 3 (pI::dz 21 []),[]⟩
def jdN (h:Z9) (d:Z9):Z8:=
 (bif !decide ((h.length:Int)=(d.length:Int))then some false else iter (fun j (b,e,a)=>bif decide (a<(b.length:Int))then oB (idx b a) fun f=>(oB (idx e a) fun c=>oB (jbo N f.1 f.2 c.1 c.2) fun i=>bif !i then some false else if fits (a+1)then j (b,e,(a+1))else none)else some true) N (h,d,(0:Int)))
theorem jkL :mK 258 (bX [.pv Y13,.pv Y13] [pB] (c2A (jdN N))):=
 mO (fC (jtn N) ja) func258 rfl N (.seq .no (.seq .no (.seq (.seq .no (.block (.loop jtU .no))) .no))) _
def jbi (i:Int) (b:Z4) (c:Z9) (e:Int) (f:Z4) (d:Z9):Z8:=
 (bif !decide (i=e)then some false else oB (jdj N b f) fun a=>bif !a then some false else oB (jdN N c d) fun h=>bif !h then some false else some true)
theorem jta :mK 205 (bX [.agg [pI,.pv Y17,.pv Y13],.agg [pI,.pv Y17,.pv Y13]] [pB] (c6A (jbi N))):=
 mO (fC (jmD N) (fC (jkL N) ja)) func205 rfl N .no _
def jqZ :Sh:=⟨.pv Y3:: .pv Y3::dz 3 (pI::dz 21 []),[]⟩
def jdZ (h:List Z0) (e:List Z0):Z8:=
 (bif !decide ((h.length:Int)=(e.length:Int))then some false else iter (fun j (c,f,a)=>bif decide (a<(c.length:Int))then oB (idx c a) fun d=>(oB (idx f a) fun b=>oB (jbi N d.1 d.2.1 d.2.2 b.1 b.2.1 b.2.2) fun i=>bif !i then some false else if fits (a+1)then j (c,f,(a+1))else none)else some true) N (h,e,(0:Int)))
theorem jmb :mK 128 (bX [.pv Y3,.pv Y3] [pB] (c2A (jdZ N))):=
 mO (fC (jta N) ja) func128 rfl N (.seq .no (.seq .no (.seq (.seq .no (.block (.loop jqZ .no))) .no))) _
def jea (e:List Int) (c:List Int):Z8:=
 (bif !decide ((e.length:Int)=(c.length:Int))then some false else iter (fun h (b,d,a)=>bif decide (a<(b.length:Int))then oB (idx b a) fun i=>(oB (idx d a) fun f=>bif !decide (i=f)then some false else if fits (a+1)then h (b,d,(a+1))else none)else some true) N (e,c,(0:Int)))
theorem jmk :mK 54 (bX [.pv Y19,.pv Y19] [pB] (c2A (jea N))):=
 mO ja func54 rfl N (.seq .no (.seq .no (.seq (.seq .no (.block (.loop jnI .no))) .no))) _
def jbl (c:Int) (b:List Int) (d:Int) (e:List Int):Z8:=
 (bif !decide (c=d)then some false else oB (jea N b e) fun a=>bif !a then some false else some true)
theorem jrv :mK 314 (bX [.agg [pI,.pv Y19],.agg [pI,.pv Y19]] [pB] (c4A (jbl N))):=
 mO (fC (jmk N) ja) func314 rfl N .no _
def jna :Sh:=⟨.pv Y11:: .pv Y11::dz 3 (pI::dz 21 []),[]⟩
def jdt (h:Z5) (d:Z5):Z8:=
 (bif !decide ((h.length:Int)=(d.length:Int))then some false else iter (fun j (b,e,a)=>bif decide (a<(b.length:Int))then oB (idx b a) fun f=>(oB (idx e a) fun c=>oB (jbl N f.1 f.2 c.1 c.2) fun i=>bif !i then some false else if fits (a+1)then j (b,e,(a+1))else none)else some true) N (h,d,(0:Int)))
theorem jrb :mK 259 (bX [.pv Y11,.pv Y11] [pB] (c2A (jdt N))):=
 mO (fC (jrv N) ja) func259 rfl N (.seq .no (.seq .no (.seq (.seq .no (.block (.loop jna .no))) .no))) _
def jaU (h:List UInt8) (b:List UInt8) (c:Z5) (e:List UInt8) (f:List UInt8) (d:Z5):Z8:=
 (bif !decide (h=e)then some false else bif !decide (b=f)then some false else oB (jdt N c d) fun a=>bif !a then some false else some true)
theorem jmZ :mK 206 (bX [.agg [pS,pS,.pv Y11],.agg [pS,pS,.pv Y11]] [pB] (c6A (jaU N))):=
 mO (fC (jrb N) ja) func206 rfl N .no _
def jkD :Sh:=⟨.pv Y5:: .pv Y5::dz 3 (pI::dz 21 []),[]⟩
def jdU (h:List Z2) (e:List Z2):Z8:=
 (bif !decide ((h.length:Int)=(e.length:Int))then some false else iter (fun j (c,f,a)=>bif decide (a<(c.length:Int))then oB (idx c a) fun d=>(oB (idx f a) fun b=>oB (jaU N d.1 d.2.1 d.2.2 b.1 b.2.1 b.2.2) fun i=>bif !i then some false else if fits (a+1)then j (c,f,(a+1))else none)else some true) N (h,e,(0:Int)))
theorem jkg :mK 129 (bX [.pv Y5,.pv Y5] [pB] (c2A (jdU N))):=
 mO (fC (jmZ N) ja) func129 rfl N (.seq .no (.seq .no (.seq (.seq .no (.block (.loop jkD .no))) .no))) _
def jbJ (c:List Z0) (b:List Z2) (d:List Z0) (e:List Z2):Z8:=
 (oB (jdZ N c d) fun a=>bif !a then some false else oB (jdU N b e) fun f=>bif !f then some false else some true)
theorem jnM :mK 53 (bX [.agg [.pv Y3,.pv Y5],.agg [.pv Y3,.pv Y5]] [pB] (c4A (jbJ N))):=
 mO (fC (jmb N) (fC (jkg N) ja)) func53 rfl N .no _
def jJW (i:List Z0) (b:List Z2) (c:List Int) (e:List Z0) (f:List Z2) (d:List Int):Z8:=
 (oB (jbJ N i b e f) fun a=>bif !a then some false else oB (jea N c d) fun h=>bif !h then some false else some true)
theorem jI3 :mK 13 (bX [.agg [.pv Y3,.pv Y5,.pv Y19],.agg [.pv Y3,.pv Y5,.pv Y19]] [pB] (c6A (jJW N))):=
 mO (fC (jnM N) (fC (jmk N) ja)) func13 rfl N .no _
def jo5 :Sh:=⟨.pv (.sl .str):: .pv (.sl .str)::dz 3 (pI::dz 20 []),[]⟩
def j0 (e:List Z1) (c:List Z1):Z8:=
 (bif !decide ((e.length:Int)=(c.length:Int))then some false else iter (fun h (b,d,a)=>bif decide (a<(b.length:Int))then oB (idx b a) fun i=>(oB (idx d a) fun f=>bif !decide (i=f)then some false else if fits (a+1)then h (b,d,(a+1))else none)else some true) N (e,c,(0:Int)))
theorem jd6 :mK 55 (bX [.pv (.sl .str),.pv (.sl .str)] [pB] (c2A (j0 N))):=
 mO ja func55 rfl N (.seq .no (.seq .no (.seq (.seq .no (.block (.loop jo5 .no))) .no))) _
def jaR (c:List Z1) (b:List UInt8) (d:List Z1) (e:List UInt8):Z8:=
 (oB (j0 N c d) fun a=>bif !a then some false else bif !decide (b=e)then some false else some true)
theorem jqb :mK 130 (bX [.agg [.pv (.sl .str),pS],.agg [.pv (.sl .str),pS]] [pB] (c4A (jaR N))):=
 mO (fC (jd6 N) ja) func130 rfl N .no _
def jp9 :Sh:=⟨.pv Y14:: .pv Y14::dz 3 (pI::dz 21 []),[]⟩
def jdJ (h:List Z6) (d:List Z6):Z8:=
 (bif !decide ((h.length:Int)=(d.length:Int))then some false else iter (fun j (b,e,a)=>bif decide (a<(b.length:Int))then oB (idx b a) fun f=>(oB (idx e a) fun c=>oB (jaR N f.1 f.2 c.1 c.2) fun i=>bif !i then some false else if fits (a+1)then j (b,e,(a+1))else none)else some true) N (h,d,(0:Int)))
theorem jkU :mK 56 (bX [.pv Y14,.pv Y14] [pB] (c2A (jdJ N))):=
 mO (fC (jqb N) ja) func56 rfl N (.seq .no (.seq .no (.seq (.seq .no (.block (.loop jp9 .no))) .no))) _
def jcO (c:List Z1) (b:List Z6) (d:List Z1) (e:List Z6):Z8:=
 (oB (j0 N c d) fun a=>bif !a then some false else oB (jdJ N b e) fun f=>bif !f then some false else some true)
theorem jr8 :mK 14 (bX [.agg [.pv (.sl .str),.pv Y14],.agg [.pv (.sl .str),.pv Y14]] [pB] (c4A (jcO N))):=
 mO (fC (jd6 N) (fC (jkU N) ja)) func14 rfl N .no _
def jnU :Sh:=⟨pI:: .dead:: .dead::pS::dz 16 [],[]⟩
def l_markText_m (c:Int):Option (Z1):=
 (bif decide (c<=0)then some ([109,48]:List UInt8)else iter (fun e (a,b)=>bif decide ((0:Int)<a)then if 10≠0 then if fits (48+(a.tmod 10))then if(bytesOf ([(IntKind.u8.wrap (48+(a.tmod 10)))]:List Int)).length+b.length<=9223372036854775807 then if 10≠0 then if fits (a.tdiv 10)then e ((a.tdiv 10),((bytesOf ([(IntKind.u8.wrap (48+(a.tmod 10)))]:List Int))++b))else none else none else none else none else none else if([109]:List UInt8).length+b.length<=9223372036854775807 then some (([109]:List UInt8)++b)else none) N (c,([]:List UInt8)))
theorem jaz :mK 131 (bX [pI] [pS] (c1A (l_markText_m N))):=
 mO ja func131 rfl N (.seq .no (.seq .no (.seq .no (.seq (.block (.loop jnU .no)) .no)))) _
def jol :Sh:=⟨.mtk 800000 .str 9 true::pI::dz 3 (pI::dz 14 []),[]⟩
def l_markStringS_m (f:List Z1) (i:Int):Option (Int×(List Z1)):=
 (iter (fun e (b,c,a)=>bif decide (a<(b.length:Int))then oB (l_markText_m N c) fun d=>(if 0<=a/\a<(b.length:Int)then oB (b[a.toNat]?) fun j=>(if fits (c+1)then if fits (a+1)then e ((b.set a.toNat d),(c+1),(a+1))else none else none)else none)else some (c,b)) N (f,i,(0:Int)))
theorem jdf :mK 57 (bX [.mtk 800000 .str 9 true,pI] [pI,.mtk 800000 .str 9 true] (c2A (l_markStringS_m N))):=
 mO (fC (jaz N) ja) func57 rfl N (.seq .no (.seq (.seq .no (.block (.loop jol .no))) .no)) _ (rs:=[800000])
def jq1 :Sh:=⟨.tre 800000 Y16 142::pI::dz 3 (pI::dz 22 []),[]⟩
def l_markSynS_m (j:List Z6) (l:Int):Option (Int×(List Z6)):=
 (iter (fun f (b,d,a)=>bif decide (a<(b.length:Int))then if 0<=a/\a<(b.length:Int)then oB (b[a.toNat]?) fun i=>(oB (l_markStringS_m N i.1 d) fun c=>oB (l_markText_m N c.1) fun h=>if 0<=a/\a<(b.length:Int)then oB (b[a.toNat]?) fun e=>(if fits (c.1+1)then if fits (a+1)then f (((b.set a.toNat (e.1,h)).modify a.toNat fun m=>(c.2,m.2)),(c.1+1),(a+1))else none else none)else none)else none else some (d,b)) N (j,l,(0:Int)))
theorem jqK :mK 58 (bX [.tre 800000 Y16 142,pI] [pI,.tre 800000 Y16 142] (c2A (l_markSynS_m N))):=
 mO (fC (jdf N) (fC (jaz N) ja)) func58 rfl N (.seq .no (.seq (.seq .no (.block (.loop jq1 .no))) .no)) _ (rs:=[800000])
def l_markConf_m (d:List Z1) (c:List Z6) (e:Int):Option (Int×(List Z1)×(List Z6)):=
 (oB (l_markStringS_m N d e) fun a=>oB (l_markSynS_m N c a.1) fun b=>some (b.1,a.2,b.2))
theorem jrd :mK 15 (bX [.agg [.mtk 800000 .str 9 true,.tre 800001 Y16 142],pI] [pI,.mtk 800000 .str 9 true,.tre 800001 Y16 142] (c3A (l_markConf_m N))):=
 mO (fC (jdf N) (fC (jqK N) ja)) func15 rfl N .no _ (rs:=[800000,800001])
def jrq :Sh:=⟨.mtk 800000 Y18 155 true::pI::dz 3 (pI::dz 23 []),[]⟩
def l_markFieldS_m (j:Z4) (l:Int):Option (Int×Z7):=
 (iter (fun h (b,c,a)=>bif decide (a<(b.length:Int))then oB (l_markText_m N c) fun d=>(if 0<=a/\a<(b.length:Int)then oB (b[a.toNat]?) fun e=>(if fits (c+1)then oB (l_markText_m N (c+1)) fun i=>(if 0<=a/\a<((b.set a.toNat (d,e.2)).length:Int)then oB ((b.set a.toNat (d,e.2))[a.toNat]?) fun f=>(if fits ((c+1)+1)then if fits (a+1)then h (((b.set a.toNat (d,e.2)).set a.toNat (f.1,i)),((c+1)+1),(a+1))else none else none)else none)else none)else none)else some (c,b)) N (j,l,(0:Int)))
theorem jo0 :mK 207 (bX [.mtk 800000 Y18 155 true,pI] [pI,.mtk 800000 Y18 155 true] (c2A (l_markFieldS_m N))):=
 mO (fC (jaz N) ja) func207 rfl N (.seq .no (.seq (.seq .no (.block (.loop jrq .no))) .no)) _ (rs:=[800000])
def js9 :Sh:=⟨.mtk 800000 Y15 157 true::pI::dz 3 (pI::dz 22 []),[]⟩
def l_markAttrS_m (i:Z9) (k:Int):Option (Int×Z10):=
 (iter (fun h (b,c,a)=>bif decide (a<(b.length:Int))then oB (l_markText_m N c) fun d=>(if 0<=a/\a<(b.length:Int)then oB (b[a.toNat]?) fun e=>(if fits (c+1)then if 0<=a/\a<((b.set a.toNat (d,e.2)).length:Int)then oB ((b.set a.toNat (d,e.2))[a.toNat]?) fun f=>(if fits ((c+1)+1)then if fits (a+1)then h (((b.set a.toNat (d,e.2)).set a.toNat (f.1,(c+1))),((c+1)+1),(a+1))else none else none)else none else none)else none)else some (c,b)) N (i,k,(0:Int)))
theorem js2 :mK 208 (bX [.mtk 800000 Y15 157 true,pI] [pI,.mtk 800000 Y15 157 true] (c2A (l_markAttrS_m N))):=
 mO (fC (jaz N) ja) func208 rfl N (.seq .no (.seq (.seq .no (.block (.loop js9 .no))) .no)) _ (rs:=[800000])
def jml :Sh:=⟨.tre 800000 Y4 95::pI::dz 3 (pI::dz 28 []),[]⟩
def l_markDocS_m (m:List Z0) (o:Int):Option (Int×(List Z0)):=
 (iter (fun k (b,c,a)=>bif decide (a<(b.length:Int))then if 0<=a/\a<(b.length:Int)then oB (b[a.toNat]?) fun d=>(if fits (c+1)then if 0<=a/\a<((b.set a.toNat (c,d.2)).length:Int)then oB ((b.set a.toNat (c,d.2))[a.toNat]?) fun j=>(oB (l_markFieldS_m N j.2.1 (c+1)) fun e=>if 0<=a/\a<((b.set a.toNat (c,d.2)).length:Int)then oB ((b.set a.toNat (c,d.2))[a.toNat]?) fun l=>(oB (l_markAttrS_m N l.2.2 e.1) fun h=>if fits (a+1)then k ((((b.set a.toNat (c,d.2)).modify a.toNat fun f=>(f.1,f.2.1,h.2)).modify a.toNat fun i=>(i.1,e.2,i.2.2)),h.1,(a+1))else none)else none)else none else none)else none else some (c,b)) N (m,o,(0:Int)))
theorem jnb :mK 132 (bX [.tre 800000 Y4 95,pI] [pI,.tre 800000 Y4 95] (c2A (l_markDocS_m N))):=
 mO (fC (jo0 N) (fC (js2 N) ja)) func132 rfl N (.seq .no (.seq (.seq .no (.block (.loop jml .no))) .no)) _ (rs:=[800000])
def jl9 :Sh:=⟨.mtk 800000 tI 3 true::pI::dz 3 (pI::dz 13 []),[]⟩
def l_markIntS_m (e:List Int) (h:Int):Option (Int×(List Int)):=
 (iter (fun d (b,c,a)=>bif decide (a<(b.length:Int))then if 0<=a/\a<(b.length:Int)then oB (b[a.toNat]?) fun i=>(if fits (c+1)then if fits (a+1)then d ((b.set a.toNat c),(c+1),(a+1))else none else none)else none else some (c,b)) N (e,h,(0:Int)))
theorem jr1 :mK 60 (bX [.mtk 800000 tI 3 true,pI] [pI,.mtk 800000 tI 3 true] (c2A (l_markIntS_m N))):=
 mO ja func60 rfl N (.seq .no (.seq (.seq .no (.block (.loop jl9 .no))) .no)) _ (rs:=[800000])
def jnn :Sh:=⟨.tre 800000 Y12 241::pI::dz 3 (pI::dz 21 []),[]⟩
def l_markPostS_m (i:Z5) (k:Int):Option (Int×Z13):=
 (iter (fun h (b,c,a)=>bif decide (a<(b.length:Int))then if 0<=a/\a<(b.length:Int)then oB (b[a.toNat]?) fun d=>(if fits (c+1)then if 0<=a/\a<((b.set a.toNat (c,d.2)).length:Int)then oB ((b.set a.toNat (c,d.2))[a.toNat]?) fun f=>(oB (l_markIntS_m N f.2 (c+1)) fun e=>if fits (a+1)then h (((b.set a.toNat (c,d.2)).modify a.toNat fun l=>(l.1,e.2)),e.1,(a+1))else none)else none else none)else none else some (c,b)) N (i,k,(0:Int)))
theorem jrg :mK 209 (bX [.tre 800000 Y12 241,pI] [pI,.tre 800000 Y12 241] (c2A (l_markPostS_m N))):=
 mO (fC (jr1 N) ja) func209 rfl N (.seq .no (.seq (.seq .no (.block (.loop jnn .no))) .no)) _ (rs:=[800000])
def jkI :Sh:=⟨.tre 800000 Y6 167::pI::dz 3 (pI::dz 30 []),[]⟩
def l_markEntryS_m (n:List Z2) (k:Int):Option (Int×(List Z2)):=
 (iter (fun l (b,d,a)=>bif decide (a<(b.length:Int))then oB (l_markText_m N d) fun e=>(if 0<=a/\a<(b.length:Int)then oB (b[a.toNat]?) fun f=>(if fits (d+1)then oB (l_markText_m N (d+1)) fun h=>(if 0<=a/\a<((b.set a.toNat (e,f.2)).length:Int)then oB ((b.set a.toNat (e,f.2))[a.toNat]?) fun c=>(if fits ((d+1)+1)then if 0<=a/\a<(((b.set a.toNat (e,f.2)).set a.toNat (c.1,h,c.2.2)).length:Int)then oB (((b.set a.toNat (e,f.2)).set a.toNat (c.1,h,c.2.2))[a.toNat]?) fun m=>(oB (l_markPostS_m N m.2.2 ((d+1)+1)) fun i=>if fits (a+1)then l ((((b.set a.toNat (e,f.2)).set a.toNat (c.1,h,c.2.2)).modify a.toNat fun j=>(j.1,j.2.1,i.2)),i.1,(a+1))else none)else none else none)else none)else none)else none)else some (d,b)) N (n,k,(0:Int)))
theorem jlr :mK 133 (bX [.tre 800000 Y6 167,pI] [pI,.tre 800000 Y6 167] (c2A (l_markEntryS_m N))):=
 mO (fC (jaz N) (fC (jrg N) ja)) func133 rfl N (.seq .no (.seq (.seq .no (.block (.loop jkI .no))) .no)) _ (rs:=[800000])
def jZN :Sh:=⟨.dead:: .box 1 0:: .dead::pI::dz 39 [],[(1,false,[.pv Y17])]⟩
def s_l19DiskOk_m (j:Z4):Z8:=
 (iter (fun e (a,b)=>bif decide (a<(b.length:Int))then oB (idx b a) fun h=>(oB (jT N h.1) fun f=>bif !f then some false else bif decide ((0:Int)<a)then oB (idx b a) fun c=>(if fits (a-1)then oB (idx b (a-1)) fun d=>(bif Op.bytesLess c.1 d.1||decide (c.1=d.1)then some false else if fits (a+1)then e ((a+1),b)else none)else none)else if fits (a+1)then e ((a+1),b)else none)else some (decide ((b.length:Int)<=24))) N ((0:Int),j))
theorem j0g :mK 67 (bX [.agg [.pv Y17]] [pB] (c1A (s_l19DiskOk_m N))):=
 mO (fC (jgp N) ja) func67 rfl N (.seq .no (.seq (.seq .no (.block (.loop jZN .no))) .no)) _
def s_l19Gen_m (b:Int):Option (Z1):=
 (if fits (1000+b)then oB (s_l1Dec_m N N (1000+b)) fun a=>(if([103,101,110]:List UInt8).length+a.length<=9223372036854775807 then some (([103,101,110]:List UInt8)++a)else none)else none)
theorem j0N :mK 142 (bX [pI] [pS] (c1A (s_l19Gen_m N))):=
 mO (fC (jOx N N) ja) func142 rfl N .no _
def j0j :Sh:=⟨.dead::pS:: .box 2 0::dz 3 (pI::dz 21 []),[(2,false,[.pv Y17])]⟩
def s_l19File_m (i:Z4) (j:List UInt8):Option (Z1×Bool):=
 (iter (fun e (c,a,b)=>bif decide (a<(b.length:Int))then oB (idx b a) fun f=>(bif decide (f.1=c)then oB (idx b a) fun d=>(some (d.2,true))else if fits (a+1)then e (c,(a+1),b)else none)else some (([]:List UInt8),false)) N (j,(0:Int),i))
theorem jZK :mK 141 (bX [.agg [.pv Y17],pS] [.tup [pS,pB]] (c2A (s_l19File_m N))):=
 mO ja func141 rfl N (.seq .no (.seq (.seq .no (.block (.loop j0j .no))) .no)) _
def j2E :Sh:=⟨.dead:: .box 1 0:: .dead::pI::dz 15 [],[(1,false,[.pv Y17])]⟩
def j04 (h:Z4):Z12:=
 (iter (fun d (a,b)=>bif decide ((1:Int)<=a)then oB (s_l19Gen_m N a) fun c=>(oB (s_l19File_m N b c) fun e=>bif e.2 then some a else if fits (a-1)then d ((a-1),b)else none)else some 0) N ((99:Int),h))
theorem j2k :mK 93 (bX [.agg [.pv Y17]] [pI] (c1A (j04 N))):=
 mO (fC (j0N N) (fC (jZK N) ja)) func93 rfl N (.seq .no (.seq (.seq .no (.block (.loop j2E .no))) .no)) _
def j0u :Sh:=⟨pS:: .dead:: .dead::pI::pI::dz 27 [],[]⟩
def j0M :Sh:=⟨pS:: .dead:: .dead::pI::pI::pI::dz 26 [],[]⟩
def s_l19Crc_m (l:List UInt8):Z12:=
 (iter (fun k (e,j,f)=>bif decide (f<(e.length:Int))then oB (idx e f) fun m=>(iter (fun i (d,a,c,b)=>bif decide (b<8)then if 2≠0 then bif decide ((a.tmod 2)=1)then if 2≠0 then if fits (a.tdiv 2)then if fits (b+1)then i (d,(bitsI .xor .i64 (a.tdiv 2) 3988292384),c,(b+1))else none else none else none else(if 2≠0 then if fits (a.tdiv 2)then if fits (b+1)then i (d,(a.tdiv 2),c,(b+1))else none else none else none)else none else if fits (c+1)then k (d,a,(c+1))else none) N (e,(bitsI .xor .i64 j (IntKind.i64.wrap (m.toNat:Int))),f,(0:Int)))else some (bitsI .xor .i64 j 4294967295)) N (l,(4294967295:Int),(0:Int)))
theorem jZT :mK 171 (bX [pS] [pI] (c1A (s_l19Crc_m N))):=
 mO ja func171 rfl N (.seq .no (.seq .no (.seq (.seq .no (.block (.loop j0u (.seq .no (.seq (.block (.seq .no (.seq .no (.block (.loop j0M .no))))) .no))))) .no))) _
def j3v :Sh:=⟨.dead::pI:: .box 2 0:: .dead:: .dead:: .own 600005 Y18 114 true::pS::pI::dz 47 [],[(2,false,[.pv (.sl .str),.pv Y14,.pv Y0])]⟩
def j09 (m:List Z1) (r:List Z6) (p:List Z3) (v:Int):Option (Z7):=
 (iter (fun q (e,f,b,d,t,u,i)=>bif decide (d<(i.length:Int))then if fits (1000+e)then oB (s_l1Dec_m N N (1000+e)) fun a=>(if([115,101,103]:List UInt8).length+a.length<=9223372036854775807 then if(([115,101,103]:List UInt8)++a).length+([120]:List UInt8).length<=9223372036854775807 then oB (s_l1Dec_m N N d) fun c=>(if((([115,101,103]:List UInt8)++a)++([120]:List UInt8)).length+c.length<=9223372036854775807 then oB (idx i d) fun j=>(oB (s_l19Seg_m N j.1.1 j.1.2 j.2) fun k=>if room f.length ([((((([115,101,103]:List UInt8)++a)++([120]:List UInt8))++c),k)]:Z4).length 32 then if b.length+(((([115,101,103]:List UInt8)++a)++([120]:List UInt8))++c).length<=9223372036854775807 then if(b++(((([115,101,103]:List UInt8)++a)++([120]:List UInt8))++c)).length+([32]:List UInt8).length<=9223372036854775807 then oB (s_l19Crc_m N k) fun n=>(oB (s_l1Dec_m N N n) fun h=>if((b++(((([115,101,103]:List UInt8)++a)++([120]:List UInt8))++c))++([32]:List UInt8)).length+h.length<=9223372036854775807 then if(((b++(((([115,101,103]:List UInt8)++a)++([120]:List UInt8))++c))++([32]:List UInt8))++h).length+([10]:List UInt8).length<=9223372036854775807 then if fits (d+1)then q (e,(f++([((((([115,101,103]:List UInt8)++a)++([120]:List UInt8))++c),k)]:Z4)),((((b++(((([115,101,103]:List UInt8)++a)++([120]:List UInt8))++c))++([32]:List UInt8))++h)++([10]:List UInt8)),(d+1),t,u,i)else none else none else none)else none else none else none)else none)else none else none)else none else oB (s_l19Gen_m N e) fun l=>if b.length+([101,110,100]:List UInt8).length<=9223372036854775807 then if room f.length ([(l,(b++([101,110,100]:List UInt8)))]:Z4).length 32 then some (f++([(l,(b++([101,110,100]:List UInt8)))]:Z4))else none else none) N (v,([]:Z4),([]:List UInt8),(0:Int),m,r,p))
theorem j2w :mK 94 (bX [.agg [.pv (.sl .str),.pv Y14,.pv Y0],pI] [.own 1 Y18 114 true] (c4A (j09 N))):=
 mO (fC (jOx N N) (fC (jX1 N) (fC (jZT N) (fC (j0N N) ja)))) func94 rfl N (.seq .no (.seq .no (.seq .no (.seq (.seq .no (.block (.loop j3v .no))) .no)))) _
def j3i :Sh:=⟨.dead:: .dead:: .box 2 0:: .box 3 0:: .box 4 0:: .box 5 0::pB::pI::dz 55 [],[(2,false,[.pv Y17]),(3,false,[pS,pS]),(4,false,[.nils]),(5,false,[.own 700500 Y18 114 true])]⟩
def j1Y :Sh:=⟨.dead:: .dead:: .box 2 0:: .box 3 0:: .box 4 0:: .box 5 0::pB::pI::dz 55 [],[(2,false,[.pv Y17]),(3,false,[pS,pS]),(4,false,[.nils]),(5,false,[.own 33 Y18 114 true])]⟩
def j0X (v:Z4) (u:List UInt8) (w:List UInt8):Option (Z7):=
 (iter (fun o (i,f,e,a,b,c)=>bif decide (f<(e.length:Int))then meet (fun(k:Bool×Int×Z7×Z1×Z1×Z7)=>match k with|(q,d,h,l,n,m)=>oB (idx h d) fun r=>bif !decide (r.1=l)then oB (idx h d) fun p=>(if room m.length ([p]:Z4).length 32 then if fits (d+1)then o (q,(d+1),h,l,n,(m++([p]:Z4)))else none else none)else if fits (d+1)then o (q,(d+1),h,l,n,m)else none) fun j=>(bif !i then oB (idx e f) fun t=>(bif !Op.bytesLess t.1 a then if room c.length ([(a,b)]:Z4).length 32 then j (true,f,e,a,b,(c++([(a,b)]:Z4)))else none else j (i,f,e,a,b,c))else j (i,f,e,a,b,c))else bif !i then if room c.length ([(a,b)]:Z4).length 32 then some (c++([(a,b)]:Z4))else none else some c) N (false,(0:Int),v,u,w,([]:Z4)))
theorem j2f :mK 95 (bX [.agg [.pv Y17],.agg [pS,pS]] [.agg [.own 1 Y18 114 true]] (c3A (j0X N))):=
 mO ja func95 rfl N (.seq .no (.seq .no (.seq .no (.seq (.seq .no (.block (.loop j3i (.seq .no (.seq (.block (.meet j1Y .no .no)) .no))))) .no)))) _
def j2G :Sh:=⟨.dead::pI:: .box 2 0:: .dead:: .box 4 0:: .box 5 0::pI::dz 51 [],[(2,false,[.pv Y17]),(4,false,[.nils]),(5,false,[.own 700500 Y18 114 true])]⟩
def j0S (v:Z4) (u:Int):Option (Z7):=
 (iter (fun e (b,a,c,d)=>bif decide (a<(c.length:Int))then oB (idx c a) fun f=>(bif decide ((7:Int)<=f.1.length)then oB (cut f.1 0 3) fun t=>(bif decide (t=([103,101,110]:List UInt8))then oB (cut f.1 3 7) fun p=>(oB (s_l1Num_m N p) fun l=>if fits (1000+b)then if fits ((1000+b)-1)then oB (jJ N l 1001 ((1000+b)-1)) fun r=>(bif !r then oB (idx c a) fun i=>(if room d.length ([i]:Z4).length 32 then if fits (a+1)then e (b,(a+1),c,(d++([i]:Z4)))else none else none)else if fits (a+1)then e (b,(a+1),c,d)else none)else none else none)else oB (cut f.1 0 3) fun q=>bif decide (q=([115,101,103]:List UInt8))then oB (cut f.1 3 7) fun o=>(oB (s_l1Num_m N o) fun w=>if fits (1000+b)then if fits ((1000+b)-1)then oB (jJ N w 1001 ((1000+b)-1)) fun m=>(bif !m then oB (idx c a) fun j=>(if room d.length ([j]:Z4).length 32 then if fits (a+1)then e (b,(a+1),c,(d++([j]:Z4)))else none else none)else if fits (a+1)then e (b,(a+1),c,d)else none)else none else none)else oB (idx c a) fun k=>if room d.length ([k]:Z4).length 32 then if fits (a+1)then e (b,(a+1),c,(d++([k]:Z4)))else none else none)else oB (idx c a) fun h=>if room d.length ([h]:Z4).length 32 then if fits (a+1)then e (b,(a+1),c,(d++([h]:Z4)))else none else none)else some d) N (u,(0:Int),v,([]:Z4)))
theorem j3g :mK 96 (bX [.agg [.pv Y17],pI] [.agg [.own 1 Y18 114 true]] (c2A (j0S N))):=
 mO (fC (jYO N) (fC (jcL N) ja)) func96 rfl N (.seq .no (.seq .no (.seq (.seq .no (.block (.loop j2G .no))) .no))) _
def j2B :Sh:=⟨.dead:: .dead::pI::dz 3 (.box 6 0:: .dead::pI:: .box 9 0:: .own 600010 Y18 114 true::pI::dz 69 []),[(6,false,[.nils]),(9,false,[.own 700900 Y18 114 true])]⟩
def j3U (b:Z4) (i:List Z1) (n:List Z6) (k:List Z3) (y:Int):Option (Z7×Int):=
 (oB (s_l19DiskOk_m N b) fun o=>bif !o then some (([]:Z4),(-1))else oB (s_l18Ok_m N i n k) fun x=>bif !x then some (([]:Z4),(-1))else oB (j04 N b) fun h=>if fits (h+1)then bif decide ((99:Int)<(h+1))then if room ([]:Z4).length b.length 32 then some ((([]:Z4)++b),0)else none else(if fits ((b.length:Int)+5)then if fits (((b.length:Int)+5)+1)then bif decide ((24:Int)<(((b.length:Int)+5)+1))then if room ([]:Z4).length b.length 32 then some ((([]:Z4)++b),0)else none else(if room ([]:Z4).length b.length 32 then oB (j09 N i n k (h+1)) fun p=>(iter (fun l (e,a,f,d,c)=>bif decide (d<(f.length:Int))then bif decide (e<0)then oB (idx f d) fun m=>(oB (j0X N c m.1 m.2) fun u=>if fits (d+1)then l (e,a,f,(d+1),u)else none)else(bif decide (d<e)then oB (idx f d) fun j=>(oB (j0X N c j.1 j.2) fun q=>if fits (d+1)then l (e,a,f,(d+1),q)else none)else bif decide (e<0)then oB (j0S N c a) fun t=>(some (t,a))else bif decide ((f.length:Int)<e)then oB (j0S N c a) fun r=>(some (r,a))else some (c,a))else bif decide (e<0)then oB (j0S N c a) fun v=>(some (v,a))else bif decide ((f.length:Int)<e)then oB (j0S N c a) fun z=>(some (z,a))else some (c,a)) N (y,(h+1),p,(0:Int),(([]:Z4)++b)))else none)else none else none)else none)
theorem j1N :mK 34 (bX [.agg [.pv Y17],.agg [.pv (.sl .str),.pv Y14,.pv Y0],pI] [.tup [.agg [.own 1 Y18 114 true],pI]] (c5A (j3U N))):=
 mO (fC (j0g N) (fC (jIW N) (fC (j2k N) (fC (j2w N) (fC (j2f N) (fC (j3g N) ja)))))) func34 rfl N (.seq .no (.seq .no (.seq .no (.seq .no (.seq .no (.seq .no (.seq (.seq .no (.block (.loop j2B .no))) .no))))))) _
def jZS :Sh:=⟨.dead:: .box 1 0::dz 4 (.pv Y17::pI::pI::dz 29 []),[(1,false,[.pv Y17])]⟩
def i_DiskOk_m (e:Z4):Z8:=
 (iter (fun f (c,d,a,b)=>bif decide (a<d)then oB (idx c a) fun h=>(oB (jO N h.1) fun i=>bif !i then some false else bif decide ((0:Int)<a)then if fits (a-1)then oB (idx b (a-1)) fun j=>(bif !Op.bytesLess j.1 h.1 then some false else if fits (a+1)then f (c,d,(a+1),b)else none)else none else if fits (a+1)then f (c,d,(a+1),b)else none)else some (decide ((b.length:Int)<=24))) N (e,(e.length:Int),(0:Int),e))
theorem j0P :mK 22 (bX [.agg [.pv Y17]] [pB] (c1A (i_DiskOk_m N))):=
 mO (fC (jcM N) ja) func22 rfl N (.seq .no (.seq (.seq .no (.block (.loop jZS .no))) .no)) _
def i_genName_m (b:Int):Option (Z1):=
 (if fits (1000+b)then oB (k_strconv_Itoa_m N (1000+b)) fun a=>(if([103,101,110]:List UInt8).length+a.length<=9223372036854775807 then some (([103,101,110]:List UInt8)++a)else none)else none)
theorem j0B :mK 85 (bX [pI] [pS] (c1A (i_genName_m N))):=
 mO (fC (jO0 N) ja) func85 rfl N .no _
def j0n :Sh:=⟨.dead::pS::dz 7 (.pv Y17::pI::pI::dz 10 []),[]⟩
def i_Disk_file_m (d:Z4) (j:List UInt8):Option (Z1×Bool):=
 (iter (fun h (e,f,b,a)=>bif decide (a<b)then oB (idx f a) fun c=>(bif decide (c.1=e)then some (c.2,true)else if fits (a+1)then h (e,f,b,(a+1))else none)else some (([]:List UInt8),false)) N (j,d,(d.length:Int),(0:Int)))
theorem j0r :mK 84 (bX [.agg [.pv Y17],pS] [.tup [pS,pB]] (c2A (i_Disk_file_m N))):=
 mO ja func84 rfl N (.seq .no (.seq (.seq .no (.block (.loop j0n .no))) .no)) _
def jZO :Sh:=⟨pS:: .dead:: .dead:: .pv (.int .u32):: .dead:: .dead::pI::pI::dz 23 [],[]⟩
def j0x :Sh:=⟨pS:: .dead:: .dead:: .pv (.int .u32):: .dead:: .dead::pI::pI::dz 8 (pI::dz 14 []),[]⟩
def i_Crc_m (l:List UInt8):Z12:=
 (iter (fun n (m,k,j,e)=>bif decide (e<j)then oB (idx m e) fun o=>(iter (fun i (d,c,h,b,a)=>bif decide (a<8)then bif decide ((bitsI .and .u32 c 1)=1)then if 0<=(1:Int)then if fits (a+1)then i (d,(bitsI .xor .u32 (c.fdiv (2^(min (1:Int).toNat (IntKind.bits .u32)))) 3988292384),h,b,(a+1))else none else none else(if 0<=(1:Int)then if fits (a+1)then i (d,(c.fdiv (2^(min (1:Int).toNat (IntKind.bits .u32)))),h,b,(a+1))else none else none)else if fits (b+1)then n (d,c,h,(b+1))else none) N (m,(bitsI .xor .u32 k (IntKind.u32.wrap (o.toNat:Int))),j,e,(0:Int)))else some (IntKind.i64.wrap (bitsI .xor .u32 4294967295 k))) N (l,(4294967295:Int),(l.length:Int),(0:Int)))
theorem jZY :mK 87 (bX [pS] [pI] (c1A (i_Crc_m N))):=
 mO ja func87 rfl N (.seq .no (.seq .no (.seq (.seq .no (.block (.loop jZO (.seq .no (.seq .no (.seq (.block (.seq .no (.seq .no (.seq .no (.block (.loop j0x .no)))))) .no)))))) .no))) _
def jZx (N:Nat) (a:List UInt8) (c:List UInt8) (b:Int):Z12:=
 (if fits (b-(a.length:Int))then bif decide ((b-(a.length:Int))<0)then some (-1)else(if fits ((b-(a.length:Int))-(c.length:Int))then bif decide (((b-(a.length:Int))-(c.length:Int))<0)then some (-1)else(some ((b-(a.length:Int))-(c.length:Int)))else none)else none)
theorem j0d :mK 157 (bX [.agg [pS,pS],pI] [pI] (c3A (jZx N))):=
 mO ja func157 rfl N .no _
def j0m :Sh:=⟨.pv Y17::pI::dz 3 (pI::dz 21 []),[]⟩
def jZH (a:Z4) (d:Int):Z12:=
 (if fits (d-(a.length:Int))then bif decide ((d-(a.length:Int))<0)then some (-1)else(iter (fun i (c,h,b)=>bif decide (b<(c.length:Int))then oB (idx c b) fun f=>(oB (jZx N f.1 f.2 h) fun e=>bif decide (e<0)then some (-1)else if fits (b+1)then i (c,e,(b+1))else none)else some h) N (a,(d-(a.length:Int)),(0:Int)))else none)
theorem jZ1 :mK 75 (bX [.pv Y17,pI] [pI] (c2A (jZH N))):=
 mO (fC (j0d N) ja) func75 rfl N (.seq .no (.seq .no (.seq .no (.seq (.seq .no (.block (.loop j0m .no))) .no)))) _
def jZB (b:Z4) (c:Int):Z12:=
 (oB (jZH N b c) fun a=>bif decide (a<0)then some (-1)else some a)
theorem jZ7 :mK 25 (bX [.agg [.pv Y17],pI] [pI] (c2A (jZB N))):=
 mO (fC (jZ1 N) ja) func25 rfl N .no _
def jZz (N:Nat) (b:List UInt8) (a:List UInt8):Option (Z1×Z1):=
 (some (b,a))
theorem j0l :mK 158 (bX [.agg [pS,pS]] [.agg [pS,pS]] (c2A (jZz N))):=
 mO ja func158 rfl N .no _
def j0L :Sh:=⟨.pv Y17:: .dead:: .dead:: .mtk 600003 Y18 114 true::pI::dz 18 [],[]⟩
def jZI (b:Z4):Option (Z7):=
 (if(b.length:Int)=(b.length:Int)/\0<=(b.length:Int)/\(b.length:Int)*32<=140737488355328/\(b.length:Int)<=140737488355328 then iter (fun h (d,c,a)=>bif decide (a<(d.length:Int))then oB (idx d a) fun e=>(oB (jZz N e.1 e.2) fun f=>if 0<=a/\a<(c.length:Int)then oB (c[a.toNat]?) fun j=>(if fits (a+1)then h (d,(c.set a.toNat f),(a+1))else none)else none)else some c) N (b,(List.replicate (b.length:Int).toNat (([]:List UInt8),([]:List UInt8))),(0:Int))else none)
theorem jZZ :mK 76 (bX [.pv Y17] [.own 1 Y18 114 true] (c1A (jZI N))):=
 mO (fC (j0l N) ja) func76 rfl N (.seq .no (.seq .no (.seq (.seq .no (.block (.loop j0L .no))) .no))) _ (wr:=[7]) (dw:=[20])
def jZw (b:Z4):Option (Z7):=
 (oB (jZI N b) fun a=>some a)
theorem j0K :mK 26 (bX [.agg [.pv Y17]] [.agg [.own 1 Y18 114 true]] (c1A (jZw N))):=
 mO (fC (jZZ N) ja) func26 rfl N .no _ (dw:=[6])
def jIS :Sh:=⟨.pv Y0:: .pv Y0::dz 3 (pI::dz 21 []),[]⟩
def jKn (h:List Z3) (e:List Z3):Z8:=
 (bif !decide ((h.length:Int)=(e.length:Int))then some false else iter (fun j (c,f,a)=>bif decide (a<(c.length:Int))then oB (idx c a) fun d=>(oB (idx f a) fun b=>oB (jJW N d.1.1 d.1.2 d.2 b.1.1 b.1.2 b.2) fun i=>bif !i then some false else if fits (a+1)then j (c,f,(a+1))else none)else some true) N (h,e,(0:Int)))
theorem jIa :mK 77 (bX [.pv Y0,.pv Y0] [pB] (c2A (jKn N))):=
 mO (fC (jI3 N) ja) func77 rfl N (.seq .no (.seq .no (.seq (.seq .no (.block (.loop jIS .no))) .no))) _
def jJN (i:List Z1) (b:List Z6) (c:List Z3) (e:List Z1) (f:List Z6) (d:List Z3):Z8:=
 (oB (jcO N i b e f) fun a=>bif !a then some false else oB (jKn N c d) fun h=>bif !h then some false else some true)
theorem jIY :mK 27 (bX [.agg [.pv (.sl .str),.pv Y14,.pv Y0],.agg [.pv (.sl .str),.pv Y14,.pv Y0]] [pB] (c6A (jJN N))):=
 mO (fC (jr8 N) (fC (jIa N) ja)) func27 rfl N .no _
def jZA (N:Nat) (b:List UInt8) (a:List UInt8) (c:List UInt8) (d:List UInt8):Z8:=
 (bif !decide (b=c)then some false else bif !decide (a=d)then some false else some true)
theorem j0D :mK 159 (bX [.agg [pS,pS],.agg [pS,pS]] [pB] (c4A (jZA N))):=
 mO ja func159 rfl N .no _
def jZG (h:Z4) (d:Z4):Z8:=
 (bif !decide ((h.length:Int)=(d.length:Int))then some false else iter (fun j (b,e,a)=>bif decide (a<(b.length:Int))then oB (idx b a) fun f=>(oB (idx e a) fun c=>oB (jZA N f.1 f.2 c.1 c.2) fun i=>bif !i then some false else if fits (a+1)then j (b,e,(a+1))else none)else some true) N (h,d,(0:Int)))
theorem jZR :mK 78 (bX [.pv Y17,.pv Y17] [pB] (c2A (jZG N))):=
 mO (fC (j0D N) ja) func78 rfl N (.seq .no (.seq .no (.seq (.seq .no (.block (.loop jqq .no))) .no))) _
def jZE (b:Z4) (c:Z4):Z8:=
 (oB (jZG N b c) fun a=>bif !a then some false else some true)
theorem j0C :mK 28 (bX [.agg [.pv Y17],.agg [.pv Y17]] [pB] (c2A (jZE N))):=
 mO (fC (jZR N) ja) func28 rfl N .no _
def jZX :Sh:=⟨.mtk 800000 Y18 114 true::pI::dz 3 (pI::dz 23 []),[]⟩
def jZC (j:Z4) (l:Int):Option (Int×Z7):=
 (iter (fun h (b,c,a)=>bif decide (a<(b.length:Int))then oB (l_markText_m N c) fun d=>(if 0<=a/\a<(b.length:Int)then oB (b[a.toNat]?) fun e=>(if fits (c+1)then oB (l_markText_m N (c+1)) fun i=>(if 0<=a/\a<((b.set a.toNat (d,e.2)).length:Int)then oB ((b.set a.toNat (d,e.2))[a.toNat]?) fun f=>(if fits ((c+1)+1)then if fits (a+1)then h (((b.set a.toNat (d,e.2)).set a.toNat (f.1,i)),((c+1)+1),(a+1))else none else none)else none)else none)else none)else some (c,b)) N (j,l,(0:Int)))
theorem jZ6 :mK 79 (bX [.mtk 800000 Y18 114 true,pI] [pI,.mtk 800000 Y18 114 true] (c2A (jZC N))):=
 mO (fC (jaz N) ja) func79 rfl N (.seq .no (.seq (.seq .no (.block (.loop jZX .no))) .no)) _ (rs:=[800000])
def jZF (b:Z4) (c:Int):Option (Int×Z7):=
 (oB (jZC N b c) fun a=>some (a.1,a.2))
theorem j0A :mK 29 (bX [.agg [.mtk 800000 Y18 114 true],pI] [pI,.mtk 800000 Y18 114 true] (c2A (jZF N))):=
 mO (fC (jZ6 N) ja) func29 rfl N .no _ (rs:=[800000])
def jIe :Sh:=⟨.tre 800000 Y1 33::pI::dz 3 (pI::dz 30 []),[]⟩
def jKd (o:List Z3) (k:Int):Option (Int×(List Z3)):=
 (iter (fun l (b,h,a)=>bif decide (a<(b.length:Int))then if 0<=a/\a<(b.length:Int)then oB (b[a.toNat]?) fun n=>(oB (l_markDocS_m N n.1.1 h) fun c=>if 0<=a/\a<(b.length:Int)then oB (b[a.toNat]?) fun j=>(oB (l_markEntryS_m N j.1.2 c.1) fun d=>if 0<=a/\a<(b.length:Int)then oB (b[a.toNat]?) fun m=>(oB (l_markIntS_m N m.2 d.1) fun i=>if fits (a+1)then l ((((b.modify a.toNat fun q=>(q.1,i.2)).modify a.toNat fun f=>((f.1.1,d.2),f.2)).modify a.toNat fun e=>((c.2,e.1.2),e.2)),i.1,(a+1))else none)else none)else none)else none else some (h,b)) N (o,k,(0:Int)))
theorem jIE :mK 80 (bX [.tre 800000 Y1 33,pI] [pI,.tre 800000 Y1 33] (c2A (jKd N))):=
 mO (fC (jnb N) (fC (jlr N) (fC (jr1 N) ja))) func80 rfl N (.seq .no (.seq (.seq .no (.block (.loop jIe .no))) .no)) _ (rs:=[800000])
def jJX (e:List Z1) (c:List Z6) (d:List Z3) (f:Int):Option (Int×(List Z1)×(List Z6)×(List Z3)):=
 (oB (l_markConf_m N e c f) fun a=>oB (jKd N d a.1) fun b=>some (b.1,a.2.1,a.2.2,b.2))
theorem jJp :mK 30 (bX [.agg [.mtk 800000 .str 9 true,.tre 800001 Y16 142,.tre 800002 Y1 33],pI] [pI,.mtk 800000 .str 9 true,.tre 800001 Y16 142,.tre 800002 Y1 33] (c4A (jJX N))):=
 mO (fC (jrd N) (fC (jIE N) ja)) func30 rfl N .no _ (rs:=[800000,800001,800002])
def jbn (N:Nat) (a:List UInt8):Z8:=
 (some (!decide (a=a)))
theorem jkt :mK 204 (bX [pS] [pB] (c1A (jbn N))):=
 mO ja func204 rfl N .no _
def jam (b:List UInt8) (a:List UInt8):Z12:=
 (oB (jbn N b) fun d=>oB (jbn N a) fun c=>bif d then bif c then some 0 else(some (-1))else bif c then some 1 else bif Op.bytesLess b a then some (-1)else bif !(Op.bytesLess b a||decide (b=a))then some 1 else some 0)
theorem ji2 :mK 126 (bX [pS,pS] [pI] (c2A (jam N))):=
 mO (fC (jkt N) ja) func126 rfl N .no _
def j08 (b:List UInt8) (d:List UInt8) (c:List UInt8) (e:List UInt8):Z12:=
 (oB (jam N b c) fun a=>some a)
theorem j0T :mK 164 (bX [.agg [pS,pS],.agg [pS,pS]] [pI] (c4A (j08 N))):=
 mO (fC (ji2 N) ja) func164 rfl N .no _
def cmp581 (N:Nat):(Unit)->(Z1×Z1)->(Z1×Z1)->Option Int:=(fun(cmp:Unit) (e e2:Z1×Z1)=>j08 N e.1 e.2 e2.1 e2.2)
def j3f :Sh:=⟨.mtk 800000 Y18 114 true::pI::pI:: .clo 164 []::dz 4 (pI::dz 44 []),[]⟩
def j2q :Sh:=⟨.mtk 800000 Y18 114 true::pI::pI:: .clo 164 []::dz 4 (pI::pI::dz 43 []),[]⟩
def j2d (d:Z4) (b:Int) (c:Int) (a:Unit):Option (Z7):=insG (cmp581 N) N d b c a
 
theorem j3c :mK 284 (bX [.mtk 800000 Y18 114 true,pI,pI,.clo 164 []] [.tup [],.mtk 800000 Y18 114 true] (c4A (j2d N))):=
 mO (fC (j0T N) ja) func284 rfl N (.seq .no (.block (.loop j3f (.seq .no (.seq (.block (.seq .no (.block (.loop j2q .no)))) .no))))) _ (rs:=[800000])
def j25 :Sh:=⟨.mtk 800000 Y18 114 true:: .dead::pI::pI:: .clo 164 []::dz 5 (pI::dz 71 []),[]⟩
def j3s :Sh:=⟨.mtk 800000 Y18 114 true:: .dead::pI::pI:: .clo 164 []::dz 5 (pI::pI::dz 70 []),[]⟩
def j2J (e:Z4) (b:Int) (c:Int) (d:Int) (a:Unit):Option (Z7):=siftG (cmp581 N) N e b c d a
 
theorem j2X :mK 326 (bX [.mtk 800000 Y18 114 true,pI,pI,pI,.clo 164 []] [.tup [],.mtk 800000 Y18 114 true] (c5A (j2J N))):=
 mO (fC (j0T N) ja) func326 rfl N (.seq .no (.block (.loop j25 (.block (.seq .no (.seq .no (.meet j3s .no .no))))))) _ (rs:=[800000])
def j2M :Sh:=⟨.mtk 800000 Y18 114 true:: .dead:: .dead:: .clo 164 []::dz 4 (pI::pI::pI::pI::dz 48 []),[]⟩
def j22 :Sh:=⟨.mtk 800000 Y18 114 true:: .dead:: .dead:: .clo 164 []::dz 4 (pI::pI:: .dead:: .dead::pI::dz 47 []),[]⟩
def j2b (d:Z4) (b:Int) (c:Int) (a:Unit):Option (Z7):=heapG (cmp581 N) N d b c a
 
theorem j3x :mK 285 (bX [.mtk 800000 Y18 114 true,pI,pI,.clo 164 []] [.tup [],.mtk 800000 Y18 114 true] (c4A (j2b N))):=
 mO (fC (j2X N) ja) func285 rfl N (.seq .no (.seq .no (.seq .no (.seq (.seq .no (.block (.loop j2M .no))) (.seq .no (.block (.loop j22 .no))))))) _ (rs:=[800000])
def j3a :Sh:=⟨.mtk 800000 Y18 114 true::pI::dz 6 (pI:: .box 9 0:: .pv (.int .u64)::pI::dz 55 []),[(9,false,[.pv (.int .u64)])]⟩
def j19 :Sh:=⟨.mtk 800000 Y18 114 true::pI::dz 6 (pI:: .box 9 0:: .pv (.int .u64)::pI::pI::dz 54 []),[(9,false,[.pv (.int .u64)])]⟩
def j2m (d:Z4) (b:Int) (c:Int) (a:Unit):Option (Z7):=breakG N d b c a
 
theorem j2a :mK 286 (bX [.mtk 800000 Y18 114 true,pI,pI,.clo 164 []] [.tup [],.mtk 800000 Y18 114 true] (c4A (j2m N))):=
 mO (fC (jhv N) (fC (jet N) ja)) func286 rfl N (.seq .no (.seq .no (.cond (.seq .no (.seq .no (.seq .no (.block (.loop j3a (.seq .no (.seq (.block (.seq .no (.meet j19 .no .no))) .no))))))) .no))) _ (rs:=[800000])
def j3u (e:Z4) (b:Int) (c:Int) (a:Unit) (d:Int):Option (Int×Int×Z7×Int):=order2G (cmp581 N) N e b c a d
 
theorem j24 :mK 343 ⟨⟨[.mtk 800000 Y18 114 true,pI,pI,.box 900003 0,.clo 164 []],[(900003,false,[pI])]⟩,⟨[.tup [pI,pI],.mtk 800000 Y18 114 true],[(900003,false,[pI])]⟩,c5A (j3u N)⟩:=
 mO (fC (j0T N) ja) func343 rfl N .no _ (rs:=[900003,800000])
def j2e (f:Z4) (b:Int) (c:Int) (e:Int) (a:Unit) (d:Int):Option (Int×Z7×Int):=medianG (cmp581 N) N f b c e a d
 
theorem j1L :mK 328 ⟨⟨[.mtk 800000 Y18 114 true,pI,pI,pI,.box 900004 0,.clo 164 []],[(900004,false,[pI])]⟩,⟨[pI,.mtk 800000 Y18 114 true],[(900004,false,[pI])]⟩,c6A (j2e N)⟩:=
 mO (fC (j24 N) ja) func328 rfl N .no _ (rs:=[900004,800000])
def j2K (d:Z4) (b:Int) (a:Unit) (c:Int):Option (Int×Z7×Int):=medianAdjacentG (cmp581 N) N d b a c
 
theorem j2y :mK 327 ⟨⟨[.mtk 800000 Y18 114 true,pI,.box 900002 0,.clo 164 []],[(900002,false,[pI])]⟩,⟨[pI,.mtk 800000 Y18 114 true],[(900002,false,[pI])]⟩,c4A (j2K N)⟩:=
 mO (fC (j1L N) ja) func327 rfl N .no _ (rs:=[900002,800000])
def j2s :Sh:=⟨.mtk 800000 Y18 114 true:: .dead:: .dead:: .clo 164 []::dz 7 (.box 11 0::pI::pI::pI::dz 48 []),[(11,false,[pI])]⟩
def j2H :Sh:=⟨.mtk 800000 Y18 114 true::dz 10 (.box 11 0:: .dead::pI::dz 49 []),[(11,false,[pI])]⟩
def j2D (d:Z4) (b:Int) (c:Int) (a:Unit):Option (Int×Int×Z7):=choosePivotG (cmp581 N) N d b c a
 
theorem j2F :mK 287 (bX [.mtk 800000 Y18 114 true,pI,pI,.clo 164 []] [.tup [pI,pI],.mtk 800000 Y18 114 true] (c4A (j2D N))):=
 mO (fC (j2y N) (fC (j1L N) ja)) func287 rfl N (.seq .no (.seq .no (.seq .no (.seq .no (.seq .no (.seq .no (.meet j2H (.seq .no (.cond (.meet j2s .no .no) .no)) .no))))))) _ (rs:=[800000])
def j12 :Sh:=⟨.mtk 800000 Y18 114 true::dz 7 (pI::pI::dz 24 []),[]⟩
def j3m (d:Z4) (b:Int) (c:Int) (a:Unit):Option (Z7):=reverseRangeG N d b c a
 
theorem j2c :mK 288 (bX [.mtk 800000 Y18 114 true,pI,pI,.clo 164 []] [.tup [],.mtk 800000 Y18 114 true] (c4A (j3m N))):=
 mO ja func288 rfl N (.seq .no (.seq .no (.block (.loop j12 .no)))) _ (rs:=[800000])
def j1i :Sh:=⟨.mtk 800000 Y18 114 true::pI::pI:: .clo 164 []::dz 5 (pI::pI::dz 130 []),[]⟩
def j2u :Sh:=⟨.mtk 800000 Y18 114 true::pI::pI:: .clo 164 []::dz 5 (pI::pI::pI::dz 129 []),[]⟩
def j2n :Sh:=⟨.mtk 800000 Y18 114 true::pI::pI:: .clo 164 []::dz 5 (pI::pI:: .dead::pI::dz 128 []),[]⟩
def j3e (d:Z4) (b:Int) (c:Int) (a:Unit):Option (Bool×Z7):=pisG (cmp581 N) N d b c a
 
theorem j2Z :mK 289 (bX [.mtk 800000 Y18 114 true,pI,pI,.clo 164 []] [pB,.mtk 800000 Y18 114 true] (c4A (j3e N))):=
 mO (fC (j0T N) ja) func289 rfl N (.seq .no (.seq .no (.seq (.seq .no (.block (.loop j1i (.seq .no (.seq (.block (.seq (.block (.loop j1i .no)) (.seq .no (.seq .no (.seq .no (.meet j1i (.seq .no (.cond (.seq .no (.block (.loop j2u .no))) .no)) (.seq .no (.cond (.seq .no (.block (.loop j2n .no))) .no)))))))) .no))))) .no))) _ (rs:=[800000])
def j1j :Sh:=⟨.mtk 800000 Y18 114 true::pI:: .dead:: .dead:: .clo 164 []::dz 6 (pI::pI::dz 77 []),[]⟩
def j3n (e:Z4) (c:Int) (d:Int) (a:Int) (b:Unit):Option (Int×Z7):=peqG (cmp581 N) N e c d a b
 
theorem j2z :mK 290 (bX [.mtk 800000 Y18 114 true,pI,pI,pI,.clo 164 []] [pI,.mtk 800000 Y18 114 true] (c5A (j3n N))):=
 mO (fC (j0T N) ja) func290 rfl N (.seq .no (.seq .no (.seq .no (.seq (.block (.loop j1j (.block (.seq (.block (.loop j1j .no)) (.seq (.block (.loop j1j .no)) .no))))) .no)))) _ (rs:=[800000])
def j00 :Sh:=⟨.mtk 800000 Y18 114 true::pI:: .dead:: .dead:: .clo 164 []::dz 7 (pI::pI::dz 164 []),[]⟩
def j23 (e:Z4) (c:Int) (d:Int) (a:Int) (b:Unit):Option (Int×Bool×Z7):=partG (cmp581 N) N e c d a b
 
theorem j2T :mK 291 (bX [.mtk 800000 Y18 114 true,pI,pI,pI,.clo 164 []] [.tup [pI,pB],.mtk 800000 Y18 114 true] (c5A (j23 N))):=
 mO (fC (j0T N) ja) func291 rfl N (.seq .no (.seq .no (.seq .no (.seq (.block (.loop j00 .no)) (.seq (.block (.loop j00 .no)) (.seq .no (.seq .no (.seq .no (.seq .no (.seq (.block (.loop j00 (.block (.seq (.block (.loop j00 .no)) (.seq (.block (.loop j00 .no)) .no))))) .no)))))))))) _ (rs:=[800000])
def j3l :Sh:=⟨.mtk 800000 Y18 114 true::pI::pI::pI:: .clo 164 []::dz 5 (pB::pB::dz 136 []),[]⟩
def j20 :Sh:=⟨.mtk 800000 Y18 114 true::pI::pI::pI:: .clo 164 []::dz 5 (pB::pB::pI::pI::dz 134 []),[]⟩
def j2V :Sh:=⟨.mtk 800000 Y18 114 true::pI::pI::pI:: .clo 164 []::dz 5 (pB::pB::pI::pI::pI::dz 133 []),[]⟩
def j2h :Sh:=⟨.mtk 800000 Y18 114 true::pI::pI::pI:: .clo 164 []::dz 5 (pB::pB::pI::dz 135 []),[]⟩
def j1u (N D:Nat) (h:Z4) (b a limit:Int) (e:Unit):Option (Z7):=pdqG (cmp581 N) (fun d b a c=>heapG (cmp581 N) N d b a c) (fun d b a f c=>peqG (cmp581 N) N d b a f c) N D h b a limit e
 
def j1d (N D:Nat):Model:=⟨⟨[.mtk 800000 Y18 114 true,pI,pI,pI,.clo 164 []],[]⟩,⟨[.tup [],.mtk 800000 Y18 114 true],[]⟩,c5A (j1u N D)⟩
theorem j2P (N D:Nat) (ih:mK 224 (j1d N D)):mK 224 (j1d N (D+1)):=
 mO (fC ih (fC (j3c N) (fC (j3x N) (fC (j2a N) (fC (j2F N) (fC (j2c N) (fC (j2Z N) (fC (j0T N) (fC (j2z N) (fC (j2T N) ja)))))))))) func224 rfl N (.seq .no (.seq .no (.block (.loop j3l (.block (.seq .no (.seq .no (.seq .no (.meet j2h .no (.seq .no (.meet j2V .no (.meet j20 .no .no)))))))))))) (j1d N (D+1)) (rs:=[800000])
theorem j1B (N:Nat):∀D,mK 224 (j1d N D)
 |0=>modelOk_none ⟨_,func224,by decide,by kernel_rfl⟩ _ (fun a=>rfl)
 |D+1=>j2P N D (j1B N D)
def k_slices_SortFunc_581_m (a:Z4) (d:Unit):Option (Z7):=
 (oB (k_math_bits_Len_m N (IntKind.u64.wrap (a.length:Int))) fun b=>oB (j1u N N a 0 (a.length:Int) b ()) fun c=>some c)
theorem j2C :mK 163 (bX [.mtk 800000 Y18 114 true,.clo 164 []] [.tup [],.mtk 800000 Y18 114 true] (c2A (k_slices_SortFunc_581_m N))):=
 mO (fC (jda N) (fC (j1B N N) ja)) func163 rfl N .no _ (rs:=[800000])
def j10 :Sh:=⟨.box 900000 0::pS::pS::dz 8 (pI::pI::dz 38 []),[(900000,false,[.mtk 850000 Y18 114 true])]⟩
def j0Y (n:List UInt8) (k:List UInt8) (f:Z4):Option (Z7):=
 (iter (fun j (d,c,e,a,b)=>bif decide (a<e)then if 0<=a/\a<(b.length:Int)then oB (b[a.toNat]?) fun l=>(bif decide (l.1=d)then if 0<=a/\a<(b.length:Int)then oB (b[a.toNat]?) fun h=>(some (b.set a.toNat (h.1,c)))else none else if fits (a+1)then j (d,c,e,(a+1),b)else none)else none else if room b.length ([(d,c)]:Z4).length 32 then oB (k_slices_SortFunc_581_m N (b++([(d,c)]:Z4)) ()) fun i=>(some i)else none) N (n,k,(f.length:Int),(0:Int),f))
theorem j2A :mK 88 ⟨⟨[.box 900000 0,pS,pS],[(900000,false,[.mtk 850000 Y18 114 true])]⟩,⟨[.tup []],[(900000,false,[.mtk 1 Y18 114 true])]⟩,c3A (j0Y N)⟩:=
 mO (fC (j2C N) ja) func88 rfl N (.seq (.seq .no (.block (.loop j10 .no))) .no) _ (wr:=[42,43]) (rs:=[900000,850000])
def j1V :Sh:=⟨pS::pI::dz 3 (pI::dz 40 []),[]⟩
def j07 (c:List UInt8) (k:Int):Z8:=
 (bif decide ((c.length:Int)<7)then some false else oB (cut c 0 3) fun x=>bif !decide (x=([103,101,110]:List UInt8))then oB (cut c 0 3) fun q=>(bif !decide (q=([115,101,103]:List UInt8))then some false else iter (fun v (e,h,a)=>bif decide (a<7)then oB (idx e a) fun n=>(bif decide ((n.toNat:Int)<48)then some false else oB (idx e a) fun y=>bif decide ((57:Int)<(y.toNat:Int))then some false else if fits (a+1)then v (e,h,(a+1))else none)else oB (cut e 3 7) fun t=>oB (jXn N t) fun j=>if fits (j-1000)then if fits (h-1)then oB (jm N (j-1000) 1 (h-1)) fun w=>(some w)else none else none) N (c,k,(3:Int)))else iter (fun u (d,i,b)=>bif decide (b<7)then oB (idx d b) fun r=>(bif decide ((r.toNat:Int)<48)then some false else oB (idx d b) fun o=>bif decide ((57:Int)<(o.toNat:Int))then some false else if fits (b+1)then u (d,i,(b+1))else none)else oB (cut d 3 7) fun p=>oB (jXn N p) fun l=>if fits (l-1000)then if fits (i-1)then oB (jm N (l-1000) 1 (i-1)) fun m=>(some m)else none else none) N (c,k,(3:Int)))
theorem j2l :mK 91 (bX [pS,pI] [pB] (c2A (j07 N))):=
 mO (fC (jXC N) (fC (jY N) ja)) func91 rfl N (.seq .no (.seq .no (.seq (.seq .no (.block (.loop j1V .no))) .no))) _
def j0U (b:List UInt8) (d:List UInt8) (c:Int):Z8:=
 (oB (j07 N b c) fun a=>some a)
theorem j1q :mK 90 (bX [.agg [pS,pS],.ptr tI] [pB] (c3A (j0U N))):=
 mO (fC (j2l N) ja) func90 rfl N .no _
def j11 :Sh:=⟨.mtk 800000 Y18 114 true:: .clo 90 [.ptr tI]::dz 5 (pI::pI::dz 10 []),[]⟩
def j03 (e:Z4) (j:Int):Option (Int×Z7):=
 (iter (fun i (b,f,d,a)=>bif decide (a<d)then if 0<=a/\a<(b.length:Int)then oB (b[a.toNat]?) fun c=>(oB (j0U N c.1 c.2 f) fun h=>bif h then some (a,b)else if fits (a+1)then i (b,f,d,(a+1))else none)else none else some ((-1),b)) N (e,j,(e.length:Int),(0:Int)))
theorem j1X :mK 165 (bX [.mtk 800000 Y18 114 true,.clo 90 [.ptr tI]] [pI,.mtk 800000 Y18 114 true] (c2A (j03 N))):=
 mO (fC (j1q N) ja) func165 rfl N (.seq .no (.seq (.seq .no (.block (.loop j11 .no))) .no)) _ (rs:=[800000])
def j2W :Sh:=⟨.mtk 800000 Y18 114 true:: .clo 90 [.ptr tI]::dz 3 (pI::pI::dz 35 []),[]⟩
def j02 (k:Z4) (i:Int):Option (Z7):=
 (oB (j03 N k i) fun d=>bif decide (d.1=(-1))then some d.2 else if fits (d.1+1)then iter (fun h (a,f,b,c)=>bif decide (c<(a.length:Int))then if 0<=c/\c<(a.length:Int)then oB (a[c.toNat]?) fun e=>(oB (j0U N e.1 e.2 f) fun j=>bif !j then if 0<=b/\b<(a.length:Int)then oB (a[b.toNat]?) fun n=>(if fits (b+1)then if fits (c+1)then h ((a.set b.toNat e),f,(b+1),(c+1))else none else none)else none else if fits (c+1)then h (a,f,b,(c+1))else none)else none else oB (cut a b (a.length:Int)) fun _=>oB (cut (a.take b.toNat++List.replicate ((a.length:Int).toNat-b.toNat) (([]:List UInt8),([]:List UInt8))++a.drop ((a.length:Int).toNat)) 0 b) fun m=>some m) N (d.2,i,d.1,(d.1+1))else none)
theorem j3h :mK 89 (bX [.mtk 800000 Y18 114 true,.clo 90 [.ptr tI]] [.own 1 Y18 114 true,.dead] (c2A (j02 N))):=
 mO (fC (j1X N) (fC (j1q N) ja)) func89 rfl N (.seq .no (.seq .no (.seq .no (.seq (.seq .no (.block (.loop j2W .no))) .no)))) _ (wr:=[41]) (rs:=[800000]) (dw:=[38])
def j26 :Sh:=⟨.dead:: .dead::pI:: .box 3 0:: .box 4 0:: .dead:: .box 6 0:: .dead:: .box 8 0:: .box 9 0::pI::dz 134 [],[(3,false,[.pv Y17]),(4,false,[.pv (.sl .str),.pv Y14,.pv Y0]),(6,false,[.nils]),(8,false,[.mtk 700800 Y18 114 true]),(9,false,[pI])]⟩
def j2L :Sh:=⟨.dead:: .dead::pI:: .dead:: .box 4 0:: .dead:: .box 6 0:: .dead:: .box 8 0:: .box 9 0::dz 3 (.mtk 600013 Y18 114 true::pS::dz 46 (.pv Y0::pI::pI::dz 81 [])),[(4,false,[.pv (.sl .str),.pv Y14,.pv Y0]),(6,false,[.nils]),(8,false,[.mtk 700800 Y18 114 true]),(9,false,[pI])]⟩
def j3q :Sh:=⟨.dead:: .dead::pI::dz 3 (.box 6 0:: .dead:: .box 8 0:: .box 9 0::dz 3 (.pv Y17::dz 91 (.pv Y17::pI::pI::dz 37 []))),[(6,false,[.nils]),(8,false,[.mtk 700800 Y18 114 true]),(9,false,[pI])]⟩
noncomputable def j3P (w:Z4) (S:List Z1) (L:List Z6) (H:List Z3) (ag:Int):Option (Z7×Int):=
 (oB (i_DiskOk_m N w) fun V=>bif !V then some (([]:Z4),(-1))else oB (i_IndexOk_m N S L H) fun af=>bif !af then some (([]:Z4),(-1))else if room ([]:Z4).length w.length 32 then iter (fun I (E,e,i,B,C,p,o,D)=>bif decide (e<=99)then oB (i_genName_m N e) fun ad=>(oB (i_Disk_file_m N i ad) fun W=>bif W.2 then if fits (e+1)then if fits (e+1)then I (E,(e+1),i,B,C,p,o,(e+1))else none else none else if fits (e+1)then I (E,(e+1),i,B,C,p,o,D)else none)else bif decide ((99:Int)<D)then some (o,0)else if fits ((i.length:Int)+5)then if fits (((i.length:Int)+5)+1)then bif decide ((24:Int)<(((i.length:Int)+5)+1))then some (o,0)else(iter (fun ae (O,j,f,T,Q,l,R,G,ac,K,n)=>bif decide (l<Q)then oB (idx T l) fun A=>(if fits (1000+n)then oB (k_strconv_Itoa_m N (1000+n)) fun a=>(if([115,101,103]:List UInt8).length+a.length<=9223372036854775807 then if(([115,101,103]:List UInt8)++a).length+([120]:List UInt8).length<=9223372036854775807 then oB (k_strconv_Itoa_m N l) fun d=>(if((([115,101,103]:List UInt8)++a)++([120]:List UInt8)).length+d.length<=9223372036854775807 then oB (i_LivePut_m N R G A.1.1 A.1.2 A.2) fun y=>(if room j.length ([((((([115,101,103]:List UInt8)++a)++([120]:List UInt8))++d),y)]:Z4).length 32 then if(((([115,101,103]:List UInt8)++a)++([120]:List UInt8))++d).length+([32]:List UInt8).length<=9223372036854775807 then oB (i_Crc_m N y) fun X=>(oB (k_strconv_Itoa_m N X) fun u=>if((((([115,101,103]:List UInt8)++a)++([120]:List UInt8))++d)++([32]:List UInt8)).length+u.length<=9223372036854775807 then if(((((([115,101,103]:List UInt8)++a)++([120]:List UInt8))++d)++([32]:List UInt8))++u).length+([10]:List UInt8).length<=9223372036854775807 then if f.length+((((((([115,101,103]:List UInt8)++a)++([120]:List UInt8))++d)++([32]:List UInt8))++u)++([10]:List UInt8)).length<=9223372036854775807 then if fits (l+1)then ae (O,(j++([((((([115,101,103]:List UInt8)++a)++([120]:List UInt8))++d),y)]:Z4)),(f++((((((([115,101,103]:List UInt8)++a)++([120]:List UInt8))++d)++([32]:List UInt8))++u)++([10]:List UInt8))),T,Q,(l+1),R,G,ac,K,n)else none else none else none else none)else none else none)else none)else none else none)else none)else oB (i_genName_m N n) fun x=>if f.length+([101,110,100]:List UInt8).length<=9223372036854775807 then if room j.length ([(x,(f++([101,110,100]:List UInt8)))]:Z4).length 32 then iter (fun z (h,q,t,r,b,k,c)=>bif decide (b<r)then oB (idx t b) fun v=>(bif decide (h<0)then oB (j0Y N v.1 v.2 k) fun aa=>(if fits (b+1)then z (h,q,t,r,(b+1),aa,c)else none)else bif decide (b<h)then oB (j0Y N v.1 v.2 k) fun ab=>(if fits (b+1)then z (h,q,t,r,(b+1),ab,c)else none)else if fits (b+1)then z (h,q,t,r,(b+1),k,c)else none)else bif decide (h<0)then oB (j02 N k c) fun U=>(if room ([]:Z4).length U.length 32 then some ((([]:Z4)++U),c)else none)else bif decide ((q.length:Int)<h)then oB (j02 N k c) fun P=>(if room ([]:Z4).length P.length 32 then some ((([]:Z4)++P),c)else none)else some (k,c)) N (O,(j++([(x,(f++([101,110,100]:List UInt8)))]:Z4)),(j++([(x,(f++([101,110,100]:List UInt8)))]:Z4)),((j++([(x,(f++([101,110,100]:List UInt8)))]:Z4)).length:Int),(0:Int),K,n)else none else none) N (E,([]:Z4),([]:List UInt8),p,(p.length:Int),(0:Int),B,C,p,o,D))else none else none) N (ag,(1:Int),w,S,L,H,(([]:Z4)++w),(1:Int))else none)
theorem j29 :mK 33 (bX [.agg [.pv Y17],.agg [.pv (.sl .str),.pv Y14,.pv Y0],pI] [.tup [.agg [.own 1 Y18 114 true],pI]] (c5A (j3P N))):=
 mO (fC (j0P N) (fC (jIr N) (fC (j0B N) (fC (j0r N) (fC (jO0 N) (fC (jXI N) (fC (jZY N) (fC (j2A N) (fC (j3h N) ja))))))))) func33 rfl N (.seq .no (.seq .no (.seq .no (.seq .no (.seq (.seq .no (.block (.loop j26 .no))) (.seq .no (.seq .no (.seq .no (.seq (.seq .no (.block (.loop j2L .no))) (.seq .no (.seq (.seq .no (.block (.loop j3q .no))) .no))))))))))) _ (wr:=[29,32,59,83,84,103,104,138,141])
def jaN (N:Nat) (a:List UInt8) (c:List UInt8) (b:Int):Z12:=
 (if fits (b-(a.length:Int))then bif decide ((b-(a.length:Int))<0)then some (-1)else(if fits ((b-(a.length:Int))-(c.length:Int))then bif decide (((b-(a.length:Int))-(c.length:Int))<0)then some (-1)else(some ((b-(a.length:Int))-(c.length:Int)))else none)else none)
theorem jpy :mK 350 (bX [.agg [pS,pS],pI] [pI] (c3A (jaN N))):=
 mO ja func350 rfl N .no _
def jdb (a:Z4) (d:Int):Z12:=
 (if fits (d-(a.length:Int))then bif decide ((d-(a.length:Int))<0)then some (-1)else(iter (fun i (c,h,b)=>bif decide (b<(c.length:Int))then oB (idx c b) fun f=>(oB (jaN N f.1 f.2 h) fun e=>bif decide (e<0)then some (-1)else if fits (b+1)then i (c,e,(b+1))else none)else some h) N (a,(d-(a.length:Int)),(0:Int)))else none)
theorem jns :mK 344 (bX [.pv Y17,pI] [pI] (c2A (jdb N))):=
 mO (fC (jpy N) ja) func344 rfl N (.seq .no (.seq .no (.seq .no (.seq (.seq .no (.block (.loop j0m .no))) .no)))) _
def jaT (N:Nat) (a:List UInt8) (c:Int) (b:Int):Z12:=
 (if fits (b-(a.length:Int))then bif decide ((b-(a.length:Int))<0)then some (-1)else(some (b-(a.length:Int)))else none)
theorem joe :mK 351 (bX [.agg [pS,pI],pI] [pI] (c3A (jaT N))):=
 mO ja func351 rfl N .no _
def jkA :Sh:=⟨.pv Y13::pI::dz 3 (pI::dz 21 []),[]⟩
def jdV (a:Z9) (d:Int):Z12:=
 (if fits (d-(a.length:Int))then bif decide ((d-(a.length:Int))<0)then some (-1)else(iter (fun i (c,h,b)=>bif decide (b<(c.length:Int))then oB (idx c b) fun f=>(oB (jaT N f.1 f.2 h) fun e=>bif decide (e<0)then some (-1)else if fits (b+1)then i (c,e,(b+1))else none)else some h) N (a,(d-(a.length:Int)),(0:Int)))else none)
theorem jn5 :mK 345 (bX [.pv Y13,pI] [pI] (c2A (jdV N))):=
 mO (fC (joe N) ja) func345 rfl N (.seq .no (.seq .no (.seq .no (.seq (.seq .no (.block (.loop jkA .no))) .no)))) _
def jbq (f:Int) (c:Z4) (d:Z9) (e:Int):Z12:=
 (oB (jdb N c e) fun a=>bif decide (a<0)then some (-1)else oB (jdV N d a) fun b=>bif decide (b<0)then some (-1)else some b)
theorem jnC :mK 329 (bX [.agg [pI,.pv Y17,.pv Y13],pI] [pI] (c4A (jbq N))):=
 mO (fC (jns N) (fC (jn5 N) ja)) func329 rfl N .no _
def jqA :Sh:=⟨.pv Y3::pI::dz 3 (pI::dz 21 []),[]⟩
def jdo (a:List Z0) (e:Int):Z12:=
 (if fits (e-(a.length:Int))then bif decide ((e-(a.length:Int))<0)then some (-1)else(iter (fun i (c,h,b)=>bif decide (b<(c.length:Int))then oB (idx c b) fun d=>(oB (jbq N d.1 d.2.1 d.2.2 h) fun f=>bif decide (f<0)then some (-1)else if fits (b+1)then i (c,f,(b+1))else none)else some h) N (a,(e-(a.length:Int)),(0:Int)))else none)
theorem jsn :mK 294 (bX [.pv Y3,pI] [pI] (c2A (jdo N))):=
 mO (fC (jnC N) ja) func294 rfl N (.seq .no (.seq .no (.seq .no (.seq (.seq .no (.block (.loop jqA .no))) .no)))) _
def jeb (N:Nat) (a:List Int) (b:Int):Z12:=
 (if fits (b-(a.length:Int))then bif decide ((b-(a.length:Int))<0)then some (-1)else(some (b-(a.length:Int)))else none)
theorem jm4 :mK 229 (bX [.pv Y19,pI] [pI] (c2A (jeb N))):=
 mO ja func229 rfl N .no _
def jbb (d:Int) (b:List Int) (c:Int):Z12:=
 (oB (jeb N b c) fun a=>bif decide (a<0)then some (-1)else some a)
theorem jsZ :mK 352 (bX [.agg [pI,.pv Y19],pI] [pI] (c3A (jbb N))):=
 mO (fC (jm4 N) ja) func352 rfl N .no _
def joP :Sh:=⟨.pv Y11::pI::dz 3 (pI::dz 21 []),[]⟩
def jdz (a:Z5) (d:Int):Z12:=
 (if fits (d-(a.length:Int))then bif decide ((d-(a.length:Int))<0)then some (-1)else(iter (fun i (c,h,b)=>bif decide (b<(c.length:Int))then oB (idx c b) fun f=>(oB (jbb N f.1 f.2 h) fun e=>bif decide (e<0)then some (-1)else if fits (b+1)then i (c,e,(b+1))else none)else some h) N (a,(d-(a.length:Int)),(0:Int)))else none)
theorem jnZ :mK 346 (bX [.pv Y11,pI] [pI] (c2A (jdz N))):=
 mO (fC (jsZ N) ja) func346 rfl N (.seq .no (.seq .no (.seq .no (.seq (.seq .no (.block (.loop joP .no))) .no)))) _
def jbj (a:List UInt8) (c:List UInt8) (e:Z5) (b:Int):Z12:=
 (if fits (b-(a.length:Int))then bif decide ((b-(a.length:Int))<0)then some (-1)else(if fits ((b-(a.length:Int))-(c.length:Int))then bif decide (((b-(a.length:Int))-(c.length:Int))<0)then some (-1)else(oB (jdz N e ((b-(a.length:Int))-(c.length:Int))) fun d=>bif decide (d<0)then some (-1)else some d)else none)else none)
theorem joB :mK 330 (bX [.agg [pS,pS,.pv Y11],pI] [pI] (c4A (jbj N))):=
 mO (fC (jnZ N) ja) func330 rfl N .no _
def jtA :Sh:=⟨.pv Y5::pI::dz 3 (pI::dz 21 []),[]⟩
def jej (a:List Z2) (e:Int):Z12:=
 (if fits (e-(a.length:Int))then bif decide ((e-(a.length:Int))<0)then some (-1)else(iter (fun i (c,h,b)=>bif decide (b<(c.length:Int))then oB (idx c b) fun d=>(oB (jbj N d.1 d.2.1 d.2.2 h) fun f=>bif decide (f<0)then some (-1)else if fits (b+1)then i (c,f,(b+1))else none)else some h) N (a,(e-(a.length:Int)),(0:Int)))else none)
theorem jrU :mK 295 (bX [.pv Y5,pI] [pI] (c2A (jej N))):=
 mO (fC (joB N) ja) func295 rfl N (.seq .no (.seq .no (.seq .no (.seq (.seq .no (.block (.loop jtA .no))) .no)))) _
def jbR (d:List Z0) (c:List Z2) (e:Int):Z12:=
 (oB (jdo N d e) fun a=>bif decide (a<0)then some (-1)else oB (jej N c a) fun b=>bif decide (b<0)then some (-1)else some b)
theorem jpO :mK 228 (bX [.agg [.pv Y3,.pv Y5],pI] [pI] (c3A (jbR N))):=
 mO (fC (jsn N) (fC (jrU N) ja)) func228 rfl N .no _
def jJQ (e:List Z0) (c:List Z2) (d:List Int) (f:Int):Z12:=
 (oB (jbR N e c f) fun a=>bif decide (a<0)then some (-1)else oB (jeb N d a) fun b=>bif decide (b<0)then some (-1)else some b)
theorem jJg :mK 173 (bX [.agg [.pv Y3,.pv Y5,.pv Y19],pI] [pI] (c4A (jJQ N))):=
 mO (fC (jpO N) (fC (jm4 N) ja)) func173 rfl N .no _
def jJf :Sh:=⟨.pv Y0::pI::dz 3 (pI::dz 21 []),[]⟩
def jKm (a:List Z3) (e:Int):Z12:=
 (if fits (e-(a.length:Int))then bif decide ((e-(a.length:Int))<0)then some (-1)else(iter (fun i (c,h,b)=>bif decide (b<(c.length:Int))then oB (idx c b) fun d=>(oB (jJQ N d.1.1 d.1.2 d.2 h) fun f=>bif decide (f<0)then some (-1)else if fits (b+1)then i (c,f,(b+1))else none)else some h) N (a,(e-(a.length:Int)),(0:Int)))else none)
theorem jJA :mK 97 (bX [.pv Y0,pI] [pI] (c2A (jKm N))):=
 mO (fC (jJg N) ja) func97 rfl N (.seq .no (.seq .no (.seq .no (.seq (.seq .no (.block (.loop jJf .no))) .no)))) _
def jJ5 (e:List Z1) (c:List Z6) (d:List Z3) (f:Int):Z12:=
 (oB (jbD N e c f) fun a=>bif decide (a<0)then some (-1)else oB (jKm N d a) fun b=>bif decide (b<0)then some (-1)else some b)
theorem jIX :mK 36 (bX [.agg [.pv (.sl .str),.pv Y14,.pv Y0],pI] [pI] (c4A (jJ5 N))):=
 mO (fC (jm8 N) (fC (jJA N) ja)) func36 rfl N .no _
def jaW (N:Nat) (b:List UInt8) (a:List UInt8):Option (Z1×Z1):=
 (some (b,a))
theorem jlT :mK 353 (bX [.agg [pS,pS]] [.agg [pS,pS]] (c2A (jaW N))):=
 mO ja func353 rfl N .no _
def jp2 :Sh:=⟨.pv Y17:: .dead:: .dead:: .mtk 600003 Y18 155 true::pI::dz 18 [],[]⟩
def jdS (b:Z4):Option (Z7):=
 (if(b.length:Int)=(b.length:Int)/\0<=(b.length:Int)/\(b.length:Int)*32<=140737488355328/\(b.length:Int)<=140737488355328 then iter (fun h (d,c,a)=>bif decide (a<(d.length:Int))then oB (idx d a) fun e=>(oB (jaW N e.1 e.2) fun f=>if 0<=a/\a<(c.length:Int)then oB (c[a.toNat]?) fun j=>(if fits (a+1)then h (d,(c.set a.toNat f),(a+1))else none)else none)else some c) N (b,(List.replicate (b.length:Int).toNat (([]:List UInt8),([]:List UInt8))),(0:Int))else none)
theorem jmr :mK 347 (bX [.pv Y17] [.own 1 Y18 155 true] (c1A (jdS N))):=
 mO (fC (jlT N) ja) func347 rfl N (.seq .no (.seq .no (.seq (.seq .no (.block (.loop jp2 .no))) .no))) _ (wr:=[7]) (dw:=[20])
def jaX (N:Nat) (b:List UInt8) (a:Int):Option (Z1×Int):=
 (some (b,a))
theorem jnE :mK 354 (bX [.agg [pS,pI]] [.agg [pS,pI]] (c2A (jaX N))):=
 mO ja func354 rfl N .no _
def jpn :Sh:=⟨.pv Y13:: .dead:: .dead:: .mtk 600003 Y15 157 true::pI::dz 18 [],[]⟩
def jd3 (b:Z9):Option (Z10):=
 (if(b.length:Int)=(b.length:Int)/\0<=(b.length:Int)/\(b.length:Int)*24<=140737488355328/\(b.length:Int)<=140737488355328 then iter (fun h (d,c,a)=>bif decide (a<(d.length:Int))then oB (idx d a) fun e=>(oB (jaX N e.1 e.2) fun f=>if 0<=a/\a<(c.length:Int)then oB (c[a.toNat]?) fun j=>(if fits (a+1)then h (d,(c.set a.toNat f),(a+1))else none)else none)else some c) N (b,(List.replicate (b.length:Int).toNat (([]:List UInt8),0)),(0:Int))else none)
theorem jqJ :mK 348 (bX [.pv Y13] [.own 1 Y15 157 true] (c1A (jd3 N))):=
 mO (fC (jnE N) ja) func348 rfl N (.seq .no (.seq .no (.seq (.seq .no (.block (.loop jpn .no))) .no))) _ (wr:=[7]) (dw:=[20])
def jbv (c:Int) (b:Z4) (d:Z9):Option Z0:=
 (oB (jdS N b) fun a=>oB (jd3 N d) fun e=>some (c,a,e))
theorem jsM :mK 331 (bX [.agg [pI,.pv Y17,.pv Y13]] [.agg [pI,.own 1 Y18 155 true,.own 2 Y15 157 true]] (c3A (jbv N))):=
 mO (fC (jmr N) (fC (jqJ N) ja)) func331 rfl N .no _ (dw:=[9,13])
def jmB :Sh:=⟨.pv Y3:: .dead:: .dead:: .tre 600003 Y4 95::pI::dz 18 [],[]⟩
def jdO (b:List Z0):Z14:=
 (if(b.length:Int)=(b.length:Int)/\0<=(b.length:Int)/\(b.length:Int)*56<=140737488355328/\(b.length:Int)<=140737488355328 then iter (fun h (d,c,a)=>bif decide (a<(d.length:Int))then oB (idx d a) fun e=>(oB (jbv N e.1 e.2.1 e.2.2) fun f=>if 0<=a/\a<(c.length:Int)then oB (c[a.toNat]?) fun j=>(if fits (a+1)then h (d,(c.set a.toNat f),(a+1))else none)else none)else some c) N (b,(List.replicate (b.length:Int).toNat (0,([]:Z4),([]:Z9))),(0:Int))else none)
theorem jsQ :mK 296 (bX [.pv Y3] [.own 1 Y4 95 true] (c1A (jdO N))):=
 mO (fC (jsM N) ja) func296 rfl N (.seq .no (.seq .no (.seq (.seq .no (.block (.loop jmB .no))) .no))) _ (wr:=[7]) (dw:=[20])
def jng :Sh:=⟨.pv Y19:: .dead:: .dead:: .mtk 600003 tI 3 true::pI::dz 17 [],[]⟩
def jek (b:List Int):Option ((List Int)):=
 (if(b.length:Int)=(b.length:Int)/\0<=(b.length:Int)/\(b.length:Int)*8<=140737488355328/\(b.length:Int)<=140737488355328 then iter (fun e (d,c,a)=>bif decide (a<(d.length:Int))then oB (idx d a) fun f=>(if 0<=a/\a<(c.length:Int)then oB (c[a.toNat]?) fun i=>(if fits (a+1)then e (d,(c.set a.toNat f),(a+1))else none)else none)else some c) N (b,(List.replicate (b.length:Int).toNat 0),(0:Int))else none)
theorem jqI :mK 231 (bX [.pv Y19] [.own 1 tI 3 true] (c1A (jek N))):=
 mO ja func231 rfl N (.seq .no (.seq .no (.seq (.seq .no (.block (.loop jng .no))) .no))) _ (wr:=[7])
def jbr (c:Int) (b:List Int):Option (Int×(List Int)):=
 (oB (jek N b) fun a=>some (c,a))
theorem jks :mK 355 (bX [.agg [pI,.pv Y19]] [.agg [pI,.own 1 tI 3 true]] (c2A (jbr N))):=
 mO (fC (jqI N) ja) func355 rfl N .no _ (dw:=[9])
def joy :Sh:=⟨.pv Y11:: .dead:: .dead:: .tre 600003 Y12 241::pI::dz 18 [],[]⟩
def jdx (b:Z5):Option (Z13):=
 (if(b.length:Int)=(b.length:Int)/\0<=(b.length:Int)/\(b.length:Int)*32<=140737488355328/\(b.length:Int)<=140737488355328 then iter (fun h (d,c,a)=>bif decide (a<(d.length:Int))then oB (idx d a) fun e=>(oB (jbr N e.1 e.2) fun f=>if 0<=a/\a<(c.length:Int)then oB (c[a.toNat]?) fun j=>(if fits (a+1)then h (d,(c.set a.toNat f),(a+1))else none)else none)else some c) N (b,(List.replicate (b.length:Int).toNat (0,([]:List Int))),(0:Int))else none)
theorem jpe :mK 349 (bX [.pv Y11] [.own 1 Y12 241 true] (c1A (jdx N))):=
 mO (fC (jks N) ja) func349 rfl N (.seq .no (.seq .no (.seq (.seq .no (.block (.loop joy .no))) .no))) _ (wr:=[7]) (dw:=[20])
def jaM (c:List UInt8) (b:List UInt8) (d:Z5):Option Z2:=
 (oB (jdx N d) fun a=>some (c,b,a))
theorem jnB :mK 332 (bX [.agg [pS,pS,.pv Y11]] [.agg [pS,pS,.own 1 Y12 241 true]] (c3A (jaM N))):=
 mO (fC (jpe N) ja) func332 rfl N .no _ (dw:=[12])
def jk2 :Sh:=⟨.pv Y5:: .dead:: .dead:: .tre 600003 Y6 167::pI::dz 18 [],[]⟩
def jd4 (b:List Z2):Option ((List Z2)):=
 (if(b.length:Int)=(b.length:Int)/\0<=(b.length:Int)/\(b.length:Int)*56<=140737488355328/\(b.length:Int)<=140737488355328 then iter (fun h (d,c,a)=>bif decide (a<(d.length:Int))then oB (idx d a) fun e=>(oB (jaM N e.1 e.2.1 e.2.2) fun f=>if 0<=a/\a<(c.length:Int)then oB (c[a.toNat]?) fun j=>(if fits (a+1)then h (d,(c.set a.toNat f),(a+1))else none)else none)else some c) N (b,(List.replicate (b.length:Int).toNat (([]:List UInt8),([]:List UInt8),([]:Z5))),(0:Int))else none)
theorem jsC :mK 297 (bX [.pv Y5] [.own 1 Y6 167 true] (c1A (jd4 N))):=
 mO (fC (jnB N) ja) func297 rfl N (.seq .no (.seq .no (.seq (.seq .no (.block (.loop jk2 .no))) .no))) _ (wr:=[7]) (dw:=[20])
def jZ (c:List Z0) (b:List Z2):Option ((List Z0)×(List Z2)):=
 (oB (jdO N c) fun a=>oB (jd4 N b) fun d=>some (a,d))
theorem jqs :mK 230 (bX [.agg [.pv Y3,.pv Y5]] [.agg [.own 1 Y4 95 true,.own 2 Y6 167 true]] (c2A (jZ N))):=
 mO (fC (jsQ N) (fC (jsC N) ja)) func230 rfl N .no _ (dw:=[6,10])
def jJS (c:List Z0) (b:List Z2) (d:List Int):Option ((List Z0)×(List Z2)×(List Int)):=
 (oB (jZ N c b) fun a=>oB (jek N d) fun e=>some (a.1,a.2,e))
theorem jI5 :mK 174 (bX [.agg [.pv Y3,.pv Y5,.pv Y19]] [.agg [.own 1 Y4 95 true,.own 2 Y6 167 true,.own 3 tI 3 true]] (c3A (jJS N))):=
 mO (fC (jqs N) (fC (jqI N) ja)) func174 rfl N .no _ (dw:=[6,10])
def jIN :Sh:=⟨.pv Y0:: .dead:: .dead:: .tre 600003 Y1 33::pI::dz 18 [],[]⟩
def jKe (b:List Z3):Option ((List Z3)):=
 (if(b.length:Int)=(b.length:Int)/\0<=(b.length:Int)/\(b.length:Int)*72<=140737488355328/\(b.length:Int)<=140737488355328 then iter (fun h (e,c,a)=>bif decide (a<(e.length:Int))then oB (idx e a) fun f=>(oB (jJS N f.1.1 f.1.2 f.2) fun d=>if 0<=a/\a<(c.length:Int)then oB (c[a.toNat]?) fun j=>(if fits (a+1)then h (e,(c.set a.toNat ((d.1,d.2.1),d.2.2)),(a+1))else none)else none)else some c) N (b,(List.replicate (b.length:Int).toNat ((([]:List Z0),([]:List Z2)),([]:List Int))),(0:Int))else none)
theorem jJj :mK 98 (bX [.pv Y0] [.own 1 Y1 33 true] (c1A (jKe N))):=
 mO (fC (jI5 N) ja) func98 rfl N (.seq .no (.seq .no (.seq (.seq .no (.block (.loop jIN .no))) .no))) _ (wr:=[7]) (dw:=[20])
def jJM (c:List Z1) (b:List Z6) (d:List Z3):Option ((List Z1)×(List Z6)×(List Z3)):=
 (oB (jad N c b) fun a=>oB (jKe N d) fun e=>some (a.1,a.2,e))
theorem jJt :mK 37 (bX [.agg [.pv (.sl .str),.pv Y14,.pv Y0]] [.agg [.own 1 .str 9 true,.own 2 Y16 142 true,.own 3 Y1 33 true]] (c3A (jJM N))):=
 mO (fC (jtJ N) (fC (jJj N) ja)) func37 rfl N .no _ (dw:=[6,10])
def j4j :Sh:=⟨.pv Y17::pI::dz 3 (pI::dz 27 []),[]⟩
def j3S (j:Z4) (l:Int):Z12:=
 (iter (fun f (c,a,b)=>bif decide (b<(c.length:Int))then oB (idx c b) fun i=>(oB (l_markText_m N a) fun d=>bif !decide (i.1=d)then some (-1)else if fits (a+1)then oB (idx c b) fun e=>(oB (l_markText_m N (a+1)) fun h=>bif !decide (e.2=h)then some (-1)else if fits ((a+1)+1)then if fits (b+1)then f (c,((a+1)+1),(b+1))else none else none)else none)else some a) N (j,l,(0:Int)))
theorem j4b :mK 99 (bX [.pv Y17,pI] [pI] (c2A (j3S N))):=
 mO (fC (jaz N) ja) func99 rfl N (.seq .no (.seq (.seq .no (.block (.loop j4j .no))) .no)) _
def j3Q (b:Z4) (c:Int):Z12:=
 (oB (j3S N b c) fun a=>bif decide (a<0)then some (-1)else some a)
theorem j4d :mK 38 (bX [.agg [.pv Y17],pI] [pI] (c2A (j3Q N))):=
 mO (fC (j4b N) ja) func38 rfl N .no _
noncomputable def j3R (f:Z4) (e:List Z1) (d:List Z6) (h:List Z3) (n:Int):Z8:=
 (oB (jZB N f 1048576) fun o=>bif decide (o<0)then some true else oB (jJ5 N e d h o) fun z=>bif decide (z<0)then some true else oB (jZw N f) fun C=>oB (jJM N e d h) fun j=>oB (j3U N C j.1 j.2.1 j.2.2 n) fun b=>oB (jZw N f) fun k=>oB (jJM N e d h) fun a=>oB (j3P N k a.1 a.2.1 a.2.2 n) fun c=>oB (jZE N c.1 b.1) fun u=>bif !u then some false else bif !decide (c.2=b.2)then some false else oB (jZw N f) fun A=>oB (jZE N k A) fun w=>bif !w then some false else oB (jJM N e d h) fun l=>oB (jJN N a.1 a.2.1 a.2.2 l.1 l.2.1 l.2.2) fun D=>bif !D then some false else oB (jZF N k 1) fun B=>oB (jJX N a.1 a.2.1 a.2.2 B.1) fun v=>bif decide (v.1<0)then some false else oB (jZE N c.1 b.1) fun y=>bif !y then some false else bif !decide (c.2=b.2)then some false else oB (jZF N c.1 1) fun i=>oB (j3Q N i.2 1) fun r=>bif decide (r<0)then some false else bif !decide (r=i.1)then some false else oB (jZw N f) fun x=>oB (jJM N e d h) fun m=>oB (j3P N x m.1 m.2.1 m.2.2 n) fun p=>oB (jZE N p.1 b.1) fun t=>bif !t then some false else bif !decide (p.2=b.2)then some false else oB (j3Q N i.2 1) fun q=>bif decide (q<0)then some false else bif !decide (q=i.1)then some false else some true)
noncomputable def j35 (N:Nat):Model:=⟨⟨[.agg [.pv Y17],.agg [.pv (.sl .str),.pv Y14,.pv Y0],pI],[]⟩,⟨[pB],[]⟩,c5A (j3R N)⟩
theorem j4v :mK 7 (j35 N):=
 mO (fC (jZ7 N) (fC (jIX N) (fC (j0K N) (fC (jJt N) (fC (j1N N) (fC (j29 N) (fC (j0C N) (fC (jIY N) (fC (j0A N) (fC (jJp N) (fC (j4d N) ja))))))))))) func7 rfl N .no (j35 N) (dw:=[31,33,39,41,46,51,60,61,65,66,79,92,100,102,104,109,118])
end Go.Proofs.YtcinmmojlcchfaaGreatDoor
