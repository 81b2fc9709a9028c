import Derived.Test.YtcinmmojlcchfaaGreatDoorG1A
set_option linter.unusedVariables false
set_option linter.unusedSimpArgs false
namespace Go.Proofs.YtcinmmojlcchfaaGreatDoor
open Go.RowKit Go.Proofs.Tryz
variable (N : Nat)
open Option renaming bind -> oB
def jI7 :Sh:=⟨.mtk 800000 Y4 95 false:: .dead::pI::pI:: .clo 155 []::dz 5 (pI::dz 71 []),[]⟩
def jJE :Sh:=⟨.mtk 800000 Y4 95 false:: .dead::pI::pI:: .clo 155 []::dz 5 (pI::pI::dz 70 []),[]⟩
def jJr (a:List Z0) (d:Int) (c:Int) (e:Int) (b:Unit):Z14:=siftG (cmp669 N) N a d c e b
 
theorem jIA :mK 319 (bX [.mtk 800000 Y4 95 false,pI,pI,pI,.clo 155 []] [.tup [],.mtk 800000 Y4 95 false] (c5A (jJr N))):=
 mO (fC (jHC N) ja) func319 rfl N (.seq .no (.block (.loop jI7 (.block (.seq .no (.seq .no (.meet jJE .no .no))))))) _ (rs:=[800000])
def jH9 :Sh:=⟨.mtk 800000 Y4 95 false:: .dead:: .dead:: .clo 155 []::dz 4 (pI::pI::pI::pI::dz 48 []),[]⟩
def jIK :Sh:=⟨.mtk 800000 Y4 95 false:: .dead:: .dead:: .clo 155 []::dz 4 (pI::pI:: .dead:: .dead::pI::dz 47 []),[]⟩
def jIj (a:List Z0) (d:Int) (c:Int) (b:Unit):Z14:=heapG (cmp669 N) N a d c b
 
theorem jJa :mK 273 (bX [.mtk 800000 Y4 95 false,pI,pI,.clo 155 []] [.tup [],.mtk 800000 Y4 95 false] (c4A (jIj N))):=
 mO (fC (jIA N) ja) func273 rfl N (.seq .no (.seq .no (.seq .no (.seq (.seq .no (.block (.loop jH9 .no))) (.seq .no (.block (.loop jIK .no))))))) _ (rs:=[800000])
def jH6 :Sh:=⟨.mtk 800000 Y4 95 false::pI::dz 6 (pI:: .box 9 0:: .pv (.int .u64)::pI::dz 55 []),[(9,false,[.pv (.int .u64)])]⟩
def jJm :Sh:=⟨.mtk 800000 Y4 95 false::pI::dz 6 (pI:: .box 9 0:: .pv (.int .u64)::pI::pI::dz 54 []),[(9,false,[.pv (.int .u64)])]⟩
def jI4 (a:List Z0) (d:Int) (c:Int) (b:Unit):Z14:=breakG N a d c b
 
theorem jIs :mK 274 (bX [.mtk 800000 Y4 95 false,pI,pI,.clo 155 []] [.tup [],.mtk 800000 Y4 95 false] (c4A (jI4 N))):=
 mO (fC (jhv N) (fC (jet N) ja)) func274 rfl N (.seq .no (.seq .no (.cond (.seq .no (.seq .no (.seq .no (.block (.loop jH6 (.seq .no (.seq (.block (.seq .no (.meet jJm .no .no))) .no))))))) .no))) _ (rs:=[800000])
def jJC (a:List Z0) (e:Int) (d:Int) (c:Unit) (b:Int):Option (Int×Int×(List Z0)×Int):=order2G (cmp669 N) N a e d c b
 
theorem jIo :mK 340 ⟨⟨[.mtk 800000 Y4 95 false,pI,pI,.box 900003 0,.clo 155 []],[(900003,false,[pI])]⟩,⟨[.tup [pI,pI],.mtk 800000 Y4 95 false],[(900003,false,[pI])]⟩,c5A (jJC N)⟩:=
 mO (fC (jHC N) ja) func340 rfl N .no _ (rs:=[900003,800000])
def jII (a:List Z0) (f:Int) (d:Int) (e:Int) (c:Unit) (b:Int):Option (Int×(List Z0)×Int):=medianG (cmp669 N) N a f d e c b
 
theorem jHQ :mK 321 ⟨⟨[.mtk 800000 Y4 95 false,pI,pI,pI,.box 900004 0,.clo 155 []],[(900004,false,[pI])]⟩,⟨[pI,.mtk 800000 Y4 95 false],[(900004,false,[pI])]⟩,c6A (jII N)⟩:=
 mO (fC (jIo N) ja) func321 rfl N .no _ (rs:=[900004,800000])
def jIn (a:List Z0) (d:Int) (b:Unit) (c:Int):Option (Int×(List Z0)×Int):=medianAdjacentG (cmp669 N) N a d b c
 
theorem jI9 :mK 320 ⟨⟨[.mtk 800000 Y4 95 false,pI,.box 900002 0,.clo 155 []],[(900002,false,[pI])]⟩,⟨[pI,.mtk 800000 Y4 95 false],[(900002,false,[pI])]⟩,c4A (jIn N)⟩:=
 mO (fC (jHQ N) ja) func320 rfl N .no _ (rs:=[900002,800000])
def jJw :Sh:=⟨.mtk 800000 Y4 95 false:: .dead:: .dead:: .clo 155 []::dz 7 (.box 11 0::pI::pI::pI::dz 48 []),[(11,false,[pI])]⟩
def jI6 :Sh:=⟨.mtk 800000 Y4 95 false::dz 10 (.box 11 0:: .dead::pI::dz 49 []),[(11,false,[pI])]⟩
def jIq (a:List Z0) (d:Int) (c:Int) (b:Unit):Option (Int×Int×(List Z0)):=choosePivotG (cmp669 N) N a d c b
 
theorem jJz :mK 275 (bX [.mtk 800000 Y4 95 false,pI,pI,.clo 155 []] [.tup [pI,pI],.mtk 800000 Y4 95 false] (c4A (jIq N))):=
 mO (fC (jI9 N) (fC (jHQ N) ja)) func275 rfl N (.seq .no (.seq .no (.seq .no (.seq .no (.seq .no (.seq .no (.meet jI6 (.seq .no (.cond (.meet jJw .no .no) .no)) .no))))))) _ (rs:=[800000])
def jJB :Sh:=⟨.mtk 800000 Y4 95 false::dz 7 (pI::pI::dz 24 []),[]⟩
def jJs (a:List Z0) (d:Int) (c:Int) (b:Unit):Z14:=reverseRangeG N a d c b
 
theorem jIk :mK 276 (bX [.mtk 800000 Y4 95 false,pI,pI,.clo 155 []] [.tup [],.mtk 800000 Y4 95 false] (c4A (jJs N))):=
 mO ja func276 rfl N (.seq .no (.seq .no (.block (.loop jJB .no)))) _ (rs:=[800000])
def jHL :Sh:=⟨.mtk 800000 Y4 95 false::pI::pI:: .clo 155 []::dz 5 (pI::pI::dz 130 []),[]⟩
def jJh :Sh:=⟨.mtk 800000 Y4 95 false::pI::pI:: .clo 155 []::dz 5 (pI::pI::pI::dz 129 []),[]⟩
def jIF :Sh:=⟨.mtk 800000 Y4 95 false::pI::pI:: .clo 155 []::dz 5 (pI::pI:: .dead::pI::dz 128 []),[]⟩
def jIx (a:List Z0) (d:Int) (c:Int) (b:Unit):Option (Bool×(List Z0)):=pisG (cmp669 N) N a d c b
 
theorem jI1 :mK 277 (bX [.mtk 800000 Y4 95 false,pI,pI,.clo 155 []] [pB,.mtk 800000 Y4 95 false] (c4A (jIx N))):=
 mO (fC (jHC N) ja) func277 rfl N (.seq .no (.seq .no (.seq (.seq .no (.block (.loop jHL (.seq .no (.seq (.block (.seq (.block (.loop jHL .no)) (.seq .no (.seq .no (.seq .no (.meet jHL (.seq .no (.cond (.seq .no (.block (.loop jJh .no))) .no)) (.seq .no (.cond (.seq .no (.block (.loop jIF .no))) .no)))))))) .no))))) .no))) _ (rs:=[800000])
def jHK :Sh:=⟨.mtk 800000 Y4 95 false::pI:: .dead:: .dead:: .clo 155 []::dz 6 (pI::pI::dz 77 []),[]⟩
def jIh (a:List Z0) (e:Int) (c:Int) (d:Int) (b:Unit):Option (Int×(List Z0)):=peqG (cmp669 N) N a e c d b
 
theorem jH7 :mK 278 (bX [.mtk 800000 Y4 95 false,pI,pI,pI,.clo 155 []] [pI,.mtk 800000 Y4 95 false] (c5A (jIh N))):=
 mO (fC (jHC N) ja) func278 rfl N (.seq .no (.seq .no (.seq .no (.seq (.block (.loop jHK (.block (.seq (.block (.loop jHK .no)) (.seq (.block (.loop jHK .no)) .no))))) .no)))) _ (rs:=[800000])
def jHD :Sh:=⟨.mtk 800000 Y4 95 false::pI:: .dead:: .dead:: .clo 155 []::dz 7 (pI::pI::dz 164 []),[]⟩
def jIZ (a:List Z0) (e:Int) (c:Int) (d:Int) (b:Unit):Option (Int×Bool×(List Z0)):=partG (cmp669 N) N a e c d b
 
theorem jJc :mK 279 (bX [.mtk 800000 Y4 95 false,pI,pI,pI,.clo 155 []] [.tup [pI,pB],.mtk 800000 Y4 95 false] (c5A (jIZ N))):=
 mO (fC (jHC N) ja) func279 rfl N (.seq .no (.seq .no (.seq .no (.seq (.block (.loop jHD .no)) (.seq (.block (.loop jHD .no)) (.seq .no (.seq .no (.seq .no (.seq .no (.seq (.block (.loop jHD (.block (.seq (.block (.loop jHD .no)) (.seq (.block (.loop jHD .no)) .no))))) .no)))))))))) _ (rs:=[800000])
def jIv :Sh:=⟨.mtk 800000 Y4 95 false::pI::pI::pI:: .clo 155 []::dz 5 (pB::pB::dz 136 []),[]⟩
def jIt :Sh:=⟨.mtk 800000 Y4 95 false::pI::pI::pI:: .clo 155 []::dz 5 (pB::pB::pI::pI::dz 134 []),[]⟩
def jIU :Sh:=⟨.mtk 800000 Y4 95 false::pI::pI::pI:: .clo 155 []::dz 5 (pB::pB::pI::pI::pI::dz 133 []),[]⟩
def jID :Sh:=⟨.mtk 800000 Y4 95 false::pI::pI::pI:: .clo 155 []::dz 5 (pB::pB::pI::dz 135 []),[]⟩
def jHN (N D:Nat) (f:List Z0) (b a limit:Int) (h:Unit):Z14:=pdqG (cmp669 N) (fun d b a c=>heapG (cmp669 N) N d b a c) (fun d b a e c=>peqG (cmp669 N) N d b a e c) N D f b a limit h
 
def jHF (N D:Nat):Model:=⟨⟨[.mtk 800000 Y4 95 false,pI,pI,pI,.clo 155 []],[]⟩,⟨[.tup [],.mtk 800000 Y4 95 false],[]⟩,c5A (jHN N D)⟩
theorem jJo (N D:Nat) (ih:mK 221 (jHF N D)):mK 221 (jHF N (D+1)):=
 mO (fC ih (fC (jIC N) (fC (jJa N) (fC (jIs N) (fC (jJz N) (fC (jIk N) (fC (jI1 N) (fC (jHC N) (fC (jH7 N) (fC (jJc N) ja)))))))))) func221 rfl N (.seq .no (.seq .no (.block (.loop jIv (.block (.seq .no (.seq .no (.seq .no (.meet jID .no (.seq .no (.meet jIU .no (.meet jIt .no .no)))))))))))) (jHF N (D+1)) (rs:=[800000])
theorem jHV (N:Nat):∀D,mK 221 (jHF N D)
 |0=>modelOk_none ⟨_,func221,by decide,by kernel_rfl⟩ _ (fun a=>rfl)
 |D+1=>jJo N D (jHV N D)
def k_slices_SortFunc_669_m (a:List Z0) (d:Unit):Z14:=
 (oB (k_math_bits_Len_m N (IntKind.u64.wrap (a.length:Int))) fun b=>oB (jHN N N a 0 (a.length:Int) b ()) fun c=>some c)
theorem jIu :mK 154 (bX [.mtk 800000 Y4 95 false,.clo 155 []] [.tup [],.mtk 800000 Y4 95 false] (c2A (k_slices_SortFunc_669_m N))):=
 mO (fC (jda N) (fC (jHV N N) ja)) func154 rfl N .no _ (rs:=[800000])
def jH5 :Sh:=⟨dz 3 (.mtk 600003 Y4 95 false::dz 3 (.pv Y0::pI::pI::dz 11 [])),[]⟩
def i_allAlive_m (e:List Z2):Z14:=
 (iter (fun i (c,f,h,a)=>bif decide (a<h)then oB (idx f a) fun b=>(oB (i_Live_alive_m N b.1.1 b.1.2 b.2) fun d=>if room c.length d.length 56 then if fits (a+1)then i ((c++d),f,h,(a+1))else none else none)else oB (k_slices_SortFunc_669_m N c ()) fun k=>some k) N (([]:List Z0),e,(e.length:Int),(0:Int)))
theorem jHR :mK 74 (bX [.pv Y0] [.own 1 Y4 95 false] (c1A (i_allAlive_m N))):=
 mO (fC (jH4 N) (fC (jIu N) ja)) func74 rfl N (.seq .no (.seq .no (.seq (.seq .no (.block (.loop jH5 .no))) .no))) _ (wr:=[6,16])
def jIf :Sh:=⟨.dead:: .box 1 0::dz 14 (.pv Y0::pI::pI::dz 13 []),[(1,false,[.pv (.sl .str),.pv Y14,.pv Y0])]⟩
noncomputable def i_IndexOk_m (j:List Z1) (f:List Z4) (b:List Z2):Z10:=
 (oB (jaj N j f) fun l=>bif !l then some false else bif decide ((5:Int)<b.length)then some false else iter (fun m (e,i,a,k,h,d)=>bif decide (a<i)then oB (idx e a) fun c=>(oB (i_liveOk_m N k h c.1.1 c.1.2 c.2) fun q=>bif !q then some false else if fits (a+1)then m (e,i,(a+1),k,h,d)else none)else oB (i_allAlive_m N d) fun n=>oB (jbf N n) fun p=>some p) N (b,(b.length:Int),(0:Int),j,f,b))
theorem jIr :mK 24 (bX [.agg [.pv (.sl .str),.pv Y14,.pv Y0]] [pB] (c3A (i_IndexOk_m N))):=
 mO (fC (jdX N) (fC (jJD N) (fC (jHR N) (fC (jjU N) ja)))) func24 rfl N (.seq .no (.seq .no (.seq (.seq .no (.block (.loop jIf .no))) .no))) _
def k_strconv_Itoa_m (N:Nat) (a:Int):Option (Z1):=itoaM a
 
def jOU (N:Nat):Model:=⟨⟨[pI],[]⟩,⟨[pS],[]⟩,c1A (k_strconv_Itoa_m N)⟩
theorem jO0 :mK 86 (jOU N):=jPp
def jXY :Sh:=⟨.dead:: .box 1 0:: .dead::pS::dz 13 (.pv Y17::pI::pI::dz 34 []),[(1,false,[pI,.pv Y17,.pv Y13])]⟩
def jX3 :Sh:=⟨dz 3 (pS::dz 31 (.pv Y13::pI::pI::dz 16 [])),[]⟩
def i_DocPut_m (l:Int) (c:Z5) (r:Z8):Option (Z1):=
 (oB (i_DocOk_m N l c r) fun v=>bif !v then some ([]:List UInt8)else oB (k_strconv_Itoa_m N l) fun m=>if([100,111,99,32]:List UInt8).length+m.length<=9223372036854775807 then if(([100,111,99,32]:List UInt8)++m).length+([10]:List UInt8).length<=9223372036854775807 then iter (fun t (i,n,q,d,x,u,j)=>bif decide (d<q)then oB (idx n d) fun a=>(if([102,105,101,108,100,32]:List UInt8).length+a.1.length<=9223372036854775807 then if(([102,105,101,108,100,32]:List UInt8)++a.1).length+([32]:List UInt8).length<=9223372036854775807 then if((([102,105,101,108,100,32]:List UInt8)++a.1)++([32]:List UInt8)).length+a.2.length<=9223372036854775807 then if(((([102,105,101,108,100,32]:List UInt8)++a.1)++([32]:List UInt8))++a.2).length+([10]:List UInt8).length<=9223372036854775807 then if i.length+((((([102,105,101,108,100,32]:List UInt8)++a.1)++([32]:List UInt8))++a.2)++([10]:List UInt8)).length<=9223372036854775807 then if fits (d+1)then t ((i++((((([102,105,101,108,100,32]:List UInt8)++a.1)++([32]:List UInt8))++a.2)++([10]:List UInt8))),n,q,(d+1),x,u,j)else none else none else none else none else none else none)else iter (fun w (k,p,o,f)=>bif decide (f<o)then oB (idx p f) fun b=>(if([110,117,109,32]:List UInt8).length+b.1.length<=9223372036854775807 then if(([110,117,109,32]:List UInt8)++b.1).length+([32]:List UInt8).length<=9223372036854775807 then oB (k_strconv_Itoa_m N b.2) fun e=>(if((([110,117,109,32]:List UInt8)++b.1)++([32]:List UInt8)).length+e.length<=9223372036854775807 then if(((([110,117,109,32]:List UInt8)++b.1)++([32]:List UInt8))++e).length+([10]:List UInt8).length<=9223372036854775807 then if k.length+((((([110,117,109,32]:List UInt8)++b.1)++([32]:List UInt8))++e)++([10]:List UInt8)).length<=9223372036854775807 then if fits (f+1)then w ((k++((((([110,117,109,32]:List UInt8)++b.1)++([32]:List UInt8))++e)++([10]:List UInt8))),p,o,(f+1))else none else none else none else none)else none else none)else some k) N (i,j,(j.length:Int),(0:Int))) N (((([100,111,99,32]:List UInt8)++m)++([10]:List UInt8)),c,(c.length:Int),(0:Int),l,c,r)else none else none)
theorem jYs :mK 127 (bX [.agg [pI,.pv Y17,.pv Y13]] [pS] (c3A (i_DocPut_m N))):=
 mO (fC (jh0 N) (fC (jO0 N) ja)) func127 rfl N (.seq .no (.seq .no (.seq .no (.seq (.seq .no (.block (.loop jXY .no))) (.seq (.seq .no (.block (.loop jX3 .no))) .no))))) _
def jYE :Sh:=⟨dz 3 (.box 3 0:: .dead::pS::dz 12 (.pv Y3::pI::pI::dz 23 [])),[(3,false,[.pv Y3,.pv Y5,.pv Y19])]⟩
def jX8 :Sh:=⟨dz 5 (pS::dz 24 (.pv Y19::pI::pI::dz 11 [])),[]⟩
noncomputable def i_LivePut_m (u:List Z1) (t:List Z4) (d:List Z0) (k:List Z3) (n:List Int):Option (Z1):=
 (oB (i_IndexOk_m N u t ([((d,k),n)]:List Z2)) fun w=>bif !w then some ([]:List UInt8)else iter (fun r (i,o,l,a,z,v,h)=>bif decide (a<l)then oB (idx o a) fun e=>(oB (i_DocPut_m N e.1 e.2.1 e.2.2) fun q=>if i.length+q.length<=9223372036854775807 then if fits (a+1)then r ((i++q),o,l,(a+1),z,v,h)else none else none)else iter (fun y (j,m,p,b)=>bif decide (b<p)then oB (idx m b) fun x=>(oB (k_strconv_Itoa_m N x) fun c=>if([100,101,97,100,32]:List UInt8).length+c.length<=9223372036854775807 then if(([100,101,97,100,32]:List UInt8)++c).length+([10]:List UInt8).length<=9223372036854775807 then if j.length+((([100,101,97,100,32]:List UInt8)++c)++([10]:List UInt8)).length<=9223372036854775807 then if fits (b+1)then y ((j++((([100,101,97,100,32]:List UInt8)++c)++([10]:List UInt8))),m,p,(b+1))else none else none else none else none)else some j) N (i,h,(h.length:Int),(0:Int))) N (([]:List UInt8),d,(d.length:Int),(0:Int),d,k,n))
theorem jXI :mK 52 (bX [.agg [.pv (.sl .str),.pv Y14],.agg [.pv Y3,.pv Y5,.pv Y19]] [pS] (c5A (i_LivePut_m N))):=
 mO (fC (jIr N) (fC (jYs N) (fC (jO0 N) ja))) func52 rfl N (.seq .no (.seq .no (.seq .no (.seq (.seq .no (.block (.loop jYE .no))) (.seq (.seq .no (.block (.loop jX8 .no))) .no))))) _
def jX4 :Sh:=⟨.dead::pS:: .box 2 0:: .dead:: .box 4 0:: .dead:: .own 600006 Y4 95 true:: .own 600007 tI 3 true:: .pv (.sl .str)::pI::dz 92 [],[(2,false,[.pv (.sl .str),.pv Y14]),(4,false,[.nils,.nils,.nils])]⟩
def jYB :Sh:=⟨.dead::pS:: .box 2 0:: .dead:: .box 4 0:: .dead:: .own 600006 Y4 95 true:: .own 600007 tI 3 true:: .pv (.sl .str)::pI::dz 4 (pI::dz 87 []),[(2,false,[.pv (.sl .str),.pv Y14]),(4,false,[.nils,.nils,.nils])]⟩
noncomputable def jY4 (z:List Z1) (y:List Z4) (B:List UInt8):Option ((List Z0)×(List Z3)×(List Int)×Bool):=
 (oB (jaj N z y) fun P=>bif !P then some (([]:List Z0),([]:List Z3),([]:List Int),false)else oB (k_strings_Split_m N B ([10]:List UInt8)) fun U=>iter (fun h (o,t,l,p,d,q,n)=>bif decide (d<(p.length:Int))then oB (idx p d) fun L=>(oB (k_strings_CutPrefix_m N L ([100,101,97,100,32]:List UInt8)) fun A=>bif A.2 then oB (jXn N A.1) fun v=>(if room l.length ([v]:List Int).length 8 then if fits (d+1)then h (o,t,(l++([v]:List Int)),p,(d+1),q,n)else none else none)else if fits (d+1)then iter (fun I (i,c,j,a,e,b,k,f)=>bif decide (b<(a.length:Int))then oB (idx a b) fun H=>(oB (k_strings_HasPrefix_m N H ([100,111,99,32]:List UInt8)) fun K=>bif !K then oB (idx a b) fun E=>(oB (k_strings_HasPrefix_m N E ([100,101,97,100,32]:List UInt8)) fun C=>bif !C then if fits (b+1)then I (i,c,j,a,e,(b+1),k,f)else none else oB (idx a e) fun Q=>bif !decide (Q=([]:List UInt8))then oB (cut a e b) fun R=>(oB (jXo N R) fun x=>if room c.length ([x]:List Z0).length 56 then h (i,(c++([x]:List Z0)),j,a,b,k,f)else none)else h (i,c,j,a,b,k,f))else oB (idx a e) fun O=>bif !decide (O=([]:List UInt8))then oB (cut a e b) fun T=>(oB (jXo N T) fun w=>if room c.length ([w]:List Z0).length 56 then h (i,(c++([w]:List Z0)),j,a,b,k,f)else none)else h (i,c,j,a,b,k,f))else oB (idx a e) fun S=>bif !decide (S=([]:List UInt8))then oB (cut a e b) fun G=>(oB (jXo N G) fun u=>if room c.length ([u]:List Z0).length 56 then h (i,(c++([u]:List Z0)),j,a,b,k,f)else none)else h (i,c,j,a,b,k,f)) N (o,t,l,p,d,(d+1),q,n)else none)else oB (jbT N q n t) fun m=>bif decide (o=([]:List UInt8))then some (([]:List Z0),([]:List Z3),([]:List Int),false)else oB (i_LivePut_m N q n m.1 m.2 l) fun D=>bif !decide (D=o)then some (([]:List Z0),([]:List Z3),([]:List Int),false)else some (m.1,m.2,l,true)) N (B,([]:List Z0),([]:List Int),U,(0:Int),z,y))
theorem jYm :mK 12 (bX [.agg [.pv (.sl .str),.pv Y14],pS] [.tup [.agg [.own 1 Y4 95 true,.own 2 Y6 167 true,.own 3 tI 3 true],pB]] (c3A (jY4 N))):=
 mO (fC (jdX N) (fC (jYi N) (fC (jYg N) (fC (jXC N) (fC (jXS N) (fC (jYG N) (fC (jqC N) (fC (jXI N) ja)))))))) func12 rfl N (.seq .no (.seq .no (.seq .no (.seq .no (.seq .no (.seq (.seq .no (.block (.loop jX4 (.seq .no (.block (.seq .no (.seq .no (.seq (.block (.loop jYB .no)) .no)))))))) .no)))))) _
def s_l30Open_m (N:Nat) (a:List Int):Option ((List Int)×Int):=
 (bif decide ((2000:Int)<a.length)then oB (cut a 0 2000) fun b=>(some (b,0))else some (a,0))
theorem juQ :mK 64 ⟨⟨[.pv (.sl (.int .u8))],[]⟩,⟨[.box 10 0],[(10,false,[.pv (.sl (.int .u8)),pI])]⟩,c1A (s_l30Open_m N)⟩:=
 mO ja func64 rfl N .no _
def s_l30Rd_pick_m (N:Nat) (e:Int) (b:List Int) (a:Int):Option (Int×(List Int)×Int):=
 (if fits (a+1)then bif decide (e<1)then some (0,b,(a+1))else(bif decide ((b.length:Int)=0)then some (0,b,(a+1))else if fits ((a+1)-1)then bif decide (((a+1)-1)<(b.length:Int))then oB (idx b ((a+1)-1)) fun f=>(if e≠0 then some (((IntKind.i64.wrap f).tmod e),b,(a+1))else none)else(if(b.length:Int)≠0 then oB (idx b (((a+1)-1).tmod (b.length:Int))) fun c=>(if fits ((IntKind.i64.wrap c)*131)then if fits (((a+1)-1)*7)then if fits ((((a+1)-1)*7)+3)then if(b.length:Int)≠0 then oB (idx b (((((a+1)-1)*7)+3).tmod (b.length:Int))) fun d=>(if fits ((IntKind.i64.wrap d)*1117)then if fits (((IntKind.i64.wrap c)*131)+((IntKind.i64.wrap d)*1117))then if fits (((a+1)-1)*29)then if fits ((((IntKind.i64.wrap c)*131)+((IntKind.i64.wrap d)*1117))+(((a+1)-1)*29))then if(b.length:Int)≠0 then if fits (((a+1)-1).tdiv (b.length:Int))then if fits ((((a+1)-1).tdiv (b.length:Int))*53)then if fits (((((IntKind.i64.wrap c)*131)+((IntKind.i64.wrap d)*1117))+(((a+1)-1)*29))+((((a+1)-1).tdiv (b.length:Int))*53))then if 64≠0 then if fits ((((((IntKind.i64.wrap c)*131)+((IntKind.i64.wrap d)*1117))+(((a+1)-1)*29))+((((a+1)-1).tdiv (b.length:Int))*53)).tdiv 64)then if e≠0 then some (((bitsI .xor .i64 (((((IntKind.i64.wrap c)*131)+((IntKind.i64.wrap d)*1117))+(((a+1)-1)*29))+((((a+1)-1).tdiv (b.length:Int))*53)) ((((((IntKind.i64.wrap c)*131)+((IntKind.i64.wrap d)*1117))+(((a+1)-1)*29))+((((a+1)-1).tdiv (b.length:Int))*53)).tdiv 64)).tmod e),b,(a+1))else none else none else none else none else none else none else none else none else none else none else none)else none else none else none else none)else none)else none)else none)
theorem jtX :mK 137 ⟨⟨[.box 900000 0,pI],[(900000,false,[.pv (.sl (.int .u8)),pI])]⟩,⟨[pI],[(900000,false,[.pv (.sl (.int .u8)),pI])]⟩,c3A (s_l30Rd_pick_m N)⟩:=
 mO ja func137 rfl N .no _ (rs:=[900000])
def juL :Sh:=⟨.box 900000 0:: .dead:: .box 2 0:: .box 3 0::dz 30 [],[(2,false,[.nils,.nils]),(3,false,[.own 13 .str 9 true,.nils]),(900000,false,[.pv (.sl (.int .u8)),pI])]⟩
def juw :Sh:=⟨.box 900000 0:: .dead:: .box 2 0:: .box 3 0::dz 30 [],[(2,false,[.nils,.nils]),(3,false,[.own 8 .str 9 true,.nils]),(900000,false,[.pv (.sl (.int .u8)),pI])]⟩
def s_l30Conf_m (n:List Int) (i:Int):Option ((List Z1)×(List Z4)×(List Int)×Int):=
 (meet (fun(e:(List Z1)×(List Int)×Int)=>match e with|(l,o,m)=>meet (fun(e:(List Z1)×(List Int)×Int)=>match e with|(d,j,k)=>oB (s_l30Rd_pick_m N 4 j k) fun a=>bif decide (a.1=0)then some (d,([(([([110,101,119]:List UInt8),([121,111,114,107]:List UInt8)]:List Z1),([110,121]:List UInt8))]:List Z4),a.2.1,a.2.2)else bif decide (a.1=1)then some (d,([(([([98,105,103]:List UInt8)]:List Z1),([108,97,114,103]:List UInt8)),(([([98,105,103]:List UInt8),([114,101,100]:List UInt8),([102,111,120]:List UInt8)]:List Z1),([102,111,120]:List UInt8)),(([([110,101,119]:List UInt8),([121,111,114,107]:List UInt8)]:List Z1),([110,121]:List UInt8))]:List Z4),a.2.1,a.2.2)else some (d,([]:List Z4),a.2.1,a.2.2)) fun h=>oB (s_l30Rd_pick_m N 4 o m) fun c=>bif decide (c.1=0)then h (([([100,111,103]:List UInt8),([116,104,101]:List UInt8)]:List Z1),c.2.1,c.2.2)else h (l,c.2.1,c.2.2)) fun f=>oB (s_l30Rd_pick_m N 3 n i) fun b=>bif decide ((0:Int)<b.1)then f (([([116,104,101]:List UInt8)]:List Z1),b.2.1,b.2.2)else f (([]:List Z1),b.2.1,b.2.2))
theorem jva :mK 261 ⟨⟨[.box 900000 0],[(900000,false,[.pv (.sl (.int .u8)),pI])]⟩,⟨[.agg [.own 1 .str 9 true,.own 2 Y16 142 true]],[(900000,false,[.pv (.sl (.int .u8)),pI])]⟩,c2A (s_l30Conf_m N)⟩:=
 mO (fC (jtX N) ja) func261 rfl N (.seq .no (.seq .no (.meet juw .no (.meet juL .no .no)))) _ (rs:=[900000])
def jMA :Sh:=⟨.dead:: .box 1 0:: .box 2 0:: .box 3 0::pI::dz 33 [],[(1,false,[.pv (.sl .str),.pv Y14]),(2,false,[.nils,.nils]),(3,false,[.own 700300 .str 9 true,.own 700301 Y16 142 true])]⟩
def s_l18CopyConf_m (e:List Z1) (j:List Z4):Option ((List Z1)×(List Z4)):=
 (if room ([]:List Z1).length e.length 16 then iter (fun i (a,l,b,h,c)=>bif decide (a<(b.length:Int))then oB (idx b a) fun d=>(if room ([]:List Z1).length d.1.length 16 then oB (idx b a) fun f=>(if room c.length ([((([]:List Z1)++d.1),f.2)]:List Z4).length 40 then if fits (a+1)then i ((a+1),l,b,h,(c++([((([]:List Z1)++d.1),f.2)]:List Z4)))else none else none)else none)else some (h,c)) N ((0:Int),e,j,(([]:List Z1)++e),([]:List Z4))else none)
theorem jMp :mK 144 (bX [.agg [.pv (.sl .str),.pv Y14]] [.agg [.own 1 .str 9 true,.own 2 Y16 142 true]] (c2A (s_l18CopyConf_m N))):=
 mO ja func144 rfl N (.seq .no (.seq .no (.seq (.seq .no (.block (.loop jMA .no))) .no))) _
def s_IndexNew_m (b:List Z1) (a:List Z4):Option ((List Z1)×(List Z4)):=
 (oB (jcw N b a) fun d=>bif !d then some (([]:List Z1),([]:List Z4))else oB (s_l18CopyConf_m N b a) fun c=>some (c.1,c.2))
theorem jOh :mK 260 (bX [.agg [.pv (.sl .str),.pv Y14]] [.agg [.own 1 .str 9 true,.own 2 Y16 142 true,.nils]] (c2A (s_IndexNew_m N))):=
 mO (fC (jtf N) (fC (jMp N) ja)) func260 rfl N .no _
def jMc :Sh:=⟨.pv Y11:: .dead:: .dead:: .own 600003 Y12 241 true::pI::dz 24 [],[]⟩
def s_l7CopyPosts_m (i:Z6):Option (Z12):=
 (iter (fun f (b,d,a)=>bif decide (a<(b.length:Int))then oB (idx b a) fun e=>(oB (idx b a) fun c=>if room ([]:List Int).length c.2.length 8 then if room d.length ([(e.1,(([]:List Int)++c.2))]:Z6).length 32 then if fits (a+1)then f (b,(d++([(e.1,(([]:List Int)++c.2))]:Z6)),(a+1))else none else none else none)else some d) N (i,([]:Z6),(0:Int)))
theorem jLV :mK 338 (bX [.pv Y11] [.own 1 Y12 241 true] (c1A (s_l7CopyPosts_m N))):=
 mO ja func338 rfl N (.seq .no (.seq .no (.seq (.seq .no (.block (.loop jMc .no))) .no))) _
def jLx :Sh:=⟨.dead:: .box 1 0:: .box 2 0:: .box 3 0::pI::dz 47 [],[(1,false,[.pv Y3,.pv Y5]),(2,false,[.nils,.nils]),(3,false,[.own 700300 Y4 95 true,.nils])]⟩
def jKX :Sh:=⟨.dead:: .box 1 0:: .box 2 0:: .box 3 0:: .dead::pI::dz 46 [],[(1,false,[.pv Y3,.pv Y5]),(2,false,[.nils,.nils]),(3,false,[.own 700300 Y4 95 true,.own 700301 Y6 167 true])]⟩
def s_l18CopySeg_m (r:List Z0) (q:List Z3):Option ((List Z0)×(List Z3)):=
 (iter (fun o (d,b,k,i)=>bif decide (d<(b.length:Int))then oB (idx b d) fun e=>(oB (s_l7CopyDoc_m N e.1 e.2.1 e.2.2) fun l=>if room i.length ([l]:List Z0).length 56 then if fits (d+1)then o ((d+1),b,k,(i++([l]:List Z0)))else none else none)else iter (fun p (c,t,f,m,j)=>bif decide (c<(f.length:Int))then oB (idx f c) fun a=>(oB (s_l7CopyPosts_m N a.2.2) fun n=>if room j.length ([(a.1,a.2.1,n)]:List Z3).length 56 then if fits (c+1)then p ((c+1),t,f,m,(j++([(a.1,a.2.1,n)]:List Z3)))else none else none)else some (m,j)) N ((0:Int),b,k,i,([]:List Z3))) N ((0:Int),r,q,([]:List Z0)))
theorem jK3 :mK 315 (bX [.agg [.pv Y3,.pv Y5]] [.agg [.own 1 Y4 95 true,.own 2 Y6 167 true]] (c2A (s_l18CopySeg_m N))):=
 mO (fC (jtC N) (fC (jLV N) ja)) func315 rfl N (.seq .no (.seq .no (.seq (.seq .no (.block (.loop jLx .no))) (.seq (.seq .no (.block (.loop jKX .no))) .no)))) _
def jMK :Sh:=⟨.dead:: .box 1 0:: .box 2 0:: .box 3 0::pI::dz 33 [],[(1,false,[.pv (.sl .str),.pv Y14,.pv Y0]),(2,false,[.nils,.nils,.nils]),(3,false,[.own 700300 .str 9 true,.own 700301 Y16 142 true,.own 700302 Y1 33 true])]⟩
def s_l18Copy_m (j:List Z1) (i:List Z4) (p:List Z2):Option ((List Z1)×(List Z4)×(List Z2)):=
 (oB (s_l18CopyConf_m N j i) fun e=>iter (fun m (a,q,n,b,k,f,d)=>bif decide (a<(b.length:Int))then oB (idx b a) fun h=>(oB (s_l18CopySeg_m N h.1.1 h.1.2) fun l=>oB (idx b a) fun c=>if room ([]:List Int).length c.2.length 8 then if room d.length ([(l,(([]:List Int)++c.2))]:List Z2).length 72 then if fits (a+1)then m ((a+1),q,n,b,k,f,(d++([(l,(([]:List Int)++c.2))]:List Z2)))else none else none else none)else some (k,f,d)) N ((0:Int),j,i,p,e.1,e.2,([]:List Z2)))
theorem jL0 :mK 264 (bX [.agg [.pv (.sl .str),.pv Y14,.pv Y0]] [.agg [.own 1 .str 9 true,.own 2 Y16 142 true,.own 3 Y1 33 true]] (c3A (s_l18Copy_m N))):=
 mO (fC (jMp N) (fC (jK3 N) ja)) func264 rfl N (.seq .no (.seq .no (.seq (.seq .no (.block (.loop jMK .no))) .no))) _
def jLU :Sh:=⟨.pv Y19::pI::dz 3 (pI::dz 42 []),[]⟩
def s_l8Put_m (t:List Int) (q:Int):Option ((List Int)):=
 (iter (fun n (a,b,c)=>bif decide (c<(a.length:Int))then oB (idx a c) fun m=>(bif decide (m<b)then if fits (c+1)then n (a,b,(c+1))else none else bif decide (c<(a.length:Int))then oB (idx a c) fun r=>(bif decide (r=b)then some a else oB (cut a 0 c) fun f=>if room ([]:List Int).length f.length 8 then if room (([]:List Int)++f).length ([b]:List Int).length 8 then oB (cut a c (a.length:Int)) fun l=>(if room ((([]:List Int)++f)++([b]:List Int)).length l.length 8 then some (((([]:List Int)++f)++([b]:List Int))++l)else none)else none else none)else oB (cut a 0 c) fun e=>if room ([]:List Int).length e.length 8 then if room (([]:List Int)++e).length ([b]:List Int).length 8 then oB (cut a c (a.length:Int)) fun j=>(if room ((([]:List Int)++e)++([b]:List Int)).length j.length 8 then some (((([]:List Int)++e)++([b]:List Int))++j)else none)else none else none)else bif decide (c<(a.length:Int))then oB (idx a c) fun o=>(bif decide (o=b)then some a else oB (cut a 0 c) fun d=>if room ([]:List Int).length d.length 8 then if room (([]:List Int)++d).length ([b]:List Int).length 8 then oB (cut a c (a.length:Int)) fun i=>(if room ((([]:List Int)++d)++([b]:List Int)).length i.length 8 then some (((([]:List Int)++d)++([b]:List Int))++i)else none)else none else none)else oB (cut a 0 c) fun h=>if room ([]:List Int).length h.length 8 then if room (([]:List Int)++h).length ([b]:List Int).length 8 then oB (cut a c (a.length:Int)) fun k=>(if room ((([]:List Int)++h)++([b]:List Int)).length k.length 8 then some (((([]:List Int)++h)++([b]:List Int))++k)else none)else none else none) N (t,q,(0:Int)))
theorem jLS :mK 316 (bX [.pv Y19,pI] [.pv Y19] (c2A (s_l8Put_m N))):=
 mO ja func316 rfl N (.seq .no (.seq .no (.seq (.block (.loop jLU .no)) .no))) _
def jL4 :Sh:=⟨.dead::pI:: .box 2 0:: .dead:: .box 4 0:: .dead:: .box 6 0::pB::pI::dz 43 [],[(2,false,[.pv (.sl .str),.pv Y14,.pv Y0]),(4,false,[.nils,.nils,.nils]),(6,false,[.pv (.sl .str),.pv Y14,.own 700602 Y1 33 false])]⟩
def jLD :Sh:=⟨.dead::pI:: .box 2 0:: .dead:: .box 4 0:: .dead:: .box 6 0::pB::pI:: .box 9 0::dz 42 [],[(2,false,[.pv (.sl .str),.pv Y14,.pv Y0]),(4,false,[.nils,.nils,.nils]),(6,false,[.pv (.sl .str),.pv Y14,.own 700602 Y1 33 false]),(9,false,[.pv Y3,.pv Y5,.pv Y19])]⟩
def s_l18Gone_m (t:List Z1) (r:List Z4) (G:List Z2) (y:Int):Z13:=
 (iter (fun x (b,i,d,m,k,c,e,f,h)=>bif decide (d<(c.length:Int))then oB (idx c d) fun a=>(meet (fun(j:Int×Bool×Int×(List Z1)×(List Z4)×(List Z2)×(List Z1)×(List Z4)×(List Z2)×(List Z0)×(List Z3)×(List Int))=>match j with|(w,A,o,E,z,v,H,C,p,u,n,q)=>if room p.length ([((u,n),q)]:List Z2).length 72 then if fits (o+1)then x (w,A,(o+1),E,z,v,H,C,(p++([((u,n),q)]:List Z2)))else none else none) fun l=>oB (s_l12Doc_m N a.1.1 a.1.2 b) fun B=>bif !decide (B.1=0)then oB (s_l18Dead_m N a.1.1 a.1.2 a.2 b) fun I=>(bif !I then if room ([]:List Int).length a.2.length 8 then oB (s_l8Put_m N (([]:List Int)++a.2) b) fun D=>(l (b,true,d,m,k,c,e,f,h,a.1.1,a.1.2,D))else none else l (b,i,d,m,k,c,e,f,h,a.1.1,a.1.2,a.2))else l (b,i,d,m,k,c,e,f,h,a.1.1,a.1.2,a.2))else some (e,f,h,i)) N (y,false,(0:Int),t,r,G,t,r,([]:List Z2)))
theorem jLr :mK 265 (bX [.agg [.pv (.sl .str),.pv Y14,.pv Y0],pI] [.tup [.agg [.pv (.sl .str),.pv Y14,.own 1 Y1 33 false],pB]] (c4A (s_l18Gone_m N))):=
 mO (fC (jDn N) (fC (jIy N) (fC (jLS N) ja))) func265 rfl N (.seq .no (.seq .no (.seq .no (.seq (.seq .no (.block (.loop jL4 (.seq .no (.seq (.block (.seq .no (.meet jLD .no .no))) .no))))) .no)))) _
def jL1 :Sh:=⟨.dead:: .box 1 0:: .box 2 0:: .box 3 0::pI::dz 37 [],[(1,false,[.pv (.sl .str),.pv Y14,.pv Y0]),(2,false,[.nils,.nils,.nils]),(3,false,[.pv (.sl .str),.pv Y14,.own 700302 Y1 33 false])]⟩
def s_l18Full_m (k:List Z1) (i:List Z4) (o:List Z2):Option ((List Z1)×(List Z4)×(List Z2)):=
 (iter (fun f (a,l,h,b,e,d,c)=>bif decide (a<(b.length:Int))then oB (idx b a) fun n=>(oB (idx b a) fun m=>bif decide ((n.2.length:Int)<(m.1.1.length:Int))then oB (idx b a) fun j=>(if room c.length ([j]:List Z2).length 72 then if fits (a+1)then f ((a+1),l,h,b,e,d,(c++([j]:List Z2)))else none else none)else if fits (a+1)then f ((a+1),l,h,b,e,d,c)else none)else some (e,d,c)) N ((0:Int),k,i,o,k,i,([]:List Z2)))
theorem jM5 :mK 266 (bX [.agg [.pv (.sl .str),.pv Y14,.pv Y0]] [.agg [.pv (.sl .str),.pv Y14,.own 1 Y1 33 false]] (c3A (s_l18Full_m N))):=
 mO ja func266 rfl N (.seq .no (.seq .no (.seq (.seq .no (.block (.loop jL1 .no))) .no))) _
def s_IndexDrop_m (f:List Z1) (d:List Z4) (e:List Z2) (i:Int):Z13:=
 (oB (s_l18Ok_m N f d e) fun h=>bif !h then some (([]:List Z1),([]:List Z4),([]:List Z2),false)else oB (s_l18Copy_m N f d e) fun c=>oB (s_l18Gone_m N c.1 c.2.1 c.2.2 i) fun a=>oB (s_l18Full_m N a.1 a.2.1 a.2.2.1) fun b=>some (b.1,b.2.1,b.2.2,a.2.2.2))
theorem jLL :mK 262 (bX [.agg [.pv (.sl .str),.pv Y14,.pv Y0],pI] [.tup [.agg [.pv (.sl .str),.pv Y14,.own 1 Y1 33 false],pB]] (c4A (s_IndexDrop_m N))):=
 mO (fC (jIW N) (fC (jL0 N) (fC (jLr N) (fC (jM5 N) ja)))) func262 rfl N .no _
def s_IndexMerge_m (e:List Z1) (d:List Z4) (b:List Z2) (a:Int):Z13:=
 (oB (s_l18Ok_m N e d b) fun k=>bif !k then some (([]:List Z1),([]:List Z4),([]:List Z2),false)else if fits ((b.length:Int)-2)then oB (jJ N a 0 ((b.length:Int)-2)) fun n=>(bif !n then oB (s_l18Copy_m N e d b) fun h=>(some (h.1,h.2.1,h.2.2,false))else if fits (a+2)then oB (cut b a (a+2)) fun l=>(oB (s_l18Docs_m N ([]:List Z1) ([]:List Z4) l) fun m=>oB (s_l18Copy_m N e d b) fun c=>oB (cut c.2.2 0 a) fun f=>if room ([]:List Z2).length f.length 72 then oB (s_l7Of_m N e d m) fun i=>(if room (([]:List Z2)++f).length ([(i,([]:List Int))]:List Z2).length 72 then if fits (a+2)then oB (cut c.2.2 (a+2) (c.2.2.length:Int)) fun j=>(if room ((([]:List Z2)++f)++([(i,([]:List Int))]:List Z2)).length j.length 72 then some (c.1,c.2.1,(((([]:List Z2)++f)++([(i,([]:List Int))]:List Z2))++j),true)else none)else none else none)else none)else none)else none)
theorem jNO :mK 263 (bX [.agg [.pv (.sl .str),.pv Y14,.pv Y0],pI] [.tup [.agg [.own 1 .str 9 true,.own 2 Y16 142 true,.own 3 Y1 33 false],pB]] (c4A (s_IndexMerge_m N))):=
 mO (fC (jIW N) (fC (jcL N) (fC (jL0 N) (fC (jH3 N) (fC (jmU N) ja))))) func263 rfl N .no _
def s_l30Rd_of_m (b:List Z1) (d:List Int) (c:Int):Option (Z1×(List Int)×Int):=
 (oB (s_l30Rd_pick_m N (b.length:Int) d c) fun a=>oB (idx b a.1) fun e=>some (e,a.2.1,a.2.2))
theorem jt3 :mK 139 ⟨⟨[.box 900000 0,.pv (.sl .str)],[(900000,false,[.pv (.sl (.int .u8)),pI])]⟩,⟨[pS],[(900000,false,[.pv (.sl (.int .u8)),pI])]⟩,c3A (s_l30Rd_of_m N)⟩:=
 mO (fC (jtX N) ja) func139 rfl N .no _ (rs:=[900000])
def s_l30Raw_m (c:List Int) (b:Int):Option (Z1×(List Int)×Int):=
 (oB (s_l30Rd_of_m N ([([99,97,116]:List UInt8),([67,97,116,115]:List UInt8),([100,111,103]:List UInt8),([100,111,103,115]:List UInt8),([114,117,110]:List UInt8),([82,85,78,78,73,78,71]:List UInt8),([116,104,101]:List UInt8),([114,101,100]:List UInt8),([98,105,103]:List UInt8),([110,101,119,32,121,111,114,107]:List UInt8),([78,101,119,32,32,89,111,114,107]:List UInt8),([110,121]:List UInt8),([102,111,120]:List UInt8),([112,97,115,115,101,100]:List UInt8),([120,49]:List UInt8),([97,118,101,114,121,118,101,114,121,108,111,110,103,119,111,114,100]:List UInt8)]:List Z1) c b) fun a=>some (a.1,a.2.1,a.2.2))
theorem jvg :mK 339 ⟨⟨[.box 900000 0],[(900000,false,[.pv (.sl (.int .u8)),pI])]⟩,⟨[pS],[(900000,false,[.pv (.sl (.int .u8)),pI])]⟩,c2A (s_l30Raw_m N)⟩:=
 mO (fC (jt3 N) ja) func339 rfl N .no _ (rs:=[900000])
def juP :Sh:=⟨.box 900000 0:: .dead:: .dead::pS::pI::dz 15 [],[(900000,false,[.pv (.sl (.int .u8)),pI])]⟩
def s_l30Text_m (l:List Int) (i:Int):Option (Z1×(List Int)×Int):=
 (oB (s_l30Rd_pick_m N 9 l i) fun d=>iter (fun j (c,e,h,f)=>bif decide ((0:Int)<e)then oB (s_l30Raw_m N h f) fun a=>(if c.length+a.1.length<=9223372036854775807 then oB (s_l30Rd_of_m N ([([32]:List UInt8),([32]:List UInt8),([44,32]:List UInt8),([45]:List UInt8),([46,32]:List UInt8)]:List Z1) a.2.1 a.2.2) fun b=>(if(c++a.1).length+b.1.length<=9223372036854775807 then if fits (e-1)then j (((c++a.1)++b.1),(e-1),b.2.1,b.2.2)else none else none)else none)else some (c,h,f)) N (([]:List UInt8),d.1,d.2.1,d.2.2))
theorem juT :mK 317 ⟨⟨[.box 900000 0],[(900000,false,[.pv (.sl (.int .u8)),pI])]⟩,⟨[pS],[(900000,false,[.pv (.sl (.int .u8)),pI])]⟩,c2A (s_l30Text_m N)⟩:=
 mO (fC (jtX N) (fC (jvg N) (fC (jt3 N) ja))) func317 rfl N (.seq .no (.seq .no (.seq (.seq .no (.block (.loop juP .no))) .no))) _ (rs:=[900000])
def juy :Sh:=⟨.box 900000 0::dz 3 (.box 4 0:: .box 5 0::dz 48 []),[(4,false,[pI,.nils,.nils]),(5,false,[pI,.own 28 Y18 155 true,.own 39 Y15 157 true]),(900000,false,[.pv (.sl (.int .u8)),pI])]⟩
def juX :Sh:=⟨.box 900000 0::dz 3 (.box 4 0:: .box 5 0::dz 48 []),[(4,false,[pI,.nils,.nils]),(5,false,[pI,.own 28 Y18 155 true,.nils]),(900000,false,[.pv (.sl (.int .u8)),pI])]⟩
def jvb :Sh:=⟨.box 900000 0::dz 3 (.box 4 0:: .box 5 0::dz 48 []),[(4,false,[pI,.nils,.nils]),(5,false,[pI,.own 17 Y18 155 true,.nils]),(900000,false,[.pv (.sl (.int .u8)),pI])]⟩
def s_l30Doc_m (o:Int) (E:List Int) (y:Int):Option (Int×Z7×Z9×(List Int)×Int):=
 (meet (fun(b:Int×Int×Z7×(List Int)×Int)=>match b with|(v,t,k,C,A)=>meet (fun(b:Int×Int×Z7×(List Int)×Int)=>match b with|(n,w,x,z,D)=>meet (fun(b:Int×Int×Z7×Z9×(List Int)×Int)=>match b with|(H,p,q,l,G,B)=>oB (s_l30Rd_pick_m N 3 G B) fun a=>bif decide (a.1=0)then oB (s_l30Rd_pick_m N 30 a.2.1 a.2.2) fun e=>(if fits (2000+e.1)then if room l.length ([(([121,101,97,114]:List UInt8),(2000+e.1))]:Z8).length 24 then some (p,q,(l++([(([121,101,97,114]:List UInt8),(2000+e.1))]:Z8)),e.2.1,e.2.2)else none else none)else some (p,q,l,a.2.1,a.2.2)) fun m=>oB (s_l30Rd_pick_m N 3 z D) fun f=>bif decide ((0:Int)<f.1)then oB (s_l30Rd_pick_m N 4 f.2.1 f.2.2) fun h=>(if room ([]:Z8).length ([(([114,97,116,101]:List UInt8),h.1)]:Z8).length 24 then m (n,w,x,(([]:Z8)++([(([114,97,116,101]:List UInt8),h.1)]:Z8)),h.2.1,h.2.2)else none)else m (n,w,x,([]:Z8),f.2.1,f.2.2)) fun u=>oB (s_l30Rd_pick_m N 3 C A) fun d=>bif decide (d.1=0)then oB (s_l30Text_m N d.2.1 d.2.2) fun i=>(if room k.length ([(([116,105,116,108,101]:List UInt8),i.1)]:Z5).length 32 then u (v,t,(k++([(([116,105,116,108,101]:List UInt8),i.1)]:Z5)),i.2.1,i.2.2)else none)else u (v,t,k,d.2.1,d.2.2)) fun r=>oB (s_l30Rd_pick_m N 6 E y) fun c=>bif decide ((0:Int)<c.1)then oB (s_l30Text_m N c.2.1 c.2.2) fun j=>(if room ([]:Z5).length ([(([98,111,100,121]:List UInt8),j.1)]:Z5).length 32 then r (0,o,(([]:Z5)++([(([98,111,100,121]:List UInt8),j.1)]:Z5)),j.2.1,j.2.2)else none)else r (0,o,([]:Z5),c.2.1,c.2.2))
theorem jvf :mK 267 ⟨⟨[.box 900000 0,pI],[(900000,false,[.pv (.sl (.int .u8)),pI])]⟩,⟨[.agg [pI,.own 1 Y18 155 true,.own 2 Y15 157 true]],[(900000,false,[.pv (.sl (.int .u8)),pI])]⟩,c3A (s_l30Doc_m N)⟩:=
 mO (fC (jtX N) (fC (juT N) ja)) func267 rfl N (.seq .no (.seq .no (.meet jvb .no (.meet juX .no (.meet juy .no .no))))) _ (rs:=[900000])
def juU :Sh:=⟨.box 900000 0:: .dead:: .dead:: .own 600003 Y4 95 true::pI::pI::dz 19 [],[(900000,false,[.pv (.sl (.int .u8)),pI])]⟩
def s_l30Docs_m (m:List Int) (j:Int):Option ((List Z0)×(List Int)×Int):=
 (oB (s_l30Rd_pick_m N 6 m j) fun d=>iter (fun k (e,c,f,i,h)=>bif decide ((0:Int)<f)then if fits (c+1)then oB (s_l30Rd_pick_m N 3 i h) fun b=>(if fits ((c+1)+b.1)then oB (s_l30Doc_m N ((c+1)+b.1) b.2.1 b.2.2) fun a=>(if room e.length ([(a.1,a.2.1,a.2.2.1)]:List Z0).length 56 then if fits (f-1)then k ((e++([(a.1,a.2.1,a.2.2.1)]:List Z0)),((c+1)+b.1),(f-1),a.2.2.2.1,a.2.2.2.2)else none else none)else none)else none else some (e,i,h)) N (([]:List Z0),(0:Int),d.1,d.2.1,d.2.2))
theorem juO :mK 215 ⟨⟨[.box 900000 0],[(900000,false,[.pv (.sl (.int .u8)),pI])]⟩,⟨[.own 1 Y4 95 true],[(900000,false,[.pv (.sl (.int .u8)),pI])]⟩,c2A (s_l30Docs_m N)⟩:=
 mO (fC (jtX N) (fC (jvf N) ja)) func215 rfl N (.seq .no (.seq .no (.seq .no (.seq (.seq .no (.block (.loop juU .no))) .no)))) _ (rs:=[900000])
def jNS :Sh:=⟨.dead:: .pv Y3:: .box 2 0:: .dead:: .box 4 0:: .dead:: .box 6 0::pI::dz 53 [],[(2,false,[.pv (.sl .str),.pv Y14,.pv Y0]),(4,false,[.nils,.nils,.nils]),(6,false,[.pv (.sl .str),.pv Y14,.own 700602 Y1 33 false])]⟩
def s_IndexAdd_m (d:List Z1) (b:List Z4) (c:List Z2) (n:List Z0):Z13:=
 (oB (s_l18Ok_m N d b c) fun z=>bif !z then some (([]:List Z1),([]:List Z4),([]:List Z2),false)else oB (jbU N n) fun A=>bif !A then oB (s_l18Copy_m N d b c) fun k=>(some (k.1,k.2.1,k.2.2,false))else bif decide ((n.length:Int)=0)then oB (s_l18Copy_m N d b c) fun j=>(some (j.1,j.2.1,j.2.2,false))else oB (s_l18Copy_m N d b c) fun p=>iter (fun v (e,f,o,l,q,r,t,u)=>bif decide (f<(e.length:Int))then oB (idx e f) fun w=>(oB (s_l18Gone_m N r t u w.1) fun i=>if fits (f+1)then v (e,(f+1),o,l,q,i.1,i.2.1,i.2.2.1)else none)else oB (s_l18Full_m N r t u) fun a=>oB (s_l7Of_m N o l e) fun m=>if room a.2.2.length ([(m,([]:List Int))]:List Z2).length 72 then oB (s_l18Ok_m N a.1 a.2.1 (a.2.2++([(m,([]:List Int))]:List Z2))) fun x=>(bif !x then oB (s_l18Copy_m N o l q) fun h=>(some (h.1,h.2.1,h.2.2,false))else some (a.1,a.2.1,(a.2.2++([(m,([]:List Int))]:List Z2)),true))else none) N (n,(0:Int),d,b,c,p.1,p.2.1,p.2.2))
theorem jNM :mK 214 (bX [.agg [.pv (.sl .str),.pv Y14,.pv Y0],.pv Y3] [.tup [.agg [.pv (.sl .str),.pv Y14,.own 1 Y1 33 false],pB]] (c4A (s_IndexAdd_m N))):=
 mO (fC (jIW N) (fC (jpx N) (fC (jL0 N) (fC (jLr N) (fC (jM5 N) (fC (jmU N) ja)))))) func214 rfl N (.seq .no (.seq .no (.seq .no (.seq .no (.seq (.seq .no (.block (.loop jNS .no))) .no))))) _
def jOd :Sh:=⟨.box 900000 0:: .dead:: .box 2 0:: .box 3 0::pI::dz 47 [],[(2,false,[.nils,.nils,.nils]),(3,false,[.pv (.sl .str),.pv Y14,.own 700302 Y1 33 false]),(900000,false,[.pv (.sl (.int .u8)),pI])]⟩
def s_l30Index_m (v:List Int) (t:Int):Option ((List Z1)×(List Z4)×(List Z2)×(List Int)×Int):=
 (oB (s_l30Conf_m N v t) fun c=>oB (s_IndexNew_m N c.1 c.2.1) fun r=>oB (s_l30Rd_pick_m N 7 c.2.2.1 c.2.2.2) fun n=>iter (fun k (b,f,d,e,q,p)=>bif decide ((0:Int)<b)then oB (s_l30Rd_pick_m N 5 q p) fun a=>(bif decide (a.1=0)then oB (s_l30Rd_pick_m N 8 a.2.1 a.2.2) fun h=>(if fits (1+h.1)then oB (s_IndexDrop_m N f d e (1+h.1)) fun l=>(if fits (b-1)then k ((b-1),l.1,l.2.1,l.2.2.1,h.2.1,h.2.2)else none)else none)else bif decide (a.1=1)then oB (s_l30Rd_pick_m N 3 a.2.1 a.2.2) fun j=>(oB (s_IndexMerge_m N f d e j.1) fun o=>if fits (b-1)then k ((b-1),o.1,o.2.1,o.2.2.1,j.2.1,j.2.2)else none)else oB (s_l30Docs_m N a.2.1 a.2.2) fun m=>oB (s_IndexAdd_m N f d e m.1) fun i=>if fits (b-1)then k ((b-1),i.1,i.2.1,i.2.2.1,m.2.1,m.2.2)else none)else some (f,d,e,q,p)) N (n.1,r.1,r.2,([]:List Z2),n.2.1,n.2.2))
theorem jNR :mK 213 ⟨⟨[.box 900000 0],[(900000,false,[.pv (.sl (.int .u8)),pI])]⟩,⟨[.agg [.pv (.sl .str),.pv Y14,.own 1 Y1 33 false]],[(900000,false,[.pv (.sl (.int .u8)),pI])]⟩,c2A (s_l30Index_m N)⟩:=
 mO (fC (jva N) (fC (jOh N) (fC (jtX N) (fC (jLL N) (fC (jNO N) (fC (juO N) (fC (jNM N) ja))))))) func213 rfl N (.seq .no (.seq .no (.seq (.seq .no (.block (.loop jOd .no))) .no))) _ (rs:=[900000])
def s_l30Rd_one_m (b:List Int) (d:List Int) (c:Int):Option (Int×(List Int)×Int):=
 (oB (s_l30Rd_pick_m N (b.length:Int) d c) fun a=>oB (idx b a.1) fun e=>some (e,a.2.1,a.2.2))
theorem juA :mK 83 ⟨⟨[.box 900000 0,.pv Y19],[(900000,false,[.pv (.sl (.int .u8)),pI])]⟩,⟨[pI],[(900000,false,[.pv (.sl (.int .u8)),pI])]⟩,c3A (s_l30Rd_one_m N)⟩:=
 mO (fC (jtX N) ja) func83 rfl N .no _ (rs:=[900000])
def jZN :Sh:=⟨.dead:: .box 1 0:: .dead::pI::dz 39 [],[(1,false,[.pv Y17])]⟩
def s_l19DiskOk_m (j:Z5):Z10:=
 (iter (fun d (a,b)=>bif decide (a<(b.length:Int))then oB (idx b a) fun h=>(oB (jT N h.1) fun f=>bif !f then some false else bif decide ((0:Int)<a)then oB (idx b a) fun c=>(if fits (a-1)then oB (idx b (a-1)) fun e=>(bif Op.bytesLess c.1 e.1||decide (c.1=e.1)then some false else if fits (a+1)then d ((a+1),b)else none)else none)else if fits (a+1)then d ((a+1),b)else none)else some (decide ((b.length:Int)<=24))) N ((0:Int),j))
theorem j0g :mK 67 (bX [.agg [.pv Y17]] [pB] (c1A (s_l19DiskOk_m N))):=
 mO (fC (jgp N) ja) func67 rfl N (.seq .no (.seq (.seq .no (.block (.loop jZN .no))) .no)) _
def s_l19Gen_m (b:Int):Option (Z1):=
 (if fits (1000+b)then oB (s_l1Dec_m N N (1000+b)) fun a=>(if([103,101,110]:List UInt8).length+a.length<=9223372036854775807 then some (([103,101,110]:List UInt8)++a)else none)else none)
theorem j0N :mK 142 (bX [pI] [pS] (c1A (s_l19Gen_m N))):=
 mO (fC (jOx N N) ja) func142 rfl N .no _
def j0j :Sh:=⟨.dead::pS:: .box 2 0::dz 3 (pI::dz 21 []),[(2,false,[.pv Y17])]⟩
def s_l19File_m (j:Z5) (h:List UInt8):Option (Z1×Bool):=
 (iter (fun e (c,a,b)=>bif decide (a<(b.length:Int))then oB (idx b a) fun f=>(bif decide (f.1=c)then oB (idx b a) fun d=>(some (d.2,true))else if fits (a+1)then e (c,(a+1),b)else none)else some (([]:List UInt8),false)) N (h,(0:Int),j))
theorem jZK :mK 141 (bX [.agg [.pv Y17],pS] [.tup [pS,pB]] (c2A (s_l19File_m N))):=
 mO ja func141 rfl N (.seq .no (.seq (.seq .no (.block (.loop j0j .no))) .no)) _
def j2E :Sh:=⟨.dead:: .box 1 0:: .dead::pI::dz 15 [],[(1,false,[.pv Y17])]⟩
def j04 (f:Z5):Z16:=
 (iter (fun d (a,b)=>bif decide ((1:Int)<=a)then oB (s_l19Gen_m N a) fun c=>(oB (s_l19File_m N b c) fun h=>bif h.2 then some a else if fits (a-1)then d ((a-1),b)else none)else some 0) N ((99:Int),f))
theorem j2k :mK 93 (bX [.agg [.pv Y17]] [pI] (c1A (j04 N))):=
 mO (fC (j0N N) (fC (jZK N) ja)) func93 rfl N (.seq .no (.seq (.seq .no (.block (.loop j2E .no))) .no)) _
def j0u :Sh:=⟨pS:: .dead:: .dead::pI::pI::dz 27 [],[]⟩
def j0M :Sh:=⟨pS:: .dead:: .dead::pI::pI::pI::dz 26 [],[]⟩
def s_l19Crc_m (m:List UInt8):Z16:=
 (iter (fun k (d,j,f)=>bif decide (f<(d.length:Int))then oB (idx d f) fun l=>(iter (fun i (e,a,c,b)=>bif decide (b<8)then if 2≠0 then bif decide ((a.tmod 2)=1)then if 2≠0 then if fits (a.tdiv 2)then if fits (b+1)then i (e,(bitsI .xor .i64 (a.tdiv 2) 3988292384),c,(b+1))else none else none else none else(if 2≠0 then if fits (a.tdiv 2)then if fits (b+1)then i (e,(a.tdiv 2),c,(b+1))else none else none else none)else none else if fits (c+1)then k (e,a,(c+1))else none) N (d,(bitsI .xor .i64 j (IntKind.i64.wrap (l.toNat:Int))),f,(0:Int)))else some (bitsI .xor .i64 j 4294967295)) N (m,(4294967295:Int),(0:Int)))
theorem jZT :mK 171 (bX [pS] [pI] (c1A (s_l19Crc_m N))):=
 mO ja func171 rfl N (.seq .no (.seq .no (.seq (.seq .no (.block (.loop j0u (.seq .no (.seq (.block (.seq .no (.seq .no (.block (.loop j0M .no))))) .no))))) .no))) _
def j3v :Sh:=⟨.dead::pI:: .box 2 0:: .dead:: .dead:: .own 600005 Y18 114 true::pS::pI::dz 47 [],[(2,false,[.pv (.sl .str),.pv Y14,.pv Y0])]⟩
def j09 (u:List Z1) (r:List Z4) (t:List Z2) (p:Int):Option (Z7):=
 (iter (fun m (e,f,b,d,v,q,h)=>bif decide (d<(h.length:Int))then if fits (1000+e)then oB (s_l1Dec_m N N (1000+e)) fun a=>(if([115,101,103]:List UInt8).length+a.length<=9223372036854775807 then if(([115,101,103]:List UInt8)++a).length+([120]:List UInt8).length<=9223372036854775807 then oB (s_l1Dec_m N N d) fun c=>(if((([115,101,103]:List UInt8)++a)++([120]:List UInt8)).length+c.length<=9223372036854775807 then oB (idx h d) fun i=>(oB (s_l19Seg_m N i.1.1 i.1.2 i.2) fun j=>if room f.length ([((((([115,101,103]:List UInt8)++a)++([120]:List UInt8))++c),j)]:Z5).length 32 then if b.length+(((([115,101,103]:List UInt8)++a)++([120]:List UInt8))++c).length<=9223372036854775807 then if(b++(((([115,101,103]:List UInt8)++a)++([120]:List UInt8))++c)).length+([32]:List UInt8).length<=9223372036854775807 then oB (s_l19Crc_m N j) fun o=>(oB (s_l1Dec_m N N o) fun k=>if((b++(((([115,101,103]:List UInt8)++a)++([120]:List UInt8))++c))++([32]:List UInt8)).length+k.length<=9223372036854775807 then if(((b++(((([115,101,103]:List UInt8)++a)++([120]:List UInt8))++c))++([32]:List UInt8))++k).length+([10]:List UInt8).length<=9223372036854775807 then if fits (d+1)then m (e,(f++([((((([115,101,103]:List UInt8)++a)++([120]:List UInt8))++c),j)]:Z5)),((((b++(((([115,101,103]:List UInt8)++a)++([120]:List UInt8))++c))++([32]:List UInt8))++k)++([10]:List UInt8)),(d+1),v,q,h)else none else none else none)else none else none else none)else none)else none else none)else none else oB (s_l19Gen_m N e) fun l=>if b.length+([101,110,100]:List UInt8).length<=9223372036854775807 then if room f.length ([(l,(b++([101,110,100]:List UInt8)))]:Z5).length 32 then some (f++([(l,(b++([101,110,100]:List UInt8)))]:Z5))else none else none) N (p,([]:Z5),([]:List UInt8),(0:Int),u,r,t))
theorem j2w :mK 94 (bX [.agg [.pv (.sl .str),.pv Y14,.pv Y0],pI] [.own 1 Y18 114 true] (c4A (j09 N))):=
 mO (fC (jOx N N) (fC (jX1 N) (fC (jZT N) (fC (j0N N) ja)))) func94 rfl N (.seq .no (.seq .no (.seq .no (.seq (.seq .no (.block (.loop j3v .no))) .no)))) _
def j3i :Sh:=⟨.dead:: .dead:: .box 2 0:: .box 3 0:: .box 4 0:: .box 5 0::pB::pI::dz 55 [],[(2,false,[.pv Y17]),(3,false,[pS,pS]),(4,false,[.nils]),(5,false,[.own 700500 Y18 114 true])]⟩
def j1Y :Sh:=⟨.dead:: .dead:: .box 2 0:: .box 3 0:: .box 4 0:: .box 5 0::pB::pI::dz 55 [],[(2,false,[.pv Y17]),(3,false,[pS,pS]),(4,false,[.nils]),(5,false,[.own 33 Y18 114 true])]⟩
def j0X (v:Z5) (w:List UInt8) (t:List UInt8):Option (Z7):=
 (iter (fun n (h,f,e,a,c,b)=>bif decide (f<(e.length:Int))then meet (fun(j:Bool×Int×Z7×Z1×Z1×Z7)=>match j with|(p,d,i,m,q,k)=>oB (idx i d) fun u=>bif !decide (u.1=m)then oB (idx i d) fun o=>(if room k.length ([o]:Z5).length 32 then if fits (d+1)then n (p,(d+1),i,m,q,(k++([o]:Z5)))else none else none)else if fits (d+1)then n (p,(d+1),i,m,q,k)else none) fun l=>(bif !h then oB (idx e f) fun r=>(bif !Op.bytesLess r.1 a then if room b.length ([(a,c)]:Z5).length 32 then l (true,f,e,a,c,(b++([(a,c)]:Z5)))else none else l (h,f,e,a,c,b))else l (h,f,e,a,c,b))else bif !h then if room b.length ([(a,c)]:Z5).length 32 then some (b++([(a,c)]:Z5))else none else some b) N (false,(0:Int),v,w,t,([]:Z5)))
theorem j2f :mK 95 (bX [.agg [.pv Y17],.agg [pS,pS]] [.agg [.own 1 Y18 114 true]] (c3A (j0X N))):=
 mO ja func95 rfl N (.seq .no (.seq .no (.seq .no (.seq (.seq .no (.block (.loop j3i (.seq .no (.seq (.block (.meet j1Y .no .no)) .no))))) .no)))) _
def j2G :Sh:=⟨.dead::pI:: .box 2 0:: .dead:: .box 4 0:: .box 5 0::pI::dz 51 [],[(2,false,[.pv Y17]),(4,false,[.nils]),(5,false,[.own 700500 Y18 114 true])]⟩
def j0S (u:Z5) (p:Int):Option (Z7):=
 (iter (fun e (c,a,b,d)=>bif decide (a<(b.length:Int))then oB (idx b a) fun f=>(bif decide ((7:Int)<=f.1.length)then oB (cut f.1 0 3) fun t=>(bif decide (t=([103,101,110]:List UInt8))then oB (cut f.1 3 7) fun v=>(oB (s_l1Num_m N v) fun q=>if fits (1000+c)then if fits ((1000+c)-1)then oB (jJ N q 1001 ((1000+c)-1)) fun w=>(bif !w then oB (idx b a) fun j=>(if room d.length ([j]:Z5).length 32 then if fits (a+1)then e (c,(a+1),b,(d++([j]:Z5)))else none else none)else if fits (a+1)then e (c,(a+1),b,d)else none)else none else none)else oB (cut f.1 0 3) fun n=>bif decide (n=([115,101,103]:List UInt8))then oB (cut f.1 3 7) fun m=>(oB (s_l1Num_m N m) fun r=>if fits (1000+c)then if fits ((1000+c)-1)then oB (jJ N r 1001 ((1000+c)-1)) fun o=>(bif !o then oB (idx b a) fun h=>(if room d.length ([h]:Z5).length 32 then if fits (a+1)then e (c,(a+1),b,(d++([h]:Z5)))else none else none)else if fits (a+1)then e (c,(a+1),b,d)else none)else none else none)else oB (idx b a) fun k=>if room d.length ([k]:Z5).length 32 then if fits (a+1)then e (c,(a+1),b,(d++([k]:Z5)))else none else none)else oB (idx b a) fun i=>if room d.length ([i]:Z5).length 32 then if fits (a+1)then e (c,(a+1),b,(d++([i]:Z5)))else none else none)else some d) N (p,(0:Int),u,([]:Z5)))
theorem j3g :mK 96 (bX [.agg [.pv Y17],pI] [.agg [.own 1 Y18 114 true]] (c2A (j0S N))):=
 mO (fC (jYO N) (fC (jcL N) ja)) func96 rfl N (.seq .no (.seq .no (.seq (.seq .no (.block (.loop j2G .no))) .no))) _
def j2B :Sh:=⟨.dead:: .dead::pI::dz 3 (.box 6 0:: .dead::pI:: .box 9 0:: .own 600010 Y18 114 true::pI::dz 69 []),[(6,false,[.nils]),(9,false,[.own 700900 Y18 114 true])]⟩
def s_DiskCommit_m (b:Z5) (n:List Z1) (l:List Z4) (m:List Z2) (t:Int):Option (Z7×Int):=
 (oB (s_l19DiskOk_m N b) fun w=>bif !w then some (([]:Z5),(-1))else oB (s_l18Ok_m N n l m) fun z=>bif !z then some (([]:Z5),(-1))else oB (j04 N b) fun h=>if fits (h+1)then bif decide ((99:Int)<(h+1))then if room ([]:Z5).length b.length 32 then some ((([]:Z5)++b),0)else none else(if fits ((b.length:Int)+5)then if fits (((b.length:Int)+5)+1)then bif decide ((24:Int)<(((b.length:Int)+5)+1))then if room ([]:Z5).length b.length 32 then some ((([]:Z5)++b),0)else none else(if room ([]:Z5).length b.length 32 then oB (j09 N n l m (h+1)) fun v=>(iter (fun i (c,a,f,e,d)=>bif decide (e<(f.length:Int))then bif decide (c<0)then oB (idx f e) fun j=>(oB (j0X N d j.1 j.2) fun y=>if fits (e+1)then i (c,a,f,(e+1),y)else none)else(bif decide (e<c)then oB (idx f e) fun k=>(oB (j0X N d k.1 k.2) fun q=>if fits (e+1)then i (c,a,f,(e+1),q)else none)else bif decide (c<0)then oB (j0S N d a) fun p=>(some (p,a))else bif decide ((f.length:Int)<c)then oB (j0S N d a) fun x=>(some (x,a))else some (d,a))else bif decide (c<0)then oB (j0S N d a) fun r=>(some (r,a))else bif decide ((f.length:Int)<c)then oB (j0S N d a) fun o=>(some (o,a))else some (d,a)) N (t,(h+1),v,(0:Int),(([]:Z5)++b)))else none)else none else none)else none)
theorem j1N :mK 34 (bX [.agg [.pv Y17],.agg [.pv (.sl .str),.pv Y14,.pv Y0],pI] [.tup [.agg [.own 1 Y18 114 true],pI]] (c5A (s_DiskCommit_m N))):=
 mO (fC (j0g N) (fC (jIW N) (fC (j2k N) (fC (j2w N) (fC (j2f N) (fC (j3g N) ja)))))) func34 rfl N (.seq .no (.seq .no (.seq .no (.seq .no (.seq .no (.seq .no (.seq (.seq .no (.block (.loop j2B .no))) .no))))))) _
def j2t :Sh:=⟨.box 900000 0:: .dead:: .box 2 0:: .box 3 0:: .box 4 0:: .box 5 0::pI::dz 33 [],[(2,false,[.nils]),(3,false,[.nils,.nils,.nils]),(4,false,[.own 700400 Y18 114 true]),(5,false,[.pv (.sl .str),.pv Y14,.own 700502 Y1 33 false]),(900000,false,[.pv (.sl (.int .u8)),pI])]⟩
def s_l30Disk_m (r:List Int) (n:Int):Option (Z7×(List Z1)×(List Z4)×(List Z2)×(List Int)×Int):=
 (oB (s_l30Index_m N r n) fun a=>oB (s_l30Rd_pick_m N 4 a.2.2.2.1 a.2.2.2.2) fun j=>iter (fun o (c,l,h,e,f,m,k)=>bif decide ((0:Int)<c)then oB (s_l30Rd_one_m N ([(-1),(-1),0,1,2,9]:List Int) m k) fun d=>(oB (s_DiskCommit_m N l h e f d.1) fun q=>oB (s_l30Docs_m N d.2.1 d.2.2) fun i=>oB (s_IndexAdd_m N h e f i.1) fun b=>if fits (c-1)then o ((c-1),q.1,b.1,b.2.1,b.2.2.1,i.2.1,i.2.2)else none)else some (l,h,e,f,m,k)) N (j.1,([]:Z5),a.1,a.2.1,a.2.2.1,j.2.1,j.2.2))
theorem j2O :mK 136 ⟨⟨[.box 900000 0],[(900000,false,[.pv (.sl (.int .u8)),pI])]⟩,⟨[.tup [.agg [.own 1 Y18 114 true],.agg [.pv (.sl .str),.pv Y14,.own 2 Y1 33 false]]],[(900000,false,[.pv (.sl (.int .u8)),pI])]⟩,c2A (s_l30Disk_m N)⟩:=
 mO (fC (jNR N) (fC (jtX N) (fC (juA N) (fC (j1N N) (fC (juO N) (fC (jNM N) ja)))))) func136 rfl N (.seq .no (.seq .no (.seq .no (.seq (.seq .no (.block (.loop j2t .no))) .no)))) _ (rs:=[900000])
def s_l30Bent_m (b:List UInt8) (k:List Int) (i:Int):Option (Z1×(List Int)×Int):=
 (if fits ((b.length:Int)+1)then oB (s_l30Rd_pick_m N ((b.length:Int)+1) k i) fun c=>(oB (s_l30Rd_pick_m N 5 c.2.1 c.2.2) fun a=>bif decide (a.1=0)then bif decide (c.1<(b.length:Int))then oB (cut b 0 c.1) fun f=>(oB (s_l30Rd_of_m N ([([48]:List UInt8),([49]:List UInt8),([32]:List UInt8),([40]:List UInt8),([41]:List UInt8),([10]:List UInt8),([58]:List UInt8),([128]:List UInt8)]:List Z1) a.2.1 a.2.2) fun d=>if f.length+d.1.length<=9223372036854775807 then if fits (c.1+1)then oB (cut b (c.1+1) (b.length:Int)) fun h=>(if(f++d.1).length+h.length<=9223372036854775807 then some (((f++d.1)++h),d.2.1,d.2.2)else none)else none else none)else(some (b,a.2.1,a.2.2))else bif decide (a.1=1)then oB (cut b 0 c.1) fun j=>(some (j,a.2.1,a.2.2))else bif decide (a.1=2)then oB (s_l30Rd_of_m N ([([48]:List UInt8),([32]:List UInt8),([41]:List UInt8),([10]:List UInt8)]:List Z1) a.2.1 a.2.2) fun e=>(if b.length+e.1.length<=9223372036854775807 then some ((b++e.1),e.2.1,e.2.2)else none)else some (b,a.2.1,a.2.2))else none)
theorem jYX :mK 138 ⟨⟨[.box 900000 0,pS],[(900000,false,[.pv (.sl (.int .u8)),pI])]⟩,⟨[pS],[(900000,false,[.pv (.sl (.int .u8)),pI])]⟩,c3A (s_l30Bent_m N)⟩:=
 mO (fC (jtX N) (fC (jt3 N) ja)) func138 rfl N .no _ (rs:=[900000])
def s_l30AnyDisk_m (k:List Int) (h:Int):Option (Z7×(List Z1)×(List Z4)×(List Z2)×(List Int)×Int):=
 (oB (s_l30Disk_m N k h) fun a=>if room ([]:Z5).length a.1.length 32 then bif decide ((0:Int)<((([]:Z5)++a.1).length:Int))then oB (s_l30Rd_pick_m N ((([]:Z5)++a.1).length:Int) a.2.2.2.2.1 a.2.2.2.2.2) fun b=>(oB (s_l30Rd_pick_m N 12 b.2.1 b.2.2) fun c=>bif decide (c.1=0)then if 0<=b.1/\b.1<((([]:Z5)++a.1).length:Int)then oB ((([]:Z5)++a.1)[b.1.toNat]?) fun i=>(oB (s_l30Bent_m N i.2 c.2.1 c.2.2) fun d=>if 0<=b.1/\b.1<((([]:Z5)++a.1).length:Int)then oB ((([]:Z5)++a.1)[b.1.toNat]?) fun f=>(some (((([]:Z5)++a.1).set b.1.toNat (f.1,d.1)),a.2.1,a.2.2.1,a.2.2.2.1,d.2.1,d.2.2))else none)else none else bif decide (c.1=1)then oB (s_l30Rd_of_m N ([([]:List UInt8),([122,122]:List UInt8),([65]:List UInt8)]:List Z1) c.2.1 c.2.2) fun e=>(if 0<=b.1/\b.1<((([]:Z5)++a.1).length:Int)then oB ((([]:Z5)++a.1)[b.1.toNat]?) fun j=>(some (((([]:Z5)++a.1).set b.1.toNat (e.1,j.2)),a.2.1,a.2.2.1,a.2.2.2.1,e.2.1,e.2.2))else none)else bif decide (c.1=2)then oB (cut (([]:Z5)++a.1) 0 b.1) fun _=>(if fits (b.1+1)then oB (cut (([]:Z5)++a.1) (b.1+1) ((([]:Z5)++a.1).length:Int)) fun _=>(if b.1.toNat<=(b.1+1).toNat then some (((([]:Z5)++a.1).take b.1.toNat++((([]:Z5)++a.1).take (((([]:Z5)++a.1).length:Int).toNat)).drop ((b.1+1).toNat)),a.2.1,a.2.2.1,a.2.2.2.1,c.2.1,c.2.2)else none)else none)else some ((([]:Z5)++a.1),a.2.1,a.2.2.1,a.2.2.2.1,c.2.1,c.2.2))else(some ((([]:Z5)++a.1),a.2.1,a.2.2.1,a.2.2.2.1,a.2.2.2.2.1,a.2.2.2.2.2))else none)
theorem j2N :mK 63 ⟨⟨[.box 900000 0],[(900000,false,[.pv (.sl (.int .u8)),pI])]⟩,⟨[.tup [.agg [.own 1 Y18 114 true],.agg [.pv (.sl .str),.pv Y14,.own 2 Y1 33 false]]],[(900000,false,[.pv (.sl (.int .u8)),pI])]⟩,c2A (s_l30AnyDisk_m N)⟩:=
 mO (fC (j2O N) (fC (jtX N) (fC (jYX N) (fC (jt3 N) ja)))) func63 rfl N .no _ (wr:=[12,15,49,64]) (rs:=[900000]) (dw:=[58,63])
def jZS :Sh:=⟨.dead:: .box 1 0::dz 4 (.pv Y17::pI::pI::dz 29 []),[(1,false,[.pv Y17])]⟩
def i_DiskOk_m (d:Z5):Z10:=
 (iter (fun f (e,c,a,b)=>bif decide (a<c)then oB (idx e a) fun h=>(oB (jO N h.1) fun i=>bif !i then some false else bif decide ((0:Int)<a)then if fits (a-1)then oB (idx b (a-1)) fun j=>(bif !Op.bytesLess j.1 h.1 then some false else if fits (a+1)then f (e,c,(a+1),b)else none)else none else if fits (a+1)then f (e,c,(a+1),b)else none)else some (decide ((b.length:Int)<=24))) N (d,(d.length:Int),(0:Int),d))
theorem j0P :mK 22 (bX [.agg [.pv Y17]] [pB] (c1A (i_DiskOk_m N))):=
 mO (fC (jcM N) ja) func22 rfl N (.seq .no (.seq (.seq .no (.block (.loop jZS .no))) .no)) _
def i_genName_m (b:Int):Option (Z1):=
 (if fits (1000+b)then oB (k_strconv_Itoa_m N (1000+b)) fun a=>(if([103,101,110]:List UInt8).length+a.length<=9223372036854775807 then some (([103,101,110]:List UInt8)++a)else none)else none)
theorem j0B :mK 85 (bX [pI] [pS] (c1A (i_genName_m N))):=
 mO (fC (jO0 N) ja) func85 rfl N .no _
def j0n :Sh:=⟨.dead::pS::dz 7 (.pv Y17::pI::pI::dz 10 []),[]⟩
def i_Disk_file_m (d:Z5) (i:List UInt8):Option (Z1×Bool):=
 (iter (fun h (e,b,f,a)=>bif decide (a<f)then oB (idx b a) fun c=>(bif decide (c.1=e)then some (c.2,true)else if fits (a+1)then h (e,b,f,(a+1))else none)else some (([]:List UInt8),false)) N (i,d,(d.length:Int),(0:Int)))
theorem j0r :mK 84 (bX [.agg [.pv Y17],pS] [.tup [pS,pB]] (c2A (i_Disk_file_m N))):=
 mO ja func84 rfl N (.seq .no (.seq (.seq .no (.block (.loop j0n .no))) .no)) _
def jM7 :Sh:=⟨.dead:: .dead:: .box 2 0:: .box 3 0::dz 9 (.pv Y14::pI::pI::dz 17 []),[(2,false,[.nils,.nils]),(3,false,[.own 700300 .str 9 true,.own 700301 Y16 142 true])]⟩
def i_cloneConf_m (e:List Z1) (d:List Z4):Option ((List Z1)×(List Z4)):=
 (if room ([]:List Z1).length e.length 16 then iter (fun j (i,f,b,h,c)=>bif decide (b<f)then oB (idx i b) fun a=>(if room ([]:List Z1).length a.1.length 16 then if room c.length ([((([]:List Z1)++a.1),a.2)]:List Z4).length 40 then if fits (b+1)then j (i,f,(b+1),h,(c++([((([]:List Z1)++a.1),a.2)]:List Z4)))else none else none else none)else some (h,c)) N (d,(d.length:Int),(0:Int),(([]:List Z1)++e),([]:List Z4))else none)
theorem jLo :mK 140 (bX [.agg [.pv (.sl .str),.pv Y14]] [.agg [.own 1 .str 9 true,.own 2 Y16 142 true]] (c2A (i_cloneConf_m N))):=
 mO ja func140 rfl N (.seq .no (.seq .no (.seq (.seq .no (.block (.loop jM7 .no))) .no))) _
def jZO :Sh:=⟨pS:: .dead:: .dead:: .pv (.int .u32):: .dead:: .dead::pI::pI::dz 23 [],[]⟩
def j0x :Sh:=⟨pS:: .dead:: .dead:: .pv (.int .u32):: .dead:: .dead::pI::pI::dz 8 (pI::dz 14 []),[]⟩
def i_Crc_m (m:List UInt8):Z16:=
 (iter (fun n (j,k,l,d)=>bif decide (d<l)then oB (idx j d) fun o=>(iter (fun i (e,c,h,b,a)=>bif decide (a<8)then bif decide ((bitsI .and .u32 c 1)=1)then if 0<=(1:Int)then if fits (a+1)then i (e,(bitsI .xor .u32 (c.fdiv (2^(min (1:Int).toNat (IntKind.bits .u32)))) 3988292384),h,b,(a+1))else none else none else(if 0<=(1:Int)then if fits (a+1)then i (e,(c.fdiv (2^(min (1:Int).toNat (IntKind.bits .u32)))),h,b,(a+1))else none else none)else if fits (b+1)then n (e,c,h,(b+1))else none) N (j,(bitsI .xor .u32 k (IntKind.u32.wrap (o.toNat:Int))),l,d,(0:Int)))else some (IntKind.i64.wrap (bitsI .xor .u32 4294967295 k))) N (m,(4294967295:Int),(m.length:Int),(0:Int)))
theorem jZY :mK 87 (bX [pS] [pI] (c1A (i_Crc_m N))):=
 mO ja func87 rfl N (.seq .no (.seq .no (.seq (.seq .no (.block (.loop jZO (.seq .no (.seq .no (.seq (.block (.seq .no (.seq .no (.seq .no (.block (.loop j0x .no)))))) .no)))))) .no))) _
def jZQ :Sh:=⟨dz 3 (.box 3 0:: .box 4 0:: .dead:: .box 6 0::dz 5 (.box 12 0::dz 37 (.pv (.sl .str)::pI::pI::dz 44 []))),[(3,false,[.pv Y17]),(4,false,[.pv (.sl .str),.pv Y14]),(6,false,[.nils,.nils,.nils]),(12,false,[.own 701200 .str 9 true,.own 701201 Y16 142 true,.own 701202 Y1 33 true])]⟩
noncomputable def i_Disk_commit_m (q:Z5) (l:List Z1) (k:List Z4) (A:Int):Z13:=
 (oB (i_genName_m N A) fun B=>oB (i_Disk_file_m N q B) fun u=>oB (k_strings_Split_m N u.1 ([10]:List UInt8)) fun b=>if fits ((b.length:Int)-1)then bif !u.2 then some (([]:List Z1),([]:List Z4),([]:List Z2),false)else(oB (idx b ((b.length:Int)-1)) fun x=>bif !decide (x=([101,110,100]:List UInt8))then some (([]:List Z1),([]:List Z4),([]:List Z2),false)else oB (i_cloneConf_m N l k) fun m=>oB (cut b 0 ((b.length:Int)-1)) fun p=>iter (fun y (o,i,c,j,r,n,h,f,d)=>bif decide (c<i)then oB (idx o c) fun C=>(oB (k_strings_Cut_m N C ([32]:List UInt8)) fun t=>oB (i_Disk_file_m N j t.1) fun e=>bif !e.2 then some (([]:List Z1),([]:List Z4),([]:List Z2),false)else oB (i_Crc_m N e.1) fun w=>oB (k_strconv_Itoa_m N w) fun D=>bif !decide (D=t.2.1)then some (([]:List Z1),([]:List Z4),([]:List Z2),false)else oB (jY4 N r n e.1) fun a=>bif !a.2.2.2 then some (([]:List Z1),([]:List Z4),([]:List Z2),false)else if room d.length ([((a.1,a.2.1),a.2.2.1)]:List Z2).length 72 then if fits (c+1)then y (o,i,(c+1),j,r,n,h,f,(d++([((a.1,a.2.1),a.2.2.1)]:List Z2)))else none else none)else oB (i_IndexOk_m N h f d) fun v=>some (h,f,d,v)) N (p,(p.length:Int),(0:Int),q,l,k,m.1,m.2,([]:List Z2)))else none)
theorem j0h :mK 65 (bX [.agg [.pv Y17],.agg [.pv (.sl .str),.pv Y14],pI] [.tup [.agg [.own 1 .str 9 true,.own 2 Y16 142 true,.own 3 Y1 33 true],pB]] (c4A (i_Disk_commit_m N))):=
 mO (fC (j0B N) (fC (j0r N) (fC (jYi N) (fC (jLo N) (fC (jX0 N) (fC (jZY N) (fC (jO0 N) (fC (jYm N) (fC (jIr N) ja))))))))) func65 rfl N (.seq .no (.seq .no (.seq .no (.seq .no (.seq .no (.seq .no (.seq (.seq .no (.block (.loop jZQ .no))) .no))))))) _
def i_IndexNew_m (b:List Z1) (a:List Z4):Option ((List Z1)×(List Z4)×(List Z2)):=
 (oB (jaj N b a) fun d=>bif !d then some (([]:List Z1),([]:List Z4),([]:List Z2))else oB (i_cloneConf_m N b a) fun c=>some (c.1,c.2,([]:List Z2)))
theorem jRK :mK 66 (bX [.agg [.pv (.sl .str),.pv Y14]] [.agg [.own 1 .str 9 true,.own 2 Y16 142 true,.own 3 Y1 33 true]] (c2A (i_IndexNew_m N))):=
 mO (fC (jdX N) (fC (jLo N) ja)) func66 rfl N .no _
def jZ2 :Sh:=⟨.dead:: .dead:: .box 2 0:: .box 3 0:: .box 4 0:: .dead::pI::dz 27 [],[(2,false,[.pv (.sl .str),.pv Y14]),(3,false,[.pv Y17]),(4,false,[.nils,.nils,.nils])]⟩
noncomputable def i_DiskOpen_m (i:List Z1) (h:List Z4) (j:Z5):Option ((List Z1)×(List Z4)×(List Z2)×Int):=
 (oB (jaj N i h) fun k=>bif !k then some (([]:List Z1),([]:List Z4),([]:List Z2),(-1))else oB (i_DiskOk_m N j) fun n=>bif !n then some (([]:List Z1),([]:List Z4),([]:List Z2),(-1))else iter (fun l (a,d,e,f)=>bif decide ((1:Int)<=a)then oB (i_Disk_commit_m N f d e a) fun b=>(bif b.2.2.2 then some (b.1,b.2.1,b.2.2.1,a)else if fits (a-1)then l ((a-1),d,e,f)else none)else oB (i_IndexNew_m N d e) fun c=>some (c.1,c.2.1,c.2.2,0)) N ((99:Int),i,h,j))
theorem j0w :mK 19 (bX [.agg [.pv (.sl .str),.pv Y14],.agg [.pv Y17]] [.tup [.agg [.own 1 .str 9 true,.own 2 Y16 142 true,.own 3 Y1 33 true],pI]] (c3A (i_DiskOpen_m N))):=
 mO (fC (jdX N) (fC (j0P N) (fC (j0h N) (fC (jRK N) ja)))) func19 rfl N (.seq .no (.seq .no (.seq (.seq .no (.block (.loop jZ2 .no))) .no))) _
def jve :Sh:=⟨.pv (.sl .str):: .pv (.sl .str)::dz 3 (pI::dz 20 []),[]⟩
def j0Z (e:List Z1) (d:List Z1):Z10:=
 (bif !decide ((e.length:Int)=(d.length:Int))then some false else iter (fun h (b,c,a)=>bif decide (a<(b.length:Int))then oB (idx b a) fun i=>(oB (idx c a) fun f=>bif !decide (i=f)then some false else if fits (a+1)then h (b,c,(a+1))else none)else some true) N (e,d,(0:Int)))
theorem juE :mK 145 (bX [.pv (.sl .str),.pv (.sl .str)] [pB] (c2A (j0Z N))):=
 mO ja func145 rfl N (.seq .no (.seq .no (.seq (.seq .no (.block (.loop jve .no))) .no))) _
def jRo :Sh:=⟨.dead:: .dead:: .box 2 0:: .box 3 0:: .dead::pI::dz 51 [],[(2,false,[.pv (.sl .str),.pv Y14]),(3,false,[.pv (.sl .str),.pv Y14])]⟩
def j1a (f:List Z1) (e:List Z4) (h:List Z1) (d:List Z4):Z10:=
 (oB (j0Z N f h) fun n=>bif !n then some false else bif !decide ((e.length:Int)=(d.length:Int))then some false else iter (fun i (a,m,b,q,c)=>bif decide (a<(b.length:Int))then oB (idx b a) fun j=>(oB (idx c a) fun o=>bif !decide (j.2=o.2)then some false else oB (idx b a) fun k=>oB (idx c a) fun p=>oB (j0Z N k.1 p.1) fun r=>bif !r then some false else if fits (a+1)then i ((a+1),m,b,q,c)else none)else some true) N ((0:Int),f,e,h,d))
theorem jRp :mK 69 (bX [.agg [.pv (.sl .str),.pv Y14],.agg [.pv (.sl .str),.pv Y14]] [pB] (c4A (j1a N))):=
 mO (fC (juE N) ja) func69 rfl N (.seq .no (.seq .no (.seq (.seq .no (.block (.loop jRo .no))) .no))) _
def jRj :Sh:=⟨.dead:: .dead:: .box 2 0:: .box 3 0:: .dead::pI::dz 60 [],[(2,false,[pI,.pv Y17,.pv Y13]),(3,false,[pI,.pv Y17,.pv Y13])]⟩
def jRu :Sh:=⟨.dead:: .dead:: .box 2 0:: .box 3 0:: .dead:: .dead::pI::dz 59 [],[(2,false,[pI,.pv Y17,.pv Y13]),(3,false,[pI,.pv Y17,.pv Y13])]⟩
def l_foDoc_m (o:Int) (j:Z5) (n:Z8) (u:Int) (h:Z5) (v:Z8):Z10:=
 (bif !decide (o=u)then some false else bif !decide ((j.length:Int)=(h.length:Int))then some false else bif !decide ((n.length:Int)=(v.length:Int))then some false else iter (fun x (b,w,c,t,p,e,l)=>bif decide (b<(c.length:Int))then oB (idx c b) fun k=>(oB (idx e b) fun q=>bif !((decide (k.1=q.1))&&(decide (k.2=q.2)))then some false else if fits (b+1)then x ((b+1),w,c,t,p,e,l)else none)else iter (fun z (a,A,B,f,y,C,i)=>bif decide (a<(f.length:Int))then oB (idx f a) fun m=>(oB (idx i a) fun r=>bif !((decide (m.1=r.1))&&(decide (m.2=r.2)))then some false else if fits (a+1)then z ((a+1),A,B,f,y,C,i)else none)else some true) N ((0:Int),w,c,t,p,e,l)) N ((0:Int),o,j,n,u,h,v))
theorem jRr :mK 268 (bX [.agg [pI,.pv Y17,.pv Y13],.agg [pI,.pv Y17,.pv Y13]] [pB] (c6A (l_foDoc_m N))):=
 mO ja func268 rfl N (.seq .no (.seq .no (.seq (.seq .no (.block (.loop jRj .no))) (.seq (.seq .no (.block (.loop jRu .no))) .no)))) _
def jRs :Sh:=⟨.pv Y3:: .pv Y3::dz 3 (pI::dz 21 []),[]⟩
def l_foDocs_m (h:List Z0) (f:List Z0):Z10:=
 (bif !decide ((h.length:Int)=(f.length:Int))then some false else iter (fun j (c,e,a)=>bif decide (a<(c.length:Int))then oB (idx c a) fun d=>(oB (idx e a) fun b=>oB (l_foDoc_m N d.1 d.2.1 d.2.2 b.1 b.2.1 b.2.2) fun i=>bif !i then some false else if fits (a+1)then j (c,e,(a+1))else none)else some true) N (h,f,(0:Int)))
theorem jQV :mK 216 (bX [.pv Y3,.pv Y3] [pB] (c2A (l_foDocs_m N))):=
 mO (fC (jRr N) ja) func216 rfl N (.seq .no (.seq .no (.seq (.seq .no (.block (.loop jRs .no))) .no))) _
def l_foInts_m (e:List Int) (d:List Int):Z10:=
 (bif !decide ((e.length:Int)=(d.length:Int))then some false else iter (fun h (b,c,a)=>bif decide (a<(b.length:Int))then oB (idx b a) fun i=>(oB (idx c a) fun f=>bif !decide (i=f)then some false else if fits (a+1)then h (b,c,(a+1))else none)else some true) N (e,d,(0:Int)))
theorem jQS :mK 147 (bX [.pv Y19,.pv Y19] [pB] (c2A (l_foInts_m N))):=
 mO ja func147 rfl N (.seq .no (.seq .no (.seq (.seq .no (.block (.loop jnI .no))) .no))) _
def jQ6 :Sh:=⟨.pv Y11:: .pv Y11::dz 3 (pI::dz 36 []),[]⟩
def l_foPosts_m (e:Z6) (d:Z6):Z10:=
 (bif !decide ((e.length:Int)=(d.length:Int))then some false else iter (fun i (b,c,a)=>bif decide (a<(b.length:Int))then oB (idx b a) fun j=>(oB (idx c a) fun h=>bif !decide (j.1=h.1)then some false else oB (idx b a) fun l=>oB (idx c a) fun k=>oB (l_foInts_m N l.2 k.2) fun f=>bif !f then some false else if fits (a+1)then i (b,c,(a+1))else none)else some true) N (e,d,(0:Int)))
theorem jRl :mK 217 (bX [.pv Y11,.pv Y11] [pB] (c2A (l_foPosts_m N))):=
 mO (fC (jQS N) ja) func217 rfl N (.seq .no (.seq .no (.seq (.seq .no (.block (.loop jQ6 .no))) .no))) _
def jQ7 :Sh:=⟨.dead:: .dead:: .box 2 0:: .box 3 0:: .dead::pI::dz 66 [],[(2,false,[.pv Y3,.pv Y5]),(3,false,[.pv Y3,.pv Y5])]⟩
def l_foSeg_m (f:List Z0) (e:List Z3) (h:List Z0) (d:List Z3):Z10:=
 (oB (l_foDocs_m N f h) fun o=>bif !o then some false else bif !decide ((e.length:Int)=(d.length:Int))then some false else iter (fun j (a,n,b,t,c)=>bif decide (a<(b.length:Int))then oB (idx b a) fun i=>(oB (idx c a) fun p=>bif !decide (i.1=p.1)then some false else oB (idx b a) fun k=>oB (idx c a) fun q=>bif !decide (k.2.1=q.2.1)then some false else oB (idx b a) fun m=>oB (idx c a) fun r=>oB (l_foPosts_m N m.2.2 r.2.2) fun u=>bif !u then some false else if fits (a+1)then j ((a+1),n,b,t,c)else none)else some true) N ((0:Int),f,e,h,d))
theorem jRc :mK 146 (bX [.agg [.pv Y3,.pv Y5],.agg [.pv Y3,.pv Y5]] [pB] (c4A (l_foSeg_m N))):=
 mO (fC (jQV N) (fC (jRl N) ja)) func146 rfl N (.seq .no (.seq .no (.seq (.seq .no (.block (.loop jQ7 .no))) .no))) _
def j06 (d:List Z0) (c:List Z3) (f:List Int) (e:List Z0) (b:List Z3) (h:List Int):Z10:=
 (oB (l_foSeg_m N d c e b) fun a=>bif a then oB (l_foInts_m N f h) fun i=>(some i)else some false)
theorem jQ4 :mK 70 (bX [.agg [.pv Y3,.pv Y5,.pv Y19],.agg [.pv Y3,.pv Y5,.pv Y19]] [pB] (c6A (j06 N))):=
 mO (fC (jRc N) (fC (jQS N) ja)) func70 rfl N .no _
def jRd :Sh:=⟨.dead:: .dead:: .box 2 0:: .box 3 0:: .dead::pI::dz 34 [],[(2,false,[.pv (.sl .str),.pv Y14,.pv Y0]),(3,false,[.pv (.sl .str),.pv Y14,.pv Y0])]⟩
def l_foIndex_m (j:List Z1) (f:List Z4) (i:List Z2) (k:List Z1) (e:List Z4) (l:List Z2):Z10:=
 (oB (j1a N j f k e) fun q=>bif !q then some false else bif !decide ((i.length:Int)=(l.length:Int))then some false else iter (fun m (a,t,r,d,p,o,h)=>bif decide (a<(d.length:Int))then oB (idx d a) fun b=>(oB (idx h a) fun c=>oB (j06 N b.1.1 b.1.2 b.2 c.1.1 c.1.2 c.2) fun u=>bif !u then some false else if fits (a+1)then m ((a+1),t,r,d,p,o,h)else none)else some true) N ((0:Int),j,f,i,k,e,l))
theorem jRf :mK 21 (bX [.agg [.pv (.sl .str),.pv Y14,.pv Y0],.agg [.pv (.sl .str),.pv Y14,.pv Y0]] [pB] (c6A (l_foIndex_m N))):=
 mO (fC (jRp N) (fC (jQ4 N) ja)) func21 rfl N (.seq .no (.seq .no (.seq (.seq .no (.block (.loop jRd .no))) .no))) _
def s_DrawDiskCommit_m (c:List Int):Option (Z7×(List Z1)×(List Z4)×(List Z2)×Int):=
 (oB (s_l30Open_m N c) fun b=>oB (s_l30AnyDisk_m N b.1 b.2) fun a=>oB (s_l30Rd_one_m N ([(-1),0,1,2,3,9]:List Int) a.2.2.2.2.1 a.2.2.2.2.2) fun d=>some (a.1,a.2.1,a.2.2.1,a.2.2.2.1,d.1))
theorem j3b :mK 32 (bX [.pv (.sl (.int .u8))] [.tup [.agg [.own 1 Y18 114 true],.agg [.pv (.sl .str),.pv Y14,.own 2 Y1 33 false],pI]] (c1A (s_DrawDiskCommit_m N))):=
 mO (fC (juQ N) (fC (j2N N) (fC (juA N) ja))) func32 rfl N .no _
def jbn (N:Nat) (a:List UInt8):Z10:=
 (some (!decide (a=a)))
theorem jkt :mK 204 (bX [pS] [pB] (c1A (jbn N))):=
 mO ja func204 rfl N .no _
def jam (a:List UInt8) (b:List UInt8):Z16:=
 (oB (jbn N a) fun d=>oB (jbn N b) fun c=>bif d then bif c then some 0 else(some (-1))else bif c then some 1 else bif Op.bytesLess a b then some (-1)else bif !(Op.bytesLess a b||decide (a=b))then some 1 else some 0)
theorem ji2 :mK 126 (bX [pS,pS] [pI] (c2A (jam N))):=
 mO (fC (jkt N) ja) func126 rfl N .no _
def j08 (c:List UInt8) (e:List UInt8) (b:List UInt8) (d:List UInt8):Z16:=
 (oB (jam N c b) fun a=>some a)
theorem j0T :mK 164 (bX [.agg [pS,pS],.agg [pS,pS]] [pI] (c4A (j08 N))):=
 mO (fC (ji2 N) ja) func164 rfl N .no _
def cmp581 (N:Nat):(Unit)->(Z1×Z1)->(Z1×Z1)->Option Int:=(fun(cmp:Unit) (e e2:Z1×Z1)=>j08 N e.1 e.2 e2.1 e2.2)
def j3f :Sh:=⟨.mtk 800000 Y18 114 true::pI::pI:: .clo 164 []::dz 4 (pI::dz 44 []),[]⟩
def j2q :Sh:=⟨.mtk 800000 Y18 114 true::pI::pI:: .clo 164 []::dz 4 (pI::pI::dz 43 []),[]⟩
def j2d (a:Z5) (d:Int) (c:Int) (b:Unit):Option (Z7):=insG (cmp581 N) N a d c b
 
theorem j3c :mK 284 (bX [.mtk 800000 Y18 114 true,pI,pI,.clo 164 []] [.tup [],.mtk 800000 Y18 114 true] (c4A (j2d N))):=
 mO (fC (j0T N) ja) func284 rfl N (.seq .no (.block (.loop j3f (.seq .no (.seq (.block (.seq .no (.block (.loop j2q .no)))) .no))))) _ (rs:=[800000])
def j25 :Sh:=⟨.mtk 800000 Y18 114 true:: .dead::pI::pI:: .clo 164 []::dz 5 (pI::dz 71 []),[]⟩
def j3s :Sh:=⟨.mtk 800000 Y18 114 true:: .dead::pI::pI:: .clo 164 []::dz 5 (pI::pI::dz 70 []),[]⟩
def j2J (a:Z5) (d:Int) (c:Int) (e:Int) (b:Unit):Option (Z7):=siftG (cmp581 N) N a d c e b
 
theorem j2X :mK 326 (bX [.mtk 800000 Y18 114 true,pI,pI,pI,.clo 164 []] [.tup [],.mtk 800000 Y18 114 true] (c5A (j2J N))):=
 mO (fC (j0T N) ja) func326 rfl N (.seq .no (.block (.loop j25 (.block (.seq .no (.seq .no (.meet j3s .no .no))))))) _ (rs:=[800000])
def j2M :Sh:=⟨.mtk 800000 Y18 114 true:: .dead:: .dead:: .clo 164 []::dz 4 (pI::pI::pI::pI::dz 48 []),[]⟩
def j22 :Sh:=⟨.mtk 800000 Y18 114 true:: .dead:: .dead:: .clo 164 []::dz 4 (pI::pI:: .dead:: .dead::pI::dz 47 []),[]⟩
def j2b (a:Z5) (d:Int) (c:Int) (b:Unit):Option (Z7):=heapG (cmp581 N) N a d c b
 
theorem j3x :mK 285 (bX [.mtk 800000 Y18 114 true,pI,pI,.clo 164 []] [.tup [],.mtk 800000 Y18 114 true] (c4A (j2b N))):=
 mO (fC (j2X N) ja) func285 rfl N (.seq .no (.seq .no (.seq .no (.seq (.seq .no (.block (.loop j2M .no))) (.seq .no (.block (.loop j22 .no))))))) _ (rs:=[800000])
def j3a :Sh:=⟨.mtk 800000 Y18 114 true::pI::dz 6 (pI:: .box 9 0:: .pv (.int .u64)::pI::dz 55 []),[(9,false,[.pv (.int .u64)])]⟩
def j19 :Sh:=⟨.mtk 800000 Y18 114 true::pI::dz 6 (pI:: .box 9 0:: .pv (.int .u64)::pI::pI::dz 54 []),[(9,false,[.pv (.int .u64)])]⟩
def j2m (a:Z5) (d:Int) (c:Int) (b:Unit):Option (Z7):=breakG N a d c b
 
theorem j2a :mK 286 (bX [.mtk 800000 Y18 114 true,pI,pI,.clo 164 []] [.tup [],.mtk 800000 Y18 114 true] (c4A (j2m N))):=
 mO (fC (jhv N) (fC (jet N) ja)) func286 rfl N (.seq .no (.seq .no (.cond (.seq .no (.seq .no (.seq .no (.block (.loop j3a (.seq .no (.seq (.block (.seq .no (.meet j19 .no .no))) .no))))))) .no))) _ (rs:=[800000])
def j3u (a:Z5) (e:Int) (d:Int) (c:Unit) (b:Int):Option (Int×Int×Z7×Int):=order2G (cmp581 N) N a e d c b
 
theorem j24 :mK 343 ⟨⟨[.mtk 800000 Y18 114 true,pI,pI,.box 900003 0,.clo 164 []],[(900003,false,[pI])]⟩,⟨[.tup [pI,pI],.mtk 800000 Y18 114 true],[(900003,false,[pI])]⟩,c5A (j3u N)⟩:=
 mO (fC (j0T N) ja) func343 rfl N .no _ (rs:=[900003,800000])
def j2e (a:Z5) (f:Int) (d:Int) (e:Int) (c:Unit) (b:Int):Option (Int×Z7×Int):=medianG (cmp581 N) N a f d e c b
 
theorem j1L :mK 328 ⟨⟨[.mtk 800000 Y18 114 true,pI,pI,pI,.box 900004 0,.clo 164 []],[(900004,false,[pI])]⟩,⟨[pI,.mtk 800000 Y18 114 true],[(900004,false,[pI])]⟩,c6A (j2e N)⟩:=
 mO (fC (j24 N) ja) func328 rfl N .no _ (rs:=[900004,800000])
def j2K (a:Z5) (d:Int) (b:Unit) (c:Int):Option (Int×Z7×Int):=medianAdjacentG (cmp581 N) N a d b c
 
theorem j2y :mK 327 ⟨⟨[.mtk 800000 Y18 114 true,pI,.box 900002 0,.clo 164 []],[(900002,false,[pI])]⟩,⟨[pI,.mtk 800000 Y18 114 true],[(900002,false,[pI])]⟩,c4A (j2K N)⟩:=
 mO (fC (j1L N) ja) func327 rfl N .no _ (rs:=[900002,800000])
def j2s :Sh:=⟨.mtk 800000 Y18 114 true:: .dead:: .dead:: .clo 164 []::dz 7 (.box 11 0::pI::pI::pI::dz 48 []),[(11,false,[pI])]⟩
def j2H :Sh:=⟨.mtk 800000 Y18 114 true::dz 10 (.box 11 0:: .dead::pI::dz 49 []),[(11,false,[pI])]⟩
def j2D (a:Z5) (d:Int) (c:Int) (b:Unit):Option (Int×Int×Z7):=choosePivotG (cmp581 N) N a d c b
 
theorem j2F :mK 287 (bX [.mtk 800000 Y18 114 true,pI,pI,.clo 164 []] [.tup [pI,pI],.mtk 800000 Y18 114 true] (c4A (j2D N))):=
 mO (fC (j2y N) (fC (j1L N) ja)) func287 rfl N (.seq .no (.seq .no (.seq .no (.seq .no (.seq .no (.seq .no (.meet j2H (.seq .no (.cond (.meet j2s .no .no) .no)) .no))))))) _ (rs:=[800000])
def j12 :Sh:=⟨.mtk 800000 Y18 114 true::dz 7 (pI::pI::dz 24 []),[]⟩
def j3m (a:Z5) (d:Int) (c:Int) (b:Unit):Option (Z7):=reverseRangeG N a d c b
 
theorem j2c :mK 288 (bX [.mtk 800000 Y18 114 true,pI,pI,.clo 164 []] [.tup [],.mtk 800000 Y18 114 true] (c4A (j3m N))):=
 mO ja func288 rfl N (.seq .no (.seq .no (.block (.loop j12 .no)))) _ (rs:=[800000])
def j1i :Sh:=⟨.mtk 800000 Y18 114 true::pI::pI:: .clo 164 []::dz 5 (pI::pI::dz 130 []),[]⟩
def j2u :Sh:=⟨.mtk 800000 Y18 114 true::pI::pI:: .clo 164 []::dz 5 (pI::pI::pI::dz 129 []),[]⟩
def j2n :Sh:=⟨.mtk 800000 Y18 114 true::pI::pI:: .clo 164 []::dz 5 (pI::pI:: .dead::pI::dz 128 []),[]⟩
def j3e (a:Z5) (d:Int) (c:Int) (b:Unit):Option (Bool×Z7):=pisG (cmp581 N) N a d c b
 
theorem j2Z :mK 289 (bX [.mtk 800000 Y18 114 true,pI,pI,.clo 164 []] [pB,.mtk 800000 Y18 114 true] (c4A (j3e N))):=
 mO (fC (j0T N) ja) func289 rfl N (.seq .no (.seq .no (.seq (.seq .no (.block (.loop j1i (.seq .no (.seq (.block (.seq (.block (.loop j1i .no)) (.seq .no (.seq .no (.seq .no (.meet j1i (.seq .no (.cond (.seq .no (.block (.loop j2u .no))) .no)) (.seq .no (.cond (.seq .no (.block (.loop j2n .no))) .no)))))))) .no))))) .no))) _ (rs:=[800000])
def j1j :Sh:=⟨.mtk 800000 Y18 114 true::pI:: .dead:: .dead:: .clo 164 []::dz 6 (pI::pI::dz 77 []),[]⟩
def j3n (a:Z5) (e:Int) (c:Int) (d:Int) (b:Unit):Option (Int×Z7):=peqG (cmp581 N) N a e c d b
 
theorem j2z :mK 290 (bX [.mtk 800000 Y18 114 true,pI,pI,pI,.clo 164 []] [pI,.mtk 800000 Y18 114 true] (c5A (j3n N))):=
 mO (fC (j0T N) ja) func290 rfl N (.seq .no (.seq .no (.seq .no (.seq (.block (.loop j1j (.block (.seq (.block (.loop j1j .no)) (.seq (.block (.loop j1j .no)) .no))))) .no)))) _ (rs:=[800000])
def j00 :Sh:=⟨.mtk 800000 Y18 114 true::pI:: .dead:: .dead:: .clo 164 []::dz 7 (pI::pI::dz 164 []),[]⟩
def j23 (a:Z5) (e:Int) (c:Int) (d:Int) (b:Unit):Option (Int×Bool×Z7):=partG (cmp581 N) N a e c d b
 
theorem j2T :mK 291 (bX [.mtk 800000 Y18 114 true,pI,pI,pI,.clo 164 []] [.tup [pI,pB],.mtk 800000 Y18 114 true] (c5A (j23 N))):=
 mO (fC (j0T N) ja) func291 rfl N (.seq .no (.seq .no (.seq .no (.seq (.block (.loop j00 .no)) (.seq (.block (.loop j00 .no)) (.seq .no (.seq .no (.seq .no (.seq .no (.seq (.block (.loop j00 (.block (.seq (.block (.loop j00 .no)) (.seq (.block (.loop j00 .no)) .no))))) .no)))))))))) _ (rs:=[800000])
def j3l :Sh:=⟨.mtk 800000 Y18 114 true::pI::pI::pI:: .clo 164 []::dz 5 (pB::pB::dz 136 []),[]⟩
def j20 :Sh:=⟨.mtk 800000 Y18 114 true::pI::pI::pI:: .clo 164 []::dz 5 (pB::pB::pI::pI::dz 134 []),[]⟩
def j2V :Sh:=⟨.mtk 800000 Y18 114 true::pI::pI::pI:: .clo 164 []::dz 5 (pB::pB::pI::pI::pI::dz 133 []),[]⟩
def j2h :Sh:=⟨.mtk 800000 Y18 114 true::pI::pI::pI:: .clo 164 []::dz 5 (pB::pB::pI::dz 135 []),[]⟩
def j1u (N D:Nat) (f:Z5) (b a limit:Int) (h:Unit):Option (Z7):=pdqG (cmp581 N) (fun d b a c=>heapG (cmp581 N) N d b a c) (fun d b a e c=>peqG (cmp581 N) N d b a e c) N D f b a limit h
 
def j1d (N D:Nat):Model:=⟨⟨[.mtk 800000 Y18 114 true,pI,pI,pI,.clo 164 []],[]⟩,⟨[.tup [],.mtk 800000 Y18 114 true],[]⟩,c5A (j1u N D)⟩
theorem j2P (N D:Nat) (ih:mK 224 (j1d N D)):mK 224 (j1d N (D+1)):=
 mO (fC ih (fC (j3c N) (fC (j3x N) (fC (j2a N) (fC (j2F N) (fC (j2c N) (fC (j2Z N) (fC (j0T N) (fC (j2z N) (fC (j2T N) ja)))))))))) func224 rfl N (.seq .no (.seq .no (.block (.loop j3l (.block (.seq .no (.seq .no (.seq .no (.meet j2h .no (.seq .no (.meet j2V .no (.meet j20 .no .no)))))))))))) (j1d N (D+1)) (rs:=[800000])
theorem j1B (N:Nat):∀D,mK 224 (j1d N D)
 |0=>modelOk_none ⟨_,func224,by decide,by kernel_rfl⟩ _ (fun a=>rfl)
 |D+1=>j2P N D (j1B N D)
def k_slices_SortFunc_581_m (a:Z5) (d:Unit):Option (Z7):=
 (oB (k_math_bits_Len_m N (IntKind.u64.wrap (a.length:Int))) fun b=>oB (j1u N N a 0 (a.length:Int) b ()) fun c=>some c)
theorem j2C :mK 163 (bX [.mtk 800000 Y18 114 true,.clo 164 []] [.tup [],.mtk 800000 Y18 114 true] (c2A (k_slices_SortFunc_581_m N))):=
 mO (fC (jda N) (fC (j1B N N) ja)) func163 rfl N .no _ (rs:=[800000])
def j10 :Sh:=⟨.box 900000 0::pS::pS::dz 8 (pI::pI::dz 38 []),[(900000,false,[.mtk 850000 Y18 114 true])]⟩
def j0Y (m:List UInt8) (j:List UInt8) (f:Z5):Option (Z7):=
 (iter (fun l (d,c,e,a,b)=>bif decide (a<e)then if 0<=a/\a<(b.length:Int)then oB (b[a.toNat]?) fun k=>(bif decide (k.1=d)then if 0<=a/\a<(b.length:Int)then oB (b[a.toNat]?) fun i=>(some (b.set a.toNat (i.1,c)))else none else if fits (a+1)then l (d,c,e,(a+1),b)else none)else none else if room b.length ([(d,c)]:Z5).length 32 then oB (k_slices_SortFunc_581_m N (b++([(d,c)]:Z5)) ()) fun h=>(some h)else none) N (m,j,(f.length:Int),(0:Int),f))
theorem j2A :mK 88 ⟨⟨[.box 900000 0,pS,pS],[(900000,false,[.mtk 850000 Y18 114 true])]⟩,⟨[.tup []],[(900000,false,[.mtk 1 Y18 114 true])]⟩,c3A (j0Y N)⟩:=
 mO (fC (j2C N) ja) func88 rfl N (.seq (.seq .no (.block (.loop j10 .no))) .no) _ (wr:=[42,43]) (rs:=[900000,850000])
def j1V :Sh:=⟨pS::pI::dz 3 (pI::dz 40 []),[]⟩
def j07 (a:List UInt8) (j:Int):Z10:=
 (bif decide ((a.length:Int)<7)then some false else oB (cut a 0 3) fun v=>bif !decide (v=([103,101,110]:List UInt8))then oB (cut a 0 3) fun x=>(bif !decide (x=([115,101,103]:List UInt8))then some false else iter (fun m (d,h,c)=>bif decide (c<7)then oB (idx d c) fun o=>(bif decide ((o.toNat:Int)<48)then some false else oB (idx d c) fun n=>bif decide ((57:Int)<(n.toNat:Int))then some false else if fits (c+1)then m (d,h,(c+1))else none)else oB (cut d 3 7) fun q=>oB (jXn N q) fun k=>if fits (k-1000)then if fits (h-1)then oB (jm N (k-1000) 1 (h-1)) fun y=>(some y)else none else none) N (a,j,(3:Int)))else iter (fun u (e,f,b)=>bif decide (b<7)then oB (idx e b) fun w=>(bif decide ((w.toNat:Int)<48)then some false else oB (idx e b) fun t=>bif decide ((57:Int)<(t.toNat:Int))then some false else if fits (b+1)then u (e,f,(b+1))else none)else oB (cut e 3 7) fun p=>oB (jXn N p) fun l=>if fits (l-1000)then if fits (f-1)then oB (jm N (l-1000) 1 (f-1)) fun r=>(some r)else none else none) N (a,j,(3:Int)))
theorem j2l :mK 91 (bX [pS,pI] [pB] (c2A (j07 N))):=
 mO (fC (jXC N) (fC (jY N) ja)) func91 rfl N (.seq .no (.seq .no (.seq (.seq .no (.block (.loop j1V .no))) .no))) _
def j0U (c:List UInt8) (d:List UInt8) (b:Int):Z10:=
 (oB (j07 N c b) fun a=>some a)
theorem j1q :mK 90 (bX [.agg [pS,pS],.ptr tI] [pB] (c3A (j0U N))):=
 mO (fC (j2l N) ja) func90 rfl N .no _
def j11 :Sh:=⟨.mtk 800000 Y18 114 true:: .clo 90 [.ptr tI]::dz 5 (pI::pI::dz 10 []),[]⟩
def j03 (f:Z5) (k:Int):Option (Int×Z7):=
 (iter (fun i (b,e,d,a)=>bif decide (a<d)then if 0<=a/\a<(b.length:Int)then oB (b[a.toNat]?) fun c=>(oB (j0U N c.1 c.2 e) fun h=>bif h then some (a,b)else if fits (a+1)then i (b,e,d,(a+1))else none)else none else some ((-1),b)) N (f,k,(f.length:Int),(0:Int)))
theorem j1X :mK 165 (bX [.mtk 800000 Y18 114 true,.clo 90 [.ptr tI]] [pI,.mtk 800000 Y18 114 true] (c2A (j03 N))):=
 mO (fC (j1q N) ja) func165 rfl N (.seq .no (.seq (.seq .no (.block (.loop j11 .no))) .no)) _ (rs:=[800000])
def j2W :Sh:=⟨.mtk 800000 Y18 114 true:: .clo 90 [.ptr tI]::dz 3 (pI::pI::dz 35 []),[]⟩
def j02 (k:Z5) (i:Int):Option (Z7):=
 (oB (j03 N k i) fun d=>bif decide (d.1=(-1))then some d.2 else if fits (d.1+1)then iter (fun h (a,f,b,c)=>bif decide (c<(a.length:Int))then if 0<=c/\c<(a.length:Int)then oB (a[c.toNat]?) fun e=>(oB (j0U N e.1 e.2 f) fun m=>bif !m then if 0<=b/\b<(a.length:Int)then oB (a[b.toNat]?) fun n=>(if fits (b+1)then if fits (c+1)then h ((a.set b.toNat e),f,(b+1),(c+1))else none else none)else none else if fits (c+1)then h (a,f,b,(c+1))else none)else none else oB (cut a b (a.length:Int)) fun _=>oB (cut (a.take b.toNat++List.replicate ((a.length:Int).toNat-b.toNat) (([]:List UInt8),([]:List UInt8))++a.drop ((a.length:Int).toNat)) 0 b) fun l=>some l) N (d.2,i,d.1,(d.1+1))else none)
theorem j3h :mK 89 (bX [.mtk 800000 Y18 114 true,.clo 90 [.ptr tI]] [.own 1 Y18 114 true,.dead] (c2A (j02 N))):=
 mO (fC (j1X N) (fC (j1q N) ja)) func89 rfl N (.seq .no (.seq .no (.seq .no (.seq (.seq .no (.block (.loop j2W .no))) .no)))) _ (wr:=[41]) (rs:=[800000]) (dw:=[38])
def j26 :Sh:=⟨.dead:: .dead::pI:: .box 3 0:: .box 4 0:: .dead:: .box 6 0:: .dead:: .box 8 0:: .box 9 0::pI::dz 134 [],[(3,false,[.pv Y17]),(4,false,[.pv (.sl .str),.pv Y14,.pv Y0]),(6,false,[.nils]),(8,false,[.mtk 700800 Y18 114 true]),(9,false,[pI])]⟩
def j2L :Sh:=⟨.dead:: .dead::pI:: .dead:: .box 4 0:: .dead:: .box 6 0:: .dead:: .box 8 0:: .box 9 0::dz 3 (.mtk 600013 Y18 114 true::pS::dz 46 (.pv Y0::pI::pI::dz 81 [])),[(4,false,[.pv (.sl .str),.pv Y14,.pv Y0]),(6,false,[.nils]),(8,false,[.mtk 700800 Y18 114 true]),(9,false,[pI])]⟩
def j3q :Sh:=⟨.dead:: .dead::pI::dz 3 (.box 6 0:: .dead:: .box 8 0:: .box 9 0::dz 3 (.pv Y17::dz 91 (.pv Y17::pI::pI::dz 37 []))),[(6,false,[.nils]),(8,false,[.mtk 700800 Y18 114 true]),(9,false,[pI])]⟩
noncomputable def i_DiskCommit_m (d:Z5) (x:List Z1) (x2:List Z4) (x3:List Z2) (writes:Int):Option (Z7×Int):=
 (oB (i_DiskOk_m N d) fun r=>bif !r then some (([]:Z5),(-1))else oB (i_IndexOk_m N x x2 x3) fun r2=>bif !r2 then some (([]:Z5),(-1))else if room ([]:Z5).length d.length 32 then iter (fun go (writes2,k,d2,x4,x5,x6,out,n)=>bif decide (k<=99)then oB (i_genName_m N k) fun r3=>(oB (i_Disk_file_m N d2 r3) fun r4=>bif r4.2 then if fits (k+1)then if fits (k+1)then go (writes2,(k+1),d2,x4,x5,x6,out,(k+1))else none else none else if fits (k+1)then go (writes2,(k+1),d2,x4,x5,x6,out,n)else none)else bif decide ((99:Int)<n)then some (out,0)else if fits ((d2.length:Int)+5)then if fits (((d2.length:Int)+5)+1)then bif decide ((24:Int)<(((d2.length:Int)+5)+1))then some (out,0)else(iter (fun go2 (writes3,list,manifest,t61,t62,t63,x7,x8,x9,out2,n2)=>bif decide (t63<t62)then oB (idx t61 t63) fun e=>(if fits (1000+n2)then oB (k_strconv_Itoa_m N (1000+n2)) fun r5=>(if([115,101,103]:List UInt8).length+r5.length<=9223372036854775807 then if(([115,101,103]:List UInt8)++r5).length+([120]:List UInt8).length<=9223372036854775807 then oB (k_strconv_Itoa_m N t63) fun r6=>(if((([115,101,103]:List UInt8)++r5)++([120]:List UInt8)).length+r6.length<=9223372036854775807 then oB (i_LivePut_m N x7 x8 e.1.1 e.1.2 e.2) fun r7=>(if room list.length ([((((([115,101,103]:List UInt8)++r5)++([120]:List UInt8))++r6),r7)]:Z5).length 32 then if(((([115,101,103]:List UInt8)++r5)++([120]:List UInt8))++r6).length+([32]:List UInt8).length<=9223372036854775807 then oB (i_Crc_m N r7) fun r8=>(oB (k_strconv_Itoa_m N r8) fun r9=>if((((([115,101,103]:List UInt8)++r5)++([120]:List UInt8))++r6)++([32]:List UInt8)).length+r9.length<=9223372036854775807 then if(((((([115,101,103]:List UInt8)++r5)++([120]:List UInt8))++r6)++([32]:List UInt8))++r9).length+([10]:List UInt8).length<=9223372036854775807 then if manifest.length+((((((([115,101,103]:List UInt8)++r5)++([120]:List UInt8))++r6)++([32]:List UInt8))++r9)++([10]:List UInt8)).length<=9223372036854775807 then if fits (t63+1)then go2 (writes3,(list++([((((([115,101,103]:List UInt8)++r5)++([120]:List UInt8))++r6),r7)]:Z5)),(manifest++((((((([115,101,103]:List UInt8)++r5)++([120]:List UInt8))++r6)++([32]:List UInt8))++r9)++([10]:List UInt8))),t61,t62,(t63+1),x7,x8,x9,out2,n2)else none else none else none else none)else none else none)else none)else none else none)else none)else oB (i_genName_m N n2) fun r10=>if manifest.length+([101,110,100]:List UInt8).length<=9223372036854775807 then if room list.length ([(r10,(manifest++([101,110,100]:List UInt8)))]:Z5).length 32 then iter (fun go3 (writes4,list2,t105,t106,t107,out3,n3)=>bif decide (t107<t106)then oB (idx t105 t107) fun e2=>(bif decide (writes4<0)then oB (j0Y N e2.1 e2.2 out3) fun r11=>(if fits (t107+1)then go3 (writes4,list2,t105,t106,(t107+1),r11,n3)else none)else bif decide (t107<writes4)then oB (j0Y N e2.1 e2.2 out3) fun r12=>(if fits (t107+1)then go3 (writes4,list2,t105,t106,(t107+1),r12,n3)else none)else if fits (t107+1)then go3 (writes4,list2,t105,t106,(t107+1),out3,n3)else none)else bif decide (writes4<0)then oB (j02 N out3 n3) fun r13=>(if room ([]:Z5).length r13.length 32 then some ((([]:Z5)++r13),n3)else none)else bif decide ((list2.length:Int)<writes4)then oB (j02 N out3 n3) fun r14=>(if room ([]:Z5).length r14.length 32 then some ((([]:Z5)++r14),n3)else none)else some (out3,n3)) N (writes3,(list++([(r10,(manifest++([101,110,100]:List UInt8)))]:Z5)),(list++([(r10,(manifest++([101,110,100]:List UInt8)))]:Z5)),((list++([(r10,(manifest++([101,110,100]:List UInt8)))]:Z5)).length:Int),(0:Int),out2,n2)else none else none) N (writes2,([]:Z5),([]:List UInt8),x6,(x6.length:Int),(0:Int),x4,x5,x6,out,n))else none else none) N (writes,(1:Int),d,x,x2,x3,(([]:Z5)++d),(1:Int))else none)
theorem j29 :mK 33 (bX [.agg [.pv Y17],.agg [.pv (.sl .str),.pv Y14,.pv Y0],pI] [.tup [.agg [.own 1 Y18 114 true],pI]] (c5A (i_DiskCommit_m N))):=
 mO (fC (j0P N) (fC (jIr N) (fC (j0B N) (fC (j0r N) (fC (jO0 N) (fC (jXI N) (fC (jZY N) (fC (j2A N) (fC (j3h N) ja))))))))) func33 rfl N (.seq .no (.seq .no (.seq .no (.seq .no (.seq (.seq .no (.block (.loop j26 .no))) (.seq .no (.seq .no (.seq .no (.seq (.seq .no (.block (.loop j2L .no))) (.seq .no (.seq (.seq .no (.block (.loop j3q .no))) .no))))))))))) _ (wr:=[29,32,59,83,84,103,104,138,141])
def j2j :Sh:=⟨.dead:: .dead:: .box 2 0:: .box 3 0:: .dead::pI::dz 25 [],[(2,false,[.pv Y17]),(3,false,[.pv Y17])]⟩
def j0V (h:Z5) (f:Z5):Z10:=
 (bif !decide ((h.length:Int)=(f.length:Int))then some false else iter (fun i (a,b,d)=>bif decide (a<(b.length:Int))then oB (idx b a) fun e=>(oB (idx d a) fun c=>bif !((decide (e.1=c.1))&&(decide (e.2=c.2)))then some false else if fits (a+1)then i ((a+1),b,d)else none)else some true) N ((0:Int),h,f))
theorem j18 :mK 35 (bX [.agg [.pv Y17],.agg [.pv Y17]] [pB] (c2A (j0V N))):=
 mO ja func35 rfl N (.seq .no (.seq .no (.seq (.seq .no (.block (.loop j2j .no))) .no))) _
noncomputable def l_FnDiskTear_m (f:List Int):Z10:=
 (bif decide ((1048576:Int)<f.length)then some true else oB (s_DrawDiskCommit_m N f) fun a=>oB (i_DiskCommit_m N a.1 a.2.1 a.2.2.1 a.2.2.2.1 a.2.2.2.2) fun c=>oB (s_DiskCommit_m N a.1 a.2.1 a.2.2.1 a.2.2.2.1 a.2.2.2.2) fun d=>bif !decide (c.2=d.2)then bif decide (c.2=d.2)then oB (j0V N c.1 d.1) fun m=>(some m)else(some false)else oB (j0V N c.1 d.1) fun n=>bif !n then bif decide (c.2=d.2)then oB (j0V N c.1 d.1) fun j=>(some j)else(some false)else bif decide (c.2<=0)then bif decide (c.2=d.2)then oB (j0V N c.1 d.1) fun i=>(some i)else(some false)else oB (i_DiskOpen_m N a.2.1 a.2.2.1 a.1) fun e=>oB (i_DiskOpen_m N a.2.1 a.2.2.1 c.1) fun b=>bif decide (b.2.2.2=e.2.2.2)then oB (l_foIndex_m N b.1 b.2.1 b.2.2.1 e.1 e.2.1 e.2.2.1) fun h=>(bif h then some true else bif decide (b.2.2.2=c.2)then oB (l_foIndex_m N b.1 b.2.1 b.2.2.1 a.2.1 a.2.2.1 a.2.2.2.1) fun k=>(some k)else some false)else bif decide (b.2.2.2=c.2)then oB (l_foIndex_m N b.1 b.2.1 b.2.2.1 a.2.1 a.2.2.1 a.2.2.2.1) fun l=>(some l)else some false)
noncomputable def j1w (N:Nat):Model:=⟨⟨[.pv (.sl (.int .u8))],[]⟩,⟨[pB],[]⟩,c1A (l_FnDiskTear_m N)⟩
theorem j2R :mK 8 (j1w N):=
 mO (fC (j3b N) (fC (j29 N) (fC (j1N N) (fC (j18 N) (fC (j0w N) (fC (jRf N) ja)))))) func8 rfl N .no (j1w N)
end Go.Proofs.YtcinmmojlcchfaaGreatDoor
