import Derived.Test.YtabhgjdikeipdaaGreatDoorG1A
set_option linter.unusedVariables false
set_option linter.unusedSimpArgs false
namespace Go.Proofs.YtabhgjdikeipdaaGreatDoor
open Go.RowKit Go.Proofs.Tryz
variable (N : Nat)
open Option renaming bind -> oB
def jtB :Sh:=⟨.pv Y25:: .pv Y25::dz 10 (pI::pI::dz 12 []),[]⟩
def jbX (b:List Int) (f:List Int):Z8:=
 (bif !decide ((b.length:Int)=(f.length:Int))then some false else iter (fun h (e,d,c,a)=>bif decide (a<c)then oB (idx e a) fun j=>(oB (idx d a) fun k=>bif !decide (j=k)then some false else if fits (a+1)then h (e,d,c,(a+1))else none)else some true) N (b,f,(b.length:Int),(0:Int)))
theorem jqi :mK 313 (bX [.pv Y25,.pv Y25] [pB] (c2A (jbX N))):=
 mO ja func313 rfl N (.seq .no (.seq .no (.seq (.seq .no (.block (.loop jtB .no))) .no))) _
def jcp (d:Int) (a:List Int) (c:Int) (e:List Int):Z8:=
 (bif decide (d=c)then oB (jbX N a e) fun b=>(some b)else some false)
theorem jth :mK 270 (bX [.agg [pI,.pv Y25],.agg [pI,.pv Y25]] [pB] (c4A (jcp N))):=
 mO (fC (jqi N) ja) func270 rfl N .no _
def jlX :Sh:=⟨.dead:: .pv Y15:: .clo 270 []::dz 12 (.pv Y15::pI::pI::dz 14 []),[]⟩
def jb6 (b:Z6) (d:Z6) (m:Unit):Z8:=
 (bif !decide ((b.length:Int)=(d.length:Int))then some false else iter (fun j (e,n,c,h,a)=>bif decide (a<h)then oB (idx c a) fun i=>(oB (idx e a) fun f=>oB (jcp N i.1 i.2 f.1 f.2) fun k=>bif !k then some false else if fits (a+1)then j (e,(),c,h,(a+1))else none)else some true) N (d,(),b,(b.length:Int),(0:Int)))
theorem jnG :mK 269 (bX [.pv Y15,.pv Y15,.clo 270 []] [pB] (c3A (jb6 N))):=
 mO (fC (jth N) ja) func269 rfl N (.seq .no (.seq .no (.seq (.seq .no (.block (.loop jlX .no))) .no))) _
def jcz (h:List UInt8) (f:List UInt8) (c:Z6) (b:List UInt8) (e:List UInt8) (d:Z6):Z8:=
 (bif decide (h=b)then bif decide (f=e)then oB (jb6 N c d ()) fun a=>(some a)else(some false)else some false)
theorem jp4 :mK 196 (bX [.agg [pS,pS,.pv Y15],.agg [pS,pS,.pv Y15]] [pB] (c6A (jcz N))):=
 mO (fC (jnG N) ja) func196 rfl N .no _
def jlD :Sh:=⟨.dead:: .pv Y6:: .clo 196 []::dz 12 (.pv Y6::pI::pI::dz 14 []),[]⟩
def jcn (b:List Z2) (f:List Z2) (m:Unit):Z8:=
 (bif !decide ((b.length:Int)=(f.length:Int))then some false else iter (fun j (h,n,e,i,a)=>bif decide (a<i)then oB (idx e a) fun d=>(oB (idx h a) fun c=>oB (jcz N d.1 d.2.1 d.2.2 c.1 c.2.1 c.2.2) fun k=>bif !k then some false else if fits (a+1)then j (h,(),e,i,(a+1))else none)else some true) N (f,(),b,(b.length:Int),(0:Int)))
theorem jsa :mK 195 (bX [.pv Y6,.pv Y6,.clo 196 []] [pB] (c3A (jcn N))):=
 mO (fC (jp4 N) ja) func195 rfl N (.seq .no (.seq .no (.seq (.seq .no (.block (.loop jlD .no))) .no))) _
def i_SegOk_m (a:List Z1) (b:List Z4) (c:List Z0) (e:List Z2):Z8:=
 (oB (jaj N a b) fun f=>bif !f then some false else oB (jbf N c) fun d=>bif !d then some false else oB (i_SegOf_m N a b c) fun h=>oB (jcn N h.2 e ()) fun i=>some i)
theorem joa :mK 123 (bX [.agg [.pv (.sl .str),.pv Y20],.agg [.pv Y4,.pv Y6]] [pB] (c4A (i_SegOk_m N))):=
 mO (fC (jdX N) (fC (jjU N) (fC (jqC N) (fC (jsa N) ja)))) func123 rfl N .no _
def jDT :Sh:=⟨.pv Y25::dz 4 (.pv Y25::pI::pI::dz 24 []),[]⟩
def jx1 (e:List Int):Z8:=
 (iter (fun f (b,d,c,a)=>bif decide (a<c)then oB (idx d a) fun h=>(oB (i_within_m N h 0 999999999) fun i=>bif !i then some false else bif decide ((0:Int)<a)then if fits (a-1)then oB (idx b (a-1)) fun k=>(bif decide (h<=k)then some false else if fits (a+1)then f (b,d,c,(a+1))else none)else none else if fits (a+1)then f (b,d,c,(a+1))else none)else some (decide ((b.length:Int)<=60))) N (e,e,(e.length:Int),(0:Int)))
theorem jAN :mK 124 (bX [.pv Y25] [pB] (c1A (jx1 N))):=
 mO (fC (jY N) ja) func124 rfl N (.seq .no (.seq (.seq .no (.block (.loop jDT .no))) .no)) _
def jqv :Sh:=⟨.dead::pI:: .dead:: .dead:: .box 4 0::dz 6 (.pv Y4::pI::pI::dz 10 []),[(4,false,[pI,.nils,.nils])]⟩
def i_Seg_doc_m (e:(List Z0)×(List Z2)) (k:Int):Option (Int×Z15×Z9×Bool):=
 (iter (fun h (f,d,c,b,i)=>bif decide (b<c)then oB (idx d b) fun a=>(bif decide (a.1=f)then some (a.1,a.2.1,a.2.2,true)else if fits (b+1)then h (f,d,c,(b+1),i)else none)else some (0,([]:Z16),([]:Z11),false)) N (k,e.1,(e.1.length:Int),(0:Int),(0:Int)))
theorem jlU :mK 125 (bX [.ptr Y3,pI] [.tup [.agg [pI,.pv Y23,.pv Y19],pB]] (c2A (i_Seg_doc_m N))):=
 mO ja func125 rfl N (.seq .no (.seq (.seq .no (.block (.loop jqv .no))) .no)) _
def jIP :Sh:=⟨.pv Y25::pI::dz 5 (pI::pI::dz 10 []),[]⟩
def jHJ (d:List Int) (j:Int):Z12:=
 (iter (fun f (b,c,e,a)=>bif decide (a<e)then oB (idx b a) fun i=>(bif decide (c=i)then some a else if fits (a+1)then f (b,c,e,(a+1))else none)else some (-1)) N (d,j,(d.length:Int),(0:Int)))
theorem jJu :mK 241 (bX [.pv Y25,pI] [pI] (c2A (jHJ N))):=
 mO ja func241 rfl N (.seq .no (.seq (.seq .no (.block (.loop jIP .no))) .no)) _
def jHG (a:List Int) (c:Int):Z8:=
 (oB (jHJ N a c) fun b=>some (decide ((0:Int)<=b)))
theorem jIT :mK 170 (bX [.pv Y25,pI] [pB] (c2A (jHG N))):=
 mO (fC (jJu N) ja) func170 rfl N .no _
def jIi :Sh:=⟨.dead:: .box 1 0:: .dead:: .own 600003 Y5 105 false::dz 5 (.pv Y4::pI::pI::dz 15 []),[(1,false,[.pv Y4,.pv Y6,.pv Y25])]⟩
def jHE (e:List Z0) (n:List Z2) (o:List Int):Z21:=
 (iter (fun i (b,c,h,a,k,j,d)=>bif decide (a<h)then oB (idx c a) fun f=>(oB (jHG N d f.1) fun l=>bif !l then if room b.length ([f]:List Z0).length 56 then if fits (a+1)then i ((b++([f]:List Z0)),c,h,(a+1),k,j,d)else none else none else if fits (a+1)then i (b,c,h,(a+1),k,j,d)else none)else some b) N (([]:List Z0),e,(e.length:Int),(0:Int),e,n,o))
theorem jH4 :mK 101 (bX [.agg [.pv Y4,.pv Y6,.pv Y25]] [.own 1 Y5 105 false] (c3A (jHE N))):=
 mO (fC (jIT N) ja) func101 rfl N (.seq .no (.seq .no (.seq (.seq .no (.block (.loop jIi .no))) .no))) _
def jIO :Sh:=⟨dz 3 (.box 3 0::dz 17 (.pv Y25::pI::pI::dz 16 [])),[(3,true,[.pv Y4,.pv Y6,.pv Y25])]⟩
def jHI (t:List Z1) (p:List Z4) (i:List Z0) (e:List Z2) (b:List Int):Z8:=
 (oB (i_SegOk_m N t p i e) fun r=>bif !r then some false else oB (jx1 N b) fun k=>bif !k then some false else iter (fun l (f,j,a,c,d,h)=>bif decide (a<j)then oB (idx f a) fun q=>(oB (i_Seg_doc_m N (c,d) q) fun m=>bif !m.2.2.2 then some false else if fits (a+1)then l (f,j,(a+1),c,d,h)else none)else oB (jHE N c d h) fun o=>some (decide ((0:Int)<o.length))) N (b,(b.length:Int),(0:Int),i,e,b))
theorem jJD :mK 51 (bX [.agg [.pv (.sl .str),.pv Y20],.agg [.pv Y4,.pv Y6,.pv Y25]] [pB] (c5A (jHI N))):=
 mO (fC (joa N) (fC (jAN N) (fC (jlU N) (fC (jH4 N) ja)))) func51 rfl N (.seq .no (.seq .no (.seq (.seq .no (.block (.loop jIO .no))) .no))) _
def i_allAlive_1_m (c:Int) (h:Z16) (d:Z11) (b:Int) (f:Z16) (e:Z11):Z12:=
 (oB (k_cmp_Compare_992_m N c b) fun a=>some a)
theorem jHC :mK 103 (bX [.agg [pI,.pv Y23,.pv Y19],.agg [pI,.pv Y23,.pv Y19]] [pI] (c6A (i_allAlive_1_m N))):=
 mO (fC (jpP N) ja) func103 rfl N .no _
def cmp669 (N:Nat):(Unit)->Z0->Z0->Option Int:=(fun(cmp:Unit) (e e2:Int×Z15×Z9)=>i_allAlive_1_m N e.1 e.2.1 e.2.2 e2.1 e2.2.1 e2.2.2)
def jIw :Sh:=⟨.mtk 800000 Y5 105 false::pI::pI:: .clo 103 []::dz 4 (pI::dz 44 []),[]⟩
def jJn :Sh:=⟨.mtk 800000 Y5 105 false::pI::pI:: .clo 103 []::dz 4 (pI::pI::dz 43 []),[]⟩
def jJk (c:List Z0) (b:Int) (a:Int) (d:Unit):Z21:=insG (cmp669 N) N c b a d
 
theorem jIC :mK 242 (bX [.mtk 800000 Y5 105 false,pI,pI,.clo 103 []] [.tup [],.mtk 800000 Y5 105 false] (c4A (jJk N))):=
 mO (fC (jHC N) ja) func242 rfl N (.seq .no (.block (.loop jIw (.seq .no (.seq (.block (.seq .no (.block (.loop jJn .no)))) .no))))) _ (rs:=[800000])
def jI7 :Sh:=⟨.mtk 800000 Y5 105 false:: .dead::pI::pI:: .clo 103 []::dz 5 (pI::dz 71 []),[]⟩
def jJE :Sh:=⟨.mtk 800000 Y5 105 false:: .dead::pI::pI:: .clo 103 []::dz 5 (pI::pI::dz 70 []),[]⟩
def jJr (a:List Z0) (e:Int) (c:Int) (b:Int) (d:Unit):Z21:=siftG (cmp669 N) N a e c b d
 
theorem jIA :mK 303 (bX [.mtk 800000 Y5 105 false,pI,pI,pI,.clo 103 []] [.tup [],.mtk 800000 Y5 105 false] (c5A (jJr N))):=
 mO (fC (jHC N) ja) func303 rfl N (.seq .no (.block (.loop jI7 (.block (.seq .no (.seq .no (.meet jJE .no .no))))))) _ (rs:=[800000])
def jH9 :Sh:=⟨.mtk 800000 Y5 105 false:: .dead:: .dead:: .clo 103 []::dz 4 (pI::pI::pI::pI::dz 48 []),[]⟩
def jIK :Sh:=⟨.mtk 800000 Y5 105 false:: .dead:: .dead:: .clo 103 []::dz 4 (pI::pI:: .dead:: .dead::pI::dz 47 []),[]⟩
def jIj (c:List Z0) (b:Int) (a:Int) (d:Unit):Z21:=heapG (cmp669 N) N c b a d
 
theorem jJa :mK 243 (bX [.mtk 800000 Y5 105 false,pI,pI,.clo 103 []] [.tup [],.mtk 800000 Y5 105 false] (c4A (jIj N))):=
 mO (fC (jIA N) ja) func243 rfl N (.seq .no (.seq .no (.seq .no (.seq (.seq .no (.block (.loop jH9 .no))) (.seq .no (.block (.loop jIK .no))))))) _ (rs:=[800000])
def jH6 :Sh:=⟨.mtk 800000 Y5 105 false::pI::dz 6 (pI:: .box 9 0:: .pv (.int .u64)::pI::dz 55 []),[(9,false,[.pv (.int .u64)])]⟩
def jJm :Sh:=⟨.mtk 800000 Y5 105 false::pI::dz 6 (pI:: .box 9 0:: .pv (.int .u64)::pI::pI::dz 54 []),[(9,false,[.pv (.int .u64)])]⟩
def jI4 (c:List Z0) (b:Int) (a:Int) (d:Unit):Z21:=breakG N c b a d
 
theorem jIs :mK 244 (bX [.mtk 800000 Y5 105 false,pI,pI,.clo 103 []] [.tup [],.mtk 800000 Y5 105 false] (c4A (jI4 N))):=
 mO (fC (jhv N) (fC (jet N) ja)) func244 rfl N (.seq .no (.seq .no (.cond (.seq .no (.seq .no (.seq .no (.block (.loop jH6 (.seq .no (.seq (.block (.seq .no (.meet jJm .no .no))) .no))))))) .no))) _ (rs:=[800000])
def jJC (c:List Z0) (b:Int) (a:Int) (d:Unit) (e:Int):Option (Int×Int×(List Z0)×Int):=order2G (cmp669 N) N c b a d e
 
theorem jIo :mK 336 ⟨⟨[.mtk 800000 Y5 105 false,pI,pI,.box 900003 0,.clo 103 []],[(900003,false,[pI])]⟩,⟨[.tup [pI,pI],.mtk 800000 Y5 105 false],[(900003,false,[pI])]⟩,c5A (jJC N)⟩:=
 mO (fC (jHC N) ja) func336 rfl N .no _ (rs:=[900003,800000])
def jII (d:List Z0) (c:Int) (b:Int) (a:Int) (e:Unit) (f:Int):Option (Int×(List Z0)×Int):=medianG (cmp669 N) N d c b a e f
 
theorem jHQ :mK 305 ⟨⟨[.mtk 800000 Y5 105 false,pI,pI,pI,.box 900004 0,.clo 103 []],[(900004,false,[pI])]⟩,⟨[pI,.mtk 800000 Y5 105 false],[(900004,false,[pI])]⟩,c6A (jII N)⟩:=
 mO (fC (jIo N) ja) func305 rfl N .no _ (rs:=[900004,800000])
def jIn (c:List Z0) (b:Int) (d:Unit) (a:Int):Option (Int×(List Z0)×Int):=medianAdjacentG (cmp669 N) N c b d a
 
theorem jI9 :mK 304 ⟨⟨[.mtk 800000 Y5 105 false,pI,.box 900002 0,.clo 103 []],[(900002,false,[pI])]⟩,⟨[pI,.mtk 800000 Y5 105 false],[(900002,false,[pI])]⟩,c4A (jIn N)⟩:=
 mO (fC (jHQ N) ja) func304 rfl N .no _ (rs:=[900002,800000])
def jJw :Sh:=⟨.mtk 800000 Y5 105 false:: .dead:: .dead:: .clo 103 []::dz 7 (.box 11 0::pI::pI::pI::dz 48 []),[(11,false,[pI])]⟩
def jI6 :Sh:=⟨.mtk 800000 Y5 105 false::dz 10 (.box 11 0:: .dead::pI::dz 49 []),[(11,false,[pI])]⟩
def jIq (c:List Z0) (b:Int) (a:Int) (d:Unit):Option (Int×Int×(List Z0)):=choosePivotG (cmp669 N) N c b a d
 
theorem jJz :mK 245 (bX [.mtk 800000 Y5 105 false,pI,pI,.clo 103 []] [.tup [pI,pI],.mtk 800000 Y5 105 false] (c4A (jIq N))):=
 mO (fC (jI9 N) (fC (jHQ N) ja)) func245 rfl N (.seq .no (.seq .no (.seq .no (.seq .no (.seq .no (.seq .no (.meet jI6 (.seq .no (.cond (.meet jJw .no .no) .no)) .no))))))) _ (rs:=[800000])
def jJB :Sh:=⟨.mtk 800000 Y5 105 false::dz 7 (pI::pI::dz 24 []),[]⟩
def jJs (c:List Z0) (b:Int) (a:Int) (d:Unit):Z21:=reverseRangeG N c b a d
 
theorem jIk :mK 246 (bX [.mtk 800000 Y5 105 false,pI,pI,.clo 103 []] [.tup [],.mtk 800000 Y5 105 false] (c4A (jJs N))):=
 mO ja func246 rfl N (.seq .no (.seq .no (.block (.loop jJB .no)))) _ (rs:=[800000])
def jHL :Sh:=⟨.mtk 800000 Y5 105 false::pI::pI:: .clo 103 []::dz 5 (pI::pI::dz 130 []),[]⟩
def jJh :Sh:=⟨.mtk 800000 Y5 105 false::pI::pI:: .clo 103 []::dz 5 (pI::pI::pI::dz 129 []),[]⟩
def jIF :Sh:=⟨.mtk 800000 Y5 105 false::pI::pI:: .clo 103 []::dz 5 (pI::pI:: .dead::pI::dz 128 []),[]⟩
def jIx (c:List Z0) (b:Int) (a:Int) (d:Unit):Option (Bool×(List Z0)):=pisG (cmp669 N) N c b a d
 
theorem jI1 :mK 247 (bX [.mtk 800000 Y5 105 false,pI,pI,.clo 103 []] [pB,.mtk 800000 Y5 105 false] (c4A (jIx N))):=
 mO (fC (jHC N) ja) func247 rfl N (.seq .no (.seq .no (.seq (.seq .no (.block (.loop jHL (.seq .no (.seq (.block (.seq (.block (.loop jHL .no)) (.seq .no (.seq .no (.seq .no (.meet jHL (.seq .no (.cond (.seq .no (.block (.loop jJh .no))) .no)) (.seq .no (.cond (.seq .no (.block (.loop jIF .no))) .no)))))))) .no))))) .no))) _ (rs:=[800000])
def jHK :Sh:=⟨.mtk 800000 Y5 105 false::pI:: .dead:: .dead:: .clo 103 []::dz 6 (pI::pI::dz 77 []),[]⟩
def jIh (c:List Z0) (b:Int) (a:Int) (d:Int) (e:Unit):Option (Int×(List Z0)):=peqG (cmp669 N) N c b a d e
 
theorem jH7 :mK 248 (bX [.mtk 800000 Y5 105 false,pI,pI,pI,.clo 103 []] [pI,.mtk 800000 Y5 105 false] (c5A (jIh N))):=
 mO (fC (jHC N) ja) func248 rfl N (.seq .no (.seq .no (.seq .no (.seq (.block (.loop jHK (.block (.seq (.block (.loop jHK .no)) (.seq (.block (.loop jHK .no)) .no))))) .no)))) _ (rs:=[800000])
def jHD :Sh:=⟨.mtk 800000 Y5 105 false::pI:: .dead:: .dead:: .clo 103 []::dz 7 (pI::pI::dz 164 []),[]⟩
def jIZ (c:List Z0) (b:Int) (a:Int) (d:Int) (e:Unit):Option (Int×Bool×(List Z0)):=partG (cmp669 N) N c b a d e
 
theorem jJc :mK 249 (bX [.mtk 800000 Y5 105 false,pI,pI,pI,.clo 103 []] [.tup [pI,pB],.mtk 800000 Y5 105 false] (c5A (jIZ N))):=
 mO (fC (jHC N) ja) func249 rfl N (.seq .no (.seq .no (.seq .no (.seq (.block (.loop jHD .no)) (.seq (.block (.loop jHD .no)) (.seq .no (.seq .no (.seq .no (.seq .no (.seq (.block (.loop jHD (.block (.seq (.block (.loop jHD .no)) (.seq (.block (.loop jHD .no)) .no))))) .no)))))))))) _ (rs:=[800000])
def jIv :Sh:=⟨.mtk 800000 Y5 105 false::pI::pI::pI:: .clo 103 []::dz 5 (pB::pB::dz 136 []),[]⟩
def jIt :Sh:=⟨.mtk 800000 Y5 105 false::pI::pI::pI:: .clo 103 []::dz 5 (pB::pB::pI::pI::dz 134 []),[]⟩
def jIU :Sh:=⟨.mtk 800000 Y5 105 false::pI::pI::pI:: .clo 103 []::dz 5 (pB::pB::pI::pI::pI::dz 133 []),[]⟩
def jID :Sh:=⟨.mtk 800000 Y5 105 false::pI::pI::pI:: .clo 103 []::dz 5 (pB::pB::pI::dz 135 []),[]⟩
def jHN (N D:Nat) (h:List Z0) (b a limit:Int) (e:Unit):Z21:=pdqG (cmp669 N) (fun d b a c=>heapG (cmp669 N) N d b a c) (fun d b a f c=>peqG (cmp669 N) N d b a f c) N D h b a limit e
 
def jHF (N D:Nat):Model:=⟨⟨[.mtk 800000 Y5 105 false,pI,pI,pI,.clo 103 []],[]⟩,⟨[.tup [],.mtk 800000 Y5 105 false],[]⟩,c5A (jHN N D)⟩
theorem jJo (N D:Nat) (ih:mK 171 (jHF N D)):mK 171 (jHF N (D+1)):=
 mO (fC ih (fC (jIC N) (fC (jJa N) (fC (jIs N) (fC (jJz N) (fC (jIk N) (fC (jI1 N) (fC (jHC N) (fC (jH7 N) (fC (jJc N) ja)))))))))) func171 rfl N (.seq .no (.seq .no (.block (.loop jIv (.block (.seq .no (.seq .no (.seq .no (.meet jID .no (.seq .no (.meet jIU .no (.meet jIt .no .no)))))))))))) (jHF N (D+1)) (rs:=[800000])
theorem jHV (N:Nat):∀D,mK 171 (jHF N D)
 |0=>modelOk_none ⟨_,func171,by decide,by kernel_rfl⟩ _ (fun a=>rfl)
 |D+1=>jJo N D (jHV N D)
def k_slices_SortFunc_669_m (a:List Z0) (d:Unit):Z21:=
 (oB (k_math_bits_Len_m N (IntKind.u64.wrap (a.length:Int))) fun c=>oB (jHN N N a 0 (a.length:Int) c ()) fun b=>some b)
theorem jIu :mK 102 (bX [.mtk 800000 Y5 105 false,.clo 103 []] [.tup [],.mtk 800000 Y5 105 false] (c2A (k_slices_SortFunc_669_m N))):=
 mO (fC (jda N) (fC (jHV N N) ja)) func102 rfl N .no _ (rs:=[800000])
def jH5 :Sh:=⟨dz 3 (.mtk 600003 Y5 105 false::dz 3 (.pv Y1::pI::pI::dz 11 [])),[]⟩
def i_allAlive_m (d:List Z7):Z21:=
 (iter (fun j (b,f,h,a)=>bif decide (a<h)then oB (idx f a) fun c=>(oB (jHE N c.1.1 c.1.2 c.2) fun e=>if room b.length e.length 56 then if fits (a+1)then j ((b++e),f,h,(a+1))else none else none)else oB (k_slices_SortFunc_669_m N b ()) fun i=>some i) N (([]:List Z0),d,(d.length:Int),(0:Int)))
theorem jHR :mK 43 (bX [.pv Y1] [.own 1 Y5 105 false] (c1A (i_allAlive_m N))):=
 mO (fC (jH4 N) (fC (jIu N) ja)) func43 rfl N (.seq .no (.seq .no (.seq (.seq .no (.block (.loop jH5 .no))) .no))) _ (wr:=[6,16])
def jIf :Sh:=⟨.dead:: .box 1 0::dz 14 (.pv Y1::pI::pI::dz 13 []),[(1,false,[.pv (.sl .str),.pv Y20,.pv Y1])]⟩
def i_IndexOk_m (j:List Z1) (e:List Z4) (b:List Z7):Z8:=
 (oB (jaj N j e) fun n=>bif !n then some false else bif decide ((5:Int)<b.length)then some false else iter (fun m (k,h,a,d,i,f)=>bif decide (a<h)then oB (idx k a) fun c=>(oB (jHI N d i c.1.1 c.1.2 c.2) fun l=>bif !l then some false else if fits (a+1)then m (k,h,(a+1),d,i,f)else none)else oB (i_allAlive_m N f) fun o=>oB (jbf N o) fun p=>some p) N (b,(b.length:Int),(0:Int),j,e,b))
theorem jIr :mK 10 (bX [.agg [.pv (.sl .str),.pv Y20,.pv Y1]] [pB] (c3A (i_IndexOk_m N))):=
 mO (fC (jdX N) (fC (jJD N) (fC (jHR N) (fC (jjU N) ja)))) func10 rfl N (.seq .no (.seq .no (.seq (.seq .no (.block (.loop jIf .no))) .no))) _
def jDx :Sh:=⟨pS::dz 4 (pI::pI::dz 23 []),[]⟩
def jxV (e:List UInt8):Z8:=
 (iter (fun d (b,c,a)=>bif decide (a<c)then oB (idx b a) fun i=>(oB (jaw N (i.toNat:Int)) fun h=>bif !h then oB (idx b a) fun k=>(bif !decide ((k.toNat:Int)=42)then oB (idx b a) fun l=>(bif !decide ((l.toNat:Int)=63)then some false else if fits (a+1)then d (b,c,(a+1))else none)else if fits (a+1)then d (b,c,(a+1))else none)else if fits (a+1)then d (b,c,(a+1))else none)else oB (i_within_m N (b.length:Int) 1 12) fun f=>some f) N (e,(e.length:Int),(0:Int)))
theorem jz9 :mK 144 (bX [pS] [pB] (c1A (jxV N))):=
 mO (fC (jeK N) (fC (jY N) ja)) func144 rfl N (.seq .no (.seq (.seq .no (.block (.loop jDx .no))) .no)) _
def jBs :Sh:=⟨.dead::pI:: .box 2 0::dz 90 (.pv (.sl .str)::pI::pI::dz 39 []),[(2,false,[pI,pS,.pv (.sl .str),pI,pI,.pv (.sl .q)])]⟩
def jC6 :Sh:=⟨.dead::pI::dz 121 (.pv (.sl .q)::pI::pI::dz 9 []),[]⟩
def jDY :Sh:=⟨.dead::pI:: .box 2 0::dz 132 [],[(2,false,[pI,pS,.pv (.sl .str),pI,pI,.pv (.sl .q)])]⟩
def jzZ :Sh:=⟨.dead::pI:: .box 2 0:: .dead:: .dead:: .box 5 0::dz 129 [],[(2,false,[pI,pS,.pv (.sl .str),pI,pI,.pv (.sl .q)]),(5,false,[pB,pI,pI,pI,pI,pB,pI,pI])]⟩
def jxE (N:Nat):(D:Nat)->Int->Z1->(List Z1)->Int->Int->(List DQ)->Int->Z8
 |0,_,_,_,_,_,_,_=>none
 |D+1,q,q2,q3,q4,q5,q6,deep=>
 meet (fun(g:Z24)=>
 match g with
 |(deep2,q7,q8,q9,q10,q11,q12,x,x2,x3,x4,x5,x6,x7,x8)=>
 meet (fun(g:Z24)=>
 match g with
 |(deep3,q13,q14,q15,q16,q17,q18,x9,x10,x11,x12,x13,x14,x15,x16)=>
 meet (fun(g:Int×Int×Z1×(List Z1)×Int×Int×(List DQ))=>
 match g with
 |(deep4,q19,q20,q21,q22,q23,q24)=>
 iter (fun go (g:Int×(List Z1)×Int×Int×Int×Z1×(List Z1)×Int×Int×(List DQ))=>
 match g with
 |(deep5,t93,t94,t95,q25,q26,q27,q28,q29,q30)=>
 bif decide (t95<t94)then
 oB (idx t93 t95) fun e=>
 (bif decide (q25=5)then
 oB (jxV N e) fun r6=>
 (bif !r6 then
 some false
 else
 oB (jO N e) fun r7=>
 bif r7 then
 some false
 else
 bif !decide (q25=5)then
 oB (jO N e) fun r8=>
 (bif !r8 then
 some false
 else
 if fits (t95+1)then go (deep5,t93,t94,(t95+1),q25,q26,q27,q28,q29,q30)else none)
 else
 if fits (t95+1)then go (deep5,t93,t94,(t95+1),q25,q26,q27,q28,q29,q30)else none)
 else
 bif !decide (q25=5)then
 oB (jO N e) fun r9=>
 (bif !r9 then
 some false
 else
 if fits (t95+1)then go (deep5,t93,t94,(t95+1),q25,q26,q27,q28,q29,q30)else none)
 else
 if fits (t95+1)then go (deep5,t93,t94,(t95+1),q25,q26,q27,q28,q29,q30)else none)
 else
 iter (fun go2 (g:Int×(List DQ)×Int×Int)=>
 match g with
 |(deep6,t123,t124,t125)=>
 bif decide (t125<t124)then
 oB (idx t123 t125) fun e2=>
 (if fits (deep6-1)then oB (jxE N D e2.kind e2.field e2.words e2.lo e2.hi e2.kids (deep6-1)) fun r10=>
 (bif !r10 then
 some false
 else
 if fits (t125+1)then go2 (deep6,t123,t124,(t125+1))else none)else none)
 else
 some true) N (deep5,q30,(q30.length:Int),0)) N (deep4,q21,(q21.length:Int),0,q19,q20,q21,q22,q23,q24)) fun J3=>
 bif x14 then
 oB (i_within_m N q17 q16 999999999) fun r5=>
 (bif !r5 then
 some false
 else
 bif !x14 then
 bif !decide (q17=0)then
 some false
 else
 (J3 (deep3,q13,q14,q15,q16,q17,q18))
 else
 J3 (deep3,q13,q14,q15,q16,q17,q18))
 else
 bif !x14 then
 bif !decide (q17=0)then
 some false
 else
 (J3 (deep3,q13,q14,q15,q16,q17,q18))
 else
 J3 (deep3,q13,q14,q15,q16,q17,q18)) fun J2=>
 oB (i_within_m N (q9.length:Int) x2 x3) fun r2=>
 bif !r2 then
 some false
 else
 oB (i_within_m N (q12.length:Int) x7 x8) fun r3=>
 bif !r3 then
 some false
 else
 oB (i_within_m N q10 x4 x5) fun r4=>
 bif !r4 then
 some false
 else
 J2 (deep2,q7,q8,q9,q10,q11,q12,x,x2,x3,x4,x5,x6,x7,x8)) fun J=>
 bif !((mget tI (.pair .bool (.pair tI (.pair tI (.pair tI (.pair tI (.pair .bool Y18)))))) gm_shapes q).isSome)then
 some false
 else
 bif decide (deep<1)then
 some false
 else
 bif !((((mget tI (.pair .bool (.pair tI (.pair tI (.pair tI (.pair tI (.pair .bool Y18)))))) gm_shapes q).getD (false,(0,(0,(0,(0,(false,(0,0)))))))).1)==(!decide (q2=([]:List UInt8))))then
 some false
 else
 bif((mget tI (.pair .bool (.pair tI (.pair tI (.pair tI (.pair tI (.pair .bool Y18)))))) gm_shapes q).getD (false,(0,(0,(0,(0,(false,(0,0)))))))).1 then
 oB (jO N q2) fun r=>
 (bif !r then
 some false
 else
 J (deep,q,q2,q3,q4,q5,q6,((mget tI (.pair .bool (.pair tI (.pair tI (.pair tI (.pair tI (.pair .bool Y18)))))) gm_shapes q).getD (false,(0,(0,(0,(0,(false,(0,0)))))))).1,(((mget tI (.pair .bool (.pair tI (.pair tI (.pair tI (.pair tI (.pair .bool Y18)))))) gm_shapes q).getD (false,(0,(0,(0,(0,(false,(0,0)))))))).2).1,((((mget tI (.pair .bool (.pair tI (.pair tI (.pair tI (.pair tI (.pair .bool Y18)))))) gm_shapes q).getD (false,(0,(0,(0,(0,(false,(0,0)))))))).2).2).1,(((((mget tI (.pair .bool (.pair tI (.pair tI (.pair tI (.pair tI (.pair .bool Y18)))))) gm_shapes q).getD (false,(0,(0,(0,(0,(false,(0,0)))))))).2).2).2).1,((((((mget tI (.pair .bool (.pair tI (.pair tI (.pair tI (.pair tI (.pair .bool Y18)))))) gm_shapes q).getD (false,(0,(0,(0,(0,(false,(0,0)))))))).2).2).2).2).1,(((((((mget tI (.pair .bool (.pair tI (.pair tI (.pair tI (.pair tI (.pair .bool Y18)))))) gm_shapes q).getD (false,(0,(0,(0,(0,(false,(0,0)))))))).2).2).2).2).2).1,((((((((mget tI (.pair .bool (.pair tI (.pair tI (.pair tI (.pair tI (.pair .bool Y18)))))) gm_shapes q).getD (false,(0,(0,(0,(0,(false,(0,0)))))))).2).2).2).2).2).2).1,((((((((mget tI (.pair .bool (.pair tI (.pair tI (.pair tI (.pair tI (.pair .bool Y18)))))) gm_shapes q).getD (false,(0,(0,(0,(0,(false,(0,0)))))))).2).2).2).2).2).2).2))
 else
 J (deep,q,q2,q3,q4,q5,q6,((mget tI (.pair .bool (.pair tI (.pair tI (.pair tI (.pair tI (.pair .bool Y18)))))) gm_shapes q).getD (false,(0,(0,(0,(0,(false,(0,0)))))))).1,(((mget tI (.pair .bool (.pair tI (.pair tI (.pair tI (.pair tI (.pair .bool Y18)))))) gm_shapes q).getD (false,(0,(0,(0,(0,(false,(0,0)))))))).2).1,((((mget tI (.pair .bool (.pair tI (.pair tI (.pair tI (.pair tI (.pair .bool Y18)))))) gm_shapes q).getD (false,(0,(0,(0,(0,(false,(0,0)))))))).2).2).1,(((((mget tI (.pair .bool (.pair tI (.pair tI (.pair tI (.pair tI (.pair .bool Y18)))))) gm_shapes q).getD (false,(0,(0,(0,(0,(false,(0,0)))))))).2).2).2).1,((((((mget tI (.pair .bool (.pair tI (.pair tI (.pair tI (.pair tI (.pair .bool Y18)))))) gm_shapes q).getD (false,(0,(0,(0,(0,(false,(0,0)))))))).2).2).2).2).1,(((((((mget tI (.pair .bool (.pair tI (.pair tI (.pair tI (.pair tI (.pair .bool Y18)))))) gm_shapes q).getD (false,(0,(0,(0,(0,(false,(0,0)))))))).2).2).2).2).2).1,((((((((mget tI (.pair .bool (.pair tI (.pair tI (.pair tI (.pair tI (.pair .bool Y18)))))) gm_shapes q).getD (false,(0,(0,(0,(0,(false,(0,0)))))))).2).2).2).2).2).2).1,((((((((mget tI (.pair .bool (.pair tI (.pair tI (.pair tI (.pair tI (.pair .bool Y18)))))) gm_shapes q).getD (false,(0,(0,(0,(0,(false,(0,0)))))))).2).2).2).2).2).2).2)
def jyl (N D:Nat):Model:=⟨⟨[.agg [pI,pS,.pv (.sl .str),pI,pI,.pv (.sl .q)],pI],[]⟩,⟨[pB],[]⟩,c7A (jxE N D)⟩
theorem jAF (N D:Nat) (ih:mK 72 (jyl N D)):mK 72 (jyl N (D+1)):=
 mO (fC ih (fC (jcM N) (fC (jY N) (fC (jz9 N) ja)))) func72 rfl N (.seq .no (.seq .no (.meet jzZ .no (.meet jzZ .no (.meet jDY .no (.seq (.seq .no (.block (.loop jBs .no))) (.seq (.seq .no (.block (.loop jC6 .no))) .no))))))) (jyl N (D+1))
theorem jzh (N:Nat):∀D,mK 72 (jyl N D)
 |0=>modelOk_none ⟨_,func72,by decide,by kernel_rfl⟩ _ (fun a=>rfl)
 |D+1=>jAF N D (jzh N D)
def i_QueryOk_m (d:Int) (c:List UInt8) (f:List Z1) (e:Int) (h:Int) (a:List DQ):Z8:=
 (oB (jxE N N d c f e h a 4) fun b=>some b)
theorem jCN :mK 18 (bX [.agg [pI,pS,.pv (.sl .str),pI,pI,.pv (.sl .q)]] [pB] (c6A (i_QueryOk_m N))):=
 mO (fC (jzh N N) ja) func18 rfl N .no _
def jyu (N:Nat) (a:List Z1) (b:List UInt8):Option (Z1):=jxR a b
 
def jBB (N:Nat):Model:=⟨⟨[.pv (.sl .str),pS],[]⟩,⟨[pS],[]⟩,c2A (jyu N)⟩
theorem jBE :mK 146 (jBB N):=jBz
def jOm (N:Nat) (a:Int):Option (Z1):=jOn a
 
def jOU (N:Nat):Model:=⟨⟨[pI],[]⟩,⟨[pS],[]⟩,c1A (jOm N)⟩
theorem jO0 :mK 147 (jOU N):=jPp
def jO5 :Sh:=⟨.dead:: .box 1 0::dz 5 (pI:: .dead:: .dead::pB::dz 82 []),[(1,false,[pI,pS,.pv (.sl .str),pI,pI,.pv (.sl .q)])]⟩
def jPe :Sh:=⟨dz 3 (pS::dz 75 (.pv (.sl .q)::pI::pI::dz 11 [])),[]⟩
def jOW :Sh:=⟨.dead:: .box 1 0:: .dead::pS::dz 89 [],[(1,false,[pI,pS,.pv (.sl .str),pI,pI,.pv (.sl .q)])]⟩
def i_Query_text_m (N:Nat):(D:Nat)->Int->Z1->(List Z1)->Int->Int->(List DQ)->Option (Z1)
 |0,_,_,_,_,_,_=>none
 |D+1,q,q2,q3,q4,q5,q6=>
 bif decide (q=1)then
 some ([97,108,108]:List UInt8)
 else
 meet (fun(g:Int×Bool×Int×Z1×(List Z1)×Int×Int×(List DQ))=>
 match g with
 |(t7,t10,q7,q8,q9,q10,q11,q12)=>
 bif t10 then
 if q8.length+([58]:List UInt8).length<=9223372036854775807 then
 oB (idx q9 0) fun e=>
 (if(q8++([58]:List UInt8)).length+e.length<=9223372036854775807 then
 some ((q8++([58]:List UInt8))++e)
 else none)
 else none
 else
 bif decide (t7=3)then
 if q8.length+([58]:List UInt8).length<=9223372036854775807 then
 oB (jyu N q9 ([43]:List UInt8)) fun r=>
 (if(q8++([58]:List UInt8)).length+r.length<=9223372036854775807 then
 if((q8++([58]:List UInt8))++r).length+([126]:List UInt8).length<=9223372036854775807 then
 oB (jOm N q10) fun r2=>
 (if(((q8++([58]:List UInt8))++r)++([126]:List UInt8)).length+r2.length<=9223372036854775807 then
 some ((((q8++([58]:List UInt8))++r)++([126]:List UInt8))++r2)
 else none)
 else none
 else none)
 else none
 else
 bif decide (t7=4)then
 if q8.length+([58]:List UInt8).length<=9223372036854775807 then
 oB (idx q9 0) fun e2=>
 (if(q8++([58]:List UInt8)).length+e2.length<=9223372036854775807 then
 if((q8++([58]:List UInt8))++e2).length+([37]:List UInt8).length<=9223372036854775807 then
 oB (jOm N q10) fun r3=>
 (if(((q8++([58]:List UInt8))++e2)++([37]:List UInt8)).length+r3.length<=9223372036854775807 then
 some ((((q8++([58]:List UInt8))++e2)++([37]:List UInt8))++r3)
 else none)
 else none
 else none)
 else none
 else
 bif decide (t7=6)then
 if q8.length+([61]:List UInt8).length<=9223372036854775807 then
 oB (jOm N q10) fun r4=>
 (if(q8++([61]:List UInt8)).length+r4.length<=9223372036854775807 then
 if((q8++([61]:List UInt8))++r4).length+([46,46]:List UInt8).length<=9223372036854775807 then
 oB (jOm N q11) fun r5=>
 (if(((q8++([61]:List UInt8))++r4)++([46,46]:List UInt8)).length+r5.length<=9223372036854775807 then
 some ((((q8++([61]:List UInt8))++r4)++([46,46]:List UInt8))++r5)
 else none)
 else none
 else none)
 else none
 else
 if([40]:List UInt8).length+((mget tI .str gm_opNames q7).getD ([]:List UInt8)).length<=9223372036854775807 then
 meet (fun(g:Z1×Int×Z1×(List Z1)×Int×Int×(List DQ))=>
 match g with
 |(out,q13,q14,q15,q16,q17,q18)=>
 iter (fun go (g:Z1×(List DQ)×Int×Int)=>
 match g with
 |(out2,t79,t80,t81)=>
 bif decide (t81<t80)then
 oB (idx t79 t81) fun e3=>
 (oB (i_Query_text_m N D e3.kind e3.field e3.words e3.lo e3.hi e3.kids) fun r7=>
 if([32]:List UInt8).length+r7.length<=9223372036854775807 then
 if out2.length+(([32]:List UInt8)++r7).length<=9223372036854775807 then
 if fits (t81+1)then go ((out2++(([32]:List UInt8)++r7)),t79,t80,(t81+1))else none
 else none
 else none)
 else
 if out2.length+([41]:List UInt8).length<=9223372036854775807 then
 some (out2++([41]:List UInt8))
 else none) N (out,q18,(q18.length:Int),0)) fun J2=>
 (bif decide (q7=10)then
 oB (jOm N q10) fun r6=>
 (if([32]:List UInt8).length+r6.length<=9223372036854775807 then
 if(([40]:List UInt8)++((mget tI .str gm_opNames q7).getD ([]:List UInt8))).length+(([32]:List UInt8)++r6).length<=9223372036854775807 then
 J2 (((([40]:List UInt8)++((mget tI .str gm_opNames q7).getD ([]:List UInt8)))++(([32]:List UInt8)++r6)),q7,q8,q9,q10,q11,q12)
 else none
 else none)
 else
 J2 ((([40]:List UInt8)++((mget tI .str gm_opNames q7).getD ([]:List UInt8))),q7,q8,q9,q10,q11,q12))
 else none) fun J=>
 bif decide (q=2)then
 J (q,true,q,q2,q3,q4,q5,q6)
 else
 J (q,(decide (q=5)),q,q2,q3,q4,q5,q6)
def jOr (N D:Nat):Model:=⟨⟨[.agg [pI,pS,.pv (.sl .str),pI,pI,.pv (.sl .q)]],[]⟩,⟨[pS],[]⟩,c6A (i_Query_text_m N D)⟩
theorem jOY (N D:Nat) (ih:mK 76 (jOr N D)):mK 76 (jOr N (D+1)):=
 mO (fC ih (fC (jBE N) (fC (jO0 N) ja))) func76 rfl N (.seq .no (.seq (.seq .no (.block (.seq .no (.cond .no (.meet jO5 .no .no))))) (.seq .no (.meet jOW .no (.seq (.seq .no (.block (.loop jPe .no))) .no))))) (jOr N (D+1))
theorem jOz (N:Nat):∀D,mK 76 (jOr N D)
 |0=>modelOk_none ⟨_,func76,by decide,by kernel_rfl⟩ _ (fun a=>rfl)
 |D+1=>jOY N D (jOz N D)
def i_QueryPut_m (c:Int) (b:List UInt8) (e:List Z1) (d:Int) (f:Int) (a:List DQ):Option (Z1):=
 (oB (i_QueryOk_m N c b e d f a) fun i=>bif !i then some ([]:List UInt8)else oB (i_Query_text_m N N c b e d f a) fun h=>some h)
theorem jOC :mK 21 (bX [.agg [pI,pS,.pv (.sl .str),pI,pI,.pv (.sl .q)]] [pS] (c6A (i_QueryPut_m N))):=
 mO (fC (jCN N) (fC (jOz N N) ja)) func21 rfl N .no _
def jOI :Sh:=⟨.dead::pS::dz 3 (.mtk 600005 Y13 128 true::dz 4 (.pv Y11::pI::pI::dz 19 [])),[]⟩
def i_Cache_without_m (l:Int) (m:Int) (i:List Z3) (k:List UInt8):Option ((List Z3)):=
 (iter (fun h (d,c,f,e,a)=>bif decide (a<e)then oB (idx f a) fun b=>(bif !decide (b.1=d)then if room ([]:Z5).length b.2.length 16 then if room c.length ([(b.1,(([]:Z5)++b.2))]:List Z3).length 40 then if fits (a+1)then h (d,(c++([(b.1,(([]:Z5)++b.2))]:List Z3)),f,e,(a+1))else none else none else none else if fits (a+1)then h (d,c,f,e,(a+1))else none)else some c) N (k,([]:List Z3),i,(i.length:Int),(0:Int)))
theorem jOy :mK 75 (bX [.agg [pI,pI,.pv Y11],pS] [.mtk 1 Y13 128 true] (c4A (i_Cache_without_m N))):=
 mO ja func75 rfl N (.seq .no (.seq .no (.seq (.seq .no (.block (.loop jOI .no))) .no))) _ (wr:=[8,28,29])
def i_CacheGet_m (b:Int) (a:Int) (c:List Z3) (e:List UInt8) (k:Int):Z22:=
 (oB (i_CacheOk_m N b a c) fun i=>bif !i then some (0,0,([]:List Z3),([]:Z5),false)else oB (i_Cache_find_m N b a c e) fun f=>bif !decide (k=a)then oB (i_Cache_without_m N b a c ([]:List UInt8)) fun j=>(some (b,a,j,([]:Z5),false))else bif decide (f<0)then oB (i_Cache_without_m N b a c ([]:List UInt8)) fun l=>(some (b,a,l,([]:Z5),false))else oB (idx c f) fun d=>if room ([]:Z5).length d.2.length 16 then oB (i_Cache_without_m N b a c e) fun h=>(if room ([(e,(([]:Z5)++d.2))]:List Z3).length h.length 40 then if room ([]:Z5).length d.2.length 16 then some (b,a,(([(e,(([]:Z5)++d.2))]:List Z3)++h),(([]:Z5)++d.2),true)else none else none)else none)
theorem jOH :mK 20 (bX [.agg [pI,pI,.pv Y11],pS,pI] [.tup [.agg [pI,pI,.own 1 Y13 128 true],.own 2 Y18 93 true,pB]] (c5A (i_CacheGet_m N))):=
 mO (fC (jOo N) (fC (jOF N) (fC (jOy N) ja))) func20 rfl N .no _
def jyc (e:List Z1) (c:List Z4) (b:List UInt8):Option (Z1):=
 (oB (jO N b) fun d=>bif !d then some ([]:List UInt8)else oB (jbw N e c b) fun a=>bif decide ((a.length:Int)=0)then some ([]:List UInt8)else oB (idx a 0) fun f=>some f.1)
theorem jBn :mK 199 (bX [.agg [.pv (.sl .str),.pv Y20],pS] [pS] (c3A (jyc N))):=
 mO (fC (jcM N) (fC (jgO N) ja)) func199 rfl N .no _
def jnu :Sh:=⟨.dead::pS::pS::dz 9 (.pv Y6::pI::pI::dz 16 []),[]⟩
def i_Seg_posts_m (i:(List Z0)×(List Z2)) (j:List UInt8) (l:List UInt8):Option (Z14):=
 (iter (fun h (d,c,b,f,a)=>bif decide (a<f)then oB (idx b a) fun e=>(bif decide (e.1=d)then bif decide (e.2.1=c)then some e.2.2 else(if fits (a+1)then h (d,c,b,f,(a+1))else none)else if fits (a+1)then h (d,c,b,f,(a+1))else none)else some ([]:Z6)) N (j,l,i.2,(i.2.length:Int),(0:Int)))
theorem jcq :mK 281 (bX [.ptr Y3,pS,pS] [.pv Y15] (c3A (i_Seg_posts_m N))):=
 mO ja func281 rfl N (.seq .no (.seq (.seq .no (.block (.loop jnu .no))) .no)) _
def jni :Sh:=⟨dz 3 (pI::dz 12 (.pv Y15::pI::pI::dz 10 [])),[]⟩
def i_scorer_places_m (k:((List Z1)×(List Z4))×(List Z0)×(List Z2)) (i:List UInt8) (l:List UInt8) (m:Int):Option ((List Int)):=
 (oB (i_Seg_posts_m N k.2 i l) fun b=>iter (fun h (f,d,c,a)=>bif decide (a<c)then oB (idx d a) fun e=>(bif decide (e.1=f)then some e.2 else if fits (a+1)then h (f,d,c,(a+1))else none)else some ([]:List Int)) N (m,b,(b.length:Int),(0:Int)))
theorem jrB :mK 204 (bX [.ptr Y0,pS,pS,pI] [.pv Y25] (c4A (i_scorer_places_m N))):=
 mO (fC (jcq N) ja) func204 rfl N (.seq .no (.seq (.seq .no (.block (.loop jni .no))) .no)) _
def jmV :Sh:=⟨.dead::pS::dz 8 (.pv Y23::pI::pI::dz 10 []),[]⟩
def i_DocField_m (k:Int) (b:Z16) (m:Z11) (l:List UInt8):Option (Z1):=
 (oB (jbx N k b m) fun i=>bif i then iter (fun h (c,f,d,a)=>bif decide (a<d)then oB (idx f a) fun e=>(bif decide (e.1=c)then some e.2 else if fits (a+1)then h (c,f,d,(a+1))else none)else some ([]:List UInt8)) N (l,b,(b.length:Int),(0:Int))else some ([]:List UInt8))
theorem jqd :mK 317 (bX [.agg [pI,.pv Y23,.pv Y19],pS] [pS] (c4A (i_DocField_m N))):=
 mO (fC (jh0 N) ja) func317 rfl N (.seq .no (.seq (.seq .no (.cond (.seq .no (.block (.loop jmV .no))) .no)) .no)) _
def i_Seg_long_m (h:(List Z0)×(List Z2)) (c:List Z1) (f:List Z4) (e:List UInt8) (i:Int):Z12:=
 (oB (i_Seg_doc_m N h i) fun a=>bif !a.2.2.2 then some 0 else oB (i_DocField_m N a.1 a.2.1 a.2.2.1 e) fun b=>oB (jbw N c f b) fun d=>some (d.length:Int))
theorem jhs :mK 279 (bX [.ptr Y3,.agg [.pv (.sl .str),.pv Y20],pS,pI] [pI] (c5A (i_Seg_long_m N))):=
 mO (fC (jlU N) (fC (jqd N) (fC (jgO N) ja))) func279 rfl N .no _
def joq :Sh:=⟨pI::pI::dz 13 [],[]⟩
def ja2 (d:Int) (e:Int):Z12:=
 (iter (fun c (a,b)=>bif !decide (b=0)then if b≠0 then c (b,(a.tmod b))else none else if fits (0-a)then some (if(0-a)>a then 0-a else a)else none) N (d,e))
theorem jiQ :mK 340 (bX [pI,pI] [pI] (c2A (ja2 N))):=
 mO ja func340 rfl N (.seq .no (.seq (.block (.loop joq .no)) .no)) _
def jbk (b:Int) (a:Int):Z8:=
 (oB (i_within_m N b (-1000000000) 1000000000) fun c=>bif c then oB (i_within_m N a 1 1000000000) fun d=>(bif d then oB (ja2 N b a) fun e=>(some (decide (e=1)))else some false)else some false)
theorem jhS :mK 319 (bX [.agg [pI,pI]] [pB] (c2A (jbk N))):=
 mO (fC (jY N) (fC (jiQ N) ja)) func319 rfl N .no _
def jk5 :Sh:=⟨pI::pI:: .dead:: .dead:: .box 4 0::dz 24 [],[(4,false,[pI,pI])]⟩
def jcl (e:Int) (b:Int):Option (Int×Int×Bool):=
 (meet (fun(i:Int×Int×Int×Int)=>match i with|(c,d,j,k)=>oB (ja2 N c d) fun a=>if a≠0 then if fits (c.tdiv a)then if a≠0 then if fits (d.tdiv a)then oB (jbk N (c.tdiv a) (d.tdiv a)) fun h=>(bif !h then some (0,1,false)else some ((c.tdiv a),(d.tdiv a),true))else none else none else none else none) fun f=>bif decide (b<0)then if fits (0-e)then if fits (0-b)then f ((0-e),(0-b),0,0)else none else none else f (e,b,0,0))
theorem jlG :mK 339 (bX [pI,pI] [.tup [.agg [pI,pI],pB]] (c2A (jcl N))):=
 mO (fC (jiQ N) (fC (jhS N) ja)) func339 rfl N (.seq .no (.meet jk5 .no .no)) _
def jb7 (c:Int) (a:Int):Option (Int×Int×Bool):=
 (oB (i_within_m N c (-1000000000) 1000000000) fun e=>bif !e then some (0,1,false)else oB (i_within_m N a (-1000000000) 1000000000) fun d=>bif !d then some (0,1,false)else bif decide (a=0)then some (0,1,false)else oB (jcl N c a) fun b=>some (b.1,b.2.1,b.2.2))
theorem jpX :mK 318 (bX [pI,pI] [.tup [.agg [pI,pI],pB]] (c2A (jb7 N))):=
 mO (fC (jY N) (fC (jlG N) ja)) func318 rfl N .no _
def jtO :Sh:=⟨pI::pI::pI::pI::pI::dz 5 (.box 10 0:: .dead::pI::dz 53 []),[(10,false,[pI,pI])]⟩
def i_TermScore_m (k:Int) (j:Int) (l:Int) (f:Int) (m:Int):Option (Int×Int×Bool):=
 (oB (i_within_m N k 1 80) fun u=>bif !u then some (0,1,false)else oB (i_within_m N j k 80) fun n=>bif !n then some (0,1,false)else oB (i_within_m N f 1 16) fun p=>bif !p then some (0,1,false)else oB (i_within_m N m 1 f) fun r=>bif !r then some (0,1,false)else oB (i_within_m N l j 1280) fun w=>bif !w then some (0,1,false)else iter (fun o (b,d,e,c,h,a,v,t)=>if fits (a+1)then if 0<=(a+1)then if fits (h*2^(min (a+1).toNat (IntKind.bits .i64)))then bif decide ((h*2^(min (a+1).toNat (IntKind.bits .i64)))<=c)then if fits (a+1)then o (b,d,e,c,h,(a+1),v,t)else none else(if fits (22*b)then if fits (a+1)then if fits ((22*b)*(a+1))then if fits (10*b)then if fits ((10*b)+3)then if fits (9*d)then if fits ((9*d)*c)then if e≠0 then if fits (((9*d)*c).tdiv e)then if fits (((10*b)+3)+(((9*d)*c).tdiv e))then oB (jb7 N ((22*b)*(a+1)) (((10*b)+3)+(((9*d)*c).tdiv e))) fun i=>(some (i.1,i.2.1,i.2.2))else none else none else none else none else none else none else none else none else none else none)else none else none else none) N (k,j,l,f,m,(0:Int),(0:Int),(0:Int)))
theorem jgE :mK 280 (bX [pI,pI,pI,pI,pI] [.tup [.agg [pI,pI],pB]] (c5A (i_TermScore_m N))):=
 mO (fC (jY N) (fC (jpX N) ja)) func280 rfl N (.seq .no (.seq .no (.seq .no (.seq (.block (.loop jtO .no)) .no)))) _
def i_RatFloor_m (b:Int) (a:Int) (c:Int):Z12:=
 (oB (jbk N b a) fun d=>bif !d then some 0 else oB (i_within_m N c 1 1000) fun e=>bif !e then some 0 else if fits (b*c)then bif decide ((0:Int)<=(b*c))then if a≠0 then if fits ((b*c).tdiv a)then some ((b*c).tdiv a)else none else none else(if fits (0-(b*c))then if fits ((0-(b*c))+a)then if fits (((0-(b*c))+a)-1)then if a≠0 then if fits ((((0-(b*c))+a)-1).tdiv a)then if fits (0-((((0-(b*c))+a)-1).tdiv a))then some (0-((((0-(b*c))+a)-1).tdiv a))else none else none else none else none else none else none)else none)
theorem jiY :mK 282 (bX [.agg [pI,pI],pI] [pI] (c3A (i_RatFloor_m N))):=
 mO (fC (jhS N) (fC (jY N) ja)) func282 rfl N .no _
def jlZ :Sh:=⟨.ptr Y0::pS::pS::pI::dz 5 (.pv Y25::pI::dz 16 (.pv Y4::pI::pI::dz 49 [])),[]⟩
def i_scorer_points_m (b:((List Z1)×(List Z4))×(List Z0)×(List Z2)) (n:List UInt8) (p:List UInt8) (j:Int):Z12:=
 (oB (i_scorer_places_m N b n p j) fun m=>bif decide ((m.length:Int)=0)then some 0 else iter (fun r (a,c,o,k,l,e,h,i,d)=>bif decide (d<i)then oB (idx h d) fun x=>(oB (i_Seg_long_m N a.2 a.1.1 a.1.2 c x.1) fun f=>if fits (e+f)then if fits (d+1)then r (a,c,o,k,l,(e+f),h,i,(d+1))else none else none)else oB (i_Seg_long_m N a.2 a.1.1 a.1.2 c k) fun t=>oB (i_Seg_posts_m N a.2 c o) fun u=>oB (i_TermScore_m N (l.length:Int) t e (a.2.1.length:Int) (u.length:Int)) fun q=>oB (i_RatFloor_m N q.1 q.2.1 1000) fun w=>some w) N (b,n,p,j,m,(0:Int),b.2.1,(b.2.1.length:Int),(0:Int)))
theorem jsD :mK 198 (bX [.ptr Y0,pS,pS,pI] [pI] (c4A (i_scorer_points_m N))):=
 mO (fC (jrB N) (fC (jhs N) (fC (jcq N) (fC (jgE N) (fC (jiY N) ja))))) func198 rfl N (.seq .no (.seq .no (.seq .no (.seq .no (.seq (.seq .no (.block (.loop jlZ .no))) .no))))) _
def jBY :Sh:=⟨.pv (.sl Y25)::dz 4 (.pv (.sl Y25)::pI::pI::dz 10 []),[]⟩
def jyD (b:List (List Int)):Z8:=
 (iter (fun f (c,e,d,a)=>bif decide (a<d)then oB (idx e a) fun j=>(oB (jx1 N j) fun h=>bif !h then some false else if fits (a+1)then f (c,e,d,(a+1))else none)else some (decide ((c.length:Int)<=6))) N (b,b,(b.length:Int),(0:Int)))
theorem jD9 :mK 341 (bX [.pv (.sl Y25)] [pB] (c1A (jyD N))):=
 mO (fC (jAN N) ja) func341 rfl N (.seq .no (.seq (.seq .no (.block (.loop jBY .no))) .no)) _
def jyK (a:List (List Int)):Z8:=
 (bif decide ((0:Int)<a.length)then oB (jyD N a) fun b=>(some b)else some false)
theorem jD6 :mK 320 (bX [.pv (.sl Y25)] [pB] (c1A (jyK N))):=
 mO (fC (jD9 N) ja) func320 rfl N .no _
def jye (a:Int) (b:Int):Z8:=
 (oB (k_cmp_isNaN_538_m N a) fun d=>bif d then oB (k_cmp_isNaN_538_m N b) fun c=>(bif !c then some true else some (decide (a<b)))else some (decide (a<b)))
theorem jA5 :mK 356 (bX [pI,pI] [pB] (c2A (jye N))):=
 mO (fC (joK N) ja) func356 rfl N .no _
def jxW (N:Nat) (a:Int):Z8:=
 (some (!decide (a=a)))
theorem jCp :mK 357 (bX [pI] [pB] (c1A (jxW N))):=
 mO ja func357 rfl N .no _
def jB3 :Sh:=⟨.pv Y25::pI::dz 4 (pI::pI::pI::dz 45 []),[]⟩
def jyA (f:List Int) (o:Int):Option (Int×Bool):=
 (iter (fun h (c,d,e,a,b)=>bif decide (a<b)then if fits (a+b)then if 0<=(1:Int)then oB (idx c (IntKind.i64.wrap ((IntKind.u64.wrap (a+b)).fdiv (2^(min (1:Int).toNat (IntKind.bits .u64)))))) fun p=>(oB (jye N p d) fun j=>bif j then if fits ((IntKind.i64.wrap ((IntKind.u64.wrap (a+b)).fdiv (2^(min (1:Int).toNat (IntKind.bits .u64)))))+1)then h (c,d,e,((IntKind.i64.wrap ((IntKind.u64.wrap (a+b)).fdiv (2^(min (1:Int).toNat (IntKind.bits .u64)))))+1),b)else none else h (c,d,e,a,(IntKind.i64.wrap ((IntKind.u64.wrap (a+b)).fdiv (2^(min (1:Int).toNat (IntKind.bits .u64)))))))else none else none else bif decide (a<e)then oB (idx c a) fun n=>(bif decide (n=d)then some (a,true)else oB (idx c a) fun l=>oB (jxW N l) fun i=>bif i then oB (jxW N d) fun k=>(some (a,k))else some (a,false))else some (a,false)) N (f,o,(f.length:Int),(0:Int),(f.length:Int)))
theorem jDL :mK 342 (bX [.pv Y25,pI] [.tup [pI,pB]] (c2A (jyA N))):=
 mO (fC (jA5 N) (fC (jCp N) ja)) func342 rfl N (.seq .no (.seq .no (.seq .no (.seq (.block (.loop jB3 .no)) .no)))) _
def jys (a:List Int) (c:Int):Option (Int×Bool):=
 (oB (jyA N a c) fun b=>bif decide (b.1=(a.length:Int))then some (0,false)else oB (idx a b.1) fun d=>some (d,true))
theorem jAO :mK 321 (bX [.pv Y25,pI] [.tup [pI,pB]] (c2A (jys N))):=
 mO (fC (jDL N) ja) func321 rfl N .no _
def jBS :Sh:=⟨.pv (.sl Y25)::pI::dz 3 (.own 600005 tI 3 true::dz 20 (.pv Y25::pI::pI::dz 42 [])),[]⟩
def jDv :Sh:=⟨.pv (.sl Y25)::pI::dz 3 (.own 600005 tI 3 true:: .dead::pI::pI::pB::dz 16 (.pv Y25::pI::pI::dz 5 (.pv (.sl Y25)::pI::pI::dz 34 []))),[]⟩
def jyw (q:List (List Int)) (z:Int):Option ((List Int)):=
 (oB (jyK N q) fun E=>bif !E then some ([]:List Int)else oB (i_within_m N z 0 5) fun C=>bif !C then some ([]:List Int)else oB (idx q 0) fun y=>iter (fun j (p,G,t,A,w,o)=>bif decide (o<w)then oB (idx A o) fun B=>(oB (cut p 1 (p.length:Int)) fun x=>iter (fun u (a,d,f,c,m,v,i,h,b,r,n,e)=>bif decide (e<n)then oB (idx r e) fun D=>(if fits (m+1)then oB (jys N D (m+1)) fun k=>(bif v then if fits (e+1)then u (a,d,f,c,k.1,k.2,i,h,b,r,n,(e+1))else none else if fits (e+1)then u (a,d,f,c,k.1,false,i,h,b,r,n,(e+1))else none)else none)else bif v then if fits (c+(a.length:Int))then if fits ((c+(a.length:Int))-1)then if fits (((c+(a.length:Int))-1)+d)then bif decide (m<=(((c+(a.length:Int))-1)+d))then if room f.length ([c]:List Int).length 8 then if fits (b+1)then j (a,d,(f++([c]:List Int)),i,h,(b+1))else none else none else(if fits (b+1)then j (a,d,f,i,h,(b+1))else none)else none else none else none else if fits (b+1)then j (a,d,f,i,h,(b+1))else none) N (p,G,t,B,B,true,A,w,o,x,(x.length:Int),(0:Int)))else some t) N (q,z,([]:List Int),y,(y.length:Int),(0:Int)))
theorem jCX :mK 283 (bX [.pv (.sl Y25),pI] [.own 1 tI 3 true] (c2A (jyw N))):=
 mO (fC (jD6 N) (fC (jY N) (fC (jAO N) ja))) func283 rfl N (.seq .no (.seq .no (.seq .no (.seq (.seq .no (.block (.loop jBS (.seq .no (.seq .no (.seq (.block (.seq .no (.seq .no (.seq (.seq .no (.block (.loop jDv .no))) .no)))) .no)))))) .no)))) _
def jCk :Sh:=⟨.ptr Y0::dz 3 (.box 4 0:: .box 5 0:: .dead:: .own 600007 Y21 111 true:: .own 600008 Y25 89 true::pI::dz 18 (.pv Y19::pI::pI::dz 59 [])),[(4,false,[pI,pS,.pv (.sl .str),pI,pI,.pv (.sl .q)]),(5,false,[pI,.pv Y23,.pv Y19])]⟩
def jDK :Sh:=⟨.ptr Y0::dz 3 (.box 4 0:: .box 5 0:: .dead:: .own 600007 Y21 111 true:: .own 600008 Y25 89 true::pI::pI:: .box 11 0:: .own 600012 tI 3 true::dz 15 (.pv Y19::pI::pI::dz 12 (.pv Y25::pI::pI::dz 44 []))),[(4,false,[pI,pS,.pv (.sl .str),pI,pI,.pv (.sl .q)]),(5,false,[pI,.pv Y23,.pv Y19]),(11,false,[pS,pI])]⟩
def jyB (x:((List Z1)×(List Z4))×(List Z0)×(List Z2)) (q:Int) (q2:List UInt8) (q3:List Z1) (q4:Int) (q5:Int) (q6:List DQ) (d:Int) (d2:Z16) (d3:Z11):Z12:=
 (oB (jyu N q3 ([32]:List UInt8)) fun r=>oB (jbw N x.1.1 x.1.2 r) fun r2=>bif decide ((r2.length:Int)=0)then some 0 else iter (fun go (x2,terms,lists,all,t28,t29,t30,q7,q8,q9,q10,q11,q12,d4,d5,d6)=>bif decide (t30<t29)then oB (idx t28 t30) fun e=>(oB (i_scorer_places_m N x2 q8 e.1 d4) fun r3=>iter (fun go2 (x3,terms2,lists2,all2,i,list,t282,t292,t302,t43,t44,t45,q13,q14,q15,q16,q17,q18,d7,d8,d9,t,t2)=>bif decide (t45<t44)then oB (idx t43 t45) fun e2=>(oB (idx terms2 0) fun e3=>if fits (t2-e3.2)then if fits ((t2-e3.2)-i)then if fits (e2-((t2-e3.2)-i))then bif decide ((0:Int)<=(e2-((t2-e3.2)-i)))then if room list.length ([(e2-((t2-e3.2)-i))]:List Int).length 8 then if fits (t45+1)then go2 (x3,terms2,lists2,all2,i,(list++([(e2-((t2-e3.2)-i))]:List Int)),t282,t292,t302,t43,t44,(t45+1),q13,q14,q15,q16,q17,q18,d7,d8,d9,t,t2)else none else none else(if fits (t45+1)then go2 (x3,terms2,lists2,all2,i,list,t282,t292,t302,t43,t44,(t45+1),q13,q14,q15,q16,q17,q18,d7,d8,d9,t,t2)else none)else none else none else none)else if room lists2.length ([list]:List (List Int)).length 24 then oB (i_scorer_points_m N x3 q14 t d7) fun r4=>(if fits (all2+r4)then if fits (t302+1)then go (x3,terms2,(lists2++([list]:List (List Int))),(all2+r4),t282,t292,(t302+1),q13,q14,q15,q16,q17,q18,d7,d8,d9)else none else none)else none) N (x2,terms,lists,all,t30,([]:List Int),t28,t29,t30,r3,(r3.length:Int),(0:Int),q7,q8,q9,q10,q11,q12,d4,d5,d6,e.1,e.2))else oB (jyw N lists q10) fun r5=>if fits ((if(r5.length:Int)<3 then(r5.length:Int)else 3)*all)then some ((if(r5.length:Int)<3 then(r5.length:Int)else 3)*all)else none) N (x,r2,([]:List (List Int)),(0:Int),r2,(r2.length:Int),(0:Int),q,q2,q3,q4,q5,q6,d,d2,d3))
theorem jDC :mK 200 (bX [.ptr Y0,.agg [pI,pS,.pv (.sl .str),pI,pI,.pv (.sl .q)],.agg [pI,.pv Y23,.pv Y19]] [pI] (c10A (jyB N))):=
 mO (fC (jBE N) (fC (jgO N) (fC (jrB N) (fC (jsD N) (fC (jCX N) ja))))) func200 rfl N (.seq .no (.seq .no (.seq .no (.seq .no (.seq .no (.seq (.seq .no (.block (.loop jCk (.seq .no (.seq .no (.seq (.block (.seq .no (.seq .no (.seq (.seq .no (.block (.loop jDK .no))) .no)))) .no)))))) .no)))))) _
def jtE :Sh:=⟨.dead::pS::dz 3 (.own 600005 .str 9 true::dz 6 (.pv Y6::pI::pI::dz 14 [])),[]⟩
def i_Seg_terms_m (i:(List Z0)×(List Z2)) (j:List UInt8):Option ((List Z1)):=
 (iter (fun h (d,b,c,f,a)=>bif decide (a<f)then oB (idx c a) fun e=>(bif decide (e.1=d)then if room b.length ([e.2.1]:List Z1).length 16 then if fits (a+1)then h (d,(b++([e.2.1]:List Z1)),c,f,(a+1))else none else none else if fits (a+1)then h (d,b,c,f,(a+1))else none)else some b) N (j,([]:List Z1),i.2,(i.2.length:Int),(0:Int)))
theorem jln :mK 201 (bX [.ptr Y3,pS] [.own 1 .str 9 true] (c2A (i_Seg_terms_m N))):=
 mO ja func201 rfl N (.seq .no (.seq .no (.seq (.seq .no (.block (.loop jtE .no))) .no))) _
def jDE :Sh:=⟨pS::pS::dz 3 (.mtk 600005 tI 3 true::dz 18 (pI::pI::dz 62 [])),[]⟩
def jBC :Sh:=⟨pS::pS::dz 3 (.mtk 600005 tI 3 true:: .dead::pI::dz 80 []),[]⟩
def jCv :Sh:=⟨pS::pS::dz 3 (.mtk 600005 tI 3 true:: .dead::pI::pI::pI::dz 78 []),[]⟩
def jAI :Sh:=⟨pS::pS::dz 3 (.mtk 600005 tI 3 true:: .dead::pI:: .dead::pI::pI::dz 77 []),[]⟩
def jAQ :Sh:=⟨pS::pS::dz 3 (.mtk 22 tI 3 true::dz 82 []),[]⟩
def jDZ :Sh:=⟨pS::pS::dz 86 [],[]⟩
def i_NearFar_m (a:List UInt8) (b:List UInt8):Z12:=
 (meet (fun(g:Z1×Z1)=>match g with|(a2,b2)=>meet (fun(g:Z1×Z1×(List Int))=>match g with|(a3,b3,row)=>iter (fun go (a4,b4,row2,t24,t25)=>bif decide (t25<t24)then if 0<=t25/\t25<(row2.length:Int)then oB (row2[t25.toNat]?) fun e=>(if fits (t25+1)then go (a4,b4,(row2.set t25.toNat t25),t24,(t25+1))else none)else none else iter (fun go2 (a5,b5,row3,i)=>bif decide (i<=(a5.length:Int))then if 0<=(0:Int)/\(0:Int)<row3.length then oB (row3[(0:Int).toNat]?) fun e2=>(if 0<=(0:Int)/\(0:Int)<row3.length then oB (row3[(0:Int).toNat]?) fun e3=>(iter (fun go3 (a6,b6,row4,i2,corner,j)=>bif decide (j<=(b6.length:Int))then meet (fun(g:Z23)=>match g with|(a7,b7,row5,i3,j2,cost)=>if 0<=j2/\j2<(row5.length:Int)then oB (row5[j2.toNat]?) fun e4=>(if 0<=j2/\j2<(row5.length:Int)then oB (row5[j2.toNat]?) fun e5=>(if fits (e5+1)then if fits (j2-1)then if 0<=(j2-1)/\(j2-1)<(row5.length:Int)then oB (row5[(j2-1).toNat]?) fun e6=>(if fits (e6+1)then if 0<=j2/\j2<(row5.length:Int)then oB (row5[j2.toNat]?) fun e7=>(if fits (j2+1)then go3 (a7,b7,(row5.set j2.toNat (if(e6+1)<(if(e5+1)<cost then e5+1 else cost)then e6+1 else if(e5+1)<cost then e5+1 else cost)),i3,e4,(j2+1))else none)else none else none)else none else none else none)else none)else none) fun J3=>(if fits (i2-1)then oB (idx a6 (i2-1)) fun c=>(if fits (j-1)then oB (idx b6 (j-1)) fun c2=>(bif !decide ((c.toNat:Int)=(c2.toNat:Int))then if fits (corner+1)then J3 (a6,b6,row4,i2,j,(corner+1))else none else J3 (a6,b6,row4,i2,j,corner))else none)else none)else if fits (i2+1)then go2 (a6,b6,row4,(i2+1))else none) N (a5,b5,(row3.set (0:Int).toNat i),i,e2,(1:Int)))else none)else none else if 0<=(b5.length:Int)/\(b5.length:Int)<(row3.length:Int)then oB (row3[(b5.length:Int).toNat]?) fun e8=>(some e8)else none) N (a4,b4,row2,(1:Int))) N (a3,b3,row,(row.length:Int),(0:Int))) fun J2=>if fits ((b2.length:Int)+1)then if((b2.length:Int)+1)=((b2.length:Int)+1)/\0<=((b2.length:Int)+1)/\((b2.length:Int)+1)*8<=140737488355328/\((b2.length:Int)+1)<=140737488355328 then J2 (a2,b2,(List.replicate ((b2.length:Int)+1).toNat 0))else none else none) fun J=>oB (jO N a) fun r=>bif !r then some (-1)else oB (jO N b) fun r2=>bif !r2 then some (-1)else J (a,b))
theorem jDu :mK 202 (bX [pS,pS] [pI] (c2A (i_NearFar_m N))):=
 mO (fC (jcM N) ja) func202 rfl N (.seq .no (.meet jDZ .no (.meet jAQ .no (.seq (.seq .no (.block (.loop jDE .no))) (.seq (.seq .no (.block (.loop jBC (.seq .no (.seq (.block (.seq .no (.seq .no (.seq .no (.block (.loop jCv (.seq .no (.seq (.block (.seq .no (.meet jAI .no .no))) .no)))))))) .no))))) .no))))) _ (wr:=[22])
def jxG (N:Nat):(D:Nat)->Z1->Z1->Z8
 |0,_,_=>none
 |D+1,p,s=>
 bif decide (p=([]:List UInt8))then
 some (decide (s=([]:List UInt8)))
 else
 oB (idx p 0) fun c=>
 bif decide ((c.toNat:Int)=42)then
 oB (cut p 1 (p.length:Int)) fun y=>
 (oB (jxG N D y s) fun r=>
 bif r then
 some true
 else
 bif !decide (s=([]:List UInt8))then
 oB (cut s 1 (s.length:Int)) fun y2=>
 (oB (jxG N D p y2) fun r2=>
 some r2)
 else
 some false)
 else
 bif decide (s=([]:List UInt8))then
 some false
 else
 oB (idx p 0) fun c2=>
 bif decide ((c2.toNat:Int)=63)then
 oB (cut p 1 (p.length:Int)) fun y3=>
 (oB (cut s 1 (s.length:Int)) fun y4=>
 oB (jxG N D y3 y4) fun r3=>
 some r3)
 else
 oB (idx p 0) fun c3=>
 oB (idx s 0) fun c4=>
 bif decide ((c3.toNat:Int)=(c4.toNat:Int))then
 oB (cut p 1 (p.length:Int)) fun y5=>
 (oB (cut s 1 (s.length:Int)) fun y6=>
 oB (jxG N D y5 y6) fun r4=>
 some r4)
 else
 some false
def jyg (N D:Nat):Model:=⟨⟨[pS,pS],[]⟩,⟨[pB],[]⟩,c2A (jxG N D)⟩
theorem jBG (N D:Nat) (ih:mK 284 (jyg N D)):mK 284 (jyg N (D+1)):=
 mO (fC ih ja) func284 rfl N .no (jyg N (D+1))
theorem jAz (N:Nat):∀D,mK 284 (jyg N D)
 |0=>modelOk_none ⟨_,func284,by decide,by kernel_rfl⟩ _ (fun a=>rfl)
 |D+1=>jBG N D (jAz N D)
def jx0 (a:List UInt8) (b:List UInt8):Z8:=
 (oB (jxV N a) fun d=>bif d then oB (jO N b) fun c=>(bif c then oB (jxG N N a b) fun e=>(some e)else some false)else some false)
theorem jDd :mK 203 (bX [pS,pS] [pB] (c2A (jx0 N))):=
 mO (fC (jz9 N) (fC (jcM N) (fC (jAz N N) ja))) func203 rfl N .no _
def jD5 :Sh:=⟨.dead::pS::dz 8 (.pv Y19::pI::pI::dz 10 []),[]⟩
def jyp (l:Int) (k:Z16) (b:Z11) (m:List UInt8):Z12:=
 (oB (jbx N l k b) fun i=>bif i then iter (fun h (c,f,d,a)=>bif decide (a<d)then oB (idx f a) fun e=>(bif decide (e.1=c)then some e.2 else if fits (a+1)then h (c,f,d,(a+1))else none)else some (-1)) N (m,b,(b.length:Int),(0:Int))else some (-1))
theorem jBQ :mK 205 (bX [.agg [pI,.pv Y23,.pv Y19],pS] [pI] (c4A (jyp N))):=
 mO (fC (jh0 N) ja) func205 rfl N (.seq .no (.seq (.seq .no (.cond (.seq .no (.block (.loop jD5 .no))) .no)) .no)) _
def jDa :Sh:=⟨.ptr Y0::dz 3 (.box 4 0:: .box 5 0:: .dead::pI::dz 43 (.own 600051 .str 9 true::pI::pI::dz 122 [])),[(4,false,[pI,pS,.pv (.sl .str),pI,pI,.pv (.sl .q)]),(5,false,[pI,.pv Y23,.pv Y19])]⟩
def jCO :Sh:=⟨.ptr Y0::dz 3 (.box 4 0:: .box 5 0::dz 83 (.own 600089 .str 9 true::pI::pI::dz 84 [])),[(4,false,[pI,pS,.pv (.sl .str),pI,pI,.pv (.sl .q)]),(5,false,[pI,.pv Y23,.pv Y19])]⟩
def jDp :Sh:=⟨.ptr Y0::dz 3 (.box 4 0:: .box 5 0::dz 7 (pI::dz 140 (.pv (.sl .q)::pI::pI::dz 19 []))),[(4,false,[pI,pS,.pv (.sl .str),pI,pI,.pv (.sl .q)]),(5,false,[pI,.pv Y23,.pv Y19])]⟩
def i_scorer_score_m (N:Nat):(D:Nat)->Z17->Int->Z1->(List Z1)->Int->Int->(List DQ)->Int->Z15->Z9->Z12
 |0,_,_,_,_,_,_,_,_,_,_=>none
 |D+1,x,q,q2,q3,q4,q5,q6,d,d2,d3=>
 bif decide (q=1)then
 some 100
 else
 bif decide (q=2)then
 oB (idx q3 0) fun e=>
 (oB (jyc N x.1.1 x.1.2 e) fun r=>
 oB (i_scorer_points_m N x q2 r d) fun r2=>
 some r2)
 else
 bif decide (q=3)then
 oB (jyB N x q q2 q3 q4 q5 q6 d d2 d3) fun r3=>
 (some r3)
 else
 bif decide (q=4)then
 oB (i_Seg_terms_m N x.2 q2) fun r4=>
 (iter (fun go (g:Z17×Int×(List Z1)×Int×Int×Int×Z1×(List Z1)×Int×Int×(List DQ)×Int×Z15×Z9)=>
 match g with
 |(x2,best,t51,t52,t53,q7,q8,q9,q10,q11,q12,d4,d5,d6)=>
 bif decide (t53<t52)then
 oB (idx t51 t53) fun e2=>
 (oB (idx q9 0) fun e3=>
 oB (i_NearFar_m N e2 e3) fun r5=>
 oB (i_within_m N r5 0 q10) fun r6=>
 bif r6 then
 oB (i_scorer_points_m N x2 q8 e2 d4) fun r7=>
 (if fits (3-r5)then if fits (r7*(3-r5))then if 3≠0 then
 if fits ((r7*(3-r5)).tdiv 3)then if fits (t53+1)then go (x2,(if((r7*(3-r5)).tdiv 3)>best then(r7*(3-r5)).tdiv 3 else best),t51,t52,(t53+1),q7,q8,q9,q10,q11,q12,d4,d5,d6)else none else none
 else none else none else none)
 else
 if fits (t53+1)then go (x2,best,t51,t52,(t53+1),q7,q8,q9,q10,q11,q12,d4,d5,d6)else none)
 else
 some best) N (x,0,r4,(r4.length:Int),0,q,q2,q3,q4,q5,q6,d,d2,d3))
 else
 bif decide (q=5)then
 oB (i_Seg_terms_m N x.2 q2) fun r8=>
 (iter (fun go2 (g:Z17×(List Z1)×Int×Int×Int×Z1×(List Z1)×Int×Int×(List DQ)×Int×Z15×Z9)=>
 match g with
 |(x3,t89,t90,t91,q13,q14,q15,q16,q17,q18,d7,d8,d9)=>
 bif decide (t91<t90)then
 oB (idx t89 t91) fun e4=>
 (oB (idx q15 0) fun e5=>
 oB (jx0 N e5 e4) fun r9=>
 bif r9 then
 oB (i_scorer_places_m N x3 q14 e4 d7) fun r10=>
 (bif decide ((0:Int)<r10.length)then
 some 100
 else
 if fits (t91+1)then go2 (x3,t89,t90,(t91+1),q13,q14,q15,q16,q17,q18,d7,d8,d9)else none)
 else
 if fits (t91+1)then go2 (x3,t89,t90,(t91+1),q13,q14,q15,q16,q17,q18,d7,d8,d9)else none)
 else
 some 0) N (x,r8,(r8.length:Int),0,q,q2,q3,q4,q5,q6,d,d2,d3))
 else
 bif decide (q=6)then
 oB (jyp N d d2 d3 q2) fun r11=>
 (oB (i_within_m N r11 q4 q5) fun r12=>
 bif r12 then
 some 100
 else
 some 0)
 else
 bif decide (q=10)then
 oB (idx q6 0) fun e6=>
 (oB (i_scorer_score_m N D x e6.kind e6.field e6.words e6.lo e6.hi e6.kids d d2 d3) fun r13=>
 if fits (q4*r13)then some (q4*r13)else none)
 else
 bif decide (q=9)then
 oB (idx q6 1) fun e7=>
 (oB (i_scorer_score_m N D x e7.kind e7.field e7.words e7.lo e7.hi e7.kids d d2 d3) fun r14=>
 bif decide ((0:Int)<r14)then
 some 0
 else
 oB (idx q6 0) fun e8=>
 oB (i_scorer_score_m N D x e8.kind e8.field e8.words e8.lo e8.hi e8.kids d d2 d3) fun r15=>
 some r15)
 else
 iter (fun go3 (g:Z17×Int×(List DQ)×Int×Int×Int×Z1×(List Z1)×Int×Int×(List DQ)×Int×Z15×Z9)=>
 match g with
 |(x4,all,t154,t155,t156,q19,q20,q21,q22,q23,q24,d10,d11,d12)=>
 bif decide (t156<t155)then
 oB (idx t154 t156) fun e9=>
 (oB (i_scorer_score_m N D x4 e9.kind e9.field e9.words e9.lo e9.hi e9.kids d10 d11 d12) fun r16=>
 bif decide (r16=0)then
 bif decide (q19=7)then
 some 0
 else
 (if fits (all+r16)then if fits (t156+1)then go3 (x4,(all+r16),t154,t155,(t156+1),q19,q20,q21,q22,q23,q24,d10,d11,d12)else none else none)
 else
 if fits (all+r16)then if fits (t156+1)then go3 (x4,(all+r16),t154,t155,(t156+1),q19,q20,q21,q22,q23,q24,d10,d11,d12)else none else none)
 else
 some all) N (x,0,q6,(q6.length:Int),0,q,q2,q3,q4,q5,q6,d,d2,d3)
def jx6 (N D:Nat):Model:=⟨⟨[.ptr Y0,.agg [pI,pS,.pv (.sl .str),pI,pI,.pv (.sl .q)],.agg [pI,.pv Y23,.pv Y19]],[]⟩,⟨[pI],[]⟩,c10A (i_scorer_score_m N D)⟩
theorem jBq (N D:Nat) (ih:mK 129 (jx6 N D)):mK 129 (jx6 N (D+1)):=
 mO (fC ih (fC (jBn N) (fC (jsD N) (fC (jDC N) (fC (jln N) (fC (jDu N) (fC (jY N) (fC (jDd N) (fC (jrB N) (fC (jBQ N) ja)))))))))) func129 rfl N (.seq .no (.seq (.seq .no (.block (.seq .no (.cond .no (.seq .no (.cond .no (.seq .no (.cond .no (.seq .no (.cond (.seq .no (.seq (.seq .no (.block (.loop jDa .no))) .no)) (.seq .no (.cond (.seq (.seq .no (.block (.loop jCO .no))) .no) .no)))))))))))) (.seq .no (.seq (.seq .no (.block (.loop jDp .no))) .no)))) (jx6 N (D+1))
theorem jzy (N:Nat):∀D,mK 129 (jx6 N D)
 |0=>modelOk_none ⟨_,func129,by decide,by kernel_rfl⟩ _ (fun a=>rfl)
 |D+1=>jBq N D (jzy N D)
def jBM :Sh:=⟨dz 5 (.box 5 0:: .dead:: .own 600007 Y18 93 true:: .box 26 0::dz 19 (.pv Y4::pI::pI::dz 18 [])),[(5,false,[pI,pS,.pv (.sl .str),pI,pI,.pv (.sl .q)]),(26,true,[.pv (.sl .str),.pv Y20,.pv Y4,.pv Y6])]⟩
def i_scores_m (y:List Z1) (u:List Z4) (d:List Z0) (x:List Z2) (A:Int) (z:List UInt8) (v:List Z1) (B:Int) (C:Int) (w:List DQ):Option (Z10):=
 (oB (i_SegOk_m N y u d x) fun G=>bif !G then some ([]:Z5)else oB (i_QueryOk_m N A z v B C w) fun D=>bif !D then some ([]:Z5)else iter (fun t (c,j,q,a,r,m,h,n,e,k,o,i,p,l)=>bif decide (a<q)then oB (idx j a) fun b=>(oB (i_scorer_score_m N N ((o,i),p,l) r m h n e k b.1 b.2.1 b.2.2) fun f=>bif decide ((0:Int)<f)then if room c.length ([(b.1,f)]:Z5).length 16 then if fits (a+1)then t ((c++([(b.1,f)]:Z5)),j,q,(a+1),r,m,h,n,e,k,o,i,p,l)else none else none else if fits (a+1)then t (c,j,q,(a+1),r,m,h,n,e,k,o,i,p,l)else none)else some c) N (([]:Z5),d,(d.length:Int),(0:Int),A,z,v,B,C,w,y,u,d,x))
theorem jBc :mK 54 (bX [.agg [.pv (.sl .str),.pv Y20],.agg [.pv Y4,.pv Y6],.agg [pI,pS,.pv (.sl .str),pI,pI,.pv (.sl .q)]] [.own 1 Y18 93 true] (c10A (i_scores_m N))):=
 mO (fC (joa N) (fC (jCN N) (fC (jzy N N) ja))) func54 rfl N (.seq .no (.seq .no (.seq .no (.seq .no (.seq (.seq .no (.block (.loop jBM .no))) .no))))) _
def cmp454 (N:Nat):(Unit)->(Int×Int)->(Int×Int)->Option Int:=(fun(cmp:Unit) (e e2:Int×Int)=>i_hitOrder_m N e.1 e.2 e2.1 e2.2)
def jwq :Sh:=⟨.mtk 800000 Y18 93 true::pI::pI:: .clo 128 []::dz 4 (pI::dz 44 []),[]⟩
def jwI :Sh:=⟨.mtk 800000 Y18 93 true::pI::pI:: .clo 128 []::dz 4 (pI::pI::dz 43 []),[]⟩
def jvU (c:Z5) (b:Int) (a:Int) (d:Unit):Option (Z10):=insG (cmp454 N) N c b a d
 
theorem jwF :mK 271 (bX [.mtk 800000 Y18 93 true,pI,pI,.clo 128 []] [.tup [],.mtk 800000 Y18 93 true] (c4A (jvU N))):=
 mO (fC (jvi N) ja) func271 rfl N (.seq .no (.block (.loop jwq (.seq .no (.seq (.block (.seq .no (.block (.loop jwI .no)))) .no))))) _ (rs:=[800000])
def jv5 :Sh:=⟨.mtk 800000 Y18 93 true:: .dead::pI::pI:: .clo 128 []::dz 5 (pI::dz 71 []),[]⟩
def jwh :Sh:=⟨.mtk 800000 Y18 93 true:: .dead::pI::pI:: .clo 128 []::dz 5 (pI::pI::dz 70 []),[]⟩
def jvp (a:Z5) (e:Int) (c:Int) (b:Int) (d:Unit):Option (Z10):=siftG (cmp454 N) N a e c b d
 
theorem jwd :mK 314 (bX [.mtk 800000 Y18 93 true,pI,pI,pI,.clo 128 []] [.tup [],.mtk 800000 Y18 93 true] (c5A (jvp N))):=
 mO (fC (jvi N) ja) func314 rfl N (.seq .no (.block (.loop jv5 (.block (.seq .no (.seq .no (.meet jwh .no .no))))))) _ (rs:=[800000])
def jwy :Sh:=⟨.mtk 800000 Y18 93 true:: .dead:: .dead:: .clo 128 []::dz 4 (pI::pI::pI::pI::dz 48 []),[]⟩
def jwM :Sh:=⟨.mtk 800000 Y18 93 true:: .dead:: .dead:: .clo 128 []::dz 4 (pI::pI:: .dead:: .dead::pI::dz 47 []),[]⟩
def jvj (c:Z5) (b:Int) (a:Int) (d:Unit):Option (Z10):=heapG (cmp454 N) N c b a d
 
theorem jwr :mK 272 (bX [.mtk 800000 Y18 93 true,pI,pI,.clo 128 []] [.tup [],.mtk 800000 Y18 93 true] (c4A (jvj N))):=
 mO (fC (jwd N) ja) func272 rfl N (.seq .no (.seq .no (.seq .no (.seq (.seq .no (.block (.loop jwy .no))) (.seq .no (.block (.loop jwM .no))))))) _ (rs:=[800000])
def jw2 :Sh:=⟨.mtk 800000 Y18 93 true::pI::dz 6 (pI:: .box 9 0:: .pv (.int .u64)::pI::dz 55 []),[(9,false,[.pv (.int .u64)])]⟩
def jw5 :Sh:=⟨.mtk 800000 Y18 93 true::pI::dz 6 (pI:: .box 9 0:: .pv (.int .u64)::pI::pI::dz 54 []),[(9,false,[.pv (.int .u64)])]⟩
def jvw (c:Z5) (b:Int) (a:Int) (d:Unit):Option (Z10):=breakG N c b a d
 
theorem jwR :mK 273 (bX [.mtk 800000 Y18 93 true,pI,pI,.clo 128 []] [.tup [],.mtk 800000 Y18 93 true] (c4A (jvw N))):=
 mO (fC (jhv N) (fC (jet N) ja)) func273 rfl N (.seq .no (.seq .no (.cond (.seq .no (.seq .no (.seq .no (.block (.loop jw2 (.seq .no (.seq (.block (.seq .no (.meet jw5 .no .no))) .no))))))) .no))) _ (rs:=[800000])
def jvl (c:Z5) (b:Int) (a:Int) (d:Unit) (e:Int):Option (Int×Int×Z10×Int):=order2G (cmp454 N) N c b a d e
 
theorem jwG :mK 338 ⟨⟨[.mtk 800000 Y18 93 true,pI,pI,.box 900003 0,.clo 128 []],[(900003,false,[pI])]⟩,⟨[.tup [pI,pI],.mtk 800000 Y18 93 true],[(900003,false,[pI])]⟩,c5A (jvl N)⟩:=
 mO (fC (jvi N) ja) func338 rfl N .no _ (rs:=[900003,800000])
def jvr (d:Z5) (c:Int) (b:Int) (a:Int) (e:Unit) (f:Int):Option (Int×Z10×Int):=medianG (cmp454 N) N d c b a e f
 
theorem jvO :mK 316 ⟨⟨[.mtk 800000 Y18 93 true,pI,pI,pI,.box 900004 0,.clo 128 []],[(900004,false,[pI])]⟩,⟨[pI,.mtk 800000 Y18 93 true],[(900004,false,[pI])]⟩,c6A (jvr N)⟩:=
 mO (fC (jwG N) ja) func316 rfl N .no _ (rs:=[900004,800000])
def jvm (c:Z5) (b:Int) (d:Unit) (a:Int):Option (Int×Z10×Int):=medianAdjacentG (cmp454 N) N c b d a
 
theorem jwj :mK 315 ⟨⟨[.mtk 800000 Y18 93 true,pI,.box 900002 0,.clo 128 []],[(900002,false,[pI])]⟩,⟨[pI,.mtk 800000 Y18 93 true],[(900002,false,[pI])]⟩,c4A (jvm N)⟩:=
 mO (fC (jvO N) ja) func315 rfl N .no _ (rs:=[900002,800000])
def jwt :Sh:=⟨.mtk 800000 Y18 93 true:: .dead:: .dead:: .clo 128 []::dz 7 (.box 11 0::pI::pI::pI::dz 48 []),[(11,false,[pI])]⟩
def jwK :Sh:=⟨.mtk 800000 Y18 93 true::dz 10 (.box 11 0:: .dead::pI::dz 49 []),[(11,false,[pI])]⟩
def jvA (c:Z5) (b:Int) (a:Int) (d:Unit):Option (Int×Int×Z10):=choosePivotG (cmp454 N) N c b a d
 
theorem jwf :mK 274 (bX [.mtk 800000 Y18 93 true,pI,pI,.clo 128 []] [.tup [pI,pI],.mtk 800000 Y18 93 true] (c4A (jvA N))):=
 mO (fC (jwj N) (fC (jvO N) ja)) func274 rfl N (.seq .no (.seq .no (.seq .no (.seq .no (.seq .no (.seq .no (.meet jwK (.seq .no (.cond (.meet jwt .no .no) .no)) .no))))))) _ (rs:=[800000])
def jv2 :Sh:=⟨.mtk 800000 Y18 93 true::dz 7 (pI::pI::dz 24 []),[]⟩
def jvJ (c:Z5) (b:Int) (a:Int) (d:Unit):Option (Z10):=reverseRangeG N c b a d
 
theorem jwz :mK 275 (bX [.mtk 800000 Y18 93 true,pI,pI,.clo 128 []] [.tup [],.mtk 800000 Y18 93 true] (c4A (jvJ N))):=
 mO ja func275 rfl N (.seq .no (.seq .no (.block (.loop jv2 .no)))) _ (rs:=[800000])
def jw7 :Sh:=⟨.mtk 800000 Y18 93 true::pI::pI:: .clo 128 []::dz 5 (pI::pI::dz 130 []),[]⟩
def jwp :Sh:=⟨.mtk 800000 Y18 93 true::pI::pI:: .clo 128 []::dz 5 (pI::pI::pI::dz 129 []),[]⟩
def jwY :Sh:=⟨.mtk 800000 Y18 93 true::pI::pI:: .clo 128 []::dz 5 (pI::pI:: .dead::pI::dz 128 []),[]⟩
def jvz (c:Z5) (b:Int) (a:Int) (d:Unit):Option (Bool×Z10):=pisG (cmp454 N) N c b a d
 
theorem jw4 :mK 276 (bX [.mtk 800000 Y18 93 true,pI,pI,.clo 128 []] [pB,.mtk 800000 Y18 93 true] (c4A (jvz N))):=
 mO (fC (jvi N) ja) func276 rfl N (.seq .no (.seq .no (.seq (.seq .no (.block (.loop jw7 (.seq .no (.seq (.block (.seq (.block (.loop jw7 .no)) (.seq .no (.seq .no (.seq .no (.meet jw7 (.seq .no (.cond (.seq .no (.block (.loop jwp .no))) .no)) (.seq .no (.cond (.seq .no (.block (.loop jwY .no))) .no)))))))) .no))))) .no))) _ (rs:=[800000])
def jws :Sh:=⟨.mtk 800000 Y18 93 true::pI:: .dead:: .dead:: .clo 128 []::dz 6 (pI::pI::dz 77 []),[]⟩
def jvo (c:Z5) (b:Int) (a:Int) (d:Int) (e:Unit):Option (Int×Z10):=peqG (cmp454 N) N c b a d e
 
theorem jwA :mK 277 (bX [.mtk 800000 Y18 93 true,pI,pI,pI,.clo 128 []] [pI,.mtk 800000 Y18 93 true] (c5A (jvo N))):=
 mO (fC (jvi N) ja) func277 rfl N (.seq .no (.seq .no (.seq .no (.seq (.block (.loop jws (.block (.seq (.block (.loop jws .no)) (.seq (.block (.loop jws .no)) .no))))) .no)))) _ (rs:=[800000])
def jwU :Sh:=⟨.mtk 800000 Y18 93 true::pI:: .dead:: .dead:: .clo 128 []::dz 7 (pI::pI::dz 164 []),[]⟩
def jvs (c:Z5) (b:Int) (a:Int) (d:Int) (e:Unit):Option (Int×Bool×Z10):=partG (cmp454 N) N c b a d e
 
theorem jv9 :mK 278 (bX [.mtk 800000 Y18 93 true,pI,pI,pI,.clo 128 []] [.tup [pI,pB],.mtk 800000 Y18 93 true] (c5A (jvs N))):=
 mO (fC (jvi N) ja) func278 rfl N (.seq .no (.seq .no (.seq .no (.seq (.block (.loop jwU .no)) (.seq (.block (.loop jwU .no)) (.seq .no (.seq .no (.seq .no (.seq .no (.seq (.block (.loop jwU (.block (.seq (.block (.loop jwU .no)) (.seq (.block (.loop jwU .no)) .no))))) .no)))))))))) _ (rs:=[800000])
def jwT :Sh:=⟨.mtk 800000 Y18 93 true::pI::pI::pI:: .clo 128 []::dz 5 (pB::pB::dz 136 []),[]⟩
def jwO :Sh:=⟨.mtk 800000 Y18 93 true::pI::pI::pI:: .clo 128 []::dz 5 (pB::pB::pI::pI::dz 134 []),[]⟩
def jwP :Sh:=⟨.mtk 800000 Y18 93 true::pI::pI::pI:: .clo 128 []::dz 5 (pB::pB::pI::pI::pI::dz 133 []),[]⟩
def jwn :Sh:=⟨.mtk 800000 Y18 93 true::pI::pI::pI:: .clo 128 []::dz 5 (pB::pB::pI::dz 135 []),[]⟩
def jvh (N D:Nat) (h:Z5) (b a limit:Int) (e:Unit):Option (Z10):=pdqG (cmp454 N) (fun d b a c=>heapG (cmp454 N) N d b a c) (fun d b a f c=>peqG (cmp454 N) N d b a f c) N D h b a limit e
 
def jvn (N D:Nat):Model:=⟨⟨[.mtk 800000 Y18 93 true,pI,pI,pI,.clo 128 []],[]⟩,⟨[.tup [],.mtk 800000 Y18 93 true],[]⟩,c5A (jvh N D)⟩
theorem jwv (N D:Nat) (ih:mK 197 (jvn N D)):mK 197 (jvn N (D+1)):=
 mO (fC ih (fC (jwF N) (fC (jwr N) (fC (jwR N) (fC (jwf N) (fC (jwz N) (fC (jw4 N) (fC (jvi N) (fC (jwA N) (fC (jv9 N) ja)))))))))) func197 rfl N (.seq .no (.seq .no (.block (.loop jwT (.block (.seq .no (.seq .no (.seq .no (.meet jwn .no (.seq .no (.meet jwP .no (.meet jwO .no .no)))))))))))) (jvn N (D+1)) (rs:=[800000])
theorem jvI (N:Nat):∀D,mK 197 (jvn N D)
 |0=>modelOk_none ⟨_,func197,by decide,by kernel_rfl⟩ _ (fun a=>rfl)
 |D+1=>jwv N D (jvI N D)
def k_slices_SortFunc_454_m (a:Z5) (d:Unit):Option (Z10):=
 (oB (k_math_bits_Len_m N (IntKind.u64.wrap (a.length:Int))) fun c=>oB (jvh N N a 0 (a.length:Int) c ()) fun b=>some b)
theorem jwX :mK 127 (bX [.mtk 800000 Y18 93 true,.clo 128 []] [.tup [],.mtk 800000 Y18 93 true] (c2A (k_slices_SortFunc_454_m N))):=
 mO (fC (jda N) (fC (jvI N N) ja)) func127 rfl N .no _ (rs:=[800000])
def i_firstHits_m (b:Z5) (c:Int):Option (Z10):=
 (if room ([]:Z5).length b.length 16 then oB (k_slices_SortFunc_454_m N (([]:Z5)++b) ()) fun a=>(oB (cut a 0 (if c<(a.length:Int)then c else(a.length:Int))) fun d=>if room ([]:Z5).length d.length 16 then some (([]:Z5)++d)else none)else none)
theorem jv7 :mK 53 (bX [.pv Y17,pI] [.own 1 Y18 93 true] (c2A (i_firstHits_m N))):=
 mO (fC (jwX N) ja) func53 rfl N .no _ (wr:=[6,8,11,17,18])
def i_TopOf_m (e:List Z1) (j:List Z4) (k:List Z0) (f:List Z2) (l:Int) (i:List UInt8) (n:List Z1) (m:Int) (o:Int) (c:List DQ) (a:Int):Option (Z10):=
 (oB (i_within_m N a 1 16) fun d=>bif !d then some ([]:Z5)else oB (i_scores_m N e j k f l i n m o c) fun b=>oB (i_firstHits_m N b a) fun h=>some h)
theorem jCZ :mK 11 (bX [.agg [.pv (.sl .str),.pv Y20],.agg [.pv Y4,.pv Y6],.agg [pI,pS,.pv (.sl .str),pI,pI,.pv (.sl .q)],pI] [.own 1 Y18 93 true] (c11A (i_TopOf_m N))):=
 mO (fC (jY N) (fC (jBc N) (fC (jv7 N) ja))) func11 rfl N .no _
def i_IndexTop_m (b:List Z1) (a:List Z4) (d:List Z7) (i:Int) (h:List UInt8) (e:List Z1) (j:Int) (l:Int) (f:List DQ) (c:Int):Option (Z10):=
 (oB (i_IndexOk_m N b a d) fun q=>bif !q then some ([]:Z5)else oB (i_QueryOk_m N i h e j l f) fun m=>bif !m then some ([]:Z5)else oB (i_within_m N c 1 16) fun n=>bif !n then some ([]:Z5)else oB (i_allAlive_m N d) fun o=>oB (i_SegOf_m N b a o) fun k=>oB (i_TopOf_m N b a k.1 k.2 i h e j l f c) fun p=>some p)
theorem jIR :mK 7 (bX [.agg [.pv (.sl .str),.pv Y20,.pv Y1],.agg [pI,pS,.pv (.sl .str),pI,pI,.pv (.sl .q)],pI] [.own 1 Y18 93 true] (c10A (i_IndexTop_m N))):=
 mO (fC (jIr N) (fC (jCN N) (fC (jY N) (fC (jHR N) (fC (jqC N) (fC (jCZ N) ja)))))) func7 rfl N .no _
def jPn :Sh:=⟨.dead:: .dead::pI:: .dead:: .box 4 0::dz 3 (.box 8 0:: .own 56 Y13 128 true::dz 52 []),[(4,false,[pI,pI,.pv Y11]),(8,false,[pI,pI,.nils])]⟩
def i_CachePut_m (a:Int) (b:Int) (c:List Z3) (d:List UInt8) (f:Int) (e:Z5):Option (Int×Int×(List Z3)):=
 (oB (i_CacheOk_m N a b c) fun q=>bif !q then some (0,0,([]:List Z3))else bif decide (d=([]:List UInt8))then oB (i_Cache_without_m N a b c ([]:List UInt8)) fun k=>(some (a,b,k))else oB (i_within_m N f 0 999999999) fun m=>bif !m then oB (i_Cache_without_m N a b c ([]:List UInt8)) fun o=>(some (a,b,o))else oB (i_HitsOk_m N e) fun t=>bif !t then oB (i_Cache_without_m N a b c ([]:List UInt8)) fun p=>(some (a,b,p))else if room ([]:Z5).length e.length 16 then meet (fun(n:Int×(List Z3)×Int×Int×(List Z3)×Int×Int)=>match n with|(r,u,l,w,x,y,v)=>some (l,r,u)) fun i=>(bif decide (f=b)then oB (i_Cache_without_m N a b c d) fun h=>(if fits (a-1)then oB (cut h 0 (if(a-1)<(h.length:Int)then a-1 else(h.length:Int))) fun j=>(if room ([(d,(([]:Z5)++e))]:List Z3).length j.length 40 then i (f,(([(d,(([]:Z5)++e))]:List Z3)++j),a,b,c,0,0)else none)else none)else i (f,([(d,(([]:Z5)++e))]:List Z3),a,b,c,0,0))else none)
theorem jPb :mK 68 (bX [.agg [pI,pI,.pv Y11],pS,pI,.pv Y17] [.agg [pI,pI,.own 1 Y13 128 true]] (c6A (i_CachePut_m N))):=
 mO (fC (jOo N) (fC (jOy N) (fC (jY N) (fC (jwk N) ja)))) func68 rfl N (.seq .no (.seq .no (.seq .no (.seq .no (.meet jPn .no .no))))) _ (wr:=[55])
def i_CacheTop_m (i:Int) (d:Int) (e:List Z3) (o:List Z1) (n:List Z4) (q:List Z7) (b:Int) (k:Int) (j:List UInt8) (f:List Z1) (l:Int) (m:Int) (h:List DQ):Z22:=
 (oB (i_CacheOk_m N i d e) fun w=>bif !w then some (0,0,([]:List Z3),([]:Z5),false)else oB (i_IndexOk_m N o n q) fun t=>bif !t then some (0,0,([]:List Z3),([]:Z5),false)else oB (i_QueryOk_m N k j f l m h) fun u=>bif !u then some (0,0,([]:List Z3),([]:Z5),false)else oB (i_within_m N b 0 999999999) fun v=>bif !v then some (0,0,([]:List Z3),([]:Z5),false)else oB (i_QueryPut_m N k j f l m h) fun r=>oB (i_CacheGet_m N i d e r b) fun a=>bif a.2.2.2.2 then some (a.1,a.2.1,a.2.2.1,a.2.2.2.1,true)else oB (i_IndexTop_m N o n q k j f l m h 16) fun p=>oB (i_CachePut_m N i d e r b p) fun c=>some (c.1,c.2.1,c.2.2,p,false))
theorem jO9 :mK 15 (bX [.agg [pI,pI,.pv Y11],.agg [.pv (.sl .str),.pv Y20,.pv Y1],pI,.agg [pI,pS,.pv (.sl .str),pI,pI,.pv (.sl .q)]] [.tup [.agg [pI,pI,.own 1 Y13 128 true],.own 2 Y18 93 true,pB]] (c13A (i_CacheTop_m N))):=
 mO (fC (jOo N) (fC (jIr N) (fC (jCN N) (fC (jY N) (fC (jOC N) (fC (jOH N) (fC (jIR N) (fC (jPb N) ja)))))))) func15 rfl N .no _
def jxz (N:Nat) (k:Int) (j:List UInt8) (h:List Z1) (d:Int) (e:Int) (b:List DQ) (i:Bool) (f:Bool) (c:Bool) (a:Bool):Z8:=
 (bif i then bif f then bif c then bif a then some true else(some (decide ((b.length:Int)=0)))else(bif decide (d=0)then bif decide (e=0)then bif a then some true else(some (decide ((b.length:Int)=0)))else(some false)else some false)else(bif decide ((h.length:Int)=0)then bif c then bif a then some true else(some (decide ((b.length:Int)=0)))else(bif decide (d=0)then bif decide (e=0)then bif a then some true else(some (decide ((b.length:Int)=0)))else(some false)else some false)else some false)else bif decide (j=([]:List UInt8))then bif f then bif c then bif a then some true else(some (decide ((b.length:Int)=0)))else(bif decide (d=0)then bif decide (e=0)then bif a then some true else(some (decide ((b.length:Int)=0)))else(some false)else some false)else(bif decide ((h.length:Int)=0)then bif c then bif a then some true else(some (decide ((b.length:Int)=0)))else(bif decide (d=0)then bif decide (e=0)then bif a then some true else(some (decide ((b.length:Int)=0)))else(some false)else some false)else some false)else some false)
theorem jDV :mK 254 (bX [.agg [pI,pS,.pv (.sl .str),pI,pI,.pv (.sl .q)],pB,pB,pB,pB] [pB] (c10A (jxz N))):=
 mO ja func254 rfl N .no _
def jDt :Sh:=⟨.pv (.sl .str)::pI::dz 3 (pI::dz 16 []),[]⟩
def jxL (j:List Z1) (h:Int):Z8:=
 (iter (fun e (b,c,a)=>bif decide (a<(b.length:Int))then oB (idx b a) fun k=>(oB (jT N k) fun f=>bif !f then some false else if fits (a+1)then e (b,c,(a+1))else none)else oB (s_l1In_m N (b.length:Int) 1 c) fun d=>some d) N (j,h,(0:Int)))
theorem jDs :mK 255 (bX [.pv (.sl .str),pI] [pB] (c2A (jxL N))):=
 mO (fC (jgp N) (fC (jcL N) ja)) func255 rfl N (.seq .no (.seq (.seq .no (.block (.loop jDt .no))) .no)) _
def jBL :Sh:=⟨pS:: .dead:: .dead::pI::dz 28 [],[]⟩
def jyk (i:List UInt8):Z8:=
 (iter (fun c (b,a)=>bif decide (a<(b.length:Int))then oB (idx b a) fun f=>(bif !decide ((f.toNat:Int)=42)then oB (idx b a) fun j=>(bif !decide ((j.toNat:Int)=63)then if fits (a+1)then oB (cut b a (a+1)) fun k=>(oB (jT N k) fun e=>bif !e then some false else if fits (a+1)then c (b,(a+1))else none)else none else if fits (a+1)then c (b,(a+1))else none)else if fits (a+1)then c (b,(a+1))else none)else oB (s_l1In_m N (b.length:Int) 1 12) fun d=>some d) N (i,(0:Int)))
theorem jC1 :mK 256 (bX [pS] [pB] (c1A (jyk N))):=
 mO (fC (jgp N) (fC (jcL N) ja)) func256 rfl N (.seq .no (.seq (.seq .no (.block (.loop jBL .no))) .no)) _
def jDP :Sh:=⟨.dead:: .box 1 0:: .dead::pI::dz 4 (pI::dz 123 (pB::dz 34 [])),[(1,false,[pI,pS,.pv (.sl .str),pI,pI,.pv (.sl .q)])]⟩
def jyq (a:Int) (c:List UInt8) (b:List Z1) (d:Int) (e:Int) (f:List DQ):Z8:=
 (bif decide (a=1)then oB (jxz N a c b d e f false false false false) fun x=>(some x)else bif decide (a=2)then oB (jxz N a c b d e f true true false false) fun q=>(bif q then oB (jT N c) fun D=>(bif D then oB (jxL N b 1) fun G=>(some G)else some false)else some false)else bif decide (a=3)then oB (jxz N a c b d e f true true true false) fun X=>(bif X then oB (jT N c) fun L=>(bif L then oB (jxL N b 4) fun w=>(bif w then bif decide ((1:Int)<b.length)then bif decide (e=0)then oB (s_l1In_m N d 0 5) fun I=>(some I)else(some false)else(some false)else some false)else some false)else some false)else bif decide (a=4)then oB (jxz N a c b d e f true true true false) fun O=>(bif O then oB (jT N c) fun A=>(bif A then oB (jxL N b 1) fun R=>(bif R then bif decide (e=0)then oB (s_l1In_m N d 1 2) fun Q=>(some Q)else(some false)else some false)else some false)else some false)else bif decide (a=5)then oB (jxz N a c b d e f true true false false) fun v=>(bif v then oB (jT N c) fun z=>(bif z then bif decide ((b.length:Int)=1)then oB (idx b 0) fun u=>(oB (jyk N u) fun y=>bif y then oB (idx b 0) fun U=>(oB (jT N U) fun B=>some (!B))else some false)else(some false)else some false)else some false)else bif decide (a=6)then oB (jxz N a c b d e f true false true false) fun S=>(bif S then oB (jT N c) fun C=>(bif C then oB (s_l1In_m N d 0 999999999) fun P=>(bif P then oB (s_l1In_m N e d 999999999) fun T=>(some T)else some false)else some false)else some false)else meet (fun(E:Int×Int×Bool×Int×Z1×(List Z1)×Int×Int×(List DQ))=>match E with|(l,p,V,m,n,j,h,i,k)=>bif V then oB (jxz N m n j h i k false false false true) fun K=>(bif K then oB (s_l1In_m N l 2 4) fun H=>(some H)else some false)else bif decide (p=9)then oB (jxz N m n j h i k false false false true) fun t=>(bif t then some (decide (l=2))else some false)else bif decide (p=10)then oB (jxz N m n j h i k false false true true) fun r=>(bif r then bif decide (l=1)then bif decide (i=0)then oB (s_l1In_m N h 2 9) fun W=>(some W)else(some false)else(some false)else some false)else some false) fun o=>bif decide (a=7)then o ((f.length:Int),a,true,a,c,b,d,e,f)else o ((f.length:Int),a,(decide (a=8)),a,c,b,d,e,f))
theorem jBO :mK 178 (bX [.agg [pI,pS,.pv (.sl .str),pI,pI,.pv (.sl .q)]] [pB] (c6A (jyq N))):=
 mO (fC (jDV N) (fC (jgp N) (fC (jDs N) (fC (jcL N) (fC (jC1 N) ja))))) func178 rfl N (.seq .no (.seq .no (.seq (.seq .no (.block (.seq .no (.cond .no (.seq .no (.cond .no (.seq .no (.cond .no (.seq .no (.cond .no (.seq .no (.cond .no (.seq .no (.cond .no (.meet jDP .no .no))))))))))))))) .no))) _
def jD7 :Sh:=⟨.dead::pI:: .box 2 0:: .dead:: .dead::pI::dz 23 [],[(2,false,[pI,pS,.pv (.sl .str),pI,pI,.pv (.sl .q)])]⟩
def jxO (N:Nat):(D:Nat)->Int->Z1->(List Z1)->Int->Int->(List DQ)->Int->Z8
 |0,_,_,_,_,_,_,_=>none
 |D+1,q,q2,q3,q4,q5,q6,deep=>
 bif decide (deep=0)then
 some false
 else
 oB (jyq N q q2 q3 q4 q5 q6) fun r=>
 bif !r then
 some false
 else
 iter (fun go (g:Int×Int×Int×Z1×(List Z1)×Int×Int×(List DQ))=>
 match g with
 |(deep2,i,q7,q8,q9,q10,q11,q12)=>
 bif decide (i<(q12.length:Int))then
 oB (idx q12 i) fun e=>
 (if fits (deep2-1)then oB (jxO N D e.kind e.field e.words e.lo e.hi e.kids (deep2-1)) fun r2=>
 (bif !r2 then
 some false
 else
 if fits (i+1)then go (deep2,(i+1),q7,q8,q9,q10,q11,q12)else none)else none)
 else
 some true) N (deep,0,q,q2,q3,q4,q5,q6)
def jx9 (N D:Nat):Model:=⟨⟨[.agg [pI,pS,.pv (.sl .str),pI,pI,.pv (.sl .q)],pI],[]⟩,⟨[pB],[]⟩,c7A (jxO N D)⟩
theorem jBT (N D:Nat) (ih:mK 110 (jx9 N D)):mK 110 (jx9 N (D+1)):=
 mO (fC ih (fC (jBO N) ja)) func110 rfl N (.seq .no (.seq .no (.seq (.seq .no (.block (.loop jD7 .no))) .no))) (jx9 N (D+1))
theorem jzV (N:Nat):∀D,mK 110 (jx9 N D)
 |0=>modelOk_none ⟨_,func110,by decide,by kernel_rfl⟩ _ (fun a=>rfl)
 |D+1=>jBT N D (jzV N D)
def jE5 (d:Int) (c:List UInt8) (f:List Z1) (e:Int) (h:Int) (a:List DQ):Z8:=
 (oB (jxO N N d c f e h a 4) fun b=>some b)
theorem jBX :mK 45 (bX [.agg [pI,pS,.pv (.sl .str),pI,pI,.pv (.sl .q)]] [pB] (c6A (jE5 N))):=
 mO (fC (jzV N N) ja) func45 rfl N .no _
def jO2 :Sh:=⟨.dead::pS::pI:: .box 3 0:: .dead:: .dead:: .box 6 0:: .dead:: .dead:: .box 9 0::pI::dz 55 [],[(3,false,[pI,pI,.pv Y11]),(6,false,[pI,pI,.nils]),(9,false,[pI,pI,.own 700902 Y13 128 true])]⟩
def s_CacheGet_m (k:Int) (h:Int) (j:List Z3) (v:List UInt8) (t:Int):Z22:=
 (oB (s_l24Ok_m N k h j) fun y=>bif !y then some (0,0,([]:List Z3),([]:Z5),false)else oB (s_l24Copy_m N k h j) fun f=>iter (fun p (l,n,b,q,m,x,z,u,d,e,a)=>bif decide (b<(a.length:Int))then bif decide (n=m)then oB (idx a b) fun w=>(bif decide (w.1=l)then oB (idx a b) fun c=>(oB (cut a 0 b) fun i=>if room ([c]:List Z3).length i.length 40 then if fits (b+1)then oB (cut a (b+1) (a.length:Int)) fun o=>(if room (([c]:List Z3)++i).length o.length 40 then if room ([]:Z5).length c.2.length 16 then some (d,e,((([c]:List Z3)++i)++o),(([]:Z5)++c.2),true)else none else none)else none else none)else if fits (b+1)then p (l,n,(b+1),q,m,x,z,u,d,e,a)else none)else(some (d,e,a,([]:Z5),false))else some (d,e,a,([]:Z5),false)) N (v,t,(0:Int),k,h,j,(0:Int),(0:Int),f.1,f.2.1,f.2.2))
theorem jPi :mK 70 (bX [.agg [pI,pI,.pv Y11],pS,pI] [.tup [.agg [pI,pI,.own 1 Y13 128 false],.own 2 Y18 93 true,pB]] (c5A (s_CacheGet_m N))):=
 mO (fC (jOt N) (fC (jOv N) ja)) func70 rfl N (.seq .no (.seq .no (.seq .no (.seq (.seq .no (.block (.loop jO2 .no))) .no)))) _
def s_CacheTop_m (o:Int) (l:Int) (m:List Z3) (c:List Z1) (b:List Z4) (r:List Z7) (k:Int) (h:Int) (f:List UInt8) (d:List Z1) (i:Int) (j:Int) (e:List DQ):Z22:=
 (oB (s_l24Ok_m N o l m) fun x=>bif !x then some (0,0,([]:List Z3),([]:Z5),false)else oB (s_l18Ok_m N c b r) fun t=>bif !t then some (0,0,([]:List Z3),([]:Z5),false)else oB (jE5 N h f d i j e) fun u=>bif !u then some (0,0,([]:List Z3),([]:Z5),false)else oB (s_l1In_m N k 0 999999999) fun v=>bif !v then some (0,0,([]:List Z3),([]:Z5),false)else oB (s_l11Put_m N N h f d i j e) fun y=>oB (s_CacheGet_m N o l m y k) fun a=>bif a.2.2.2.2 then some (a.1,a.2.1,a.2.2.1,a.2.2.2.1,true)else oB (s_l18Docs_m N c b r) fun w=>oB (s_l7Of_m N c b w) fun p=>oB (s_l13Top_m N c b p.1 p.2 h f d i j e 16) fun q=>oB (s_l11Put_m N N h f d i j e) fun z=>oB (s_CachePut_m N o l m z k q) fun n=>some (n.1,n.2.1,n.2.2,q,false))
theorem jOS :mK 16 (bX [.agg [pI,pI,.pv Y11],.agg [.pv (.sl .str),.pv Y20,.pv Y1],pI,.agg [pI,pS,.pv (.sl .str),pI,pI,.pv (.sl .q)]] [.tup [.agg [pI,pI,.own 1 Y13 128 false],.own 2 Y18 93 true,pB]] (c13A (s_CacheTop_m N))):=
 mO (fC (jOt N) (fC (jIW N) (fC (jBX N) (fC (jcL N) (fC (jOu N N) (fC (jPi N) (fC (jH3 N) (fC (jmU N) (fC (jBA N) (fC (jOw N) ja)))))))))) func16 rfl N .no _
def jPB (N:Nat) (b:Z5) (a:Int):Z12:=
 (if fits (a-(b.length:Int))then bif decide ((a-(b.length:Int))<0)then some (-1)else(some (a-(b.length:Int)))else none)
theorem jQu :mK 223 (bX [.pv Y17,pI] [pI] (c2A (jPB N))):=
 mO ja func223 rfl N .no _
def jPv (a:List UInt8) (d:Z5) (b:Int):Z12:=
 (if fits (b-(a.length:Int))then bif decide ((b-(a.length:Int))<0)then some (-1)else(oB (jPB N d (b-(a.length:Int))) fun c=>bif decide (c<0)then some (-1)else some c)else none)
theorem jQx :mK 148 (bX [.agg [pS,.pv Y17],pI] [pI] (c3A (jPv N))):=
 mO (fC (jQu N) ja) func148 rfl N .no _
def jQk :Sh:=⟨.pv Y11::pI::dz 3 (pI::dz 21 []),[]⟩
def jPE (b:List Z3) (d:Int):Z12:=
 (if fits (d-(b.length:Int))then bif decide ((d-(b.length:Int))<0)then some (-1)else(iter (fun i (c,e,a)=>bif decide (a<(c.length:Int))then oB (idx c a) fun h=>(oB (jPv N h.1 h.2 e) fun f=>bif decide (f<0)then some (-1)else if fits (a+1)then i (c,f,(a+1))else none)else some e) N (b,(d-(b.length:Int)),(0:Int)))else none)
theorem jQq :mK 77 (bX [.pv Y11,pI] [pI] (c2A (jPE N))):=
 mO (fC (jQx N) ja) func77 rfl N (.seq .no (.seq .no (.seq .no (.seq (.seq .no (.block (.loop jQk .no))) .no)))) _
def jPA (e:Int) (d:Int) (b:List Z3) (c:Int):Z12:=
 (oB (jPE N b c) fun a=>bif decide (a<0)then some (-1)else some a)
theorem jPW :mK 22 (bX [.agg [pI,pI,.pv Y11],pI] [pI] (c4A (jPA N))):=
 mO (fC (jQq N) ja) func22 rfl N .no _
def jso :Sh:=⟨.pv (.sl .str)::pI::dz 3 (pI::dz 22 []),[]⟩
def jbK (c:List Z1) (f:Int):Z12:=
 (if fits (f-(c.length:Int))then bif decide ((f-(c.length:Int))<0)then some (-1)else(iter (fun h (d,a,b)=>bif decide (b<(d.length:Int))then oB (idx d b) fun e=>(if fits (a-(e.length:Int))then bif decide ((a-(e.length:Int))<0)then some (-1)else(if fits (b+1)then h (d,(a-(e.length:Int)),(b+1))else none)else none)else some a) N (c,(f-(c.length:Int)),(0:Int)))else none)
theorem jjn :mK 80 (bX [.pv (.sl .str),pI] [pI] (c2A (jbK N))):=
 mO ja func80 rfl N (.seq .no (.seq .no (.seq .no (.seq (.seq .no (.block (.loop jso .no))) .no)))) _
def jbp (c:List Z1) (b:List UInt8) (d:Int):Z12:=
 (oB (jbK N c d) fun a=>bif decide (a<0)then some (-1)else if fits (a-(b.length:Int))then bif decide ((a-(b.length:Int))<0)then some (-1)else(some (a-(b.length:Int)))else none)
theorem jsV :mK 224 (bX [.agg [.pv (.sl .str),pS],pI] [pI] (c3A (jbp N))):=
 mO (fC (jjn N) ja) func224 rfl N .no _
def jki :Sh:=⟨.pv Y20::pI::dz 3 (pI::dz 21 []),[]⟩
def jc6 (b:List Z4) (d:Int):Z12:=
 (if fits (d-(b.length:Int))then bif decide ((d-(b.length:Int))<0)then some (-1)else(iter (fun i (c,e,a)=>bif decide (a<(c.length:Int))then oB (idx c a) fun h=>(oB (jbp N h.1 h.2 e) fun f=>bif decide (f<0)then some (-1)else if fits (a+1)then i (c,f,(a+1))else none)else some e) N (b,(d-(b.length:Int)),(0:Int)))else none)
theorem jkX :mK 149 (bX [.pv Y20,pI] [pI] (c2A (jc6 N))):=
 mO (fC (jsV N) ja) func149 rfl N (.seq .no (.seq .no (.seq .no (.seq (.seq .no (.block (.loop jki .no))) .no)))) _
def jbD (d:List Z1) (c:List Z4) (e:Int):Z12:=
 (oB (jbK N d e) fun b=>bif decide (b<0)then some (-1)else oB (jc6 N c b) fun a=>bif decide (a<0)then some (-1)else some a)
theorem jm8 :mK 78 (bX [.agg [.pv (.sl .str),.pv Y20],pI] [pI] (c3A (jbD N))):=
 mO (fC (jjn N) (fC (jkX N) ja)) func78 rfl N .no _
def jaN (N:Nat) (b:List UInt8) (c:List UInt8) (a:Int):Z12:=
 (if fits (a-(b.length:Int))then bif decide ((a-(b.length:Int))<0)then some (-1)else(if fits ((a-(b.length:Int))-(c.length:Int))then bif decide (((a-(b.length:Int))-(c.length:Int))<0)then some (-1)else(some ((a-(b.length:Int))-(c.length:Int)))else none)else none)
theorem jpy :mK 360 (bX [.agg [pS,pS],pI] [pI] (c3A (jaN N))):=
 mO ja func360 rfl N .no _
def jms :Sh:=⟨.pv Y23::pI::dz 3 (pI::dz 21 []),[]⟩
def jdb (b:Z16) (d:Int):Z12:=
 (if fits (d-(b.length:Int))then bif decide ((d-(b.length:Int))<0)then some (-1)else(iter (fun i (c,e,a)=>bif decide (a<(c.length:Int))then oB (idx c a) fun h=>(oB (jaN N h.1 h.2 e) fun f=>bif decide (f<0)then some (-1)else if fits (a+1)then i (c,f,(a+1))else none)else some e) N (b,(d-(b.length:Int)),(0:Int)))else none)
theorem jns :mK 347 (bX [.pv Y23,pI] [pI] (c2A (jdb N))):=
 mO (fC (jpy N) ja) func347 rfl N (.seq .no (.seq .no (.seq .no (.seq (.seq .no (.block (.loop jms .no))) .no)))) _
def jaT (N:Nat) (b:List UInt8) (c:Int) (a:Int):Z12:=
 (if fits (a-(b.length:Int))then bif decide ((a-(b.length:Int))<0)then some (-1)else(some (a-(b.length:Int)))else none)
theorem joe :mK 361 (bX [.agg [pS,pI],pI] [pI] (c3A (jaT N))):=
 mO ja func361 rfl N .no _
def jkA :Sh:=⟨.pv Y19::pI::dz 3 (pI::dz 21 []),[]⟩
def jdV (b:Z11) (d:Int):Z12:=
 (if fits (d-(b.length:Int))then bif decide ((d-(b.length:Int))<0)then some (-1)else(iter (fun i (c,e,a)=>bif decide (a<(c.length:Int))then oB (idx c a) fun h=>(oB (jaT N h.1 h.2 e) fun f=>bif decide (f<0)then some (-1)else if fits (a+1)then i (c,f,(a+1))else none)else some e) N (b,(d-(b.length:Int)),(0:Int)))else none)
theorem jn5 :mK 348 (bX [.pv Y19,pI] [pI] (c2A (jdV N))):=
 mO (fC (joe N) ja) func348 rfl N (.seq .no (.seq .no (.seq .no (.seq (.seq .no (.block (.loop jkA .no))) .no)))) _
def jbq (f:Int) (c:Z16) (d:Z11) (e:Int):Z12:=
 (oB (jdb N c e) fun b=>bif decide (b<0)then some (-1)else oB (jdV N d b) fun a=>bif decide (a<0)then some (-1)else some a)
theorem jnC :mK 329 (bX [.agg [pI,.pv Y23,.pv Y19],pI] [pI] (c4A (jbq N))):=
 mO (fC (jns N) (fC (jn5 N) ja)) func329 rfl N .no _
def jqA :Sh:=⟨.pv Y4::pI::dz 3 (pI::dz 21 []),[]⟩
def jdo (b:List Z0) (e:Int):Z12:=
 (if fits (e-(b.length:Int))then bif decide ((e-(b.length:Int))<0)then some (-1)else(iter (fun i (c,f,a)=>bif decide (a<(c.length:Int))then oB (idx c a) fun d=>(oB (jbq N d.1 d.2.1 d.2.2 f) fun h=>bif decide (h<0)then some (-1)else if fits (a+1)then i (c,h,(a+1))else none)else some f) N (b,(e-(b.length:Int)),(0:Int)))else none)
theorem jsn :mK 294 (bX [.pv Y4,pI] [pI] (c2A (jdo N))):=
 mO (fC (jnC N) ja) func294 rfl N (.seq .no (.seq .no (.seq .no (.seq (.seq .no (.block (.loop jqA .no))) .no)))) _
def jeb (N:Nat) (b:List Int) (a:Int):Z12:=
 (if fits (a-(b.length:Int))then bif decide ((a-(b.length:Int))<0)then some (-1)else(some (a-(b.length:Int)))else none)
theorem jm4 :mK 226 (bX [.pv Y25,pI] [pI] (c2A (jeb N))):=
 mO ja func226 rfl N .no _
def jbb (d:Int) (b:List Int) (c:Int):Z12:=
 (oB (jeb N b c) fun a=>bif decide (a<0)then some (-1)else some a)
theorem jsZ :mK 362 (bX [.agg [pI,.pv Y25],pI] [pI] (c3A (jbb N))):=
 mO (fC (jm4 N) ja) func362 rfl N .no _
def joP :Sh:=⟨.pv Y15::pI::dz 3 (pI::dz 21 []),[]⟩
def jdz (b:Z6) (d:Int):Z12:=
 (if fits (d-(b.length:Int))then bif decide ((d-(b.length:Int))<0)then some (-1)else(iter (fun i (c,e,a)=>bif decide (a<(c.length:Int))then oB (idx c a) fun h=>(oB (jbb N h.1 h.2 e) fun f=>bif decide (f<0)then some (-1)else if fits (a+1)then i (c,f,(a+1))else none)else some e) N (b,(d-(b.length:Int)),(0:Int)))else none)
theorem jnZ :mK 349 (bX [.pv Y15,pI] [pI] (c2A (jdz N))):=
 mO (fC (jsZ N) ja) func349 rfl N (.seq .no (.seq .no (.seq .no (.seq (.seq .no (.block (.loop joP .no))) .no)))) _
def jbj (a:List UInt8) (c:List UInt8) (e:Z6) (b:Int):Z12:=
 (if fits (b-(a.length:Int))then bif decide ((b-(a.length:Int))<0)then some (-1)else(if fits ((b-(a.length:Int))-(c.length:Int))then bif decide (((b-(a.length:Int))-(c.length:Int))<0)then some (-1)else(oB (jdz N e ((b-(a.length:Int))-(c.length:Int))) fun d=>bif decide (d<0)then some (-1)else some d)else none)else none)
theorem joB :mK 330 (bX [.agg [pS,pS,.pv Y15],pI] [pI] (c4A (jbj N))):=
 mO (fC (jnZ N) ja) func330 rfl N .no _
def jtA :Sh:=⟨.pv Y6::pI::dz 3 (pI::dz 21 []),[]⟩
def jej (b:List Z2) (e:Int):Z12:=
 (if fits (e-(b.length:Int))then bif decide ((e-(b.length:Int))<0)then some (-1)else(iter (fun i (c,f,a)=>bif decide (a<(c.length:Int))then oB (idx c a) fun d=>(oB (jbj N d.1 d.2.1 d.2.2 f) fun h=>bif decide (h<0)then some (-1)else if fits (a+1)then i (c,h,(a+1))else none)else some f) N (b,(e-(b.length:Int)),(0:Int)))else none)
theorem jrU :mK 295 (bX [.pv Y6,pI] [pI] (c2A (jej N))):=
 mO (fC (joB N) ja) func295 rfl N (.seq .no (.seq .no (.seq .no (.seq (.seq .no (.block (.loop jtA .no))) .no)))) _
def jbR (d:List Z0) (c:List Z2) (e:Int):Z12:=
 (oB (jdo N d e) fun b=>bif decide (b<0)then some (-1)else oB (jej N c b) fun a=>bif decide (a<0)then some (-1)else some a)
theorem jpO :mK 225 (bX [.agg [.pv Y4,.pv Y6],pI] [pI] (c3A (jbR N))):=
 mO (fC (jsn N) (fC (jrU N) ja)) func225 rfl N .no _
def l_szLive_m (d:List Z0) (c:List Z2) (e:List Int) (f:Int):Z12:=
 (oB (jbR N d c f) fun b=>bif decide (b<0)then some (-1)else oB (jeb N e b) fun a=>bif decide (a<0)then some (-1)else some a)
theorem jJg :mK 150 (bX [.agg [.pv Y4,.pv Y6,.pv Y25],pI] [pI] (c4A (l_szLive_m N))):=
 mO (fC (jpO N) (fC (jm4 N) ja)) func150 rfl N .no _
def jJf :Sh:=⟨.pv Y1::pI::dz 3 (pI::dz 21 []),[]⟩
def l_szLiveS_m (b:List Z7) (e:Int):Z12:=
 (if fits (e-(b.length:Int))then bif decide ((e-(b.length:Int))<0)then some (-1)else(iter (fun i (c,f,a)=>bif decide (a<(c.length:Int))then oB (idx c a) fun d=>(oB (l_szLive_m N d.1.1 d.1.2 d.2 f) fun h=>bif decide (h<0)then some (-1)else if fits (a+1)then i (c,h,(a+1))else none)else some f) N (b,(e-(b.length:Int)),(0:Int)))else none)
theorem jJA :mK 79 (bX [.pv Y1,pI] [pI] (c2A (l_szLiveS_m N))):=
 mO (fC (jJg N) ja) func79 rfl N (.seq .no (.seq .no (.seq .no (.seq (.seq .no (.block (.loop jJf .no))) .no)))) _
def l_szIndex_m (d:List Z1) (c:List Z4) (e:List Z7) (f:Int):Z12:=
 (oB (jbD N d c f) fun b=>bif decide (b<0)then some (-1)else oB (l_szLiveS_m N e b) fun a=>bif decide (a<0)then some (-1)else some a)
theorem jIX :mK 23 (bX [.agg [.pv (.sl .str),.pv Y20,.pv Y1],pI] [pI] (c4A (l_szIndex_m N))):=
 mO (fC (jm8 N) (fC (jJA N) ja)) func23 rfl N .no _
def jzT :Sh:=⟨[.agg [pI,pS,.pv (.sl .str),pI,pI,.pv (.sl .q)],pI],[]⟩
def jAp :Sh:=⟨[pI],[]⟩
def jDq :Sh:=⟨[.pv (.sl .q),pI],[]⟩
def jCU :Sh:=⟨[pI],[]⟩
def jBx :Sh:=⟨.pv (.sl .q)::pI::dz 3 (pI::dz 21 []),[]⟩
def jzK (j:Z26->Option Int) (c:List DQ) (e:Int):Z12:=
 (if fits (e-(c.length:Int))then bif decide ((e-(c.length:Int))<0)then some (-1)else(iter (fun i (d,f,b)=>bif decide (b<(d.length:Int))then oB (idx d b) fun a=>(oB (j (a.kind,a.field,a.words,a.lo,a.hi,a.kids,f)) fun h=>bif decide (h<0)then some (-1)else if fits (b+1)then i (d,h,(b+1))else none)else some f) N (c,(e-(c.length:Int)),(0:Int)))else none)
def jAt (N:Nat) (F:Z26->Option Int):Model:=⟨jDq,jCU,fun a=>jzK N F a.1 a.2⟩
theorem jCA (N:Nat) (F:Z26->Option Int) (hF:mK 24 ⟨jzT,jAp,F⟩):mK 81 (jAt N F):=
 mO (fC hF ja) func81 rfl N (.seq .no (.seq .no (.seq .no (.seq (.seq .no (.block (.loop jBx .no))) .no)))) (jAt N F)
def jGR (N:Nat):(D:Nat)->Int->Z1->(List Z1)->Int->Int->(List DQ)->Int->Z12
 |0,_,_,_,_,_,_,_=>none
 |D+1,a,a2,a3,a4,a5,a6,left=>
 if fits (left-(a2.length:Int))then bif decide ((left-(a2.length:Int))<0)then
 some (-1)
 else
 (oB (jbK N a3 (left-(a2.length:Int))) fun r=>
 bif decide (r<0)then
 some (-1)
 else
 oB (jzK N (fun a=>jGR N D a.1 a.2.1 a.2.2.1 a.2.2.2.1 a.2.2.2.2.1 a.2.2.2.2.2.1 a.2.2.2.2.2.2) a6 r) fun r2=>
 bif decide (r2<0)then
 some (-1)
 else
 some r2)else none
def jya (N D:Nat):Model:=⟨jzT,jAp,c7A (jGR N D)⟩
theorem jBb (N D:Nat) (ih:mK 24 (jya N D)):mK 24 (jya N (D+1)):=
 mO (fC ih (fC (jjn N) (fC (jCA N _ ih) ja))) func24 rfl N .no (jya N (D+1))
theorem jzH (N:Nat):∀D,mK 24 (jya N D)
 |0=>modelOk_none ⟨_,func24,by decide,by kernel_rfl⟩ _ (fun a=>rfl)
 |D+1=>jBb N D (jzH N D)
def jPx (N:Nat) (b:Int) (a:Int):Option (Int×Int):=
 (some (b,a))
theorem jEx :mK 296 (bX [.agg [pI,pI]] [.agg [pI,pI]] (c2A (jPx N))):=
 mO ja func296 rfl N .no _
def jQn :Sh:=⟨.pv Y17:: .dead:: .dead:: .mtk 600003 Y18 93 true::pI::dz 18 [],[]⟩
def jPC (b:Z5):Option (Z10):=
 (if(b.length:Int)=(b.length:Int)/\0<=(b.length:Int)/\(b.length:Int)*16<=140737488355328/\(b.length:Int)<=140737488355328 then iter (fun f (d,c,a)=>bif decide (a<(d.length:Int))then oB (idx d a) fun e=>(oB (jPx N e.1 e.2) fun h=>if 0<=a/\a<(c.length:Int)then oB (c[a.toNat]?) fun j=>(if fits (a+1)then f (d,(c.set a.toNat h),(a+1))else none)else none)else some c) N (b,(List.replicate (b.length:Int).toNat (0,0)),(0:Int))else none)
theorem jPY :mK 227 (bX [.pv Y17] [.own 1 Y18 93 true] (c1A (jPC N))):=
 mO (fC (jEx N) ja) func227 rfl N (.seq .no (.seq .no (.seq (.seq .no (.block (.loop jQn .no))) .no))) _ (wr:=[7]) (dw:=[20])
def jPw (c:List UInt8) (a:Z5):Option Z3:=
 (oB (jPC N a) fun b=>some (c,b))
theorem jQi :mK 151 (bX [.agg [pS,.pv Y17]] [.agg [pS,.own 1 Y18 93 true]] (c2A (jPw N))):=
 mO (fC (jPY N) ja) func151 rfl N .no _ (dw:=[9])
def jQA :Sh:=⟨.pv Y11:: .dead:: .dead:: .tre 600003 Y13 128::pI::dz 18 [],[]⟩
def jPD (b:List Z3):Option ((List Z3)):=
 (if(b.length:Int)=(b.length:Int)/\0<=(b.length:Int)/\(b.length:Int)*40<=140737488355328/\(b.length:Int)<=140737488355328 then iter (fun f (d,c,a)=>bif decide (a<(d.length:Int))then oB (idx d a) fun e=>(oB (jPw N e.1 e.2) fun h=>if 0<=a/\a<(c.length:Int)then oB (c[a.toNat]?) fun j=>(if fits (a+1)then f (d,(c.set a.toNat h),(a+1))else none)else none)else some c) N (b,(List.replicate (b.length:Int).toNat (([]:List UInt8),([]:Z5))),(0:Int))else none)
theorem jQm :mK 82 (bX [.pv Y11] [.own 1 Y13 128 true] (c1A (jPD N))):=
 mO (fC (jQi N) ja) func82 rfl N (.seq .no (.seq .no (.seq (.seq .no (.block (.loop jQA .no))) .no))) _ (wr:=[7]) (dw:=[20])
def jPs (c:Int) (a:Int) (d:List Z3):Option (Int×Int×(List Z3)):=
 (oB (jPD N d) fun b=>some (c,a,b))
theorem jP7 :mK 25 (bX [.agg [pI,pI,.pv Y11]] [.agg [pI,pI,.own 1 Y13 128 true]] (c3A (jPs N))):=
 mO (fC (jQm N) ja) func25 rfl N .no _ (dw:=[12])
def jqD :Sh:=⟨.pv (.sl .str):: .dead:: .dead:: .mtk 600003 .str 9 true::pI::dz 17 [],[]⟩
def jci (b:List Z1):Option ((List Z1)):=
 (if(b.length:Int)=(b.length:Int)/\0<=(b.length:Int)/\(b.length:Int)*16<=140737488355328/\(b.length:Int)<=140737488355328 then iter (fun e (d,c,a)=>bif decide (a<(d.length:Int))then oB (idx d a) fun h=>(if 0<=a/\a<(c.length:Int)then oB (c[a.toNat]?) fun i=>(if fits (a+1)then e (d,(c.set a.toNat h),(a+1))else none)else none)else some c) N (b,(List.replicate (b.length:Int).toNat ([]:List UInt8)),(0:Int))else none)
theorem jiJ :mK 85 (bX [.pv (.sl .str)] [.own 1 .str 9 true] (c1A (jci N))):=
 mO ja func85 rfl N (.seq .no (.seq .no (.seq (.seq .no (.block (.loop jqD .no))) .no))) _ (wr:=[7])
def ja0 (c:List Z1) (a:List UInt8):Option Z4:=
 (oB (jci N c) fun b=>some (b,a))
theorem jr7 :mK 228 (bX [.agg [.pv (.sl .str),pS]] [.agg [.own 1 .str 9 true,pS]] (c2A (ja0 N))):=
 mO (fC (jiJ N) ja) func228 rfl N .no _ (dw:=[6])
def jos :Sh:=⟨.pv Y20:: .dead:: .dead:: .tre 600003 Y22 172::pI::dz 18 [],[]⟩
def jeh (b:List Z4):Option ((List Z4)):=
 (if(b.length:Int)=(b.length:Int)/\0<=(b.length:Int)/\(b.length:Int)*40<=140737488355328/\(b.length:Int)<=140737488355328 then iter (fun f (d,c,a)=>bif decide (a<(d.length:Int))then oB (idx d a) fun e=>(oB (ja0 N e.1 e.2) fun h=>if 0<=a/\a<(c.length:Int)then oB (c[a.toNat]?) fun j=>(if fits (a+1)then f (d,(c.set a.toNat h),(a+1))else none)else none)else some c) N (b,(List.replicate (b.length:Int).toNat (([]:List Z1),([]:List UInt8))),(0:Int))else none)
theorem jqR :mK 152 (bX [.pv Y20] [.own 1 Y22 172 true] (c1A (jeh N))):=
 mO (fC (jr7 N) ja) func152 rfl N (.seq .no (.seq .no (.seq (.seq .no (.block (.loop jos .no))) .no))) _ (wr:=[7]) (dw:=[20])
def jad (d:List Z1) (b:List Z4):Option ((List Z1)×(List Z4)):=
 (oB (jci N d) fun c=>oB (jeh N b) fun a=>some (c,a))
theorem jtJ :mK 83 (bX [.agg [.pv (.sl .str),.pv Y20]] [.agg [.own 1 .str 9 true,.own 2 Y22 172 true]] (c2A (jad N))):=
 mO (fC (jiJ N) (fC (jqR N) ja)) func83 rfl N .no _ (dw:=[6,10])
def jaW (N:Nat) (b:List UInt8) (a:List UInt8):Option (Z1×Z1):=
 (some (b,a))
theorem jlT :mK 363 (bX [.agg [pS,pS]] [.agg [pS,pS]] (c2A (jaW N))):=
 mO ja func363 rfl N .no _
def jp2 :Sh:=⟨.pv Y23:: .dead:: .dead:: .mtk 600003 Y24 107 true::pI::dz 18 [],[]⟩
def jdS (b:Z16):Option (Z15):=
 (if(b.length:Int)=(b.length:Int)/\0<=(b.length:Int)/\(b.length:Int)*32<=140737488355328/\(b.length:Int)<=140737488355328 then iter (fun f (d,c,a)=>bif decide (a<(d.length:Int))then oB (idx d a) fun e=>(oB (jaW N e.1 e.2) fun h=>if 0<=a/\a<(c.length:Int)then oB (c[a.toNat]?) fun j=>(if fits (a+1)then f (d,(c.set a.toNat h),(a+1))else none)else none)else some c) N (b,(List.replicate (b.length:Int).toNat (([]:List UInt8),([]:List UInt8))),(0:Int))else none)
theorem jmr :mK 350 (bX [.pv Y23] [.own 1 Y24 107 true] (c1A (jdS N))):=
 mO (fC (jlT N) ja) func350 rfl N (.seq .no (.seq .no (.seq (.seq .no (.block (.loop jp2 .no))) .no))) _ (wr:=[7]) (dw:=[20])
def jaX (N:Nat) (b:List UInt8) (a:Int):Option (Z1×Int):=
 (some (b,a))
theorem jnE :mK 364 (bX [.agg [pS,pI]] [.agg [pS,pI]] (c2A (jaX N))):=
 mO ja func364 rfl N .no _
def jpn :Sh:=⟨.pv Y19:: .dead:: .dead:: .mtk 600003 Y21 258 true::pI::dz 18 [],[]⟩
def jd3 (b:Z11):Option (Z9):=
 (if(b.length:Int)=(b.length:Int)/\0<=(b.length:Int)/\(b.length:Int)*24<=140737488355328/\(b.length:Int)<=140737488355328 then iter (fun f (d,c,a)=>bif decide (a<(d.length:Int))then oB (idx d a) fun e=>(oB (jaX N e.1 e.2) fun h=>if 0<=a/\a<(c.length:Int)then oB (c[a.toNat]?) fun j=>(if fits (a+1)then f (d,(c.set a.toNat h),(a+1))else none)else none)else some c) N (b,(List.replicate (b.length:Int).toNat (([]:List UInt8),0)),(0:Int))else none)
theorem jqJ :mK 351 (bX [.pv Y19] [.own 1 Y21 258 true] (c1A (jd3 N))):=
 mO (fC (jnE N) ja) func351 rfl N (.seq .no (.seq .no (.seq (.seq .no (.block (.loop jpn .no))) .no))) _ (wr:=[7]) (dw:=[20])
def jbv (d:Int) (b:Z16) (e:Z11):Option Z0:=
 (oB (jdS N b) fun c=>oB (jd3 N e) fun a=>some (d,c,a))
theorem jsM :mK 331 (bX [.agg [pI,.pv Y23,.pv Y19]] [.agg [pI,.own 1 Y24 107 true,.own 2 Y21 258 true]] (c3A (jbv N))):=
 mO (fC (jmr N) (fC (jqJ N) ja)) func331 rfl N .no _ (dw:=[9,13])
def jmB :Sh:=⟨.pv Y4:: .dead:: .dead:: .tre 600003 Y5 105::pI::dz 18 [],[]⟩
def jdO (b:List Z0):Z21:=
 (if(b.length:Int)=(b.length:Int)/\0<=(b.length:Int)/\(b.length:Int)*56<=140737488355328/\(b.length:Int)<=140737488355328 then iter (fun f (d,c,a)=>bif decide (a<(d.length:Int))then oB (idx d a) fun e=>(oB (jbv N e.1 e.2.1 e.2.2) fun h=>if 0<=a/\a<(c.length:Int)then oB (c[a.toNat]?) fun j=>(if fits (a+1)then f (d,(c.set a.toNat h),(a+1))else none)else none)else some c) N (b,(List.replicate (b.length:Int).toNat (0,([]:Z16),([]:Z11))),(0:Int))else none)
theorem jsQ :mK 297 (bX [.pv Y4] [.own 1 Y5 105 true] (c1A (jdO N))):=
 mO (fC (jsM N) ja) func297 rfl N (.seq .no (.seq .no (.seq (.seq .no (.block (.loop jmB .no))) .no))) _ (wr:=[7]) (dw:=[20])
def jng :Sh:=⟨.pv Y25:: .dead:: .dead:: .mtk 600003 tI 3 true::pI::dz 17 [],[]⟩
def jek (b:List Int):Option ((List Int)):=
 (if(b.length:Int)=(b.length:Int)/\0<=(b.length:Int)/\(b.length:Int)*8<=140737488355328/\(b.length:Int)<=140737488355328 then iter (fun e (d,c,a)=>bif decide (a<(d.length:Int))then oB (idx d a) fun h=>(if 0<=a/\a<(c.length:Int)then oB (c[a.toNat]?) fun i=>(if fits (a+1)then e (d,(c.set a.toNat h),(a+1))else none)else none)else some c) N (b,(List.replicate (b.length:Int).toNat 0),(0:Int))else none)
theorem jqI :mK 230 (bX [.pv Y25] [.own 1 tI 3 true] (c1A (jek N))):=
 mO ja func230 rfl N (.seq .no (.seq .no (.seq (.seq .no (.block (.loop jng .no))) .no))) _ (wr:=[7])
def jbr (c:Int) (a:List Int):Option (Int×(List Int)):=
 (oB (jek N a) fun b=>some (c,b))
theorem jks :mK 365 (bX [.agg [pI,.pv Y25]] [.agg [pI,.own 1 tI 3 true]] (c2A (jbr N))):=
 mO (fC (jqI N) ja) func365 rfl N .no _ (dw:=[9])
def joy :Sh:=⟨.pv Y15:: .dead:: .dead:: .tre 600003 Y16 196::pI::dz 18 [],[]⟩
def jdx (b:Z6):Option (Z14):=
 (if(b.length:Int)=(b.length:Int)/\0<=(b.length:Int)/\(b.length:Int)*32<=140737488355328/\(b.length:Int)<=140737488355328 then iter (fun f (d,c,a)=>bif decide (a<(d.length:Int))then oB (idx d a) fun e=>(oB (jbr N e.1 e.2) fun h=>if 0<=a/\a<(c.length:Int)then oB (c[a.toNat]?) fun j=>(if fits (a+1)then f (d,(c.set a.toNat h),(a+1))else none)else none)else some c) N (b,(List.replicate (b.length:Int).toNat (0,([]:List Int))),(0:Int))else none)
theorem jpe :mK 352 (bX [.pv Y15] [.own 1 Y16 196 true] (c1A (jdx N))):=
 mO (fC (jks N) ja) func352 rfl N (.seq .no (.seq .no (.seq (.seq .no (.block (.loop joy .no))) .no))) _ (wr:=[7]) (dw:=[20])
def jaM (c:List UInt8) (a:List UInt8) (d:Z6):Option Z2:=
 (oB (jdx N d) fun b=>some (c,a,b))
theorem jnB :mK 332 (bX [.agg [pS,pS,.pv Y15]] [.agg [pS,pS,.own 1 Y16 196 true]] (c3A (jaM N))):=
 mO (fC (jpe N) ja) func332 rfl N .no _ (dw:=[12])
def jk2 :Sh:=⟨.pv Y6:: .dead:: .dead:: .tre 600003 Y7 116::pI::dz 18 [],[]⟩
def jd4 (b:List Z2):Option ((List Z2)):=
 (if(b.length:Int)=(b.length:Int)/\0<=(b.length:Int)/\(b.length:Int)*56<=140737488355328/\(b.length:Int)<=140737488355328 then iter (fun f (d,c,a)=>bif decide (a<(d.length:Int))then oB (idx d a) fun e=>(oB (jaM N e.1 e.2.1 e.2.2) fun h=>if 0<=a/\a<(c.length:Int)then oB (c[a.toNat]?) fun j=>(if fits (a+1)then f (d,(c.set a.toNat h),(a+1))else none)else none)else some c) N (b,(List.replicate (b.length:Int).toNat (([]:List UInt8),([]:List UInt8),([]:Z6))),(0:Int))else none)
theorem jsC :mK 298 (bX [.pv Y6] [.own 1 Y7 116 true] (c1A (jd4 N))):=
 mO (fC (jnB N) ja) func298 rfl N (.seq .no (.seq .no (.seq (.seq .no (.block (.loop jk2 .no))) .no))) _ (wr:=[7]) (dw:=[20])
def jZ (d:List Z0) (b:List Z2):Option ((List Z0)×(List Z2)):=
 (oB (jdO N d) fun c=>oB (jd4 N b) fun a=>some (c,a))
theorem jqs :mK 229 (bX [.agg [.pv Y4,.pv Y6]] [.agg [.own 1 Y5 105 true,.own 2 Y7 116 true]] (c2A (jZ N))):=
 mO (fC (jsQ N) (fC (jsC N) ja)) func229 rfl N .no _ (dw:=[6,10])
def l_toLive_m (d:List Z0) (c:List Z2) (e:List Int):Option ((List Z0)×(List Z2)×(List Int)):=
 (oB (jZ N d c) fun a=>oB (jek N e) fun b=>some (a.1,a.2,b))
theorem jI5 :mK 153 (bX [.agg [.pv Y4,.pv Y6,.pv Y25]] [.agg [.own 1 Y5 105 true,.own 2 Y7 116 true,.own 3 tI 3 true]] (c3A (l_toLive_m N))):=
 mO (fC (jqs N) (fC (jqI N) ja)) func153 rfl N .no _ (dw:=[6,10])
def jIN :Sh:=⟨.pv Y1:: .dead:: .dead:: .tre 600003 Y2 96::pI::dz 18 [],[]⟩
def l_toLiveS_m (b:List Z7):Option ((List Z7)):=
 (if(b.length:Int)=(b.length:Int)/\0<=(b.length:Int)/\(b.length:Int)*72<=140737488355328/\(b.length:Int)<=140737488355328 then iter (fun h (e,c,a)=>bif decide (a<(e.length:Int))then oB (idx e a) fun f=>(oB (l_toLive_m N f.1.1 f.1.2 f.2) fun d=>if 0<=a/\a<(c.length:Int)then oB (c[a.toNat]?) fun j=>(if fits (a+1)then h (e,(c.set a.toNat ((d.1,d.2.1),d.2.2)),(a+1))else none)else none)else some c) N (b,(List.replicate (b.length:Int).toNat ((([]:List Z0),([]:List Z2)),([]:List Int))),(0:Int))else none)
theorem jJj :mK 84 (bX [.pv Y1] [.own 1 Y2 96 true] (c1A (l_toLiveS_m N))):=
 mO (fC (jI5 N) ja) func84 rfl N (.seq .no (.seq .no (.seq (.seq .no (.block (.loop jIN .no))) .no))) _ (wr:=[7]) (dw:=[20])
def l_toIndex_m (d:List Z1) (c:List Z4) (e:List Z7):Option ((List Z1)×(List Z4)×(List Z7)):=
 (oB (jad N d c) fun a=>oB (l_toLiveS_m N e) fun b=>some (a.1,a.2,b))
theorem jJt :mK 26 (bX [.agg [.pv (.sl .str),.pv Y20,.pv Y1]] [.agg [.own 1 .str 9 true,.own 2 Y22 172 true,.own 3 Y2 96 true]] (c3A (l_toIndex_m N))):=
 mO (fC (jtJ N) (fC (jJj N) ja)) func26 rfl N .no _ (dw:=[6,10])
def jAj :Sh:=⟨[.agg [pI,pS,.pv (.sl .str),pI,pI,.pv (.sl .q)]],[]⟩
def jAx :Sh:=⟨[.agg [pI,pS,.own 1 .str 9 true,pI,pI,.own 2 .q 32 true]],[]⟩
def jCM :Sh:=⟨[.pv (.sl .q)],[]⟩
def jCG :Sh:=⟨[.own 1 .q 32 true],[]⟩
def jBg :Sh:=⟨.pv (.sl .q):: .dead:: .dead:: .tre 600003 .q 32::pI::dz 18 [],[]⟩
def jyE (i:Z18->Option Z18) (b:List DQ):Option ((List DQ)):=
 (if(b.length:Int)=(b.length:Int)/\0<=(b.length:Int)/\(b.length:Int)*88<=140737488355328/\(b.length:Int)<=140737488355328 then iter (fun h (f,e,a)=>bif decide (a<(f.length:Int))then oB (idx f a) fun d=>(oB (i (d.kind,d.field,d.words,d.lo,d.hi,d.kids)) fun c=>if 0<=a/\a<(e.length:Int)then oB (e[a.toNat]?) fun k=>(if fits (a+1)then h (f,(e.set a.toNat (DQ.mk c.1 c.2.1 c.2.2.1 c.2.2.2.1 c.2.2.2.2.1 c.2.2.2.2.2)),(a+1))else none)else none)else some e) N (b,(List.replicate (b.length:Int).toNat (DQ.mk 0 ([]:List UInt8) ([]:List Z1) 0 0 ([]:List DQ))),(0:Int))else none)
def jAb (N:Nat) (F:Z18->Option Z18):Model:=⟨jCM,jCG,fun a=>jyE N F a⟩
theorem jAY (N:Nat) (F:Z18->Option Z18) (hF:mK 27 ⟨jAj,jAx,F⟩):mK 86 (jAb N F):=
 mO (fC hF ja) func86 rfl N (.seq .no (.seq .no (.seq (.seq .no (.block (.loop jBg .no))) .no))) (jAb N F) (wr:=[7]) (dw:=[20])
def jxF (N:Nat):(D:Nat)->Int->Z1->(List Z1)->Int->Int->(List DQ)->Option Z18
 |0,_,_,_,_,_,_=>none
 |D+1,a,a2,a3,a4,a5,a6=>
 oB (jci N a3) fun r=>
 oB (jyE N (fun a=>jxF N D a.1 a.2.1 a.2.2.1 a.2.2.2.1 a.2.2.2.2.1 a.2.2.2.2.2) a6) fun r2=>
 some (a,a2,r,a4,a5,r2)
def jx7 (N D:Nat):Model:=⟨jAj,jAx,c6A (jxF N D)⟩
theorem jBK (N D:Nat) (ih:mK 27 (jx7 N D)):mK 27 (jx7 N (D+1)):=
 mO (fC ih (fC (jiJ N) (fC (jAY N _ ih) ja))) func27 rfl N .no (jx7 N (D+1)) (dw:=[12,22])
theorem jy9 (N:Nat):∀D,mK 27 (jx7 N D)
 |0=>modelOk_none ⟨_,func27,by decide,by kernel_rfl⟩ _ (fun a=>rfl)
 |D+1=>jBK N D (jy9 N D)
def jxc (N:Nat) (c:Int) (a:Int) (b:Int) (d:Int):Z8:=
 (bif !decide (c=b)then some false else bif !decide (a=d)then some false else some true)
theorem jxx :mK 88 (bX [.agg [pI,pI],.agg [pI,pI]] [pB] (c4A (jxc N))):=
 mO ja func88 rfl N .no _
def jxv :Sh:=⟨.pv Y17:: .pv Y17::dz 3 (pI::dz 21 []),[]⟩
def jxe (f:Z5) (c:Z5):Z8:=
 (bif !decide ((f.length:Int)=(c.length:Int))then some false else iter (fun i (b,d,a)=>bif decide (a<(b.length:Int))then oB (idx b a) fun h=>(oB (idx d a) fun e=>oB (jxc N h.1 h.2 e.1 e.2) fun j=>bif !j then some false else if fits (a+1)then i (b,d,(a+1))else none)else some true) N (f,c,(0:Int)))
theorem jxo :mK 29 (bX [.pv Y17,.pv Y17] [pB] (c2A (jxe N))):=
 mO (fC (jxx N) ja) func29 rfl N (.seq .no (.seq .no (.seq (.seq .no (.block (.loop jxv .no))) .no))) _
def jPu (d:List UInt8) (a:Z5) (c:List UInt8) (e:Z5):Z8:=
 (bif !decide (d=c)then some false else oB (jxe N a e) fun b=>bif !b then some false else some true)
theorem jQI :mK 154 (bX [.agg [pS,.pv Y17],.agg [pS,.pv Y17]] [pB] (c4A (jPu N))):=
 mO (fC (jxo N) ja) func154 rfl N .no _
def jQv :Sh:=⟨.pv Y11:: .pv Y11::dz 3 (pI::dz 21 []),[]⟩
def jPF (f:List Z3) (c:List Z3):Z8:=
 (bif !decide ((f.length:Int)=(c.length:Int))then some false else iter (fun i (b,d,a)=>bif decide (a<(b.length:Int))then oB (idx b a) fun h=>(oB (idx d a) fun e=>oB (jPu N h.1 h.2 e.1 e.2) fun j=>bif !j then some false else if fits (a+1)then i (b,d,(a+1))else none)else some true) N (f,c,(0:Int)))
theorem jP5 :mK 87 (bX [.pv Y11,.pv Y11] [pB] (c2A (jPF N))):=
 mO (fC (jQI N) ja) func87 rfl N (.seq .no (.seq .no (.seq (.seq .no (.block (.loop jQv .no))) .no))) _
def jPt (h:Int) (f:Int) (c:List Z3) (b:Int) (e:Int) (d:List Z3):Z8:=
 (bif !decide (h=b)then some false else bif !decide (f=e)then some false else oB (jPF N c d) fun a=>bif !a then some false else some true)
theorem jP1 :mK 28 (bX [.agg [pI,pI,.pv Y11],.agg [pI,pI,.pv Y11]] [pB] (c6A (jPt N))):=
 mO (fC (jP5 N) ja) func28 rfl N .no _
def jo5 :Sh:=⟨.pv (.sl .str):: .pv (.sl .str)::dz 3 (pI::dz 20 []),[]⟩
def j0 (e:List Z1) (c:List Z1):Z8:=
 (bif !decide ((e.length:Int)=(c.length:Int))then some false else iter (fun f (b,d,a)=>bif decide (a<(b.length:Int))then oB (idx b a) fun j=>(oB (idx d a) fun i=>bif !decide (j=i)then some false else if fits (a+1)then f (b,d,(a+1))else none)else some true) N (e,c,(0:Int)))
theorem jd6 :mK 91 (bX [.pv (.sl .str),.pv (.sl .str)] [pB] (c2A (j0 N))):=
 mO ja func91 rfl N (.seq .no (.seq .no (.seq (.seq .no (.block (.loop jo5 .no))) .no))) _
def jaR (d:List Z1) (a:List UInt8) (c:List Z1) (e:List UInt8):Z8:=
 (oB (j0 N d c) fun b=>bif !b then some false else bif !decide (a=e)then some false else some true)
theorem jqb :mK 231 (bX [.agg [.pv (.sl .str),pS],.agg [.pv (.sl .str),pS]] [pB] (c4A (jaR N))):=
 mO (fC (jd6 N) ja) func231 rfl N .no _
def jp9 :Sh:=⟨.pv Y20:: .pv Y20::dz 3 (pI::dz 21 []),[]⟩
def jdJ (f:List Z4) (c:List Z4):Z8:=
 (bif !decide ((f.length:Int)=(c.length:Int))then some false else iter (fun i (b,d,a)=>bif decide (a<(b.length:Int))then oB (idx b a) fun h=>(oB (idx d a) fun e=>oB (jaR N h.1 h.2 e.1 e.2) fun j=>bif !j then some false else if fits (a+1)then i (b,d,(a+1))else none)else some true) N (f,c,(0:Int)))
theorem jkU :mK 155 (bX [.pv Y20,.pv Y20] [pB] (c2A (jdJ N))):=
 mO (fC (jqb N) ja) func155 rfl N (.seq .no (.seq .no (.seq (.seq .no (.block (.loop jp9 .no))) .no))) _
def jcO (e:List Z1) (b:List Z4) (d:List Z1) (f:List Z4):Z8:=
 (oB (j0 N e d) fun c=>bif !c then some false else oB (jdJ N b f) fun a=>bif !a then some false else some true)
theorem jr8 :mK 89 (bX [.agg [.pv (.sl .str),.pv Y20],.agg [.pv (.sl .str),.pv Y20]] [pB] (c4A (jcO N))):=
 mO (fC (jd6 N) (fC (jkU N) ja)) func89 rfl N .no _
def jbd (N:Nat) (c:List UInt8) (a:List UInt8) (b:List UInt8) (d:List UInt8):Z8:=
 (bif !decide (c=b)then some false else bif !decide (a=d)then some false else some true)
theorem jmy :mK 366 (bX [.agg [pS,pS],.agg [pS,pS]] [pB] (c4A (jbd N))):=
 mO ja func366 rfl N .no _
def jqq :Sh:=⟨.pv Y23:: .pv Y23::dz 3 (pI::dz 21 []),[]⟩
def jdj (f:Z16) (c:Z16):Z8:=
 (bif !decide ((f.length:Int)=(c.length:Int))then some false else iter (fun i (b,d,a)=>bif decide (a<(b.length:Int))then oB (idx b a) fun h=>(oB (idx d a) fun e=>oB (jbd N h.1 h.2 e.1 e.2) fun j=>bif !j then some false else if fits (a+1)then i (b,d,(a+1))else none)else some true) N (f,c,(0:Int)))
theorem jmD :mK 353 (bX [.pv Y23,.pv Y23] [pB] (c2A (jdj N))):=
 mO (fC (jmy N) ja) func353 rfl N (.seq .no (.seq .no (.seq (.seq .no (.block (.loop jqq .no))) .no))) _
def jbo (N:Nat) (c:List UInt8) (a:Int) (b:List UInt8) (d:Int):Z8:=
 (bif !decide (c=b)then some false else bif !decide (a=d)then some false else some true)
theorem jtn :mK 367 (bX [.agg [pS,pI],.agg [pS,pI]] [pB] (c4A (jbo N))):=
 mO ja func367 rfl N .no _
def jtU :Sh:=⟨.pv Y19:: .pv Y19::dz 3 (pI::dz 21 []),[]⟩
def jdN (f:Z11) (c:Z11):Z8:=
 (bif !decide ((f.length:Int)=(c.length:Int))then some false else iter (fun i (b,d,a)=>bif decide (a<(b.length:Int))then oB (idx b a) fun h=>(oB (idx d a) fun e=>oB (jbo N h.1 h.2 e.1 e.2) fun j=>bif !j then some false else if fits (a+1)then i (b,d,(a+1))else none)else some true) N (f,c,(0:Int)))
theorem jkL :mK 354 (bX [.pv Y19,.pv Y19] [pB] (c2A (jdN N))):=
 mO (fC (jtn N) ja) func354 rfl N (.seq .no (.seq .no (.seq (.seq .no (.block (.loop jtU .no))) .no))) _
def jbi (i:Int) (h:Z16) (d:Z11) (c:Int) (f:Z16) (e:Z11):Z8:=
 (bif !decide (i=c)then some false else oB (jdj N h f) fun b=>bif !b then some false else oB (jdN N d e) fun a=>bif !a then some false else some true)
theorem jta :mK 333 (bX [.agg [pI,.pv Y23,.pv Y19],.agg [pI,.pv Y23,.pv Y19]] [pB] (c6A (jbi N))):=
 mO (fC (jmD N) (fC (jkL N) ja)) func333 rfl N .no _
def jqZ :Sh:=⟨.pv Y4:: .pv Y4::dz 3 (pI::dz 21 []),[]⟩
def jdZ (h:List Z0) (e:List Z0):Z8:=
 (bif !decide ((h.length:Int)=(e.length:Int))then some false else iter (fun i (c,f,a)=>bif decide (a<(c.length:Int))then oB (idx c a) fun d=>(oB (idx f a) fun b=>oB (jbi N d.1 d.2.1 d.2.2 b.1 b.2.1 b.2.2) fun j=>bif !j then some false else if fits (a+1)then i (c,f,(a+1))else none)else some true) N (h,e,(0:Int)))
theorem jmb :mK 299 (bX [.pv Y4,.pv Y4] [pB] (c2A (jdZ N))):=
 mO (fC (jta N) ja) func299 rfl N (.seq .no (.seq .no (.seq (.seq .no (.block (.loop jqZ .no))) .no))) _
def jea (e:List Int) (c:List Int):Z8:=
 (bif !decide ((e.length:Int)=(c.length:Int))then some false else iter (fun f (b,d,a)=>bif decide (a<(b.length:Int))then oB (idx b a) fun j=>(oB (idx d a) fun i=>bif !decide (j=i)then some false else if fits (a+1)then f (b,d,(a+1))else none)else some true) N (e,c,(0:Int)))
theorem jmk :mK 233 (bX [.pv Y25,.pv Y25] [pB] (c2A (jea N))):=
 mO ja func233 rfl N (.seq .no (.seq .no (.seq (.seq .no (.block (.loop jnI .no))) .no))) _
def jbl (d:Int) (a:List Int) (c:Int) (e:List Int):Z8:=
 (bif !decide (d=c)then some false else oB (jea N a e) fun b=>bif !b then some false else some true)
theorem jrv :mK 368 (bX [.agg [pI,.pv Y25],.agg [pI,.pv Y25]] [pB] (c4A (jbl N))):=
 mO (fC (jmk N) ja) func368 rfl N .no _
def jna :Sh:=⟨.pv Y15:: .pv Y15::dz 3 (pI::dz 21 []),[]⟩
def jdt (f:Z6) (c:Z6):Z8:=
 (bif !decide ((f.length:Int)=(c.length:Int))then some false else iter (fun i (b,d,a)=>bif decide (a<(b.length:Int))then oB (idx b a) fun h=>(oB (idx d a) fun e=>oB (jbl N h.1 h.2 e.1 e.2) fun j=>bif !j then some false else if fits (a+1)then i (b,d,(a+1))else none)else some true) N (f,c,(0:Int)))
theorem jrb :mK 355 (bX [.pv Y15,.pv Y15] [pB] (c2A (jdt N))):=
 mO (fC (jrv N) ja) func355 rfl N (.seq .no (.seq .no (.seq (.seq .no (.block (.loop jna .no))) .no))) _
def jaU (h:List UInt8) (f:List UInt8) (c:Z6) (b:List UInt8) (e:List UInt8) (d:Z6):Z8:=
 (bif !decide (h=b)then some false else bif !decide (f=e)then some false else oB (jdt N c d) fun a=>bif !a then some false else some true)
theorem jmZ :mK 334 (bX [.agg [pS,pS,.pv Y15],.agg [pS,pS,.pv Y15]] [pB] (c6A (jaU N))):=
 mO (fC (jrb N) ja) func334 rfl N .no _
def jkD :Sh:=⟨.pv Y6:: .pv Y6::dz 3 (pI::dz 21 []),[]⟩
def jdU (h:List Z2) (e:List Z2):Z8:=
 (bif !decide ((h.length:Int)=(e.length:Int))then some false else iter (fun i (c,f,a)=>bif decide (a<(c.length:Int))then oB (idx c a) fun d=>(oB (idx f a) fun b=>oB (jaU N d.1 d.2.1 d.2.2 b.1 b.2.1 b.2.2) fun j=>bif !j then some false else if fits (a+1)then i (c,f,(a+1))else none)else some true) N (h,e,(0:Int)))
theorem jkg :mK 300 (bX [.pv Y6,.pv Y6] [pB] (c2A (jdU N))):=
 mO (fC (jmZ N) ja) func300 rfl N (.seq .no (.seq .no (.seq (.seq .no (.block (.loop jkD .no))) .no))) _
def jbJ (e:List Z0) (b:List Z2) (d:List Z0) (f:List Z2):Z8:=
 (oB (jdZ N e d) fun c=>bif !c then some false else oB (jdU N b f) fun a=>bif !a then some false else some true)
theorem jnM :mK 232 (bX [.agg [.pv Y4,.pv Y6],.agg [.pv Y4,.pv Y6]] [pB] (c4A (jbJ N))):=
 mO (fC (jmb N) (fC (jkg N) ja)) func232 rfl N .no _
def l_eqLive_m (i:List Z0) (h:List Z2) (d:List Int) (c:List Z0) (f:List Z2) (e:List Int):Z8:=
 (oB (jbJ N i h c f) fun b=>bif !b then some false else oB (jea N d e) fun a=>bif !a then some false else some true)
theorem jI3 :mK 156 (bX [.agg [.pv Y4,.pv Y6,.pv Y25],.agg [.pv Y4,.pv Y6,.pv Y25]] [pB] (c6A (l_eqLive_m N))):=
 mO (fC (jnM N) (fC (jmk N) ja)) func156 rfl N .no _
def jIS :Sh:=⟨.pv Y1:: .pv Y1::dz 3 (pI::dz 21 []),[]⟩
def l_eqLiveS_m (h:List Z7) (e:List Z7):Z8:=
 (bif !decide ((h.length:Int)=(e.length:Int))then some false else iter (fun i (c,f,a)=>bif decide (a<(c.length:Int))then oB (idx c a) fun d=>(oB (idx f a) fun b=>oB (l_eqLive_m N d.1.1 d.1.2 d.2 b.1.1 b.1.2 b.2) fun j=>bif !j then some false else if fits (a+1)then i (c,f,(a+1))else none)else some true) N (h,e,(0:Int)))
theorem jIa :mK 90 (bX [.pv Y1,.pv Y1] [pB] (c2A (l_eqLiveS_m N))):=
 mO (fC (jI3 N) ja) func90 rfl N (.seq .no (.seq .no (.seq (.seq .no (.block (.loop jIS .no))) .no))) _
def l_eqIndex_m (i:List Z1) (h:List Z4) (d:List Z7) (c:List Z1) (f:List Z4) (e:List Z7):Z8:=
 (oB (jcO N i h c f) fun b=>bif !b then some false else oB (l_eqLiveS_m N d e) fun a=>bif !a then some false else some true)
theorem jIY :mK 30 (bX [.agg [.pv (.sl .str),.pv Y20,.pv Y1],.agg [.pv (.sl .str),.pv Y20,.pv Y1]] [pB] (c6A (l_eqIndex_m N))):=
 mO (fC (jr8 N) (fC (jIa N) ja)) func30 rfl N .no _
def jyZ :Sh:=⟨[.agg [pI,pS,.pv (.sl .str),pI,pI,.pv (.sl .q)],.agg [pI,pS,.pv (.sl .str),pI,pI,.pv (.sl .q)]],[]⟩
def jAc :Sh:=⟨[pB],[]⟩
def jCx :Sh:=⟨[.pv (.sl .q),.pv (.sl .q)],[]⟩
def jCz :Sh:=⟨[pB],[]⟩
def jC3 :Sh:=⟨.pv (.sl .q):: .pv (.sl .q)::dz 3 (pI::dz 21 []),[]⟩
def jyS (k:Z19->Option Bool) (h:List DQ) (e:List DQ):Z8:=
 (bif !decide ((h.length:Int)=(e.length:Int))then some false else iter (fun i (d,f,c)=>bif decide (c<(d.length:Int))then oB (idx d c) fun b=>(oB (idx f c) fun a=>oB (k (b.kind,b.field,b.words,b.lo,b.hi,b.kids,a.kind,a.field,a.words,a.lo,a.hi,a.kids)) fun j=>bif !j then some false else if fits (c+1)then i (d,f,(c+1))else none)else some true) N (h,e,(0:Int)))
def jzD (N:Nat) (F:Z19->Option Bool):Model:=⟨jCx,jCz,fun a=>jyS N F a.1 a.2⟩
theorem jCt (N:Nat) (F:Z19->Option Bool) (hF:mK 31 ⟨jyZ,jAc,F⟩):mK 92 (jzD N F):=
 mO (fC hF ja) func92 rfl N (.seq .no (.seq .no (.seq (.seq .no (.block (.loop jC3 .no))) .no))) (jzD N F)
def jxK (N:Nat):(D:Nat)->Int->Z1->(List Z1)->Int->Int->(List DQ)->Int->Z1->(List Z1)->Int->Int->(List DQ)->Z8
 |0,_,_,_,_,_,_,_,_,_,_,_,_=>none
 |D+1,a,a2,a3,a4,a5,a6,b,b2,b3,b4,b5,b6=>
 bif !decide (a=b)then
 some false
 else
 bif !decide (a2=b2)then
 some false
 else
 oB (j0 N a3 b3) fun r=>
 bif !r then
 some false
 else
 bif !decide (a4=b4)then
 some false
 else
 bif !decide (a5=b5)then
 some false
 else
 oB (jyS N (fun a=>jxK N D a.1 a.2.1 a.2.2.1 a.2.2.2.1 a.2.2.2.2.1 a.2.2.2.2.2.1 a.2.2.2.2.2.2.1 a.2.2.2.2.2.2.2.1 a.2.2.2.2.2.2.2.2.1 a.2.2.2.2.2.2.2.2.2.1 a.2.2.2.2.2.2.2.2.2.2.1 a.2.2.2.2.2.2.2.2.2.2.2) a6 b6) fun r2=>
 bif !r2 then
 some false
 else
 some true
def jyy (N D:Nat):Model:=⟨jyZ,jAc,c12A (jxK N D)⟩
theorem jDy (N D:Nat) (ih:mK 31 (jyy N D)):mK 31 (jyy N (D+1)):=
 mO (fC ih (fC (jd6 N) (fC (jCt N _ ih) ja))) func31 rfl N .no (jyy N (D+1))
theorem jAA (N:Nat):∀D,mK 31 (jyy N D)
 |0=>modelOk_none ⟨_,func31,by decide,by kernel_rfl⟩ _ (fun a=>rfl)
 |D+1=>jDy N D (jAA N D)
def jnU :Sh:=⟨pI:: .dead:: .dead::pS::dz 16 [],[]⟩
def jr (c:Int):Option (Z1):=
 (bif decide (c<=0)then some ([109,48]:List UInt8)else iter (fun d (a,b)=>bif decide ((0:Int)<a)then if 10≠0 then if fits (48+(a.tmod 10))then if(bytesOf ([(IntKind.u8.wrap (48+(a.tmod 10)))]:List Int)).length+b.length<=9223372036854775807 then if 10≠0 then if fits (a.tdiv 10)then d ((a.tdiv 10),((bytesOf ([(IntKind.u8.wrap (48+(a.tmod 10)))]:List Int))++b))else none else none else none else none else none else if([109]:List UInt8).length+b.length<=9223372036854775807 then some (([109]:List UInt8)++b)else none) N (c,([]:List UInt8)))
theorem jaz :mK 157 (bX [pI] [pS] (c1A (jr N))):=
 mO ja func157 rfl N (.seq .no (.seq .no (.seq .no (.seq (.block (.loop jnU .no)) .no)))) _
def jxr :Sh:=⟨.mtk 800000 Y18 93 true::pI::dz 3 (pI::dz 21 []),[]⟩
def jxf (j:Z5) (f:Int):Option (Int×Z10):=
 (iter (fun e (c,b,a)=>bif decide (a<(c.length:Int))then if 0<=a/\a<(c.length:Int)then oB (c[a.toNat]?) fun d=>(if fits (b+1)then if 0<=a/\a<((c.set a.toNat (b,d.2)).length:Int)then oB ((c.set a.toNat (b,d.2))[a.toNat]?) fun i=>(if fits ((b+1)+1)then if fits (a+1)then e (((c.set a.toNat (b,d.2)).set a.toNat (i.1,(b+1))),((b+1)+1),(a+1))else none else none)else none else none)else none else some (b,c)) N (j,f,(0:Int)))
theorem jxq :mK 35 (bX [.mtk 800000 Y18 93 true,pI] [pI,.mtk 800000 Y18 93 true] (c2A (jxf N))):=
 mO ja func35 rfl N (.seq .no (.seq (.seq .no (.block (.loop jxr .no))) .no)) _ (rs:=[800000])
def jQt :Sh:=⟨.tre 800000 Y13 128::pI::dz 3 (pI::dz 22 []),[]⟩
def jPz (l:List Z3) (i:Int):Option (Int×(List Z3)):=
 (iter (fun h (b,c,a)=>bif decide (a<(b.length:Int))then oB (jr N c) fun d=>(if 0<=a/\a<(b.length:Int)then oB (b[a.toNat]?) fun e=>(if fits (c+1)then if 0<=a/\a<((b.set a.toNat (d,e.2)).length:Int)then oB ((b.set a.toNat (d,e.2))[a.toNat]?) fun k=>(oB (jxf N k.2 (c+1)) fun f=>if fits (a+1)then h (((b.set a.toNat (d,e.2)).modify a.toNat fun m=>(m.1,f.2)),f.1,(a+1))else none)else none else none)else none)else some (c,b)) N (l,i,(0:Int)))
theorem jQj :mK 93 (bX [.tre 800000 Y13 128,pI] [pI,.tre 800000 Y13 128] (c2A (jPz N))):=
 mO (fC (jaz N) (fC (jxq N) ja)) func93 rfl N (.seq .no (.seq (.seq .no (.block (.loop jQt .no))) .no)) _ (rs:=[800000])
def l_markCache_m (e:Int) (d:Int) (c:List Z3) (b:Int):Option (Int×(List Z3)):=
 (oB (jPz N c b) fun a=>some (a.1,a.2))
theorem jQH :mK 32 (bX [.agg [pI,pI,.tre 800002 Y13 128],pI] [pI,.tre 800002 Y13 128] (c4A (l_markCache_m N))):=
 mO (fC (jQj N) ja) func32 rfl N .no _ (rs:=[800002])
def jol :Sh:=⟨.mtk 800000 .str 9 true::pI::dz 3 (pI::dz 14 []),[]⟩
def jas (i:List Z1) (f:Int):Option (Int×(List Z1)):=
 (iter (fun d (b,c,a)=>bif decide (a<(b.length:Int))then oB (jr N c) fun e=>(if 0<=a/\a<(b.length:Int)then oB (b[a.toNat]?) fun j=>(if fits (c+1)then if fits (a+1)then d ((b.set a.toNat e),(c+1),(a+1))else none else none)else none)else some (c,b)) N (i,f,(0:Int)))
theorem jdf :mK 96 (bX [.mtk 800000 .str 9 true,pI] [pI,.mtk 800000 .str 9 true] (c2A (jas N))):=
 mO (fC (jaz N) ja) func96 rfl N (.seq .no (.seq (.seq .no (.block (.loop jol .no))) .no)) _ (rs:=[800000])
def jq1 :Sh:=⟨.tre 800000 Y22 172::pI::dz 3 (pI::dz 22 []),[]⟩
def jbZ (k:List Z4) (h:Int):Option (Int×(List Z4)):=
 (iter (fun f (b,d,a)=>bif decide (a<(b.length:Int))then if 0<=a/\a<(b.length:Int)then oB (b[a.toNat]?) fun l=>(oB (jas N l.1 d) fun c=>oB (jr N c.1) fun e=>if 0<=a/\a<(b.length:Int)then oB (b[a.toNat]?) fun j=>(if fits (c.1+1)then if fits (a+1)then f (((b.set a.toNat (j.1,e)).modify a.toNat fun m=>(c.2,m.2)),(c.1+1),(a+1))else none else none)else none)else none else some (d,b)) N (k,h,(0:Int)))
theorem jqK :mK 158 (bX [.tre 800000 Y22 172,pI] [pI,.tre 800000 Y22 172] (c2A (jbZ N))):=
 mO (fC (jdf N) (fC (jaz N) ja)) func158 rfl N (.seq .no (.seq (.seq .no (.block (.loop jq1 .no))) .no)) _ (rs:=[800000])
def jb0 (d:List Z1) (c:List Z4) (e:Int):Option (Int×(List Z1)×(List Z4)):=
 (oB (jas N d e) fun b=>oB (jbZ N c b.1) fun a=>some (a.1,b.2,a.2))
theorem jrd :mK 94 (bX [.agg [.mtk 800000 .str 9 true,.tre 800001 Y22 172],pI] [pI,.mtk 800000 .str 9 true,.tre 800001 Y22 172] (c3A (jb0 N))):=
 mO (fC (jdf N) (fC (jqK N) ja)) func94 rfl N .no _ (rs:=[800000,800001])
def jrq :Sh:=⟨.mtk 800000 Y24 107 true::pI::dz 3 (pI::dz 23 []),[]⟩
def jbW (l:Z16) (i:Int):Option (Int×Z15):=
 (iter (fun h (b,c,a)=>bif decide (a<(b.length:Int))then oB (jr N c) fun d=>(if 0<=a/\a<(b.length:Int)then oB (b[a.toNat]?) fun e=>(if fits (c+1)then oB (jr N (c+1)) fun f=>(if 0<=a/\a<((b.set a.toNat (d,e.2)).length:Int)then oB ((b.set a.toNat (d,e.2))[a.toNat]?) fun k=>(if fits ((c+1)+1)then if fits (a+1)then h (((b.set a.toNat (d,e.2)).set a.toNat (k.1,f)),((c+1)+1),(a+1))else none else none)else none)else none)else none)else some (c,b)) N (l,i,(0:Int)))
theorem jo0 :mK 234 (bX [.mtk 800000 Y24 107 true,pI] [pI,.mtk 800000 Y24 107 true] (c2A (jbW N))):=
 mO (fC (jaz N) ja) func234 rfl N (.seq .no (.seq (.seq .no (.block (.loop jrq .no))) .no)) _ (rs:=[800000])
def js9 :Sh:=⟨.mtk 800000 Y21 258 true::pI::dz 3 (pI::dz 22 []),[]⟩
def jbP (k:Z11) (h:Int):Option (Int×Z9):=
 (iter (fun f (b,c,a)=>bif decide (a<(b.length:Int))then oB (jr N c) fun d=>(if 0<=a/\a<(b.length:Int)then oB (b[a.toNat]?) fun e=>(if fits (c+1)then if 0<=a/\a<((b.set a.toNat (d,e.2)).length:Int)then oB ((b.set a.toNat (d,e.2))[a.toNat]?) fun j=>(if fits ((c+1)+1)then if fits (a+1)then f (((b.set a.toNat (d,e.2)).set a.toNat (j.1,(c+1))),((c+1)+1),(a+1))else none else none)else none else none)else none)else some (c,b)) N (k,h,(0:Int)))
theorem js2 :mK 235 (bX [.mtk 800000 Y21 258 true,pI] [pI,.mtk 800000 Y21 258 true] (c2A (jbP N))):=
 mO (fC (jaz N) ja) func235 rfl N (.seq .no (.seq (.seq .no (.block (.loop js9 .no))) .no)) _ (rs:=[800000])
def jml :Sh:=⟨.tre 800000 Y5 105::pI::dz 3 (pI::dz 28 []),[]⟩
def jb4 (o:List Z0) (k:Int):Option (Int×(List Z0)):=
 (iter (fun j (b,c,a)=>bif decide (a<(b.length:Int))then if 0<=a/\a<(b.length:Int)then oB (b[a.toNat]?) fun d=>(if fits (c+1)then if 0<=a/\a<((b.set a.toNat (c,d.2)).length:Int)then oB ((b.set a.toNat (c,d.2))[a.toNat]?) fun n=>(oB (jbW N n.2.1 (c+1)) fun f=>if 0<=a/\a<((b.set a.toNat (c,d.2)).length:Int)then oB ((b.set a.toNat (c,d.2))[a.toNat]?) fun m=>(oB (jbP N m.2.2 f.1) fun e=>if fits (a+1)then j ((((b.set a.toNat (c,d.2)).modify a.toNat fun h=>(h.1,h.2.1,e.2)).modify a.toNat fun i=>(i.1,f.2,i.2.2)),e.1,(a+1))else none)else none)else none else none)else none else some (c,b)) N (o,k,(0:Int)))
theorem jnb :mK 159 (bX [.tre 800000 Y5 105,pI] [pI,.tre 800000 Y5 105] (c2A (jb4 N))):=
 mO (fC (jo0 N) (fC (js2 N) ja)) func159 rfl N (.seq .no (.seq (.seq .no (.block (.loop jml .no))) .no)) _ (rs:=[800000])
def jl9 :Sh:=⟨.mtk 800000 tI 3 true::pI::dz 3 (pI::dz 13 []),[]⟩
def jco (h:List Int) (e:Int):Option (Int×(List Int)):=
 (iter (fun d (b,c,a)=>bif decide (a<(b.length:Int))then if 0<=a/\a<(b.length:Int)then oB (b[a.toNat]?) fun i=>(if fits (c+1)then if fits (a+1)then d ((b.set a.toNat c),(c+1),(a+1))else none else none)else none else some (c,b)) N (h,e,(0:Int)))
theorem jr1 :mK 161 (bX [.mtk 800000 tI 3 true,pI] [pI,.mtk 800000 tI 3 true] (c2A (jco N))):=
 mO ja func161 rfl N (.seq .no (.seq (.seq .no (.block (.loop jl9 .no))) .no)) _ (rs:=[800000])
def jnn :Sh:=⟨.tre 800000 Y16 196::pI::dz 3 (pI::dz 21 []),[]⟩
def jcm (k:Z6) (h:Int):Option (Int×Z14):=
 (iter (fun f (b,c,a)=>bif decide (a<(b.length:Int))then if 0<=a/\a<(b.length:Int)then oB (b[a.toNat]?) fun d=>(if fits (c+1)then if 0<=a/\a<((b.set a.toNat (c,d.2)).length:Int)then oB ((b.set a.toNat (c,d.2))[a.toNat]?) fun j=>(oB (jco N j.2 (c+1)) fun e=>if fits (a+1)then f (((b.set a.toNat (c,d.2)).modify a.toNat fun l=>(l.1,e.2)),e.1,(a+1))else none)else none else none)else none else some (c,b)) N (k,h,(0:Int)))
theorem jrg :mK 236 (bX [.tre 800000 Y16 196,pI] [pI,.tre 800000 Y16 196] (c2A (jcm N))):=
 mO (fC (jr1 N) ja) func236 rfl N (.seq .no (.seq (.seq .no (.block (.loop jnn .no))) .no)) _ (rs:=[800000])
def jkI :Sh:=⟨.tre 800000 Y7 116::pI::dz 3 (pI::dz 30 []),[]⟩
def jcD (o:List Z2) (l:Int):Option (Int×(List Z2)):=
 (iter (fun k (b,d,a)=>bif decide (a<(b.length:Int))then oB (jr N d) fun e=>(if 0<=a/\a<(b.length:Int)then oB (b[a.toNat]?) fun f=>(if fits (d+1)then oB (jr N (d+1)) fun h=>(if 0<=a/\a<((b.set a.toNat (e,f.2)).length:Int)then oB ((b.set a.toNat (e,f.2))[a.toNat]?) fun c=>(if fits ((d+1)+1)then if 0<=a/\a<(((b.set a.toNat (e,f.2)).set a.toNat (c.1,h,c.2.2)).length:Int)then oB (((b.set a.toNat (e,f.2)).set a.toNat (c.1,h,c.2.2))[a.toNat]?) fun n=>(oB (jcm N n.2.2 ((d+1)+1)) fun i=>if fits (a+1)then k ((((b.set a.toNat (e,f.2)).set a.toNat (c.1,h,c.2.2)).modify a.toNat fun j=>(j.1,j.2.1,i.2)),i.1,(a+1))else none)else none else none)else none)else none)else none)else some (d,b)) N (o,l,(0:Int)))
theorem jlr :mK 160 (bX [.tre 800000 Y7 116,pI] [pI,.tre 800000 Y7 116] (c2A (jcD N))):=
 mO (fC (jaz N) (fC (jrg N) ja)) func160 rfl N (.seq .no (.seq (.seq .no (.block (.loop jkI .no))) .no)) _ (rs:=[800000])
def jIe :Sh:=⟨.tre 800000 Y2 96::pI::dz 3 (pI::dz 30 []),[]⟩
def l_markLiveS_m (q:List Z7) (l:Int):Option (Int×(List Z7)):=
 (iter (fun j (b,h,a)=>bif decide (a<(b.length:Int))then if 0<=a/\a<(b.length:Int)then oB (b[a.toNat]?) fun p=>(oB (jb4 N p.1.1 h) fun d=>if 0<=a/\a<(b.length:Int)then oB (b[a.toNat]?) fun o=>(oB (jcD N o.1.2 d.1) fun c=>if 0<=a/\a<(b.length:Int)then oB (b[a.toNat]?) fun n=>(oB (jco N n.2 c.1) fun e=>if fits (a+1)then j ((((b.modify a.toNat fun k=>(k.1,e.2)).modify a.toNat fun f=>((f.1.1,c.2),f.2)).modify a.toNat fun i=>((d.2,i.1.2),i.2)),e.1,(a+1))else none)else none)else none)else none else some (h,b)) N (q,l,(0:Int)))
theorem jIE :mK 95 (bX [.tre 800000 Y2 96,pI] [pI,.tre 800000 Y2 96] (c2A (l_markLiveS_m N))):=
 mO (fC (jnb N) (fC (jlr N) (fC (jr1 N) ja))) func95 rfl N (.seq .no (.seq (.seq .no (.block (.loop jIe .no))) .no)) _ (rs:=[800000])
def l_markIndex_m (d:List Z1) (c:List Z4) (f:List Z7) (e:Int):Option (Int×(List Z1)×(List Z4)×(List Z7)):=
 (oB (jb0 N d c e) fun a=>oB (l_markLiveS_m N f a.1) fun b=>some (b.1,a.2.1,a.2.2,b.2))
theorem jJp :mK 33 (bX [.agg [.mtk 800000 .str 9 true,.tre 800001 Y22 172,.tre 800002 Y2 96],pI] [pI,.mtk 800000 .str 9 true,.tre 800001 Y22 172,.tre 800002 Y2 96] (c4A (l_markIndex_m N))):=
 mO (fC (jrd N) (fC (jIE N) ja)) func33 rfl N .no _ (rs:=[800000,800001,800002])
def jCg :Sh:=⟨.tre 800000 .q 32::pI::dz 3 (pI::dz 50 []),[]⟩
def jxQ (N:Nat):(D:Nat)->(List DQ)->Int->Option (Int×(List DQ))
 |0,_,_=>none
 |D+1,a,k=>
 iter (fun go (g:(List DQ)×Int×Int)=>
 match g with
 |(a2,k2,i)=>
 bif decide (i<(a2.length:Int))then
 if 0<=i/\i<(a2.length:Int)then
 oB (a2[i.toNat]?) fun e=>
 (if fits (k2+1)then oB (jr N (k2+1)) fun r=>
 (if 0<=i/\i<((a2.set i.toNat (DQ.mk k2 e.field e.words e.lo e.hi e.kids)).length:Int)then
 oB ((a2.set i.toNat (DQ.mk k2 e.field e.words e.lo e.hi e.kids))[i.toNat]?) fun e2=>
 (if fits ((k2+1)+1)then if 0<=i/\i<(((a2.set i.toNat (DQ.mk k2 e.field e.words e.lo e.hi e.kids)).set i.toNat (DQ.mk e2.kind r e2.words e2.lo e2.hi e2.kids)).length:Int)then
 oB (((a2.set i.toNat (DQ.mk k2 e.field e.words e.lo e.hi e.kids)).set i.toNat (DQ.mk e2.kind r e2.words e2.lo e2.hi e2.kids))[i.toNat]?) fun e3=>
 (oB (jas N e3.words ((k2+1)+1)) fun r2=>
 if 0<=i/\i<(((a2.set i.toNat (DQ.mk k2 e.field e.words e.lo e.hi e.kids)).set i.toNat (DQ.mk e2.kind r e2.words e2.lo e2.hi e2.kids)).length:Int)then
 oB (((a2.set i.toNat (DQ.mk k2 e.field e.words e.lo e.hi e.kids)).set i.toNat (DQ.mk e2.kind r e2.words e2.lo e2.hi e2.kids))[i.toNat]?) fun e4=>
 (if fits (r2.1+1)then if 0<=i/\i<((((a2.set i.toNat (DQ.mk k2 e.field e.words e.lo e.hi e.kids)).set i.toNat (DQ.mk e2.kind r e2.words e2.lo e2.hi e2.kids)).set i.toNat (DQ.mk e4.kind e4.field e4.words r2.1 e4.hi e4.kids)).length:Int)then
 oB ((((a2.set i.toNat (DQ.mk k2 e.field e.words e.lo e.hi e.kids)).set i.toNat (DQ.mk e2.kind r e2.words e2.lo e2.hi e2.kids)).set i.toNat (DQ.mk e4.kind e4.field e4.words r2.1 e4.hi e4.kids))[i.toNat]?) fun e5=>
 (if fits ((r2.1+1)+1)then if 0<=i/\i<(((((a2.set i.toNat (DQ.mk k2 e.field e.words e.lo e.hi e.kids)).set i.toNat (DQ.mk e2.kind r e2.words e2.lo e2.hi e2.kids)).set i.toNat (DQ.mk e4.kind e4.field e4.words r2.1 e4.hi e4.kids)).set i.toNat (DQ.mk e5.kind e5.field e5.words e5.lo (r2.1+1) e5.kids)).length:Int)then
 oB (((((a2.set i.toNat (DQ.mk k2 e.field e.words e.lo e.hi e.kids)).set i.toNat (DQ.mk e2.kind r e2.words e2.lo e2.hi e2.kids)).set i.toNat (DQ.mk e4.kind e4.field e4.words r2.1 e4.hi e4.kids)).set i.toNat (DQ.mk e5.kind e5.field e5.words e5.lo (r2.1+1) e5.kids))[i.toNat]?) fun e6=>
 (oB (jxQ N D e6.kids ((r2.1+1)+1)) fun r3=>
 if fits (i+1)then go (((((((a2.set i.toNat (DQ.mk k2 e.field e.words e.lo e.hi e.kids)).set i.toNat (DQ.mk e2.kind r e2.words e2.lo e2.hi e2.kids)).set i.toNat (DQ.mk e4.kind e4.field e4.words r2.1 e4.hi e4.kids)).set i.toNat (DQ.mk e5.kind e5.field e5.words e5.lo (r2.1+1) e5.kids)).modify i.toNat fun y3=>DQ.mk y3.kind y3.field y3.words y3.lo y3.hi r3.2).modify i.toNat fun y4=>DQ.mk y4.kind y4.field r2.2 y4.lo y4.hi y4.kids),r3.1,(i+1))else none)
 else none else none)
 else none else none)
 else none)
 else none else none)
 else none)else none)
 else none
 else
 some (k2,a2)) N (a,k,0)
def jyx (N D:Nat):Model:=⟨⟨[.tre 800000 .q 32,pI],[]⟩,⟨[pI,.tre 800000 .q 32],[]⟩,c2A (jxQ N D)⟩
theorem jDO (N D:Nat) (ih:mK 97 (jyx N D)):mK 97 (jyx N (D+1)):=
 mO (fC ih (fC (jaz N) (fC (jdf N) ja))) func97 rfl N (.seq .no (.seq (.seq .no (.block (.loop jCg .no))) .no)) (jyx N (D+1)) (rs:=[800000])
theorem jy0 (N:Nat):∀D,mK 97 (jyx N D)
 |0=>modelOk_none ⟨_,func97,by decide,by kernel_rfl⟩ _ (fun a=>rfl)
 |D+1=>jDO N D (jy0 N D)
def l_markQuery_m (j:Int) (i:List UInt8) (e:List Z1) (h:Int) (f:Int) (c:List DQ) (d:Int):Option (Int×(List Z1)×(List DQ)):=
 (oB (jas N e d) fun b=>oB (jxQ N N c b.1) fun a=>some (a.1,b.2,a.2))
theorem jBD :mK 34 (bX [.agg [pI,pS,.mtk 800002 .str 9 true,pI,pI,.tre 800005 .q 32],pI] [pI,.mtk 800002 .str 9 true,.tre 800005 .q 32] (c7A (l_markQuery_m N))):=
 mO (fC (jdf N) (fC (jy0 N N) ja)) func34 rfl N .no _ (rs:=[800002,800005])
def jxn :Sh:=⟨.pv Y17::pI::dz 3 (pI::dz 25 []),[]⟩
def jxd (i:Z5) (e:Int):Z12:=
 (iter (fun d (c,a,b)=>bif decide (b<(c.length:Int))then oB (idx c b) fun j=>(bif !decide (j.1=a)then some (-1)else if fits (a+1)then oB (idx c b) fun h=>(bif !decide (h.2=(a+1))then some (-1)else if fits ((a+1)+1)then if fits (b+1)then d (c,((a+1)+1),(b+1))else none else none)else none)else some a) N (i,e,(0:Int)))
theorem jxt :mK 37 (bX [.pv Y17,pI] [pI] (c2A (jxd N))):=
 mO ja func37 rfl N (.seq .no (.seq (.seq .no (.block (.loop jxn .no))) .no)) _
def jQl :Sh:=⟨.pv Y11::pI::dz 3 (pI::dz 26 []),[]⟩
def jPy (k:List Z3) (h:Int):Z12:=
 (iter (fun e (c,b,a)=>bif decide (a<(c.length:Int))then oB (idx c a) fun l=>(oB (jr N b) fun f=>bif !decide (l.1=f)then some (-1)else if fits (b+1)then oB (idx c a) fun j=>(oB (jxd N j.2 (b+1)) fun d=>bif decide (d<0)then some (-1)else if fits (a+1)then e (c,d,(a+1))else none)else none)else some b) N (k,h,(0:Int)))
theorem jQE :mK 98 (bX [.pv Y11,pI] [pI] (c2A (jPy N))):=
 mO (fC (jaz N) (fC (jxt N) ja)) func98 rfl N (.seq .no (.seq (.seq .no (.block (.loop jQl .no))) .no)) _
def l_heldCache_m (e:Int) (d:Int) (c:List Z3) (b:Int):Z12:=
 (oB (jPy N c b) fun a=>bif decide (a<0)then some (-1)else some a)
theorem jQy :mK 36 (bX [.agg [pI,pI,.pv Y11],pI] [pI] (c4A (l_heldCache_m N))):=
 mO (fC (jQE N) ja) func36 rfl N .no _
def l_FnExactCacheTop_m (l:Int) (w:Int) (v:List Z3) (u:List Z1) (q:List Z4) (n:List Z7) (C:Int) (k:Int) (m:List UInt8) (j:List Z1) (r:Int) (p:Int) (o:List DQ):Z8:=
 (oB (jPA N l w v 1048576) fun K=>bif decide (K<0)then some true else oB (l_szIndex_m N u q n K) fun H=>bif decide (H<0)then some true else oB (jGR N N k m j r p o H) fun U=>bif decide (U<0)then some true else oB (jPs N l w v) fun B=>oB (l_toIndex_m N u q n) fun G=>oB (jxF N N k m j r p o) fun i=>oB (s_CacheTop_m N B.1 B.2.1 B.2.2 G.1 G.2.1 G.2.2 C i.1 i.2.1 i.2.2.1 i.2.2.2.1 i.2.2.2.2.1 i.2.2.2.2.2) fun c=>oB (jPs N l w v) fun d=>oB (l_toIndex_m N u q n) fun e=>oB (jxF N N k m j r p o) fun a=>oB (i_CacheTop_m N d.1 d.2.1 d.2.2 e.1 e.2.1 e.2.2 C a.1 a.2.1 a.2.2.1 a.2.2.2.1 a.2.2.2.2.1 a.2.2.2.2.2) fun b=>oB (jPt N b.1 b.2.1 b.2.2.1 c.1 c.2.1 c.2.2.1) fun ab=>bif !ab then some false else oB (jxe N b.2.2.2.1 c.2.2.2.1) fun S=>bif !S then some false else bif !(b.2.2.2.2==c.2.2.2.2)then some false else oB (jPs N l w v) fun z=>oB (jPt N d.1 d.2.1 d.2.2 z.1 z.2.1 z.2.2) fun T=>bif !T then some false else oB (l_toIndex_m N u q n) fun A=>oB (l_eqIndex_m N e.1 e.2.1 e.2.2 A.1 A.2.1 A.2.2) fun ac=>bif !ac then some false else oB (jxF N N k m j r p o) fun h=>oB (jxK N N a.1 a.2.1 a.2.2.1 a.2.2.2.1 a.2.2.2.2.1 a.2.2.2.2.2 h.1 h.2.1 h.2.2.1 h.2.2.2.1 h.2.2.2.2.1 h.2.2.2.2.2) fun aa=>bif !aa then some false else oB (l_markCache_m N d.1 d.2.1 d.2.2 1) fun ad=>oB (l_markIndex_m N e.1 e.2.1 e.2.2 ad.1) fun W=>oB (l_markQuery_m N a.1 a.2.1 a.2.2.1 a.2.2.2.1 a.2.2.2.2.1 a.2.2.2.2.2 W.1) fun V=>bif decide (V.1<0)then some false else oB (jPt N b.1 b.2.1 b.2.2.1 c.1 c.2.1 c.2.2.1) fun R=>bif !R then some false else oB (jxe N b.2.2.2.1 c.2.2.2.1) fun Q=>bif !Q then some false else bif !(b.2.2.2.2==c.2.2.2.2)then some false else oB (l_markCache_m N b.1 b.2.1 b.2.2.1 1) fun E=>oB (jxf N b.2.2.2.1 E.1) fun x=>oB (l_heldCache_m N b.1 b.2.1 E.2 1) fun L=>bif decide (L<0)then some false else oB (jxd N x.2 L) fun P=>bif decide (P<0)then some false else bif !decide (P=x.1)then some false else oB (jPs N l w v) fun y=>oB (l_toIndex_m N u q n) fun D=>oB (jxF N N k m j r p o) fun f=>oB (i_CacheTop_m N y.1 y.2.1 y.2.2 D.1 D.2.1 D.2.2 C f.1 f.2.1 f.2.2.1 f.2.2.2.1 f.2.2.2.2.1 f.2.2.2.2.2) fun t=>oB (jPt N t.1 t.2.1 t.2.2.1 c.1 c.2.1 c.2.2.1) fun X=>bif !X then some false else oB (jxe N t.2.2.2.1 c.2.2.2.1) fun ae=>bif !ae then some false else bif !(t.2.2.2.2==c.2.2.2.2)then some false else oB (l_heldCache_m N b.1 b.2.1 E.2 1) fun I=>bif decide (I<0)then some false else oB (jxd N x.2 I) fun O=>bif decide (O<0)then some false else bif !decide (O=x.1)then some false else some true)
def jPN (N:Nat):Model:=⟨⟨[.agg [pI,pI,.pv Y11],.agg [.pv (.sl .str),.pv Y20,.pv Y1],pI,.agg [pI,pS,.pv (.sl .str),pI,pI,.pv (.sl .q)]],[]⟩,⟨[pB],[]⟩,c13A (l_FnExactCacheTop_m N)⟩
theorem jP2 :mK 5 (jPN N):=
 mO (fC (jPW N) (fC (jIX N) (fC (jzH N N) (fC (jP7 N) (fC (jJt N) (fC (jy9 N N) (fC (jOS N) (fC (jO9 N) (fC (jP1 N) (fC (jxo N) (fC (jIY N) (fC (jAA N N) (fC (jQH N) (fC (jJp N) (fC (jBD N) (fC (jxq N) (fC (jQy N) (fC (jxt N) ja)))))))))))))))))) func5 rfl N .no (jPN N) (dw:=[42,44,47,53,55,57,63,69,74,84,85,89,90,94,95,111,117,133,138,146,148,151,152,158,163,173,178])
end Go.Proofs.YtabhgjdikeipdaaGreatDoor
