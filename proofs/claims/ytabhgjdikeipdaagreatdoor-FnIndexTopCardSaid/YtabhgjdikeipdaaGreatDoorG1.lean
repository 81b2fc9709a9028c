import Derived.Test.YtabhgjdikeipdaaGreatDoorG1A
set_option linter.unusedVariables false
set_option linter.unusedSimpArgs false
namespace Go.Proofs.YtabhgjdikeipdaaGreatDoor
open Go.RowKit Go.Proofs.Tryz
variable (N : Nat)
open Option renaming bind -> oB
def jnV :Sh:=⟨.mtk 800000 Y7 116 false:: .dead::pI::pI:: .clo 59 []::dz 5 (pI::dz 71 []),[]⟩
def jmo :Sh:=⟨.mtk 800000 Y7 116 false:: .dead::pI::pI:: .clo 59 []::dz 5 (pI::pI::dz 70 []),[]⟩
def jdy (d:List Z1) (e:Int) (a:Int) (c:Int) (b:Unit):Option ((List Z1)):=siftG (cmp105 N) N d e a c b
 
theorem jqE :mK 285 (bX [.mtk 800000 Y7 116 false,pI,pI,pI,.clo 59 []] [.tup [],.mtk 800000 Y7 116 false] (c5A (jdy N))):=
 mO (fC (jaf N) ja) func285 rfl N (.seq .no (.block (.loop jnV (.block (.seq .no (.seq .no (.meet jmo .no .no))))))) _ (rs:=[800000])
def jmY :Sh:=⟨.mtk 800000 Y7 116 false:: .dead:: .dead:: .clo 59 []::dz 4 (pI::pI::pI::pI::dz 48 []),[]⟩
def jq3 :Sh:=⟨.mtk 800000 Y7 116 false:: .dead:: .dead:: .clo 59 []::dz 4 (pI::pI:: .dead:: .dead::pI::dz 47 []),[]⟩
def jaC (d:List Z1) (b:Int) (c:Int) (a:Unit):Option ((List Z1)):=heapG (cmp105 N) N d b c a
 
theorem jqz :mK 208 (bX [.mtk 800000 Y7 116 false,pI,pI,.clo 59 []] [.tup [],.mtk 800000 Y7 116 false] (c4A (jaC N))):=
 mO (fC (jqE N) ja) func208 rfl N (.seq .no (.seq .no (.seq .no (.seq (.seq .no (.block (.loop jmY .no))) (.seq .no (.block (.loop jq3 .no))))))) _ (rs:=[800000])
def jkH :Sh:=⟨.mtk 800000 Y7 116 false::pI::dz 6 (pI:: .box 9 0:: .pv (.int .u64)::pI::dz 55 []),[(9,false,[.pv (.int .u64)])]⟩
def jmx :Sh:=⟨.mtk 800000 Y7 116 false::pI::dz 6 (pI:: .box 9 0:: .pv (.int .u64)::pI::pI::dz 54 []),[(9,false,[.pv (.int .u64)])]⟩
def jez (d:List Z1) (b:Int) (c:Int) (a:Unit):Option ((List Z1)):=breakG N d b c a
 
theorem jlO :mK 209 (bX [.mtk 800000 Y7 116 false,pI,pI,.clo 59 []] [.tup [],.mtk 800000 Y7 116 false] (c4A (jez N))):=
 mO (fC (jhv N) (fC (jet N) ja)) func209 rfl N (.seq .no (.seq .no (.cond (.seq .no (.seq .no (.seq .no (.block (.loop jkH (.seq .no (.seq (.block (.seq .no (.meet jmx .no .no))) .no))))))) .no))) _ (rs:=[800000])
def jcG (d:List Z1) (b:Int) (c:Int) (a:Unit) (e:Int):Option (Int×Int×(List Z1)×Int):=order2G (cmp105 N) N d b c a e
 
theorem jrN :mK 322 ⟨⟨[.mtk 800000 Y7 116 false,pI,pI,.box 900003 0,.clo 59 []],[(900003,false,[pI])]⟩,⟨[.tup [pI,pI],.mtk 800000 Y7 116 false],[(900003,false,[pI])]⟩,c5A (jcG N)⟩:=
 mO (fC (jaf N) ja) func322 rfl N .no _ (rs:=[900003,800000])
def jdE (e:List Z1) (b:Int) (c:Int) (d:Int) (a:Unit) (f:Int):Option (Int×(List Z1)×Int):=medianG (cmp105 N) N e b c d a f
 
theorem jfr :mK 289 ⟨⟨[.mtk 800000 Y7 116 false,pI,pI,pI,.box 900004 0,.clo 59 []],[(900004,false,[pI])]⟩,⟨[pI,.mtk 800000 Y7 116 false],[(900004,false,[pI])]⟩,c6A (jdE N)⟩:=
 mO (fC (jrN N) ja) func289 rfl N .no _ (rs:=[900004,800000])
def jca (d:List Z1) (b:Int) (a:Unit) (c:Int):Option (Int×(List Z1)×Int):=medianAdjacentG (cmp105 N) N d b a c
 
theorem jko :mK 288 ⟨⟨[.mtk 800000 Y7 116 false,pI,.box 900002 0,.clo 59 []],[(900002,false,[pI])]⟩,⟨[pI,.mtk 800000 Y7 116 false],[(900002,false,[pI])]⟩,c4A (jca N)⟩:=
 mO (fC (jfr N) ja) func288 rfl N .no _ (rs:=[900002,800000])
def jnR :Sh:=⟨.mtk 800000 Y7 116 false:: .dead:: .dead:: .clo 59 []::dz 7 (.box 11 0::pI::pI::pI::dz 48 []),[(11,false,[pI])]⟩
def jrt :Sh:=⟨.mtk 800000 Y7 116 false::dz 10 (.box 11 0:: .dead::pI::dz 49 []),[(11,false,[pI])]⟩
def jjM (d:List Z1) (b:Int) (c:Int) (a:Unit):Option (Int×Int×(List Z1)):=choosePivotG (cmp105 N) N d b c a
 
theorem joO :mK 210 (bX [.mtk 800000 Y7 116 false,pI,pI,.clo 59 []] [.tup [pI,pI],.mtk 800000 Y7 116 false] (c4A (jjM N))):=
 mO (fC (jko N) (fC (jfr N) ja)) func210 rfl N (.seq .no (.seq .no (.seq .no (.seq .no (.seq .no (.seq .no (.meet jrt (.seq .no (.cond (.meet jnR .no .no) .no)) .no))))))) _ (rs:=[800000])
def jpl :Sh:=⟨.mtk 800000 Y7 116 false::dz 7 (pI::pI::dz 24 []),[]⟩
def jeV (d:List Z1) (b:Int) (c:Int) (a:Unit):Option ((List Z1)):=reverseRangeG N d b c a
 
theorem jma :mK 211 (bX [.mtk 800000 Y7 116 false,pI,pI,.clo 59 []] [.tup [],.mtk 800000 Y7 116 false] (c4A (jeV N))):=
 mO ja func211 rfl N (.seq .no (.seq .no (.block (.loop jpl .no)))) _ (rs:=[800000])
def jn3 :Sh:=⟨.mtk 800000 Y7 116 false::pI::pI:: .clo 59 []::dz 5 (pI::pI::dz 130 []),[]⟩
def jsj :Sh:=⟨.mtk 800000 Y7 116 false::pI::pI:: .clo 59 []::dz 5 (pI::pI::pI::dz 129 []),[]⟩
def jnQ :Sh:=⟨.mtk 800000 Y7 116 false::pI::pI:: .clo 59 []::dz 5 (pI::pI:: .dead::pI::dz 128 []),[]⟩
def jhb (d:List Z1) (b:Int) (c:Int) (a:Unit):Option (Bool×(List Z1)):=pisG (cmp105 N) N d b c a
 
theorem jnw :mK 212 (bX [.mtk 800000 Y7 116 false,pI,pI,.clo 59 []] [pB,.mtk 800000 Y7 116 false] (c4A (jhb N))):=
 mO (fC (jaf N) ja) func212 rfl N (.seq .no (.seq .no (.seq (.seq .no (.block (.loop jn3 (.seq .no (.seq (.block (.seq (.block (.loop jn3 .no)) (.seq .no (.seq .no (.seq .no (.meet jn3 (.seq .no (.cond (.seq .no (.block (.loop jsj .no))) .no)) (.seq .no (.cond (.seq .no (.block (.loop jnQ .no))) .no)))))))) .no))))) .no))) _ (rs:=[800000])
def jnv :Sh:=⟨.mtk 800000 Y7 116 false::pI:: .dead:: .dead:: .clo 59 []::dz 6 (pI::pI::dz 77 []),[]⟩
def jbG (e:List Z1) (c:Int) (d:Int) (a:Int) (b:Unit):Option (Int×(List Z1)):=peqG (cmp105 N) N e c d a b
 
theorem jp1 :mK 213 (bX [.mtk 800000 Y7 116 false,pI,pI,pI,.clo 59 []] [pI,.mtk 800000 Y7 116 false] (c5A (jbG N))):=
 mO (fC (jaf N) ja) func213 rfl N (.seq .no (.seq .no (.seq .no (.seq (.block (.loop jnv (.block (.seq (.block (.loop jnv .no)) (.seq (.block (.loop jnv .no)) .no))))) .no)))) _ (rs:=[800000])
def jru :Sh:=⟨.mtk 800000 Y7 116 false::pI:: .dead:: .dead:: .clo 59 []::dz 7 (pI::pI::dz 164 []),[]⟩
def jcT (e:List Z1) (c:Int) (d:Int) (a:Int) (b:Unit):Option (Int×Bool×(List Z1)):=partG (cmp105 N) N e c d a b
 
theorem jrO :mK 214 (bX [.mtk 800000 Y7 116 false,pI,pI,pI,.clo 59 []] [.tup [pI,pB],.mtk 800000 Y7 116 false] (c5A (jcT N))):=
 mO (fC (jaf N) ja) func214 rfl N (.seq .no (.seq .no (.seq .no (.seq (.block (.loop jru .no)) (.seq (.block (.loop jru .no)) (.seq .no (.seq .no (.seq .no (.seq .no (.seq (.block (.loop jru (.block (.seq (.block (.loop jru .no)) (.seq (.block (.loop jru .no)) .no))))) .no)))))))))) _ (rs:=[800000])
def jmM :Sh:=⟨.mtk 800000 Y7 116 false::pI::pI::pI:: .clo 59 []::dz 5 (pB::pB::dz 136 []),[]⟩
def jnd :Sh:=⟨.mtk 800000 Y7 116 false::pI::pI::pI:: .clo 59 []::dz 5 (pB::pB::pI::pI::dz 134 []),[]⟩
def jmi :Sh:=⟨.mtk 800000 Y7 116 false::pI::pI::pI:: .clo 59 []::dz 5 (pB::pB::pI::pI::pI::dz 133 []),[]⟩
def js7 :Sh:=⟨.mtk 800000 Y7 116 false::pI::pI::pI:: .clo 59 []::dz 5 (pB::pB::pI::dz 135 []),[]⟩
def jK (N D:Nat) (h:List Z1) (a b limit:Int) (f:Unit):Option ((List Z1)):=pdqG (cmp105 N) (fun c a b d=>heapG (cmp105 N) N c a b d) (fun c a b e d=>peqG (cmp105 N) N c a b e d) N D h a b limit f
 
def jcj (N D:Nat):Model:=⟨⟨[.mtk 800000 Y7 116 false,pI,pI,pI,.clo 59 []],[]⟩,⟨[.tup [],.mtk 800000 Y7 116 false],[]⟩,c5A (jK N D)⟩
theorem jrm (N D:Nat) (ih:mK 136 (jcj N D)):mK 136 (jcj N (D+1)):=
 mO (fC ih (fC (jqw N) (fC (jqz N) (fC (jlO N) (fC (joO N) (fC (jma N) (fC (jnw N) (fC (jaf N) (fC (jp1 N) (fC (jrO N) ja)))))))))) func136 rfl N (.seq .no (.seq .no (.block (.loop jmM (.block (.seq .no (.seq .no (.seq .no (.meet js7 .no (.seq .no (.meet jmi .no (.meet jnd .no .no)))))))))))) (jcj N (D+1)) (rs:=[800000])
theorem jix (N:Nat):∀D,mK 136 (jcj N D)
 |0=>modelOk_none ⟨_,func136,by decide,by kernel_rfl⟩ _ (fun a=>rfl)
 |D+1=>jrm N D (jix N D)
def k_slices_SortFunc_105_m (a:List Z1) (d:Unit):Option ((List Z1)):=
 (oB (k_math_bits_Len_m N (IntKind.u64.wrap (a.length:Int))) fun b=>oB (jK N N a 0 (a.length:Int) b ()) fun c=>some c)
theorem jtu :mK 58 (bX [.mtk 800000 Y7 116 false,.clo 59 []] [.tup [],.mtk 800000 Y7 116 false] (c2A (k_slices_SortFunc_105_m N))):=
 mO (fC (jda N) (fC (jix N N) ja)) func58 rfl N .no _ (rs:=[800000])
def jmK :Sh:=⟨.dead:: .dead:: .box 2 0:: .dead:: .box 4 0:: .box 5 0::dz 19 (.pv Y4::pI::pI::dz 32 []),[(2,false,[.pv (.sl .str),.pv Y17]),(4,false,[.nils,.nils]),(5,false,[.pv Y4,.tre 700501 Y7 116])]⟩
def jor :Sh:=⟨.dead:: .dead:: .box 2 0:: .dead:: .box 4 0:: .box 5 0:: .dead:: .box 7 0::dz 17 (.pv Y4::pI::pI::dz 4 (.pv Y20::pI::pI::dz 25 [])),[(2,false,[.pv (.sl .str),.pv Y17]),(4,false,[.nils,.nils]),(5,false,[.pv Y4,.tre 700501 Y7 116]),(7,false,[pI,.pv Y20,.pv Y16])]⟩
def jnj :Sh:=⟨.dead:: .dead:: .box 2 0:: .dead:: .box 4 0:: .box 5 0:: .dead:: .box 7 0:: .dead:: .box 9 0::dz 15 (.pv Y4::pI::pI::dz 4 (.pv Y20::pI::pI::dz 6 (.own 600041 Y18 111 true::pI::pI::dz 16 []))),[(2,false,[.pv (.sl .str),.pv Y17]),(4,false,[.nils,.nils]),(5,false,[.pv Y4,.tre 700501 Y7 116]),(7,false,[pI,.pv Y20,.pv Y16]),(9,false,[pS,pS])]⟩
def i_SegOf_m (c:List Z2) (c2:List Z4) (docs:List Z0):Option ((List Z0)×(List Z1)):=
 (oB (jaj N c c2) fun r=>bif !r then some (([]:List Z0),([]:List Z1))else oB (jbf N docs) fun r2=>bif !r2 then some (([]:List Z0),([]:List Z1))else oB (jbV N docs) fun r3=>iter (fun go (t25,t26,t27,c3,c4,s,s2)=>bif decide (t27<t26)then oB (idx t25 t27) fun e=>(iter (fun go2 (t252,t262,t272,t32,t33,t34,c5,c6,s3,s4,d,d2,d3)=>bif decide (t34<t33)then oB (idx t32 t34) fun e2=>(oB (jbw N c5 c6 e2.2) fun r4=>iter (fun go3 (t253,t263,t273,t322,t332,t342,t41,t42,t43,c7,c8,s5,s6,d4,d5,d6,f,f2)=>bif decide (t43<t42)then oB (idx t41 t43) fun e3=>(oB (i_Seg_put_m N f e3.1 e3.2 d4 s5 s6) fun r5=>if fits (t43+1)then go3 (t253,t263,t273,t322,t332,t342,t41,t42,(t43+1),c7,c8,r5.1,r5.2,d4,d5,d6,f,f2)else none)else if fits (t342+1)then go2 (t253,t263,t273,t322,t332,(t342+1),c7,c8,s5,s6,d4,d5,d6)else none) N (t252,t262,t272,t32,t33,t34,r4,(r4.length:Int),(0:Int),c5,c6,s3,s4,d,d2,d3,e2.1,e2.2))else if fits (t272+1)then go (t252,t262,(t272+1),c5,c6,s3,s4)else none) N (t25,t26,t27,e.2.1,(e.2.1.length:Int),(0:Int),c3,c4,s,s2,e.1,e.2.1,e.2.2))else oB (k_slices_SortFunc_105_m N s2 ()) fun r6=>some (s,r6)) N (docs,(docs.length:Int),(0:Int),c,c2,r3,([]:List Z1)))
theorem jqC :mK 12 (bX [.agg [.pv (.sl .str),.pv Y17],.pv Y4] [.agg [.pv Y4,.own 1 Y7 116 false]] (c3A (i_SegOf_m N))):=
 mO (fC (jdX N) (fC (jjU N) (fC (joC N) (fC (jgO N) (fC (jky N) (fC (jtu N) ja)))))) func12 rfl N (.seq .no (.seq .no (.seq .no (.seq (.seq .no (.block (.loop jmK (.seq .no (.seq .no (.seq (.block (.seq .no (.seq .no (.block (.loop jor (.seq .no (.seq .no (.seq (.block (.seq .no (.seq .no (.block (.loop jnj .no))))) .no)))))))) .no)))))) .no)))) _ (wr:=[23]) (dw:=[23,57])
def jtB :Sh:=⟨.pv Y22:: .pv Y22::dz 10 (pI::pI::dz 12 []),[]⟩
def jbX (b:List Int) (d:List Int):Z9:=
 (bif !decide ((b.length:Int)=(d.length:Int))then some false else iter (fun i (e,f,c,a)=>bif decide (a<c)then oB (idx e a) fun h=>(oB (idx f a) fun k=>bif !decide (h=k)then some false else if fits (a+1)then i (e,f,c,(a+1))else none)else some true) N (b,d,(b.length:Int),(0:Int)))
theorem jqi :mK 313 (bX [.pv Y22,.pv Y22] [pB] (c2A (jbX N))):=
 mO ja func313 rfl N (.seq .no (.seq .no (.seq (.seq .no (.block (.loop jtB .no))) .no))) _
def jcp (a:Int) (d:List Int) (b:Int) (e:List Int):Z9:=
 (bif decide (a=b)then oB (jbX N d e) fun c=>(some c)else some false)
theorem jth :mK 270 (bX [.agg [pI,.pv Y22],.agg [pI,.pv Y22]] [pB] (c4A (jcp N))):=
 mO (fC (jqi N) ja) func270 rfl N .no _
def jlX :Sh:=⟨.dead:: .pv Y13:: .clo 270 []::dz 12 (.pv Y13::pI::pI::dz 14 []),[]⟩
def jb6 (b:Z5) (e:Z5) (m:Unit):Z9:=
 (bif !decide ((b.length:Int)=(e.length:Int))then some false else iter (fun j (i,n,f,c,a)=>bif decide (a<c)then oB (idx f a) fun d=>(oB (idx i a) fun h=>oB (jcp N d.1 d.2 h.1 h.2) fun l=>bif !l then some false else if fits (a+1)then j (i,(),f,c,(a+1))else none)else some true) N (e,(),b,(b.length:Int),(0:Int)))
theorem jnG :mK 269 (bX [.pv Y13,.pv Y13,.clo 270 []] [pB] (c3A (jb6 N))):=
 mO (fC (jth N) ja) func269 rfl N (.seq .no (.seq .no (.seq (.seq .no (.block (.loop jlX .no))) .no))) _
def jcz (a:List UInt8) (b:List UInt8) (f:Z5) (d:List UInt8) (c:List UInt8) (h:Z5):Z9:=
 (bif decide (a=d)then bif decide (b=c)then oB (jb6 N f h ()) fun e=>(some e)else(some false)else some false)
theorem jp4 :mK 196 (bX [.agg [pS,pS,.pv Y13],.agg [pS,pS,.pv Y13]] [pB] (c6A (jcz N))):=
 mO (fC (jnG N) ja) func196 rfl N .no _
def jlD :Sh:=⟨.dead:: .pv Y6:: .clo 196 []::dz 12 (.pv Y6::pI::pI::dz 14 []),[]⟩
def jcn (d:List Z1) (f:List Z1) (m:Unit):Z9:=
 (bif !decide ((d.length:Int)=(f.length:Int))then some false else iter (fun j (i,n,h,e,a)=>bif decide (a<e)then oB (idx h a) fun b=>(oB (idx i a) fun c=>oB (jcz N b.1 b.2.1 b.2.2 c.1 c.2.1 c.2.2) fun l=>bif !l then some false else if fits (a+1)then j (i,(),h,e,(a+1))else none)else some true) N (f,(),d,(d.length:Int),(0:Int)))
theorem jsa :mK 195 (bX [.pv Y6,.pv Y6,.clo 196 []] [pB] (c3A (jcn N))):=
 mO (fC (jp4 N) ja) func195 rfl N (.seq .no (.seq .no (.seq (.seq .no (.block (.loop jlD .no))) .no))) _
def i_SegOk_m (a:List Z2) (c:List Z4) (b:List Z0) (e:List Z1):Z9:=
 (oB (jaj N a c) fun h=>bif !h then some false else oB (jbf N b) fun i=>bif !i then some false else oB (i_SegOf_m N a c b) fun f=>oB (jcn N f.2 e ()) fun d=>some d)
theorem joa :mK 123 (bX [.agg [.pv (.sl .str),.pv Y17],.agg [.pv Y4,.pv Y6]] [pB] (c4A (i_SegOk_m N))):=
 mO (fC (jdX N) (fC (jjU N) (fC (jqC N) (fC (jsa N) ja)))) func123 rfl N .no _
def jDT :Sh:=⟨.pv Y22::dz 4 (.pv Y22::pI::pI::dz 24 []),[]⟩
def jx1 (d:List Int):Z9:=
 (iter (fun h (b,c,e,a)=>bif decide (a<e)then oB (idx c a) fun f=>(oB (jm N f 0 999999999) fun k=>bif !k then some false else bif decide ((0:Int)<a)then if fits (a-1)then oB (idx b (a-1)) fun j=>(bif decide (f<=j)then some false else if fits (a+1)then h (b,c,e,(a+1))else none)else none else if fits (a+1)then h (b,c,e,(a+1))else none)else some (decide ((b.length:Int)<=60))) N (d,d,(d.length:Int),(0:Int)))
theorem jAN :mK 124 (bX [.pv Y22] [pB] (c1A (jx1 N))):=
 mO (fC (jY N) ja) func124 rfl N (.seq .no (.seq (.seq .no (.block (.loop jDT .no))) .no)) _
def jqv :Sh:=⟨.dead::pI:: .dead:: .dead:: .box 4 0::dz 6 (.pv Y4::pI::pI::dz 10 []),[(4,false,[pI,.nils,.nils])]⟩
def i_Seg_doc_m (d:(List Z0)×(List Z1)) (j:Int):Option (Int×Z12×Z7×Bool):=
 (iter (fun h (e,f,c,a,k)=>bif decide (a<c)then oB (idx f a) fun b=>(bif decide (b.1=e)then some (b.1,b.2.1,b.2.2,true)else if fits (a+1)then h (e,f,c,(a+1),k)else none)else some (0,([]:Z14),([]:Z8),false)) N (j,d.1,(d.1.length:Int),(0:Int),(0:Int)))
theorem jlU :mK 125 (bX [.ptr Y3,pI] [.tup [.agg [pI,.pv Y20,.pv Y16],pB]] (c2A (i_Seg_doc_m N))):=
 mO ja func125 rfl N (.seq .no (.seq (.seq .no (.block (.loop jqv .no))) .no)) _
def jIP :Sh:=⟨.pv Y22::pI::dz 5 (pI::pI::dz 10 []),[]⟩
def jHJ (c:List Int) (j:Int):Z15:=
 (iter (fun h (b,d,e,a)=>bif decide (a<e)then oB (idx b a) fun f=>(bif decide (d=f)then some a else if fits (a+1)then h (b,d,e,(a+1))else none)else some (-1)) N (c,j,(c.length:Int),(0:Int)))
theorem jJu :mK 241 (bX [.pv Y22,pI] [pI] (c2A (jHJ N))):=
 mO ja func241 rfl N (.seq .no (.seq (.seq .no (.block (.loop jIP .no))) .no)) _
def jHG (c:List Int) (a:Int):Z9:=
 (oB (jHJ N c a) fun b=>some (decide ((0:Int)<=b)))
theorem jIT :mK 170 (bX [.pv Y22,pI] [pB] (c2A (jHG N))):=
 mO (fC (jJu N) ja) func170 rfl N .no _
def jIi :Sh:=⟨.dead:: .box 1 0:: .dead:: .own 600003 Y5 105 false::dz 5 (.pv Y4::pI::pI::dz 15 []),[(1,false,[.pv Y4,.pv Y6,.pv Y22])]⟩
def jHE (h:List Z0) (o:List Z1) (n:List Int):Z18:=
 (iter (fun i (b,f,e,a,j,k,c)=>bif decide (a<e)then oB (idx f a) fun d=>(oB (jHG N c d.1) fun m=>bif !m then if room b.length ([d]:List Z0).length 56 then if fits (a+1)then i ((b++([d]:List Z0)),f,e,(a+1),j,k,c)else none else none else if fits (a+1)then i (b,f,e,(a+1),j,k,c)else none)else some b) N (([]:List Z0),h,(h.length:Int),(0:Int),h,o,n))
theorem jH4 :mK 101 (bX [.agg [.pv Y4,.pv Y6,.pv Y22]] [.own 1 Y5 105 false] (c3A (jHE N))):=
 mO (fC (jIT N) ja) func101 rfl N (.seq .no (.seq .no (.seq (.seq .no (.block (.loop jIi .no))) .no))) _
def jIO :Sh:=⟨dz 3 (.box 3 0::dz 17 (.pv Y22::pI::pI::dz 16 [])),[(3,true,[.pv Y4,.pv Y6,.pv Y22])]⟩
def jHI (m:List Z2) (r:List Z4) (f:List Z0) (h:List Z1) (b:List Int):Z9:=
 (oB (i_SegOk_m N m r f h) fun o=>bif !o then some false else oB (jx1 N b) fun p=>bif !p then some false else iter (fun n (j,e,a,c,d,i)=>bif decide (a<e)then oB (idx j a) fun l=>(oB (i_Seg_doc_m N (c,d) l) fun t=>bif !t.2.2.2 then some false else if fits (a+1)then n (j,e,(a+1),c,d,i)else none)else oB (jHE N c d i) fun k=>some (decide ((0:Int)<k.length))) N (b,(b.length:Int),(0:Int),f,h,b))
theorem jJD :mK 51 (bX [.agg [.pv (.sl .str),.pv Y17],.agg [.pv Y4,.pv Y6,.pv Y22]] [pB] (c5A (jHI N))):=
 mO (fC (joa N) (fC (jAN N) (fC (jlU N) (fC (jH4 N) ja)))) func51 rfl N (.seq .no (.seq .no (.seq (.seq .no (.block (.loop jIO .no))) .no))) _
def jxH (N:Nat) (a:Int):Z9:=
 (some (!decide (a=a)))
theorem joK :mK 172 (bX [pI] [pB] (c1A (jxH N))):=
 mO ja func172 rfl N .no _
def jxY (a:Int) (b:Int):Z15:=
 (oB (jxH N a) fun d=>oB (jxH N b) fun c=>bif d then bif c then some 0 else(some (-1))else bif c then some 1 else bif decide (a<b)then some (-1)else bif decide (b<a)then some 1 else some 0)
theorem jpP :mK 104 (bX [pI,pI] [pI] (c2A (jxY N))):=
 mO (fC (joK N) ja) func104 rfl N .no _
def i_allAlive_1_m (a:Int) (d:Z14) (f:Z8) (b:Int) (e:Z14) (h:Z8):Z15:=
 (oB (jxY N a b) fun c=>some c)
theorem jHC :mK 103 (bX [.agg [pI,.pv Y20,.pv Y16],.agg [pI,.pv Y20,.pv Y16]] [pI] (c6A (i_allAlive_1_m N))):=
 mO (fC (jpP N) ja) func103 rfl N .no _
def cmp669 (N:Nat):(Unit)->Z0->Z0->Option Int:=(fun(cmp:Unit) (e e2:Int×Z12×Z7)=>i_allAlive_1_m N e.1 e.2.1 e.2.2 e2.1 e2.2.1 e2.2.2)
def jIw :Sh:=⟨.mtk 800000 Y5 105 false::pI::pI:: .clo 103 []::dz 4 (pI::dz 44 []),[]⟩
def jJn :Sh:=⟨.mtk 800000 Y5 105 false::pI::pI:: .clo 103 []::dz 4 (pI::pI::dz 43 []),[]⟩
def jJk (d:List Z0) (b:Int) (c:Int) (a:Unit):Z18:=insG (cmp669 N) N d b c a
 
theorem jIC :mK 242 (bX [.mtk 800000 Y5 105 false,pI,pI,.clo 103 []] [.tup [],.mtk 800000 Y5 105 false] (c4A (jJk N))):=
 mO (fC (jHC N) ja) func242 rfl N (.seq .no (.block (.loop jIw (.seq .no (.seq (.block (.seq .no (.block (.loop jJn .no)))) .no))))) _ (rs:=[800000])
def jI7 :Sh:=⟨.mtk 800000 Y5 105 false:: .dead::pI::pI:: .clo 103 []::dz 5 (pI::dz 71 []),[]⟩
def jJE :Sh:=⟨.mtk 800000 Y5 105 false:: .dead::pI::pI:: .clo 103 []::dz 5 (pI::pI::dz 70 []),[]⟩
def jJr (d:List Z0) (e:Int) (a:Int) (c:Int) (b:Unit):Z18:=siftG (cmp669 N) N d e a c b
 
theorem jIA :mK 303 (bX [.mtk 800000 Y5 105 false,pI,pI,pI,.clo 103 []] [.tup [],.mtk 800000 Y5 105 false] (c5A (jJr N))):=
 mO (fC (jHC N) ja) func303 rfl N (.seq .no (.block (.loop jI7 (.block (.seq .no (.seq .no (.meet jJE .no .no))))))) _ (rs:=[800000])
def jH9 :Sh:=⟨.mtk 800000 Y5 105 false:: .dead:: .dead:: .clo 103 []::dz 4 (pI::pI::pI::pI::dz 48 []),[]⟩
def jIK :Sh:=⟨.mtk 800000 Y5 105 false:: .dead:: .dead:: .clo 103 []::dz 4 (pI::pI:: .dead:: .dead::pI::dz 47 []),[]⟩
def jIj (d:List Z0) (b:Int) (c:Int) (a:Unit):Z18:=heapG (cmp669 N) N d b c a
 
theorem jJa :mK 243 (bX [.mtk 800000 Y5 105 false,pI,pI,.clo 103 []] [.tup [],.mtk 800000 Y5 105 false] (c4A (jIj N))):=
 mO (fC (jIA N) ja) func243 rfl N (.seq .no (.seq .no (.seq .no (.seq (.seq .no (.block (.loop jH9 .no))) (.seq .no (.block (.loop jIK .no))))))) _ (rs:=[800000])
def jH6 :Sh:=⟨.mtk 800000 Y5 105 false::pI::dz 6 (pI:: .box 9 0:: .pv (.int .u64)::pI::dz 55 []),[(9,false,[.pv (.int .u64)])]⟩
def jJm :Sh:=⟨.mtk 800000 Y5 105 false::pI::dz 6 (pI:: .box 9 0:: .pv (.int .u64)::pI::pI::dz 54 []),[(9,false,[.pv (.int .u64)])]⟩
def jI4 (d:List Z0) (b:Int) (c:Int) (a:Unit):Z18:=breakG N d b c a
 
theorem jIs :mK 244 (bX [.mtk 800000 Y5 105 false,pI,pI,.clo 103 []] [.tup [],.mtk 800000 Y5 105 false] (c4A (jI4 N))):=
 mO (fC (jhv N) (fC (jet N) ja)) func244 rfl N (.seq .no (.seq .no (.cond (.seq .no (.seq .no (.seq .no (.block (.loop jH6 (.seq .no (.seq (.block (.seq .no (.meet jJm .no .no))) .no))))))) .no))) _ (rs:=[800000])
def jJC (d:List Z0) (b:Int) (c:Int) (a:Unit) (e:Int):Option (Int×Int×(List Z0)×Int):=order2G (cmp669 N) N d b c a e
 
theorem jIo :mK 336 ⟨⟨[.mtk 800000 Y5 105 false,pI,pI,.box 900003 0,.clo 103 []],[(900003,false,[pI])]⟩,⟨[.tup [pI,pI],.mtk 800000 Y5 105 false],[(900003,false,[pI])]⟩,c5A (jJC N)⟩:=
 mO (fC (jHC N) ja) func336 rfl N .no _ (rs:=[900003,800000])
def jII (e:List Z0) (b:Int) (c:Int) (d:Int) (a:Unit) (f:Int):Option (Int×(List Z0)×Int):=medianG (cmp669 N) N e b c d a f
 
theorem jHQ :mK 305 ⟨⟨[.mtk 800000 Y5 105 false,pI,pI,pI,.box 900004 0,.clo 103 []],[(900004,false,[pI])]⟩,⟨[pI,.mtk 800000 Y5 105 false],[(900004,false,[pI])]⟩,c6A (jII N)⟩:=
 mO (fC (jIo N) ja) func305 rfl N .no _ (rs:=[900004,800000])
def jIn (d:List Z0) (b:Int) (a:Unit) (c:Int):Option (Int×(List Z0)×Int):=medianAdjacentG (cmp669 N) N d b a c
 
theorem jI9 :mK 304 ⟨⟨[.mtk 800000 Y5 105 false,pI,.box 900002 0,.clo 103 []],[(900002,false,[pI])]⟩,⟨[pI,.mtk 800000 Y5 105 false],[(900002,false,[pI])]⟩,c4A (jIn N)⟩:=
 mO (fC (jHQ N) ja) func304 rfl N .no _ (rs:=[900002,800000])
def jJw :Sh:=⟨.mtk 800000 Y5 105 false:: .dead:: .dead:: .clo 103 []::dz 7 (.box 11 0::pI::pI::pI::dz 48 []),[(11,false,[pI])]⟩
def jI6 :Sh:=⟨.mtk 800000 Y5 105 false::dz 10 (.box 11 0:: .dead::pI::dz 49 []),[(11,false,[pI])]⟩
def jIq (d:List Z0) (b:Int) (c:Int) (a:Unit):Option (Int×Int×(List Z0)):=choosePivotG (cmp669 N) N d b c a
 
theorem jJz :mK 245 (bX [.mtk 800000 Y5 105 false,pI,pI,.clo 103 []] [.tup [pI,pI],.mtk 800000 Y5 105 false] (c4A (jIq N))):=
 mO (fC (jI9 N) (fC (jHQ N) ja)) func245 rfl N (.seq .no (.seq .no (.seq .no (.seq .no (.seq .no (.seq .no (.meet jI6 (.seq .no (.cond (.meet jJw .no .no) .no)) .no))))))) _ (rs:=[800000])
def jJB :Sh:=⟨.mtk 800000 Y5 105 false::dz 7 (pI::pI::dz 24 []),[]⟩
def jJs (d:List Z0) (b:Int) (c:Int) (a:Unit):Z18:=reverseRangeG N d b c a
 
theorem jIk :mK 246 (bX [.mtk 800000 Y5 105 false,pI,pI,.clo 103 []] [.tup [],.mtk 800000 Y5 105 false] (c4A (jJs N))):=
 mO ja func246 rfl N (.seq .no (.seq .no (.block (.loop jJB .no)))) _ (rs:=[800000])
def jHL :Sh:=⟨.mtk 800000 Y5 105 false::pI::pI:: .clo 103 []::dz 5 (pI::pI::dz 130 []),[]⟩
def jJh :Sh:=⟨.mtk 800000 Y5 105 false::pI::pI:: .clo 103 []::dz 5 (pI::pI::pI::dz 129 []),[]⟩
def jIF :Sh:=⟨.mtk 800000 Y5 105 false::pI::pI:: .clo 103 []::dz 5 (pI::pI:: .dead::pI::dz 128 []),[]⟩
def jIx (d:List Z0) (b:Int) (c:Int) (a:Unit):Option (Bool×(List Z0)):=pisG (cmp669 N) N d b c a
 
theorem jI1 :mK 247 (bX [.mtk 800000 Y5 105 false,pI,pI,.clo 103 []] [pB,.mtk 800000 Y5 105 false] (c4A (jIx N))):=
 mO (fC (jHC N) ja) func247 rfl N (.seq .no (.seq .no (.seq (.seq .no (.block (.loop jHL (.seq .no (.seq (.block (.seq (.block (.loop jHL .no)) (.seq .no (.seq .no (.seq .no (.meet jHL (.seq .no (.cond (.seq .no (.block (.loop jJh .no))) .no)) (.seq .no (.cond (.seq .no (.block (.loop jIF .no))) .no)))))))) .no))))) .no))) _ (rs:=[800000])
def jHK :Sh:=⟨.mtk 800000 Y5 105 false::pI:: .dead:: .dead:: .clo 103 []::dz 6 (pI::pI::dz 77 []),[]⟩
def jIh (e:List Z0) (c:Int) (d:Int) (a:Int) (b:Unit):Option (Int×(List Z0)):=peqG (cmp669 N) N e c d a b
 
theorem jH7 :mK 248 (bX [.mtk 800000 Y5 105 false,pI,pI,pI,.clo 103 []] [pI,.mtk 800000 Y5 105 false] (c5A (jIh N))):=
 mO (fC (jHC N) ja) func248 rfl N (.seq .no (.seq .no (.seq .no (.seq (.block (.loop jHK (.block (.seq (.block (.loop jHK .no)) (.seq (.block (.loop jHK .no)) .no))))) .no)))) _ (rs:=[800000])
def jHD :Sh:=⟨.mtk 800000 Y5 105 false::pI:: .dead:: .dead:: .clo 103 []::dz 7 (pI::pI::dz 164 []),[]⟩
def jIZ (e:List Z0) (c:Int) (d:Int) (a:Int) (b:Unit):Option (Int×Bool×(List Z0)):=partG (cmp669 N) N e c d a b
 
theorem jJc :mK 249 (bX [.mtk 800000 Y5 105 false,pI,pI,pI,.clo 103 []] [.tup [pI,pB],.mtk 800000 Y5 105 false] (c5A (jIZ N))):=
 mO (fC (jHC N) ja) func249 rfl N (.seq .no (.seq .no (.seq .no (.seq (.block (.loop jHD .no)) (.seq (.block (.loop jHD .no)) (.seq .no (.seq .no (.seq .no (.seq .no (.seq (.block (.loop jHD (.block (.seq (.block (.loop jHD .no)) (.seq (.block (.loop jHD .no)) .no))))) .no)))))))))) _ (rs:=[800000])
def jIv :Sh:=⟨.mtk 800000 Y5 105 false::pI::pI::pI:: .clo 103 []::dz 5 (pB::pB::dz 136 []),[]⟩
def jIt :Sh:=⟨.mtk 800000 Y5 105 false::pI::pI::pI:: .clo 103 []::dz 5 (pB::pB::pI::pI::dz 134 []),[]⟩
def jIU :Sh:=⟨.mtk 800000 Y5 105 false::pI::pI::pI:: .clo 103 []::dz 5 (pB::pB::pI::pI::pI::dz 133 []),[]⟩
def jID :Sh:=⟨.mtk 800000 Y5 105 false::pI::pI::pI:: .clo 103 []::dz 5 (pB::pB::pI::dz 135 []),[]⟩
def jHN (N D:Nat) (h:List Z0) (a b limit:Int) (f:Unit):Z18:=pdqG (cmp669 N) (fun c a b d=>heapG (cmp669 N) N c a b d) (fun c a b e d=>peqG (cmp669 N) N c a b e d) N D h a b limit f
 
def jHF (N D:Nat):Model:=⟨⟨[.mtk 800000 Y5 105 false,pI,pI,pI,.clo 103 []],[]⟩,⟨[.tup [],.mtk 800000 Y5 105 false],[]⟩,c5A (jHN N D)⟩
theorem jJo (N D:Nat) (ih:mK 171 (jHF N D)):mK 171 (jHF N (D+1)):=
 mO (fC ih (fC (jIC N) (fC (jJa N) (fC (jIs N) (fC (jJz N) (fC (jIk N) (fC (jI1 N) (fC (jHC N) (fC (jH7 N) (fC (jJc N) ja)))))))))) func171 rfl N (.seq .no (.seq .no (.block (.loop jIv (.block (.seq .no (.seq .no (.seq .no (.meet jID .no (.seq .no (.meet jIU .no (.meet jIt .no .no)))))))))))) (jHF N (D+1)) (rs:=[800000])
theorem jHV (N:Nat):∀D,mK 171 (jHF N D)
 |0=>modelOk_none ⟨_,func171,by decide,by kernel_rfl⟩ _ (fun a=>rfl)
 |D+1=>jJo N D (jHV N D)
def k_slices_SortFunc_669_m (a:List Z0) (d:Unit):Z18:=
 (oB (k_math_bits_Len_m N (IntKind.u64.wrap (a.length:Int))) fun b=>oB (jHN N N a 0 (a.length:Int) b ()) fun c=>some c)
theorem jIu :mK 102 (bX [.mtk 800000 Y5 105 false,.clo 103 []] [.tup [],.mtk 800000 Y5 105 false] (c2A (k_slices_SortFunc_669_m N))):=
 mO (fC (jda N) (fC (jHV N N) ja)) func102 rfl N .no _ (rs:=[800000])
def jH5 :Sh:=⟨dz 3 (.mtk 600003 Y5 105 false::dz 3 (.pv Y1::pI::pI::dz 11 [])),[]⟩
def i_allAlive_m (d:List Z3):Z18:=
 (iter (fun i (c,f,e,a)=>bif decide (a<e)then oB (idx f a) fun b=>(oB (jHE N b.1.1 b.1.2 b.2) fun h=>if room c.length h.length 56 then if fits (a+1)then i ((c++h),f,e,(a+1))else none else none)else oB (k_slices_SortFunc_669_m N c ()) fun k=>some k) N (([]:List Z0),d,(d.length:Int),(0:Int)))
theorem jHR :mK 43 (bX [.pv Y1] [.own 1 Y5 105 false] (c1A (i_allAlive_m N))):=
 mO (fC (jH4 N) (fC (jIu N) ja)) func43 rfl N (.seq .no (.seq .no (.seq (.seq .no (.block (.loop jH5 .no))) .no))) _ (wr:=[6,16])
def jIf :Sh:=⟨.dead:: .box 1 0::dz 14 (.pv Y1::pI::pI::dz 13 []),[(1,false,[.pv (.sl .str),.pv Y17,.pv Y1])]⟩
def i_IndexOk_m (i:List Z2) (h:List Z4) (a:List Z3):Z9:=
 (oB (jaj N i h) fun p=>bif !p then some false else bif decide ((5:Int)<a.length)then some false else iter (fun m (d,j,b,e,k,f)=>bif decide (b<j)then oB (idx d b) fun c=>(oB (jHI N e k c.1.1 c.1.2 c.2) fun q=>bif !q then some false else if fits (b+1)then m (d,j,(b+1),e,k,f)else none)else oB (i_allAlive_m N f) fun o=>oB (jbf N o) fun l=>some l) N (a,(a.length:Int),(0:Int),i,h,a))
theorem jIr :mK 10 (bX [.agg [.pv (.sl .str),.pv Y17,.pv Y1]] [pB] (c3A (i_IndexOk_m N))):=
 mO (fC (jdX N) (fC (jJD N) (fC (jHR N) (fC (jjU N) ja)))) func10 rfl N (.seq .no (.seq .no (.seq (.seq .no (.block (.loop jIf .no))) .no))) _
def jDx :Sh:=⟨pS::dz 4 (pI::pI::dz 23 []),[]⟩
def jxV (e:List UInt8):Z9:=
 (iter (fun d (b,c,a)=>bif decide (a<c)then oB (idx b a) fun f=>(oB (jaw N (f.toNat:Int)) fun k=>bif !k then oB (idx b a) fun i=>(bif !decide ((i.toNat:Int)=42)then oB (idx b a) fun j=>(bif !decide ((j.toNat:Int)=63)then some false else if fits (a+1)then d (b,c,(a+1))else none)else if fits (a+1)then d (b,c,(a+1))else none)else if fits (a+1)then d (b,c,(a+1))else none)else oB (jm N (b.length:Int) 1 12) fun l=>some l) N (e,(e.length:Int),(0:Int)))
theorem jz9 :mK 144 (bX [pS] [pB] (c1A (jxV N))):=
 mO (fC (jeK N) (fC (jY N) ja)) func144 rfl N (.seq .no (.seq (.seq .no (.block (.loop jDx .no))) .no)) _
def jBs :Sh:=⟨.dead::pI:: .box 2 0::dz 90 (.pv (.sl .str)::pI::pI::dz 39 []),[(2,false,[pI,pS,.pv (.sl .str),pI,pI,.pv (.sl .q)])]⟩
def jC6 :Sh:=⟨.dead::pI::dz 121 (.pv (.sl .q)::pI::pI::dz 9 []),[]⟩
def jDY :Sh:=⟨.dead::pI:: .box 2 0::dz 132 [],[(2,false,[pI,pS,.pv (.sl .str),pI,pI,.pv (.sl .q)])]⟩
def jzZ :Sh:=⟨.dead::pI:: .box 2 0:: .dead:: .dead:: .box 5 0::dz 129 [],[(2,false,[pI,pS,.pv (.sl .str),pI,pI,.pv (.sl .q)]),(5,false,[pB,pI,pI,pI,pI,pB,pI,pI])]⟩
def jxE (N:Nat):(D:Nat)->Int->Z2->(List Z2)->Int->Int->(List DQ)->Int->Z9
 |0,_,_,_,_,_,_,_=>none
 |D+1,q,q2,q3,q4,q5,q6,deep=>
 meet (fun(g:Z21)=>
 match g with
 |(deep2,q7,q8,q9,q10,q11,q12,x,x2,x3,x4,x5,x6,x7,x8)=>
 meet (fun(g:Z21)=>
 match g with
 |(deep3,q13,q14,q15,q16,q17,q18,x9,x10,x11,x12,x13,x14,x15,x16)=>
 meet (fun(g:Int×Int×Z2×(List Z2)×Int×Int×(List DQ))=>
 match g with
 |(deep4,q19,q20,q21,q22,q23,q24)=>
 iter (fun go (g:Int×(List Z2)×Int×Int×Int×Z2×(List Z2)×Int×Int×(List DQ))=>
 match g with
 |(deep5,t93,t94,t95,q25,q26,q27,q28,q29,q30)=>
 bif decide (t95<t94)then
 oB (idx t93 t95) fun e=>
 (bif decide (q25=5)then
 oB (jxV N e) fun r6=>
 (bif !r6 then
 some false
 else
 oB (jO N e) fun r7=>
 bif r7 then
 some false
 else
 bif !decide (q25=5)then
 oB (jO N e) fun r8=>
 (bif !r8 then
 some false
 else
 if fits (t95+1)then go (deep5,t93,t94,(t95+1),q25,q26,q27,q28,q29,q30)else none)
 else
 if fits (t95+1)then go (deep5,t93,t94,(t95+1),q25,q26,q27,q28,q29,q30)else none)
 else
 bif !decide (q25=5)then
 oB (jO N e) fun r9=>
 (bif !r9 then
 some false
 else
 if fits (t95+1)then go (deep5,t93,t94,(t95+1),q25,q26,q27,q28,q29,q30)else none)
 else
 if fits (t95+1)then go (deep5,t93,t94,(t95+1),q25,q26,q27,q28,q29,q30)else none)
 else
 iter (fun go2 (g:Int×(List DQ)×Int×Int)=>
 match g with
 |(deep6,t123,t124,t125)=>
 bif decide (t125<t124)then
 oB (idx t123 t125) fun e2=>
 (if fits (deep6-1)then oB (jxE N D e2.kind e2.field e2.words e2.lo e2.hi e2.kids (deep6-1)) fun r10=>
 (bif !r10 then
 some false
 else
 if fits (t125+1)then go2 (deep6,t123,t124,(t125+1))else none)else none)
 else
 some true) N (deep5,q30,(q30.length:Int),0)) N (deep4,q21,(q21.length:Int),0,q19,q20,q21,q22,q23,q24)) fun J3=>
 bif x14 then
 oB (jm N q17 q16 999999999) fun r5=>
 (bif !r5 then
 some false
 else
 bif !x14 then
 bif !decide (q17=0)then
 some false
 else
 (J3 (deep3,q13,q14,q15,q16,q17,q18))
 else
 J3 (deep3,q13,q14,q15,q16,q17,q18))
 else
 bif !x14 then
 bif !decide (q17=0)then
 some false
 else
 (J3 (deep3,q13,q14,q15,q16,q17,q18))
 else
 J3 (deep3,q13,q14,q15,q16,q17,q18)) fun J2=>
 oB (jm N (q9.length:Int) x2 x3) fun r2=>
 bif !r2 then
 some false
 else
 oB (jm N (q12.length:Int) x7 x8) fun r3=>
 bif !r3 then
 some false
 else
 oB (jm N q10 x4 x5) fun r4=>
 bif !r4 then
 some false
 else
 J2 (deep2,q7,q8,q9,q10,q11,q12,x,x2,x3,x4,x5,x6,x7,x8)) fun J=>
 bif !((mget tI (.pair .bool (.pair tI (.pair tI (.pair tI (.pair tI (.pair .bool Y15)))))) gm_shapes q).isSome)then
 some false
 else
 bif decide (deep<1)then
 some false
 else
 bif !((((mget tI (.pair .bool (.pair tI (.pair tI (.pair tI (.pair tI (.pair .bool Y15)))))) gm_shapes q).getD (false,(0,(0,(0,(0,(false,(0,0)))))))).1)==(!decide (q2=([]:List UInt8))))then
 some false
 else
 bif((mget tI (.pair .bool (.pair tI (.pair tI (.pair tI (.pair tI (.pair .bool Y15)))))) gm_shapes q).getD (false,(0,(0,(0,(0,(false,(0,0)))))))).1 then
 oB (jO N q2) fun r=>
 (bif !r then
 some false
 else
 J (deep,q,q2,q3,q4,q5,q6,((mget tI (.pair .bool (.pair tI (.pair tI (.pair tI (.pair tI (.pair .bool Y15)))))) gm_shapes q).getD (false,(0,(0,(0,(0,(false,(0,0)))))))).1,(((mget tI (.pair .bool (.pair tI (.pair tI (.pair tI (.pair tI (.pair .bool Y15)))))) gm_shapes q).getD (false,(0,(0,(0,(0,(false,(0,0)))))))).2).1,((((mget tI (.pair .bool (.pair tI (.pair tI (.pair tI (.pair tI (.pair .bool Y15)))))) gm_shapes q).getD (false,(0,(0,(0,(0,(false,(0,0)))))))).2).2).1,(((((mget tI (.pair .bool (.pair tI (.pair tI (.pair tI (.pair tI (.pair .bool Y15)))))) gm_shapes q).getD (false,(0,(0,(0,(0,(false,(0,0)))))))).2).2).2).1,((((((mget tI (.pair .bool (.pair tI (.pair tI (.pair tI (.pair tI (.pair .bool Y15)))))) gm_shapes q).getD (false,(0,(0,(0,(0,(false,(0,0)))))))).2).2).2).2).1,(((((((mget tI (.pair .bool (.pair tI (.pair tI (.pair tI (.pair tI (.pair .bool Y15)))))) gm_shapes q).getD (false,(0,(0,(0,(0,(false,(0,0)))))))).2).2).2).2).2).1,((((((((mget tI (.pair .bool (.pair tI (.pair tI (.pair tI (.pair tI (.pair .bool Y15)))))) gm_shapes q).getD (false,(0,(0,(0,(0,(false,(0,0)))))))).2).2).2).2).2).2).1,((((((((mget tI (.pair .bool (.pair tI (.pair tI (.pair tI (.pair tI (.pair .bool Y15)))))) gm_shapes q).getD (false,(0,(0,(0,(0,(false,(0,0)))))))).2).2).2).2).2).2).2))
 else
 J (deep,q,q2,q3,q4,q5,q6,((mget tI (.pair .bool (.pair tI (.pair tI (.pair tI (.pair tI (.pair .bool Y15)))))) gm_shapes q).getD (false,(0,(0,(0,(0,(false,(0,0)))))))).1,(((mget tI (.pair .bool (.pair tI (.pair tI (.pair tI (.pair tI (.pair .bool Y15)))))) gm_shapes q).getD (false,(0,(0,(0,(0,(false,(0,0)))))))).2).1,((((mget tI (.pair .bool (.pair tI (.pair tI (.pair tI (.pair tI (.pair .bool Y15)))))) gm_shapes q).getD (false,(0,(0,(0,(0,(false,(0,0)))))))).2).2).1,(((((mget tI (.pair .bool (.pair tI (.pair tI (.pair tI (.pair tI (.pair .bool Y15)))))) gm_shapes q).getD (false,(0,(0,(0,(0,(false,(0,0)))))))).2).2).2).1,((((((mget tI (.pair .bool (.pair tI (.pair tI (.pair tI (.pair tI (.pair .bool Y15)))))) gm_shapes q).getD (false,(0,(0,(0,(0,(false,(0,0)))))))).2).2).2).2).1,(((((((mget tI (.pair .bool (.pair tI (.pair tI (.pair tI (.pair tI (.pair .bool Y15)))))) gm_shapes q).getD (false,(0,(0,(0,(0,(false,(0,0)))))))).2).2).2).2).2).1,((((((((mget tI (.pair .bool (.pair tI (.pair tI (.pair tI (.pair tI (.pair .bool Y15)))))) gm_shapes q).getD (false,(0,(0,(0,(0,(false,(0,0)))))))).2).2).2).2).2).2).1,((((((((mget tI (.pair .bool (.pair tI (.pair tI (.pair tI (.pair tI (.pair .bool Y15)))))) gm_shapes q).getD (false,(0,(0,(0,(0,(false,(0,0)))))))).2).2).2).2).2).2).2)
def jyl (N D:Nat):Model:=⟨⟨[.agg [pI,pS,.pv (.sl .str),pI,pI,.pv (.sl .q)],pI],[]⟩,⟨[pB],[]⟩,c7A (jxE N D)⟩
theorem jAF (N D:Nat) (ih:mK 72 (jyl N D)):mK 72 (jyl N (D+1)):=
 mO (fC ih (fC (jcM N) (fC (jY N) (fC (jz9 N) ja)))) func72 rfl N (.seq .no (.seq .no (.meet jzZ .no (.meet jzZ .no (.meet jDY .no (.seq (.seq .no (.block (.loop jBs .no))) (.seq (.seq .no (.block (.loop jC6 .no))) .no))))))) (jyl N (D+1))
theorem jzh (N:Nat):∀D,mK 72 (jyl N D)
 |0=>modelOk_none ⟨_,func72,by decide,by kernel_rfl⟩ _ (fun a=>rfl)
 |D+1=>jAF N D (jzh N D)
def i_QueryOk_m (h:Int) (f:List UInt8) (e:List Z2) (d:Int) (b:Int) (a:List DQ):Z9:=
 (oB (jxE N N h f e d b a 4) fun c=>some c)
theorem jCN :mK 18 (bX [.agg [pI,pS,.pv (.sl .str),pI,pI,.pv (.sl .q)]] [pB] (c6A (i_QueryOk_m N))):=
 mO (fC (jzh N N) ja) func18 rfl N .no _
def jyc (f:List Z2) (c:List Z4) (a:List UInt8):Option (Z2):=
 (oB (jO N a) fun d=>bif !d then some ([]:List UInt8)else oB (jbw N f c a) fun b=>bif decide ((b.length:Int)=0)then some ([]:List UInt8)else oB (idx b 0) fun e=>some e.1)
theorem jBn :mK 199 (bX [.agg [.pv (.sl .str),.pv Y17],pS] [pS] (c3A (jyc N))):=
 mO (fC (jcM N) (fC (jgO N) ja)) func199 rfl N .no _
def jnu :Sh:=⟨.dead::pS::pS::dz 9 (.pv Y6::pI::pI::dz 16 []),[]⟩
def i_Seg_posts_m (h:(List Z0)×(List Z1)) (j:List UInt8) (k:List UInt8):Option (Z16):=
 (iter (fun i (e,f,b,c,a)=>bif decide (a<c)then oB (idx b a) fun d=>(bif decide (d.1=e)then bif decide (d.2.1=f)then some d.2.2 else(if fits (a+1)then i (e,f,b,c,(a+1))else none)else if fits (a+1)then i (e,f,b,c,(a+1))else none)else some ([]:Z5)) N (j,k,h.2,(h.2.length:Int),(0:Int)))
theorem jcq :mK 281 (bX [.ptr Y3,pS,pS] [.pv Y13] (c3A (i_Seg_posts_m N))):=
 mO ja func281 rfl N (.seq .no (.seq (.seq .no (.block (.loop jnu .no))) .no)) _
def jni :Sh:=⟨dz 3 (pI::dz 12 (.pv Y13::pI::pI::dz 10 [])),[]⟩
def i_scorer_places_m (l:((List Z2)×(List Z4))×(List Z0)×(List Z1)) (h:List UInt8) (i:List UInt8) (m:Int):Option ((List Int)):=
 (oB (i_Seg_posts_m N l.2 h i) fun e=>iter (fun j (d,b,f,a)=>bif decide (a<f)then oB (idx b a) fun c=>(bif decide (c.1=d)then some c.2 else if fits (a+1)then j (d,b,f,(a+1))else none)else some ([]:List Int)) N (m,e,(e.length:Int),(0:Int)))
theorem jrB :mK 204 (bX [.ptr Y0,pS,pS,pI] [.pv Y22] (c4A (i_scorer_places_m N))):=
 mO (fC (jcq N) ja) func204 rfl N (.seq .no (.seq (.seq .no (.block (.loop jni .no))) .no)) _
def jmV :Sh:=⟨.dead::pS::dz 8 (.pv Y20::pI::pI::dz 10 []),[]⟩
def i_DocField_m (h:Int) (b:Z14) (j:Z8) (l:List UInt8):Option (Z2):=
 (oB (jbx N h b j) fun m=>bif m then iter (fun i (e,d,f,a)=>bif decide (a<f)then oB (idx d a) fun c=>(bif decide (c.1=e)then some c.2 else if fits (a+1)then i (e,d,f,(a+1))else none)else some ([]:List UInt8)) N (l,b,(b.length:Int),(0:Int))else some ([]:List UInt8))
theorem jqd :mK 317 (bX [.agg [pI,.pv Y20,.pv Y16],pS] [pS] (c4A (i_DocField_m N))):=
 mO (fC (jh0 N) ja) func317 rfl N (.seq .no (.seq (.seq .no (.cond (.seq .no (.block (.loop jmV .no))) .no)) .no)) _
def i_Seg_long_m (d:(List Z0)×(List Z1)) (c:List Z2) (e:List Z4) (b:List UInt8) (h:Int):Z15:=
 (oB (i_Seg_doc_m N d h) fun a=>bif !a.2.2.2 then some 0 else oB (i_DocField_m N a.1 a.2.1 a.2.2.1 b) fun i=>oB (jbw N c e i) fun f=>some (f.length:Int))
theorem jhs :mK 279 (bX [.ptr Y3,.agg [.pv (.sl .str),.pv Y17],pS,pI] [pI] (c5A (i_Seg_long_m N))):=
 mO (fC (jlU N) (fC (jqd N) (fC (jgO N) ja))) func279 rfl N .no _
def joq :Sh:=⟨pI::pI::dz 13 [],[]⟩
def ja2 (e:Int) (d:Int):Z15:=
 (iter (fun f (a,b)=>bif !decide (b=0)then if b≠0 then f (b,(a.tmod b))else none else if fits (0-a)then some (if(0-a)>a then 0-a else a)else none) N (e,d))
theorem jiQ :mK 340 (bX [pI,pI] [pI] (c2A (ja2 N))):=
 mO ja func340 rfl N (.seq .no (.seq (.block (.loop joq .no)) .no)) _
def jbk (a:Int) (b:Int):Z9:=
 (oB (jm N a (-1000000000) 1000000000) fun d=>bif d then oB (jm N b 1 1000000000) fun c=>(bif c then oB (ja2 N a b) fun e=>(some (decide (e=1)))else some false)else some false)
theorem jhS :mK 319 (bX [.agg [pI,pI]] [pB] (c2A (jbk N))):=
 mO (fC (jY N) (fC (jiQ N) ja)) func319 rfl N .no _
def jk5 :Sh:=⟨pI::pI:: .dead:: .dead:: .box 4 0::dz 24 [],[(4,false,[pI,pI])]⟩
def jcl (e:Int) (c:Int):Option (Int×Int×Bool):=
 (meet (fun(h:Int×Int×Int×Int)=>match h with|(d,b,k,j)=>oB (ja2 N d b) fun a=>if a≠0 then if fits (d.tdiv a)then if a≠0 then if fits (b.tdiv a)then oB (jbk N (d.tdiv a) (b.tdiv a)) fun i=>(bif !i then some (0,1,false)else some ((d.tdiv a),(b.tdiv a),true))else none else none else none else none) fun f=>bif decide (c<0)then if fits (0-e)then if fits (0-c)then f ((0-e),(0-c),0,0)else none else none else f (e,c,0,0))
theorem jlG :mK 339 (bX [pI,pI] [.tup [.agg [pI,pI],pB]] (c2A (jcl N))):=
 mO (fC (jiQ N) (fC (jhS N) ja)) func339 rfl N (.seq .no (.meet jk5 .no .no)) _
def jb7 (c:Int) (b:Int):Option (Int×Int×Bool):=
 (oB (jm N c (-1000000000) 1000000000) fun d=>bif !d then some (0,1,false)else oB (jm N b (-1000000000) 1000000000) fun e=>bif !e then some (0,1,false)else bif decide (b=0)then some (0,1,false)else oB (jcl N c b) fun a=>some (a.1,a.2.1,a.2.2))
theorem jpX :mK 318 (bX [pI,pI] [.tup [.agg [pI,pI],pB]] (c2A (jb7 N))):=
 mO (fC (jY N) (fC (jlG N) ja)) func318 rfl N .no _
def jtO :Sh:=⟨pI::pI::pI::pI::pI::dz 5 (.box 10 0:: .dead::pI::dz 53 []),[(10,false,[pI,pI])]⟩
def i_TermScore_m (i:Int) (k:Int) (l:Int) (j:Int) (m:Int):Option (Int×Int×Bool):=
 (oB (jm N i 1 80) fun q=>bif !q then some (0,1,false)else oB (jm N k i 80) fun t=>bif !t then some (0,1,false)else oB (jm N j 1 16) fun w=>bif !w then some (0,1,false)else oB (jm N m 1 j) fun n=>bif !n then some (0,1,false)else oB (jm N l k 1280) fun p=>bif !p then some (0,1,false)else iter (fun o (b,c,e,d,h,a,r,u)=>if fits (a+1)then if 0<=(a+1)then if fits (h*2^(min (a+1).toNat (IntKind.bits .i64)))then bif decide ((h*2^(min (a+1).toNat (IntKind.bits .i64)))<=d)then if fits (a+1)then o (b,c,e,d,h,(a+1),r,u)else none else(if fits (22*b)then if fits (a+1)then if fits ((22*b)*(a+1))then if fits (10*b)then if fits ((10*b)+3)then if fits (9*c)then if fits ((9*c)*d)then if e≠0 then if fits (((9*c)*d).tdiv e)then if fits (((10*b)+3)+(((9*c)*d).tdiv e))then oB (jb7 N ((22*b)*(a+1)) (((10*b)+3)+(((9*c)*d).tdiv e))) fun f=>(some (f.1,f.2.1,f.2.2))else none else none else none else none else none else none else none else none else none else none)else none else none else none) N (i,k,l,j,m,(0:Int),(0:Int),(0:Int)))
theorem jgE :mK 280 (bX [pI,pI,pI,pI,pI] [.tup [.agg [pI,pI],pB]] (c5A (i_TermScore_m N))):=
 mO (fC (jY N) (fC (jpX N) ja)) func280 rfl N (.seq .no (.seq .no (.seq .no (.seq (.block (.loop jtO .no)) .no)))) _
def i_RatFloor_m (c:Int) (a:Int) (b:Int):Z15:=
 (oB (jbk N c a) fun e=>bif !e then some 0 else oB (jm N b 1 1000) fun d=>bif !d then some 0 else if fits (c*b)then bif decide ((0:Int)<=(c*b))then if a≠0 then if fits ((c*b).tdiv a)then some ((c*b).tdiv a)else none else none else(if fits (0-(c*b))then if fits ((0-(c*b))+a)then if fits (((0-(c*b))+a)-1)then if a≠0 then if fits ((((0-(c*b))+a)-1).tdiv a)then if fits (0-((((0-(c*b))+a)-1).tdiv a))then some (0-((((0-(c*b))+a)-1).tdiv a))else none else none else none else none else none else none)else none)
theorem jiY :mK 282 (bX [.agg [pI,pI],pI] [pI] (c3A (i_RatFloor_m N))):=
 mO (fC (jhS N) (fC (jY N) ja)) func282 rfl N .no _
def jlZ :Sh:=⟨.ptr Y0::pS::pS::pI::dz 5 (.pv Y22::pI::dz 16 (.pv Y4::pI::pI::dz 49 [])),[]⟩
def i_scorer_points_m (d:((List Z2)×(List Z4))×(List Z0)×(List Z1)) (f:List UInt8) (o:List UInt8) (p:Int):Z15:=
 (oB (i_scorer_places_m N d f o p) fun l=>bif decide ((l.length:Int)=0)then some 0 else iter (fun u (a,b,q,j,h,e,n,i,c)=>bif decide (c<i)then oB (idx n c) fun t=>(oB (i_Seg_long_m N a.2 a.1.1 a.1.2 b t.1) fun m=>if fits (e+m)then if fits (c+1)then u (a,b,q,j,h,(e+m),n,i,(c+1))else none else none)else oB (i_Seg_long_m N a.2 a.1.1 a.1.2 b j) fun x=>oB (i_Seg_posts_m N a.2 b q) fun r=>oB (i_TermScore_m N (h.length:Int) x e (a.2.1.length:Int) (r.length:Int)) fun k=>oB (i_RatFloor_m N k.1 k.2.1 1000) fun v=>some v) N (d,f,o,p,l,(0:Int),d.2.1,(d.2.1.length:Int),(0:Int)))
theorem jsD :mK 198 (bX [.ptr Y0,pS,pS,pI] [pI] (c4A (i_scorer_points_m N))):=
 mO (fC (jrB N) (fC (jhs N) (fC (jcq N) (fC (jgE N) (fC (jiY N) ja))))) func198 rfl N (.seq .no (.seq .no (.seq .no (.seq .no (.seq (.seq .no (.block (.loop jlZ .no))) .no))))) _
def jyu (N:Nat) (b:List Z2) (a:List UInt8):Option (Z2):=jxR b a
 
def jBB (N:Nat):Model:=⟨⟨[.pv (.sl .str),pS],[]⟩,⟨[pS],[]⟩,c2A (jyu N)⟩
theorem jBE :mK 146 (jBB N):=jBz
def jBY :Sh:=⟨.pv (.sl Y22)::dz 4 (.pv (.sl Y22)::pI::pI::dz 10 []),[]⟩
def jyD (b:List (List Int)):Z9:=
 (iter (fun h (c,d,e,a)=>bif decide (a<e)then oB (idx d a) fun f=>(oB (jx1 N f) fun j=>bif !j then some false else if fits (a+1)then h (c,d,e,(a+1))else none)else some (decide ((c.length:Int)<=6))) N (b,b,(b.length:Int),(0:Int)))
theorem jD9 :mK 341 (bX [.pv (.sl Y22)] [pB] (c1A (jyD N))):=
 mO (fC (jAN N) ja) func341 rfl N (.seq .no (.seq (.seq .no (.block (.loop jBY .no))) .no)) _
def jyK (a:List (List Int)):Z9:=
 (bif decide ((0:Int)<a.length)then oB (jyD N a) fun b=>(some b)else some false)
theorem jD6 :mK 320 (bX [.pv (.sl Y22)] [pB] (c1A (jyK N))):=
 mO (fC (jD9 N) ja) func320 rfl N .no _
def jye (a:Int) (b:Int):Z9:=
 (oB (jxH N a) fun c=>bif c then oB (jxH N b) fun d=>(bif !d then some true else some (decide (a<b)))else some (decide (a<b)))
theorem jA5 :mK 356 (bX [pI,pI] [pB] (c2A (jye N))):=
 mO (fC (joK N) ja) func356 rfl N .no _
def jxW (N:Nat) (a:Int):Z9:=
 (some (!decide (a=a)))
theorem jCp :mK 357 (bX [pI] [pB] (c1A (jxW N))):=
 mO ja func357 rfl N .no _
def jB3 :Sh:=⟨.pv Y22::pI::dz 4 (pI::pI::pI::dz 45 []),[]⟩
def jyA (f:List Int) (m:Int):Option (Int×Bool):=
 (iter (fun h (c,d,e,a,b)=>bif decide (a<b)then if fits (a+b)then if 0<=(1:Int)then oB (idx c (IntKind.i64.wrap ((IntKind.u64.wrap (a+b)).fdiv (2^(min (1:Int).toNat (IntKind.bits .u64)))))) fun i=>(oB (jye N i d) fun n=>bif n then if fits ((IntKind.i64.wrap ((IntKind.u64.wrap (a+b)).fdiv (2^(min (1:Int).toNat (IntKind.bits .u64)))))+1)then h (c,d,e,((IntKind.i64.wrap ((IntKind.u64.wrap (a+b)).fdiv (2^(min (1:Int).toNat (IntKind.bits .u64)))))+1),b)else none else h (c,d,e,a,(IntKind.i64.wrap ((IntKind.u64.wrap (a+b)).fdiv (2^(min (1:Int).toNat (IntKind.bits .u64)))))))else none else none else bif decide (a<e)then oB (idx c a) fun k=>(bif decide (k=d)then some (a,true)else oB (idx c a) fun o=>oB (jxW N o) fun p=>bif p then oB (jxW N d) fun l=>(some (a,l))else some (a,false))else some (a,false)) N (f,m,(f.length:Int),(0:Int),(f.length:Int)))
theorem jDL :mK 342 (bX [.pv Y22,pI] [.tup [pI,pB]] (c2A (jyA N))):=
 mO (fC (jA5 N) (fC (jCp N) ja)) func342 rfl N (.seq .no (.seq .no (.seq .no (.seq (.block (.loop jB3 .no)) .no)))) _
def jys (a:List Int) (d:Int):Option (Int×Bool):=
 (oB (jyA N a d) fun b=>bif decide (b.1=(a.length:Int))then some (0,false)else oB (idx a b.1) fun c=>some (c,true))
theorem jAO :mK 321 (bX [.pv Y22,pI] [.tup [pI,pB]] (c2A (jys N))):=
 mO (fC (jDL N) ja) func321 rfl N .no _
def jBS :Sh:=⟨.pv (.sl Y22)::pI::dz 3 (.own 600005 tI 3 true::dz 20 (.pv Y22::pI::pI::dz 42 [])),[]⟩
def jDv :Sh:=⟨.pv (.sl Y22)::pI::dz 3 (.own 600005 tI 3 true:: .dead::pI::pI::pB::dz 16 (.pv Y22::pI::pI::dz 5 (.pv (.sl Y22)::pI::pI::dz 34 []))),[]⟩
def jyw (m:List (List Int)) (x:Int):Option ((List Int)):=
 (oB (jyK N m) fun D=>bif !D then some ([]:List Int)else oB (jm N x 0 5) fun E=>bif !E then some ([]:List Int)else oB (idx m 0) fun u=>iter (fun l (q,C,z,v,y,n)=>bif decide (n<y)then oB (idx v n) fun B=>(oB (cut q 1 (q.length:Int)) fun A=>iter (fun w (a,d,e,c,k,t,i,h,b,j,r,f)=>bif decide (f<r)then oB (idx j f) fun G=>(if fits (k+1)then oB (jys N G (k+1)) fun p=>(bif t then if fits (f+1)then w (a,d,e,c,p.1,p.2,i,h,b,j,r,(f+1))else none else if fits (f+1)then w (a,d,e,c,p.1,false,i,h,b,j,r,(f+1))else none)else none)else bif t then if fits (c+(a.length:Int))then if fits ((c+(a.length:Int))-1)then if fits (((c+(a.length:Int))-1)+d)then bif decide (k<=(((c+(a.length:Int))-1)+d))then if room e.length ([c]:List Int).length 8 then if fits (b+1)then l (a,d,(e++([c]:List Int)),i,h,(b+1))else none else none else(if fits (b+1)then l (a,d,e,i,h,(b+1))else none)else none else none else none else if fits (b+1)then l (a,d,e,i,h,(b+1))else none) N (q,C,z,B,B,true,v,y,n,A,(A.length:Int),(0:Int)))else some z) N (m,x,([]:List Int),u,(u.length:Int),(0:Int)))
theorem jCX :mK 283 (bX [.pv (.sl Y22),pI] [.own 1 tI 3 true] (c2A (jyw N))):=
 mO (fC (jD6 N) (fC (jY N) (fC (jAO N) ja))) func283 rfl N (.seq .no (.seq .no (.seq .no (.seq (.seq .no (.block (.loop jBS (.seq .no (.seq .no (.seq (.block (.seq .no (.seq .no (.seq (.seq .no (.block (.loop jDv .no))) .no)))) .no)))))) .no)))) _
def jCk :Sh:=⟨.ptr Y0::dz 3 (.box 4 0:: .box 5 0:: .dead:: .own 600007 Y18 111 true:: .own 600008 Y22 89 true::pI::dz 18 (.pv Y16::pI::pI::dz 59 [])),[(4,false,[pI,pS,.pv (.sl .str),pI,pI,.pv (.sl .q)]),(5,false,[pI,.pv Y20,.pv Y16])]⟩
def jDK :Sh:=⟨.ptr Y0::dz 3 (.box 4 0:: .box 5 0:: .dead:: .own 600007 Y18 111 true:: .own 600008 Y22 89 true::pI::pI:: .box 11 0:: .own 600012 tI 3 true::dz 15 (.pv Y16::pI::pI::dz 12 (.pv Y22::pI::pI::dz 44 []))),[(4,false,[pI,pS,.pv (.sl .str),pI,pI,.pv (.sl .q)]),(5,false,[pI,.pv Y20,.pv Y16]),(11,false,[pS,pI])]⟩
def jyB (x:((List Z2)×(List Z4))×(List Z0)×(List Z1)) (q:Int) (q2:List UInt8) (q3:List Z2) (q4:Int) (q5:Int) (q6:List DQ) (d:Int) (d2:Z14) (d3:Z8):Z15:=
 (oB (jyu N q3 ([32]:List UInt8)) fun r=>oB (jbw N x.1.1 x.1.2 r) fun r2=>bif decide ((r2.length:Int)=0)then some 0 else iter (fun go (x2,terms,lists,all,t28,t29,t30,q7,q8,q9,q10,q11,q12,d4,d5,d6)=>bif decide (t30<t29)then oB (idx t28 t30) fun e=>(oB (i_scorer_places_m N x2 q8 e.1 d4) fun r3=>iter (fun go2 (x3,terms2,lists2,all2,i,list,t282,t292,t302,t43,t44,t45,q13,q14,q15,q16,q17,q18,d7,d8,d9,t,t2)=>bif decide (t45<t44)then oB (idx t43 t45) fun e2=>(oB (idx terms2 0) fun e3=>if fits (t2-e3.2)then if fits ((t2-e3.2)-i)then if fits (e2-((t2-e3.2)-i))then bif decide ((0:Int)<=(e2-((t2-e3.2)-i)))then if room list.length ([(e2-((t2-e3.2)-i))]:List Int).length 8 then if fits (t45+1)then go2 (x3,terms2,lists2,all2,i,(list++([(e2-((t2-e3.2)-i))]:List Int)),t282,t292,t302,t43,t44,(t45+1),q13,q14,q15,q16,q17,q18,d7,d8,d9,t,t2)else none else none else(if fits (t45+1)then go2 (x3,terms2,lists2,all2,i,list,t282,t292,t302,t43,t44,(t45+1),q13,q14,q15,q16,q17,q18,d7,d8,d9,t,t2)else none)else none else none else none)else if room lists2.length ([list]:List (List Int)).length 24 then oB (i_scorer_points_m N x3 q14 t d7) fun r4=>(if fits (all2+r4)then if fits (t302+1)then go (x3,terms2,(lists2++([list]:List (List Int))),(all2+r4),t282,t292,(t302+1),q13,q14,q15,q16,q17,q18,d7,d8,d9)else none else none)else none) N (x2,terms,lists,all,t30,([]:List Int),t28,t29,t30,r3,(r3.length:Int),(0:Int),q7,q8,q9,q10,q11,q12,d4,d5,d6,e.1,e.2))else oB (jyw N lists q10) fun r5=>if fits ((if(r5.length:Int)<3 then(r5.length:Int)else 3)*all)then some ((if(r5.length:Int)<3 then(r5.length:Int)else 3)*all)else none) N (x,r2,([]:List (List Int)),(0:Int),r2,(r2.length:Int),(0:Int),q,q2,q3,q4,q5,q6,d,d2,d3))
theorem jDC :mK 200 (bX [.ptr Y0,.agg [pI,pS,.pv (.sl .str),pI,pI,.pv (.sl .q)],.agg [pI,.pv Y20,.pv Y16]] [pI] (c10A (jyB N))):=
 mO (fC (jBE N) (fC (jgO N) (fC (jrB N) (fC (jsD N) (fC (jCX N) ja))))) func200 rfl N (.seq .no (.seq .no (.seq .no (.seq .no (.seq .no (.seq (.seq .no (.block (.loop jCk (.seq .no (.seq .no (.seq (.block (.seq .no (.seq .no (.seq (.seq .no (.block (.loop jDK .no))) .no)))) .no)))))) .no)))))) _
def jtE :Sh:=⟨.dead::pS::dz 3 (.own 600005 .str 9 true::dz 6 (.pv Y6::pI::pI::dz 14 [])),[]⟩
def i_Seg_terms_m (h:(List Z0)×(List Z1)) (j:List UInt8):Option ((List Z2)):=
 (iter (fun i (f,b,c,d,a)=>bif decide (a<d)then oB (idx c a) fun e=>(bif decide (e.1=f)then if room b.length ([e.2.1]:List Z2).length 16 then if fits (a+1)then i (f,(b++([e.2.1]:List Z2)),c,d,(a+1))else none else none else if fits (a+1)then i (f,b,c,d,(a+1))else none)else some b) N (j,([]:List Z2),h.2,(h.2.length:Int),(0:Int)))
theorem jln :mK 201 (bX [.ptr Y3,pS] [.own 1 .str 9 true] (c2A (i_Seg_terms_m N))):=
 mO ja func201 rfl N (.seq .no (.seq .no (.seq (.seq .no (.block (.loop jtE .no))) .no))) _
def jDE :Sh:=⟨pS::pS::dz 3 (.mtk 600005 tI 3 true::dz 18 (pI::pI::dz 62 [])),[]⟩
def jBC :Sh:=⟨pS::pS::dz 3 (.mtk 600005 tI 3 true:: .dead::pI::dz 80 []),[]⟩
def jCv :Sh:=⟨pS::pS::dz 3 (.mtk 600005 tI 3 true:: .dead::pI::pI::pI::dz 78 []),[]⟩
def jAI :Sh:=⟨pS::pS::dz 3 (.mtk 600005 tI 3 true:: .dead::pI:: .dead::pI::pI::dz 77 []),[]⟩
def jAQ :Sh:=⟨pS::pS::dz 3 (.mtk 22 tI 3 true::dz 82 []),[]⟩
def jDZ :Sh:=⟨pS::pS::dz 86 [],[]⟩
def i_NearFar_m (a:List UInt8) (b:List UInt8):Z15:=
 (meet (fun(g:Z2×Z2)=>match g with|(a2,b2)=>meet (fun(g:Z2×Z2×(List Int))=>match g with|(a3,b3,row)=>iter (fun go (a4,b4,row2,t24,t25)=>bif decide (t25<t24)then if 0<=t25/\t25<(row2.length:Int)then oB (row2[t25.toNat]?) fun e=>(if fits (t25+1)then go (a4,b4,(row2.set t25.toNat t25),t24,(t25+1))else none)else none else iter (fun go2 (a5,b5,row3,i)=>bif decide (i<=(a5.length:Int))then if 0<=(0:Int)/\(0:Int)<row3.length then oB (row3[(0:Int).toNat]?) fun e2=>(if 0<=(0:Int)/\(0:Int)<row3.length then oB (row3[(0:Int).toNat]?) fun e3=>(iter (fun go3 (a6,b6,row4,i2,corner,j)=>bif decide (j<=(b6.length:Int))then meet (fun(g:Z20)=>match g with|(a7,b7,row5,i3,j2,cost)=>if 0<=j2/\j2<(row5.length:Int)then oB (row5[j2.toNat]?) fun e4=>(if 0<=j2/\j2<(row5.length:Int)then oB (row5[j2.toNat]?) fun e5=>(if fits (e5+1)then if fits (j2-1)then if 0<=(j2-1)/\(j2-1)<(row5.length:Int)then oB (row5[(j2-1).toNat]?) fun e6=>(if fits (e6+1)then if 0<=j2/\j2<(row5.length:Int)then oB (row5[j2.toNat]?) fun e7=>(if fits (j2+1)then go3 (a7,b7,(row5.set j2.toNat (if(e6+1)<(if(e5+1)<cost then e5+1 else cost)then e6+1 else if(e5+1)<cost then e5+1 else cost)),i3,e4,(j2+1))else none)else none else none)else none else none else none)else none)else none) fun J3=>(if fits (i2-1)then oB (idx a6 (i2-1)) fun c=>(if fits (j-1)then oB (idx b6 (j-1)) fun c2=>(bif !decide ((c.toNat:Int)=(c2.toNat:Int))then if fits (corner+1)then J3 (a6,b6,row4,i2,j,(corner+1))else none else J3 (a6,b6,row4,i2,j,corner))else none)else none)else if fits (i2+1)then go2 (a6,b6,row4,(i2+1))else none) N (a5,b5,(row3.set (0:Int).toNat i),i,e2,(1:Int)))else none)else none else if 0<=(b5.length:Int)/\(b5.length:Int)<(row3.length:Int)then oB (row3[(b5.length:Int).toNat]?) fun e8=>(some e8)else none) N (a4,b4,row2,(1:Int))) N (a3,b3,row,(row.length:Int),(0:Int))) fun J2=>if fits ((b2.length:Int)+1)then if((b2.length:Int)+1)=((b2.length:Int)+1)/\0<=((b2.length:Int)+1)/\((b2.length:Int)+1)*8<=140737488355328/\((b2.length:Int)+1)<=140737488355328 then J2 (a2,b2,(List.replicate ((b2.length:Int)+1).toNat 0))else none else none) fun J=>oB (jO N a) fun r=>bif !r then some (-1)else oB (jO N b) fun r2=>bif !r2 then some (-1)else J (a,b))
theorem jDu :mK 202 (bX [pS,pS] [pI] (c2A (i_NearFar_m N))):=
 mO (fC (jcM N) ja) func202 rfl N (.seq .no (.meet jDZ .no (.meet jAQ .no (.seq (.seq .no (.block (.loop jDE .no))) (.seq (.seq .no (.block (.loop jBC (.seq .no (.seq (.block (.seq .no (.seq .no (.seq .no (.block (.loop jCv (.seq .no (.seq (.block (.seq .no (.meet jAI .no .no))) .no)))))))) .no))))) .no))))) _ (wr:=[22])
def jxG (N:Nat):(D:Nat)->Z2->Z2->Z9
 |0,_,_=>none
 |D+1,p,s=>
 bif decide (p=([]:List UInt8))then
 some (decide (s=([]:List UInt8)))
 else
 oB (idx p 0) fun c=>
 bif decide ((c.toNat:Int)=42)then
 oB (cut p 1 (p.length:Int)) fun y=>
 (oB (jxG N D y s) fun r=>
 bif r then
 some true
 else
 bif !decide (s=([]:List UInt8))then
 oB (cut s 1 (s.length:Int)) fun y2=>
 (oB (jxG N D p y2) fun r2=>
 some r2)
 else
 some false)
 else
 bif decide (s=([]:List UInt8))then
 some false
 else
 oB (idx p 0) fun c2=>
 bif decide ((c2.toNat:Int)=63)then
 oB (cut p 1 (p.length:Int)) fun y3=>
 (oB (cut s 1 (s.length:Int)) fun y4=>
 oB (jxG N D y3 y4) fun r3=>
 some r3)
 else
 oB (idx p 0) fun c3=>
 oB (idx s 0) fun c4=>
 bif decide ((c3.toNat:Int)=(c4.toNat:Int))then
 oB (cut p 1 (p.length:Int)) fun y5=>
 (oB (cut s 1 (s.length:Int)) fun y6=>
 oB (jxG N D y5 y6) fun r4=>
 some r4)
 else
 some false
def jyg (N D:Nat):Model:=⟨⟨[pS,pS],[]⟩,⟨[pB],[]⟩,c2A (jxG N D)⟩
theorem jBG (N D:Nat) (ih:mK 284 (jyg N D)):mK 284 (jyg N (D+1)):=
 mO (fC ih ja) func284 rfl N .no (jyg N (D+1))
theorem jAz (N:Nat):∀D,mK 284 (jyg N D)
 |0=>modelOk_none ⟨_,func284,by decide,by kernel_rfl⟩ _ (fun a=>rfl)
 |D+1=>jBG N D (jAz N D)
def jx0 (a:List UInt8) (b:List UInt8):Z9:=
 (oB (jxV N a) fun d=>bif d then oB (jO N b) fun e=>(bif e then oB (jxG N N a b) fun c=>(some c)else some false)else some false)
theorem jDd :mK 203 (bX [pS,pS] [pB] (c2A (jx0 N))):=
 mO (fC (jz9 N) (fC (jcM N) (fC (jAz N N) ja))) func203 rfl N .no _
def jD5 :Sh:=⟨.dead::pS::dz 8 (.pv Y16::pI::pI::dz 10 []),[]⟩
def jyp (h:Int) (i:Z14) (b:Z8) (l:List UInt8):Z15:=
 (oB (jbx N h i b) fun m=>bif m then iter (fun j (e,d,f,a)=>bif decide (a<f)then oB (idx d a) fun c=>(bif decide (c.1=e)then some c.2 else if fits (a+1)then j (e,d,f,(a+1))else none)else some (-1)) N (l,b,(b.length:Int),(0:Int))else some (-1))
theorem jBQ :mK 205 (bX [.agg [pI,.pv Y20,.pv Y16],pS] [pI] (c4A (jyp N))):=
 mO (fC (jh0 N) ja) func205 rfl N (.seq .no (.seq (.seq .no (.cond (.seq .no (.block (.loop jD5 .no))) .no)) .no)) _
def jDa :Sh:=⟨.ptr Y0::dz 3 (.box 4 0:: .box 5 0:: .dead::pI::dz 43 (.own 600051 .str 9 true::pI::pI::dz 122 [])),[(4,false,[pI,pS,.pv (.sl .str),pI,pI,.pv (.sl .q)]),(5,false,[pI,.pv Y20,.pv Y16])]⟩
def jCO :Sh:=⟨.ptr Y0::dz 3 (.box 4 0:: .box 5 0::dz 83 (.own 600089 .str 9 true::pI::pI::dz 84 [])),[(4,false,[pI,pS,.pv (.sl .str),pI,pI,.pv (.sl .q)]),(5,false,[pI,.pv Y20,.pv Y16])]⟩
def jDp :Sh:=⟨.ptr Y0::dz 3 (.box 4 0:: .box 5 0::dz 7 (pI::dz 140 (.pv (.sl .q)::pI::pI::dz 19 []))),[(4,false,[pI,pS,.pv (.sl .str),pI,pI,.pv (.sl .q)]),(5,false,[pI,.pv Y20,.pv Y16])]⟩
def i_scorer_score_m (N:Nat):(D:Nat)->Z13->Int->Z2->(List Z2)->Int->Int->(List DQ)->Int->Z12->Z7->Z15
 |0,_,_,_,_,_,_,_,_,_,_=>none
 |D+1,x,q,q2,q3,q4,q5,q6,d,d2,d3=>
 bif decide (q=1)then
 some 100
 else
 bif decide (q=2)then
 oB (idx q3 0) fun e=>
 (oB (jyc N x.1.1 x.1.2 e) fun r=>
 oB (i_scorer_points_m N x q2 r d) fun r2=>
 some r2)
 else
 bif decide (q=3)then
 oB (jyB N x q q2 q3 q4 q5 q6 d d2 d3) fun r3=>
 (some r3)
 else
 bif decide (q=4)then
 oB (i_Seg_terms_m N x.2 q2) fun r4=>
 (iter (fun go (g:Z13×Int×(List Z2)×Int×Int×Int×Z2×(List Z2)×Int×Int×(List DQ)×Int×Z12×Z7)=>
 match g with
 |(x2,best,t51,t52,t53,q7,q8,q9,q10,q11,q12,d4,d5,d6)=>
 bif decide (t53<t52)then
 oB (idx t51 t53) fun e2=>
 (oB (idx q9 0) fun e3=>
 oB (i_NearFar_m N e2 e3) fun r5=>
 oB (jm N r5 0 q10) fun r6=>
 bif r6 then
 oB (i_scorer_points_m N x2 q8 e2 d4) fun r7=>
 (if fits (3-r5)then if fits (r7*(3-r5))then if 3≠0 then
 if fits ((r7*(3-r5)).tdiv 3)then if fits (t53+1)then go (x2,(if((r7*(3-r5)).tdiv 3)>best then(r7*(3-r5)).tdiv 3 else best),t51,t52,(t53+1),q7,q8,q9,q10,q11,q12,d4,d5,d6)else none else none
 else none else none else none)
 else
 if fits (t53+1)then go (x2,best,t51,t52,(t53+1),q7,q8,q9,q10,q11,q12,d4,d5,d6)else none)
 else
 some best) N (x,0,r4,(r4.length:Int),0,q,q2,q3,q4,q5,q6,d,d2,d3))
 else
 bif decide (q=5)then
 oB (i_Seg_terms_m N x.2 q2) fun r8=>
 (iter (fun go2 (g:Z13×(List Z2)×Int×Int×Int×Z2×(List Z2)×Int×Int×(List DQ)×Int×Z12×Z7)=>
 match g with
 |(x3,t89,t90,t91,q13,q14,q15,q16,q17,q18,d7,d8,d9)=>
 bif decide (t91<t90)then
 oB (idx t89 t91) fun e4=>
 (oB (idx q15 0) fun e5=>
 oB (jx0 N e5 e4) fun r9=>
 bif r9 then
 oB (i_scorer_places_m N x3 q14 e4 d7) fun r10=>
 (bif decide ((0:Int)<r10.length)then
 some 100
 else
 if fits (t91+1)then go2 (x3,t89,t90,(t91+1),q13,q14,q15,q16,q17,q18,d7,d8,d9)else none)
 else
 if fits (t91+1)then go2 (x3,t89,t90,(t91+1),q13,q14,q15,q16,q17,q18,d7,d8,d9)else none)
 else
 some 0) N (x,r8,(r8.length:Int),0,q,q2,q3,q4,q5,q6,d,d2,d3))
 else
 bif decide (q=6)then
 oB (jyp N d d2 d3 q2) fun r11=>
 (oB (jm N r11 q4 q5) fun r12=>
 bif r12 then
 some 100
 else
 some 0)
 else
 bif decide (q=10)then
 oB (idx q6 0) fun e6=>
 (oB (i_scorer_score_m N D x e6.kind e6.field e6.words e6.lo e6.hi e6.kids d d2 d3) fun r13=>
 if fits (q4*r13)then some (q4*r13)else none)
 else
 bif decide (q=9)then
 oB (idx q6 1) fun e7=>
 (oB (i_scorer_score_m N D x e7.kind e7.field e7.words e7.lo e7.hi e7.kids d d2 d3) fun r14=>
 bif decide ((0:Int)<r14)then
 some 0
 else
 oB (idx q6 0) fun e8=>
 oB (i_scorer_score_m N D x e8.kind e8.field e8.words e8.lo e8.hi e8.kids d d2 d3) fun r15=>
 some r15)
 else
 iter (fun go3 (g:Z13×Int×(List DQ)×Int×Int×Int×Z2×(List Z2)×Int×Int×(List DQ)×Int×Z12×Z7)=>
 match g with
 |(x4,all,t154,t155,t156,q19,q20,q21,q22,q23,q24,d10,d11,d12)=>
 bif decide (t156<t155)then
 oB (idx t154 t156) fun e9=>
 (oB (i_scorer_score_m N D x4 e9.kind e9.field e9.words e9.lo e9.hi e9.kids d10 d11 d12) fun r16=>
 bif decide (r16=0)then
 bif decide (q19=7)then
 some 0
 else
 (if fits (all+r16)then if fits (t156+1)then go3 (x4,(all+r16),t154,t155,(t156+1),q19,q20,q21,q22,q23,q24,d10,d11,d12)else none else none)
 else
 if fits (all+r16)then if fits (t156+1)then go3 (x4,(all+r16),t154,t155,(t156+1),q19,q20,q21,q22,q23,q24,d10,d11,d12)else none else none)
 else
 some all) N (x,0,q6,(q6.length:Int),0,q,q2,q3,q4,q5,q6,d,d2,d3)
def jx6 (N D:Nat):Model:=⟨⟨[.ptr Y0,.agg [pI,pS,.pv (.sl .str),pI,pI,.pv (.sl .q)],.agg [pI,.pv Y20,.pv Y16]],[]⟩,⟨[pI],[]⟩,c10A (i_scorer_score_m N D)⟩
theorem jBq (N D:Nat) (ih:mK 129 (jx6 N D)):mK 129 (jx6 N (D+1)):=
 mO (fC ih (fC (jBn N) (fC (jsD N) (fC (jDC N) (fC (jln N) (fC (jDu N) (fC (jY N) (fC (jDd N) (fC (jrB N) (fC (jBQ N) ja)))))))))) func129 rfl N (.seq .no (.seq (.seq .no (.block (.seq .no (.cond .no (.seq .no (.cond .no (.seq .no (.cond .no (.seq .no (.cond (.seq .no (.seq (.seq .no (.block (.loop jDa .no))) .no)) (.seq .no (.cond (.seq (.seq .no (.block (.loop jCO .no))) .no) .no)))))))))))) (.seq .no (.seq (.seq .no (.block (.loop jDp .no))) .no)))) (jx6 N (D+1))
theorem jzy (N:Nat):∀D,mK 129 (jx6 N D)
 |0=>modelOk_none ⟨_,func129,by decide,by kernel_rfl⟩ _ (fun a=>rfl)
 |D+1=>jBq N D (jzy N D)
def jBM :Sh:=⟨dz 5 (.box 5 0:: .dead:: .own 600007 Y15 93 true:: .box 26 0::dz 19 (.pv Y4::pI::pI::dz 18 [])),[(5,false,[pI,pS,.pv (.sl .str),pI,pI,.pv (.sl .q)]),(26,true,[.pv (.sl .str),.pv Y17,.pv Y4,.pv Y6])]⟩
def i_scores_m (u:List Z2) (C:List Z4) (d:List Z0) (v:List Z1) (B:Int) (A:List UInt8) (y:List Z2) (z:Int) (x:Int) (t:List DQ):Option (Z11):=
 (oB (i_SegOk_m N u C d v) fun D=>bif !D then some ([]:Z6)else oB (i_QueryOk_m N B A y z x t) fun E=>bif !E then some ([]:Z6)else iter (fun w (c,j,o,a,f,n,h,i,r,m,k,p,l,e)=>bif decide (a<o)then oB (idx j a) fun b=>(oB (i_scorer_score_m N N ((k,p),l,e) f n h i r m b.1 b.2.1 b.2.2) fun q=>bif decide ((0:Int)<q)then if room c.length ([(b.1,q)]:Z6).length 16 then if fits (a+1)then w ((c++([(b.1,q)]:Z6)),j,o,(a+1),f,n,h,i,r,m,k,p,l,e)else none else none else if fits (a+1)then w (c,j,o,(a+1),f,n,h,i,r,m,k,p,l,e)else none)else some c) N (([]:Z6),d,(d.length:Int),(0:Int),B,A,y,z,x,t,u,C,d,v))
theorem jBc :mK 54 (bX [.agg [.pv (.sl .str),.pv Y17],.agg [.pv Y4,.pv Y6],.agg [pI,pS,.pv (.sl .str),pI,pI,.pv (.sl .q)]] [.own 1 Y15 93 true] (c10A (i_scores_m N))):=
 mO (fC (joa N) (fC (jCN N) (fC (jzy N N) ja))) func54 rfl N (.seq .no (.seq .no (.seq .no (.seq .no (.seq (.seq .no (.block (.loop jBM .no))) .no))))) _
def jx4 (a:Int) (b:Int) (e:Int) (c:Int):Z15:=
 (oB (jxY N c b) fun f=>oB (jxY N a e) fun h=>oB (jbe N ([f,h]:List Int)) fun d=>some d)
theorem jvi :mK 128 (bX [.agg [pI,pI],.agg [pI,pI]] [pI] (c4A (jx4 N))):=
 mO (fC (jpP N) (fC (jhC N) ja)) func128 rfl N .no _
def cmp454 (N:Nat):(Unit)->(Int×Int)->(Int×Int)->Option Int:=(fun(cmp:Unit) (e e2:Int×Int)=>jx4 N e.1 e.2 e2.1 e2.2)
def jwq :Sh:=⟨.mtk 800000 Y15 93 true::pI::pI:: .clo 128 []::dz 4 (pI::dz 44 []),[]⟩
def jwI :Sh:=⟨.mtk 800000 Y15 93 true::pI::pI:: .clo 128 []::dz 4 (pI::pI::dz 43 []),[]⟩
def jvU (d:Z6) (b:Int) (c:Int) (a:Unit):Option (Z11):=insG (cmp454 N) N d b c a
 
theorem jwF :mK 271 (bX [.mtk 800000 Y15 93 true,pI,pI,.clo 128 []] [.tup [],.mtk 800000 Y15 93 true] (c4A (jvU N))):=
 mO (fC (jvi N) ja) func271 rfl N (.seq .no (.block (.loop jwq (.seq .no (.seq (.block (.seq .no (.block (.loop jwI .no)))) .no))))) _ (rs:=[800000])
def jv5 :Sh:=⟨.mtk 800000 Y15 93 true:: .dead::pI::pI:: .clo 128 []::dz 5 (pI::dz 71 []),[]⟩
def jwh :Sh:=⟨.mtk 800000 Y15 93 true:: .dead::pI::pI:: .clo 128 []::dz 5 (pI::pI::dz 70 []),[]⟩
def jvp (d:Z6) (e:Int) (a:Int) (c:Int) (b:Unit):Option (Z11):=siftG (cmp454 N) N d e a c b
 
theorem jwd :mK 314 (bX [.mtk 800000 Y15 93 true,pI,pI,pI,.clo 128 []] [.tup [],.mtk 800000 Y15 93 true] (c5A (jvp N))):=
 mO (fC (jvi N) ja) func314 rfl N (.seq .no (.block (.loop jv5 (.block (.seq .no (.seq .no (.meet jwh .no .no))))))) _ (rs:=[800000])
def jwy :Sh:=⟨.mtk 800000 Y15 93 true:: .dead:: .dead:: .clo 128 []::dz 4 (pI::pI::pI::pI::dz 48 []),[]⟩
def jwM :Sh:=⟨.mtk 800000 Y15 93 true:: .dead:: .dead:: .clo 128 []::dz 4 (pI::pI:: .dead:: .dead::pI::dz 47 []),[]⟩
def jvj (d:Z6) (b:Int) (c:Int) (a:Unit):Option (Z11):=heapG (cmp454 N) N d b c a
 
theorem jwr :mK 272 (bX [.mtk 800000 Y15 93 true,pI,pI,.clo 128 []] [.tup [],.mtk 800000 Y15 93 true] (c4A (jvj N))):=
 mO (fC (jwd N) ja) func272 rfl N (.seq .no (.seq .no (.seq .no (.seq (.seq .no (.block (.loop jwy .no))) (.seq .no (.block (.loop jwM .no))))))) _ (rs:=[800000])
def jw2 :Sh:=⟨.mtk 800000 Y15 93 true::pI::dz 6 (pI:: .box 9 0:: .pv (.int .u64)::pI::dz 55 []),[(9,false,[.pv (.int .u64)])]⟩
def jw5 :Sh:=⟨.mtk 800000 Y15 93 true::pI::dz 6 (pI:: .box 9 0:: .pv (.int .u64)::pI::pI::dz 54 []),[(9,false,[.pv (.int .u64)])]⟩
def jvw (d:Z6) (b:Int) (c:Int) (a:Unit):Option (Z11):=breakG N d b c a
 
theorem jwR :mK 273 (bX [.mtk 800000 Y15 93 true,pI,pI,.clo 128 []] [.tup [],.mtk 800000 Y15 93 true] (c4A (jvw N))):=
 mO (fC (jhv N) (fC (jet N) ja)) func273 rfl N (.seq .no (.seq .no (.cond (.seq .no (.seq .no (.seq .no (.block (.loop jw2 (.seq .no (.seq (.block (.seq .no (.meet jw5 .no .no))) .no))))))) .no))) _ (rs:=[800000])
def jvl (d:Z6) (b:Int) (c:Int) (a:Unit) (e:Int):Option (Int×Int×Z11×Int):=order2G (cmp454 N) N d b c a e
 
theorem jwG :mK 338 ⟨⟨[.mtk 800000 Y15 93 true,pI,pI,.box 900003 0,.clo 128 []],[(900003,false,[pI])]⟩,⟨[.tup [pI,pI],.mtk 800000 Y15 93 true],[(900003,false,[pI])]⟩,c5A (jvl N)⟩:=
 mO (fC (jvi N) ja) func338 rfl N .no _ (rs:=[900003,800000])
def jvr (e:Z6) (b:Int) (c:Int) (d:Int) (a:Unit) (f:Int):Option (Int×Z11×Int):=medianG (cmp454 N) N e b c d a f
 
theorem jvO :mK 316 ⟨⟨[.mtk 800000 Y15 93 true,pI,pI,pI,.box 900004 0,.clo 128 []],[(900004,false,[pI])]⟩,⟨[pI,.mtk 800000 Y15 93 true],[(900004,false,[pI])]⟩,c6A (jvr N)⟩:=
 mO (fC (jwG N) ja) func316 rfl N .no _ (rs:=[900004,800000])
def jvm (d:Z6) (b:Int) (a:Unit) (c:Int):Option (Int×Z11×Int):=medianAdjacentG (cmp454 N) N d b a c
 
theorem jwj :mK 315 ⟨⟨[.mtk 800000 Y15 93 true,pI,.box 900002 0,.clo 128 []],[(900002,false,[pI])]⟩,⟨[pI,.mtk 800000 Y15 93 true],[(900002,false,[pI])]⟩,c4A (jvm N)⟩:=
 mO (fC (jvO N) ja) func315 rfl N .no _ (rs:=[900002,800000])
def jwt :Sh:=⟨.mtk 800000 Y15 93 true:: .dead:: .dead:: .clo 128 []::dz 7 (.box 11 0::pI::pI::pI::dz 48 []),[(11,false,[pI])]⟩
def jwK :Sh:=⟨.mtk 800000 Y15 93 true::dz 10 (.box 11 0:: .dead::pI::dz 49 []),[(11,false,[pI])]⟩
def jvA (d:Z6) (b:Int) (c:Int) (a:Unit):Option (Int×Int×Z11):=choosePivotG (cmp454 N) N d b c a
 
theorem jwf :mK 274 (bX [.mtk 800000 Y15 93 true,pI,pI,.clo 128 []] [.tup [pI,pI],.mtk 800000 Y15 93 true] (c4A (jvA N))):=
 mO (fC (jwj N) (fC (jvO N) ja)) func274 rfl N (.seq .no (.seq .no (.seq .no (.seq .no (.seq .no (.seq .no (.meet jwK (.seq .no (.cond (.meet jwt .no .no) .no)) .no))))))) _ (rs:=[800000])
def jv2 :Sh:=⟨.mtk 800000 Y15 93 true::dz 7 (pI::pI::dz 24 []),[]⟩
def jvJ (d:Z6) (b:Int) (c:Int) (a:Unit):Option (Z11):=reverseRangeG N d b c a
 
theorem jwz :mK 275 (bX [.mtk 800000 Y15 93 true,pI,pI,.clo 128 []] [.tup [],.mtk 800000 Y15 93 true] (c4A (jvJ N))):=
 mO ja func275 rfl N (.seq .no (.seq .no (.block (.loop jv2 .no)))) _ (rs:=[800000])
def jw7 :Sh:=⟨.mtk 800000 Y15 93 true::pI::pI:: .clo 128 []::dz 5 (pI::pI::dz 130 []),[]⟩
def jwp :Sh:=⟨.mtk 800000 Y15 93 true::pI::pI:: .clo 128 []::dz 5 (pI::pI::pI::dz 129 []),[]⟩
def jwY :Sh:=⟨.mtk 800000 Y15 93 true::pI::pI:: .clo 128 []::dz 5 (pI::pI:: .dead::pI::dz 128 []),[]⟩
def jvz (d:Z6) (b:Int) (c:Int) (a:Unit):Option (Bool×Z11):=pisG (cmp454 N) N d b c a
 
theorem jw4 :mK 276 (bX [.mtk 800000 Y15 93 true,pI,pI,.clo 128 []] [pB,.mtk 800000 Y15 93 true] (c4A (jvz N))):=
 mO (fC (jvi N) ja) func276 rfl N (.seq .no (.seq .no (.seq (.seq .no (.block (.loop jw7 (.seq .no (.seq (.block (.seq (.block (.loop jw7 .no)) (.seq .no (.seq .no (.seq .no (.meet jw7 (.seq .no (.cond (.seq .no (.block (.loop jwp .no))) .no)) (.seq .no (.cond (.seq .no (.block (.loop jwY .no))) .no)))))))) .no))))) .no))) _ (rs:=[800000])
def jws :Sh:=⟨.mtk 800000 Y15 93 true::pI:: .dead:: .dead:: .clo 128 []::dz 6 (pI::pI::dz 77 []),[]⟩
def jvo (e:Z6) (c:Int) (d:Int) (a:Int) (b:Unit):Option (Int×Z11):=peqG (cmp454 N) N e c d a b
 
theorem jwA :mK 277 (bX [.mtk 800000 Y15 93 true,pI,pI,pI,.clo 128 []] [pI,.mtk 800000 Y15 93 true] (c5A (jvo N))):=
 mO (fC (jvi N) ja) func277 rfl N (.seq .no (.seq .no (.seq .no (.seq (.block (.loop jws (.block (.seq (.block (.loop jws .no)) (.seq (.block (.loop jws .no)) .no))))) .no)))) _ (rs:=[800000])
def jwU :Sh:=⟨.mtk 800000 Y15 93 true::pI:: .dead:: .dead:: .clo 128 []::dz 7 (pI::pI::dz 164 []),[]⟩
def jvs (e:Z6) (c:Int) (d:Int) (a:Int) (b:Unit):Option (Int×Bool×Z11):=partG (cmp454 N) N e c d a b
 
theorem jv9 :mK 278 (bX [.mtk 800000 Y15 93 true,pI,pI,pI,.clo 128 []] [.tup [pI,pB],.mtk 800000 Y15 93 true] (c5A (jvs N))):=
 mO (fC (jvi N) ja) func278 rfl N (.seq .no (.seq .no (.seq .no (.seq (.block (.loop jwU .no)) (.seq (.block (.loop jwU .no)) (.seq .no (.seq .no (.seq .no (.seq .no (.seq (.block (.loop jwU (.block (.seq (.block (.loop jwU .no)) (.seq (.block (.loop jwU .no)) .no))))) .no)))))))))) _ (rs:=[800000])
def jwT :Sh:=⟨.mtk 800000 Y15 93 true::pI::pI::pI:: .clo 128 []::dz 5 (pB::pB::dz 136 []),[]⟩
def jwO :Sh:=⟨.mtk 800000 Y15 93 true::pI::pI::pI:: .clo 128 []::dz 5 (pB::pB::pI::pI::dz 134 []),[]⟩
def jwP :Sh:=⟨.mtk 800000 Y15 93 true::pI::pI::pI:: .clo 128 []::dz 5 (pB::pB::pI::pI::pI::dz 133 []),[]⟩
def jwn :Sh:=⟨.mtk 800000 Y15 93 true::pI::pI::pI:: .clo 128 []::dz 5 (pB::pB::pI::dz 135 []),[]⟩
def jvh (N D:Nat) (h:Z6) (a b limit:Int) (f:Unit):Option (Z11):=pdqG (cmp454 N) (fun c a b d=>heapG (cmp454 N) N c a b d) (fun c a b e d=>peqG (cmp454 N) N c a b e d) N D h a b limit f
 
def jvn (N D:Nat):Model:=⟨⟨[.mtk 800000 Y15 93 true,pI,pI,pI,.clo 128 []],[]⟩,⟨[.tup [],.mtk 800000 Y15 93 true],[]⟩,c5A (jvh N D)⟩
theorem jwv (N D:Nat) (ih:mK 197 (jvn N D)):mK 197 (jvn N (D+1)):=
 mO (fC ih (fC (jwF N) (fC (jwr N) (fC (jwR N) (fC (jwf N) (fC (jwz N) (fC (jw4 N) (fC (jvi N) (fC (jwA N) (fC (jv9 N) ja)))))))))) func197 rfl N (.seq .no (.seq .no (.block (.loop jwT (.block (.seq .no (.seq .no (.seq .no (.meet jwn .no (.seq .no (.meet jwP .no (.meet jwO .no .no)))))))))))) (jvn N (D+1)) (rs:=[800000])
theorem jvI (N:Nat):∀D,mK 197 (jvn N D)
 |0=>modelOk_none ⟨_,func197,by decide,by kernel_rfl⟩ _ (fun a=>rfl)
 |D+1=>jwv N D (jvI N D)
def k_slices_SortFunc_454_m (a:Z6) (d:Unit):Option (Z11):=
 (oB (k_math_bits_Len_m N (IntKind.u64.wrap (a.length:Int))) fun b=>oB (jvh N N a 0 (a.length:Int) b ()) fun c=>some c)
theorem jwX :mK 127 (bX [.mtk 800000 Y15 93 true,.clo 128 []] [.tup [],.mtk 800000 Y15 93 true] (c2A (k_slices_SortFunc_454_m N))):=
 mO (fC (jda N) (fC (jvI N N) ja)) func127 rfl N .no _ (rs:=[800000])
def i_firstHits_m (b:Z6) (d:Int):Option (Z11):=
 (if room ([]:Z6).length b.length 16 then oB (k_slices_SortFunc_454_m N (([]:Z6)++b) ()) fun a=>(oB (cut a 0 (if d<(a.length:Int)then d else(a.length:Int))) fun c=>if room ([]:Z6).length c.length 16 then some (([]:Z6)++c)else none)else none)
theorem jv7 :mK 53 (bX [.pv (.sl Y15),pI] [.own 1 Y15 93 true] (c2A (i_firstHits_m N))):=
 mO (fC (jwX N) ja) func53 rfl N .no _ (wr:=[6,8,11,17,18])
def i_TopOf_m (d:List Z2) (i:List Z4) (f:List Z0) (e:List Z1) (n:Int) (c:List UInt8) (l:List Z2) (m:Int) (h:Int) (b:List DQ) (a:Int):Option (Z11):=
 (oB (jm N a 1 16) fun k=>bif !k then some ([]:Z6)else oB (i_scores_m N d i f e n c l m h b) fun o=>oB (i_firstHits_m N o a) fun j=>some j)
theorem jCZ :mK 11 (bX [.agg [.pv (.sl .str),.pv Y17],.agg [.pv Y4,.pv Y6],.agg [pI,pS,.pv (.sl .str),pI,pI,.pv (.sl .q)],pI] [.own 1 Y15 93 true] (c11A (i_TopOf_m N))):=
 mO (fC (jY N) (fC (jBc N) (fC (jv7 N) ja))) func11 rfl N .no _
def i_IndexTop_m (b:List Z2) (a:List Z4) (l:List Z3) (k:Int) (j:List UInt8) (h:List Z2) (i:Int) (d:Int) (c:List DQ) (e:Int):Option (Z11):=
 (oB (i_IndexOk_m N b a l) fun o=>bif !o then some ([]:Z6)else oB (i_QueryOk_m N k j h i d c) fun p=>bif !p then some ([]:Z6)else oB (jm N e 1 16) fun q=>bif !q then some ([]:Z6)else oB (i_allAlive_m N l) fun m=>oB (i_SegOf_m N b a m) fun f=>oB (i_TopOf_m N b a f.1 f.2 k j h i d c e) fun n=>some n)
theorem jIR :mK 7 (bX [.agg [.pv (.sl .str),.pv Y17,.pv Y1],.agg [pI,pS,.pv (.sl .str),pI,pI,.pv (.sl .q)],pI] [.own 1 Y15 93 true] (c10A (i_IndexTop_m N))):=
 mO (fC (jIr N) (fC (jCN N) (fC (jY N) (fC (jHR N) (fC (jqC N) (fC (jCZ N) ja)))))) func7 rfl N .no _
def jxz (N:Nat) (k:Int) (i:List UInt8) (h:List Z2) (e:Int) (c:Int) (a:List DQ) (j:Bool) (f:Bool) (d:Bool) (b:Bool):Z9:=
 (bif j then bif f then bif d then bif b then some true else(some (decide ((a.length:Int)=0)))else(bif decide (e=0)then bif decide (c=0)then bif b then some true else(some (decide ((a.length:Int)=0)))else(some false)else some false)else(bif decide ((h.length:Int)=0)then bif d then bif b then some true else(some (decide ((a.length:Int)=0)))else(bif decide (e=0)then bif decide (c=0)then bif b then some true else(some (decide ((a.length:Int)=0)))else(some false)else some false)else some false)else bif decide (i=([]:List UInt8))then bif f then bif d then bif b then some true else(some (decide ((a.length:Int)=0)))else(bif decide (e=0)then bif decide (c=0)then bif b then some true else(some (decide ((a.length:Int)=0)))else(some false)else some false)else(bif decide ((h.length:Int)=0)then bif d then bif b then some true else(some (decide ((a.length:Int)=0)))else(bif decide (e=0)then bif decide (c=0)then bif b then some true else(some (decide ((a.length:Int)=0)))else(some false)else some false)else some false)else some false)
theorem jDV :mK 254 (bX [.agg [pI,pS,.pv (.sl .str),pI,pI,.pv (.sl .q)],pB,pB,pB,pB] [pB] (c10A (jxz N))):=
 mO ja func254 rfl N .no _
def jDt :Sh:=⟨.pv (.sl .str)::pI::dz 3 (pI::dz 16 []),[]⟩
def jxL (j:List Z2) (e:Int):Z9:=
 (iter (fun f (a,c,b)=>bif decide (b<(a.length:Int))then oB (idx a b) fun d=>(oB (jT N d) fun i=>bif !i then some false else if fits (b+1)then f (a,c,(b+1))else none)else oB (jJ N (a.length:Int) 1 c) fun k=>some k) N (j,e,(0:Int)))
theorem jDs :mK 255 (bX [.pv (.sl .str),pI] [pB] (c2A (jxL N))):=
 mO (fC (jgp N) (fC (jcL N) ja)) func255 rfl N (.seq .no (.seq (.seq .no (.block (.loop jDt .no))) .no)) _
def jBL :Sh:=⟨pS:: .dead:: .dead::pI::dz 28 [],[]⟩
def jyk (f:List UInt8):Z9:=
 (iter (fun c (b,a)=>bif decide (a<(b.length:Int))then oB (idx b a) fun d=>(bif !decide ((d.toNat:Int)=42)then oB (idx b a) fun h=>(bif !decide ((h.toNat:Int)=63)then if fits (a+1)then oB (cut b a (a+1)) fun e=>(oB (jT N e) fun j=>bif !j then some false else if fits (a+1)then c (b,(a+1))else none)else none else if fits (a+1)then c (b,(a+1))else none)else if fits (a+1)then c (b,(a+1))else none)else oB (jJ N (b.length:Int) 1 12) fun k=>some k) N (f,(0:Int)))
theorem jC1 :mK 256 (bX [pS] [pB] (c1A (jyk N))):=
 mO (fC (jgp N) (fC (jcL N) ja)) func256 rfl N (.seq .no (.seq (.seq .no (.block (.loop jBL .no))) .no)) _
def jDP :Sh:=⟨.dead:: .box 1 0:: .dead::pI::dz 4 (pI::dz 123 (pB::dz 34 [])),[(1,false,[pI,pS,.pv (.sl .str),pI,pI,.pv (.sl .q)])]⟩
def jyq (a:Int) (c:List UInt8) (b:List Z2) (d:Int) (e:Int) (f:List DQ):Z9:=
 (bif decide (a=1)then oB (jxz N a c b d e f false false false false) fun y=>(some y)else bif decide (a=2)then oB (jxz N a c b d e f true true false false) fun z=>(bif z then oB (jT N c) fun D=>(bif D then oB (jxL N b 1) fun L=>(some L)else some false)else some false)else bif decide (a=3)then oB (jxz N a c b d e f true true true false) fun S=>(bif S then oB (jT N c) fun w=>(bif w then oB (jxL N b 4) fun t=>(bif t then bif decide ((1:Int)<b.length)then bif decide (e=0)then oB (jJ N d 0 5) fun I=>(some I)else(some false)else(some false)else some false)else some false)else some false)else bif decide (a=4)then oB (jxz N a c b d e f true true true false) fun r=>(bif r then oB (jT N c) fun X=>(bif X then oB (jxL N b 1) fun R=>(bif R then bif decide (e=0)then oB (jJ N d 1 2) fun W=>(some W)else(some false)else some false)else some false)else some false)else bif decide (a=5)then oB (jxz N a c b d e f true true false false) fun U=>(bif U then oB (jT N c) fun P=>(bif P then bif decide ((b.length:Int)=1)then oB (idx b 0) fun O=>(oB (jyk N O) fun q=>bif q then oB (idx b 0) fun E=>(oB (jT N E) fun K=>some (!K))else some false)else(some false)else some false)else some false)else bif decide (a=6)then oB (jxz N a c b d e f true false true false) fun H=>(bif H then oB (jT N c) fun T=>(bif T then oB (jJ N d 0 999999999) fun A=>(bif A then oB (jJ N e d 999999999) fun v=>(some v)else some false)else some false)else some false)else meet (fun(B:Int×Int×Bool×Int×Z2×(List Z2)×Int×Int×(List DQ))=>match B with|(n,p,x,j,m,k,h,i,l)=>bif x then oB (jxz N j m k h i l false false false true) fun C=>(bif C then oB (jJ N n 2 4) fun G=>(some G)else some false)else bif decide (p=9)then oB (jxz N j m k h i l false false false true) fun V=>(bif V then some (decide (n=2))else some false)else bif decide (p=10)then oB (jxz N j m k h i l false false true true) fun u=>(bif u then bif decide (n=1)then bif decide (i=0)then oB (jJ N h 2 9) fun Q=>(some Q)else(some false)else(some false)else some false)else some false) fun o=>bif decide (a=7)then o ((f.length:Int),a,true,a,c,b,d,e,f)else o ((f.length:Int),a,(decide (a=8)),a,c,b,d,e,f))
theorem jBO :mK 178 (bX [.agg [pI,pS,.pv (.sl .str),pI,pI,.pv (.sl .q)]] [pB] (c6A (jyq N))):=
 mO (fC (jDV N) (fC (jgp N) (fC (jDs N) (fC (jcL N) (fC (jC1 N) ja))))) func178 rfl N (.seq .no (.seq .no (.seq (.seq .no (.block (.seq .no (.cond .no (.seq .no (.cond .no (.seq .no (.cond .no (.seq .no (.cond .no (.seq .no (.cond .no (.seq .no (.cond .no (.meet jDP .no .no))))))))))))))) .no))) _
def jD7 :Sh:=⟨.dead::pI:: .box 2 0:: .dead:: .dead::pI::dz 23 [],[(2,false,[pI,pS,.pv (.sl .str),pI,pI,.pv (.sl .q)])]⟩
def jxO (N:Nat):(D:Nat)->Int->Z2->(List Z2)->Int->Int->(List DQ)->Int->Z9
 |0,_,_,_,_,_,_,_=>none
 |D+1,q,q2,q3,q4,q5,q6,deep=>
 bif decide (deep=0)then
 some false
 else
 oB (jyq N q q2 q3 q4 q5 q6) fun r=>
 bif !r then
 some false
 else
 iter (fun go (g:Int×Int×Int×Z2×(List Z2)×Int×Int×(List DQ))=>
 match g with
 |(deep2,i,q7,q8,q9,q10,q11,q12)=>
 bif decide (i<(q12.length:Int))then
 oB (idx q12 i) fun e=>
 (if fits (deep2-1)then oB (jxO N D e.kind e.field e.words e.lo e.hi e.kids (deep2-1)) fun r2=>
 (bif !r2 then
 some false
 else
 if fits (i+1)then go (deep2,(i+1),q7,q8,q9,q10,q11,q12)else none)else none)
 else
 some true) N (deep,0,q,q2,q3,q4,q5,q6)
def jx9 (N D:Nat):Model:=⟨⟨[.agg [pI,pS,.pv (.sl .str),pI,pI,.pv (.sl .q)],pI],[]⟩,⟨[pB],[]⟩,c7A (jxO N D)⟩
theorem jBT (N D:Nat) (ih:mK 110 (jx9 N D)):mK 110 (jx9 N (D+1)):=
 mO (fC ih (fC (jBO N) ja)) func110 rfl N (.seq .no (.seq .no (.seq (.seq .no (.block (.loop jD7 .no))) .no))) (jx9 N (D+1))
theorem jzV (N:Nat):∀D,mK 110 (jx9 N D)
 |0=>modelOk_none ⟨_,func110,by decide,by kernel_rfl⟩ _ (fun a=>rfl)
 |D+1=>jBT N D (jzV N D)
def jE5 (h:Int) (f:List UInt8) (e:List Z2) (d:Int) (b:Int) (a:List DQ):Z9:=
 (oB (jxO N N h f e d b a 4) fun c=>some c)
theorem jBX :mK 45 (bX [.agg [pI,pS,.pv (.sl .str),pI,pI,.pv (.sl .q)]] [pB] (c6A (jE5 N))):=
 mO (fC (jzV N N) ja) func45 rfl N .no _
def jyC (a:List Z2) (c:List Z4) (b:List UInt8):Option (Z2):=
 (oB (jcw N a c) fun f=>bif !f then some ([]:List UInt8)else oB (jT N b) fun h=>bif !h then some ([]:List UInt8)else oB (ja5 N a c b) fun d=>bif decide ((d.length:Int)=0)then some ([]:List UInt8)else oB (idx d 0) fun e=>some e.1)
theorem jCy :mK 180 (bX [.agg [.pv (.sl .str),.pv Y17],pS] [pS] (c3A (jyC N))):=
 mO (fC (jtf N) (fC (jgp N) (fC (jiO N) ja))) func180 rfl N .no _
def jtm :Sh:=⟨.dead::pS::pS:: .box 3 0::dz 3 (pI::dz 31 []),[(3,false,[.pv Y4,.pv Y6])]⟩
def s_l7Posts_m (l:List Z0) (k:List Z1) (i:List UInt8) (j:List UInt8):Option (Z16):=
 (iter (fun e (c,d,a,f,b)=>bif decide (a<(b.length:Int))then oB (idx b a) fun h=>(bif decide (h.1=c)then oB (idx b a) fun n=>(bif decide (n.2.1=d)then oB (idx b a) fun o=>(some o.2.2)else if fits (a+1)then e (c,d,(a+1),f,b)else none)else if fits (a+1)then e (c,d,(a+1),f,b)else none)else some ([]:Z5)) N (i,j,(0:Int),l,k))
theorem jh6 :mK 261 (bX [.agg [.pv Y4,.pv Y6],pS,pS] [.pv Y13] (c4A (s_l7Posts_m N))):=
 mO ja func261 rfl N (.seq .no (.seq (.seq .no (.block (.loop jtm .no))) .no)) _
def jst :Sh:=⟨dz 3 (pI::dz 5 (.pv Y13::pI::dz 22 [])),[]⟩
def s_l12At_m (j:List Z0) (h:List Z1) (e:List UInt8) (f:List UInt8) (m:Int):Option ((List Int)):=
 (oB (s_l7Posts_m N j h e f) fun n=>iter (fun i (c,b,a)=>bif decide (a<(b.length:Int))then oB (idx b a) fun d=>(bif decide (d.1=c)then oB (idx b a) fun l=>(some l.2)else if fits (a+1)then i (c,b,(a+1))else none)else some ([]:List Int)) N (m,n,(0:Int)))
theorem jn1 :mK 257 (bX [.agg [.pv Y4,.pv Y6],pS,pS,pI] [.pv Y22] (c5A (s_l12At_m N))):=
 mO (fC (jh6 N) ja) func257 rfl N (.seq .no (.seq .no (.seq (.seq .no (.block (.loop jst .no))) .no))) _
def jqS :Sh:=⟨.dead::pS::pI:: .box 3 0::dz 3 (pI::pI::dz 55 []),[(3,false,[.pv Y4,.pv Y6])]⟩
def jm7 :Sh:=⟨.dead::pS::pI:: .box 3 0::dz 3 (pI::pI::pI::dz 54 []),[(3,false,[.pv Y4,.pv Y6])]⟩
def s_l7Long_m (x:List Z0) (r:List Z1) (q:List UInt8) (z:Int):Z15:=
 (iter (fun k (u,v,j,l,w,n)=>bif decide (l<(n.length:Int))then iter (fun m (f,d,e,a,c,h,b)=>oB (idx b a) fun p=>bif decide (c<(p.2.2.length:Int))then oB (idx b a) fun y=>(bif decide (y.1=f)then oB (idx b a) fun B=>(oB (idx B.2.2 c) fun A=>bif decide (A.1=d)then oB (idx b a) fun t=>(oB (idx t.2.2 c) fun o=>if fits (e+(o.2.length:Int))then if fits (c+1)then m (f,d,(e+(o.2.length:Int)),a,(c+1),h,b)else none else none)else if fits (c+1)then m (f,d,e,a,(c+1),h,b)else none)else if fits (a+1)then k (f,d,e,(a+1),h,b)else none)else if fits (a+1)then k (f,d,e,(a+1),h,b)else none) N (u,v,j,l,(0:Int),w,n)else some j) N (q,z,(0:Int),(0:Int),x,r))
theorem jrY :mK 259 (bX [.agg [.pv Y4,.pv Y6],pS,pI] [pI] (c4A (s_l7Long_m N))):=
 mO ja func259 rfl N (.seq .no (.seq .no (.seq (.seq .no (.block (.loop jqS (.seq .no (.seq (.block (.seq .no (.block (.loop jm7 .no)))) .no))))) .no))) _
def jsB :Sh:=⟨.dead::pS:: .box 2 0:: .dead:: .dead::pI::pI::dz 43 [],[(2,false,[.pv Y4,.pv Y6])]⟩
def jnl :Sh:=⟨.dead::pS:: .box 2 0:: .dead:: .dead::pI::pI::pI::dz 42 [],[(2,false,[.pv Y4,.pv Y6])]⟩
def s_l12Total_m (u:List Z0) (p:List Z1) (o:List UInt8):Z15:=
 (iter (fun j (q,i,k,r,l)=>bif decide (k<(l.length:Int))then iter (fun t (e,d,a,c,f,b)=>oB (idx b a) fun n=>bif decide (c<(n.2.2.length:Int))then oB (idx b a) fun v=>(bif decide (v.1=e)then oB (idx b a) fun w=>(oB (idx w.2.2 c) fun m=>if fits (d+(m.2.length:Int))then if fits (c+1)then t (e,(d+(m.2.length:Int)),a,(c+1),f,b)else none else none)else if fits (a+1)then j (e,d,(a+1),f,b)else none)else if fits (a+1)then j (e,d,(a+1),f,b)else none) N (q,i,k,(0:Int),r,l)else some i) N (o,(0:Int),(0:Int),u,p))
theorem jn2 :mK 260 (bX [.agg [.pv Y4,.pv Y6],pS] [pI] (c3A (s_l12Total_m N))):=
 mO ja func260 rfl N (.seq .no (.seq .no (.seq (.seq .no (.block (.loop jsB (.seq .no (.seq (.block (.seq .no (.block (.loop jnl .no)))) .no))))) .no))) _
def jsx :Sh:=⟨pI::pI::dz 3 (pI::dz 13 []),[]⟩
def jbz (h:Int) (d:Int):Z15:=
 (iter (fun e (a,c,b)=>bif decide ((0:Int)<a)then if fits (a*2)then bif decide ((a*2)<=c)then if fits (a*2)then if fits (b+1)then e ((a*2),c,(b+1))else none else none else(some b)else none else some b) N (h,d,(0:Int)))
theorem jkd :mK 308 (bX [pI,pI] [pI] (c2A (jbz N))):=
 mO ja func308 rfl N (.seq .no (.seq .no (.seq (.block (.loop jsx .no)) .no))) _
def jkC :Sh:=⟨pI::pI::dz 15 [],[]⟩
def jaY (N:Nat):(D:Nat)->Int->Int->Z15
 |0,_,_=>none
 |D+1,a,b=>
 meet (fun(g:Int×Int)=>
 match g with
 |(a2,b2)=>
 bif decide (b2=0)then
 some a2
 else
 if b2≠0 then
 oB (jaY N D b2 (a2.tmod b2)) fun r=>
 (some r)
 else none) fun J=>
 bif decide (a<0)then
 if fits (0-a)then J ((0-a),b)else none
 else
 J (a,b)
def jcQ (N D:Nat):Model:=⟨⟨[pI,pI],[]⟩,⟨[pI],[]⟩,c2A (jaY N D)⟩
theorem jlI (N D:Nat) (ih:mK 337 (jcQ N D)):mK 337 (jcQ N (D+1)):=
 mO (fC ih ja) func337 rfl N (.seq .no (.meet jkC .no .no)) (jcQ N (D+1))
theorem jeF (N:Nat):∀D,mK 337 (jcQ N D)
 |0=>modelOk_none ⟨_,func337,by decide,by kernel_rfl⟩ _ (fun a=>rfl)
 |D+1=>jlI N D (jeF N D)
def jlg :Sh:=⟨pI::pI:: .dead:: .dead:: .box 4 0::dz 17 [],[(4,false,[pI,pI])]⟩
def jcf (c:Int) (b:Int):Option (Int×Int):=
 (meet (fun(h:Int×Int×Int×Int)=>match h with|(d,e,j,i)=>oB (jaY N N d e) fun a=>if a≠0 then if fits (d.tdiv a)then if a≠0 then if fits (e.tdiv a)then some ((d.tdiv a),(e.tdiv a))else none else none else none else none) fun f=>bif decide (b<0)then if fits (0-c)then if fits (0-b)then f ((0-c),(0-b),0,0)else none else none else f (c,b,0,0))
theorem jn4 :mK 307 (bX [pI,pI] [.agg [pI,pI]] (c2A (jcf N))):=
 mO (fC (jeF N N) ja) func307 rfl N (.seq .no (.meet jlg .no .no)) _
def jqT :Sh:=⟨pI:: .dead:: .dead::pI::pI::dz 5 (.box 10 0::pI::dz 21 []),[(10,false,[pI,pI])]⟩
def s_l12Term_m (f:Int) (e:Int) (c:Int) (a:Int) (i:Int):Option (Int×Int):=
 (meet (fun(m:Int×Int×Int×Int×Int×Int)=>match m with|(b,n,l,j,p,o)=>oB (jbz N l n) fun d=>if fits (1+d)then if fits ((1+d)*22)then if fits (((1+d)*22)*b)then if fits (10*b)then if fits ((10*b)+3)then if fits (((10*b)+3)+j)then oB (jcf N (((1+d)*22)*b) (((10*b)+3)+j)) fun k=>(some (k.1,k.2))else none else none else none else none else none else none) fun h=>bif decide ((0:Int)<c)then if fits (e*a)then if fits ((e*a)*9)then if c≠0 then if fits (((e*a)*9).tdiv c)then h (f,a,i,(((e*a)*9).tdiv c),0,0)else none else none else none else none else h (f,a,i,1,0,0))
theorem jtF :mK 258 (bX [pI,pI,pI,pI,pI] [.agg [pI,pI]] (c5A (s_l12Term_m N))):=
 mO (fC (jkd N) (fC (jn4 N) ja)) func258 rfl N (.seq .no (.seq .no (.meet jqT .no .no))) _
def s_l12Points_m (b:List Z0) (d:List Z1) (c:List UInt8) (e:List UInt8) (f:Int):Z15:=
 (oB (s_l12At_m N b d c e f) fun h=>bif decide ((h.length:Int)=0)then some 0 else oB (s_l7Long_m N b d c f) fun k=>oB (s_l12Total_m N b d c) fun j=>oB (s_l7Posts_m N b d c e) fun i=>oB (s_l12Term_m N (h.length:Int) k j (b.length:Int) (i.length:Int)) fun a=>if fits (a.1*1000)then if a.2≠0 then if fits ((a.1*1000).tdiv a.2)then some ((a.1*1000).tdiv a.2)else none else none else none)
theorem jrZ :mK 179 (bX [.agg [.pv Y4,.pv Y6],pS,pS,pI] [pI] (c5A (s_l12Points_m N))):=
 mO (fC (jn1 N) (fC (jrY N) (fC (jn2 N) (fC (jh6 N) (fC (jtF N) ja))))) func179 rfl N .no _
def jAu :Sh:=⟨.pv (.sl .str)::pS::dz 3 (pS::pI::dz 18 []),[]⟩
def jxS (o:List Z2) (n:List UInt8):Option (Z2):=
 (iter (fun l (d,c,a,b)=>bif decide (b<(d.length:Int))then meet (fun(e:(List Z2)×Z2×Z2×Int)=>match e with|(j,m,h,f)=>oB (idx j f) fun i=>if h.length+i.length<=9223372036854775807 then if fits (f+1)then l (j,m,(h++i),(f+1))else none else none) fun k=>(bif decide ((0:Int)<b)then if a.length+c.length<=9223372036854775807 then k (d,c,(a++c),b)else none else k (d,c,a,b))else some a) N (o,n,([]:List UInt8),(0:Int)))
theorem jAy :mK 143 (bX [.pv (.sl .str),pS] [pS] (c2A (jxS N))):=
 mO ja func143 rfl N (.seq .no (.seq .no (.seq (.seq .no (.block (.loop jAu (.seq .no (.seq (.block (.meet jAu .no .no)) .no))))) .no))) _
def jB2 :Sh:=⟨dz 3 (pI:: .dead:: .box 5 0:: .box 6 0:: .dead:: .dead:: .own 600009 Y22 89 true:: .own 600010 Y18 111 true::pI::dz 65 []),[(5,false,[.pv Y4,.pv Y6]),(6,false,[pI,pS,.pv (.sl .str),pI,pI,.pv (.sl .q)])]⟩
def jCf :Sh:=⟨dz 3 (pI:: .dead:: .box 5 0:: .box 6 0:: .dead:: .dead:: .own 600009 Y22 89 true:: .own 600010 Y18 111 true::pI::pI:: .pv Y22:: .own 600014 tI 3 true::pI::dz 61 []),[(5,false,[.pv Y4,.pv Y6]),(6,false,[pI,pS,.pv (.sl .str),pI,pI,.pv (.sl .q)])]⟩
def jyf (I:List Z2) (ac:List Z4) (s:List Z0) (W:List Z1) (R:Int) (aa:List UInt8) (z:List Z2) (Q:Int) (K:Int) (G:List DQ) (V:Int):Option (Z17):=
 (oB (jxS N z ([32]:List UInt8)) fun P=>oB (ja5 N I ac P) fun S=>iter (fun X (y,B,d,c,C,E,H,A,L,O,ae,T)=>bif decide (c<(d.length:Int))then oB (idx d c) fun p=>(oB (idx d 0) fun n=>if fits (p.2-n.2)then if fits ((p.2-n.2)-c)then oB (idx d c) fun af=>(oB (s_l12At_m N C E A af.1 y) fun U=>iter (fun D (t,h,l,i,b,e,f,a,v,k,w,r,x,j,u,o)=>bif decide (a<(e.length:Int))then oB (idx e a) fun ad=>(bif decide (b<=ad)then oB (idx e a) fun q=>(if fits (q-b)then if room f.length ([(q-b)]:List Int).length 8 then if fits (a+1)then D (t,h,l,i,b,e,(f++([(q-b)]:List Int)),(a+1),v,k,w,r,x,j,u,o)else none else none else none)else if fits (a+1)then D (t,h,l,i,b,e,f,(a+1),v,k,w,r,x,j,u,o)else none)else if room h.length ([f]:List (List Int)).length 24 then if fits (i+1)then X (t,(h++([f]:List (List Int))),l,(i+1),v,k,w,r,x,j,u,o)else none else none) N (y,B,d,c,((p.2-n.2)-c),U,([]:List Int),(0:Int),C,E,H,A,L,O,ae,T))else none else none)else some B) N (V,([]:List (List Int)),S,(0:Int),s,W,R,aa,z,Q,K,G))
theorem jCm :mK 262 (bX [.agg [.pv (.sl .str),.pv Y17],.agg [.pv Y4,.pv Y6],.agg [pI,pS,.pv (.sl .str),pI,pI,.pv (.sl .q)],pI] [.own 1 Y22 89 true] (c11A (jyf N))):=
 mO (fC (jAy N) (fC (jiO N) (fC (jn1 N) ja))) func262 rfl N (.seq .no (.seq .no (.seq .no (.seq (.seq .no (.block (.loop jB2 (.seq .no (.seq (.block (.seq .no (.seq .no (.seq .no (.seq (.seq .no (.block (.loop jCf .no))) .no))))) .no))))) .no)))) _
def jBI :Sh:=⟨.pv (.sl Y22)::pI::pI::pI::pI::dz 6 (pI::dz 46 []),[]⟩
def jxJ (N:Nat):(D:Nat)->Z17->Int->Int->Int->Int->Z9
 |0,_,_,_,_,_=>none
 |D+1,lists,k,last,start,slop=>
 bif decide (k=(lists.length:Int))then
 if fits (last-start)then if fits ((lists.length:Int)-1)then if fits ((last-start)-((lists.length:Int)-1))then some (decide (((last-start)-((lists.length:Int)-1))<=slop))else none else none else none
 else
 iter (fun go (g:Z17×Int×Int×Int×Int×Int)=>
 match g with
 |(lists2,k2,last2,start2,slop2,i)=>
 oB (idx lists2 k2) fun e=>
 bif decide (i<(e.length:Int))then
 oB (idx lists2 k2) fun e2=>
 (oB (idx e2 i) fun e3=>
 bif decide (last2<e3)then
 if fits (k2+1)then oB (idx lists2 k2) fun e4=>
 (oB (idx e4 i) fun e5=>
 oB (jxJ N D lists2 (k2+1) e5 start2 slop2) fun r=>
 bif r then
 some true
 else
 if fits (i+1)then go (lists2,k2,last2,start2,slop2,(i+1))else none)else none
 else
 if fits (i+1)then go (lists2,k2,last2,start2,slop2,(i+1))else none)
 else
 some false) N (lists,k,last,start,slop,0)
def jyj (N D:Nat):Model:=⟨⟨[.pv (.sl Y22),pI,pI,pI,pI],[]⟩,⟨[pB],[]⟩,c5A (jxJ N D)⟩
theorem jD8 (N D:Nat) (ih:mK 309 (jyj N D)):mK 309 (jyj N (D+1)):=
 mO (fC ih ja) func309 rfl N (.seq .no (.seq .no (.seq (.seq .no (.block (.loop jBI .no))) .no))) (jyj N (D+1))
theorem jzt (N:Nat):∀D,mK 309 (jyj N D)
 |0=>modelOk_none ⟨_,func309,by decide,by kernel_rfl⟩ _ (fun a=>rfl)
 |D+1=>jD8 N D (jzt N D)
def jCF :Sh:=⟨.pv (.sl Y22)::pI::dz 3 (.own 600005 tI 3 true::pI::dz 56 []),[]⟩
def jBd :Sh:=⟨.pv (.sl Y22)::pI::dz 3 (.own 600005 tI 3 true:: .dead::pI::dz 55 []),[]⟩
def jyb (q:List (List Int)) (u:Int):Option ((List Int)):=
 (iter (fun o (c,f,k,e)=>bif decide (e<(c.length:Int))then oB (idx c e) fun n=>(oB (jx3 N n) fun r=>bif !r then some ([]:List Int)else if fits (e+1)then o (c,f,k,(e+1))else none)else oB (jJ N (c.length:Int) 1 6) fun t=>bif !t then some ([]:List Int)else oB (jJ N f 0 5) fun x=>bif !x then some ([]:List Int)else iter (fun j (b,i,d,a)=>oB (idx b 0) fun y=>bif decide (a<(y.length:Int))then oB (idx b 0) fun v=>(oB (idx v a) fun A=>oB (idx b 0) fun p=>oB (idx p a) fun z=>oB (jxJ N N b 1 A z i) fun m=>bif m then oB (idx b 0) fun w=>(oB (idx w a) fun l=>if room d.length ([l]:List Int).length 8 then if fits (a+1)then j (b,i,(d++([l]:List Int)),(a+1))else none else none)else if fits (a+1)then j (b,i,d,(a+1))else none)else some d) N (c,f,k,(0:Int))) N (q,u,([]:List Int),(0:Int)))
theorem jAW :mK 263 (bX [.pv (.sl Y22),pI] [.own 1 tI 3 true] (c2A (jyb N))):=
 mO (fC (jC9 N) (fC (jcL N) (fC (jzt N N) ja))) func263 rfl N (.seq .no (.seq .no (.seq (.seq .no (.block (.loop jCF .no))) (.seq .no (.seq (.seq .no (.block (.loop jBd .no))) .no))))) _
def jCQ :Sh:=⟨dz 3 (pI:: .dead:: .box 5 0:: .box 6 0::dz 3 (pI::pI:: .own 600012 Y18 111 true::pI::dz 41 [])),[(5,false,[.pv Y4,.pv Y6]),(6,false,[pI,pS,.pv (.sl .str),pI,pI,.pv (.sl .q)])]⟩
def jCS :Sh:=⟨dz 3 (pI:: .box 4 0:: .box 5 0:: .box 6 0::dz 3 (pI::dz 44 [])),[(4,false,[.pv (.sl .str),.pv Y17]),(5,false,[.pv Y4,.pv Y6]),(6,false,[pI,pS,.pv (.sl .str),pI,pI,.pv (.sl .q)])]⟩
def jx2 (e:List Z2) (q:List Z4) (p:List Z0) (n:List Z1) (i:Int) (o:List UInt8) (h:List Z2) (a:Int) (f:Int) (d:List DQ) (l:Int):Z15:=
 (oB (jyf N e q p n i o h a f d l) fun u=>bif decide ((u.length:Int)=0)then some 0 else oB (jyb N u a) fun v=>meet (fun(k:Int×Int×(List Z2)×(List Z4)×(List Z0)×(List Z1)×Int×Z2×(List Z2)×Int×Int×(List DQ))=>match k with|(I,D,H,aa,T,V,B,L,r,E,X,K)=>oB (jxS N r ([32]:List UInt8)) fun O=>oB (ja5 N H aa O) fun P=>iter (fun S (z,m,b,j,c,A,w,W,x,G,C,U,Q)=>bif decide (c<(j.length:Int))then oB (idx j c) fun R=>(oB (s_l12Points_m N A w x R.1 z) fun y=>if fits (b+y)then if fits (c+1)then S (z,m,(b+y),j,(c+1),A,w,W,x,G,C,U,Q)else none else none)else if fits (b*m)then some (b*m)else none) N (I,D,(0:Int),P,(0:Int),T,V,B,L,r,E,X,K)) fun t=>bif decide ((3:Int)<v.length)then t (l,3,e,q,p,n,i,o,h,a,f,d)else t (l,(v.length:Int),e,q,p,n,i,o,h,a,f,d))
theorem jAL :mK 181 (bX [.agg [.pv (.sl .str),.pv Y17],.agg [.pv Y4,.pv Y6],.agg [pI,pS,.pv (.sl .str),pI,pI,.pv (.sl .q)],pI] [pI] (c11A (jx2 N))):=
 mO (fC (jCm N) (fC (jAW N) (fC (jAy N) (fC (jiO N) (fC (jrZ N) ja))))) func181 rfl N (.seq .no (.seq .no (.seq .no (.seq .no (.meet jCS .no (.seq .no (.seq .no (.seq (.seq .no (.block (.loop jCQ .no))) .no)))))))) _
def s_l5Min_m (N:Nat) (b:Int) (a:Int):Z15:=
 (bif decide (b<a)then some b else some a)
theorem jDQ :mK 310 (bX [pI,pI] [pI] (c2A (s_l5Min_m N))):=
 mO ja func310 rfl N .no _
def jCw :Sh:=⟨pS::pS::dz 3 (.mtk 600005 tI 3 true::pI::dz 74 []),[]⟩
def jDJ :Sh:=⟨pS::pS::dz 3 (.mtk 600005 tI 3 true:: .dead::pI::dz 73 []),[]⟩
def jDM :Sh:=⟨pS::pS::dz 3 (.mtk 600005 tI 3 true:: .dead::pI::pI::pI::dz 71 []),[]⟩
def jBZ :Sh:=⟨pS::pS::dz 3 (.mtk 600005 tI 3 true:: .dead::pI:: .dead::pI::pI::dz 70 []),[]⟩
def s_l5Far_m (K:List UInt8) (d:List UInt8):Z15:=
 (if fits ((d.length:Int)+1)then if((d.length:Int)+1)=((d.length:Int)+1)/\0<=((d.length:Int)+1)/\((d.length:Int)+1)*8<=140737488355328/\((d.length:Int)+1)<=140737488355328 then iter (fun E (v,p,k,c)=>bif decide (c<=(p.length:Int))then if 0<=c/\c<(k.length:Int)then oB (k[c.toNat]?) fun R=>(if fits (c+1)then E (v,p,(k.set c.toNat c),(c+1))else none)else none else iter (fun I (u,m,f,l)=>bif decide (l<(u.length:Int))then if 0<=(0:Int)/\(0:Int)<f.length then oB (f[(0:Int).toNat]?) fun C=>(if fits (l+1)then if 0<=(0:Int)/\(0:Int)<f.length then oB (f[(0:Int).toNat]?) fun S=>(iter (fun A (n,h,q,i,o,j)=>bif decide (j<(h.length:Int))then meet (fun(e:Z20)=>match e with|(H,z,b,w,a,D)=>if fits (a+1)then if 0<=(a+1)/\(a+1)<(b.length:Int)then oB (b[(a+1).toNat]?) fun P=>(if fits (a+1)then if 0<=a/\a<(b.length:Int)then oB (b[a.toNat]?) fun G=>(if fits (a+1)then if 0<=(a+1)/\(a+1)<(b.length:Int)then oB (b[(a+1).toNat]?) fun O=>(oB (s_l5Min_m N G O) fun t=>if fits (t+1)then oB (s_l5Min_m N D (t+1)) fun B=>(if 0<=(a+1)/\(a+1)<(b.length:Int)then oB (b[(a+1).toNat]?) fun Q=>(if fits (a+1)then A (H,z,(b.set (a+1).toNat B),w,P,(a+1))else none)else none)else none)else none else none)else none else none)else none else none) fun r=>(oB (idx n i) fun y=>oB (idx h j) fun L=>bif !decide ((y.toNat:Int)=(L.toNat:Int))then if fits (o+1)then r (n,h,q,i,j,(o+1))else none else r (n,h,q,i,j,o))else if fits (i+1)then I (n,h,q,(i+1))else none) N (u,m,(f.set (0:Int).toNat (l+1)),l,C,(0:Int)))else none else none)else none else if 0<=(m.length:Int)/\(m.length:Int)<(f.length:Int)then oB (f[(m.length:Int).toNat]?) fun x=>(some x)else none) N (v,p,k,(0:Int))) N (K,d,(List.replicate ((d.length:Int)+1).toNat 0),(0:Int))else none else none)
theorem jBt :mK 264 (bX [pS,pS] [pI] (c2A (s_l5Far_m N))):=
 mO (fC (jDQ N) ja) func264 rfl N (.seq .no (.seq .no (.seq (.seq .no (.block (.loop jCw .no))) (.seq (.seq .no (.block (.loop jDJ (.seq .no (.seq (.block (.seq .no (.seq .no (.seq .no (.block (.loop jDM (.seq .no (.seq (.block (.seq .no (.meet jBZ .no .no))) .no)))))))) .no))))) .no)))) _ (wr:=[14])
def jC5 :Sh:=⟨.dead:: .dead::pI:: .box 3 0:: .box 4 0:: .dead:: .dead::pI::pI::dz 49 [],[(3,false,[.pv Y4,.pv Y6]),(4,false,[pI,pS,.pv (.sl .str),pI,pI,.pv (.sl .q)])]⟩
def jx5 (y:List Z0) (r:List Z1) (x:Int) (v:List UInt8) (u:List Z2) (w:Int) (t:Int) (q:List DQ) (B:Int):Z15:=
 (iter (fun l (h,j,a,i,b,k,d,e,f,o,n)=>bif decide (a<(b.length:Int))then oB (idx b a) fun p=>(oB (idx e 0) fun A=>oB (s_l5Far_m N p.2.1 A) fun c=>bif !decide (p.1=d)then if fits (a+1)then l (h,j,(a+1),i,b,k,d,e,f,o,n)else none else bif decide (f<c)then if fits (a+1)then l (h,j,(a+1),i,b,k,d,e,f,o,n)else none else oB (s_l12Points_m N i b d p.2.1 h) fun m=>if fits (3-c)then if fits (m*(3-c))then if 3≠0 then if fits ((m*(3-c)).tdiv 3)then bif decide (j<((m*(3-c)).tdiv 3))then if fits (a+1)then l (h,((m*(3-c)).tdiv 3),(a+1),i,b,k,d,e,f,o,n)else none else(if fits (a+1)then l (h,j,(a+1),i,b,k,d,e,f,o,n)else none)else none else none else none else none)else some j) N (B,(0:Int),(0:Int),y,r,x,v,u,w,t,q))
theorem jCb :mK 182 (bX [.agg [.pv Y4,.pv Y6],.agg [pI,pS,.pv (.sl .str),pI,pI,.pv (.sl .q)],pI] [pI] (c9A (jx5 N))):=
 mO (fC (jBt N) (fC (jrZ N) ja)) func182 rfl N (.seq .no (.seq .no (.seq (.seq .no (.block (.loop jC5 .no))) .no))) _
def jxB (N:Nat):(D:Nat)->Z2->Z2->Z9
 |0,_,_=>none
 |D+1,p,s=>
 bif decide (p=([]:List UInt8))then
 some (decide (s=([]:List UInt8)))
 else
 oB (idx p 0) fun c=>
 bif decide ((c.toNat:Int)=42)then
 oB (cut p 1 (p.length:Int)) fun y=>
 (oB (jxB N D y s) fun r=>
 bif r then
 some true
 else
 bif !decide (s=([]:List UInt8))then
 oB (cut s 1 (s.length:Int)) fun y2=>
 (oB (jxB N D p y2) fun r2=>
 some r2)
 else
 some false)
 else
 bif !decide (s=([]:List UInt8))then
 oB (idx p 0) fun c2=>
 (bif decide ((c2.toNat:Int)=63)then
 oB (cut p 1 (p.length:Int)) fun y3=>
 (oB (cut s 1 (s.length:Int)) fun y4=>
 oB (jxB N D y3 y4) fun r3=>
 some r3)
 else
 oB (idx p 0) fun c3=>
 oB (idx s 0) fun c4=>
 bif decide ((c3.toNat:Int)=(c4.toNat:Int))then
 oB (cut p 1 (p.length:Int)) fun y5=>
 (oB (cut s 1 (s.length:Int)) fun y6=>
 oB (jxB N D y5 y6) fun r4=>
 some r4)
 else
 some false)
 else
 some false
def jyr (N D:Nat):Model:=⟨⟨[pS,pS],[]⟩,⟨[pB],[]⟩,c2A (jxB N D)⟩
theorem jDg (N D:Nat) (ih:mK 265 (jyr N D)):mK 265 (jyr N (D+1)):=
 mO (fC ih ja) func265 rfl N .no (jyr N (D+1))
theorem jzM (N:Nat):∀D,mK 265 (jyr N D)
 |0=>modelOk_none ⟨_,func265,by decide,by kernel_rfl⟩ _ (fun a=>rfl)
 |D+1=>jDg N D (jzM N D)
def jBi :Sh:=⟨.dead:: .dead::pI:: .box 3 0:: .box 4 0:: .dead:: .dead::pI::dz 38 [],[(3,false,[.pv Y4,.pv Y6]),(4,false,[pI,pS,.pv (.sl .str),pI,pI,.pv (.sl .q)])]⟩
def jyd (x:List Z0) (o:List Z1) (v:Int) (t:List UInt8) (r:List Z2) (u:Int) (p:Int) (n:List DQ) (A:Int):Z9:=
 (iter (fun j (e,a,f,b,h,c,d,k,m,l)=>bif decide (a<(b.length:Int))then oB (idx b a) fun i=>(bif decide (i.1=c)then oB (idx d 0) fun z=>(oB (jxB N N z i.2.1) fun q=>bif q then oB (s_l12At_m N f b c i.2.1 e) fun w=>(bif decide ((0:Int)<w.length)then some true else if fits (a+1)then j (e,(a+1),f,b,h,c,d,k,m,l)else none)else if fits (a+1)then j (e,(a+1),f,b,h,c,d,k,m,l)else none)else if fits (a+1)then j (e,(a+1),f,b,h,c,d,k,m,l)else none)else some false) N (A,(0:Int),x,o,v,t,r,u,p,n))
theorem jCi :mK 184 (bX [.agg [.pv Y4,.pv Y6],.agg [pI,pS,.pv (.sl .str),pI,pI,.pv (.sl .q)],pI] [pB] (c9A (jyd N))):=
 mO (fC (jzM N N) (fC (jn1 N) ja)) func184 rfl N (.seq .no (.seq (.seq .no (.block (.loop jBi .no))) .no)) _
def jyV (N:Nat) (a:Bool):Z15:=
 (bif a then some 100 else some 0)
theorem jCo :mK 183 (bX [pB] [pI] (c1A (jyV N))):=
 mO ja func183 rfl N .no _
def jym (e:Int) (f:Z14) (k:Z8) (m:List UInt8):Z15:=
 (iter (fun j (c,a,d,i,b)=>bif decide (a<(b.length:Int))then oB (idx b a) fun h=>(bif decide (h.1=c)then oB (idx b a) fun n=>(some n.2)else if fits (a+1)then j (c,(a+1),d,i,b)else none)else some (-1)) N (m,(0:Int),e,f,k))
theorem jDS :mK 185 (bX [.agg [pI,.pv Y20,.pv Y16],pS] [pI] (c4A (jym N))):=
 mO ja func185 rfl N (.seq .no (.seq (.seq .no (.block (.loop jl8 .no))) .no)) _
def jDX :Sh:=⟨dz 3 (pI:: .box 4 0:: .box 5 0:: .box 6 0:: .dead:: .dead::pI::pI::dz 111 []),[(4,false,[.pv (.sl .str),.pv Y17]),(5,false,[.pv Y4,.pv Y6]),(6,false,[pI,pS,.pv (.sl .str),pI,pI,.pv (.sl .q)])]⟩
def s_l12Score_m (N:Nat):(D:Nat)->(List Z2)->(List Z4)->(List Z0)->(List Z1)->Int->Z2->(List Z2)->Int->Int->(List DQ)->Int->Z15
 |0,_,_,_,_,_,_,_,_,_,_,_=>none
 |D+1,c,c2,s,s2,q,q2,q3,q4,q5,q6,id=>
 bif decide (q=1)then
 some 100
 else
 bif decide (q=2)then
 oB (idx q3 0) fun e=>
 (oB (jyC N c c2 e) fun r=>
 oB (s_l12Points_m N s s2 q2 r id) fun r2=>
 some r2)
 else
 bif decide (q=3)then
 oB (jx2 N c c2 s s2 q q2 q3 q4 q5 q6 id) fun r3=>
 (some r3)
 else
 bif decide (q=4)then
 oB (jx5 N s s2 q q2 q3 q4 q5 q6 id) fun r4=>
 (some r4)
 else
 bif decide (q=5)then
 oB (jyd N s s2 q q2 q3 q4 q5 q6 id) fun r5=>
 (oB (jyV N r5) fun r6=>
 some r6)
 else
 bif decide (q=6)then
 oB (jyv N s s2 id) fun r7=>
 (oB (jym N r7.1 r7.2.1 r7.2.2 q2) fun r8=>
 oB (jJ N r8 q4 q5) fun r9=>
 oB (jyV N r9) fun r10=>
 some r10)
 else
 bif decide (q=10)then
 oB (idx q6 0) fun e2=>
 (oB (s_l12Score_m N D c c2 s s2 e2.kind e2.field e2.words e2.lo e2.hi e2.kids id) fun r11=>
 if fits (q4*r11)then some (q4*r11)else none)
 else
 bif decide (q=9)then
 oB (idx q6 1) fun e3=>
 (oB (s_l12Score_m N D c c2 s s2 e3.kind e3.field e3.words e3.lo e3.hi e3.kids id) fun r12=>
 bif decide ((0:Int)<r12)then
 some 0
 else
 oB (idx q6 0) fun e4=>
 oB (s_l12Score_m N D c c2 s s2 e4.kind e4.field e4.words e4.lo e4.hi e4.kids id) fun r13=>
 some r13)
 else
 iter (fun go (g:Int×Int×Int×(List Z2)×(List Z4)×(List Z0)×(List Z1)×Int×Z2×(List Z2)×Int×Int×(List DQ))=>
 match g with
 |(id2,sum,i,c3,c4,s3,s4,q7,q8,q9,q10,q11,q12)=>
 bif decide (i<(q12.length:Int))then
 oB (idx q12 i) fun e5=>
 (oB (s_l12Score_m N D c3 c4 s3 s4 e5.kind e5.field e5.words e5.lo e5.hi e5.kids id2) fun r14=>
 bif decide (r14=0)then
 bif decide (q7=7)then
 some 0
 else
 (if fits (sum+r14)then if fits (i+1)then go (id2,(sum+r14),(i+1),c3,c4,s3,s4,q7,q8,q9,q10,q11,q12)else none else none)
 else
 if fits (sum+r14)then if fits (i+1)then go (id2,(sum+r14),(i+1),c3,c4,s3,s4,q7,q8,q9,q10,q11,q12)else none else none)
 else
 some sum) N (id,0,0,c,c2,s,s2,q,q2,q3,q4,q5,q6)
def jyz (N D:Nat):Model:=⟨⟨[.agg [.pv (.sl .str),.pv Y17],.agg [.pv Y4,.pv Y6],.agg [pI,pS,.pv (.sl .str),pI,pI,.pv (.sl .q)],pI],[]⟩,⟨[pI],[]⟩,c11A (s_l12Score_m N D)⟩
theorem jBH (N D:Nat) (ih:mK 111 (jyz N D)):mK 111 (jyz N (D+1)):=
 mO (fC ih (fC (jCy N) (fC (jrZ N) (fC (jAL N) (fC (jCb N) (fC (jCi N) (fC (jCo N) (fC (jDn N) (fC (jDS N) (fC (jcL N) ja)))))))))) func111 rfl N (.seq .no (.seq .no (.seq .no (.seq (.seq .no (.block (.loop jDX .no))) .no)))) (jyz N (D+1))
theorem jz7 (N:Nat):∀D,mK 111 (jyz N D)
 |0=>modelOk_none ⟨_,func111,by decide,by kernel_rfl⟩ _ (fun a=>rfl)
 |D+1=>jBH N D (jz7 N D)
def jx8 (N:Nat) (c:Int) (a:Int) (d:Int) (b:Int):Z9:=
 (bif decide (b<a)then some true else bif decide (a=b)then some (decide (c<d))else some false)
theorem jw8 :mK 186 (bX [.agg [pI,pI],.agg [pI,pI]] [pB] (c4A (jx8 N))):=
 mO ja func186 rfl N .no _
def jwc :Sh:=⟨.pv (.sl Y15):: .dead::pI:: .dead:: .box 4 0:: .dead:: .dead::pI::dz 37 [],[(4,false,[pI,pI])]⟩
def s_l13Push_m (q:Z6) (r:Int) (u:Int) (o:Int):Option (Z11):=
 (iter (fun l (c,h,d,b,a)=>bif decide (d<(c.length:Int))then oB (idx c d) fun k=>(oB (jx8 N k.1 k.2 b a) fun p=>bif p then if fits (d+1)then l (c,h,(d+1),b,a)else none else oB (cut c 0 d) fun f=>if room ([]:Z6).length f.length 16 then if room (([]:Z6)++f).length ([(b,a)]:Z6).length 16 then oB (cut c d (c.length:Int)) fun i=>(if room ((([]:Z6)++f)++([(b,a)]:Z6)).length i.length 16 then bif decide (h<((((([]:Z6)++f)++([(b,a)]:Z6))++i).length:Int))then oB (cut (((([]:Z6)++f)++([(b,a)]:Z6))++i) 0 h) fun n=>(some n)else(some (((([]:Z6)++f)++([(b,a)]:Z6))++i))else none)else none else none)else oB (cut c 0 d) fun e=>if room ([]:Z6).length e.length 16 then if room (([]:Z6)++e).length ([(b,a)]:Z6).length 16 then oB (cut c d (c.length:Int)) fun j=>(if room ((([]:Z6)++e)++([(b,a)]:Z6)).length j.length 16 then bif decide (h<((((([]:Z6)++e)++([(b,a)]:Z6))++j).length:Int))then oB (cut (((([]:Z6)++e)++([(b,a)]:Z6))++j) 0 h) fun m=>(some m)else(some (((([]:Z6)++e)++([(b,a)]:Z6))++j))else none)else none else none) N (q,o,(0:Int),r,u))
theorem jwx :mK 112 (bX [.pv (.sl Y15),.agg [pI,pI],pI] [.own 1 Y15 93 true] (c4A (s_l13Push_m N))):=
 mO (fC (jw8 N) ja) func112 rfl N (.seq .no (.seq .no (.seq (.block (.loop jwc .no)) .no))) _ (wr:=[23,26,27,30,31,35,36,43])
def jCE :Sh:=⟨dz 3 (pI:: .box 4 0:: .box 5 0:: .box 6 0:: .dead:: .dead:: .own 600009 Y15 93 true::pI::dz 33 []),[(4,false,[.pv (.sl .str),.pv Y17]),(5,false,[.pv Y4,.pv Y6]),(6,false,[pI,pS,.pv (.sl .str),pI,pI,.pv (.sl .q)])]⟩
def s_l13Top_m (t:List Z2) (E:List Z4) (C:List Z0) (u:List Z1) (B:Int) (z:List UInt8) (x:List Z2) (y:Int) (v:Int) (q:List DQ) (w:Int):Option (Z11):=
 (iter (fun o (l,k,a,f,n,b,i,c,j,d,e,m,h)=>bif decide (a<(b.length:Int))then oB (idx b a) fun r=>(oB (s_l12Score_m N N f n b i c j d e m h r.1) fun p=>bif decide ((0:Int)<p)then oB (idx b a) fun G=>(oB (s_l13Push_m N k G.1 p l) fun A=>if fits (a+1)then o (l,A,(a+1),f,n,b,i,c,j,d,e,m,h)else none)else if fits (a+1)then o (l,k,(a+1),f,n,b,i,c,j,d,e,m,h)else none)else some k) N (w,([]:Z6),(0:Int),t,E,C,u,B,z,x,y,v,q))
theorem jBA :mK 47 (bX [.agg [.pv (.sl .str),.pv Y17],.agg [.pv Y4,.pv Y6],.agg [pI,pS,.pv (.sl .str),pI,pI,.pv (.sl .q)],pI] [.own 1 Y15 93 true] (c11A (s_l13Top_m N))):=
 mO (fC (jz7 N N) (fC (jwx N) ja)) func47 rfl N (.seq .no (.seq .no (.seq (.seq .no (.block (.loop jCE .no))) .no))) _
def s_IndexTop_m (b:List Z2) (a:List Z4) (l:List Z3) (k:Int) (j:List UInt8) (h:List Z2) (i:Int) (d:Int) (c:List DQ) (e:Int):Option (Z11):=
 (oB (s_l18Ok_m N b a l) fun o=>bif !o then some ([]:Z6)else oB (jE5 N k j h i d c) fun p=>bif !p then some ([]:Z6)else oB (jJ N e 1 16) fun q=>bif !q then some ([]:Z6)else oB (s_l18Docs_m N b a l) fun m=>oB (s_l7Of_m N b a m) fun f=>oB (s_l13Top_m N b a f.1 f.2 k j h i d c e) fun n=>some n)
theorem jIg :mK 9 (bX [.agg [.pv (.sl .str),.pv Y17,.pv Y1],.agg [pI,pS,.pv (.sl .str),pI,pI,.pv (.sl .q)],pI] [.own 1 Y15 93 true] (c10A (s_IndexTop_m N))):=
 mO (fC (jIW N) (fC (jBX N) (fC (jcL N) (fC (jH3 N) (fC (jmU N) (fC (jBA N) ja)))))) func9 rfl N .no _
def jxa :Sh:=⟨.pv (.sl Y15):: .pv (.sl Y15)::dz 3 (pI::dz 20 []),[]⟩
def l_foHits_m (c:Z6) (h:Z6):Z9:=
 (bif !decide ((c.length:Int)=(h.length:Int))then some false else iter (fun i (b,e,a)=>bif decide (a<(b.length:Int))then oB (idx b a) fun d=>(oB (idx e a) fun f=>bif !((decide (d.1=f.1))&&(decide (d.2=f.2)))then some false else if fits (a+1)then i (b,e,(a+1))else none)else some true) N (c,h,(0:Int)))
theorem jwb :mK 8 (bX [.pv (.sl Y15),.pv (.sl Y15)] [pB] (c2A (l_foHits_m N))):=
 mO ja func8 rfl N (.seq .no (.seq .no (.seq (.seq .no (.block (.loop jxa .no))) .no))) _
def i_IndexDocs_m (c:List Z2) (e:List Z4) (a:List Z3):Z18:=
 (oB (i_IndexOk_m N c e a) fun d=>bif !d then some ([]:List Z0)else oB (i_allAlive_m N a) fun f=>oB (jbV N f) fun b=>some b)
theorem jN8 :mK 13 (bX [.agg [.pv (.sl .str),.pv Y17,.pv Y1]] [.own 1 Y5 105 true] (c3A (i_IndexDocs_m N))):=
 mO (fC (jIr N) (fC (jHR N) (fC (joC N) ja))) func13 rfl N .no _
def l_FnIndexTop_m (d:List Int):Z9:=
 (bif decide ((1048576:Int)<d.length)then some true else oB (s_DrawIndexTop_m N d) fun a=>oB (i_IndexTop_m N a.1 a.2.1 a.2.2.1 a.2.2.2.1 a.2.2.2.2.1 a.2.2.2.2.2.1 a.2.2.2.2.2.2.1 a.2.2.2.2.2.2.2.1 a.2.2.2.2.2.2.2.2.1 a.2.2.2.2.2.2.2.2.2) fun b=>oB (s_IndexTop_m N a.1 a.2.1 a.2.2.1 a.2.2.2.1 a.2.2.2.2.1 a.2.2.2.2.2.1 a.2.2.2.2.2.2.1 a.2.2.2.2.2.2.2.1 a.2.2.2.2.2.2.2.2.1 a.2.2.2.2.2.2.2.2.2) fun j=>oB (l_foHits_m N b j) fun e=>bif !e then oB (s_IndexTop_m N a.1 a.2.1 a.2.2.1 a.2.2.2.1 a.2.2.2.2.1 a.2.2.2.2.2.1 a.2.2.2.2.2.2.1 a.2.2.2.2.2.2.2.1 a.2.2.2.2.2.2.2.2.1 a.2.2.2.2.2.2.2.2.2) fun l=>(oB (l_foHits_m N b l) fun k=>some k)else oB (i_IndexOk_m N a.1 a.2.1 a.2.2.1) fun i=>bif !i then oB (s_IndexTop_m N a.1 a.2.1 a.2.2.1 a.2.2.2.1 a.2.2.2.2.1 a.2.2.2.2.2.1 a.2.2.2.2.2.2.1 a.2.2.2.2.2.2.2.1 a.2.2.2.2.2.2.2.2.1 a.2.2.2.2.2.2.2.2.2) fun n=>(oB (l_foHits_m N b n) fun h=>some h)else oB (i_IndexDocs_m N a.1 a.2.1 a.2.2.1) fun m=>oB (i_SegOf_m N a.1 a.2.1 m) fun c=>oB (i_TopOf_m N a.1 a.2.1 c.1 c.2 a.2.2.2.1 a.2.2.2.2.1 a.2.2.2.2.2.1 a.2.2.2.2.2.2.1 a.2.2.2.2.2.2.2.1 a.2.2.2.2.2.2.2.2.1 a.2.2.2.2.2.2.2.2.2) fun f=>oB (l_foHits_m N b f) fun o=>some o)
def jNy (N:Nat):Model:=⟨⟨[.pv (.sl (.int .u8))],[]⟩,⟨[pB],[]⟩,c1A (l_FnIndexTop_m N)⟩
theorem jN5 :mK 3 (jNy N):=
 mO (fC (jNN N) (fC (jIR N) (fC (jIg N) (fC (jwb N) (fC (jIr N) (fC (jN8 N) (fC (jqC N) (fC (jCZ N) ja)))))))) func3 rfl N .no (jNy N)
end Go.Proofs.YtabhgjdikeipdaaGreatDoor
