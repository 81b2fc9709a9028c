import Derived.Test.YtlfbmkkddcelcaaGreatG1A
set_option linter.unusedVariables false
set_option linter.unusedSimpArgs false
namespace Go.Proofs.YtlfbmkkddcelcaaGreat
open Go.RowKit Go.Proofs.Tryz
variable (N : Nat)
open Option renaming bind -> oB
def jcG (a:List Z1) (c:Int) (d:Int) (b:Unit) (e:Int):Option (Int×Int×(List Z1)×Int):=order2G (cmp105 N) N a c d b e
 
theorem jrN :mK 223 ⟨⟨[.mtk 800000 Y6 106 false,pI,pI,.box 900003 0,.clo 78 []],[(900003,false,[pI])]⟩,⟨[.tup [pI,pI],.mtk 800000 Y6 106 false],[(900003,false,[pI])]⟩,c5A (jcG N)⟩:=
 mO (fC (jaf N) ja) func223 rfl N .no _ (rs:=[900003,800000])
def jdE (a:List Z1) (d:Int) (e:Int) (c:Int) (b:Unit) (f:Int):Option (Int×(List Z1)×Int):=medianG (cmp105 N) N a d e c b f
 
theorem jfr :mK 212 ⟨⟨[.mtk 800000 Y6 106 false,pI,pI,pI,.box 900004 0,.clo 78 []],[(900004,false,[pI])]⟩,⟨[pI,.mtk 800000 Y6 106 false],[(900004,false,[pI])]⟩,c6A (jdE N)⟩:=
 mO (fC (jrN N) ja) func212 rfl N .no _ (rs:=[900004,800000])
def jca (a:List Z1) (c:Int) (b:Unit) (d:Int):Option (Int×(List Z1)×Int):=medianAdjacentG (cmp105 N) N a c b d
 
theorem jko :mK 211 ⟨⟨[.mtk 800000 Y6 106 false,pI,.box 900002 0,.clo 78 []],[(900002,false,[pI])]⟩,⟨[pI,.mtk 800000 Y6 106 false],[(900002,false,[pI])]⟩,c4A (jca N)⟩:=
 mO (fC (jfr N) ja) func211 rfl N .no _ (rs:=[900002,800000])
def jnR :Sh:=⟨.mtk 800000 Y6 106 false:: .dead:: .dead:: .clo 78 []::dz 7 (.box 11 0::pI::pI::pI::dz 48 []),[(11,false,[pI])]⟩
def jrt :Sh:=⟨.mtk 800000 Y6 106 false::dz 10 (.box 11 0:: .dead::pI::dz 49 []),[(11,false,[pI])]⟩
def jjM (a:List Z1) (c:Int) (d:Int) (b:Unit):Option (Int×Int×(List Z1)):=choosePivotG (cmp105 N) N a c d b
 
theorem joO :mK 175 (bX [.mtk 800000 Y6 106 false,pI,pI,.clo 78 []] [.tup [pI,pI],.mtk 800000 Y6 106 false] (c4A (jjM N))):=
 mO (fC (jko N) (fC (jfr N) ja)) func175 rfl N (.seq .no (.seq .no (.seq .no (.seq .no (.seq .no (.seq .no (.meet jrt (.seq .no (.cond (.meet jnR .no .no) .no)) .no))))))) _ (rs:=[800000])
def jpl :Sh:=⟨.mtk 800000 Y6 106 false::dz 7 (pI::pI::dz 24 []),[]⟩
def jeV (a:List Z1) (c:Int) (d:Int) (b:Unit):Option ((List Z1)):=reverseRangeG N a c d b
 
theorem jma :mK 176 (bX [.mtk 800000 Y6 106 false,pI,pI,.clo 78 []] [.tup [],.mtk 800000 Y6 106 false] (c4A (jeV N))):=
 mO ja func176 rfl N (.seq .no (.seq .no (.block (.loop jpl .no)))) _ (rs:=[800000])
def jn3 :Sh:=⟨.mtk 800000 Y6 106 false::pI::pI:: .clo 78 []::dz 5 (pI::pI::dz 130 []),[]⟩
def jsj :Sh:=⟨.mtk 800000 Y6 106 false::pI::pI:: .clo 78 []::dz 5 (pI::pI::pI::dz 129 []),[]⟩
def jnQ :Sh:=⟨.mtk 800000 Y6 106 false::pI::pI:: .clo 78 []::dz 5 (pI::pI:: .dead::pI::dz 128 []),[]⟩
def jhb (a:List Z1) (c:Int) (d:Int) (b:Unit):Option (Bool×(List Z1)):=pisG (cmp105 N) N a c d b
 
theorem jnw :mK 177 (bX [.mtk 800000 Y6 106 false,pI,pI,.clo 78 []] [pB,.mtk 800000 Y6 106 false] (c4A (jhb N))):=
 mO (fC (jaf N) ja) func177 rfl N (.seq .no (.seq .no (.seq (.seq .no (.block (.loop jn3 (.seq .no (.seq (.block (.seq (.block (.loop jn3 .no)) (.seq .no (.seq .no (.seq .no (.meet jn3 (.seq .no (.cond (.seq .no (.block (.loop jsj .no))) .no)) (.seq .no (.cond (.seq .no (.block (.loop jnQ .no))) .no)))))))) .no))))) .no))) _ (rs:=[800000])
def jnv :Sh:=⟨.mtk 800000 Y6 106 false::pI:: .dead:: .dead:: .clo 78 []::dz 6 (pI::pI::dz 77 []),[]⟩
def jbG (a:List Z1) (c:Int) (d:Int) (e:Int) (b:Unit):Option (Int×(List Z1)):=peqG (cmp105 N) N a c d e b
 
theorem jp1 :mK 178 (bX [.mtk 800000 Y6 106 false,pI,pI,pI,.clo 78 []] [pI,.mtk 800000 Y6 106 false] (c5A (jbG N))):=
 mO (fC (jaf N) ja) func178 rfl N (.seq .no (.seq .no (.seq .no (.seq (.block (.loop jnv (.block (.seq (.block (.loop jnv .no)) (.seq (.block (.loop jnv .no)) .no))))) .no)))) _ (rs:=[800000])
def jru :Sh:=⟨.mtk 800000 Y6 106 false::pI:: .dead:: .dead:: .clo 78 []::dz 7 (pI::pI::dz 164 []),[]⟩
def jcT (a:List Z1) (c:Int) (d:Int) (e:Int) (b:Unit):Option (Int×Bool×(List Z1)):=partG (cmp105 N) N a c d e b
 
theorem jrO :mK 179 (bX [.mtk 800000 Y6 106 false,pI,pI,pI,.clo 78 []] [.tup [pI,pB],.mtk 800000 Y6 106 false] (c5A (jcT N))):=
 mO (fC (jaf N) ja) func179 rfl N (.seq .no (.seq .no (.seq .no (.seq (.block (.loop jru .no)) (.seq (.block (.loop jru .no)) (.seq .no (.seq .no (.seq .no (.seq .no (.seq (.block (.loop jru (.block (.seq (.block (.loop jru .no)) (.seq (.block (.loop jru .no)) .no))))) .no)))))))))) _ (rs:=[800000])
def jmM :Sh:=⟨.mtk 800000 Y6 106 false::pI::pI::pI:: .clo 78 []::dz 5 (pB::pB::dz 136 []),[]⟩
def jnd :Sh:=⟨.mtk 800000 Y6 106 false::pI::pI::pI:: .clo 78 []::dz 5 (pB::pB::pI::pI::dz 134 []),[]⟩
def jmi :Sh:=⟨.mtk 800000 Y6 106 false::pI::pI::pI:: .clo 78 []::dz 5 (pB::pB::pI::pI::pI::dz 133 []),[]⟩
def js7 :Sh:=⟨.mtk 800000 Y6 106 false::pI::pI::pI:: .clo 78 []::dz 5 (pB::pB::pI::dz 135 []),[]⟩
def jK (N D:Nat) (f:List Z1) (a b limit:Int) (e:Unit):Option ((List Z1)):=pdqG (cmp105 N) (fun c a b d=>heapG (cmp105 N) N c a b d) (fun c a b h d=>peqG (cmp105 N) N c a b h d) N D f a b limit e
 
def jcj (N D:Nat):Model:=⟨⟨[.mtk 800000 Y6 106 false,pI,pI,pI,.clo 78 []],[]⟩,⟨[.tup [],.mtk 800000 Y6 106 false],[]⟩,c5A (jK N D)⟩
theorem jrm (N D:Nat) (ih:mK 138 (jcj N D)):mK 138 (jcj N (D+1)):=
 mO (fC ih (fC (jqw N) (fC (jqz N) (fC (jlO N) (fC (joO N) (fC (jma N) (fC (jnw N) (fC (jaf N) (fC (jp1 N) (fC (jrO N) ja)))))))))) func138 rfl N (.seq .no (.seq .no (.block (.loop jmM (.block (.seq .no (.seq .no (.seq .no (.meet js7 .no (.seq .no (.meet jmi .no (.meet jnd .no .no)))))))))))) (jcj N (D+1)) (rs:=[800000])
theorem jix (N:Nat):∀D,mK 138 (jcj N D)
 |0=>modelOk_none ⟨_,func138,by decide,by kernel_rfl⟩ _ (fun a=>rfl)
 |D+1=>jrm N D (jix N D)
def k_slices_SortFunc_105_m (a:List Z1) (d:Unit):Option ((List Z1)):=
 (oB (k_math_bits_Len_m N (IntKind.u64.wrap (a.length:Int))) fun c=>oB (jK N N a 0 (a.length:Int) c ()) fun b=>some b)
theorem jtu :mK 77 (bX [.mtk 800000 Y6 106 false,.clo 78 []] [.tup [],.mtk 800000 Y6 106 false] (c2A (k_slices_SortFunc_105_m N))):=
 mO (fC (jda N) (fC (jix N N) ja)) func77 rfl N .no _ (rs:=[800000])
def jmK :Sh:=⟨.dead:: .dead:: .box 2 0:: .dead:: .box 4 0:: .box 5 0::dz 19 (.pv Y3::pI::pI::dz 32 []),[(2,false,[.pv (.sl .str),.pv Y14]),(4,false,[.nils,.nils]),(5,false,[.pv Y3,.tre 700501 Y6 106])]⟩
def jor :Sh:=⟨.dead:: .dead:: .box 2 0:: .dead:: .box 4 0:: .box 5 0:: .dead:: .box 7 0::dz 17 (.pv Y3::pI::pI::dz 4 (.pv Y17::pI::pI::dz 25 [])),[(2,false,[.pv (.sl .str),.pv Y14]),(4,false,[.nils,.nils]),(5,false,[.pv Y3,.tre 700501 Y6 106]),(7,false,[pI,.pv Y17,.pv Y13])]⟩
def jnj :Sh:=⟨.dead:: .dead:: .box 2 0:: .dead:: .box 4 0:: .box 5 0:: .dead:: .box 7 0:: .dead:: .box 9 0::dz 15 (.pv Y3::pI::pI::dz 4 (.pv Y17::pI::pI::dz 6 (.own 600041 Y15 120 true::pI::pI::dz 16 []))),[(2,false,[.pv (.sl .str),.pv Y14]),(4,false,[.nils,.nils]),(5,false,[.pv Y3,.tre 700501 Y6 106]),(7,false,[pI,.pv Y17,.pv Y13]),(9,false,[pS,pS])]⟩
def jbT (c:List Z2) (c2:List Z4) (docs:List Z0):Z20:=
 (oB (jaj N c c2) fun r=>bif !r then some (([]:List Z0),([]:List Z1))else oB (jbf N docs) fun r2=>bif !r2 then some (([]:List Z0),([]:List Z1))else oB (jbV N docs) fun r3=>iter (fun go (t25,t26,t27,c3,c4,s,s2)=>bif decide (t27<t26)then oB (idx t25 t27) fun e=>(iter (fun go2 (t252,t262,t272,t32,t33,t34,c5,c6,s3,s4,d,d2,d3)=>bif decide (t34<t33)then oB (idx t32 t34) fun e2=>(oB (jbw N c5 c6 e2.2) fun r4=>iter (fun go3 (t253,t263,t273,t322,t332,t342,t41,t42,t43,c7,c8,s5,s6,d4,d5,d6,f,f2)=>bif decide (t43<t42)then oB (idx t41 t43) fun e3=>(oB (i_Seg_put_m N f e3.1 e3.2 d4 s5 s6) fun r5=>if fits (t43+1)then go3 (t253,t263,t273,t322,t332,t342,t41,t42,(t43+1),c7,c8,r5.1,r5.2,d4,d5,d6,f,f2)else none)else if fits (t342+1)then go2 (t253,t263,t273,t322,t332,(t342+1),c7,c8,s5,s6,d4,d5,d6)else none) N (t252,t262,t272,t32,t33,t34,r4,(r4.length:Int),(0:Int),c5,c6,s3,s4,d,d2,d3,e2.1,e2.2))else if fits (t272+1)then go (t252,t262,(t272+1),c5,c6,s3,s4)else none) N (t25,t26,t27,e.2.1,(e.2.1.length:Int),(0:Int),c3,c4,s,s2,e.1,e.2.1,e.2.2))else oB (k_slices_SortFunc_105_m N s2 ()) fun r6=>some (s,r6)) N (docs,(docs.length:Int),(0:Int),c,c2,r3,([]:List Z1)))
theorem jqC :mK 33 (bX [.agg [.pv (.sl .str),.pv Y14],.pv Y3] [.agg [.pv Y3,.own 1 Y6 106 false]] (c3A (jbT N))):=
 mO (fC (jdX N) (fC (jjU N) (fC (joC N) (fC (jgO N) (fC (jky N) (fC (jtu N) ja)))))) func33 rfl N (.seq .no (.seq .no (.seq .no (.seq (.seq .no (.block (.loop jmK (.seq .no (.seq .no (.seq (.block (.seq .no (.seq .no (.block (.loop jor (.seq .no (.seq .no (.seq (.block (.seq .no (.seq .no (.block (.loop jnj .no))))) .no)))))))) .no)))))) .no)))) _ (wr:=[23]) (dw:=[23,57])
def jtB :Sh:=⟨.pv Y19:: .pv Y19::dz 10 (pI::pI::dz 12 []),[]⟩
def jbX (b:List Int) (e:List Int):Z8:=
 (bif !decide ((b.length:Int)=(e.length:Int))then some false else iter (fun h (f,d,c,a)=>bif decide (a<c)then oB (idx f a) fun j=>(oB (idx d a) fun k=>bif !decide (j=k)then some false else if fits (a+1)then h (f,d,c,(a+1))else none)else some true) N (b,e,(b.length:Int),(0:Int)))
theorem jqi :mK 222 (bX [.pv Y19,.pv Y19] [pB] (c2A (jbX N))):=
 mO ja func222 rfl N (.seq .no (.seq .no (.seq (.seq .no (.block (.loop jtB .no))) .no))) _
def jcp (b:Int) (a:List Int) (d:Int) (e:List Int):Z8:=
 (bif decide (b=d)then oB (jbX N a e) fun c=>(some c)else some false)
theorem jth :mK 207 (bX [.agg [pI,.pv Y19],.agg [pI,.pv Y19]] [pB] (c4A (jcp N))):=
 mO (fC (jqi N) ja) func207 rfl N .no _
def jlX :Sh:=⟨.dead:: .pv Y11:: .clo 207 []::dz 12 (.pv Y11::pI::pI::dz 14 []),[]⟩
def jb6 (b:List Z5) (h:List Z5) (n:Unit):Z8:=
 (bif !decide ((b.length:Int)=(h.length:Int))then some false else iter (fun j (e,m,i,c,a)=>bif decide (a<c)then oB (idx i a) fun d=>(oB (idx e a) fun f=>oB (jcp N d.1 d.2 f.1 f.2) fun l=>bif !l then some false else if fits (a+1)then j (e,(),i,c,(a+1))else none)else some true) N (h,(),b,(b.length:Int),(0:Int)))
theorem jnG :mK 206 (bX [.pv Y11,.pv Y11,.clo 207 []] [pB] (c3A (jb6 N))):=
 mO (fC (jth N) ja) func206 rfl N (.seq .no (.seq .no (.seq (.seq .no (.block (.loop jlX .no))) .no))) _
def jcz (b:List UInt8) (a:List UInt8) (e:List Z5) (c:List UInt8) (h:List UInt8) (d:List Z5):Z8:=
 (bif decide (b=c)then bif decide (a=h)then oB (jb6 N e d ()) fun f=>(some f)else(some false)else some false)
theorem jp4 :mK 170 (bX [.agg [pS,pS,.pv Y11],.agg [pS,pS,.pv Y11]] [pB] (c6A (jcz N))):=
 mO (fC (jnG N) ja) func170 rfl N .no _
def jlD :Sh:=⟨.dead:: .pv Y5:: .clo 170 []::dz 12 (.pv Y5::pI::pI::dz 14 []),[]⟩
def jcn (d:List Z1) (h:List Z1) (n:Unit):Z8:=
 (bif !decide ((d.length:Int)=(h.length:Int))then some false else iter (fun j (f,m,i,e,a)=>bif decide (a<e)then oB (idx i a) fun b=>(oB (idx f a) fun c=>oB (jcz N b.1 b.2.1 b.2.2 c.1 c.2.1 c.2.2) fun l=>bif !l then some false else if fits (a+1)then j (f,(),i,e,(a+1))else none)else some true) N (h,(),d,(d.length:Int),(0:Int)))
theorem jsa :mK 169 (bX [.pv Y5,.pv Y5,.clo 170 []] [pB] (c3A (jcn N))):=
 mO (fC (jp4 N) ja) func169 rfl N (.seq .no (.seq .no (.seq (.seq .no (.block (.loop jlD .no))) .no))) _
def jbN (c:List Z2) (b:List Z4) (a:List Z0) (h:List Z1):Z8:=
 (oB (jaj N c b) fun i=>bif !i then some false else oB (jbf N a) fun e=>bif !e then some false else oB (jbT N c b a) fun d=>oB (jcn N d.2 h ()) fun f=>some f)
theorem joa :mK 129 (bX [.agg [.pv (.sl .str),.pv Y14],.agg [.pv Y3,.pv Y5]] [pB] (c4A (jbN N))):=
 mO (fC (jdX N) (fC (jjU N) (fC (jqC N) (fC (jsa N) ja)))) func129 rfl N .no _
def jDT :Sh:=⟨.pv Y19::dz 4 (.pv Y19::pI::pI::dz 24 []),[]⟩
def jx1 (e:List Int):Z8:=
 (iter (fun f (b,d,c,a)=>bif decide (a<c)then oB (idx d a) fun h=>(oB (jm N h 0 999999999) fun k=>bif !k then some false else bif decide ((0:Int)<a)then if fits (a-1)then oB (idx b (a-1)) fun j=>(bif decide (h<=j)then some false else if fits (a+1)then f (b,d,c,(a+1))else none)else none else if fits (a+1)then f (b,d,c,(a+1))else none)else some (decide ((b.length:Int)<=60))) N (e,e,(e.length:Int),(0:Int)))
theorem jAN :mK 130 (bX [.pv Y19] [pB] (c1A (jx1 N))):=
 mO (fC (jY N) ja) func130 rfl N (.seq .no (.seq (.seq .no (.block (.loop jDT .no))) .no)) _
def jqv :Sh:=⟨.dead::pI:: .dead:: .dead:: .box 4 0::dz 6 (.pv Y3::pI::pI::dz 10 []),[(4,false,[pI,.nils,.nils])]⟩
def i_Seg_doc_m (d:(List Z0)×(List Z1)) (k:Int):Option (Int×Z13×Z9×Bool):=
 (iter (fun h (f,e,c,b,j)=>bif decide (b<c)then oB (idx e b) fun a=>(bif decide (a.1=f)then some (a.1,a.2.1,a.2.2,true)else if fits (b+1)then h (f,e,c,(b+1),j)else none)else some (0,([]:Z12),([]:Z7),false)) N (k,d.1,(d.1.length:Int),(0:Int),(0:Int)))
theorem jlU :mK 131 (bX [.ptr Y2,pI] [.tup [.agg [pI,.pv Y17,.pv Y13],pB]] (c2A (i_Seg_doc_m N))):=
 mO ja func131 rfl N (.seq .no (.seq (.seq .no (.block (.loop jqv .no))) .no)) _
def jIP :Sh:=⟨.pv Y19::pI::dz 5 (pI::pI::dz 10 []),[]⟩
def k_slices_Index_484_m (c:List Int) (f:Int):Z11:=
 (iter (fun h (e,b,d,a)=>bif decide (a<d)then oB (idx e a) fun j=>(bif decide (b=j)then some a else if fits (a+1)then h (e,b,d,(a+1))else none)else some (-1)) N (c,f,(c.length:Int),(0:Int)))
theorem jJu :mK 150 (bX [.pv Y19,pI] [pI] (c2A (k_slices_Index_484_m N))):=
 mO ja func150 rfl N (.seq .no (.seq (.seq .no (.block (.loop jIP .no))) .no)) _
def k_slices_Contains_735_m (b:List Int) (a:Int):Z8:=
 (oB (k_slices_Index_484_m N b a) fun c=>some (decide ((0:Int)<=c)))
theorem jIT :mK 98 (bX [.pv Y19,pI] [pB] (c2A (k_slices_Contains_735_m N))):=
 mO (fC (jJu N) ja) func98 rfl N .no _
def jIi :Sh:=⟨.dead:: .box 1 0:: .dead:: .own 600003 Y4 80 false::dz 5 (.pv Y3::pI::pI::dz 15 []),[(1,false,[.pv Y3,.pv Y5,.pv Y19])]⟩
def i_Live_alive_m (c:List Z0) (n:List Z1) (l:List Int):Z15:=
 (iter (fun i (b,d,f,a,k,j,h)=>bif decide (a<f)then oB (idx d a) fun e=>(oB (k_slices_Contains_735_m N h e.1) fun o=>bif !o then if room b.length ([e]:List Z0).length 56 then if fits (a+1)then i ((b++([e]:List Z0)),d,f,(a+1),k,j,h)else none else none else if fits (a+1)then i (b,d,f,(a+1),k,j,h)else none)else some b) N (([]:List Z0),c,(c.length:Int),(0:Int),c,n,l))
theorem jH4 :mK 81 (bX [.agg [.pv Y3,.pv Y5,.pv Y19]] [.own 1 Y4 80 false] (c3A (i_Live_alive_m N))):=
 mO (fC (jIT N) ja) func81 rfl N (.seq .no (.seq .no (.seq (.seq .no (.block (.loop jIi .no))) .no))) _
def jIO :Sh:=⟨dz 3 (.box 3 0::dz 17 (.pv Y19::pI::pI::dz 16 [])),[(3,true,[.pv Y3,.pv Y5,.pv Y19])]⟩
def i_liveOk_m (t:List Z2) (l:List Z4) (f:List Z0) (h:List Z1) (a:List Int):Z8:=
 (oB (jbN N t l f h) fun r=>bif !r then some false else oB (jx1 N a) fun n=>bif !n then some false else iter (fun o (e,i,b,c,d,j)=>bif decide (b<i)then oB (idx e b) fun q=>(oB (i_Seg_doc_m N (c,d) q) fun m=>bif !m.2.2.2 then some false else if fits (b+1)then o (e,i,(b+1),c,d,j)else none)else oB (i_Live_alive_m N c d j) fun k=>some (decide ((0:Int)<k.length))) N (a,(a.length:Int),(0:Int),f,h,a))
theorem jJD :mK 71 (bX [.agg [.pv (.sl .str),.pv Y14],.agg [.pv Y3,.pv Y5,.pv Y19]] [pB] (c5A (i_liveOk_m N))):=
 mO (fC (joa N) (fC (jAN N) (fC (jlU N) (fC (jH4 N) ja)))) func71 rfl N (.seq .no (.seq .no (.seq (.seq .no (.block (.loop jIO .no))) .no))) _
def k_cmp_isNaN_538_m (N:Nat) (a:Int):Z8:=
 (some (!decide (a=a)))
theorem joK :mK 142 (bX [pI] [pB] (c1A (k_cmp_isNaN_538_m N))):=
 mO ja func142 rfl N .no _
def k_cmp_Compare_992_m (a:Int) (b:Int):Z11:=
 (oB (k_cmp_isNaN_538_m N a) fun d=>oB (k_cmp_isNaN_538_m N b) fun c=>bif d then bif c then some 0 else(some (-1))else bif c then some 1 else bif decide (a<b)then some (-1)else bif decide (b<a)then some 1 else some 0)
theorem jpP :mK 84 (bX [pI,pI] [pI] (c2A (k_cmp_Compare_992_m N))):=
 mO (fC (joK N) ja) func84 rfl N .no _
def i_allAlive_1_m (a:Int) (d:Z12) (f:Z7) (b:Int) (h:Z12) (e:Z7):Z11:=
 (oB (k_cmp_Compare_992_m N a b) fun c=>some c)
theorem jHC :mK 83 (bX [.agg [pI,.pv Y17,.pv Y13],.agg [pI,.pv Y17,.pv Y13]] [pI] (c6A (i_allAlive_1_m N))):=
 mO (fC (jpP N) ja) func83 rfl N .no _
def cmp669 (N:Nat):(Unit)->Z0->Z0->Option Int:=(fun(cmp:Unit) (e e2:Int×Z13×Z9)=>i_allAlive_1_m N e.1 e.2.1 e.2.2 e2.1 e2.2.1 e2.2.2)
def jIw :Sh:=⟨.mtk 800000 Y4 80 false::pI::pI:: .clo 83 []::dz 4 (pI::dz 44 []),[]⟩
def jJn :Sh:=⟨.mtk 800000 Y4 80 false::pI::pI:: .clo 83 []::dz 4 (pI::pI::dz 43 []),[]⟩
def jJk (a:List Z0) (c:Int) (d:Int) (b:Unit):Z15:=insG (cmp669 N) N a c d b
 
theorem jIC :mK 182 (bX [.mtk 800000 Y4 80 false,pI,pI,.clo 83 []] [.tup [],.mtk 800000 Y4 80 false] (c4A (jJk N))):=
 mO (fC (jHC N) ja) func182 rfl N (.seq .no (.block (.loop jIw (.seq .no (.seq (.block (.seq .no (.block (.loop jJn .no)))) .no))))) _ (rs:=[800000])
def jI7 :Sh:=⟨.mtk 800000 Y4 80 false:: .dead::pI::pI:: .clo 83 []::dz 5 (pI::dz 71 []),[]⟩
def jJE :Sh:=⟨.mtk 800000 Y4 80 false:: .dead::pI::pI:: .clo 83 []::dz 5 (pI::pI::dz 70 []),[]⟩
def jJr (a:List Z0) (e:Int) (b:Int) (d:Int) (c:Unit):Z15:=siftG (cmp669 N) N a e b d c
 
theorem jIA :mK 213 (bX [.mtk 800000 Y4 80 false,pI,pI,pI,.clo 83 []] [.tup [],.mtk 800000 Y4 80 false] (c5A (jJr N))):=
 mO (fC (jHC N) ja) func213 rfl N (.seq .no (.block (.loop jI7 (.block (.seq .no (.seq .no (.meet jJE .no .no))))))) _ (rs:=[800000])
def jH9 :Sh:=⟨.mtk 800000 Y4 80 false:: .dead:: .dead:: .clo 83 []::dz 4 (pI::pI::pI::pI::dz 48 []),[]⟩
def jIK :Sh:=⟨.mtk 800000 Y4 80 false:: .dead:: .dead:: .clo 83 []::dz 4 (pI::pI:: .dead:: .dead::pI::dz 47 []),[]⟩
def jIj (a:List Z0) (c:Int) (d:Int) (b:Unit):Z15:=heapG (cmp669 N) N a c d b
 
theorem jJa :mK 183 (bX [.mtk 800000 Y4 80 false,pI,pI,.clo 83 []] [.tup [],.mtk 800000 Y4 80 false] (c4A (jIj N))):=
 mO (fC (jIA N) ja) func183 rfl N (.seq .no (.seq .no (.seq .no (.seq (.seq .no (.block (.loop jH9 .no))) (.seq .no (.block (.loop jIK .no))))))) _ (rs:=[800000])
def jH6 :Sh:=⟨.mtk 800000 Y4 80 false::pI::dz 6 (pI:: .box 9 0:: .pv (.int .u64)::pI::dz 55 []),[(9,false,[.pv (.int .u64)])]⟩
def jJm :Sh:=⟨.mtk 800000 Y4 80 false::pI::dz 6 (pI:: .box 9 0:: .pv (.int .u64)::pI::pI::dz 54 []),[(9,false,[.pv (.int .u64)])]⟩
def jI4 (a:List Z0) (c:Int) (d:Int) (b:Unit):Z15:=breakG N a c d b
 
theorem jIs :mK 184 (bX [.mtk 800000 Y4 80 false,pI,pI,.clo 83 []] [.tup [],.mtk 800000 Y4 80 false] (c4A (jI4 N))):=
 mO (fC (jhv N) (fC (jet N) ja)) func184 rfl N (.seq .no (.seq .no (.cond (.seq .no (.seq .no (.seq .no (.block (.loop jH6 (.seq .no (.seq (.block (.seq .no (.meet jJm .no .no))) .no))))))) .no))) _ (rs:=[800000])
def jJC (a:List Z0) (c:Int) (d:Int) (b:Unit) (e:Int):Option (Int×Int×(List Z0)×Int):=order2G (cmp669 N) N a c d b e
 
theorem jIo :mK 224 ⟨⟨[.mtk 800000 Y4 80 false,pI,pI,.box 900003 0,.clo 83 []],[(900003,false,[pI])]⟩,⟨[.tup [pI,pI],.mtk 800000 Y4 80 false],[(900003,false,[pI])]⟩,c5A (jJC N)⟩:=
 mO (fC (jHC N) ja) func224 rfl N .no _ (rs:=[900003,800000])
def jII (a:List Z0) (d:Int) (e:Int) (c:Int) (b:Unit) (f:Int):Option (Int×(List Z0)×Int):=medianG (cmp669 N) N a d e c b f
 
theorem jHQ :mK 215 ⟨⟨[.mtk 800000 Y4 80 false,pI,pI,pI,.box 900004 0,.clo 83 []],[(900004,false,[pI])]⟩,⟨[pI,.mtk 800000 Y4 80 false],[(900004,false,[pI])]⟩,c6A (jII N)⟩:=
 mO (fC (jIo N) ja) func215 rfl N .no _ (rs:=[900004,800000])
def jIn (a:List Z0) (c:Int) (b:Unit) (d:Int):Option (Int×(List Z0)×Int):=medianAdjacentG (cmp669 N) N a c b d
 
theorem jI9 :mK 214 ⟨⟨[.mtk 800000 Y4 80 false,pI,.box 900002 0,.clo 83 []],[(900002,false,[pI])]⟩,⟨[pI,.mtk 800000 Y4 80 false],[(900002,false,[pI])]⟩,c4A (jIn N)⟩:=
 mO (fC (jHQ N) ja) func214 rfl N .no _ (rs:=[900002,800000])
def jJw :Sh:=⟨.mtk 800000 Y4 80 false:: .dead:: .dead:: .clo 83 []::dz 7 (.box 11 0::pI::pI::pI::dz 48 []),[(11,false,[pI])]⟩
def jI6 :Sh:=⟨.mtk 800000 Y4 80 false::dz 10 (.box 11 0:: .dead::pI::dz 49 []),[(11,false,[pI])]⟩
def jIq (a:List Z0) (c:Int) (d:Int) (b:Unit):Option (Int×Int×(List Z0)):=choosePivotG (cmp669 N) N a c d b
 
theorem jJz :mK 185 (bX [.mtk 800000 Y4 80 false,pI,pI,.clo 83 []] [.tup [pI,pI],.mtk 800000 Y4 80 false] (c4A (jIq N))):=
 mO (fC (jI9 N) (fC (jHQ N) ja)) func185 rfl N (.seq .no (.seq .no (.seq .no (.seq .no (.seq .no (.seq .no (.meet jI6 (.seq .no (.cond (.meet jJw .no .no) .no)) .no))))))) _ (rs:=[800000])
def jJB :Sh:=⟨.mtk 800000 Y4 80 false::dz 7 (pI::pI::dz 24 []),[]⟩
def jJs (a:List Z0) (c:Int) (d:Int) (b:Unit):Z15:=reverseRangeG N a c d b
 
theorem jIk :mK 186 (bX [.mtk 800000 Y4 80 false,pI,pI,.clo 83 []] [.tup [],.mtk 800000 Y4 80 false] (c4A (jJs N))):=
 mO ja func186 rfl N (.seq .no (.seq .no (.block (.loop jJB .no)))) _ (rs:=[800000])
def jHL :Sh:=⟨.mtk 800000 Y4 80 false::pI::pI:: .clo 83 []::dz 5 (pI::pI::dz 130 []),[]⟩
def jJh :Sh:=⟨.mtk 800000 Y4 80 false::pI::pI:: .clo 83 []::dz 5 (pI::pI::pI::dz 129 []),[]⟩
def jIF :Sh:=⟨.mtk 800000 Y4 80 false::pI::pI:: .clo 83 []::dz 5 (pI::pI:: .dead::pI::dz 128 []),[]⟩
def jIx (a:List Z0) (c:Int) (d:Int) (b:Unit):Option (Bool×(List Z0)):=pisG (cmp669 N) N a c d b
 
theorem jI1 :mK 187 (bX [.mtk 800000 Y4 80 false,pI,pI,.clo 83 []] [pB,.mtk 800000 Y4 80 false] (c4A (jIx N))):=
 mO (fC (jHC N) ja) func187 rfl N (.seq .no (.seq .no (.seq (.seq .no (.block (.loop jHL (.seq .no (.seq (.block (.seq (.block (.loop jHL .no)) (.seq .no (.seq .no (.seq .no (.meet jHL (.seq .no (.cond (.seq .no (.block (.loop jJh .no))) .no)) (.seq .no (.cond (.seq .no (.block (.loop jIF .no))) .no)))))))) .no))))) .no))) _ (rs:=[800000])
def jHK :Sh:=⟨.mtk 800000 Y4 80 false::pI:: .dead:: .dead:: .clo 83 []::dz 6 (pI::pI::dz 77 []),[]⟩
def jIh (a:List Z0) (c:Int) (d:Int) (e:Int) (b:Unit):Option (Int×(List Z0)):=peqG (cmp669 N) N a c d e b
 
theorem jH7 :mK 188 (bX [.mtk 800000 Y4 80 false,pI,pI,pI,.clo 83 []] [pI,.mtk 800000 Y4 80 false] (c5A (jIh N))):=
 mO (fC (jHC N) ja) func188 rfl N (.seq .no (.seq .no (.seq .no (.seq (.block (.loop jHK (.block (.seq (.block (.loop jHK .no)) (.seq (.block (.loop jHK .no)) .no))))) .no)))) _ (rs:=[800000])
def jHD :Sh:=⟨.mtk 800000 Y4 80 false::pI:: .dead:: .dead:: .clo 83 []::dz 7 (pI::pI::dz 164 []),[]⟩
def jIZ (a:List Z0) (c:Int) (d:Int) (e:Int) (b:Unit):Option (Int×Bool×(List Z0)):=partG (cmp669 N) N a c d e b
 
theorem jJc :mK 189 (bX [.mtk 800000 Y4 80 false,pI,pI,pI,.clo 83 []] [.tup [pI,pB],.mtk 800000 Y4 80 false] (c5A (jIZ N))):=
 mO (fC (jHC N) ja) func189 rfl N (.seq .no (.seq .no (.seq .no (.seq (.block (.loop jHD .no)) (.seq (.block (.loop jHD .no)) (.seq .no (.seq .no (.seq .no (.seq .no (.seq (.block (.loop jHD (.block (.seq (.block (.loop jHD .no)) (.seq (.block (.loop jHD .no)) .no))))) .no)))))))))) _ (rs:=[800000])
def jIv :Sh:=⟨.mtk 800000 Y4 80 false::pI::pI::pI:: .clo 83 []::dz 5 (pB::pB::dz 136 []),[]⟩
def jIt :Sh:=⟨.mtk 800000 Y4 80 false::pI::pI::pI:: .clo 83 []::dz 5 (pB::pB::pI::pI::dz 134 []),[]⟩
def jIU :Sh:=⟨.mtk 800000 Y4 80 false::pI::pI::pI:: .clo 83 []::dz 5 (pB::pB::pI::pI::pI::dz 133 []),[]⟩
def jID :Sh:=⟨.mtk 800000 Y4 80 false::pI::pI::pI:: .clo 83 []::dz 5 (pB::pB::pI::dz 135 []),[]⟩
def jHN (N D:Nat) (f:List Z0) (a b limit:Int) (e:Unit):Z15:=pdqG (cmp669 N) (fun c a b d=>heapG (cmp669 N) N c a b d) (fun c a b h d=>peqG (cmp669 N) N c a b h d) N D f a b limit e
 
def jHF (N D:Nat):Model:=⟨⟨[.mtk 800000 Y4 80 false,pI,pI,pI,.clo 83 []],[]⟩,⟨[.tup [],.mtk 800000 Y4 80 false],[]⟩,c5A (jHN N D)⟩
theorem jJo (N D:Nat) (ih:mK 141 (jHF N D)):mK 141 (jHF N (D+1)):=
 mO (fC ih (fC (jIC N) (fC (jJa N) (fC (jIs N) (fC (jJz N) (fC (jIk N) (fC (jI1 N) (fC (jHC N) (fC (jH7 N) (fC (jJc N) ja)))))))))) func141 rfl N (.seq .no (.seq .no (.block (.loop jIv (.block (.seq .no (.seq .no (.seq .no (.meet jID .no (.seq .no (.meet jIU .no (.meet jIt .no .no)))))))))))) (jHF N (D+1)) (rs:=[800000])
theorem jHV (N:Nat):∀D,mK 141 (jHF N D)
 |0=>modelOk_none ⟨_,func141,by decide,by kernel_rfl⟩ _ (fun a=>rfl)
 |D+1=>jJo N D (jHV N D)
def k_slices_SortFunc_669_m (a:List Z0) (d:Unit):Z15:=
 (oB (k_math_bits_Len_m N (IntKind.u64.wrap (a.length:Int))) fun c=>oB (jHN N N a 0 (a.length:Int) c ()) fun b=>some b)
theorem jIu :mK 82 (bX [.mtk 800000 Y4 80 false,.clo 83 []] [.tup [],.mtk 800000 Y4 80 false] (c2A (k_slices_SortFunc_669_m N))):=
 mO (fC (jda N) (fC (jHV N N) ja)) func82 rfl N .no _ (rs:=[800000])
def jH5 :Sh:=⟨dz 3 (.mtk 600003 Y4 80 false::dz 3 (.pv Y0::pI::pI::dz 11 [])),[]⟩
def i_allAlive_m (f:List Z3):Z15:=
 (iter (fun j (c,d,e,a)=>bif decide (a<e)then oB (idx d a) fun b=>(oB (i_Live_alive_m N b.1.1 b.1.2 b.2) fun h=>if room c.length h.length 56 then if fits (a+1)then j ((c++h),d,e,(a+1))else none else none)else oB (k_slices_SortFunc_669_m N c ()) fun i=>some i) N (([]:List Z0),f,(f.length:Int),(0:Int)))
theorem jHR :mK 34 (bX [.pv Y0] [.own 1 Y4 80 false] (c1A (i_allAlive_m N))):=
 mO (fC (jH4 N) (fC (jIu N) ja)) func34 rfl N (.seq .no (.seq .no (.seq (.seq .no (.block (.loop jH5 .no))) .no))) _ (wr:=[6,16])
def jIf :Sh:=⟨.dead:: .box 1 0::dz 14 (.pv Y0::pI::pI::dz 13 []),[(1,false,[.pv (.sl .str),.pv Y14,.pv Y0])]⟩
def i_IndexOk_m (j:List Z2) (f:List Z4) (b:List Z3):Z8:=
 (oB (jaj N j f) fun q=>bif !q then some false else bif decide ((5:Int)<b.length)then some false else iter (fun n (e,k,a,h,i,d)=>bif decide (a<k)then oB (idx e a) fun c=>(oB (i_liveOk_m N h i c.1.1 c.1.2 c.2) fun m=>bif !m then some false else if fits (a+1)then n (e,k,(a+1),h,i,d)else none)else oB (i_allAlive_m N d) fun l=>oB (jbf N l) fun p=>some p) N (b,(b.length:Int),(0:Int),j,f,b))
theorem jIr :mK 30 (bX [.agg [.pv (.sl .str),.pv Y14,.pv Y0]] [pB] (c3A (i_IndexOk_m N))):=
 mO (fC (jdX N) (fC (jJD N) (fC (jHR N) (fC (jjU N) ja)))) func30 rfl N (.seq .no (.seq .no (.seq (.seq .no (.block (.loop jIf .no))) .no))) _
def jM7 :Sh:=⟨.dead:: .dead:: .box 2 0:: .box 3 0::dz 9 (.pv Y14::pI::pI::dz 17 []),[(2,false,[.nils,.nils]),(3,false,[.own 700300 .str 9 true,.own 700301 Y16 156 true])]⟩
def i_cloneConf_m (i:List Z2) (h:List Z4):Option ((List Z2)×(List Z4)):=
 (if room ([]:List Z2).length i.length 16 then iter (fun j (f,e,b,d,c)=>bif decide (b<e)then oB (idx f b) fun a=>(if room ([]:List Z2).length a.1.length 16 then if room c.length ([((([]:List Z2)++a.1),a.2)]:List Z4).length 40 then if fits (b+1)then j (f,e,(b+1),d,(c++([((([]:List Z2)++a.1),a.2)]:List Z4)))else none else none else none)else some (d,c)) N (h,(h.length:Int),(0:Int),(([]:List Z2)++i),([]:List Z4))else none)
theorem jLo :mK 72 (bX [.agg [.pv (.sl .str),.pv Y14]] [.agg [.own 1 .str 9 true,.own 2 Y16 156 true]] (c2A (i_cloneConf_m N))):=
 mO ja func72 rfl N (.seq .no (.seq .no (.seq (.seq .no (.block (.loop jM7 .no))) .no))) _
def jLd :Sh:=⟨.dead:: .dead:: .box 2 0:: .box 3 0::dz 18 (.pv Y5::pI::pI::dz 37 []),[(2,false,[.nils,.nils,.nils]),(3,false,[.own 700300 Y4 80 true,.own 700301 Y6 106 true,.own 700302 tI 3 true])]⟩
def jMw :Sh:=⟨.dead:: .dead:: .box 2 0:: .box 3 0:: .dead:: .box 5 0:: .own 600006 Y12 164 true::dz 15 (.pv Y5::pI::pI::dz 5 (.pv Y11::pI::pI::dz 29 [])),[(2,false,[.nils,.nils,.nils]),(3,false,[.own 700300 Y4 80 true,.own 700301 Y6 106 true,.own 700302 tI 3 true]),(5,false,[pS,pS,.pv Y11])]⟩
def i_cloneLive_m (z:List Z0) (u:List Z1) (l:List Int):Option ((List Z0)×(List Z1)×(List Int)):=
 (oB (jbV N z) fun D=>if room ([]:List Int).length l.length 8 then iter (fun A (y,o,e,x,n,p)=>bif decide (e<o)then oB (idx y e) fun a=>(iter (fun C (c,r,q,f,v,m,d,w,h,t,k,i,B)=>bif decide (d<m)then oB (idx v d) fun b=>(if room ([]:List Int).length b.2.length 8 then if room c.length ([(b.1,(([]:List Int)++b.2))]:List Z5).length 32 then if fits (d+1)then C ((c++([(b.1,(([]:List Int)++b.2))]:List Z5)),r,q,f,v,m,(d+1),w,h,t,k,i,B)else none else none else none)else if room h.length ([(k,i,c)]:List Z1).length 56 then if fits (f+1)then A (r,q,(f+1),w,(h++([(k,i,c)]:List Z1)),t)else none else none) N (([]:List Z5),y,o,e,a.2.2,(a.2.2.length:Int),(0:Int),x,n,p,a.1,a.2.1,a.2.2))else some (x,n,p)) N (u,(u.length:Int),(0:Int),D,([]:List Z1),(([]:List Int)++l))else none)
theorem jLF :mK 73 (bX [.agg [.pv Y3,.pv Y5,.pv Y19]] [.agg [.own 1 Y4 80 true,.own 2 Y6 106 true,.own 3 tI 3 true]] (c3A (i_cloneLive_m N))):=
 mO (fC (joC N) ja) func73 rfl N (.seq .no (.seq .no (.seq (.seq .no (.block (.loop jLd (.seq .no (.seq .no (.seq (.block (.seq .no (.seq .no (.seq (.seq .no (.block (.loop jMw .no))) .no)))) .no)))))) .no))) _
def jM3 :Sh:=⟨.dead:: .dead:: .box 2 0:: .box 3 0::dz 8 (.pv Y0::pI::pI::dz 12 []),[(2,false,[.nils,.nils,.nils]),(3,false,[.own 700300 .str 9 true,.own 700301 Y16 156 true,.own 700302 Y1 62 true])]⟩
def i_cloneIndex_m (o:List Z2) (n:List Z4) (i:List Z3):Z18:=
 (oB (i_cloneConf_m N o n) fun j=>iter (fun l (e,k,b,h,f,d)=>bif decide (b<k)then oB (idx e b) fun c=>(oB (i_cloneLive_m N c.1.1 c.1.2 c.2) fun a=>if room d.length ([((a.1,a.2.1),a.2.2)]:List Z3).length 72 then if fits (b+1)then l (e,k,(b+1),h,f,(d++([((a.1,a.2.1),a.2.2)]:List Z3)))else none else none)else some (h,f,d)) N (i,(i.length:Int),(0:Int),j.1,j.2,([]:List Z3)))
theorem jLT :mK 31 (bX [.agg [.pv (.sl .str),.pv Y14,.pv Y0]] [.agg [.own 1 .str 9 true,.own 2 Y16 156 true,.own 3 Y1 62 true]] (c3A (i_cloneIndex_m N))):=
 mO (fC (jLo N) (fC (jLF N) ja)) func31 rfl N (.seq .no (.seq .no (.seq (.seq .no (.block (.loop jM3 .no))) .no))) _
def jLs :Sh:=⟨.mtk 800000 tI 3 true::pI::dz 5 (pI::pI::dz 10 []),[]⟩
def k_slices_Index_484_v2_m (d:List Int) (f:Int):Option Z5:=
 (iter (fun h (b,c,e,a)=>bif decide (a<e)then if 0<=a/\a<(b.length:Int)then oB (b[a.toNat]?) fun j=>(bif decide (c=j)then some (a,b)else if fits (a+1)then h (b,c,e,(a+1))else none)else none else some ((-1),b)) N (d,f,(d.length:Int),(0:Int)))
theorem jLH :mK 150 (bX [.mtk 800000 tI 3 true,pI] [pI,.mtk 800000 tI 3 true] (c2A (k_slices_Index_484_v2_m N))):=
 mO ja func150 rfl N (.seq .no (.seq (.seq .no (.block (.loop jLs .no))) .no)) _ (rs:=[800000])
def k_slices_Contains_735_v2_m (c:List Int) (b:Int):Option (Bool×(List Int)):=
 (oB (k_slices_Index_484_v2_m N c b) fun a=>some ((decide ((0:Int)<=a.1)),a.2))
theorem jLe :mK 98 (bX [.mtk 800000 tI 3 true,pI] [pB,.mtk 800000 tI 3 true] (c2A (k_slices_Contains_735_v2_m N))):=
 mO (fC (jLH N) ja) func98 rfl N .no _ (rs:=[800000])
def jMu :Sh:=⟨.dead:: .box 1 0:: .dead:: .own 600003 Y4 80 false::dz 5 (.pv Y3::pI::pI::dz 15 []),[(1,false,[.pv Y3,.pv Y5,.mtk 800002 tI 3 true])]⟩
def i_Live_alive_v2_m (c:List Z0) (o:List Z1) (m:List Int):Option ((List Z0)×(List Int)):=
 (iter (fun i (b,d,f,a,l,j,k)=>bif decide (a<f)then oB (idx d a) fun e=>(oB (k_slices_Contains_735_v2_m N k e.1) fun h=>bif !h.1 then if room b.length ([e]:List Z0).length 56 then if fits (a+1)then i ((b++([e]:List Z0)),d,f,(a+1),l,j,h.2)else none else none else if fits (a+1)then i (b,d,f,(a+1),l,j,h.2)else none)else some (b,k)) N (([]:List Z0),c,(c.length:Int),(0:Int),c,o,m))
theorem jLZ :mK 81 (bX [.agg [.pv Y3,.pv Y5,.mtk 800002 tI 3 true]] [.own 1 Y4 80 false,.mtk 800002 tI 3 true] (c3A (i_Live_alive_v2_m N))):=
 mO (fC (jLe N) ja) func81 rfl N (.seq .no (.seq .no (.seq (.seq .no (.block (.loop jMu .no))) .no))) _ (rs:=[800002])
def k_cmp_Less_67_m (a:Int) (b:Int):Z8:=
 (oB (k_cmp_isNaN_538_m N a) fun d=>bif d then oB (k_cmp_isNaN_538_m N b) fun c=>(bif !c then some true else some (decide (a<b)))else some (decide (a<b)))
theorem jA5 :mK 197 (bX [pI,pI] [pB] (c2A (k_cmp_Less_67_m N))):=
 mO (fC (joK N) ja) func197 rfl N .no _
def jMa :Sh:=⟨.mtk 800000 tI 3 true::pI::pI::dz 3 (pI::dz 42 []),[]⟩
def jMW :Sh:=⟨.mtk 800000 tI 3 true::pI::pI::dz 3 (pI::pI::dz 41 []),[]⟩
def jKD (o:List Int) (i:Int) (n:Int):Z17:=
 (if fits (i+1)then iter (fun l (m,t,k,e)=>bif decide (e<k)then iter (fun r (b,d,f,c,a)=>bif decide (d<a)then if 0<=a/\a<(b.length:Int)then oB (b[a.toNat]?) fun q=>(if fits (a-1)then if 0<=(a-1)/\(a-1)<(b.length:Int)then oB (b[(a-1).toNat]?) fun u=>(oB (k_cmp_Less_67_m N q u) fun v=>bif v then if fits (a-1)then if fits (a-1)then if 0<=(a-1)/\(a-1)<(b.length:Int)then oB (b[(a-1).toNat]?) fun h=>(if 0<=a/\a<(b.length:Int)then oB (b[a.toNat]?) fun p=>(if 0<=a/\a<(b.length:Int)then oB (b[a.toNat]?) fun x=>(if 0<=(a-1)/\(a-1)<((b.set a.toNat h).length:Int)then oB ((b.set a.toNat h)[(a-1).toNat]?) fun w=>(if fits (a-1)then r (((b.set a.toNat h).set (a-1).toNat p),d,f,c,(a-1))else none)else none)else none)else none)else none else none else none else if fits (c+1)then l (b,d,f,(c+1))else none)else none else none)else none else if fits (c+1)then l (b,d,f,(c+1))else none) N (m,t,k,e,e)else some m) N (o,i,n,(i+1))else none)
theorem jMr :mK 191 (bX [.mtk 800000 tI 3 true,pI,pI] [.tup [],.mtk 800000 tI 3 true] (c3A (jKD N))):=
 mO (fC (jA5 N) ja) func191 rfl N (.seq .no (.block (.loop jMa (.seq .no (.seq (.block (.seq .no (.block (.loop jMW .no)))) .no))))) _ (rs:=[800000])
def jLj :Sh:=⟨.mtk 800000 tI 3 true:: .dead::pI::pI::dz 4 (pI::dz 67 []),[]⟩
def jMO :Sh:=⟨.mtk 800000 tI 3 true:: .dead::pI::pI::dz 4 (pI::pI::dz 66 []),[]⟩
def jKh (o:List Int) (x:Int) (m:Int) (n:Int):Z17:=
 (iter (fun v (h,i,f,b)=>if fits (2*b)then if fits ((2*b)+1)then bif decide (i<=((2*b)+1))then some h else(meet (fun(k:Z14)=>match k with|(e,q,a,c,d)=>if fits (a+c)then if 0<=(a+c)/\(a+c)<(e.length:Int)then oB (e[(a+c).toNat]?) fun u=>(if fits (a+d)then if 0<=(a+d)/\(a+d)<(e.length:Int)then oB (e[(a+d).toNat]?) fun t=>(oB (k_cmp_Less_67_m N u t) fun r=>bif !r then some e else if fits (a+c)then if fits (a+d)then if fits (a+d)then if 0<=(a+d)/\(a+d)<(e.length:Int)then oB (e[(a+d).toNat]?) fun l=>(if fits (a+c)then if 0<=(a+c)/\(a+c)<(e.length:Int)then oB (e[(a+c).toNat]?) fun p=>(if 0<=(a+c)/\(a+c)<(e.length:Int)then oB (e[(a+c).toNat]?) fun A=>(if 0<=(a+d)/\(a+d)<((e.set (a+c).toNat l).length:Int)then oB ((e.set (a+c).toNat l)[(a+d).toNat]?) fun B=>(v (((e.set (a+c).toNat l).set (a+d).toNat p),q,a,d))else none)else none)else none else none)else none else none else none else none)else none else none)else none else none) fun j=>if fits (((2*b)+1)+1)then bif decide ((((2*b)+1)+1)<i)then if fits (f+((2*b)+1))then if 0<=(f+((2*b)+1))/\(f+((2*b)+1))<(h.length:Int)then oB (h[(f+((2*b)+1)).toNat]?) fun w=>(if fits (f+((2*b)+1))then if fits ((f+((2*b)+1))+1)then if 0<=((f+((2*b)+1))+1)/\((f+((2*b)+1))+1)<(h.length:Int)then oB (h[((f+((2*b)+1))+1).toNat]?) fun y=>(oB (k_cmp_Less_67_m N w y) fun z=>bif z then if fits (((2*b)+1)+1)then j (h,i,f,b,(((2*b)+1)+1))else none else j (h,i,f,b,((2*b)+1)))else none else none else none)else none else none else(j (h,i,f,b,((2*b)+1)))else none)else none else none) N (o,m,n,x))
theorem jMR :mK 217 (bX [.mtk 800000 tI 3 true,pI,pI,pI] [.tup [],.mtk 800000 tI 3 true] (c4A (jKh N))):=
 mO (fC (jA5 N) ja) func217 rfl N (.seq .no (.block (.loop jLj (.block (.seq .no (.seq .no (.meet jMO .no .no))))))) _ (rs:=[800000])
def jNf :Sh:=⟨.mtk 800000 tI 3 true::dz 5 (pI::pI::pI::pI::dz 46 []),[]⟩
def jNc :Sh:=⟨.mtk 800000 tI 3 true::dz 5 (pI::pI:: .dead:: .dead::pI::dz 45 []),[]⟩
def jKw (o:List Int) (d:Int) (e:Int):Z17:=
 (if fits (e-d)then if fits ((e-d)-1)then if 2≠0 then if fits (((e-d)-1).tdiv 2)then iter (fun q (n,i,m,h,f)=>bif decide ((0:Int)<=f)then oB (jKh N n f h i) fun u=>(if fits (f-1)then q (u,i,m,h,(f-1))else none)else if fits (h-1)then iter (fun r (c,a,l,b)=>bif decide ((0:Int)<=b)then if fits (a+b)then if fits (a+b)then if 0<=(a+b)/\(a+b)<(c.length:Int)then oB (c[(a+b).toNat]?) fun j=>(if 0<=a/\a<(c.length:Int)then oB (c[a.toNat]?) fun t=>(if 0<=a/\a<(c.length:Int)then oB (c[a.toNat]?) fun v=>(if 0<=(a+b)/\(a+b)<((c.set a.toNat j).length:Int)then oB ((c.set a.toNat j)[(a+b).toNat]?) fun w=>(oB (jKh N ((c.set a.toNat j).set (a+b).toNat t) l b a) fun p=>if fits (b-1)then r (p,a,l,(b-1))else none)else none)else none)else none)else none else none else none else some c) N (n,i,m,(h-1))else none) N (o,d,(0:Int),(e-d),(((e-d)-1).tdiv 2))else none else none else none else none)
theorem jLI :mK 192 (bX [.mtk 800000 tI 3 true,pI,pI] [.tup [],.mtk 800000 tI 3 true] (c3A (jKw N))):=
 mO (fC (jMR N) ja) func192 rfl N (.seq .no (.seq .no (.seq .no (.seq (.seq .no (.block (.loop jNf .no))) (.seq .no (.block (.loop jNc .no))))))) _ (rs:=[800000])
def jKY :Sh:=⟨.mtk 800000 tI 3 true::pI::dz 4 (pI:: .box 7 0:: .pv (.int .u64)::pI::dz 55 []),[(7,false,[.pv (.int .u64)])]⟩
def jMt :Sh:=⟨.mtk 800000 tI 3 true::pI::dz 4 (pI:: .box 7 0:: .pv (.int .u64)::pI::pI::dz 54 []),[(7,false,[.pv (.int .u64)])]⟩
def jKH (p:List Int) (a:Int) (c:Int):Z17:=
 (if fits (c-a)then bif decide ((8:Int)<=(c-a))then oB (k_slices_nextPowerOfTwo_m N (c-a)) fun y=>(if 4≠0 then if fits ((c-a).tdiv 4)then if fits (((c-a).tdiv 4)*2)then if fits (a+(((c-a).tdiv 4)*2))then if fits ((a+(((c-a).tdiv 4)*2))-1)then iter (fun v (o,k,d,i,l,r)=>if 4≠0 then if fits (d.tdiv 4)then if fits ((d.tdiv 4)*2)then if fits (k+((d.tdiv 4)*2))then if fits ((k+((d.tdiv 4)*2))+1)then bif decide (l<=((k+((d.tdiv 4)*2))+1))then oB (k__slices_xorshift_Next_m N r) fun j=>(meet (fun(m:(List Int)×Int×Int×Int×Int×Int×Int)=>match m with|(h,e,x,u,b,f,t)=>if fits (e+f)then if fits (e+f)then if 0<=(e+f)/\(e+f)<(h.length:Int)then oB (h[(e+f).toNat]?) fun n=>(if 0<=b/\b<(h.length:Int)then oB (h[b.toNat]?) fun w=>(if 0<=b/\b<(h.length:Int)then oB (h[b.toNat]?) fun z=>(if 0<=(e+f)/\(e+f)<((h.set b.toNat n).length:Int)then oB ((h.set b.toNat n)[(e+f).toNat]?) fun A=>(if fits (b+1)then v (((h.set b.toNat n).set (e+f).toNat w),e,x,u,(b+1),t)else none)else none)else none)else none)else none else none else none) fun q=>bif decide (d<=(IntKind.i64.wrap (bitsI .and .u64 j.1 (IntKind.u64.wrap (i-1)))))then if fits ((IntKind.i64.wrap (bitsI .and .u64 j.1 (IntKind.u64.wrap (i-1))))-d)then q (o,k,d,i,l,((IntKind.i64.wrap (bitsI .and .u64 j.1 (IntKind.u64.wrap (i-1))))-d),j.2)else none else q (o,k,d,i,l,(IntKind.i64.wrap (bitsI .and .u64 j.1 (IntKind.u64.wrap (i-1)))),j.2))else(some o)else none else none else none else none else none) N (p,a,(c-a),y,((a+(((c-a).tdiv 4)*2))-1),(IntKind.u64.wrap (c-a)))else none else none else none else none else none)else(some p)else none)
theorem jMF :mK 193 (bX [.mtk 800000 tI 3 true,pI,pI] [.tup [],.mtk 800000 tI 3 true] (c3A (jKH N))):=
 mO (fC (jhv N) (fC (jet N) ja)) func193 rfl N (.seq .no (.seq .no (.cond (.seq .no (.seq .no (.seq .no (.block (.loop jKY (.seq .no (.seq (.block (.seq .no (.meet jMt .no .no))) .no))))))) .no))) _ (rs:=[800000])
def jJ7 (a:List Int) (b:Int) (c:Int) (d:Int):Option (Int×Int×(List Int)×Int):=
 (if 0<=c/\c<(a.length:Int)then oB (a[c.toNat]?) fun e=>(if 0<=b/\b<(a.length:Int)then oB (a[b.toNat]?) fun f=>(oB (k_cmp_Less_67_m N e f) fun h=>bif h then if fits (d+1)then some (c,b,a,(d+1))else none else some (b,c,a,d))else none)else none)
theorem jLg :mK 226 ⟨⟨[.mtk 800000 tI 3 true,pI,pI,.box 900003 0],[(900003,false,[pI])]⟩,⟨[.tup [pI,pI],.mtk 800000 tI 3 true],[(900003,false,[pI])]⟩,c4A (jJ7 N)⟩:=
 mO (fC (jA5 N) ja) func226 rfl N .no _ (rs:=[900003,800000])
def jKl (h:List Int) (e:Int) (f:Int) (d:Int) (i:Int):Option (Int×(List Int)×Int):=
 (oB (jJ7 N h e f i) fun a=>oB (jJ7 N a.2.2.1 a.2.1 d a.2.2.2) fun c=>oB (jJ7 N c.2.2.1 a.1 c.1 c.2.2.2) fun b=>some (b.2.1,b.2.2.1,b.2.2.2))
theorem jKO :mK 219 ⟨⟨[.mtk 800000 tI 3 true,pI,pI,pI,.box 900004 0],[(900004,false,[pI])]⟩,⟨[pI,.mtk 800000 tI 3 true],[(900004,false,[pI])]⟩,c5A (jKl N)⟩:=
 mO (fC (jLg N) ja) func219 rfl N .no _ (rs:=[900004,800000])
def jKb (c:List Int) (a:Int) (d:Int):Option (Int×(List Int)×Int):=
 (if fits (a-1)then if fits (a+1)then oB (jKl N c (a-1) a (a+1) d) fun b=>(some (b.1,b.2.1,b.2.2))else none else none)
theorem jLb :mK 218 ⟨⟨[.mtk 800000 tI 3 true,pI,.box 900002 0],[(900002,false,[pI])]⟩,⟨[pI,.mtk 800000 tI 3 true],[(900002,false,[pI])]⟩,c3A (jKb N)⟩:=
 mO (fC (jKO N) ja) func218 rfl N .no _ (rs:=[900002,800000])
def jLc :Sh:=⟨.mtk 800000 tI 3 true::dz 8 (.box 9 0::pI::pI::pI::dz 44 []),[(9,false,[pI])]⟩
def jM6 :Sh:=⟨.mtk 800000 tI 3 true::dz 8 (.box 9 0:: .dead::pI::dz 45 []),[(9,false,[pI])]⟩
def jKT (c:List Int) (a:Int) (b:Int):Option (Int×Int×(List Int)):=
 (if fits (b-a)then if 4≠0 then if fits ((b-a).tdiv 4)then if fits (((b-a).tdiv 4)*1)then if fits (a+(((b-a).tdiv 4)*1))then if 4≠0 then if fits ((b-a).tdiv 4)then if fits (((b-a).tdiv 4)*2)then if fits (a+(((b-a).tdiv 4)*2))then if 4≠0 then if fits ((b-a).tdiv 4)then if fits (((b-a).tdiv 4)*3)then if fits (a+(((b-a).tdiv 4)*3))then meet (fun(h:(List Int)×Int×Int)=>match h with|(k,i,n)=>bif decide (n=0)then some (i,1,k)else bif decide (n=12)then some (i,2,k)else some (i,0,k)) fun l=>(bif decide ((8:Int)<=(b-a))then meet (fun(h:Z14)=>match h with|(r,o,t,p,q)=>oB (jKl N r o t p q) fun d=>l (d.2.1,d.1,d.2.2)) fun m=>(bif decide ((50:Int)<=(b-a))then oB (jKb N c (a+(((b-a).tdiv 4)*1)) 0) fun j=>(oB (jKb N j.2.1 (a+(((b-a).tdiv 4)*2)) j.2.2) fun f=>oB (jKb N f.2.1 (a+(((b-a).tdiv 4)*3)) f.2.2) fun e=>m (e.2.1,j.1,f.1,e.1,e.2.2))else m (c,(a+(((b-a).tdiv 4)*1)),(a+(((b-a).tdiv 4)*2)),(a+(((b-a).tdiv 4)*3)),0))else l (c,(a+(((b-a).tdiv 4)*2)),0))else none else none else none else none else none else none else none else none else none else none else none else none else none)
theorem jMB :mK 194 (bX [.mtk 800000 tI 3 true,pI,pI] [.tup [pI,pI],.mtk 800000 tI 3 true] (c3A (jKT N))):=
 mO (fC (jLb N) (fC (jKO N) ja)) func194 rfl N (.seq .no (.seq .no (.seq .no (.seq .no (.seq .no (.seq .no (.meet jM6 (.seq .no (.cond (.meet jLc .no .no) .no)) .no))))))) _ (rs:=[800000])
def jLt :Sh:=⟨.mtk 800000 tI 3 true::dz 5 (pI::pI::dz 24 []),[]⟩
def jKC (j:List Int) (h:Int) (e:Int):Z17:=
 (if fits (e-1)then iter (fun f (b,a,c)=>bif decide (a<c)then if 0<=c/\c<(b.length:Int)then oB (b[c.toNat]?) fun d=>(if 0<=a/\a<(b.length:Int)then oB (b[a.toNat]?) fun k=>(if 0<=a/\a<(b.length:Int)then oB (b[a.toNat]?) fun l=>(if 0<=c/\c<((b.set a.toNat d).length:Int)then oB ((b.set a.toNat d)[c.toNat]?) fun m=>(if fits (a+1)then if fits (c-1)then f (((b.set a.toNat d).set c.toNat k),(a+1),(c-1))else none else none)else none)else none)else none)else none else some b) N (j,h,(e-1))else none)
theorem jLn :mK 195 (bX [.mtk 800000 tI 3 true,pI,pI] [.tup [],.mtk 800000 tI 3 true] (c3A (jKC N))):=
 mO ja func195 rfl N (.seq .no (.seq .no (.block (.loop jLt .no)))) _ (rs:=[800000])
def jKk :Sh:=⟨.mtk 800000 tI 3 true::pI::pI::dz 4 (pI::pI::dz 124 []),[]⟩
def jMz :Sh:=⟨.mtk 800000 tI 3 true::pI::pI::dz 4 (pI::pI::pI::dz 123 []),[]⟩
def jMq :Sh:=⟨.mtk 800000 tI 3 true::pI::pI::dz 4 (pI::pI:: .dead::pI::dz 122 []),[]⟩
def jKt (data:List Int) (a:Int) (b:Int):Option (Bool×(List Int)):=
 (if fits (a+1)then iter (fun go (data2,a2,b2,i,j)=>bif decide (j<5)then iter (fun go2 (data3,a3,b3,i2,j2)=>bif decide (i2<b3)then if 0<=i2/\i2<(data3.length:Int)then oB (data3[i2.toNat]?) fun e=>(if fits (i2-1)then if 0<=(i2-1)/\(i2-1)<(data3.length:Int)then oB (data3[(i2-1).toNat]?) fun e2=>(oB (k_cmp_Less_67_m N e e2) fun r=>bif !r then if fits (i2+1)then go2 (data3,a3,b3,(i2+1),j2)else none else bif decide (i2=b3)then some (true,data3)else if fits (b3-a3)then bif decide ((b3-a3)<50)then some (false,data3)else(if fits (i2-1)then if fits (i2-1)then if 0<=(i2-1)/\(i2-1)<(data3.length:Int)then oB (data3[(i2-1).toNat]?) fun e3=>(if 0<=i2/\i2<(data3.length:Int)then oB (data3[i2.toNat]?) fun e4=>(if 0<=i2/\i2<(data3.length:Int)then oB (data3[i2.toNat]?) fun e5=>(if 0<=(i2-1)/\(i2-1)<((data3.set i2.toNat e3).length:Int)then oB ((data3.set i2.toNat e3)[(i2-1).toNat]?) fun e6=>(meet (fun(g:Z14)=>match g with|(data5,a5,b5,i4,j5)=>if fits (b5-i4)then bif decide ((2:Int)<=(b5-i4))then if fits (i4+1)then iter (fun go4 (data6,a6,b6,i5,j6,j7)=>bif decide (j7<b6)then if 0<=j7/\j7<(data6.length:Int)then oB (data6[j7.toNat]?) fun e13=>(if fits (j7-1)then if 0<=(j7-1)/\(j7-1)<(data6.length:Int)then oB (data6[(j7-1).toNat]?) fun e14=>(oB (k_cmp_Less_67_m N e13 e14) fun r3=>bif !r3 then if fits (j6+1)then go (data6,a6,b6,i5,(j6+1))else none else if fits (j7-1)then if fits (j7-1)then if 0<=(j7-1)/\(j7-1)<(data6.length:Int)then oB (data6[(j7-1).toNat]?) fun e15=>(if 0<=j7/\j7<(data6.length:Int)then oB (data6[j7.toNat]?) fun e16=>(if 0<=j7/\j7<(data6.length:Int)then oB (data6[j7.toNat]?) fun e17=>(if 0<=(j7-1)/\(j7-1)<((data6.set j7.toNat e15).length:Int)then oB ((data6.set j7.toNat e15)[(j7-1).toNat]?) fun e18=>(if fits (j7+1)then go4 (((data6.set j7.toNat e15).set (j7-1).toNat e16),a6,b6,i5,j6,(j7+1))else none)else none)else none)else none)else none else none else none)else none else none)else none else if fits (j6+1)then go (data6,a6,b6,i5,(j6+1))else none) N (data5,a5,b5,i4,j5,(i4+1))else none else(if fits (j5+1)then go (data5,a5,b5,i4,(j5+1))else none)else none) fun J=>if fits (i2-a3)then bif decide ((2:Int)<=(i2-a3))then if fits (i2-1)then iter (fun go3 (data4,a4,b4,i3,j3,j4)=>bif decide ((1:Int)<=j4)then if 0<=j4/\j4<(data4.length:Int)then oB (data4[j4.toNat]?) fun e7=>(if fits (j4-1)then if 0<=(j4-1)/\(j4-1)<(data4.length:Int)then oB (data4[(j4-1).toNat]?) fun e8=>(oB (k_cmp_Less_67_m N e7 e8) fun r2=>bif !r2 then J (data4,a4,b4,i3,j3)else if fits (j4-1)then if fits (j4-1)then if 0<=(j4-1)/\(j4-1)<(data4.length:Int)then oB (data4[(j4-1).toNat]?) fun e9=>(if 0<=j4/\j4<(data4.length:Int)then oB (data4[j4.toNat]?) fun e10=>(if 0<=j4/\j4<(data4.length:Int)then oB (data4[j4.toNat]?) fun e11=>(if 0<=(j4-1)/\(j4-1)<((data4.set j4.toNat e9).length:Int)then oB ((data4.set j4.toNat e9)[(j4-1).toNat]?) fun e12=>(if fits (j4-1)then go3 (((data4.set j4.toNat e9).set (j4-1).toNat e10),a4,b4,i3,j3,(j4-1))else none)else none)else none)else none)else none else none else none)else none else none)else none else J (data4,a4,b4,i3,j3)) N (((data3.set i2.toNat e3).set (i2-1).toNat e4),a3,b3,i2,j2,(i2-1))else none else(J (((data3.set i2.toNat e3).set (i2-1).toNat e4),a3,b3,i2,j2))else none)else none)else none)else none)else none else none else none)else none)else none else none)else none else bif decide (i2=b3)then some (true,data3)else if fits (b3-a3)then bif decide ((b3-a3)<50)then some (false,data3)else(if fits (i2-1)then if fits (i2-1)then if 0<=(i2-1)/\(i2-1)<(data3.length:Int)then oB (data3[(i2-1).toNat]?) fun e19=>(if 0<=i2/\i2<(data3.length:Int)then oB (data3[i2.toNat]?) fun e20=>(if 0<=i2/\i2<(data3.length:Int)then oB (data3[i2.toNat]?) fun e21=>(if 0<=(i2-1)/\(i2-1)<((data3.set i2.toNat e19).length:Int)then oB ((data3.set i2.toNat e19)[(i2-1).toNat]?) fun e22=>(meet (fun(g:Z14)=>match g with|(data8,a8,b8,i7,j10)=>if fits (b8-i7)then bif decide ((2:Int)<=(b8-i7))then if fits (i7+1)then iter (fun go6 (data9,a9,b9,i8,j11,j12)=>bif decide (j12<b9)then if 0<=j12/\j12<(data9.length:Int)then oB (data9[j12.toNat]?) fun e29=>(if fits (j12-1)then if 0<=(j12-1)/\(j12-1)<(data9.length:Int)then oB (data9[(j12-1).toNat]?) fun e30=>(oB (k_cmp_Less_67_m N e29 e30) fun r5=>bif !r5 then if fits (j11+1)then go (data9,a9,b9,i8,(j11+1))else none else if fits (j12-1)then if fits (j12-1)then if 0<=(j12-1)/\(j12-1)<(data9.length:Int)then oB (data9[(j12-1).toNat]?) fun e31=>(if 0<=j12/\j12<(data9.length:Int)then oB (data9[j12.toNat]?) fun e32=>(if 0<=j12/\j12<(data9.length:Int)then oB (data9[j12.toNat]?) fun e33=>(if 0<=(j12-1)/\(j12-1)<((data9.set j12.toNat e31).length:Int)then oB ((data9.set j12.toNat e31)[(j12-1).toNat]?) fun e34=>(if fits (j12+1)then go6 (((data9.set j12.toNat e31).set (j12-1).toNat e32),a9,b9,i8,j11,(j12+1))else none)else none)else none)else none)else none else none else none)else none else none)else none else if fits (j11+1)then go (data9,a9,b9,i8,(j11+1))else none) N (data8,a8,b8,i7,j10,(i7+1))else none else(if fits (j10+1)then go (data8,a8,b8,i7,(j10+1))else none)else none) fun J2=>if fits (i2-a3)then bif decide ((2:Int)<=(i2-a3))then if fits (i2-1)then iter (fun go5 (data7,a7,b7,i6,j8,j9)=>bif decide ((1:Int)<=j9)then if 0<=j9/\j9<(data7.length:Int)then oB (data7[j9.toNat]?) fun e23=>(if fits (j9-1)then if 0<=(j9-1)/\(j9-1)<(data7.length:Int)then oB (data7[(j9-1).toNat]?) fun e24=>(oB (k_cmp_Less_67_m N e23 e24) fun r4=>bif !r4 then J2 (data7,a7,b7,i6,j8)else if fits (j9-1)then if fits (j9-1)then if 0<=(j9-1)/\(j9-1)<(data7.length:Int)then oB (data7[(j9-1).toNat]?) fun e25=>(if 0<=j9/\j9<(data7.length:Int)then oB (data7[j9.toNat]?) fun e26=>(if 0<=j9/\j9<(data7.length:Int)then oB (data7[j9.toNat]?) fun e27=>(if 0<=(j9-1)/\(j9-1)<((data7.set j9.toNat e25).length:Int)then oB ((data7.set j9.toNat e25)[(j9-1).toNat]?) fun e28=>(if fits (j9-1)then go5 (((data7.set j9.toNat e25).set (j9-1).toNat e26),a7,b7,i6,j8,(j9-1))else none)else none)else none)else none)else none else none else none)else none else none)else none else J2 (data7,a7,b7,i6,j8)) N (((data3.set i2.toNat e19).set (i2-1).toNat e20),a3,b3,i2,j2,(i2-1))else none else(J2 (((data3.set i2.toNat e19).set (i2-1).toNat e20),a3,b3,i2,j2))else none)else none)else none)else none)else none else none else none)else none) N (data2,a2,b2,i,j)else some (false,data2)) N (data,a,b,(a+1),(0:Int))else none)
theorem jMH :mK 196 (bX [.mtk 800000 tI 3 true,pI,pI] [pB,.mtk 800000 tI 3 true] (c3A (jKt N))):=
 mO (fC (jA5 N) ja) func196 rfl N (.seq .no (.seq .no (.seq (.seq .no (.block (.loop jKk (.seq .no (.seq (.block (.seq (.block (.loop jKk .no)) (.seq .no (.seq .no (.seq .no (.meet jKk (.seq .no (.cond (.seq .no (.block (.loop jMz .no))) .no)) (.seq .no (.cond (.seq .no (.block (.loop jMq .no))) .no)))))))) .no))))) .no))) _ (rs:=[800000])
def jKf :Sh:=⟨.mtk 800000 tI 3 true::pI::dz 7 (pI::pI::dz 73 []),[]⟩
def jKu (i:List Int) (h:Int) (y:Int) (k:Int):Option Z5:=
 (if 0<=k/\k<(i.length:Int)then oB (i[k.toNat]?) fun x=>(if 0<=h/\h<(i.length:Int)then oB (i[h.toNat]?) fun V=>(if 0<=h/\h<(i.length:Int)then oB (i[h.toNat]?) fun ad=>(if 0<=k/\k<((i.set h.toNat x).length:Int)then oB ((i.set h.toNat x)[k.toNat]?) fun ac=>(if fits (h+1)then if fits (y-1)then iter (fun q (I,U,P,O)=>iter (fun G (m,p,j,r)=>bif decide (j<=r)then if 0<=p/\p<(m.length:Int)then oB (m[p.toNat]?) fun W=>(if 0<=j/\j<(m.length:Int)then oB (m[j.toNat]?) fun A=>(oB (k_cmp_Less_67_m N W A) fun L=>bif !L then if fits (j+1)then G (m,p,(j+1),r)else none else iter (fun H (f,o,b,d)=>bif decide (b<=d)then if 0<=o/\o<(f.length:Int)then oB (f[o.toNat]?) fun C=>(if 0<=d/\d<(f.length:Int)then oB (f[d.toNat]?) fun X=>(oB (k_cmp_Less_67_m N C X) fun T=>bif T then if fits (d-1)then H (f,o,b,(d-1))else none else bif decide (d<b)then some (b,f)else if 0<=d/\d<(f.length:Int)then oB (f[d.toNat]?) fun t=>(if 0<=b/\b<(f.length:Int)then oB (f[b.toNat]?) fun S=>(if 0<=b/\b<(f.length:Int)then oB (f[b.toNat]?) fun af=>(if 0<=d/\d<((f.set b.toNat t).length:Int)then oB ((f.set b.toNat t)[d.toNat]?) fun ai=>(if fits (b+1)then if fits (d-1)then q (((f.set b.toNat t).set d.toNat S),o,(b+1),(d-1))else none else none)else none)else none)else none)else none)else none)else none else bif decide (d<b)then some (b,f)else if 0<=d/\d<(f.length:Int)then oB (f[d.toNat]?) fun v=>(if 0<=b/\b<(f.length:Int)then oB (f[b.toNat]?) fun B=>(if 0<=b/\b<(f.length:Int)then oB (f[b.toNat]?) fun aa=>(if 0<=d/\d<((f.set b.toNat v).length:Int)then oB ((f.set b.toNat v)[d.toNat]?) fun ag=>(if fits (b+1)then if fits (d-1)then q (((f.set b.toNat v).set d.toNat B),o,(b+1),(d-1))else none else none)else none)else none)else none)else none) N (m,p,j,r))else none)else none else iter (fun Q (e,n,a,c)=>bif decide (a<=c)then if 0<=n/\n<(e.length:Int)then oB (e[n.toNat]?) fun K=>(if 0<=c/\c<(e.length:Int)then oB (e[c.toNat]?) fun R=>(oB (k_cmp_Less_67_m N K R) fun D=>bif D then if fits (c-1)then Q (e,n,a,(c-1))else none else bif decide (c<a)then some (a,e)else if 0<=c/\c<(e.length:Int)then oB (e[c.toNat]?) fun u=>(if 0<=a/\a<(e.length:Int)then oB (e[a.toNat]?) fun E=>(if 0<=a/\a<(e.length:Int)then oB (e[a.toNat]?) fun aj=>(if 0<=c/\c<((e.set a.toNat u).length:Int)then oB ((e.set a.toNat u)[c.toNat]?) fun ae=>(if fits (a+1)then if fits (c-1)then q (((e.set a.toNat u).set c.toNat E),n,(a+1),(c-1))else none else none)else none)else none)else none)else none)else none)else none else bif decide (c<a)then some (a,e)else if 0<=c/\c<(e.length:Int)then oB (e[c.toNat]?) fun w=>(if 0<=a/\a<(e.length:Int)then oB (e[a.toNat]?) fun z=>(if 0<=a/\a<(e.length:Int)then oB (e[a.toNat]?) fun ah=>(if 0<=c/\c<((e.set a.toNat w).length:Int)then oB ((e.set a.toNat w)[c.toNat]?) fun ab=>(if fits (a+1)then if fits (c-1)then q (((e.set a.toNat w).set c.toNat z),n,(a+1),(c-1))else none else none)else none)else none)else none)else none) N (m,p,j,r)) N (I,U,P,O)) N (((i.set h.toNat x).set k.toNat V),h,(h+1),(y-1))else none else none)else none)else none)else none)else none)
theorem jMs :mK 198 (bX [.mtk 800000 tI 3 true,pI,pI,pI] [pI,.mtk 800000 tI 3 true] (c4A (jKu N))):=
 mO (fC (jA5 N) ja) func198 rfl N (.seq .no (.seq .no (.seq .no (.seq (.block (.loop jKf (.block (.seq (.block (.loop jKf .no)) (.seq (.block (.loop jKf .no)) .no))))) .no)))) _ (rs:=[800000])
def jJV :Sh:=⟨.mtk 800000 tI 3 true::pI::dz 8 (pI::pI::dz 156 []),[]⟩
def jKo (data:List Int) (a:Int) (b:Int) (pivot:Int):Option (Int×Bool×(List Int)):=
 (if 0<=pivot/\pivot<(data.length:Int)then oB (data[pivot.toNat]?) fun e=>(if 0<=a/\a<(data.length:Int)then oB (data[a.toNat]?) fun e2=>(if 0<=a/\a<(data.length:Int)then oB (data[a.toNat]?) fun e3=>(if 0<=pivot/\pivot<((data.set a.toNat e).length:Int)then oB ((data.set a.toNat e)[pivot.toNat]?) fun e4=>(if fits (a+1)then if fits (b-1)then iter (fun go (data2,a2,i,j)=>bif decide (i<=j)then if 0<=i/\i<(data2.length:Int)then oB (data2[i.toNat]?) fun e5=>(if 0<=a2/\a2<(data2.length:Int)then oB (data2[a2.toNat]?) fun e6=>(oB (k_cmp_Less_67_m N e5 e6) fun r=>bif r then if fits (i+1)then go (data2,a2,(i+1),j)else none else iter (fun go2 (data3,a3,i2,j2)=>bif decide (i2<=j2)then if 0<=j2/\j2<(data3.length:Int)then oB (data3[j2.toNat]?) fun e7=>(if 0<=a3/\a3<(data3.length:Int)then oB (data3[a3.toNat]?) fun e8=>(oB (k_cmp_Less_67_m N e7 e8) fun r2=>bif !r2 then if fits (j2-1)then go2 (data3,a3,i2,(j2-1))else none else bif decide (j2<i2)then if 0<=a3/\a3<(data3.length:Int)then oB (data3[a3.toNat]?) fun e9=>(if 0<=j2/\j2<(data3.length:Int)then oB (data3[j2.toNat]?) fun e10=>(if 0<=j2/\j2<(data3.length:Int)then oB (data3[j2.toNat]?) fun e11=>(if 0<=a3/\a3<((data3.set j2.toNat e9).length:Int)then oB ((data3.set j2.toNat e9)[a3.toNat]?) fun e12=>(some (j2,true,((data3.set j2.toNat e9).set a3.toNat e10)))else none)else none)else none)else none else if 0<=j2/\j2<(data3.length:Int)then oB (data3[j2.toNat]?) fun e13=>(if 0<=i2/\i2<(data3.length:Int)then oB (data3[i2.toNat]?) fun e14=>(if 0<=i2/\i2<(data3.length:Int)then oB (data3[i2.toNat]?) fun e15=>(if 0<=j2/\j2<((data3.set i2.toNat e13).length:Int)then oB ((data3.set i2.toNat e13)[j2.toNat]?) fun e16=>(if fits (i2+1)then if fits (j2-1)then iter (fun go3 (data4,a4,i3,j3)=>iter (fun go4 (data5,a5,i4,j4)=>bif decide (i4<=j4)then if 0<=i4/\i4<(data5.length:Int)then oB (data5[i4.toNat]?) fun e17=>(if 0<=a5/\a5<(data5.length:Int)then oB (data5[a5.toNat]?) fun e18=>(oB (k_cmp_Less_67_m N e17 e18) fun r3=>bif r3 then if fits (i4+1)then go4 (data5,a5,(i4+1),j4)else none else iter (fun go5 (data6,a6,i5,j5)=>bif decide (i5<=j5)then if 0<=j5/\j5<(data6.length:Int)then oB (data6[j5.toNat]?) fun e19=>(if 0<=a6/\a6<(data6.length:Int)then oB (data6[a6.toNat]?) fun e20=>(oB (k_cmp_Less_67_m N e19 e20) fun r4=>bif !r4 then if fits (j5-1)then go5 (data6,a6,i5,(j5-1))else none else bif decide (j5<i5)then if 0<=a6/\a6<(data6.length:Int)then oB (data6[a6.toNat]?) fun e21=>(if 0<=j5/\j5<(data6.length:Int)then oB (data6[j5.toNat]?) fun e22=>(if 0<=j5/\j5<(data6.length:Int)then oB (data6[j5.toNat]?) fun e23=>(if 0<=a6/\a6<((data6.set j5.toNat e21).length:Int)then oB ((data6.set j5.toNat e21)[a6.toNat]?) fun e24=>(some (j5,false,((data6.set j5.toNat e21).set a6.toNat e22)))else none)else none)else none)else none else if 0<=j5/\j5<(data6.length:Int)then oB (data6[j5.toNat]?) fun e25=>(if 0<=i5/\i5<(data6.length:Int)then oB (data6[i5.toNat]?) fun e26=>(if 0<=i5/\i5<(data6.length:Int)then oB (data6[i5.toNat]?) fun e27=>(if 0<=j5/\j5<((data6.set i5.toNat e25).length:Int)then oB ((data6.set i5.toNat e25)[j5.toNat]?) fun e28=>(if fits (i5+1)then if fits (j5-1)then go3 (((data6.set i5.toNat e25).set j5.toNat e26),a6,(i5+1),(j5-1))else none else none)else none)else none)else none)else none)else none)else none else bif decide (j5<i5)then if 0<=a6/\a6<(data6.length:Int)then oB (data6[a6.toNat]?) fun e29=>(if 0<=j5/\j5<(data6.length:Int)then oB (data6[j5.toNat]?) fun e30=>(if 0<=j5/\j5<(data6.length:Int)then oB (data6[j5.toNat]?) fun e31=>(if 0<=a6/\a6<((data6.set j5.toNat e29).length:Int)then oB ((data6.set j5.toNat e29)[a6.toNat]?) fun e32=>(some (j5,false,((data6.set j5.toNat e29).set a6.toNat e30)))else none)else none)else none)else none else if 0<=j5/\j5<(data6.length:Int)then oB (data6[j5.toNat]?) fun e33=>(if 0<=i5/\i5<(data6.length:Int)then oB (data6[i5.toNat]?) fun e34=>(if 0<=i5/\i5<(data6.length:Int)then oB (data6[i5.toNat]?) fun e35=>(if 0<=j5/\j5<((data6.set i5.toNat e33).length:Int)then oB ((data6.set i5.toNat e33)[j5.toNat]?) fun e36=>(if fits (i5+1)then if fits (j5-1)then go3 (((data6.set i5.toNat e33).set j5.toNat e34),a6,(i5+1),(j5-1))else none else none)else none)else none)else none)else none) N (data5,a5,i4,j4))else none)else none else iter (fun go6 (data7,a7,i6,j6)=>bif decide (i6<=j6)then if 0<=j6/\j6<(data7.length:Int)then oB (data7[j6.toNat]?) fun e37=>(if 0<=a7/\a7<(data7.length:Int)then oB (data7[a7.toNat]?) fun e38=>(oB (k_cmp_Less_67_m N e37 e38) fun r5=>bif !r5 then if fits (j6-1)then go6 (data7,a7,i6,(j6-1))else none else bif decide (j6<i6)then if 0<=a7/\a7<(data7.length:Int)then oB (data7[a7.toNat]?) fun e39=>(if 0<=j6/\j6<(data7.length:Int)then oB (data7[j6.toNat]?) fun e40=>(if 0<=j6/\j6<(data7.length:Int)then oB (data7[j6.toNat]?) fun e41=>(if 0<=a7/\a7<((data7.set j6.toNat e39).length:Int)then oB ((data7.set j6.toNat e39)[a7.toNat]?) fun e42=>(some (j6,false,((data7.set j6.toNat e39).set a7.toNat e40)))else none)else none)else none)else none else if 0<=j6/\j6<(data7.length:Int)then oB (data7[j6.toNat]?) fun e43=>(if 0<=i6/\i6<(data7.length:Int)then oB (data7[i6.toNat]?) fun e44=>(if 0<=i6/\i6<(data7.length:Int)then oB (data7[i6.toNat]?) fun e45=>(if 0<=j6/\j6<((data7.set i6.toNat e43).length:Int)then oB ((data7.set i6.toNat e43)[j6.toNat]?) fun e46=>(if fits (i6+1)then if fits (j6-1)then go3 (((data7.set i6.toNat e43).set j6.toNat e44),a7,(i6+1),(j6-1))else none else none)else none)else none)else none)else none)else none)else none else bif decide (j6<i6)then if 0<=a7/\a7<(data7.length:Int)then oB (data7[a7.toNat]?) fun e47=>(if 0<=j6/\j6<(data7.length:Int)then oB (data7[j6.toNat]?) fun e48=>(if 0<=j6/\j6<(data7.length:Int)then oB (data7[j6.toNat]?) fun e49=>(if 0<=a7/\a7<((data7.set j6.toNat e47).length:Int)then oB ((data7.set j6.toNat e47)[a7.toNat]?) fun e50=>(some (j6,false,((data7.set j6.toNat e47).set a7.toNat e48)))else none)else none)else none)else none else if 0<=j6/\j6<(data7.length:Int)then oB (data7[j6.toNat]?) fun e51=>(if 0<=i6/\i6<(data7.length:Int)then oB (data7[i6.toNat]?) fun e52=>(if 0<=i6/\i6<(data7.length:Int)then oB (data7[i6.toNat]?) fun e53=>(if 0<=j6/\j6<((data7.set i6.toNat e51).length:Int)then oB ((data7.set i6.toNat e51)[j6.toNat]?) fun e54=>(if fits (i6+1)then if fits (j6-1)then go3 (((data7.set i6.toNat e51).set j6.toNat e52),a7,(i6+1),(j6-1))else none else none)else none)else none)else none)else none) N (data5,a5,i4,j4)) N (data4,a4,i3,j3)) N (((data3.set i2.toNat e13).set j2.toNat e14),a3,(i2+1),(j2-1))else none else none)else none)else none)else none)else none)else none)else none else bif decide (j2<i2)then if 0<=a3/\a3<(data3.length:Int)then oB (data3[a3.toNat]?) fun e55=>(if 0<=j2/\j2<(data3.length:Int)then oB (data3[j2.toNat]?) fun e56=>(if 0<=j2/\j2<(data3.length:Int)then oB (data3[j2.toNat]?) fun e57=>(if 0<=a3/\a3<((data3.set j2.toNat e55).length:Int)then oB ((data3.set j2.toNat e55)[a3.toNat]?) fun e58=>(some (j2,true,((data3.set j2.toNat e55).set a3.toNat e56)))else none)else none)else none)else none else if 0<=j2/\j2<(data3.length:Int)then oB (data3[j2.toNat]?) fun e59=>(if 0<=i2/\i2<(data3.length:Int)then oB (data3[i2.toNat]?) fun e60=>(if 0<=i2/\i2<(data3.length:Int)then oB (data3[i2.toNat]?) fun e61=>(if 0<=j2/\j2<((data3.set i2.toNat e59).length:Int)then oB ((data3.set i2.toNat e59)[j2.toNat]?) fun e62=>(if fits (i2+1)then if fits (j2-1)then iter (fun go7 (data8,a8,i7,j7)=>iter (fun go8 (data9,a9,i8,j8)=>bif decide (i8<=j8)then if 0<=i8/\i8<(data9.length:Int)then oB (data9[i8.toNat]?) fun e63=>(if 0<=a9/\a9<(data9.length:Int)then oB (data9[a9.toNat]?) fun e64=>(oB (k_cmp_Less_67_m N e63 e64) fun r6=>bif r6 then if fits (i8+1)then go8 (data9,a9,(i8+1),j8)else none else iter (fun go9 (data10,a10,i9,j9)=>bif decide (i9<=j9)then if 0<=j9/\j9<(data10.length:Int)then oB (data10[j9.toNat]?) fun e65=>(if 0<=a10/\a10<(data10.length:Int)then oB (data10[a10.toNat]?) fun e66=>(oB (k_cmp_Less_67_m N e65 e66) fun r7=>bif !r7 then if fits (j9-1)then go9 (data10,a10,i9,(j9-1))else none else bif decide (j9<i9)then if 0<=a10/\a10<(data10.length:Int)then oB (data10[a10.toNat]?) fun e67=>(if 0<=j9/\j9<(data10.length:Int)then oB (data10[j9.toNat]?) fun e68=>(if 0<=j9/\j9<(data10.length:Int)then oB (data10[j9.toNat]?) fun e69=>(if 0<=a10/\a10<((data10.set j9.toNat e67).length:Int)then oB ((data10.set j9.toNat e67)[a10.toNat]?) fun e70=>(some (j9,false,((data10.set j9.toNat e67).set a10.toNat e68)))else none)else none)else none)else none else if 0<=j9/\j9<(data10.length:Int)then oB (data10[j9.toNat]?) fun e71=>(if 0<=i9/\i9<(data10.length:Int)then oB (data10[i9.toNat]?) fun e72=>(if 0<=i9/\i9<(data10.length:Int)then oB (data10[i9.toNat]?) fun e73=>(if 0<=j9/\j9<((data10.set i9.toNat e71).length:Int)then oB ((data10.set i9.toNat e71)[j9.toNat]?) fun e74=>(if fits (i9+1)then if fits (j9-1)then go7 (((data10.set i9.toNat e71).set j9.toNat e72),a10,(i9+1),(j9-1))else none else none)else none)else none)else none)else none)else none)else none else bif decide (j9<i9)then if 0<=a10/\a10<(data10.length:Int)then oB (data10[a10.toNat]?) fun e75=>(if 0<=j9/\j9<(data10.length:Int)then oB (data10[j9.toNat]?) fun e76=>(if 0<=j9/\j9<(data10.length:Int)then oB (data10[j9.toNat]?) fun e77=>(if 0<=a10/\a10<((data10.set j9.toNat e75).length:Int)then oB ((data10.set j9.toNat e75)[a10.toNat]?) fun e78=>(some (j9,false,((data10.set j9.toNat e75).set a10.toNat e76)))else none)else none)else none)else none else if 0<=j9/\j9<(data10.length:Int)then oB (data10[j9.toNat]?) fun e79=>(if 0<=i9/\i9<(data10.length:Int)then oB (data10[i9.toNat]?) fun e80=>(if 0<=i9/\i9<(data10.length:Int)then oB (data10[i9.toNat]?) fun e81=>(if 0<=j9/\j9<((data10.set i9.toNat e79).length:Int)then oB ((data10.set i9.toNat e79)[j9.toNat]?) fun e82=>(if fits (i9+1)then if fits (j9-1)then go7 (((data10.set i9.toNat e79).set j9.toNat e80),a10,(i9+1),(j9-1))else none else none)else none)else none)else none)else none) N (data9,a9,i8,j8))else none)else none else iter (fun go10 (data11,a11,i10,j10)=>bif decide (i10<=j10)then if 0<=j10/\j10<(data11.length:Int)then oB (data11[j10.toNat]?) fun e83=>(if 0<=a11/\a11<(data11.length:Int)then oB (data11[a11.toNat]?) fun e84=>(oB (k_cmp_Less_67_m N e83 e84) fun r8=>bif !r8 then if fits (j10-1)then go10 (data11,a11,i10,(j10-1))else none else bif decide (j10<i10)then if 0<=a11/\a11<(data11.length:Int)then oB (data11[a11.toNat]?) fun e85=>(if 0<=j10/\j10<(data11.length:Int)then oB (data11[j10.toNat]?) fun e86=>(if 0<=j10/\j10<(data11.length:Int)then oB (data11[j10.toNat]?) fun e87=>(if 0<=a11/\a11<((data11.set j10.toNat e85).length:Int)then oB ((data11.set j10.toNat e85)[a11.toNat]?) fun e88=>(some (j10,false,((data11.set j10.toNat e85).set a11.toNat e86)))else none)else none)else none)else none else if 0<=j10/\j10<(data11.length:Int)then oB (data11[j10.toNat]?) fun e89=>(if 0<=i10/\i10<(data11.length:Int)then oB (data11[i10.toNat]?) fun e90=>(if 0<=i10/\i10<(data11.length:Int)then oB (data11[i10.toNat]?) fun e91=>(if 0<=j10/\j10<((data11.set i10.toNat e89).length:Int)then oB ((data11.set i10.toNat e89)[j10.toNat]?) fun e92=>(if fits (i10+1)then if fits (j10-1)then go7 (((data11.set i10.toNat e89).set j10.toNat e90),a11,(i10+1),(j10-1))else none else none)else none)else none)else none)else none)else none)else none else bif decide (j10<i10)then if 0<=a11/\a11<(data11.length:Int)then oB (data11[a11.toNat]?) fun e93=>(if 0<=j10/\j10<(data11.length:Int)then oB (data11[j10.toNat]?) fun e94=>(if 0<=j10/\j10<(data11.length:Int)then oB (data11[j10.toNat]?) fun e95=>(if 0<=a11/\a11<((data11.set j10.toNat e93).length:Int)then oB ((data11.set j10.toNat e93)[a11.toNat]?) fun e96=>(some (j10,false,((data11.set j10.toNat e93).set a11.toNat e94)))else none)else none)else none)else none else if 0<=j10/\j10<(data11.length:Int)then oB (data11[j10.toNat]?) fun e97=>(if 0<=i10/\i10<(data11.length:Int)then oB (data11[i10.toNat]?) fun e98=>(if 0<=i10/\i10<(data11.length:Int)then oB (data11[i10.toNat]?) fun e99=>(if 0<=j10/\j10<((data11.set i10.toNat e97).length:Int)then oB ((data11.set i10.toNat e97)[j10.toNat]?) fun e100=>(if fits (i10+1)then if fits (j10-1)then go7 (((data11.set i10.toNat e97).set j10.toNat e98),a11,(i10+1),(j10-1))else none else none)else none)else none)else none)else none) N (data9,a9,i8,j8)) N (data8,a8,i7,j7)) N (((data3.set i2.toNat e59).set j2.toNat e60),a3,(i2+1),(j2-1))else none else none)else none)else none)else none)else none) N (data2,a2,i,j))else none)else none else iter (fun go11 (data12,a12,i11,j11)=>bif decide (i11<=j11)then if 0<=j11/\j11<(data12.length:Int)then oB (data12[j11.toNat]?) fun e101=>(if 0<=a12/\a12<(data12.length:Int)then oB (data12[a12.toNat]?) fun e102=>(oB (k_cmp_Less_67_m N e101 e102) fun r9=>bif !r9 then if fits (j11-1)then go11 (data12,a12,i11,(j11-1))else none else bif decide (j11<i11)then if 0<=a12/\a12<(data12.length:Int)then oB (data12[a12.toNat]?) fun e103=>(if 0<=j11/\j11<(data12.length:Int)then oB (data12[j11.toNat]?) fun e104=>(if 0<=j11/\j11<(data12.length:Int)then oB (data12[j11.toNat]?) fun e105=>(if 0<=a12/\a12<((data12.set j11.toNat e103).length:Int)then oB ((data12.set j11.toNat e103)[a12.toNat]?) fun e106=>(some (j11,true,((data12.set j11.toNat e103).set a12.toNat e104)))else none)else none)else none)else none else if 0<=j11/\j11<(data12.length:Int)then oB (data12[j11.toNat]?) fun e107=>(if 0<=i11/\i11<(data12.length:Int)then oB (data12[i11.toNat]?) fun e108=>(if 0<=i11/\i11<(data12.length:Int)then oB (data12[i11.toNat]?) fun e109=>(if 0<=j11/\j11<((data12.set i11.toNat e107).length:Int)then oB ((data12.set i11.toNat e107)[j11.toNat]?) fun e110=>(if fits (i11+1)then if fits (j11-1)then iter (fun go12 (data13,a13,i12,j12)=>iter (fun go13 (data14,a14,i13,j13)=>bif decide (i13<=j13)then if 0<=i13/\i13<(data14.length:Int)then oB (data14[i13.toNat]?) fun e111=>(if 0<=a14/\a14<(data14.length:Int)then oB (data14[a14.toNat]?) fun e112=>(oB (k_cmp_Less_67_m N e111 e112) fun r10=>bif r10 then if fits (i13+1)then go13 (data14,a14,(i13+1),j13)else none else iter (fun go14 (data15,a15,i14,j14)=>bif decide (i14<=j14)then if 0<=j14/\j14<(data15.length:Int)then oB (data15[j14.toNat]?) fun e113=>(if 0<=a15/\a15<(data15.length:Int)then oB (data15[a15.toNat]?) fun e114=>(oB (k_cmp_Less_67_m N e113 e114) fun r11=>bif !r11 then if fits (j14-1)then go14 (data15,a15,i14,(j14-1))else none else bif decide (j14<i14)then if 0<=a15/\a15<(data15.length:Int)then oB (data15[a15.toNat]?) fun e115=>(if 0<=j14/\j14<(data15.length:Int)then oB (data15[j14.toNat]?) fun e116=>(if 0<=j14/\j14<(data15.length:Int)then oB (data15[j14.toNat]?) fun e117=>(if 0<=a15/\a15<((data15.set j14.toNat e115).length:Int)then oB ((data15.set j14.toNat e115)[a15.toNat]?) fun e118=>(some (j14,false,((data15.set j14.toNat e115).set a15.toNat e116)))else none)else none)else none)else none else if 0<=j14/\j14<(data15.length:Int)then oB (data15[j14.toNat]?) fun e119=>(if 0<=i14/\i14<(data15.length:Int)then oB (data15[i14.toNat]?) fun e120=>(if 0<=i14/\i14<(data15.length:Int)then oB (data15[i14.toNat]?) fun e121=>(if 0<=j14/\j14<((data15.set i14.toNat e119).length:Int)then oB ((data15.set i14.toNat e119)[j14.toNat]?) fun e122=>(if fits (i14+1)then if fits (j14-1)then go12 (((data15.set i14.toNat e119).set j14.toNat e120),a15,(i14+1),(j14-1))else none else none)else none)else none)else none)else none)else none)else none else bif decide (j14<i14)then if 0<=a15/\a15<(data15.length:Int)then oB (data15[a15.toNat]?) fun e123=>(if 0<=j14/\j14<(data15.length:Int)then oB (data15[j14.toNat]?) fun e124=>(if 0<=j14/\j14<(data15.length:Int)then oB (data15[j14.toNat]?) fun e125=>(if 0<=a15/\a15<((data15.set j14.toNat e123).length:Int)then oB ((data15.set j14.toNat e123)[a15.toNat]?) fun e126=>(some (j14,false,((data15.set j14.toNat e123).set a15.toNat e124)))else none)else none)else none)else none else if 0<=j14/\j14<(data15.length:Int)then oB (data15[j14.toNat]?) fun e127=>(if 0<=i14/\i14<(data15.length:Int)then oB (data15[i14.toNat]?) fun e128=>(if 0<=i14/\i14<(data15.length:Int)then oB (data15[i14.toNat]?) fun e129=>(if 0<=j14/\j14<((data15.set i14.toNat e127).length:Int)then oB ((data15.set i14.toNat e127)[j14.toNat]?) fun e130=>(if fits (i14+1)then if fits (j14-1)then go12 (((data15.set i14.toNat e127).set j14.toNat e128),a15,(i14+1),(j14-1))else none else none)else none)else none)else none)else none) N (data14,a14,i13,j13))else none)else none else iter (fun go15 (data16,a16,i15,j15)=>bif decide (i15<=j15)then if 0<=j15/\j15<(data16.length:Int)then oB (data16[j15.toNat]?) fun e131=>(if 0<=a16/\a16<(data16.length:Int)then oB (data16[a16.toNat]?) fun e132=>(oB (k_cmp_Less_67_m N e131 e132) fun r12=>bif !r12 then if fits (j15-1)then go15 (data16,a16,i15,(j15-1))else none else bif decide (j15<i15)then if 0<=a16/\a16<(data16.length:Int)then oB (data16[a16.toNat]?) fun e133=>(if 0<=j15/\j15<(data16.length:Int)then oB (data16[j15.toNat]?) fun e134=>(if 0<=j15/\j15<(data16.length:Int)then oB (data16[j15.toNat]?) fun e135=>(if 0<=a16/\a16<((data16.set j15.toNat e133).length:Int)then oB ((data16.set j15.toNat e133)[a16.toNat]?) fun e136=>(some (j15,false,((data16.set j15.toNat e133).set a16.toNat e134)))else none)else none)else none)else none else if 0<=j15/\j15<(data16.length:Int)then oB (data16[j15.toNat]?) fun e137=>(if 0<=i15/\i15<(data16.length:Int)then oB (data16[i15.toNat]?) fun e138=>(if 0<=i15/\i15<(data16.length:Int)then oB (data16[i15.toNat]?) fun e139=>(if 0<=j15/\j15<((data16.set i15.toNat e137).length:Int)then oB ((data16.set i15.toNat e137)[j15.toNat]?) fun e140=>(if fits (i15+1)then if fits (j15-1)then go12 (((data16.set i15.toNat e137).set j15.toNat e138),a16,(i15+1),(j15-1))else none else none)else none)else none)else none)else none)else none)else none else bif decide (j15<i15)then if 0<=a16/\a16<(data16.length:Int)then oB (data16[a16.toNat]?) fun e141=>(if 0<=j15/\j15<(data16.length:Int)then oB (data16[j15.toNat]?) fun e142=>(if 0<=j15/\j15<(data16.length:Int)then oB (data16[j15.toNat]?) fun e143=>(if 0<=a16/\a16<((data16.set j15.toNat e141).length:Int)then oB ((data16.set j15.toNat e141)[a16.toNat]?) fun e144=>(some (j15,false,((data16.set j15.toNat e141).set a16.toNat e142)))else none)else none)else none)else none else if 0<=j15/\j15<(data16.length:Int)then oB (data16[j15.toNat]?) fun e145=>(if 0<=i15/\i15<(data16.length:Int)then oB (data16[i15.toNat]?) fun e146=>(if 0<=i15/\i15<(data16.length:Int)then oB (data16[i15.toNat]?) fun e147=>(if 0<=j15/\j15<((data16.set i15.toNat e145).length:Int)then oB ((data16.set i15.toNat e145)[j15.toNat]?) fun e148=>(if fits (i15+1)then if fits (j15-1)then go12 (((data16.set i15.toNat e145).set j15.toNat e146),a16,(i15+1),(j15-1))else none else none)else none)else none)else none)else none) N (data14,a14,i13,j13)) N (data13,a13,i12,j12)) N (((data12.set i11.toNat e107).set j11.toNat e108),a12,(i11+1),(j11-1))else none else none)else none)else none)else none)else none)else none)else none else bif decide (j11<i11)then if 0<=a12/\a12<(data12.length:Int)then oB (data12[a12.toNat]?) fun e149=>(if 0<=j11/\j11<(data12.length:Int)then oB (data12[j11.toNat]?) fun e150=>(if 0<=j11/\j11<(data12.length:Int)then oB (data12[j11.toNat]?) fun e151=>(if 0<=a12/\a12<((data12.set j11.toNat e149).length:Int)then oB ((data12.set j11.toNat e149)[a12.toNat]?) fun e152=>(some (j11,true,((data12.set j11.toNat e149).set a12.toNat e150)))else none)else none)else none)else none else if 0<=j11/\j11<(data12.length:Int)then oB (data12[j11.toNat]?) fun e153=>(if 0<=i11/\i11<(data12.length:Int)then oB (data12[i11.toNat]?) fun e154=>(if 0<=i11/\i11<(data12.length:Int)then oB (data12[i11.toNat]?) fun e155=>(if 0<=j11/\j11<((data12.set i11.toNat e153).length:Int)then oB ((data12.set i11.toNat e153)[j11.toNat]?) fun e156=>(if fits (i11+1)then if fits (j11-1)then iter (fun go16 (data17,a17,i16,j16)=>iter (fun go17 (data18,a18,i17,j17)=>bif decide (i17<=j17)then if 0<=i17/\i17<(data18.length:Int)then oB (data18[i17.toNat]?) fun e157=>(if 0<=a18/\a18<(data18.length:Int)then oB (data18[a18.toNat]?) fun e158=>(oB (k_cmp_Less_67_m N e157 e158) fun r13=>bif r13 then if fits (i17+1)then go17 (data18,a18,(i17+1),j17)else none else iter (fun go18 (data19,a19,i18,j18)=>bif decide (i18<=j18)then if 0<=j18/\j18<(data19.length:Int)then oB (data19[j18.toNat]?) fun e159=>(if 0<=a19/\a19<(data19.length:Int)then oB (data19[a19.toNat]?) fun e160=>(oB (k_cmp_Less_67_m N e159 e160) fun r14=>bif !r14 then if fits (j18-1)then go18 (data19,a19,i18,(j18-1))else none else bif decide (j18<i18)then if 0<=a19/\a19<(data19.length:Int)then oB (data19[a19.toNat]?) fun e161=>(if 0<=j18/\j18<(data19.length:Int)then oB (data19[j18.toNat]?) fun e162=>(if 0<=j18/\j18<(data19.length:Int)then oB (data19[j18.toNat]?) fun e163=>(if 0<=a19/\a19<((data19.set j18.toNat e161).length:Int)then oB ((data19.set j18.toNat e161)[a19.toNat]?) fun e164=>(some (j18,false,((data19.set j18.toNat e161).set a19.toNat e162)))else none)else none)else none)else none else if 0<=j18/\j18<(data19.length:Int)then oB (data19[j18.toNat]?) fun e165=>(if 0<=i18/\i18<(data19.length:Int)then oB (data19[i18.toNat]?) fun e166=>(if 0<=i18/\i18<(data19.length:Int)then oB (data19[i18.toNat]?) fun e167=>(if 0<=j18/\j18<((data19.set i18.toNat e165).length:Int)then oB ((data19.set i18.toNat e165)[j18.toNat]?) fun e168=>(if fits (i18+1)then if fits (j18-1)then go16 (((data19.set i18.toNat e165).set j18.toNat e166),a19,(i18+1),(j18-1))else none else none)else none)else none)else none)else none)else none)else none else bif decide (j18<i18)then if 0<=a19/\a19<(data19.length:Int)then oB (data19[a19.toNat]?) fun e169=>(if 0<=j18/\j18<(data19.length:Int)then oB (data19[j18.toNat]?) fun e170=>(if 0<=j18/\j18<(data19.length:Int)then oB (data19[j18.toNat]?) fun e171=>(if 0<=a19/\a19<((data19.set j18.toNat e169).length:Int)then oB ((data19.set j18.toNat e169)[a19.toNat]?) fun e172=>(some (j18,false,((data19.set j18.toNat e169).set a19.toNat e170)))else none)else none)else none)else none else if 0<=j18/\j18<(data19.length:Int)then oB (data19[j18.toNat]?) fun e173=>(if 0<=i18/\i18<(data19.length:Int)then oB (data19[i18.toNat]?) fun e174=>(if 0<=i18/\i18<(data19.length:Int)then oB (data19[i18.toNat]?) fun e175=>(if 0<=j18/\j18<((data19.set i18.toNat e173).length:Int)then oB ((data19.set i18.toNat e173)[j18.toNat]?) fun e176=>(if fits (i18+1)then if fits (j18-1)then go16 (((data19.set i18.toNat e173).set j18.toNat e174),a19,(i18+1),(j18-1))else none else none)else none)else none)else none)else none) N (data18,a18,i17,j17))else none)else none else iter (fun go19 (data20,a20,i19,j19)=>bif decide (i19<=j19)then if 0<=j19/\j19<(data20.length:Int)then oB (data20[j19.toNat]?) fun e177=>(if 0<=a20/\a20<(data20.length:Int)then oB (data20[a20.toNat]?) fun e178=>(oB (k_cmp_Less_67_m N e177 e178) fun r15=>bif !r15 then if fits (j19-1)then go19 (data20,a20,i19,(j19-1))else none else bif decide (j19<i19)then if 0<=a20/\a20<(data20.length:Int)then oB (data20[a20.toNat]?) fun e179=>(if 0<=j19/\j19<(data20.length:Int)then oB (data20[j19.toNat]?) fun e180=>(if 0<=j19/\j19<(data20.length:Int)then oB (data20[j19.toNat]?) fun e181=>(if 0<=a20/\a20<((data20.set j19.toNat e179).length:Int)then oB ((data20.set j19.toNat e179)[a20.toNat]?) fun e182=>(some (j19,false,((data20.set j19.toNat e179).set a20.toNat e180)))else none)else none)else none)else none else if 0<=j19/\j19<(data20.length:Int)then oB (data20[j19.toNat]?) fun e183=>(if 0<=i19/\i19<(data20.length:Int)then oB (data20[i19.toNat]?) fun e184=>(if 0<=i19/\i19<(data20.length:Int)then oB (data20[i19.toNat]?) fun e185=>(if 0<=j19/\j19<((data20.set i19.toNat e183).length:Int)then oB ((data20.set i19.toNat e183)[j19.toNat]?) fun e186=>(if fits (i19+1)then if fits (j19-1)then go16 (((data20.set i19.toNat e183).set j19.toNat e184),a20,(i19+1),(j19-1))else none else none)else none)else none)else none)else none)else none)else none else bif decide (j19<i19)then if 0<=a20/\a20<(data20.length:Int)then oB (data20[a20.toNat]?) fun e187=>(if 0<=j19/\j19<(data20.length:Int)then oB (data20[j19.toNat]?) fun e188=>(if 0<=j19/\j19<(data20.length:Int)then oB (data20[j19.toNat]?) fun e189=>(if 0<=a20/\a20<((data20.set j19.toNat e187).length:Int)then oB ((data20.set j19.toNat e187)[a20.toNat]?) fun e190=>(some (j19,false,((data20.set j19.toNat e187).set a20.toNat e188)))else none)else none)else none)else none else if 0<=j19/\j19<(data20.length:Int)then oB (data20[j19.toNat]?) fun e191=>(if 0<=i19/\i19<(data20.length:Int)then oB (data20[i19.toNat]?) fun e192=>(if 0<=i19/\i19<(data20.length:Int)then oB (data20[i19.toNat]?) fun e193=>(if 0<=j19/\j19<((data20.set i19.toNat e191).length:Int)then oB ((data20.set i19.toNat e191)[j19.toNat]?) fun e194=>(if fits (i19+1)then if fits (j19-1)then go16 (((data20.set i19.toNat e191).set j19.toNat e192),a20,(i19+1),(j19-1))else none else none)else none)else none)else none)else none) N (data18,a18,i17,j17)) N (data17,a17,i16,j16)) N (((data12.set i11.toNat e153).set j11.toNat e154),a12,(i11+1),(j11-1))else none else none)else none)else none)else none)else none) N (data2,a2,i,j)) N (((data.set a.toNat e).set pivot.toNat e2),a,(a+1),(b-1))else none else none)else none)else none)else none)else none)
theorem jL5 :mK 199 (bX [.mtk 800000 tI 3 true,pI,pI,pI] [.tup [pI,pB],.mtk 800000 tI 3 true] (c4A (jKo N))):=
 mO (fC (jA5 N) ja) func199 rfl N (.seq .no (.seq .no (.seq .no (.seq (.block (.loop jJV .no)) (.seq (.block (.loop jJV .no)) (.seq .no (.seq .no (.seq .no (.seq .no (.seq (.block (.loop jJV (.block (.seq (.block (.loop jJV .no)) (.seq (.block (.loop jJV .no)) .no))))) .no)))))))))) _ (rs:=[800000])
def jM4 :Sh:=⟨.mtk 800000 tI 3 true::pI::pI::pI::dz 4 (pB::pB::dz 124 []),[]⟩
def jLX :Sh:=⟨.mtk 800000 tI 3 true::pI::pI::pI::dz 4 (pB::pB::pI::pI::dz 122 []),[]⟩
def jK8 :Sh:=⟨.mtk 800000 tI 3 true::pI::pI::pI::dz 4 (pB::pB::pI::pI::pI::dz 121 []),[]⟩
def jLk :Sh:=⟨.mtk 800000 tI 3 true::pI::pI::pI::dz 4 (pB::pB::pI::dz 123 []),[]⟩
def k_slices_pdqsortOrdered_440_m (N:Nat):(D:Nat)->(List Int)->Int->Int->Int->Z17
 |0,_,_,_,_=>none
 |D+1,data,a,b,limit=>
 iter (fun go (g:(List Int)×Int×Int×Int×Bool×Bool)=>
 match g with
 |(data2,a2,b2,limit2,wasBalanced,wasPartitioned)=>
 if fits (b2-a2)then bif decide ((b2-a2)<=12)then
 oB (jKD N data2 a2 b2) fun r=>
 (some r)
 else
 (bif decide (limit2=0)then
 oB (jKw N data2 a2 b2) fun r2=>
 (some r2)
 else
 meet (fun(g:(List Int)×Int×Int×Int×Bool×Bool×Int)=>
 match g with
 |(data3,a3,b3,limit3,wasBalanced2,wasPartitioned2,length)=>
 oB (jKT N data3 a3 b3) fun r4=>
 meet (fun(g:(List Int)×Int×Int×Int×Bool×Bool×Int×Int×Int)=>
 match g with
 |(data4,a4,b4,limit4,wasBalanced3,wasPartitioned3,length2,pivot,hint)=>
 meet (fun(g:(List Int)×Int×Int×Int×Bool×Bool×Int×Int)=>
 match g with
 |(data5,a5,b5,limit5,wasBalanced4,wasPartitioned4,length3,pivot2)=>
 bif decide ((0:Int)<a5)then
 if fits (a5-1)then if 0<=(a5-1)/\(a5-1)<(data5.length:Int)then
 oB (data5[(a5-1).toNat]?) fun e=>
 (if 0<=pivot2/\pivot2<(data5.length:Int)then
 oB (data5[pivot2.toNat]?) fun e2=>
 (oB (k_cmp_Less_67_m N e e2) fun r7=>
 bif !r7 then
 oB (jKu N data5 a5 b5 pivot2) fun r8=>
 (go (r8.2,r8.1,b5,limit5,wasBalanced4,wasPartitioned4))
 else
 oB (jKo N data5 a5 b5 pivot2) fun r9=>
 if fits (r9.1-a5)then if fits (b5-r9.1)then if 8≠0 then
 if fits (length3.tdiv 8)then bif decide ((r9.1-a5)<(b5-r9.1))then
 oB (k_slices_pdqsortOrdered_440_m N D r9.2.2 a5 r9.1 limit5) fun r10=>
 (if fits (r9.1+1)then go (r10,(r9.1+1),b5,limit5,(decide ((length3.tdiv 8)<=(r9.1-a5))),r9.2.1)else none)
 else
 (if fits (r9.1+1)then oB (k_slices_pdqsortOrdered_440_m N D r9.2.2 (r9.1+1) b5 limit5) fun r11=>
 (go (r11,a5,r9.1,limit5,(decide ((length3.tdiv 8)<=(b5-r9.1))),r9.2.1))else none)else none
 else none else none else none)
 else none)
 else none else none
 else
 oB (jKo N data5 a5 b5 pivot2) fun r12=>
 if fits (r12.1-a5)then if fits (b5-r12.1)then if 8≠0 then
 if fits (length3.tdiv 8)then bif decide ((r12.1-a5)<(b5-r12.1))then
 oB (k_slices_pdqsortOrdered_440_m N D r12.2.2 a5 r12.1 limit5) fun r13=>
 (if fits (r12.1+1)then go (r13,(r12.1+1),b5,limit5,(decide ((length3.tdiv 8)<=(r12.1-a5))),r12.2.1)else none)
 else
 (if fits (r12.1+1)then oB (k_slices_pdqsortOrdered_440_m N D r12.2.2 (r12.1+1) b5 limit5) fun r14=>
 (go (r14,a5,r12.1,limit5,(decide ((length3.tdiv 8)<=(b5-r12.1))),r12.2.1))else none)else none
 else none else none else none) fun J3=>
 bif wasBalanced3 then
 bif wasPartitioned3 then
 bif decide (hint=1)then
 oB (jKt N data4 a4 b4) fun r6=>
 (bif r6.1 then
 some r6.2
 else
 J3 (r6.2,a4,b4,limit4,wasBalanced3,wasPartitioned3,length2,pivot))
 else
 (J3 (data4,a4,b4,limit4,wasBalanced3,wasPartitioned3,length2,pivot))
 else
 (J3 (data4,a4,b4,limit4,wasBalanced3,wasPartitioned3,length2,pivot))
 else
 J3 (data4,a4,b4,limit4,wasBalanced3,wasPartitioned3,length2,pivot)) fun J2=>
 bif decide (r4.2.1=2)then
 oB (jKC N r4.2.2 a3 b3) fun r5=>
 (if fits (b3-1)then if fits (r4.1-a3)then if fits ((b3-1)-(r4.1-a3))then J2 (r5,a3,b3,limit3,wasBalanced2,wasPartitioned2,length,((b3-1)-(r4.1-a3)),1)else none else none else none)
 else
 J2 (r4.2.2,a3,b3,limit3,wasBalanced2,wasPartitioned2,length,r4.1,r4.2.1)) fun J=>
 bif !wasBalanced then
 oB (jKH N data2 a2 b2) fun r3=>
 (if fits (limit2-1)then J (r3,a2,b2,(limit2-1),wasBalanced,wasPartitioned,(b2-a2))else none)
 else
 J (data2,a2,b2,limit2,wasBalanced,wasPartitioned,(b2-a2)))else none) N (data,a,b,limit,true,true)
def jJ9 (N D:Nat):Model:=⟨⟨[.mtk 800000 tI 3 true,pI,pI,pI],[]⟩,⟨[.tup [],.mtk 800000 tI 3 true],[]⟩,c4A (k_slices_pdqsortOrdered_440_m N D)⟩
theorem jK0 (N D:Nat) (ih:mK 151 (jJ9 N D)):mK 151 (jJ9 N (D+1)):=
 mO (fC ih (fC (jMr N) (fC (jLI N) (fC (jMF N) (fC (jMB N) (fC (jLn N) (fC (jMH N) (fC (jA5 N) (fC (jMs N) (fC (jL5 N) ja)))))))))) func151 rfl N (.seq .no (.seq .no (.block (.loop jM4 (.block (.seq .no (.seq .no (.seq .no (.meet jLk .no (.seq .no (.meet jK8 .no (.meet jLX .no .no)))))))))))) (jJ9 N (D+1)) (rs:=[800000])
theorem jKz (N:Nat):∀D,mK 151 (jJ9 N D)
 |0=>modelOk_none ⟨_,func151,by decide,by kernel_rfl⟩ _ (fun a=>rfl)
 |D+1=>jK0 N D (jKz N D)
def k_slices_Sort_287_m (a:List Int):Z17:=
 (oB (k_math_bits_Len_m N (IntKind.u64.wrap (a.length:Int))) fun c=>oB (k_slices_pdqsortOrdered_440_m N N a 0 (a.length:Int) c) fun b=>some b)
theorem jMQ :mK 99 (bX [.mtk 800000 tI 3 true] [.tup [],.mtk 800000 tI 3 true] (c1A (k_slices_Sort_287_m N))):=
 mO (fC (jda N) (fC (jKz N N) ja)) func99 rfl N .no _ (rs:=[800000])
def jMe :Sh:=⟨.box 900000 0:: .pv Y19::dz 3 (pI:: .own 600006 Y1 62 true::dz 8 (.trk 850002 Y1 62::pI::pI::dz 41 [])),[(900000,false,[.mtk 850000 .str 9 true,.tre 850001 Y16 156,.dead])]⟩
def jMV :Sh:=⟨.box 900000 0:: .pv Y19::dz 3 (pI:: .own 600006 Y1 62 true:: .dead:: .box 8 0::dz 6 (.trk 850002 Y1 62::pI::pI::dz 4 (.own 600022 Y4 80 false::pI::pI::dz 34 []))),[(8,false,[.own 700800 Y4 80 true,.own 700801 Y6 106 true,.mtk 700802 tI 3 true]),(900000,false,[.mtk 850000 .str 9 true,.tre 850001 Y16 156,.dead])]⟩
def jK6 :Sh:=⟨.box 900000 0:: .pv Y19::dz 3 (pI:: .own 600006 Y1 62 true:: .dead:: .box 8 0::dz 6 (.trk 850002 Y1 62::pI::pI::dz 30 (pB::dz 10 []))),[(8,false,[.own 700800 Y4 80 true,.own 700801 Y6 106 true,.own 700802 tI 3 true]),(900000,false,[.mtk 850000 .str 9 true,.tre 850001 Y16 156,.dead])]⟩
def i_Index_drop_m (X:List Int) (V:List Z2) (aa:List Z4) (y:List Z3):Option (Int×(List Z2)×(List Z4)×(List Z3)):=
 (iter (fun B (ae,P,z,b,L,a,K,H)=>bif decide (a<L)then if b.2.toNat<=a.toNat then oB (b.1[a.toNat]?) fun S=>(if b.2.toNat<=a.toNat then oB (b.1[a.toNat]?) fun T=>(if b.2.toNat<=a.toNat then oB (b.1[a.toNat]?) fun ac=>(if 0<=a/\a<(b.1.length:Int)then if a.toNat=a.toNat then if a.toNat=a.toNat then if a.toNat=a.toNat then if a.toNat=a.toNat then if a.toNat=a.toNat then if a.toNat=a.toNat then if b.2.toNat=a.toNat then oB (i_Live_alive_v2_m N S.1.1 T.1.2 ac.2) fun v=>(iter (fun C (m,l,p,c,r,o,t,q,d,i,j,f,u,w)=>bif decide (d<q)then oB (idx t d) fun x=>(oB (k_slices_Contains_735_m N m x.1) fun af=>bif af then if room f.length ([x.1]:List Int).length 8 then if fits (l+1)then if fits (d+1)then C (m,(l+1),p,(c.1,((c.2.toNat:Nat):Int)),r,o,t,q,(d+1),i,j,(f++([x.1]:List Int)),u,w)else none else none else none else if fits (d+1)then C (m,l,p,(c.1,((c.2.toNat:Nat):Int)),r,o,t,q,(d+1),i,j,f,u,w)else none)else oB (k_slices_Sort_287_m N f) fun ab=>meet (fun(e:(List Int)×Int×(List Z3)×((List Z3)×Int)×Int×Int×Bool×(List Z0)×(List Z1)×(List Int)×(List Z2)×(List Z4))=>match e with|(I,O,n,k,D,h,ad,Q,G,U,E,R)=>bif ad then if room n.length ([((Q,G),U)]:List Z3).length 72 then if fits (h+1)then B (I,O,(n++([((Q,G),U)]:List Z3)),(k.1,((k.2.toNat:Nat):Int)),D,(h+1),E,R)else none else none else if fits (h+1)then B (I,O,n,(k.1,((k.2.toNat:Nat):Int)),D,(h+1),E,R)else none) fun W=>oB (i_Live_alive_v2_m N i j ab) fun A=>W (m,l,p,(c.1,((c.2.toNat:Nat):Int)),r,o,(decide ((0:Int)<A.1.length)),i,j,A.2,u,w)) N (ae,P,z,(b.1,((a.toNat+1:Nat):Int)),L,a,v.1,(v.1.length:Int),(0:Int),S.1.1,T.1.2,v.2,K,H))else none else none else none else none else none else none else none else none)else none)else none)else none else some (P,K,H,z)) N (X,(0:Int),([]:List Z3),(y,((0:Nat):Int)),(y.length:Int),(0:Int),V,aa))
theorem jNa :mK 43 ⟨⟨[.box 900000 0,.pv Y19],[(900000,false,[.mtk 850000 .str 9 true,.tre 850001 Y16 156,.tre 850002 Y1 62])]⟩,⟨[pI],[(900000,false,[.mtk 850000 .str 9 true,.tre 850001 Y16 156,.own 1 Y1 62 true])]⟩,c4A (i_Index_drop_m N)⟩:=
 mO (fC (jLZ N) (fC (jIT N) (fC (jMQ N) ja))) func43 rfl N (.seq .no (.seq .no (.seq .no (.seq (.seq (.touch [.opn 900000 2]) (.block (.loop jMe (.seq .no (.seq .no (.seq (.block (.seq (.touch [.outs 15 17 [(0,200,80),(1,201,106),(2,202,3)]]) (.seq (.seq (.touch [.adv 15 17]) (.block (.loop jMV .no))) (.seq .no (.meet jK6 .no .no))))) .no)))))) .no)))) _ (wr:=[37]) (rs:=[900000,850000,850001,850002])
def jJU (e:List Z2) (c:List Z4) (d:List Z3) (f:Int):Option ((List Z2)×(List Z4)×(List Z3)×Bool):=
 (oB (i_IndexOk_m N e c d) fun h=>bif !h then some (([]:List Z2),([]:List Z4),([]:List Z3),false)else oB (i_cloneIndex_m N e c d) fun b=>oB (i_Index_drop_m N ([f]:List Int) b.1 b.2.1 b.2.2) fun a=>some (a.2.1,a.2.2.1,a.2.2.2,(decide ((0:Int)<a.1))))
theorem jNd :mK 14 (bX [.agg [.pv (.sl .str),.pv Y14,.pv Y0],pI] [.tup [.agg [.own 1 .str 9 true,.own 2 Y16 156 true,.own 3 Y1 62 true],pB]] (c4A (jJU N))):=
 mO (fC (jIr N) (fC (jLT N) (fC (jNa N) ja))) func14 rfl N .no _ (dw:=[13])
def jo5 :Sh:=⟨.pv (.sl .str):: .pv (.sl .str)::dz 3 (pI::dz 20 []),[]⟩
def j0 (c:List Z2) (d:List Z2):Z8:=
 (bif !decide ((c.length:Int)=(d.length:Int))then some false else iter (fun f (b,e,a)=>bif decide (a<(b.length:Int))then oB (idx b a) fun h=>(oB (idx e a) fun j=>bif !decide (h=j)then some false else if fits (a+1)then f (b,e,(a+1))else none)else some true) N (c,d,(0:Int)))
theorem jd6 :mK 85 (bX [.pv (.sl .str),.pv (.sl .str)] [pB] (c2A (j0 N))):=
 mO ja func85 rfl N (.seq .no (.seq .no (.seq (.seq .no (.block (.loop jo5 .no))) .no))) _
def jaR (b:List Z2) (a:List UInt8) (d:List Z2) (e:List UInt8):Z8:=
 (oB (j0 N b d) fun c=>bif !c then some false else bif !decide (a=e)then some false else some true)
theorem jqb :mK 143 (bX [.agg [.pv (.sl .str),pS],.agg [.pv (.sl .str),pS]] [pB] (c4A (jaR N))):=
 mO (fC (jd6 N) ja) func143 rfl N .no _
def jp9 :Sh:=⟨.pv Y14:: .pv Y14::dz 3 (pI::dz 21 []),[]⟩
def jdJ (c:List Z4) (d:List Z4):Z8:=
 (bif !decide ((c.length:Int)=(d.length:Int))then some false else iter (fun i (b,h,a)=>bif decide (a<(b.length:Int))then oB (idx b a) fun e=>(oB (idx h a) fun f=>oB (jaR N e.1 e.2 f.1 f.2) fun k=>bif !k then some false else if fits (a+1)then i (b,h,(a+1))else none)else some true) N (c,d,(0:Int)))
theorem jkU :mK 86 (bX [.pv Y14,.pv Y14] [pB] (c2A (jdJ N))):=
 mO (fC (jqb N) ja) func86 rfl N (.seq .no (.seq .no (.seq (.seq .no (.block (.loop jp9 .no))) .no))) _
def jcO (c:List Z2) (b:List Z4) (e:List Z2) (f:List Z4):Z8:=
 (oB (j0 N c e) fun d=>bif !d then some false else oB (jdJ N b f) fun a=>bif !a then some false else some true)
theorem jr8 :mK 35 (bX [.agg [.pv (.sl .str),.pv Y14],.agg [.pv (.sl .str),.pv Y14]] [pB] (c4A (jcO N))):=
 mO (fC (jd6 N) (fC (jkU N) ja)) func35 rfl N .no _
def jbd (N:Nat) (b:List UInt8) (a:List UInt8) (c:List UInt8) (d:List UInt8):Z8:=
 (bif !decide (b=c)then some false else bif !decide (a=d)then some false else some true)
theorem jmy :mK 157 (bX [.agg [pS,pS],.agg [pS,pS]] [pB] (c4A (jbd N))):=
 mO ja func157 rfl N .no _
def jqq :Sh:=⟨.pv Y17:: .pv Y17::dz 3 (pI::dz 21 []),[]⟩
def jdj (c:Z12) (d:Z12):Z8:=
 (bif !decide ((c.length:Int)=(d.length:Int))then some false else iter (fun i (b,h,a)=>bif decide (a<(b.length:Int))then oB (idx b a) fun e=>(oB (idx h a) fun f=>oB (jbd N e.1 e.2 f.1 f.2) fun k=>bif !k then some false else if fits (a+1)then i (b,h,(a+1))else none)else some true) N (c,d,(0:Int)))
theorem jmD :mK 106 (bX [.pv Y17,.pv Y17] [pB] (c2A (jdj N))):=
 mO (fC (jmy N) ja) func106 rfl N (.seq .no (.seq .no (.seq (.seq .no (.block (.loop jqq .no))) .no))) _
def jbo (N:Nat) (b:List UInt8) (a:Int) (c:List UInt8) (d:Int):Z8:=
 (bif !decide (b=c)then some false else bif !decide (a=d)then some false else some true)
theorem jtn :mK 158 (bX [.agg [pS,pI],.agg [pS,pI]] [pB] (c4A (jbo N))):=
 mO ja func158 rfl N .no _
def jtU :Sh:=⟨.pv Y13:: .pv Y13::dz 3 (pI::dz 21 []),[]⟩
def jdN (c:Z7) (d:Z7):Z8:=
 (bif !decide ((c.length:Int)=(d.length:Int))then some false else iter (fun i (b,h,a)=>bif decide (a<(b.length:Int))then oB (idx b a) fun e=>(oB (idx h a) fun f=>oB (jbo N e.1 e.2 f.1 f.2) fun k=>bif !k then some false else if fits (a+1)then i (b,h,(a+1))else none)else some true) N (c,d,(0:Int)))
theorem jkL :mK 107 (bX [.pv Y13,.pv Y13] [pB] (c2A (jdN N))):=
 mO (fC (jtn N) ja) func107 rfl N (.seq .no (.seq .no (.seq (.seq .no (.block (.loop jtU .no))) .no))) _
def jbi (c:Int) (b:Z12) (f:Z7) (d:Int) (i:Z12) (e:Z7):Z8:=
 (bif !decide (c=d)then some false else oB (jdj N b i) fun h=>bif !h then some false else oB (jdN N f e) fun a=>bif !a then some false else some true)
theorem jta :mK 49 (bX [.agg [pI,.pv Y17,.pv Y13],.agg [pI,.pv Y17,.pv Y13]] [pB] (c6A (jbi N))):=
 mO (fC (jmD N) (fC (jkL N) ja)) func49 rfl N .no _
def jqZ :Sh:=⟨.pv Y3:: .pv Y3::dz 3 (pI::dz 21 []),[]⟩
def jdZ (e:List Z0) (f:List Z0):Z8:=
 (bif !decide ((e.length:Int)=(f.length:Int))then some false else iter (fun i (b,h,a)=>bif decide (a<(b.length:Int))then oB (idx b a) fun c=>(oB (idx h a) fun d=>oB (jbi N c.1 c.2.1 c.2.2 d.1 d.2.1 d.2.2) fun k=>bif !k then some false else if fits (a+1)then i (b,h,(a+1))else none)else some true) N (e,f,(0:Int)))
theorem jmb :mK 19 (bX [.pv Y3,.pv Y3] [pB] (c2A (jdZ N))):=
 mO (fC (jta N) ja) func19 rfl N (.seq .no (.seq .no (.seq (.seq .no (.block (.loop jqZ .no))) .no))) _
def jea (c:List Int) (d:List Int):Z8:=
 (bif !decide ((c.length:Int)=(d.length:Int))then some false else iter (fun f (b,e,a)=>bif decide (a<(b.length:Int))then oB (idx b a) fun h=>(oB (idx e a) fun j=>bif !decide (h=j)then some false else if fits (a+1)then f (b,e,(a+1))else none)else some true) N (c,d,(0:Int)))
theorem jmk :mK 145 (bX [.pv Y19,.pv Y19] [pB] (c2A (jea N))):=
 mO ja func145 rfl N (.seq .no (.seq .no (.seq (.seq .no (.block (.loop jnI .no))) .no))) _
def jbl (b:Int) (a:List Int) (d:Int) (e:List Int):Z8:=
 (bif !decide (b=d)then some false else oB (jea N a e) fun c=>bif !c then some false else some true)
theorem jrv :mK 229 (bX [.agg [pI,.pv Y19],.agg [pI,.pv Y19]] [pB] (c4A (jbl N))):=
 mO (fC (jmk N) ja) func229 rfl N .no _
def jna :Sh:=⟨.pv Y11:: .pv Y11::dz 3 (pI::dz 21 []),[]⟩
def jdt (c:List Z5) (d:List Z5):Z8:=
 (bif !decide ((c.length:Int)=(d.length:Int))then some false else iter (fun i (b,h,a)=>bif decide (a<(b.length:Int))then oB (idx b a) fun e=>(oB (idx h a) fun f=>oB (jbl N e.1 e.2 f.1 f.2) fun k=>bif !k then some false else if fits (a+1)then i (b,h,(a+1))else none)else some true) N (c,d,(0:Int)))
theorem jrb :mK 225 (bX [.pv Y11,.pv Y11] [pB] (c2A (jdt N))):=
 mO (fC (jrv N) ja) func225 rfl N (.seq .no (.seq .no (.seq (.seq .no (.block (.loop jna .no))) .no))) _
def jaU (b:List UInt8) (a:List UInt8) (e:List Z5) (c:List UInt8) (h:List UInt8) (d:List Z5):Z8:=
 (bif !decide (b=c)then some false else bif !decide (a=h)then some false else oB (jdt N e d) fun f=>bif !f then some false else some true)
theorem jmZ :mK 216 (bX [.agg [pS,pS,.pv Y11],.agg [pS,pS,.pv Y11]] [pB] (c6A (jaU N))):=
 mO (fC (jrb N) ja) func216 rfl N .no _
def jkD :Sh:=⟨.pv Y5:: .pv Y5::dz 3 (pI::dz 21 []),[]⟩
def jdU (e:List Z1) (f:List Z1):Z8:=
 (bif !decide ((e.length:Int)=(f.length:Int))then some false else iter (fun i (b,h,a)=>bif decide (a<(b.length:Int))then oB (idx b a) fun c=>(oB (idx h a) fun d=>oB (jaU N c.1 c.2.1 c.2.2 d.1 d.2.1 d.2.2) fun k=>bif !k then some false else if fits (a+1)then i (b,h,(a+1))else none)else some true) N (e,f,(0:Int)))
theorem jkg :mK 190 (bX [.pv Y5,.pv Y5] [pB] (c2A (jdU N))):=
 mO (fC (jmZ N) ja) func190 rfl N (.seq .no (.seq .no (.seq (.seq .no (.block (.loop jkD .no))) .no))) _
def jbJ (c:List Z0) (b:List Z1) (e:List Z0) (f:List Z1):Z8:=
 (oB (jdZ N c e) fun d=>bif !d then some false else oB (jdU N b f) fun a=>bif !a then some false else some true)
theorem jnM :mK 144 (bX [.agg [.pv Y3,.pv Y5],.agg [.pv Y3,.pv Y5]] [pB] (c4A (jbJ N))):=
 mO (fC (jmb N) (fC (jkg N) ja)) func144 rfl N .no _
def jJW (c:List Z0) (b:List Z1) (f:List Int) (d:List Z0) (i:List Z1) (e:List Int):Z8:=
 (oB (jbJ N c b d i) fun h=>bif !h then some false else oB (jea N f e) fun a=>bif !a then some false else some true)
theorem jI3 :mK 87 (bX [.agg [.pv Y3,.pv Y5,.pv Y19],.agg [.pv Y3,.pv Y5,.pv Y19]] [pB] (c6A (jJW N))):=
 mO (fC (jnM N) (fC (jmk N) ja)) func87 rfl N .no _
def jIS :Sh:=⟨.pv Y0:: .pv Y0::dz 3 (pI::dz 21 []),[]⟩
def jKn (e:List Z3) (f:List Z3):Z8:=
 (bif !decide ((e.length:Int)=(f.length:Int))then some false else iter (fun i (b,h,a)=>bif decide (a<(b.length:Int))then oB (idx b a) fun c=>(oB (idx h a) fun d=>oB (jJW N c.1.1 c.1.2 c.2 d.1.1 d.1.2 d.2) fun k=>bif !k then some false else if fits (a+1)then i (b,h,(a+1))else none)else some true) N (e,f,(0:Int)))
theorem jIa :mK 36 (bX [.pv Y0,.pv Y0] [pB] (c2A (jKn N))):=
 mO (fC (jI3 N) ja) func36 rfl N (.seq .no (.seq .no (.seq (.seq .no (.block (.loop jIS .no))) .no))) _
def jJN (c:List Z2) (b:List Z4) (f:List Z3) (d:List Z2) (i:List Z4) (e:List Z3):Z8:=
 (oB (jcO N c b d i) fun h=>bif !h then some false else oB (jKn N f e) fun a=>bif !a then some false else some true)
theorem jIY :mK 10 (bX [.agg [.pv (.sl .str),.pv Y14,.pv Y0],.agg [.pv (.sl .str),.pv Y14,.pv Y0]] [pB] (c6A (jJN N))):=
 mO (fC (jr8 N) (fC (jIa N) ja)) func10 rfl N .no _
def jnU :Sh:=⟨pI:: .dead:: .dead::pS::dz 16 [],[]⟩
def jr (c:Int):Option (Z2):=
 (bif decide (c<=0)then some ([109,48]:List UInt8)else iter (fun e (a,b)=>bif decide ((0:Int)<a)then if 10≠0 then if fits (48+(a.tmod 10))then if(bytesOf ([(IntKind.u8.wrap (48+(a.tmod 10)))]:List Int)).length+b.length<=9223372036854775807 then if 10≠0 then if fits (a.tdiv 10)then e ((a.tdiv 10),((bytesOf ([(IntKind.u8.wrap (48+(a.tmod 10)))]:List Int))++b))else none else none else none else none else none else if([109]:List UInt8).length+b.length<=9223372036854775807 then some (([109]:List UInt8)++b)else none) N (c,([]:List UInt8)))
theorem jaz :mK 108 (bX [pI] [pS] (c1A (jr N))):=
 mO ja func108 rfl N (.seq .no (.seq .no (.seq .no (.seq (.block (.loop jnU .no)) .no)))) _
def jol :Sh:=⟨.mtk 800000 .str 9 true::pI::dz 3 (pI::dz 14 []),[]⟩
def jas (e:List Z2) (f:Int):Option (Int×(List Z2)):=
 (iter (fun d (b,c,a)=>bif decide (a<(b.length:Int))then oB (jr N c) fun i=>(if 0<=a/\a<(b.length:Int)then oB (b[a.toNat]?) fun j=>(if fits (c+1)then if fits (a+1)then d ((b.set a.toNat i),(c+1),(a+1))else none else none)else none)else some (c,b)) N (e,f,(0:Int)))
theorem jdf :mK 88 (bX [.mtk 800000 .str 9 true,pI] [pI,.mtk 800000 .str 9 true] (c2A (jas N))):=
 mO (fC (jaz N) ja) func88 rfl N (.seq .no (.seq (.seq .no (.block (.loop jol .no))) .no)) _ (rs:=[800000])
def jq1 :Sh:=⟨.tre 800000 Y16 156::pI::dz 3 (pI::dz 22 []),[]⟩
def jbZ (h:List Z4) (i:Int):Option (Int×(List Z4)):=
 (iter (fun f (b,d,a)=>bif decide (a<(b.length:Int))then if 0<=a/\a<(b.length:Int)then oB (b[a.toNat]?) fun j=>(oB (jas N j.1 d) fun c=>oB (jr N c.1) fun e=>if 0<=a/\a<(b.length:Int)then oB (b[a.toNat]?) fun l=>(if fits (c.1+1)then if fits (a+1)then f (((b.set a.toNat (l.1,e)).modify a.toNat fun m=>(c.2,m.2)),(c.1+1),(a+1))else none else none)else none)else none else some (d,b)) N (h,i,(0:Int)))
theorem jqK :mK 89 (bX [.tre 800000 Y16 156,pI] [pI,.tre 800000 Y16 156] (c2A (jbZ N))):=
 mO (fC (jdf N) (fC (jaz N) ja)) func89 rfl N (.seq .no (.seq (.seq .no (.block (.loop jq1 .no))) .no)) _ (rs:=[800000])
def jb0 (e:List Z2) (d:List Z4) (c:Int):Option (Int×(List Z2)×(List Z4)):=
 (oB (jas N e c) fun b=>oB (jbZ N d b.1) fun a=>some (a.1,b.2,a.2))
theorem jrd :mK 37 (bX [.agg [.mtk 800000 .str 9 true,.tre 800001 Y16 156],pI] [pI,.mtk 800000 .str 9 true,.tre 800001 Y16 156] (c3A (jb0 N))):=
 mO (fC (jdf N) (fC (jqK N) ja)) func37 rfl N .no _ (rs:=[800000,800001])
def jrq :Sh:=⟨.mtk 800000 Y18 116 true::pI::dz 3 (pI::dz 23 []),[]⟩
def jbW (i:Z12) (j:Int):Option (Int×Z13):=
 (iter (fun h (b,c,a)=>bif decide (a<(b.length:Int))then oB (jr N c) fun e=>(if 0<=a/\a<(b.length:Int)then oB (b[a.toNat]?) fun d=>(if fits (c+1)then oB (jr N (c+1)) fun f=>(if 0<=a/\a<((b.set a.toNat (e,d.2)).length:Int)then oB ((b.set a.toNat (e,d.2))[a.toNat]?) fun l=>(if fits ((c+1)+1)then if fits (a+1)then h (((b.set a.toNat (e,d.2)).set a.toNat (l.1,f)),((c+1)+1),(a+1))else none else none)else none)else none)else none)else some (c,b)) N (i,j,(0:Int)))
theorem jo0 :mK 50 (bX [.mtk 800000 Y18 116 true,pI] [pI,.mtk 800000 Y18 116 true] (c2A (jbW N))):=
 mO (fC (jaz N) ja) func50 rfl N (.seq .no (.seq (.seq .no (.block (.loop jrq .no))) .no)) _ (rs:=[800000])
def js9 :Sh:=⟨.mtk 800000 Y15 149 true::pI::dz 3 (pI::dz 22 []),[]⟩
def jbP (h:Z7) (i:Int):Option (Int×Z9):=
 (iter (fun f (b,c,a)=>bif decide (a<(b.length:Int))then oB (jr N c) fun e=>(if 0<=a/\a<(b.length:Int)then oB (b[a.toNat]?) fun d=>(if fits (c+1)then if 0<=a/\a<((b.set a.toNat (e,d.2)).length:Int)then oB ((b.set a.toNat (e,d.2))[a.toNat]?) fun k=>(if fits ((c+1)+1)then if fits (a+1)then f (((b.set a.toNat (e,d.2)).set a.toNat (k.1,(c+1))),((c+1)+1),(a+1))else none else none)else none else none)else none)else some (c,b)) N (h,i,(0:Int)))
theorem js2 :mK 51 (bX [.mtk 800000 Y15 149 true,pI] [pI,.mtk 800000 Y15 149 true] (c2A (jbP N))):=
 mO (fC (jaz N) ja) func51 rfl N (.seq .no (.seq (.seq .no (.block (.loop js9 .no))) .no)) _ (rs:=[800000])
def jml :Sh:=⟨.tre 800000 Y4 80::pI::dz 3 (pI::dz 28 []),[]⟩
def jb4 (m:List Z0) (l:Int):Option (Int×(List Z0)):=
 (iter (fun k (b,c,a)=>bif decide (a<(b.length:Int))then if 0<=a/\a<(b.length:Int)then oB (b[a.toNat]?) fun d=>(if fits (c+1)then if 0<=a/\a<((b.set a.toNat (c,d.2)).length:Int)then oB ((b.set a.toNat (c,d.2))[a.toNat]?) fun o=>(oB (jbW N o.2.1 (c+1)) fun f=>if 0<=a/\a<((b.set a.toNat (c,d.2)).length:Int)then oB ((b.set a.toNat (c,d.2))[a.toNat]?) fun j=>(oB (jbP N j.2.2 f.1) fun e=>if fits (a+1)then k ((((b.set a.toNat (c,d.2)).modify a.toNat fun i=>(i.1,i.2.1,e.2)).modify a.toNat fun h=>(h.1,f.2,h.2.2)),e.1,(a+1))else none)else none)else none else none)else none else some (c,b)) N (m,l,(0:Int)))
theorem jnb :mK 20 (bX [.tre 800000 Y4 80,pI] [pI,.tre 800000 Y4 80] (c2A (jb4 N))):=
 mO (fC (jo0 N) (fC (js2 N) ja)) func20 rfl N (.seq .no (.seq (.seq .no (.block (.loop jml .no))) .no)) _ (rs:=[800000])
def jl9 :Sh:=⟨.mtk 800000 tI 3 true::pI::dz 3 (pI::dz 13 []),[]⟩
def jco (e:List Int) (f:Int):Option Z5:=
 (iter (fun d (b,c,a)=>bif decide (a<(b.length:Int))then if 0<=a/\a<(b.length:Int)then oB (b[a.toNat]?) fun i=>(if fits (c+1)then if fits (a+1)then d ((b.set a.toNat c),(c+1),(a+1))else none else none)else none else some (c,b)) N (e,f,(0:Int)))
theorem jr1 :mK 91 (bX [.mtk 800000 tI 3 true,pI] [pI,.mtk 800000 tI 3 true] (c2A (jco N))):=
 mO ja func91 rfl N (.seq .no (.seq (.seq .no (.block (.loop jl9 .no))) .no)) _ (rs:=[800000])
def jnn :Sh:=⟨.tre 800000 Y12 164::pI::dz 3 (pI::dz 21 []),[]⟩
def jcm (h:List Z5) (i:Int):Option (Int×(List Z5)):=
 (iter (fun f (b,c,a)=>bif decide (a<(b.length:Int))then if 0<=a/\a<(b.length:Int)then oB (b[a.toNat]?) fun d=>(if fits (c+1)then if 0<=a/\a<((b.set a.toNat (c,d.2)).length:Int)then oB ((b.set a.toNat (c,d.2))[a.toNat]?) fun k=>(oB (jco N k.2 (c+1)) fun e=>if fits (a+1)then f (((b.set a.toNat (c,d.2)).modify a.toNat fun l=>(l.1,e.2)),e.1,(a+1))else none)else none else none)else none else some (c,b)) N (h,i,(0:Int)))
theorem jrg :mK 146 (bX [.tre 800000 Y12 164,pI] [pI,.tre 800000 Y12 164] (c2A (jcm N))):=
 mO (fC (jr1 N) ja) func146 rfl N (.seq .no (.seq (.seq .no (.block (.loop jnn .no))) .no)) _ (rs:=[800000])
def jkI :Sh:=⟨.tre 800000 Y6 106::pI::dz 3 (pI::dz 30 []),[]⟩
def jcD (n:List Z1) (m:Int):Option (Int×(List Z1)):=
 (iter (fun k (b,d,a)=>bif decide (a<(b.length:Int))then oB (jr N d) fun f=>(if 0<=a/\a<(b.length:Int)then oB (b[a.toNat]?) fun e=>(if fits (d+1)then oB (jr N (d+1)) fun h=>(if 0<=a/\a<((b.set a.toNat (f,e.2)).length:Int)then oB ((b.set a.toNat (f,e.2))[a.toNat]?) fun c=>(if fits ((d+1)+1)then if 0<=a/\a<(((b.set a.toNat (f,e.2)).set a.toNat (c.1,h,c.2.2)).length:Int)then oB (((b.set a.toNat (f,e.2)).set a.toNat (c.1,h,c.2.2))[a.toNat]?) fun l=>(oB (jcm N l.2.2 ((d+1)+1)) fun i=>if fits (a+1)then k ((((b.set a.toNat (f,e.2)).set a.toNat (c.1,h,c.2.2)).modify a.toNat fun j=>(j.1,j.2.1,i.2)),i.1,(a+1))else none)else none else none)else none)else none)else none)else some (d,b)) N (n,m,(0:Int)))
theorem jlr :mK 90 (bX [.tre 800000 Y6 106,pI] [pI,.tre 800000 Y6 106] (c2A (jcD N))):=
 mO (fC (jaz N) (fC (jrg N) ja)) func90 rfl N (.seq .no (.seq (.seq .no (.block (.loop jkI .no))) .no)) _ (rs:=[800000])
def jIe :Sh:=⟨.tre 800000 Y1 62::pI::dz 3 (pI::dz 30 []),[]⟩
def jKd (n:List Z3) (l:Int):Option (Int×(List Z3)):=
 (iter (fun j (b,h,a)=>bif decide (a<(b.length:Int))then if 0<=a/\a<(b.length:Int)then oB (b[a.toNat]?) fun m=>(oB (jb4 N m.1.1 h) fun i=>if 0<=a/\a<(b.length:Int)then oB (b[a.toNat]?) fun p=>(oB (jcD N p.1.2 i.1) fun d=>if 0<=a/\a<(b.length:Int)then oB (b[a.toNat]?) fun k=>(oB (jco N k.2 d.1) fun c=>if fits (a+1)then j ((((b.modify a.toNat fun q=>(q.1,c.2)).modify a.toNat fun e=>((e.1.1,d.2),e.2)).modify a.toNat fun f=>((i.2,f.1.2),f.2)),c.1,(a+1))else none)else none)else none)else none else some (h,b)) N (n,l,(0:Int)))
theorem jIE :mK 38 (bX [.tre 800000 Y1 62,pI] [pI,.tre 800000 Y1 62] (c2A (jKd N))):=
 mO (fC (jnb N) (fC (jlr N) (fC (jr1 N) ja))) func38 rfl N (.seq .no (.seq (.seq .no (.block (.loop jIe .no))) .no)) _ (rs:=[800000])
def jJX (f:List Z2) (e:List Z4) (d:List Z3) (c:Int):Option (Int×(List Z2)×(List Z4)×(List Z3)):=
 (oB (jb0 N f e c) fun a=>oB (jKd N d a.1) fun b=>some (b.1,a.2.1,a.2.2,b.2))
theorem jJp :mK 11 (bX [.agg [.mtk 800000 .str 9 true,.tre 800001 Y16 156,.tre 800002 Y1 62],pI] [pI,.mtk 800000 .str 9 true,.tre 800001 Y16 156,.tre 800002 Y1 62] (c4A (jJX N))):=
 mO (fC (jrd N) (fC (jIE N) ja)) func11 rfl N .no _ (rs:=[800000,800001,800002])
def jo4 :Sh:=⟨.pv (.sl .str)::pI::dz 3 (pI::dz 16 []),[]⟩
def ja4 (e:List Z2) (f:Int):Z11:=
 (iter (fun d (c,b,a)=>bif decide (a<(c.length:Int))then oB (idx c a) fun h=>(oB (jr N b) fun j=>bif !decide (h=j)then some (-1)else if fits (b+1)then if fits (a+1)then d (c,(b+1),(a+1))else none else none)else some b) N (e,f,(0:Int)))
theorem jrD :mK 92 (bX [.pv (.sl .str),pI] [pI] (c2A (ja4 N))):=
 mO (fC (jaz N) ja) func92 rfl N (.seq .no (.seq (.seq .no (.block (.loop jo4 .no))) .no)) _
def jMM :Sh:=⟨.pv Y14::pI::dz 3 (pI::dz 26 []),[]⟩
def jKc (h:List Z4) (i:Int):Z11:=
 (iter (fun f (b,d,a)=>bif decide (a<(b.length:Int))then oB (idx b a) fun j=>(oB (ja4 N j.1 d) fun c=>bif decide (c<0)then some (-1)else oB (idx b a) fun l=>oB (jr N c) fun e=>bif !decide (l.2=e)then some (-1)else if fits (c+1)then if fits (a+1)then f (b,(c+1),(a+1))else none else none)else some d) N (h,i,(0:Int)))
theorem jMk :mK 93 (bX [.pv Y14,pI] [pI] (c2A (jKc N))):=
 mO (fC (jrD N) (fC (jaz N) ja)) func93 rfl N (.seq .no (.seq (.seq .no (.block (.loop jMM .no))) .no)) _
def jJ4 (e:List Z2) (d:List Z4) (c:Int):Z11:=
 (oB (ja4 N e c) fun b=>bif decide (b<0)then some (-1)else oB (jKc N d b) fun a=>bif decide (a<0)then some (-1)else some a)
theorem jLQ :mK 39 (bX [.agg [.pv (.sl .str),.pv Y14],pI] [pI] (c3A (jJ4 N))):=
 mO (fC (jrD N) (fC (jMk N) ja)) func39 rfl N .no _
def jK5 :Sh:=⟨.pv Y17::pI::dz 3 (pI::dz 27 []),[]⟩
def jJ8 (f:Z12) (h:Int):Z11:=
 (iter (fun e (c,a,b)=>bif decide (b<(c.length:Int))then oB (idx c b) fun i=>(oB (jr N a) fun l=>bif !decide (i.1=l)then some (-1)else if fits (a+1)then oB (idx c b) fun k=>(oB (jr N (a+1)) fun d=>bif !decide (k.2=d)then some (-1)else if fits ((a+1)+1)then if fits (b+1)then e (c,((a+1)+1),(b+1))else none else none)else none)else some a) N (f,h,(0:Int)))
theorem jLR :mK 147 (bX [.pv Y17,pI] [pI] (c2A (jJ8 N))):=
 mO (fC (jaz N) ja) func147 rfl N (.seq .no (.seq (.seq .no (.block (.loop jK5 .no))) .no)) _
def jNb :Sh:=⟨.pv Y13::pI::dz 3 (pI::dz 26 []),[]⟩
def jJ2 (e:Z7) (f:Int):Z11:=
 (iter (fun d (c,a,b)=>bif decide (b<(c.length:Int))then oB (idx c b) fun h=>(oB (jr N a) fun k=>bif !decide (h.1=k)then some (-1)else if fits (a+1)then oB (idx c b) fun j=>(bif !decide (j.2=(a+1))then some (-1)else if fits ((a+1)+1)then if fits (b+1)then d (c,((a+1)+1),(b+1))else none else none)else none)else some a) N (e,f,(0:Int)))
theorem jMG :mK 148 (bX [.pv Y13,pI] [pI] (c2A (jJ2 N))):=
 mO (fC (jaz N) ja) func148 rfl N (.seq .no (.seq (.seq .no (.block (.loop jNb .no))) .no)) _
def jMl :Sh:=⟨.pv Y3::pI::dz 3 (pI::dz 34 []),[]⟩
def jJY (j:List Z0) (i:Int):Z11:=
 (iter (fun f (b,c,a)=>bif decide (a<(b.length:Int))then oB (idx b a) fun k=>(bif !decide (k.1=c)then some (-1)else if fits (c+1)then oB (idx b a) fun m=>(oB (jJ8 N m.2.1 (c+1)) fun e=>bif decide (e<0)then some (-1)else oB (idx b a) fun h=>oB (jJ2 N h.2.2 e) fun d=>bif decide (d<0)then some (-1)else if fits (a+1)then f (b,d,(a+1))else none)else none)else some c) N (j,i,(0:Int)))
theorem jKZ :mK 94 (bX [.pv Y3,pI] [pI] (c2A (jJY N))):=
 mO (fC (jLR N) (fC (jMG N) ja)) func94 rfl N (.seq .no (.seq (.seq .no (.block (.loop jMl .no))) .no)) _
def jEr :Sh:=⟨.pv Y19::pI::dz 3 (pI::dz 15 []),[]⟩
def jEi (e:List Int) (f:Int):Z11:=
 (iter (fun d (c,b,a)=>bif decide (a<(c.length:Int))then oB (idx c a) fun h=>(bif !decide (h=b)then some (-1)else if fits (b+1)then if fits (a+1)then d (c,(b+1),(a+1))else none else none)else some b) N (e,f,(0:Int)))
theorem jEn :mK 96 (bX [.pv Y19,pI] [pI] (c2A (jEi N))):=
 mO ja func96 rfl N (.seq .no (.seq (.seq .no (.block (.loop jEr .no))) .no)) _
def jMS :Sh:=⟨.pv Y11::pI::dz 3 (pI::dz 25 []),[]⟩
def jJ1 (f:List Z5) (h:Int):Z11:=
 (iter (fun e (b,c,a)=>bif decide (a<(b.length:Int))then oB (idx b a) fun i=>(bif !decide (i.1=c)then some (-1)else if fits (c+1)then oB (idx b a) fun k=>(oB (jEi N k.2 (c+1)) fun d=>bif decide (d<0)then some (-1)else if fits (a+1)then e (b,d,(a+1))else none)else none)else some c) N (f,h,(0:Int)))
theorem jMN :mK 149 (bX [.pv Y11,pI] [pI] (c2A (jJ1 N))):=
 mO (fC (jEn N) ja) func149 rfl N (.seq .no (.seq (.seq .no (.block (.loop jMS .no))) .no)) _
def jK2 :Sh:=⟨.pv Y5::pI::dz 3 (pI::dz 36 []),[]⟩
def jKa (j:List Z1) (i:Int):Z11:=
 (iter (fun h (c,b,a)=>bif decide (a<(c.length:Int))then oB (idx c a) fun k=>(oB (jr N b) fun n=>bif !decide (k.1=n)then some (-1)else if fits (b+1)then oB (idx c a) fun m=>(oB (jr N (b+1)) fun e=>bif !decide (m.2.1=e)then some (-1)else if fits ((b+1)+1)then oB (idx c a) fun f=>(oB (jJ1 N f.2.2 ((b+1)+1)) fun d=>bif decide (d<0)then some (-1)else if fits (a+1)then h (c,d,(a+1))else none)else none)else none)else some b) N (j,i,(0:Int)))
theorem jLJ :mK 95 (bX [.pv Y5,pI] [pI] (c2A (jKa N))):=
 mO (fC (jaz N) (fC (jMN N) ja)) func95 rfl N (.seq .no (.seq (.seq .no (.block (.loop jK2 .no))) .no)) _
def jMb :Sh:=⟨.pv Y0::pI::dz 3 (pI::dz 36 []),[]⟩
def jJ6 (k:List Z3) (j:Int):Z11:=
 (iter (fun i (b,e,a)=>bif decide (a<(b.length:Int))then oB (idx b a) fun l=>(oB (jJY N l.1.1 e) fun f=>bif decide (f<0)then some (-1)else oB (idx b a) fun n=>oB (jKa N n.1.2 f) fun d=>bif decide (d<0)then some (-1)else oB (idx b a) fun h=>oB (jEi N h.2 d) fun c=>bif decide (c<0)then some (-1)else if fits (a+1)then i (b,c,(a+1))else none)else some e) N (k,j,(0:Int)))
theorem jMy :mK 40 (bX [.pv Y0,pI] [pI] (c2A (jJ6 N))):=
 mO (fC (jKZ N) (fC (jLJ N) (fC (jEn N) ja))) func40 rfl N (.seq .no (.seq (.seq .no (.block (.loop jMb .no))) .no)) _
def jJT (f:List Z2) (e:List Z4) (d:List Z3) (c:Int):Z11:=
 (oB (jJ4 N f e c) fun b=>bif decide (b<0)then some (-1)else oB (jJ6 N d b) fun a=>bif decide (a<0)then some (-1)else some a)
theorem jLE :mK 12 (bX [.agg [.pv (.sl .str),.pv Y14,.pv Y0],pI] [pI] (c4A (jJT N))):=
 mO (fC (jLQ N) (fC (jMy N) ja)) func12 rfl N .no _
def jJZ (h:List Z2) (e:List Z4) (f:List Z3) (l:Int):Z8:=
 (oB (jJ5 N h e f 1048576) fun v=>bif decide (v<0)then some true else oB (jJM N h e f) fun m=>oB (jJ0 N m.1 m.2.1 m.2.2 l) fun a=>oB (jJM N h e f) fun c=>oB (jJU N c.1 c.2.1 c.2.2 l) fun b=>oB (jJN N b.1 b.2.1 b.2.2.1 a.1 a.2.1 a.2.2.1) fun q=>bif !q then some false else bif !(b.2.2.2==a.2.2.2)then some false else oB (jJM N h e f) fun k=>oB (jJN N c.1 c.2.1 c.2.2 k.1 k.2.1 k.2.2) fun p=>bif !p then some false else oB (jJX N c.1 c.2.1 c.2.2 1) fun u=>bif decide (u.1<0)then some false else oB (jJN N b.1 b.2.1 b.2.2.1 a.1 a.2.1 a.2.2.1) fun t=>bif !t then some false else bif !(b.2.2.2==a.2.2.2)then some false else oB (jJX N b.1 b.2.1 b.2.2.1 1) fun d=>oB (jJT N d.2.1 d.2.2.1 d.2.2.2 1) fun o=>bif decide (o<0)then some false else bif !decide (o=d.1)then some false else oB (jJM N h e f) fun j=>oB (jJU N j.1 j.2.1 j.2.2 l) fun i=>oB (jJN N i.1 i.2.1 i.2.2.1 a.1 a.2.1 a.2.2.1) fun r=>bif !r then some false else bif !(i.2.2.2==a.2.2.2)then some false else oB (jJT N d.2.1 d.2.2.1 d.2.2.2 1) fun n=>bif decide (n<0)then some false else bif !decide (n=d.1)then some false else some true)
def jKF (N:Nat):Model:=⟨⟨[.agg [.pv (.sl .str),.pv Y14,.pv Y0],pI],[]⟩,⟨[pB],[]⟩,c4A (jJZ N)⟩
theorem jLq :mK 4 (jKF N):=
 mO (fC (jIX N) (fC (jJt N) (fC (jLL N) (fC (jNd N) (fC (jIY N) (fC (jJp N) (fC (jLE N) ja))))))) func4 rfl N .no (jKF N) (dw:=[23,29,33,38,47,48,58,71,79,81,86,95])
end Go.Proofs.YtlfbmkkddcelcaaGreat
