import Derived.Test.YtkglkigmdmohkaaGreatDoorG1A
set_option linter.unusedVariables false
set_option linter.unusedSimpArgs false
namespace Go.Proofs.YtkglkigmdmohkaaGreatDoor
open Go.RowKit Go.Proofs.Tryz
variable (N : Nat)
open Option renaming bind -> oB
def jnv :Sh:=⟨.mtk 800000 Y5 69 false::pI:: .dead:: .dead:: .clo 72 []::dz 6 (pI::pI::dz 77 []),[]⟩
def jbG (b:List Z1) (d:Int) (c:Int) (e:Int) (a:Unit):Option (Int×(List Z1)):=peqG (cmp105 N) N b d c e a
 
theorem jp1 :mK 163 (bX [.mtk 800000 Y5 69 false,pI,pI,pI,.clo 72 []] [pI,.mtk 800000 Y5 69 false] (c5A (jbG N))):=
 mO (fC (jaf N) ja) func163 rfl N (.seq .no (.seq .no (.seq .no (.seq (.block (.loop jnv (.block (.seq (.block (.loop jnv .no)) (.seq (.block (.loop jnv .no)) .no))))) .no)))) _ (rs:=[800000])
def jru :Sh:=⟨.mtk 800000 Y5 69 false::pI:: .dead:: .dead:: .clo 72 []::dz 7 (pI::pI::dz 164 []),[]⟩
def jcT (b:List Z1) (d:Int) (c:Int) (e:Int) (a:Unit):Option (Int×Bool×(List Z1)):=partG (cmp105 N) N b d c e a
 
theorem jrO :mK 164 (bX [.mtk 800000 Y5 69 false,pI,pI,pI,.clo 72 []] [.tup [pI,pB],.mtk 800000 Y5 69 false] (c5A (jcT N))):=
 mO (fC (jaf N) ja) func164 rfl N (.seq .no (.seq .no (.seq .no (.seq (.block (.loop jru .no)) (.seq (.block (.loop jru .no)) (.seq .no (.seq .no (.seq .no (.seq .no (.seq (.block (.loop jru (.block (.seq (.block (.loop jru .no)) (.seq (.block (.loop jru .no)) .no))))) .no)))))))))) _ (rs:=[800000])
def jmM :Sh:=⟨.mtk 800000 Y5 69 false::pI::pI::pI:: .clo 72 []::dz 5 (pB::pB::dz 136 []),[]⟩
def jnd :Sh:=⟨.mtk 800000 Y5 69 false::pI::pI::pI:: .clo 72 []::dz 5 (pB::pB::pI::pI::dz 134 []),[]⟩
def jmi :Sh:=⟨.mtk 800000 Y5 69 false::pI::pI::pI:: .clo 72 []::dz 5 (pB::pB::pI::pI::pI::dz 133 []),[]⟩
def js7 :Sh:=⟨.mtk 800000 Y5 69 false::pI::pI::pI:: .clo 72 []::dz 5 (pB::pB::pI::dz 135 []),[]⟩
def jK (N D:Nat) (f:List Z1) (b a limit:Int) (e:Unit):Option ((List Z1)):=pdqG (cmp105 N) (fun c b a d=>heapG (cmp105 N) N c b a d) (fun c b a h d=>peqG (cmp105 N) N c b a h d) N D f b a limit e
 
def jcj (N D:Nat):Model:=⟨⟨[.mtk 800000 Y5 69 false,pI,pI,pI,.clo 72 []],[]⟩,⟨[.tup [],.mtk 800000 Y5 69 false],[]⟩,c5A (jK N D)⟩
theorem jrm (N D:Nat) (ih:mK 122 (jcj N D)):mK 122 (jcj N (D+1)):=
 mO (fC ih (fC (jqw N) (fC (jqz N) (fC (jlO N) (fC (joO N) (fC (jma N) (fC (jnw N) (fC (jaf N) (fC (jp1 N) (fC (jrO N) ja)))))))))) func122 rfl N (.seq .no (.seq .no (.block (.loop jmM (.block (.seq .no (.seq .no (.seq .no (.meet js7 .no (.seq .no (.meet jmi .no (.meet jnd .no .no)))))))))))) (jcj N (D+1)) (rs:=[800000])
theorem jix (N:Nat):∀D,mK 122 (jcj N D)
 |0=>modelOk_none ⟨_,func122,by decide,by kernel_rfl⟩ _ (fun a=>rfl)
 |D+1=>jrm N D (jix N D)
def k_slices_SortFunc_105_m (a:List Z1) (d:Unit):Option ((List Z1)):=
 (oB (k_math_bits_Len_m N (IntKind.u64.wrap (a.length:Int))) fun b=>oB (jK N N a 0 (a.length:Int) b ()) fun c=>some c)
theorem jtu :mK 71 (bX [.mtk 800000 Y5 69 false,.clo 72 []] [.tup [],.mtk 800000 Y5 69 false] (c2A (k_slices_SortFunc_105_m N))):=
 mO (fC (jda N) (fC (jix N N) ja)) func71 rfl N .no _ (rs:=[800000])
def jmK :Sh:=⟨.dead:: .dead:: .box 2 0:: .dead:: .box 4 0:: .box 5 0::dz 19 (.pv Y2::pI::pI::dz 32 []),[(2,false,[.pv (.sl .str),.pv Y14]),(4,false,[.nils,.nils]),(5,false,[.pv Y2,.tre 700501 Y5 69])]⟩
def jor :Sh:=⟨.dead:: .dead:: .box 2 0:: .dead:: .box 4 0:: .box 5 0:: .dead:: .box 7 0::dz 17 (.pv Y2::pI::pI::dz 4 (.pv Y16::pI::pI::dz 25 [])),[(2,false,[.pv (.sl .str),.pv Y14]),(4,false,[.nils,.nils]),(5,false,[.pv Y2,.tre 700501 Y5 69]),(7,false,[pI,.pv Y16,.pv Y13])]⟩
def jnj :Sh:=⟨.dead:: .dead:: .box 2 0:: .dead:: .box 4 0:: .box 5 0:: .dead:: .box 7 0:: .dead:: .box 9 0::dz 15 (.pv Y2::pI::pI::dz 4 (.pv Y16::pI::pI::dz 6 (.own 600041 Y15 114 true::pI::pI::dz 16 []))),[(2,false,[.pv (.sl .str),.pv Y14]),(4,false,[.nils,.nils]),(5,false,[.pv Y2,.tre 700501 Y5 69]),(7,false,[pI,.pv Y16,.pv Y13]),(9,false,[pS,pS])]⟩
def jbT (c:List Z0) (c2:List Z4) (docs:List Z2):Option ((List Z2)×(List Z1)):=
 (oB (jaj N c c2) fun r=>bif !r then some (([]:List Z2),([]:List Z1))else oB (jbf N docs) fun r2=>bif !r2 then some (([]:List Z2),([]:List Z1))else oB (jbV N docs) fun r3=>iter (fun go (t25,t26,t27,c3,c4,s,s2)=>bif decide (t27<t26)then oB (idx t25 t27) fun e=>(iter (fun go2 (t252,t262,t272,t32,t33,t34,c5,c6,s3,s4,d,d2,d3)=>bif decide (t34<t33)then oB (idx t32 t34) fun e2=>(oB (jbw N c5 c6 e2.2) fun r4=>iter (fun go3 (t253,t263,t273,t322,t332,t342,t41,t42,t43,c7,c8,s5,s6,d4,d5,d6,f,f2)=>bif decide (t43<t42)then oB (idx t41 t43) fun e3=>(oB (i_Seg_put_m N f e3.1 e3.2 d4 s5 s6) fun r5=>if fits (t43+1)then go3 (t253,t263,t273,t322,t332,t342,t41,t42,(t43+1),c7,c8,r5.1,r5.2,d4,d5,d6,f,f2)else none)else if fits (t342+1)then go2 (t253,t263,t273,t322,t332,(t342+1),c7,c8,s5,s6,d4,d5,d6)else none) N (t252,t262,t272,t32,t33,t34,r4,(r4.length:Int),(0:Int),c5,c6,s3,s4,d,d2,d3,e2.1,e2.2))else if fits (t272+1)then go (t252,t262,(t272+1),c5,c6,s3,s4)else none) N (t25,t26,t27,e.2.1,(e.2.1.length:Int),(0:Int),c3,c4,s,s2,e.1,e.2.1,e.2.2))else oB (k_slices_SortFunc_105_m N s2 ()) fun r6=>some (s,r6)) N (docs,(docs.length:Int),(0:Int),c,c2,r3,([]:List Z1)))
theorem jqC :mK 28 (bX [.agg [.pv (.sl .str),.pv Y14],.pv Y2] [.agg [.pv Y2,.own 1 Y5 69 false]] (c3A (jbT N))):=
 mO (fC (jdX N) (fC (jjU N) (fC (joC N) (fC (jgO N) (fC (jky N) (fC (jtu N) ja)))))) func28 rfl N (.seq .no (.seq .no (.seq .no (.seq (.seq .no (.block (.loop jmK (.seq .no (.seq .no (.seq (.block (.seq .no (.seq .no (.block (.loop jor (.seq .no (.seq .no (.seq (.block (.seq .no (.seq .no (.block (.loop jnj .no))))) .no)))))))) .no)))))) .no)))) _ (wr:=[23]) (dw:=[23,57])
def jtB :Sh:=⟨.pv Y19:: .pv Y19::dz 10 (pI::pI::dz 12 []),[]⟩
def jbX (b:List Int) (c:List Int):Z7:=
 (bif !decide ((b.length:Int)=(c.length:Int))then some false else iter (fun j (f,d,e,a)=>bif decide (a<e)then oB (idx f a) fun h=>(oB (idx d a) fun k=>bif !decide (h=k)then some false else if fits (a+1)then j (f,d,e,(a+1))else none)else some true) N (b,c,(b.length:Int),(0:Int)))
theorem jqi :mK 125 (bX [.pv Y19,.pv Y19] [pB] (c2A (jbX N))):=
 mO ja func125 rfl N (.seq .no (.seq .no (.seq (.seq .no (.block (.loop jtB .no))) .no))) _
def jcp (d:Int) (b:List Int) (c:Int) (e:List Int):Z7:=
 (bif decide (d=c)then oB (jbX N b e) fun a=>(some a)else some false)
theorem jth :mK 76 (bX [.agg [pI,.pv Y19],.agg [pI,.pv Y19]] [pB] (c4A (jcp N))):=
 mO (fC (jqi N) ja) func76 rfl N .no _
def jlX :Sh:=⟨.dead:: .pv Y11:: .clo 76 []::dz 12 (.pv Y11::pI::pI::dz 14 []),[]⟩
def jb6 (b:Z3) (f:Z3) (m:Unit):Z7:=
 (bif !decide ((b.length:Int)=(f.length:Int))then some false else iter (fun l (h,n,e,d,a)=>bif decide (a<d)then oB (idx e a) fun c=>(oB (idx h a) fun i=>oB (jcp N c.1 c.2 i.1 i.2) fun j=>bif !j then some false else if fits (a+1)then l (h,(),e,d,(a+1))else none)else some true) N (f,(),b,(b.length:Int),(0:Int)))
theorem jnG :mK 75 (bX [.pv Y11,.pv Y11,.clo 76 []] [pB] (c3A (jb6 N))):=
 mO (fC (jth N) ja) func75 rfl N (.seq .no (.seq .no (.seq (.seq .no (.block (.loop jlX .no))) .no))) _
def jcz (e:List UInt8) (b:List UInt8) (d:Z3) (c:List UInt8) (f:List UInt8) (h:Z3):Z7:=
 (bif decide (e=c)then bif decide (b=f)then oB (jb6 N d h ()) fun a=>(some a)else(some false)else some false)
theorem jp4 :mK 29 (bX [.agg [pS,pS,.pv Y11],.agg [pS,pS,.pv Y11]] [pB] (c6A (jcz N))):=
 mO (fC (jnG N) ja) func29 rfl N .no _
def jlD :Sh:=⟨.dead:: .pv Y4:: .clo 29 []::dz 12 (.pv Y4::pI::pI::dz 14 []),[]⟩
def jcn (c:List Z1) (h:List Z1) (m:Unit):Z7:=
 (bif !decide ((c.length:Int)=(h.length:Int))then some false else iter (fun l (i,n,f,e,a)=>bif decide (a<e)then oB (idx f a) fun b=>(oB (idx i a) fun d=>oB (jcz N b.1 b.2.1 b.2.2 d.1 d.2.1 d.2.2) fun j=>bif !j then some false else if fits (a+1)then l (i,(),f,e,(a+1))else none)else some true) N (h,(),c,(c.length:Int),(0:Int)))
theorem jsa :mK 27 (bX [.pv Y4,.pv Y4,.clo 29 []] [pB] (c3A (jcn N))):=
 mO (fC (jp4 N) ja) func27 rfl N (.seq .no (.seq .no (.seq (.seq .no (.block (.loop jlD .no))) .no))) _
def i_SegOk_m (a:List Z0) (b:List Z4) (c:List Z2) (f:List Z1):Z7:=
 (oB (jaj N a b) fun d=>bif !d then some false else oB (jbf N c) fun i=>bif !i then some false else oB (jbT N a b c) fun h=>oB (jcn N h.2 f ()) fun e=>some e)
theorem joa :mK 14 (bX [.agg [.pv (.sl .str),.pv Y14],.agg [.pv Y2,.pv Y4]] [pB] (c4A (i_SegOk_m N))):=
 mO (fC (jdX N) (fC (jjU N) (fC (jqC N) (fC (jsa N) ja)))) func14 rfl N .no _
def jDx :Sh:=⟨pS::dz 4 (pI::pI::dz 23 []),[]⟩
def jxV (e:List UInt8):Z7:=
 (iter (fun d (b,c,a)=>bif decide (a<c)then oB (idx b a) fun h=>(oB (jaw N (h.toNat:Int)) fun f=>bif !f then oB (idx b a) fun k=>(bif !decide ((k.toNat:Int)=42)then oB (idx b a) fun i=>(bif !decide ((i.toNat:Int)=63)then some false else if fits (a+1)then d (b,c,(a+1))else none)else if fits (a+1)then d (b,c,(a+1))else none)else if fits (a+1)then d (b,c,(a+1))else none)else oB (jm N (b.length:Int) 1 12) fun l=>some l) N (e,(e.length:Int),(0:Int)))
theorem jz9 :mK 77 (bX [pS] [pB] (c1A (jxV N))):=
 mO (fC (jeK N) (fC (jY N) ja)) func77 rfl N (.seq .no (.seq (.seq .no (.block (.loop jDx .no))) .no)) _
def jBs :Sh:=⟨.dead::pI:: .box 2 0::dz 90 (.pv (.sl .str)::pI::pI::dz 39 []),[(2,false,[pI,pS,.pv (.sl .str),pI,pI,.pv (.sl .q)])]⟩
def jC6 :Sh:=⟨.dead::pI::dz 121 (.pv (.sl .q)::pI::pI::dz 9 []),[]⟩
def jDY :Sh:=⟨.dead::pI:: .box 2 0::dz 132 [],[(2,false,[pI,pS,.pv (.sl .str),pI,pI,.pv (.sl .q)])]⟩
def jzZ :Sh:=⟨.dead::pI:: .box 2 0:: .dead:: .dead:: .box 5 0::dz 129 [],[(2,false,[pI,pS,.pv (.sl .str),pI,pI,.pv (.sl .q)]),(5,false,[pB,pI,pI,pI,pI,pB,pI,pI])]⟩
def jxE (N:Nat):(D:Nat)->Int->Z0->(List Z0)->Int->Int->(List DQ)->Int->Z7
 |0,_,_,_,_,_,_,_=>none
 |D+1,q,q2,q3,q4,q5,q6,deep=>
 meet (fun(g:Z16)=>
 match g with
 |(deep2,q7,q8,q9,q10,q11,q12,x,x2,x3,x4,x5,x6,x7,x8)=>
 meet (fun(g:Z16)=>
 match g with
 |(deep3,q13,q14,q15,q16,q17,q18,x9,x10,x11,x12,x13,x14,x15,x16)=>
 meet (fun(g:Int×Int×Z0×(List Z0)×Int×Int×(List DQ))=>
 match g with
 |(deep4,q19,q20,q21,q22,q23,q24)=>
 iter (fun go (g:Int×(List Z0)×Int×Int×Int×Z0×(List Z0)×Int×Int×(List DQ))=>
 match g with
 |(deep5,t93,t94,t95,q25,q26,q27,q28,q29,q30)=>
 bif decide (t95<t94)then
 oB (idx t93 t95) fun e=>
 (bif decide (q25=5)then
 oB (jxV N e) fun r6=>
 (bif !r6 then
 some false
 else
 oB (jO N e) fun r7=>
 bif r7 then
 some false
 else
 bif !decide (q25=5)then
 oB (jO N e) fun r8=>
 (bif !r8 then
 some false
 else
 if fits (t95+1)then go (deep5,t93,t94,(t95+1),q25,q26,q27,q28,q29,q30)else none)
 else
 if fits (t95+1)then go (deep5,t93,t94,(t95+1),q25,q26,q27,q28,q29,q30)else none)
 else
 bif !decide (q25=5)then
 oB (jO N e) fun r9=>
 (bif !r9 then
 some false
 else
 if fits (t95+1)then go (deep5,t93,t94,(t95+1),q25,q26,q27,q28,q29,q30)else none)
 else
 if fits (t95+1)then go (deep5,t93,t94,(t95+1),q25,q26,q27,q28,q29,q30)else none)
 else
 iter (fun go2 (g:Int×(List DQ)×Int×Int)=>
 match g with
 |(deep6,t123,t124,t125)=>
 bif decide (t125<t124)then
 oB (idx t123 t125) fun e2=>
 (if fits (deep6-1)then oB (jxE N D e2.kind e2.field e2.words e2.lo e2.hi e2.kids (deep6-1)) fun r10=>
 (bif !r10 then
 some false
 else
 if fits (t125+1)then go2 (deep6,t123,t124,(t125+1))else none)else none)
 else
 some true) N (deep5,q30,(q30.length:Int),0)) N (deep4,q21,(q21.length:Int),0,q19,q20,q21,q22,q23,q24)) fun J3=>
 bif x14 then
 oB (jm N q17 q16 999999999) fun r5=>
 (bif !r5 then
 some false
 else
 bif !x14 then
 bif !decide (q17=0)then
 some false
 else
 (J3 (deep3,q13,q14,q15,q16,q17,q18))
 else
 J3 (deep3,q13,q14,q15,q16,q17,q18))
 else
 bif !x14 then
 bif !decide (q17=0)then
 some false
 else
 (J3 (deep3,q13,q14,q15,q16,q17,q18))
 else
 J3 (deep3,q13,q14,q15,q16,q17,q18)) fun J2=>
 oB (jm N (q9.length:Int) x2 x3) fun r2=>
 bif !r2 then
 some false
 else
 oB (jm N (q12.length:Int) x7 x8) fun r3=>
 bif !r3 then
 some false
 else
 oB (jm N q10 x4 x5) fun r4=>
 bif !r4 then
 some false
 else
 J2 (deep2,q7,q8,q9,q10,q11,q12,x,x2,x3,x4,x5,x6,x7,x8)) fun J=>
 bif !((mget tI (.pair .bool (.pair tI (.pair tI (.pair tI (.pair tI (.pair .bool (.pair tI tI))))))) gm_shapes q).isSome)then
 some false
 else
 bif decide (deep<1)then
 some false
 else
 bif !((((mget tI (.pair .bool (.pair tI (.pair tI (.pair tI (.pair tI (.pair .bool (.pair tI tI))))))) gm_shapes q).getD (false,(0,(0,(0,(0,(false,(0,0)))))))).1)==(!decide (q2=([]:List UInt8))))then
 some false
 else
 bif((mget tI (.pair .bool (.pair tI (.pair tI (.pair tI (.pair tI (.pair .bool (.pair tI tI))))))) gm_shapes q).getD (false,(0,(0,(0,(0,(false,(0,0)))))))).1 then
 oB (jO N q2) fun r=>
 (bif !r then
 some false
 else
 J (deep,q,q2,q3,q4,q5,q6,((mget tI (.pair .bool (.pair tI (.pair tI (.pair tI (.pair tI (.pair .bool (.pair tI tI))))))) gm_shapes q).getD (false,(0,(0,(0,(0,(false,(0,0)))))))).1,(((mget tI (.pair .bool (.pair tI (.pair tI (.pair tI (.pair tI (.pair .bool (.pair tI tI))))))) gm_shapes q).getD (false,(0,(0,(0,(0,(false,(0,0)))))))).2).1,((((mget tI (.pair .bool (.pair tI (.pair tI (.pair tI (.pair tI (.pair .bool (.pair tI tI))))))) gm_shapes q).getD (false,(0,(0,(0,(0,(false,(0,0)))))))).2).2).1,(((((mget tI (.pair .bool (.pair tI (.pair tI (.pair tI (.pair tI (.pair .bool (.pair tI tI))))))) gm_shapes q).getD (false,(0,(0,(0,(0,(false,(0,0)))))))).2).2).2).1,((((((mget tI (.pair .bool (.pair tI (.pair tI (.pair tI (.pair tI (.pair .bool (.pair tI tI))))))) gm_shapes q).getD (false,(0,(0,(0,(0,(false,(0,0)))))))).2).2).2).2).1,(((((((mget tI (.pair .bool (.pair tI (.pair tI (.pair tI (.pair tI (.pair .bool (.pair tI tI))))))) gm_shapes q).getD (false,(0,(0,(0,(0,(false,(0,0)))))))).2).2).2).2).2).1,((((((((mget tI (.pair .bool (.pair tI (.pair tI (.pair tI (.pair tI (.pair .bool (.pair tI tI))))))) gm_shapes q).getD (false,(0,(0,(0,(0,(false,(0,0)))))))).2).2).2).2).2).2).1,((((((((mget tI (.pair .bool (.pair tI (.pair tI (.pair tI (.pair tI (.pair .bool (.pair tI tI))))))) gm_shapes q).getD (false,(0,(0,(0,(0,(false,(0,0)))))))).2).2).2).2).2).2).2))
 else
 J (deep,q,q2,q3,q4,q5,q6,((mget tI (.pair .bool (.pair tI (.pair tI (.pair tI (.pair tI (.pair .bool (.pair tI tI))))))) gm_shapes q).getD (false,(0,(0,(0,(0,(false,(0,0)))))))).1,(((mget tI (.pair .bool (.pair tI (.pair tI (.pair tI (.pair tI (.pair .bool (.pair tI tI))))))) gm_shapes q).getD (false,(0,(0,(0,(0,(false,(0,0)))))))).2).1,((((mget tI (.pair .bool (.pair tI (.pair tI (.pair tI (.pair tI (.pair .bool (.pair tI tI))))))) gm_shapes q).getD (false,(0,(0,(0,(0,(false,(0,0)))))))).2).2).1,(((((mget tI (.pair .bool (.pair tI (.pair tI (.pair tI (.pair tI (.pair .bool (.pair tI tI))))))) gm_shapes q).getD (false,(0,(0,(0,(0,(false,(0,0)))))))).2).2).2).1,((((((mget tI (.pair .bool (.pair tI (.pair tI (.pair tI (.pair tI (.pair .bool (.pair tI tI))))))) gm_shapes q).getD (false,(0,(0,(0,(0,(false,(0,0)))))))).2).2).2).2).1,(((((((mget tI (.pair .bool (.pair tI (.pair tI (.pair tI (.pair tI (.pair .bool (.pair tI tI))))))) gm_shapes q).getD (false,(0,(0,(0,(0,(false,(0,0)))))))).2).2).2).2).2).1,((((((((mget tI (.pair .bool (.pair tI (.pair tI (.pair tI (.pair tI (.pair .bool (.pair tI tI))))))) gm_shapes q).getD (false,(0,(0,(0,(0,(false,(0,0)))))))).2).2).2).2).2).2).1,((((((((mget tI (.pair .bool (.pair tI (.pair tI (.pair tI (.pair tI (.pair .bool (.pair tI tI))))))) gm_shapes q).getD (false,(0,(0,(0,(0,(false,(0,0)))))))).2).2).2).2).2).2).2)
def jyl (N D:Nat):Model:=⟨⟨[.agg [pI,pS,.pv (.sl .str),pI,pI,.pv (.sl .q)],pI],[]⟩,⟨[pB],[]⟩,c7A (jxE N D)⟩
theorem jAF (N D:Nat) (ih:mK 30 (jyl N D)):mK 30 (jyl N (D+1)):=
 mO (fC ih (fC (jcM N) (fC (jY N) (fC (jz9 N) ja)))) func30 rfl N (.seq .no (.seq .no (.meet jzZ .no (.meet jzZ .no (.meet jDY .no (.seq (.seq .no (.block (.loop jBs .no))) (.seq (.seq .no (.block (.loop jC6 .no))) .no))))))) (jyl N (D+1))
theorem jzh (N:Nat):∀D,mK 30 (jyl N D)
 |0=>modelOk_none ⟨_,func30,by decide,by kernel_rfl⟩ _ (fun a=>rfl)
 |D+1=>jAF N D (jzh N D)
def i_QueryOk_m (h:Int) (c:List UInt8) (f:List Z0) (b:Int) (d:Int) (e:List DQ):Z7:=
 (oB (jxE N N h c f b d e 4) fun a=>some a)
theorem jCN :mK 15 (bX [.agg [pI,pS,.pv (.sl .str),pI,pI,.pv (.sl .q)]] [pB] (c6A (i_QueryOk_m N))):=
 mO (fC (jzh N N) ja) func15 rfl N .no _
def jyc (e:List Z0) (f:List Z4) (b:List UInt8):Option (Z0):=
 (oB (jO N b) fun c=>bif !c then some ([]:List UInt8)else oB (jbw N e f b) fun a=>bif decide ((a.length:Int)=0)then some ([]:List UInt8)else oB (idx a 0) fun d=>some d.1)
theorem jBn :mK 32 (bX [.agg [.pv (.sl .str),.pv Y14],pS] [pS] (c3A (jyc N))):=
 mO (fC (jcM N) (fC (jgO N) ja)) func32 rfl N .no _
def jnu :Sh:=⟨.dead::pS::pS::dz 9 (.pv Y4::pI::pI::dz 16 []),[]⟩
def i_Seg_posts_m (i:(List Z2)×(List Z1)) (k:List UInt8) (l:List UInt8):Option (Z13):=
 (iter (fun h (c,d,e,f,a)=>bif decide (a<f)then oB (idx e a) fun b=>(bif decide (b.1=c)then bif decide (b.2.1=d)then some b.2.2 else(if fits (a+1)then h (c,d,e,f,(a+1))else none)else if fits (a+1)then h (c,d,e,f,(a+1))else none)else some ([]:Z3)) N (k,l,i.2,(i.2.length:Int),(0:Int)))
theorem jcq :mK 80 (bX [.ptr Y1,pS,pS] [.pv Y11] (c3A (i_Seg_posts_m N))):=
 mO ja func80 rfl N (.seq .no (.seq (.seq .no (.block (.loop jnu .no))) .no)) _
def jni :Sh:=⟨dz 3 (pI::dz 12 (.pv Y11::pI::pI::dz 10 [])),[]⟩
def i_scorer_places_m (h:((List Z0)×(List Z4))×(List Z2)×(List Z1)) (k:List UInt8) (l:List UInt8) (m:Int):Option ((List Int)):=
 (oB (i_Seg_posts_m N h.2 k l) fun b=>iter (fun j (f,d,e,a)=>bif decide (a<e)then oB (idx d a) fun c=>(bif decide (c.1=f)then some c.2 else if fits (a+1)then j (f,d,e,(a+1))else none)else some ([]:List Int)) N (m,b,(b.length:Int),(0:Int)))
theorem jrB :mK 38 (bX [.ptr Y0,pS,pS,pI] [.pv Y19] (c4A (i_scorer_places_m N))):=
 mO (fC (jcq N) ja) func38 rfl N (.seq .no (.seq (.seq .no (.block (.loop jni .no))) .no)) _
def jmV :Sh:=⟨.dead::pS::dz 8 (.pv Y16::pI::pI::dz 10 []),[]⟩
def i_DocField_m (j:Int) (b:Z12) (l:Z6) (m:List UInt8):Option (Z0):=
 (oB (jbx N j b l) fun h=>bif h then iter (fun k (f,d,e,a)=>bif decide (a<e)then oB (idx d a) fun c=>(bif decide (c.1=f)then some c.2 else if fits (a+1)then k (f,d,e,(a+1))else none)else some ([]:List UInt8)) N (m,b,(b.length:Int),(0:Int))else some ([]:List UInt8))
theorem jqd :mK 126 (bX [.agg [pI,.pv Y16,.pv Y13],pS] [pS] (c4A (i_DocField_m N))):=
 mO (fC (jh0 N) ja) func126 rfl N (.seq .no (.seq (.seq .no (.cond (.seq .no (.block (.loop jmV .no))) .no)) .no)) _
def i_Seg_long_m (i:(List Z2)×(List Z1)) (b:List Z0) (c:List Z4) (d:List UInt8) (h:Int):Z11:=
 (oB (i_Seg_doc_m N i h) fun a=>bif !a.2.2.2 then some 0 else oB (i_DocField_m N a.1 a.2.1 a.2.2.1 d) fun f=>oB (jbw N b c f) fun e=>some (e.length:Int))
theorem jhs :mK 78 (bX [.ptr Y1,.agg [.pv (.sl .str),.pv Y14],pS,pI] [pI] (c5A (i_Seg_long_m N))):=
 mO (fC (jlU N) (fC (jqd N) (fC (jgO N) ja))) func78 rfl N .no _
def joq :Sh:=⟨pI::pI::dz 13 [],[]⟩
def ja2 (e:Int) (c:Int):Z11:=
 (iter (fun f (a,b)=>bif !decide (b=0)then if b≠0 then f (b,(a.tmod b))else none else if fits (0-a)then some (if(0-a)>a then 0-a else a)else none) N (e,c))
theorem jiQ :mK 168 (bX [pI,pI] [pI] (c2A (ja2 N))):=
 mO ja func168 rfl N (.seq .no (.seq (.block (.loop joq .no)) .no)) _
def jbk (a:Int) (b:Int):Z7:=
 (oB (jm N a (-1000000000) 1000000000) fun e=>bif e then oB (jm N b 1 1000000000) fun c=>(bif c then oB (ja2 N a b) fun d=>(some (decide (d=1)))else some false)else some false)
theorem jhS :mK 128 (bX [.agg [pI,pI]] [pB] (c2A (jbk N))):=
 mO (fC (jY N) (fC (jiQ N) ja)) func128 rfl N .no _
def jk5 :Sh:=⟨pI::pI:: .dead:: .dead:: .box 4 0::dz 24 [],[(4,false,[pI,pI])]⟩
def jcl (e:Int) (d:Int):Option (Int×Int×Bool):=
 (meet (fun(h:Int×Int×Int×Int)=>match h with|(b,c,j,k)=>oB (ja2 N b c) fun a=>if a≠0 then if fits (b.tdiv a)then if a≠0 then if fits (c.tdiv a)then oB (jbk N (b.tdiv a) (c.tdiv a)) fun i=>(bif !i then some (0,1,false)else some ((b.tdiv a),(c.tdiv a),true))else none else none else none else none) fun f=>bif decide (d<0)then if fits (0-e)then if fits (0-d)then f ((0-e),(0-d),0,0)else none else none else f (e,d,0,0))
theorem jlG :mK 167 (bX [pI,pI] [.tup [.agg [pI,pI],pB]] (c2A (jcl N))):=
 mO (fC (jiQ N) (fC (jhS N) ja)) func167 rfl N (.seq .no (.meet jk5 .no .no)) _
def jb7 (c:Int) (a:Int):Option (Int×Int×Bool):=
 (oB (jm N c (-1000000000) 1000000000) fun d=>bif !d then some (0,1,false)else oB (jm N a (-1000000000) 1000000000) fun e=>bif !e then some (0,1,false)else bif decide (a=0)then some (0,1,false)else oB (jcl N c a) fun b=>some (b.1,b.2.1,b.2.2))
theorem jpX :mK 127 (bX [pI,pI] [.tup [.agg [pI,pI],pB]] (c2A (jb7 N))):=
 mO (fC (jY N) (fC (jlG N) ja)) func127 rfl N .no _
def jtO :Sh:=⟨pI::pI::pI::pI::pI::dz 5 (.box 10 0:: .dead::pI::dz 53 []),[(10,false,[pI,pI])]⟩
def i_TermScore_m (h:Int) (j:Int) (l:Int) (i:Int) (m:Int):Option (Int×Int×Bool):=
 (oB (jm N h 1 80) fun r=>bif !r then some (0,1,false)else oB (jm N j h 80) fun q=>bif !q then some (0,1,false)else oB (jm N i 1 16) fun w=>bif !w then some (0,1,false)else oB (jm N m 1 i) fun t=>bif !t then some (0,1,false)else oB (jm N l j 1280) fun u=>bif !u then some (0,1,false)else iter (fun o (b,d,e,c,k,a,v,p)=>if fits (a+1)then if 0<=(a+1)then if fits (k*2^(min (a+1).toNat (IntKind.bits .i64)))then bif decide ((k*2^(min (a+1).toNat (IntKind.bits .i64)))<=c)then if fits (a+1)then o (b,d,e,c,k,(a+1),v,p)else none else(if fits (22*b)then if fits (a+1)then if fits ((22*b)*(a+1))then if fits (10*b)then if fits ((10*b)+3)then if fits (9*d)then if fits ((9*d)*c)then if e≠0 then if fits (((9*d)*c).tdiv e)then if fits (((10*b)+3)+(((9*d)*c).tdiv e))then oB (jb7 N ((22*b)*(a+1)) (((10*b)+3)+(((9*d)*c).tdiv e))) fun f=>(some (f.1,f.2.1,f.2.2))else none else none else none else none else none else none else none else none else none else none)else none else none else none) N (h,j,l,i,m,(0:Int),(0:Int),(0:Int)))
theorem jgE :mK 79 (bX [pI,pI,pI,pI,pI] [.tup [.agg [pI,pI],pB]] (c5A (i_TermScore_m N))):=
 mO (fC (jY N) (fC (jpX N) ja)) func79 rfl N (.seq .no (.seq .no (.seq .no (.seq (.block (.loop jtO .no)) .no)))) _
def i_RatFloor_m (b:Int) (a:Int) (c:Int):Z11:=
 (oB (jbk N b a) fun e=>bif !e then some 0 else oB (jm N c 1 1000) fun d=>bif !d then some 0 else if fits (b*c)then bif decide ((0:Int)<=(b*c))then if a≠0 then if fits ((b*c).tdiv a)then some ((b*c).tdiv a)else none else none else(if fits (0-(b*c))then if fits ((0-(b*c))+a)then if fits (((0-(b*c))+a)-1)then if a≠0 then if fits ((((0-(b*c))+a)-1).tdiv a)then if fits (0-((((0-(b*c))+a)-1).tdiv a))then some (0-((((0-(b*c))+a)-1).tdiv a))else none else none else none else none else none else none)else none)
theorem jiY :mK 81 (bX [.agg [pI,pI],pI] [pI] (c3A (i_RatFloor_m N))):=
 mO (fC (jhS N) (fC (jY N) ja)) func81 rfl N .no _
def jlZ :Sh:=⟨.ptr Y0::pS::pS::pI::dz 5 (.pv Y19::pI::dz 16 (.pv Y2::pI::pI::dz 49 [])),[]⟩
def i_scorer_points_m (b:((List Z0)×(List Z4))×(List Z2)×(List Z1)) (p:List UInt8) (i:List UInt8) (q:Int):Z11:=
 (oB (i_scorer_places_m N b p i q) fun k=>bif decide ((k.length:Int)=0)then some 0 else iter (fun t (a,c,m,o,f,e,h,n,d)=>bif decide (d<n)then oB (idx h d) fun w=>(oB (i_Seg_long_m N a.2 a.1.1 a.1.2 c w.1) fun j=>if fits (e+j)then if fits (d+1)then t (a,c,m,o,f,(e+j),h,n,(d+1))else none else none)else oB (i_Seg_long_m N a.2 a.1.1 a.1.2 c o) fun x=>oB (i_Seg_posts_m N a.2 c m) fun v=>oB (i_TermScore_m N (f.length:Int) x e (a.2.1.length:Int) (v.length:Int)) fun l=>oB (i_RatFloor_m N l.1 l.2.1 1000) fun u=>some u) N (b,p,i,q,k,(0:Int),b.2.1,(b.2.1.length:Int),(0:Int)))
theorem jsD :mK 31 (bX [.ptr Y0,pS,pS,pI] [pI] (c4A (i_scorer_points_m N))):=
 mO (fC (jrB N) (fC (jhs N) (fC (jcq N) (fC (jgE N) (fC (jiY N) ja))))) func31 rfl N (.seq .no (.seq .no (.seq .no (.seq .no (.seq (.seq .no (.block (.loop jlZ .no))) .no))))) _
def jyu (N:Nat) (b:List Z0) (a:List UInt8):Option (Z0):=jxR b a
 
def jBB (N:Nat):Model:=⟨⟨[.pv (.sl .str),pS],[]⟩,⟨[pS],[]⟩,c2A (jyu N)⟩
theorem jBE :mK 44 (jBB N):=jBz
def jDT :Sh:=⟨.pv Y19::dz 4 (.pv Y19::pI::pI::dz 24 []),[]⟩
def jx1 (d:List Int):Z7:=
 (iter (fun h (b,e,c,a)=>bif decide (a<c)then oB (idx e a) fun f=>(oB (jm N f 0 999999999) fun i=>bif !i then some false else bif decide ((0:Int)<a)then if fits (a-1)then oB (idx b (a-1)) fun k=>(bif decide (f<=k)then some false else if fits (a+1)then h (b,e,c,(a+1))else none)else none else if fits (a+1)then h (b,e,c,(a+1))else none)else some (decide ((b.length:Int)<=60))) N (d,d,(d.length:Int),(0:Int)))
theorem jAN :mK 196 (bX [.pv Y19] [pB] (c1A (jx1 N))):=
 mO (fC (jY N) ja) func196 rfl N (.seq .no (.seq (.seq .no (.block (.loop jDT .no))) .no)) _
def jBY :Sh:=⟨.pv (.sl Y19)::dz 4 (.pv (.sl Y19)::pI::pI::dz 10 []),[]⟩
def jyD (b:List (List Int)):Z7:=
 (iter (fun j (c,e,d,a)=>bif decide (a<d)then oB (idx e a) fun h=>(oB (jx1 N h) fun f=>bif !f then some false else if fits (a+1)then j (c,e,d,(a+1))else none)else some (decide ((c.length:Int)<=6))) N (b,b,(b.length:Int),(0:Int)))
theorem jD9 :mK 169 (bX [.pv (.sl Y19)] [pB] (c1A (jyD N))):=
 mO (fC (jAN N) ja) func169 rfl N (.seq .no (.seq (.seq .no (.block (.loop jBY .no))) .no)) _
def jyK (a:List (List Int)):Z7:=
 (bif decide ((0:Int)<a.length)then oB (jyD N a) fun b=>(some b)else some false)
theorem jD6 :mK 129 (bX [.pv (.sl Y19)] [pB] (c1A (jyK N))):=
 mO (fC (jD9 N) ja) func129 rfl N .no _
def jxH (N:Nat) (a:Int):Z7:=
 (some (!decide (a=a)))
theorem joK :mK 214 (bX [pI] [pB] (c1A (jxH N))):=
 mO ja func214 rfl N .no _
def jye (a:Int) (b:Int):Z7:=
 (oB (jxH N a) fun c=>bif c then oB (jxH N b) fun d=>(bif !d then some true else some (decide (a<b)))else some (decide (a<b)))
theorem jA5 :mK 197 (bX [pI,pI] [pB] (c2A (jye N))):=
 mO (fC (joK N) ja) func197 rfl N .no _
def jxW (N:Nat) (a:Int):Z7:=
 (some (!decide (a=a)))
theorem jCp :mK 198 (bX [pI] [pB] (c1A (jxW N))):=
 mO ja func198 rfl N .no _
def jB3 :Sh:=⟨.pv Y19::pI::dz 4 (pI::pI::pI::dz 45 []),[]⟩
def jyA (e:List Int) (l:Int):Option (Int×Bool):=
 (iter (fun h (d,c,f,a,b)=>bif decide (a<b)then if fits (a+b)then if 0<=(1:Int)then oB (idx d (IntKind.i64.wrap ((IntKind.u64.wrap (a+b)).fdiv (2^(min (1:Int).toNat (IntKind.bits .u64)))))) fun j=>(oB (jye N j c) fun i=>bif i then if fits ((IntKind.i64.wrap ((IntKind.u64.wrap (a+b)).fdiv (2^(min (1:Int).toNat (IntKind.bits .u64)))))+1)then h (d,c,f,((IntKind.i64.wrap ((IntKind.u64.wrap (a+b)).fdiv (2^(min (1:Int).toNat (IntKind.bits .u64)))))+1),b)else none else h (d,c,f,a,(IntKind.i64.wrap ((IntKind.u64.wrap (a+b)).fdiv (2^(min (1:Int).toNat (IntKind.bits .u64)))))))else none else none else bif decide (a<f)then oB (idx d a) fun m=>(bif decide (m=c)then some (a,true)else oB (idx d a) fun p=>oB (jxW N p) fun o=>bif o then oB (jxW N c) fun n=>(some (a,n))else some (a,false))else some (a,false)) N (e,l,(e.length:Int),(0:Int),(e.length:Int)))
theorem jDL :mK 170 (bX [.pv Y19,pI] [.tup [pI,pB]] (c2A (jyA N))):=
 mO (fC (jA5 N) (fC (jCp N) ja)) func170 rfl N (.seq .no (.seq .no (.seq .no (.seq (.block (.loop jB3 .no)) .no)))) _
def jys (a:List Int) (d:Int):Option (Int×Bool):=
 (oB (jyA N a d) fun b=>bif decide (b.1=(a.length:Int))then some (0,false)else oB (idx a b.1) fun c=>some (c,true))
theorem jAO :mK 130 (bX [.pv Y19,pI] [.tup [pI,pB]] (c2A (jys N))):=
 mO (fC (jDL N) ja) func130 rfl N .no _
def jBS :Sh:=⟨.pv (.sl Y19)::pI::dz 3 (.own 600005 tI 3 true::dz 20 (.pv Y19::pI::pI::dz 42 [])),[]⟩
def jDv :Sh:=⟨.pv (.sl Y19)::pI::dz 3 (.own 600005 tI 3 true:: .dead::pI::pI::pB::dz 16 (.pv Y19::pI::pI::dz 5 (.pv (.sl Y19)::pI::pI::dz 34 []))),[]⟩
def jyw (n:List (List Int)) (B:Int):Option ((List Int)):=
 (oB (jyK N n) fun G=>bif !G then some ([]:List Int)else oB (jm N B 0 5) fun C=>bif !C then some ([]:List Int)else oB (idx n 0) fun w=>iter (fun m (k,E,y,x,t,q)=>bif decide (q<t)then oB (idx x q) fun u=>(oB (cut k 1 (k.length:Int)) fun v=>iter (fun z (a,d,f,c,p,A,h,i,b,o,l,e)=>bif decide (e<l)then oB (idx o e) fun D=>(if fits (p+1)then oB (jys N D (p+1)) fun r=>(bif A then if fits (e+1)then z (a,d,f,c,r.1,r.2,h,i,b,o,l,(e+1))else none else if fits (e+1)then z (a,d,f,c,r.1,false,h,i,b,o,l,(e+1))else none)else none)else bif A then if fits (c+(a.length:Int))then if fits ((c+(a.length:Int))-1)then if fits (((c+(a.length:Int))-1)+d)then bif decide (p<=(((c+(a.length:Int))-1)+d))then if room f.length ([c]:List Int).length 8 then if fits (b+1)then m (a,d,(f++([c]:List Int)),h,i,(b+1))else none else none else(if fits (b+1)then m (a,d,f,h,i,(b+1))else none)else none else none else none else if fits (b+1)then m (a,d,f,h,i,(b+1))else none) N (k,E,y,u,u,true,x,t,q,v,(v.length:Int),(0:Int)))else some y) N (n,B,([]:List Int),w,(w.length:Int),(0:Int)))
theorem jCX :mK 82 (bX [.pv (.sl Y19),pI] [.own 1 tI 3 true] (c2A (jyw N))):=
 mO (fC (jD6 N) (fC (jY N) (fC (jAO N) ja))) func82 rfl N (.seq .no (.seq .no (.seq .no (.seq (.seq .no (.block (.loop jBS (.seq .no (.seq .no (.seq (.block (.seq .no (.seq .no (.seq (.seq .no (.block (.loop jDv .no))) .no)))) .no)))))) .no)))) _
def jCk :Sh:=⟨.ptr Y0::dz 3 (.box 4 0:: .box 5 0:: .dead:: .own 600007 Y15 114 true:: .own 600008 Y19 84 true::pI::dz 18 (.pv Y13::pI::pI::dz 59 [])),[(4,false,[pI,pS,.pv (.sl .str),pI,pI,.pv (.sl .q)]),(5,false,[pI,.pv Y16,.pv Y13])]⟩
def jDK :Sh:=⟨.ptr Y0::dz 3 (.box 4 0:: .box 5 0:: .dead:: .own 600007 Y15 114 true:: .own 600008 Y19 84 true::pI::pI:: .box 11 0:: .own 600012 tI 3 true::dz 15 (.pv Y13::pI::pI::dz 12 (.pv Y19::pI::pI::dz 44 []))),[(4,false,[pI,pS,.pv (.sl .str),pI,pI,.pv (.sl .q)]),(5,false,[pI,.pv Y16,.pv Y13]),(11,false,[pS,pI])]⟩
def jyB (x:((List Z0)×(List Z4))×(List Z2)×(List Z1)) (q:Int) (q2:List UInt8) (q3:List Z0) (q4:Int) (q5:Int) (q6:List DQ) (d:Int) (d2:Z12) (d3:Z6):Z11:=
 (oB (jyu N q3 ([32]:List UInt8)) fun r=>oB (jbw N x.1.1 x.1.2 r) fun r2=>bif decide ((r2.length:Int)=0)then some 0 else iter (fun go (x2,terms,lists,all,t28,t29,t30,q7,q8,q9,q10,q11,q12,d4,d5,d6)=>bif decide (t30<t29)then oB (idx t28 t30) fun e=>(oB (i_scorer_places_m N x2 q8 e.1 d4) fun r3=>iter (fun go2 (x3,terms2,lists2,all2,i,list,t282,t292,t302,t43,t44,t45,q13,q14,q15,q16,q17,q18,d7,d8,d9,t,t2)=>bif decide (t45<t44)then oB (idx t43 t45) fun e2=>(oB (idx terms2 0) fun e3=>if fits (t2-e3.2)then if fits ((t2-e3.2)-i)then if fits (e2-((t2-e3.2)-i))then bif decide ((0:Int)<=(e2-((t2-e3.2)-i)))then if room list.length ([(e2-((t2-e3.2)-i))]:List Int).length 8 then if fits (t45+1)then go2 (x3,terms2,lists2,all2,i,(list++([(e2-((t2-e3.2)-i))]:List Int)),t282,t292,t302,t43,t44,(t45+1),q13,q14,q15,q16,q17,q18,d7,d8,d9,t,t2)else none else none else(if fits (t45+1)then go2 (x3,terms2,lists2,all2,i,list,t282,t292,t302,t43,t44,(t45+1),q13,q14,q15,q16,q17,q18,d7,d8,d9,t,t2)else none)else none else none else none)else if room lists2.length ([list]:List (List Int)).length 24 then oB (i_scorer_points_m N x3 q14 t d7) fun r4=>(if fits (all2+r4)then if fits (t302+1)then go (x3,terms2,(lists2++([list]:List (List Int))),(all2+r4),t282,t292,(t302+1),q13,q14,q15,q16,q17,q18,d7,d8,d9)else none else none)else none) N (x2,terms,lists,all,t30,([]:List Int),t28,t29,t30,r3,(r3.length:Int),(0:Int),q7,q8,q9,q10,q11,q12,d4,d5,d6,e.1,e.2))else oB (jyw N lists q10) fun r5=>if fits ((if(r5.length:Int)<3 then(r5.length:Int)else 3)*all)then some ((if(r5.length:Int)<3 then(r5.length:Int)else 3)*all)else none) N (x,r2,([]:List (List Int)),(0:Int),r2,(r2.length:Int),(0:Int),q,q2,q3,q4,q5,q6,d,d2,d3))
theorem jDC :mK 33 (bX [.ptr Y0,.agg [pI,pS,.pv (.sl .str),pI,pI,.pv (.sl .q)],.agg [pI,.pv Y16,.pv Y13]] [pI] (c10A (jyB N))):=
 mO (fC (jBE N) (fC (jgO N) (fC (jrB N) (fC (jsD N) (fC (jCX N) ja))))) func33 rfl N (.seq .no (.seq .no (.seq .no (.seq .no (.seq .no (.seq (.seq .no (.block (.loop jCk (.seq .no (.seq .no (.seq (.block (.seq .no (.seq .no (.seq (.seq .no (.block (.loop jDK .no))) .no)))) .no)))))) .no)))))) _
def jtE :Sh:=⟨.dead::pS::dz 3 (.own 600005 .str 9 true::dz 6 (.pv Y4::pI::pI::dz 14 [])),[]⟩
def i_Seg_terms_m (i:(List Z2)×(List Z1)) (k:List UInt8):Option ((List Z0)):=
 (iter (fun h (d,b,e,f,a)=>bif decide (a<f)then oB (idx e a) fun c=>(bif decide (c.1=d)then if room b.length ([c.2.1]:List Z0).length 16 then if fits (a+1)then h (d,(b++([c.2.1]:List Z0)),e,f,(a+1))else none else none else if fits (a+1)then h (d,b,e,f,(a+1))else none)else some b) N (k,([]:List Z0),i.2,(i.2.length:Int),(0:Int)))
theorem jln :mK 34 (bX [.ptr Y1,pS] [.own 1 .str 9 true] (c2A (i_Seg_terms_m N))):=
 mO ja func34 rfl N (.seq .no (.seq .no (.seq (.seq .no (.block (.loop jtE .no))) .no))) _
def jDE :Sh:=⟨pS::pS::dz 3 (.mtk 600005 tI 3 true::dz 18 (pI::pI::dz 62 [])),[]⟩
def jBC :Sh:=⟨pS::pS::dz 3 (.mtk 600005 tI 3 true:: .dead::pI::dz 80 []),[]⟩
def jCv :Sh:=⟨pS::pS::dz 3 (.mtk 600005 tI 3 true:: .dead::pI::pI::pI::dz 78 []),[]⟩
def jAI :Sh:=⟨pS::pS::dz 3 (.mtk 600005 tI 3 true:: .dead::pI:: .dead::pI::pI::dz 77 []),[]⟩
def jAQ :Sh:=⟨pS::pS::dz 3 (.mtk 22 tI 3 true::dz 82 []),[]⟩
def jDZ :Sh:=⟨pS::pS::dz 86 [],[]⟩
def i_NearFar_m (a:List UInt8) (b:List UInt8):Z11:=
 (meet (fun(g:Z0×Z0)=>match g with|(a2,b2)=>meet (fun(g:Z0×Z0×(List Int))=>match g with|(a3,b3,row)=>iter (fun go (a4,b4,row2,t24,t25)=>bif decide (t25<t24)then if 0<=t25/\t25<(row2.length:Int)then oB (row2[t25.toNat]?) fun e=>(if fits (t25+1)then go (a4,b4,(row2.set t25.toNat t25),t24,(t25+1))else none)else none else iter (fun go2 (a5,b5,row3,i)=>bif decide (i<=(a5.length:Int))then if 0<=(0:Int)/\(0:Int)<row3.length then oB (row3[(0:Int).toNat]?) fun e2=>(if 0<=(0:Int)/\(0:Int)<row3.length then oB (row3[(0:Int).toNat]?) fun e3=>(iter (fun go3 (a6,b6,row4,i2,corner,j)=>bif decide (j<=(b6.length:Int))then meet (fun(g:Z15)=>match g with|(a7,b7,row5,i3,j2,cost)=>if 0<=j2/\j2<(row5.length:Int)then oB (row5[j2.toNat]?) fun e4=>(if 0<=j2/\j2<(row5.length:Int)then oB (row5[j2.toNat]?) fun e5=>(if fits (e5+1)then if fits (j2-1)then if 0<=(j2-1)/\(j2-1)<(row5.length:Int)then oB (row5[(j2-1).toNat]?) fun e6=>(if fits (e6+1)then if 0<=j2/\j2<(row5.length:Int)then oB (row5[j2.toNat]?) fun e7=>(if fits (j2+1)then go3 (a7,b7,(row5.set j2.toNat (if(e6+1)<(if(e5+1)<cost then e5+1 else cost)then e6+1 else if(e5+1)<cost then e5+1 else cost)),i3,e4,(j2+1))else none)else none else none)else none else none else none)else none)else none) fun J3=>(if fits (i2-1)then oB (idx a6 (i2-1)) fun c=>(if fits (j-1)then oB (idx b6 (j-1)) fun c2=>(bif !decide ((c.toNat:Int)=(c2.toNat:Int))then if fits (corner+1)then J3 (a6,b6,row4,i2,j,(corner+1))else none else J3 (a6,b6,row4,i2,j,corner))else none)else none)else if fits (i2+1)then go2 (a6,b6,row4,(i2+1))else none) N (a5,b5,(row3.set (0:Int).toNat i),i,e2,(1:Int)))else none)else none else if 0<=(b5.length:Int)/\(b5.length:Int)<(row3.length:Int)then oB (row3[(b5.length:Int).toNat]?) fun e8=>(some e8)else none) N (a4,b4,row2,(1:Int))) N (a3,b3,row,(row.length:Int),(0:Int))) fun J2=>if fits ((b2.length:Int)+1)then if((b2.length:Int)+1)=((b2.length:Int)+1)/\0<=((b2.length:Int)+1)/\((b2.length:Int)+1)*8<=140737488355328/\((b2.length:Int)+1)<=140737488355328 then J2 (a2,b2,(List.replicate ((b2.length:Int)+1).toNat 0))else none else none) fun J=>oB (jO N a) fun r=>bif !r then some (-1)else oB (jO N b) fun r2=>bif !r2 then some (-1)else J (a,b))
theorem jDu :mK 35 (bX [pS,pS] [pI] (c2A (i_NearFar_m N))):=
 mO (fC (jcM N) ja) func35 rfl N (.seq .no (.meet jDZ .no (.meet jAQ .no (.seq (.seq .no (.block (.loop jDE .no))) (.seq (.seq .no (.block (.loop jBC (.seq .no (.seq (.block (.seq .no (.seq .no (.seq .no (.block (.loop jCv (.seq .no (.seq (.block (.seq .no (.meet jAI .no .no))) .no)))))))) .no))))) .no))))) _ (wr:=[22])
def jxG (N:Nat):(D:Nat)->Z0->Z0->Z7
 |0,_,_=>none
 |D+1,p,s=>
 bif decide (p=([]:List UInt8))then
 some (decide (s=([]:List UInt8)))
 else
 oB (idx p 0) fun c=>
 bif decide ((c.toNat:Int)=42)then
 oB (cut p 1 (p.length:Int)) fun y=>
 (oB (jxG N D y s) fun r=>
 bif r then
 some true
 else
 bif !decide (s=([]:List UInt8))then
 oB (cut s 1 (s.length:Int)) fun y2=>
 (oB (jxG N D p y2) fun r2=>
 some r2)
 else
 some false)
 else
 bif decide (s=([]:List UInt8))then
 some false
 else
 oB (idx p 0) fun c2=>
 bif decide ((c2.toNat:Int)=63)then
 oB (cut p 1 (p.length:Int)) fun y3=>
 (oB (cut s 1 (s.length:Int)) fun y4=>
 oB (jxG N D y3 y4) fun r3=>
 some r3)
 else
 oB (idx p 0) fun c3=>
 oB (idx s 0) fun c4=>
 bif decide ((c3.toNat:Int)=(c4.toNat:Int))then
 oB (cut p 1 (p.length:Int)) fun y5=>
 (oB (cut s 1 (s.length:Int)) fun y6=>
 oB (jxG N D y5 y6) fun r4=>
 some r4)
 else
 some false
def jyg (N D:Nat):Model:=⟨⟨[pS,pS],[]⟩,⟨[pB],[]⟩,c2A (jxG N D)⟩
theorem jBG (N D:Nat) (ih:mK 83 (jyg N D)):mK 83 (jyg N (D+1)):=
 mO (fC ih ja) func83 rfl N .no (jyg N (D+1))
theorem jAz (N:Nat):∀D,mK 83 (jyg N D)
 |0=>modelOk_none ⟨_,func83,by decide,by kernel_rfl⟩ _ (fun a=>rfl)
 |D+1=>jBG N D (jAz N D)
def jx0 (a:List UInt8) (b:List UInt8):Z7:=
 (oB (jxV N a) fun c=>bif c then oB (jO N b) fun e=>(bif e then oB (jxG N N a b) fun d=>(some d)else some false)else some false)
theorem jDd :mK 37 (bX [pS,pS] [pB] (c2A (jx0 N))):=
 mO (fC (jz9 N) (fC (jcM N) (fC (jAz N N) ja))) func37 rfl N .no _
def jD5 :Sh:=⟨.dead::pS::dz 8 (.pv Y13::pI::pI::dz 10 []),[]⟩
def jyp (j:Int) (l:Z12) (b:Z6) (m:List UInt8):Z11:=
 (oB (jbx N j l b) fun h=>bif h then iter (fun k (f,d,e,a)=>bif decide (a<e)then oB (idx d a) fun c=>(bif decide (c.1=f)then some c.2 else if fits (a+1)then k (f,d,e,(a+1))else none)else some (-1)) N (m,b,(b.length:Int),(0:Int))else some (-1))
theorem jBQ :mK 39 (bX [.agg [pI,.pv Y16,.pv Y13],pS] [pI] (c4A (jyp N))):=
 mO (fC (jh0 N) ja) func39 rfl N (.seq .no (.seq (.seq .no (.cond (.seq .no (.block (.loop jD5 .no))) .no)) .no)) _
def jDa :Sh:=⟨.ptr Y0::dz 3 (.box 4 0:: .box 5 0:: .dead::pI::dz 43 (.own 600051 .str 9 true::pI::pI::dz 122 [])),[(4,false,[pI,pS,.pv (.sl .str),pI,pI,.pv (.sl .q)]),(5,false,[pI,.pv Y16,.pv Y13])]⟩
def jCO :Sh:=⟨.ptr Y0::dz 3 (.box 4 0:: .box 5 0::dz 83 (.own 600089 .str 9 true::pI::pI::dz 84 [])),[(4,false,[pI,pS,.pv (.sl .str),pI,pI,.pv (.sl .q)]),(5,false,[pI,.pv Y16,.pv Y13])]⟩
def jDp :Sh:=⟨.ptr Y0::dz 3 (.box 4 0:: .box 5 0::dz 7 (pI::dz 140 (.pv (.sl .q)::pI::pI::dz 19 []))),[(4,false,[pI,pS,.pv (.sl .str),pI,pI,.pv (.sl .q)]),(5,false,[pI,.pv Y16,.pv Y13])]⟩
def i_scorer_score_m (N:Nat):(D:Nat)->Z9->Int->Z0->(List Z0)->Int->Int->(List DQ)->Int->Z10->Z5->Z11
 |0,_,_,_,_,_,_,_,_,_,_=>none
 |D+1,x,q,q2,q3,q4,q5,q6,d,d2,d3=>
 bif decide (q=1)then
 some 100
 else
 bif decide (q=2)then
 oB (idx q3 0) fun e=>
 (oB (jyc N x.1.1 x.1.2 e) fun r=>
 oB (i_scorer_points_m N x q2 r d) fun r2=>
 some r2)
 else
 bif decide (q=3)then
 oB (jyB N x q q2 q3 q4 q5 q6 d d2 d3) fun r3=>
 (some r3)
 else
 bif decide (q=4)then
 oB (i_Seg_terms_m N x.2 q2) fun r4=>
 (iter (fun go (g:Z9×Int×(List Z0)×Int×Int×Int×Z0×(List Z0)×Int×Int×(List DQ)×Int×Z10×Z5)=>
 match g with
 |(x2,best,t51,t52,t53,q7,q8,q9,q10,q11,q12,d4,d5,d6)=>
 bif decide (t53<t52)then
 oB (idx t51 t53) fun e2=>
 (oB (idx q9 0) fun e3=>
 oB (i_NearFar_m N e2 e3) fun r5=>
 oB (jm N r5 0 q10) fun r6=>
 bif r6 then
 oB (i_scorer_points_m N x2 q8 e2 d4) fun r7=>
 (if fits (3-r5)then if fits (r7*(3-r5))then if 3≠0 then
 if fits ((r7*(3-r5)).tdiv 3)then if fits (t53+1)then go (x2,(if((r7*(3-r5)).tdiv 3)>best then(r7*(3-r5)).tdiv 3 else best),t51,t52,(t53+1),q7,q8,q9,q10,q11,q12,d4,d5,d6)else none else none
 else none else none else none)
 else
 if fits (t53+1)then go (x2,best,t51,t52,(t53+1),q7,q8,q9,q10,q11,q12,d4,d5,d6)else none)
 else
 some best) N (x,0,r4,(r4.length:Int),0,q,q2,q3,q4,q5,q6,d,d2,d3))
 else
 bif decide (q=5)then
 oB (i_Seg_terms_m N x.2 q2) fun r8=>
 (iter (fun go2 (g:Z9×(List Z0)×Int×Int×Int×Z0×(List Z0)×Int×Int×(List DQ)×Int×Z10×Z5)=>
 match g with
 |(x3,t89,t90,t91,q13,q14,q15,q16,q17,q18,d7,d8,d9)=>
 bif decide (t91<t90)then
 oB (idx t89 t91) fun e4=>
 (oB (idx q15 0) fun e5=>
 oB (jx0 N e5 e4) fun r9=>
 bif r9 then
 oB (i_scorer_places_m N x3 q14 e4 d7) fun r10=>
 (bif decide ((0:Int)<r10.length)then
 some 100
 else
 if fits (t91+1)then go2 (x3,t89,t90,(t91+1),q13,q14,q15,q16,q17,q18,d7,d8,d9)else none)
 else
 if fits (t91+1)then go2 (x3,t89,t90,(t91+1),q13,q14,q15,q16,q17,q18,d7,d8,d9)else none)
 else
 some 0) N (x,r8,(r8.length:Int),0,q,q2,q3,q4,q5,q6,d,d2,d3))
 else
 bif decide (q=6)then
 oB (jyp N d d2 d3 q2) fun r11=>
 (oB (jm N r11 q4 q5) fun r12=>
 bif r12 then
 some 100
 else
 some 0)
 else
 bif decide (q=10)then
 oB (idx q6 0) fun e6=>
 (oB (i_scorer_score_m N D x e6.kind e6.field e6.words e6.lo e6.hi e6.kids d d2 d3) fun r13=>
 if fits (q4*r13)then some (q4*r13)else none)
 else
 bif decide (q=9)then
 oB (idx q6 1) fun e7=>
 (oB (i_scorer_score_m N D x e7.kind e7.field e7.words e7.lo e7.hi e7.kids d d2 d3) fun r14=>
 bif decide ((0:Int)<r14)then
 some 0
 else
 oB (idx q6 0) fun e8=>
 oB (i_scorer_score_m N D x e8.kind e8.field e8.words e8.lo e8.hi e8.kids d d2 d3) fun r15=>
 some r15)
 else
 iter (fun go3 (g:Z9×Int×(List DQ)×Int×Int×Int×Z0×(List Z0)×Int×Int×(List DQ)×Int×Z10×Z5)=>
 match g with
 |(x4,all,t154,t155,t156,q19,q20,q21,q22,q23,q24,d10,d11,d12)=>
 bif decide (t156<t155)then
 oB (idx t154 t156) fun e9=>
 (oB (i_scorer_score_m N D x4 e9.kind e9.field e9.words e9.lo e9.hi e9.kids d10 d11 d12) fun r16=>
 bif decide (r16=0)then
 bif decide (q19=7)then
 some 0
 else
 (if fits (all+r16)then if fits (t156+1)then go3 (x4,(all+r16),t154,t155,(t156+1),q19,q20,q21,q22,q23,q24,d10,d11,d12)else none else none)
 else
 if fits (all+r16)then if fits (t156+1)then go3 (x4,(all+r16),t154,t155,(t156+1),q19,q20,q21,q22,q23,q24,d10,d11,d12)else none else none)
 else
 some all) N (x,0,q6,(q6.length:Int),0,q,q2,q3,q4,q5,q6,d,d2,d3)
def jx6 (N D:Nat):Model:=⟨⟨[.ptr Y0,.agg [pI,pS,.pv (.sl .str),pI,pI,.pv (.sl .q)],.agg [pI,.pv Y16,.pv Y13]],[]⟩,⟨[pI],[]⟩,c10A (i_scorer_score_m N D)⟩
theorem jBq (N D:Nat) (ih:mK 16 (jx6 N D)):mK 16 (jx6 N (D+1)):=
 mO (fC ih (fC (jBn N) (fC (jsD N) (fC (jDC N) (fC (jln N) (fC (jDu N) (fC (jY N) (fC (jDd N) (fC (jrB N) (fC (jBQ N) ja)))))))))) func16 rfl N (.seq .no (.seq (.seq .no (.block (.seq .no (.cond .no (.seq .no (.cond .no (.seq .no (.cond .no (.seq .no (.cond (.seq .no (.seq (.seq .no (.block (.loop jDa .no))) .no)) (.seq .no (.cond (.seq (.seq .no (.block (.loop jCO .no))) .no) .no)))))))))))) (.seq .no (.seq (.seq .no (.block (.loop jDp .no))) .no)))) (jx6 N (D+1))
theorem jzy (N:Nat):∀D,mK 16 (jx6 N D)
 |0=>modelOk_none ⟨_,func16,by decide,by kernel_rfl⟩ _ (fun a=>rfl)
 |D+1=>jBq N D (jzy N D)
def i_ScoreOf_m (k:List Z0) (d:List Z4) (b:List Z2) (c:List Z1) (i:Int) (l:List UInt8) (h:List Z0) (j:Int) (e:Int) (f:List DQ) (p:Int):Z11:=
 (oB (i_Seg_doc_m N (b,c) p) fun a=>oB (i_SegOk_m N k d b c) fun m=>bif !m then some 0 else oB (i_QueryOk_m N i l h j e f) fun o=>bif !o then some 0 else bif !a.2.2.2 then some 0 else oB (i_scorer_score_m N N ((k,d),b,c) i l h j e f a.1 a.2.1 a.2.2.1) fun n=>some n)
theorem jEf :mK 5 (bX [.agg [.pv (.sl .str),.pv Y14],.agg [.pv Y2,.pv Y4],.agg [pI,pS,.pv (.sl .str),pI,pI,.pv (.sl .q)],pI] [pI] (c11A (i_ScoreOf_m N))):=
 mO (fC (jlU N) (fC (joa N) (fC (jCN N) (fC (jzy N N) ja)))) func5 rfl N .no _
def k_strconv_Itoa_m (N:Nat) (a:Int):Option (Z0):=itoaM a
 
def jOU (N:Nat):Model:=⟨⟨[pI],[]⟩,⟨[pS],[]⟩,c1A (k_strconv_Itoa_m N)⟩
theorem jO0 :mK 45 (jOU N):=jPp
def jO5 :Sh:=⟨.dead:: .box 1 0::dz 5 (pI:: .dead:: .dead::pB::dz 82 []),[(1,false,[pI,pS,.pv (.sl .str),pI,pI,.pv (.sl .q)])]⟩
def jPe :Sh:=⟨dz 3 (pS::dz 75 (.pv (.sl .q)::pI::pI::dz 11 [])),[]⟩
def jOW :Sh:=⟨.dead:: .box 1 0:: .dead::pS::dz 89 [],[(1,false,[pI,pS,.pv (.sl .str),pI,pI,.pv (.sl .q)])]⟩
def i_Query_text_m (N:Nat):(D:Nat)->Int->Z0->(List Z0)->Int->Int->(List DQ)->Option (Z0)
 |0,_,_,_,_,_,_=>none
 |D+1,q,q2,q3,q4,q5,q6=>
 bif decide (q=1)then
 some ([97,108,108]:List UInt8)
 else
 meet (fun(g:Int×Bool×Int×Z0×(List Z0)×Int×Int×(List DQ))=>
 match g with
 |(t7,t10,q7,q8,q9,q10,q11,q12)=>
 bif t10 then
 if q8.length+([58]:List UInt8).length<=9223372036854775807 then
 oB (idx q9 0) fun e=>
 (if(q8++([58]:List UInt8)).length+e.length<=9223372036854775807 then
 some ((q8++([58]:List UInt8))++e)
 else none)
 else none
 else
 bif decide (t7=3)then
 if q8.length+([58]:List UInt8).length<=9223372036854775807 then
 oB (jyu N q9 ([43]:List UInt8)) fun r=>
 (if(q8++([58]:List UInt8)).length+r.length<=9223372036854775807 then
 if((q8++([58]:List UInt8))++r).length+([126]:List UInt8).length<=9223372036854775807 then
 oB (k_strconv_Itoa_m N q10) fun r2=>
 (if(((q8++([58]:List UInt8))++r)++([126]:List UInt8)).length+r2.length<=9223372036854775807 then
 some ((((q8++([58]:List UInt8))++r)++([126]:List UInt8))++r2)
 else none)
 else none
 else none)
 else none
 else
 bif decide (t7=4)then
 if q8.length+([58]:List UInt8).length<=9223372036854775807 then
 oB (idx q9 0) fun e2=>
 (if(q8++([58]:List UInt8)).length+e2.length<=9223372036854775807 then
 if((q8++([58]:List UInt8))++e2).length+([37]:List UInt8).length<=9223372036854775807 then
 oB (k_strconv_Itoa_m N q10) fun r3=>
 (if(((q8++([58]:List UInt8))++e2)++([37]:List UInt8)).length+r3.length<=9223372036854775807 then
 some ((((q8++([58]:List UInt8))++e2)++([37]:List UInt8))++r3)
 else none)
 else none
 else none)
 else none
 else
 bif decide (t7=6)then
 if q8.length+([61]:List UInt8).length<=9223372036854775807 then
 oB (k_strconv_Itoa_m N q10) fun r4=>
 (if(q8++([61]:List UInt8)).length+r4.length<=9223372036854775807 then
 if((q8++([61]:List UInt8))++r4).length+([46,46]:List UInt8).length<=9223372036854775807 then
 oB (k_strconv_Itoa_m N q11) fun r5=>
 (if(((q8++([61]:List UInt8))++r4)++([46,46]:List UInt8)).length+r5.length<=9223372036854775807 then
 some ((((q8++([61]:List UInt8))++r4)++([46,46]:List UInt8))++r5)
 else none)
 else none
 else none)
 else none
 else
 if([40]:List UInt8).length+((mget tI .str gm_opNames q7).getD ([]:List UInt8)).length<=9223372036854775807 then
 meet (fun(g:Z0×Int×Z0×(List Z0)×Int×Int×(List DQ))=>
 match g with
 |(out,q13,q14,q15,q16,q17,q18)=>
 iter (fun go (g:Z0×(List DQ)×Int×Int)=>
 match g with
 |(out2,t79,t80,t81)=>
 bif decide (t81<t80)then
 oB (idx t79 t81) fun e3=>
 (oB (i_Query_text_m N D e3.kind e3.field e3.words e3.lo e3.hi e3.kids) fun r7=>
 if([32]:List UInt8).length+r7.length<=9223372036854775807 then
 if out2.length+(([32]:List UInt8)++r7).length<=9223372036854775807 then
 if fits (t81+1)then go ((out2++(([32]:List UInt8)++r7)),t79,t80,(t81+1))else none
 else none
 else none)
 else
 if out2.length+([41]:List UInt8).length<=9223372036854775807 then
 some (out2++([41]:List UInt8))
 else none) N (out,q18,(q18.length:Int),0)) fun J2=>
 (bif decide (q7=10)then
 oB (k_strconv_Itoa_m N q10) fun r6=>
 (if([32]:List UInt8).length+r6.length<=9223372036854775807 then
 if(([40]:List UInt8)++((mget tI .str gm_opNames q7).getD ([]:List UInt8))).length+(([32]:List UInt8)++r6).length<=9223372036854775807 then
 J2 (((([40]:List UInt8)++((mget tI .str gm_opNames q7).getD ([]:List UInt8)))++(([32]:List UInt8)++r6)),q7,q8,q9,q10,q11,q12)
 else none
 else none)
 else
 J2 ((([40]:List UInt8)++((mget tI .str gm_opNames q7).getD ([]:List UInt8))),q7,q8,q9,q10,q11,q12))
 else none) fun J=>
 bif decide (q=2)then
 J (q,true,q,q2,q3,q4,q5,q6)
 else
 J (q,(decide (q=5)),q,q2,q3,q4,q5,q6)
def jOr (N D:Nat):Model:=⟨⟨[.agg [pI,pS,.pv (.sl .str),pI,pI,.pv (.sl .q)]],[]⟩,⟨[pS],[]⟩,c6A (i_Query_text_m N D)⟩
theorem jOY (N D:Nat) (ih:mK 18 (jOr N D)):mK 18 (jOr N (D+1)):=
 mO (fC ih (fC (jBE N) (fC (jO0 N) ja))) func18 rfl N (.seq .no (.seq (.seq .no (.block (.seq .no (.cond .no (.meet jO5 .no .no))))) (.seq .no (.meet jOW .no (.seq (.seq .no (.block (.loop jPe .no))) .no))))) (jOr N (D+1))
theorem jOz (N:Nat):∀D,mK 18 (jOr N D)
 |0=>modelOk_none ⟨_,func18,by decide,by kernel_rfl⟩ _ (fun a=>rfl)
 |D+1=>jOY N D (jOz N D)
def i_QueryPut_m (f:Int) (b:List UInt8) (e:List Z0) (a:Int) (c:Int) (d:List DQ):Option (Z0):=
 (oB (i_QueryOk_m N f b e a c d) fun h=>bif !h then some ([]:List UInt8)else oB (i_Query_text_m N N f b e a c d) fun i=>some i)
theorem jOC :mK 7 (bX [.agg [pI,pS,.pv (.sl .str),pI,pI,.pv (.sl .q)]] [pS] (c6A (i_QueryPut_m N))):=
 mO (fC (jCN N) (fC (jOz N N) ja)) func7 rfl N .no _
def i_queryReader_skip_m (N:Nat) (d:Int) (b:List UInt8) (a:Int):Option (Bool×Z0×Int):=
 (bif decide (a<(b.length:Int))then oB (idx b a) fun c=>(bif decide ((c.toNat:Int)=d)then if fits (a+1)then some (true,b,(a+1))else none else some (false,b,a))else some (false,b,a))
theorem j5n :mK 40 ⟨⟨[.box 900000 0,.pv (.int .u8)],[(900000,false,[pS,pI])]⟩,⟨[pB],[(900000,false,[pS,pI])]⟩,c3A (i_queryReader_skip_m N)⟩:=
 mO ja func40 rfl N .no _ (rs:=[900000])
def j5q :Sh:=⟨.box 900000 0:: .dead:: .dead::pI::dz 67 [],[(900000,false,[pS,pI])]⟩
def i_queryReader_token_m (i:List UInt8) (d:Int):Option (Z0×Z0×Int):=
 (iter (fun l (c,b,a)=>bif decide (a<(b.length:Int))then oB (idx b a) fun f=>(bif !decide ((f.toNat:Int)=32)then oB (idx b a) fun j=>(bif !decide ((j.toNat:Int)=40)then oB (idx b a) fun h=>(bif !decide ((h.toNat:Int)=41)then if fits (a+1)then l (c,b,(a+1))else none else oB (cut b c a) fun e=>some (e,b,a))else oB (cut b c a) fun o=>some (o,b,a))else oB (cut b c a) fun n=>some (n,b,a))else oB (cut b c a) fun m=>some (m,b,a)) N (d,i,d))
theorem j5r :mK 42 ⟨⟨[.box 900000 0],[(900000,false,[pS,pI])]⟩,⟨[pS],[(900000,false,[pS,pI])]⟩,c2A (i_queryReader_token_m N)⟩:=
 mO ja func42 rfl N (.seq .no (.seq .no (.seq (.block (.loop j5q .no)) .no))) _ (rs:=[900000])
def k_strings_Cut_m (N:Nat) (b:List UInt8) (a:List UInt8):Option (Z0×Z0×Bool):=cutM b a
 
def jYv (N:Nat):Model:=⟨⟨[pS,pS],[]⟩,⟨[.tup [pS,pS,pB]],[]⟩,c2A (k_strings_Cut_m N)⟩
theorem jX0 :mK 84 (jYv N):=jXX
def k_strings_Split_m (N:Nat) (b:List UInt8) (a:List UInt8):Option ((List Z0)):=splitM b a
 
def jYt (N:Nat):Model:=⟨⟨[pS,pS],[]⟩,⟨[.pv (.sl .str)],[]⟩,c2A (k_strings_Split_m N)⟩
theorem jYi :mK 85 (jYt N):=jYA
def i_readNumber_m (N:Nat) (a:List UInt8):Option Int:=numM a
 
def j46 (N:Nat):Model:=⟨⟨[pS],[]⟩,⟨[pI],[]⟩,c1A (i_readNumber_m N)⟩
theorem j45 :mK 43 (j46 N):=j5e
def i_leaf_m (c:List UInt8):Option (Int×Z0×(List Z0)×Int×Int):=
 (bif decide (c=([97,108,108]:List UInt8))then some (1,([]:List UInt8),([]:List Z0),0,0)else oB (k_strings_Cut_m N c ([58]:List UInt8)) fun a=>bif a.2.2 then oB (k_strings_Cut_m N a.2.1 ([126]:List UInt8)) fun d=>(bif d.2.2 then oB (k_strings_Split_m N d.1 ([43]:List UInt8)) fun l=>(oB (i_readNumber_m N d.2.1) fun h=>some (3,a.1,l,h,0))else oB (k_strings_Cut_m N a.2.1 ([37]:List UInt8)) fun b=>bif b.2.2 then oB (i_readNumber_m N b.2.1) fun k=>(some (4,a.1,([b.1]:List Z0),k,0))else oB (jO N a.2.1) fun j=>bif j then some (2,a.1,([a.2.1]:List Z0),0,0)else some (5,a.1,([a.2.1]:List Z0),0,0))else oB (k_strings_Cut_m N c ([61]:List UInt8)) fun f=>oB (k_strings_Cut_m N f.2.1 ([46,46]:List UInt8)) fun e=>oB (i_readNumber_m N e.1) fun m=>oB (i_readNumber_m N e.2.1) fun i=>some (6,f.1,([]:List Z0),m,i))
theorem j5k :mK 41 (bX [pS] [.agg [pI,pS,.pv (.sl .str),pI,pI,.nils]] (c1A (i_leaf_m N))):=
 mO (fC (jX0 N) (fC (jYi N) (fC (j45 N) (fC (jcM N) ja)))) func41 rfl N .no _
def j5g :Sh:=⟨.box 900000 0:: .dead:: .box 2 0:: .box 3 0::pS::dz 12 (.box 3000000000 0::dz 39 []),[(2,false,[pI,pS,.nils,pI,pI,.nils]),(3,false,[pI,pS,.nils,pI,pI,.nils]),(900000,false,[pS,pI]),(3000000000,false,[pI,pI])]⟩
def j5m :Sh:=⟨.box 900000 0:: .dead:: .box 2 0:: .box 3 0::dz 53 [],[(2,false,[pI,pS,.nils,pI,pI,.nils]),(3,false,[pI,pS,.nils,pI,pI,.own 700305 .q 33 false]),(900000,false,[pS,pI])]⟩
def j5h :Sh:=⟨.box 900000 0:: .dead:: .box 2 0:: .box 3 0::dz 53 [],[(2,false,[pI,pS,.nils,pI,pI,.nils]),(3,false,[pI,pS,.nils,pI,pI,.nils]),(900000,false,[pS,pI])]⟩
noncomputable def i_queryReader_query_m (N:Nat):(D:Nat)->Z0->Int->Option (Int×Z0×(List Z0)×Int×Int×(List DQ)×Z0×Int)
 |0,_,_=>none
 |D+1,b,b2=>
 oB (i_queryReader_skip_m N 40 b b2) fun r=>
 bif !r.1 then
 oB (i_queryReader_token_m N r.2.1 r.2.2) fun r2=>
 (oB (i_leaf_m N r2.1) fun r3=>
 some (r3.1,r3.2.1,r3.2.2.1,r3.2.2.2.1,r3.2.2.2.2,([]:List DQ),r2.2.1,r2.2.2))
 else
 oB (i_queryReader_token_m N r.2.1 r.2.2) fun r4=>
 iter (fun go (g:Z0×Int×Z0×Int×Int×Int×Z0×Int×Int×Z0×Int×Int×Int)=>
 match g with
 |(name,b3,b4,b5,b6,q,q2,q3,q4,b7,b8,b9,b10)=>
 bif(leftI gm_opNames.length (Int.toNat b9)).isEmpty then
 meet (fun(g:Int×Z0×Int×Int×Int×Z0×Int×Int×Z0×Int)=>
 match g with
 |(b11,b12,b13,b14,q5,q6,q7,q8,b15,b16)=>
 iter (fun go2 (g:Int×Z0×Int×Int×Int×Z0×Int×Int×(List DQ)×Z0×Int)=>
 match g with
 |(b17,b18,b19,b20,q9,q10,q11,q12,q13,b21,b22)=>
 oB (i_queryReader_skip_m N 32 b21 b22) fun r8=>
 bif r8.1 then
 bif decide ((q13.length:Int)<200)then
 oB (i_queryReader_query_m N D r8.2.1 r8.2.2) fun r9=>
 (if room q13.length ([(DQ.mk r9.1 r9.2.1 r9.2.2.1 r9.2.2.2.1 r9.2.2.2.2.1 r9.2.2.2.2.2.1)]:List DQ).length 88 then
 go2 (b17,b18,b19,b20,q9,q10,q11,q12,(q13++([(DQ.mk r9.1 r9.2.1 r9.2.2.1 r9.2.2.2.1 r9.2.2.2.2.1 r9.2.2.2.2.2.1)]:List DQ)),r9.2.2.2.2.2.2.1,r9.2.2.2.2.2.2.2)
 else none)
 else
 (oB (i_queryReader_skip_m N 41 r8.2.1 r8.2.2) fun r10=>
 some (q9,q10,([]:List Z0),q11,q12,q13,r10.2.1,r10.2.2))
 else
 oB (i_queryReader_skip_m N 41 r8.2.1 r8.2.2) fun r11=>
 some (q9,q10,([]:List Z0),q11,q12,q13,r11.2.1,r11.2.2)) N (b11,b12,b13,b14,q5,q6,q7,q8,([]:List DQ),b15,b16)) fun J=>
 (bif decide (q=10)then
 oB (i_queryReader_skip_m N 32 b7 b8) fun r5=>
 (bif r5.1 then
 oB (i_queryReader_token_m N r5.2.1 r5.2.2) fun r6=>
 (oB (i_readNumber_m N r6.1) fun r7=>
 J (b3,b4,b5,b6,q,q2,r7,q4,r6.2.1,r6.2.2))
 else
 J (b3,b4,b5,b6,q,q2,q3,q4,r5.2.1,r5.2.2))
 else
 J (b3,b4,b5,b6,q,q2,q3,q4,b7,b8))
 else
 anyOf (leftI gm_opNames.length (Int.toNat b9)) fun i=>
 if 0<((i+1:Nat):Int)then
 oB (gm_opNames[Int.toNat ((i+1:Nat):Int)-1]?) fun e=>
 (bif decide (e.2=name)then
 go (name,b3,b4,b5,b6,e.1,q2,q3,q4,b7,b8,((Int.toNat b9|||2^i:Nat):Int),((i+1:Nat):Int))
 else
 go (name,b3,b4,b5,b6,q,q2,q3,q4,b7,b8,((Int.toNat b9|||2^i:Nat):Int),((i+1:Nat):Int)))
 else none) N (r4.1,0,([]:List UInt8),0,0,0,([]:List UInt8),0,0,r4.2.1,r4.2.2,(0:Int),(0:Int))
noncomputable def j4S (N D:Nat):Model:=⟨⟨[.box 900000 0],[(900000,false,[pS,pI])]⟩,⟨[.agg [pI,pS,.pv (.sl .str),pI,pI,.own 1 .q 33 false]],[(900000,false,[pS,pI])]⟩,c2A (i_queryReader_query_m N D)⟩
theorem j5d (N D:Nat) (ih:mK 17 (j4S N D)):mK 17 (j4S N (D+1)):=
 mO (fC ih (fC (j5n N) (fC (j5r N) (fC (j5k N) (fC (j45 N) ja))))) func17 rfl N (.seq .no (.seq .no (.seq .no (.seq .no (.seq (.seq .no (.block (.loop j5g .no))) (.meet j5h .no (.seq (.block (.loop j5m .no)) .no))))))) (j4S N (D+1)) (rs:=[900000])
theorem j4Y (N:Nat):∀D,mK 17 (j4S N D)
 |0=>modelOk_none ⟨_,func17,by decide,by kernel_rfl⟩ _ (fun a=>rfl)
 |D+1=>j5d N D (j4Y N D)
noncomputable def i_QueryRead_m (b:List UInt8):Option (Int×Z0×(List Z0)×Int×Int×(List DQ)×Bool):=
 (bif decide ((200:Int)<b.length)then some (0,([]:List UInt8),([]:List Z0),0,0,([]:List DQ),false)else oB (i_queryReader_query_m N N b 0) fun a=>bif decide (b=([]:List UInt8))then some (0,([]:List UInt8),([]:List Z0),0,0,([]:List DQ),false)else oB (i_QueryPut_m N a.1 a.2.1 a.2.2.1 a.2.2.2.1 a.2.2.2.2.1 a.2.2.2.2.2.1) fun c=>bif !decide (c=b)then some (0,([]:List UInt8),([]:List Z0),0,0,([]:List DQ),false)else some (a.1,a.2.1,a.2.2.1,a.2.2.2.1,a.2.2.2.2.1,a.2.2.2.2.2.1,true))
theorem j5a :mK 6 (bX [pS] [.tup [.agg [pI,pS,.pv (.sl .str),pI,pI,.own 1 .q 33 false],pB]] (c1A (i_QueryRead_m N))):=
 mO (fC (j4Y N N) (fC (jOC N) ja)) func6 rfl N .no _
def jJ (N:Nat) (a:Int) (c:Int) (b:Int):Z7:=
 (bif decide (c<=a)then some (decide (a<=b))else some false)
theorem jcL :mK 57 (bX [pI,pI,pI] [pB] (c3A (jJ N))):=
 mO ja func57 rfl N .no _
def jr5 :Sh:=⟨pS:: .dead:: .dead::pI::dz 23 [],[]⟩
def jT (k:List UInt8):Z7:=
 (iter (fun i (a,b)=>bif decide (b<(a.length:Int))then oB (idx a b) fun d=>(oB (jt N (d.toNat:Int)) fun c=>oB (idx a b) fun h=>bif !decide (c=(h.toNat:Int))then some false else oB (idx a b) fun e=>bif decide ((e.toNat:Int)=0)then some false else if fits (b+1)then i (a,(b+1))else none)else oB (jJ N (a.length:Int) 1 12) fun j=>some j) N (k,(0:Int)))
theorem jgp :mK 91 (bX [pS] [pB] (c1A (jT N))):=
 mO (fC (jfG N) (fC (jcL N) ja)) func91 rfl N (.seq .no (.seq (.seq .no (.block (.loop jr5 .no))) .no)) _
def jrs :Sh:=⟨.dead:: .box 1 0:: .dead::pI::dz 114 [],[(1,false,[.pv (.sl .str),.pv Y14])]⟩
def js0 :Sh:=⟨.dead:: .box 1 0:: .dead:: .dead::pI::dz 113 [],[(1,false,[.pv (.sl .str),.pv Y14])]⟩
def jrc :Sh:=⟨.dead:: .box 1 0:: .dead:: .dead::pI:: .box 5 0::pI::dz 111 [],[(1,false,[.pv (.sl .str),.pv Y14]),(5,false,[.pv (.sl .str),pS])]⟩
def jcw (C:List Z0) (t:List Z4):Z7:=
 (iter (fun m (a,c,k)=>bif decide (a<(c.length:Int))then oB (idx c a) fun A=>(oB (jT N A) fun y=>bif !y then some false else bif decide ((0:Int)<a)then oB (idx c a) fun o=>(if fits (a-1)then oB (idx c (a-1)) fun p=>(bif Op.bytesLess o p||decide (o=p)then some false else if fits (a+1)then m ((a+1),c,k)else none)else none)else if fits (a+1)then m ((a+1),c,k)else none)else iter (fun E (l,q,h)=>bif decide (l<(h.length:Int))then oB (idx h l) fun r=>(iter (fun G (j,b,i,n,d,f)=>bif decide (b<(d.length:Int))then oB (idx d b) fun B=>(oB (jT N B) fun x=>bif !x then some false else oB (idx d b) fun w=>oB (jaq N w) fun I=>oB (idx d b) fun K=>bif !decide (I=K)then some false else oB (idx d b) fun u=>oB (jap N i u) fun z=>bif z then some false else if fits (b+1)then G (j,(b+1),i,n,d,f)else none)else oB (jJ N (d.length:Int) 1 3) fun D=>bif !D then some false else oB (jT N f) fun v=>bif !v then some false else oB (jaq N f) fun H=>bif !decide (H=f)then some false else if fits (j+1)then E ((j+1),i,n)else none) N (l,(0:Int),q,h,r.1,r.2))else bif decide ((q.length:Int)<=6)then some (decide ((h.length:Int)<=4))else some false) N ((0:Int),c,k)) N ((0:Int),C,t))
theorem jtf :mK 46 (bX [.agg [.pv (.sl .str),.pv Y14]] [pB] (c2A (jcw N))):=
 mO (fC (jgp N) (fC (jfZ N) (fC (jhP N) (fC (jcL N) ja)))) func46 rfl N (.seq .no (.seq (.seq .no (.block (.loop jrs .no))) (.seq (.seq .no (.block (.loop js0 (.seq .no (.seq (.block (.seq .no (.seq (.seq .no (.block (.loop jrc .no))) .no))) .no))))) .no))) _
def jot :Sh:=⟨pS:: .dead:: .dead::pI::dz 19 [],[]⟩
def jcu (h:List UInt8):Z7:=
 (iter (fun f (a,b)=>bif decide (b<(a.length:Int))then oB (idx a b) fun c=>(bif decide ((c.toNat:Int)<32)then some false else oB (idx a b) fun e=>bif decide ((126:Int)<(e.toNat:Int))then some false else if fits (b+1)then f (a,(b+1))else none)else some (decide ((a.length:Int)<=160))) N (h,(0:Int)))
theorem jpZ :mK 140 (bX [pS] [pB] (c1A (jcu N))):=
 mO ja func140 rfl N (.seq .no (.seq (.seq .no (.block (.loop jot .no))) .no)) _
def jp0 :Sh:=⟨.dead:: .box 1 0:: .dead::pI::dz 100 [],[(1,false,[pI,.pv Y16,.pv Y13])]⟩
def jtP :Sh:=⟨.dead:: .box 1 0::dz 3 (pI::dz 98 []),[(1,false,[pI,.pv Y16,.pv Y13])]⟩
def jcb (y:Int) (z:Z12) (r:Z6):Z7:=
 (iter (fun l (b,i,d,k)=>bif decide (b<(d.length:Int))then oB (idx d b) fun e=>(oB (jT N e.1) fun v=>bif !v then some false else oB (jcu N e.2) fun t=>bif !t then some false else bif decide ((0:Int)<b)then if fits (b-1)then oB (idx d (b-1)) fun n=>(bif Op.bytesLess e.1 n.1||decide (e.1=n.1)then some false else if fits (b+1)then l ((b+1),i,d,k)else none)else none else if fits (b+1)then l ((b+1),i,d,k)else none)else iter (fun p (a,h,j,c)=>bif decide (a<(c.length:Int))then oB (idx c a) fun u=>(oB (jT N u.1) fun A=>bif !A then some false else oB (idx c a) fun B=>oB (jJ N B.2 0 999999999) fun w=>bif !w then some false else bif decide ((0:Int)<a)then oB (idx c a) fun o=>(if fits (a-1)then oB (idx c (a-1)) fun m=>(bif Op.bytesLess o.1 m.1||decide (o.1=m.1)then some false else if fits (a+1)then p ((a+1),h,j,c)else none)else none)else if fits (a+1)then p ((a+1),h,j,c)else none)else oB (jJ N h 1 9999) fun x=>bif x then oB (jJ N (j.length:Int) 0 3) fun q=>(bif q then some (decide ((c.length:Int)<=3))else some false)else some false) N ((0:Int),i,d,k)) N ((0:Int),y,z,r))
theorem jpD :mK 94 (bX [.agg [pI,.pv Y16,.pv Y13]] [pB] (c3A (jcb N))):=
 mO (fC (jgp N) (fC (jpZ N) (fC (jcL N) ja))) func94 rfl N (.seq .no (.seq (.seq .no (.block (.loop jp0 .no))) (.seq (.seq .no (.block (.loop jtP .no))) .no))) _
def jkS :Sh:=⟨.pv Y2:: .dead:: .dead::pI::dz 33 [],[]⟩
def jbU (h:List Z2):Z7:=
 (iter (fun d (b,a)=>bif decide (a<(b.length:Int))then oB (idx b a) fun c=>(oB (jcb N c.1 c.2.1 c.2.2) fun e=>bif !e then some false else bif decide ((0:Int)<a)then oB (idx b a) fun i=>(if fits (a-1)then oB (idx b (a-1)) fun j=>(bif decide (i.1<=j.1)then some false else if fits (a+1)then d (b,(a+1))else none)else none)else if fits (a+1)then d (b,(a+1))else none)else some (decide ((b.length:Int)<=16))) N (h,(0:Int)))
theorem jpx :mK 47 (bX [.pv Y2] [pB] (c1A (jbU N))):=
 mO (fC (jpD N) ja) func47 rfl N (.seq .no (.seq (.seq .no (.block (.loop jkS .no))) .no)) _
def jnI :Sh:=⟨.pv Y19:: .pv Y19::dz 3 (pI::dz 20 []),[]⟩
def jb1 (d:List Int) (c:List Int):Z7:=
 (bif !decide ((d.length:Int)=(c.length:Int))then some false else iter (fun i (b,e,a)=>bif decide (a<(b.length:Int))then oB (idx b a) fun f=>(oB (idx e a) fun j=>bif !decide (f=j)then some false else if fits (a+1)then i (b,e,(a+1))else none)else some true) N (d,c,(0:Int)))
theorem jlH :mK 99 (bX [.pv Y19,.pv Y19] [pB] (c2A (jb1 N))):=
 mO ja func99 rfl N (.seq .no (.seq .no (.seq (.seq .no (.block (.loop jnI .no))) .no))) _
def jnx :Sh:=⟨.dead:: .dead:: .box 2 0:: .box 3 0:: .dead::pI::dz 57 [],[(2,false,[pS,pS,.pv Y11]),(3,false,[pS,pS,.pv Y11])]⟩
def jbQ (h:List UInt8) (e:List UInt8) (i:Z3) (f:List UInt8) (d:List UInt8) (j:Z3):Z7:=
 (bif !decide (h=f)then some false else bif !decide (e=d)then some false else bif !decide ((i.length:Int)=(j.length:Int))then some false else iter (fun m (a,k,n,b,t,u,c)=>bif decide (a<(b.length:Int))then oB (idx b a) fun r=>(oB (idx c a) fun o=>bif !decide (r.1=o.1)then some false else oB (idx b a) fun p=>oB (idx c a) fun v=>oB (jb1 N p.2 v.2) fun q=>bif !q then some false else if fits (a+1)then m ((a+1),k,n,b,t,u,c)else none)else some true) N ((0:Int),h,e,i,f,d,j))
theorem jtG :mK 49 (bX [.agg [pS,pS,.pv Y11],.agg [pS,pS,.pv Y11]] [pB] (c6A (jbQ N))):=
 mO (fC (jlH N) ja) func49 rfl N (.seq .no (.seq .no (.seq (.seq .no (.block (.loop jnx .no))) .no))) _
def jrW :Sh:=⟨dz 3 (.box 3 0:: .dead:: .box 5 0::pI::dz 39 []),[(3,false,[.pv Y2,.pv Y4]),(5,false,[.own 700500 Y3 50 true,.own 700501 Y5 69 true])]⟩
def s_l7Ok_m (i:List Z0) (h:List Z4) (c:List Z2) (j:List Z1):Z7:=
 (oB (jcw N i h) fun q=>bif !q then some false else oB (jbU N c) fun p=>bif !p then some false else oB (s_l7Of_m N i h c) fun e=>bif !decide ((e.2.length:Int)=(j.length:Int))then some false else iter (fun n (a,o,k,l,f)=>bif decide (a<(f.length:Int))then oB (idx f a) fun d=>(oB (idx k a) fun b=>oB (jbQ N d.1 d.2.1 d.2.2 b.1 b.2.1 b.2.2) fun r=>bif !r then some false else if fits (a+1)then n ((a+1),o,k,l,f)else none)else some true) N ((0:Int),c,j,e.1,e.2))
theorem jpm :mK 19 (bX [.agg [.pv (.sl .str),.pv Y14],.agg [.pv Y2,.pv Y4]] [pB] (c4A (s_l7Ok_m N))):=
 mO (fC (jtf N) (fC (jpx N) (fC (jmU N) (fC (jtG N) ja)))) func19 rfl N (.seq .no (.seq .no (.seq .no (.seq .no (.seq (.seq .no (.block (.loop jrW .no))) .no))))) _
def jxz (N:Nat) (k:Int) (i:List UInt8) (f:List Z0) (c:Int) (d:Int) (b:List DQ) (j:Bool) (h:Bool) (e:Bool) (a:Bool):Z7:=
 (bif j then bif h then bif e then bif a then some true else(some (decide ((b.length:Int)=0)))else(bif decide (c=0)then bif decide (d=0)then bif a then some true else(some (decide ((b.length:Int)=0)))else(some false)else some false)else(bif decide ((f.length:Int)=0)then bif e then bif a then some true else(some (decide ((b.length:Int)=0)))else(bif decide (c=0)then bif decide (d=0)then bif a then some true else(some (decide ((b.length:Int)=0)))else(some false)else some false)else some false)else bif decide (i=([]:List UInt8))then bif h then bif e then bif a then some true else(some (decide ((b.length:Int)=0)))else(bif decide (c=0)then bif decide (d=0)then bif a then some true else(some (decide ((b.length:Int)=0)))else(some false)else some false)else(bif decide ((f.length:Int)=0)then bif e then bif a then some true else(some (decide ((b.length:Int)=0)))else(bif decide (c=0)then bif decide (d=0)then bif a then some true else(some (decide ((b.length:Int)=0)))else(some false)else some false)else some false)else some false)
theorem jDV :mK 144 (bX [.agg [pI,pS,.pv (.sl .str),pI,pI,.pv (.sl .q)],pB,pB,pB,pB] [pB] (c10A (jxz N))):=
 mO ja func144 rfl N .no _
def jDt :Sh:=⟨.pv (.sl .str)::pI::dz 3 (pI::dz 16 []),[]⟩
def jxL (i:List Z0) (j:Int):Z7:=
 (iter (fun h (a,c,b)=>bif decide (b<(a.length:Int))then oB (idx a b) fun e=>(oB (jT N e) fun d=>bif !d then some false else if fits (b+1)then h (a,c,(b+1))else none)else oB (jJ N (a.length:Int) 1 c) fun k=>some k) N (i,j,(0:Int)))
theorem jDs :mK 145 (bX [.pv (.sl .str),pI] [pB] (c2A (jxL N))):=
 mO (fC (jgp N) (fC (jcL N) ja)) func145 rfl N (.seq .no (.seq (.seq .no (.block (.loop jDt .no))) .no)) _
def jBL :Sh:=⟨pS:: .dead:: .dead::pI::dz 28 [],[]⟩
def jyk (j:List UInt8):Z7:=
 (iter (fun c (b,a)=>bif decide (a<(b.length:Int))then oB (idx b a) fun f=>(bif !decide ((f.toNat:Int)=42)then oB (idx b a) fun i=>(bif !decide ((i.toNat:Int)=63)then if fits (a+1)then oB (cut b a (a+1)) fun d=>(oB (jT N d) fun e=>bif !e then some false else if fits (a+1)then c (b,(a+1))else none)else none else if fits (a+1)then c (b,(a+1))else none)else if fits (a+1)then c (b,(a+1))else none)else oB (jJ N (b.length:Int) 1 12) fun k=>some k) N (j,(0:Int)))
theorem jC1 :mK 146 (bX [pS] [pB] (c1A (jyk N))):=
 mO (fC (jgp N) (fC (jcL N) ja)) func146 rfl N (.seq .no (.seq (.seq .no (.block (.loop jBL .no))) .no)) _
def jDP :Sh:=⟨.dead:: .box 1 0:: .dead::pI::dz 4 (pI::dz 123 (pB::dz 34 [])),[(1,false,[pI,pS,.pv (.sl .str),pI,pI,.pv (.sl .q)])]⟩
def jyq (a:Int) (c:List UInt8) (b:List Z0) (d:Int) (e:Int) (f:List DQ):Z7:=
 (bif decide (a=1)then oB (jxz N a c b d e f false false false false) fun w=>(some w)else bif decide (a=2)then oB (jxz N a c b d e f true true false false) fun V=>(bif V then oB (jT N c) fun H=>(bif H then oB (jxL N b 1) fun x=>(some x)else some false)else some false)else bif decide (a=3)then oB (jxz N a c b d e f true true true false) fun X=>(bif X then oB (jT N c) fun R=>(bif R then oB (jxL N b 4) fun A=>(bif A then bif decide ((1:Int)<b.length)then bif decide (e=0)then oB (jJ N d 0 5) fun u=>(some u)else(some false)else(some false)else some false)else some false)else some false)else bif decide (a=4)then oB (jxz N a c b d e f true true true false) fun Q=>(bif Q then oB (jT N c) fun L=>(bif L then oB (jxL N b 1) fun z=>(bif z then bif decide (e=0)then oB (jJ N d 1 2) fun I=>(some I)else(some false)else some false)else some false)else some false)else bif decide (a=5)then oB (jxz N a c b d e f true true false false) fun S=>(bif S then oB (jT N c) fun U=>(bif U then bif decide ((b.length:Int)=1)then oB (idx b 0) fun y=>(oB (jyk N y) fun W=>bif W then oB (idx b 0) fun t=>(oB (jT N t) fun D=>some (!D))else some false)else(some false)else some false)else some false)else bif decide (a=6)then oB (jxz N a c b d e f true false true false) fun O=>(bif O then oB (jT N c) fun C=>(bif C then oB (jJ N d 0 999999999) fun B=>(bif B then oB (jJ N e d 999999999) fun G=>(some G)else some false)else some false)else some false)else meet (fun(q:Int×Int×Bool×Int×Z0×(List Z0)×Int×Int×(List DQ))=>match q with|(k,p,v,n,l,j,i,h,m)=>bif v then oB (jxz N n l j i h m false false false true) fun r=>(bif r then oB (jJ N k 2 4) fun K=>(some K)else some false)else bif decide (p=9)then oB (jxz N n l j i h m false false false true) fun T=>(bif T then some (decide (k=2))else some false)else bif decide (p=10)then oB (jxz N n l j i h m false false true true) fun E=>(bif E then bif decide (k=1)then bif decide (h=0)then oB (jJ N i 2 9) fun P=>(some P)else(some false)else(some false)else some false)else some false) fun o=>bif decide (a=7)then o ((f.length:Int),a,true,a,c,b,d,e,f)else o ((f.length:Int),a,(decide (a=8)),a,c,b,d,e,f))
theorem jBO :mK 100 (bX [.agg [pI,pS,.pv (.sl .str),pI,pI,.pv (.sl .q)]] [pB] (c6A (jyq N))):=
 mO (fC (jDV N) (fC (jgp N) (fC (jDs N) (fC (jcL N) (fC (jC1 N) ja))))) func100 rfl N (.seq .no (.seq .no (.seq (.seq .no (.block (.seq .no (.cond .no (.seq .no (.cond .no (.seq .no (.cond .no (.seq .no (.cond .no (.seq .no (.cond .no (.seq .no (.cond .no (.meet jDP .no .no))))))))))))))) .no))) _
def jD7 :Sh:=⟨.dead::pI:: .box 2 0:: .dead:: .dead::pI::dz 23 [],[(2,false,[pI,pS,.pv (.sl .str),pI,pI,.pv (.sl .q)])]⟩
def jxO (N:Nat):(D:Nat)->Int->Z0->(List Z0)->Int->Int->(List DQ)->Int->Z7
 |0,_,_,_,_,_,_,_=>none
 |D+1,q,q2,q3,q4,q5,q6,deep=>
 bif decide (deep=0)then
 some false
 else
 oB (jyq N q q2 q3 q4 q5 q6) fun r=>
 bif !r then
 some false
 else
 iter (fun go (g:Int×Int×Int×Z0×(List Z0)×Int×Int×(List DQ))=>
 match g with
 |(deep2,i,q7,q8,q9,q10,q11,q12)=>
 bif decide (i<(q12.length:Int))then
 oB (idx q12 i) fun e=>
 (if fits (deep2-1)then oB (jxO N D e.kind e.field e.words e.lo e.hi e.kids (deep2-1)) fun r2=>
 (bif !r2 then
 some false
 else
 if fits (i+1)then go (deep2,(i+1),q7,q8,q9,q10,q11,q12)else none)else none)
 else
 some true) N (deep,0,q,q2,q3,q4,q5,q6)
def jx9 (N D:Nat):Model:=⟨⟨[.agg [pI,pS,.pv (.sl .str),pI,pI,.pv (.sl .q)],pI],[]⟩,⟨[pB],[]⟩,c7A (jxO N D)⟩
theorem jBT (N D:Nat) (ih:mK 50 (jx9 N D)):mK 50 (jx9 N (D+1)):=
 mO (fC ih (fC (jBO N) ja)) func50 rfl N (.seq .no (.seq .no (.seq (.seq .no (.block (.loop jD7 .no))) .no))) (jx9 N (D+1))
theorem jzV (N:Nat):∀D,mK 50 (jx9 N D)
 |0=>modelOk_none ⟨_,func50,by decide,by kernel_rfl⟩ _ (fun a=>rfl)
 |D+1=>jBT N D (jzV N D)
def s_l11Ok_m (h:Int) (c:List UInt8) (f:List Z0) (b:Int) (d:Int) (e:List DQ):Z7:=
 (oB (jxO N N h c f b d e 4) fun a=>some a)
theorem jBX :mK 20 (bX [.agg [pI,pS,.pv (.sl .str),pI,pI,.pv (.sl .q)]] [pB] (c6A (s_l11Ok_m N))):=
 mO (fC (jzV N N) ja) func20 rfl N .no _
def jA0 :Sh:=⟨.dead::pI:: .box 2 0:: .dead:: .box 4 0::pI::dz 21 [],[(2,false,[.pv Y2,.pv Y4]),(4,false,[pI,.nils,.nils])]⟩
def jyv (m:List Z2) (i:List Z1) (l:Int):Option Z2:=
 (iter (fun j (d,a,b,k,f)=>bif decide (a<(b.length:Int))then oB (idx b a) fun e=>(bif decide (e.1=d)then oB (idx b a) fun c=>(some (c.1,c.2.1,c.2.2))else if fits (a+1)then j (d,(a+1),b,k,f)else none)else some (0,([]:Z12),([]:Z6))) N (l,(0:Int),m,i,(0:Int)))
theorem jDn :mK 21 (bX [.agg [.pv Y2,.pv Y4],pI] [.agg [pI,.pv Y16,.pv Y13]] (c3A (jyv N))):=
 mO ja func21 rfl N (.seq .no (.seq (.seq .no (.block (.loop jA0 .no))) .no)) _
def jyC (a:List Z0) (b:List Z4) (d:List UInt8):Option (Z0):=
 (oB (jcw N a b) fun e=>bif !e then some ([]:List UInt8)else oB (jT N d) fun h=>bif !h then some ([]:List UInt8)else oB (ja5 N a b d) fun c=>bif decide ((c.length:Int)=0)then some ([]:List UInt8)else oB (idx c 0) fun f=>some f.1)
theorem jCy :mK 52 (bX [.agg [.pv (.sl .str),.pv Y14],pS] [pS] (c3A (jyC N))):=
 mO (fC (jtf N) (fC (jgp N) (fC (jiO N) ja))) func52 rfl N .no _
def jtm :Sh:=⟨.dead::pS::pS:: .box 3 0::dz 3 (pI::dz 31 []),[(3,false,[.pv Y2,.pv Y4])]⟩
def s_l7Posts_m (o:List Z2) (j:List Z1) (k:List UInt8) (m:List UInt8):Option (Z13):=
 (iter (fun e (c,d,a,f,b)=>bif decide (a<(b.length:Int))then oB (idx b a) fun h=>(bif decide (h.1=c)then oB (idx b a) fun l=>(bif decide (l.2.1=d)then oB (idx b a) fun n=>(some n.2.2)else if fits (a+1)then e (c,d,(a+1),f,b)else none)else if fits (a+1)then e (c,d,(a+1),f,b)else none)else some ([]:Z3)) N (k,m,(0:Int),o,j))
theorem jh6 :mK 105 (bX [.agg [.pv Y2,.pv Y4],pS,pS] [.pv Y11] (c4A (s_l7Posts_m N))):=
 mO ja func105 rfl N (.seq .no (.seq (.seq .no (.block (.loop jtm .no))) .no)) _
def jst :Sh:=⟨dz 3 (pI::dz 5 (.pv Y11::pI::dz 22 [])),[]⟩
def s_l12At_m (n:List Z2) (h:List Z1) (j:List UInt8) (l:List UInt8) (m:Int):Option ((List Int)):=
 (oB (s_l7Posts_m N n h j l) fun d=>iter (fun i (c,b,a)=>bif decide (a<(b.length:Int))then oB (idx b a) fun e=>(bif decide (e.1=c)then oB (idx b a) fun k=>(some k.2)else if fits (a+1)then i (c,b,(a+1))else none)else some ([]:List Int)) N (m,d,(0:Int)))
theorem jn1 :mK 101 (bX [.agg [.pv Y2,.pv Y4],pS,pS,pI] [.pv Y19] (c5A (s_l12At_m N))):=
 mO (fC (jh6 N) ja) func101 rfl N (.seq .no (.seq .no (.seq (.seq .no (.block (.loop jst .no))) .no))) _
def jqS :Sh:=⟨.dead::pS::pI:: .box 3 0::dz 3 (pI::pI::dz 55 []),[(3,false,[.pv Y2,.pv Y4])]⟩
def jm7 :Sh:=⟨.dead::pS::pI:: .box 3 0::dz 3 (pI::pI::pI::dz 54 []),[(3,false,[.pv Y2,.pv Y4])]⟩
def s_l7Long_m (t:List Z2) (x:List Z1) (z:List UInt8) (B:Int):Z11:=
 (iter (fun j (w,y,m,l,p,o)=>bif decide (l<(o.length:Int))then iter (fun n (f,d,e,a,c,h,b)=>oB (idx b a) fun u=>bif decide (c<(u.2.2.length:Int))then oB (idx b a) fun q=>(bif decide (q.1=f)then oB (idx b a) fun r=>(oB (idx r.2.2 c) fun A=>bif decide (A.1=d)then oB (idx b a) fun v=>(oB (idx v.2.2 c) fun k=>if fits (e+(k.2.length:Int))then if fits (c+1)then n (f,d,(e+(k.2.length:Int)),a,(c+1),h,b)else none else none)else if fits (c+1)then n (f,d,e,a,(c+1),h,b)else none)else if fits (a+1)then j (f,d,e,(a+1),h,b)else none)else if fits (a+1)then j (f,d,e,(a+1),h,b)else none) N (w,y,m,l,(0:Int),p,o)else some m) N (z,B,(0:Int),(0:Int),t,x))
theorem jrY :mK 103 (bX [.agg [.pv Y2,.pv Y4],pS,pI] [pI] (c4A (s_l7Long_m N))):=
 mO ja func103 rfl N (.seq .no (.seq .no (.seq (.seq .no (.block (.loop jqS (.seq .no (.seq (.block (.seq .no (.block (.loop jm7 .no)))) .no))))) .no))) _
def jsB :Sh:=⟨.dead::pS:: .box 2 0:: .dead:: .dead::pI::pI::dz 43 [],[(2,false,[.pv Y2,.pv Y4])]⟩
def jnl :Sh:=⟨.dead::pS:: .box 2 0:: .dead:: .dead::pI::pI::pI::dz 42 [],[(2,false,[.pv Y2,.pv Y4])]⟩
def s_l12Total_m (q:List Z2) (v:List Z1) (w:List UInt8):Z11:=
 (iter (fun i (t,k,j,n,l)=>bif decide (j<(l.length:Int))then iter (fun u (e,d,a,c,h,b)=>oB (idx b a) fun r=>bif decide (c<(r.2.2.length:Int))then oB (idx b a) fun o=>(bif decide (o.1=e)then oB (idx b a) fun p=>(oB (idx p.2.2 c) fun m=>if fits (d+(m.2.length:Int))then if fits (c+1)then u (e,(d+(m.2.length:Int)),a,(c+1),h,b)else none else none)else if fits (a+1)then i (e,d,(a+1),h,b)else none)else if fits (a+1)then i (e,d,(a+1),h,b)else none) N (t,k,j,(0:Int),n,l)else some k) N (w,(0:Int),(0:Int),q,v))
theorem jn2 :mK 104 (bX [.agg [.pv Y2,.pv Y4],pS] [pI] (c3A (s_l12Total_m N))):=
 mO ja func104 rfl N (.seq .no (.seq .no (.seq (.seq .no (.block (.loop jsB (.seq .no (.seq (.block (.seq .no (.block (.loop jnl .no)))) .no))))) .no))) _
def jsx :Sh:=⟨pI::pI::dz 3 (pI::dz 13 []),[]⟩
def jbz (f:Int) (h:Int):Z11:=
 (iter (fun e (a,c,b)=>bif decide ((0:Int)<a)then if fits (a*2)then bif decide ((a*2)<=c)then if fits (a*2)then if fits (b+1)then e ((a*2),c,(b+1))else none else none else(some b)else none else some b) N (f,h,(0:Int)))
theorem jkd :mK 148 (bX [pI,pI] [pI] (c2A (jbz N))):=
 mO ja func148 rfl N (.seq .no (.seq .no (.seq (.block (.loop jsx .no)) .no))) _
def jkC :Sh:=⟨pI::pI::dz 15 [],[]⟩
def jaY (N:Nat):(D:Nat)->Int->Int->Z11
 |0,_,_=>none
 |D+1,a,b=>
 meet (fun(g:Int×Int)=>
 match g with
 |(a2,b2)=>
 bif decide (b2=0)then
 some a2
 else
 if b2≠0 then
 oB (jaY N D b2 (a2.tmod b2)) fun r=>
 (some r)
 else none) fun J=>
 bif decide (a<0)then
 if fits (0-a)then J ((0-a),b)else none
 else
 J (a,b)
def jcQ (N D:Nat):Model:=⟨⟨[pI,pI],[]⟩,⟨[pI],[]⟩,c2A (jaY N D)⟩
theorem jlI (N D:Nat) (ih:mK 187 (jcQ N D)):mK 187 (jcQ N (D+1)):=
 mO (fC ih ja) func187 rfl N (.seq .no (.meet jkC .no .no)) (jcQ N (D+1))
theorem jeF (N:Nat):∀D,mK 187 (jcQ N D)
 |0=>modelOk_none ⟨_,func187,by decide,by kernel_rfl⟩ _ (fun a=>rfl)
 |D+1=>jlI N D (jeF N D)
def jlg :Sh:=⟨pI::pI:: .dead:: .dead:: .box 4 0::dz 17 [],[(4,false,[pI,pI])]⟩
def jcf (d:Int) (b:Int):Option (Int×Int):=
 (meet (fun(h:Int×Int×Int×Int)=>match h with|(c,e,j,i)=>oB (jaY N N c e) fun a=>if a≠0 then if fits (c.tdiv a)then if a≠0 then if fits (e.tdiv a)then some ((c.tdiv a),(e.tdiv a))else none else none else none else none) fun f=>bif decide (b<0)then if fits (0-d)then if fits (0-b)then f ((0-d),(0-b),0,0)else none else none else f (d,b,0,0))
theorem jn4 :mK 147 (bX [pI,pI] [.agg [pI,pI]] (c2A (jcf N))):=
 mO (fC (jeF N N) ja) func147 rfl N (.seq .no (.meet jlg .no .no)) _
def jqT :Sh:=⟨pI:: .dead:: .dead::pI::pI::dz 5 (.box 10 0::pI::dz 21 []),[(10,false,[pI,pI])]⟩
def s_l12Term_m (j:Int) (e:Int) (d:Int) (b:Int) (i:Int):Option (Int×Int):=
 (meet (fun(l:Int×Int×Int×Int×Int×Int)=>match l with|(a,m,n,f,o,p)=>oB (jbz N n m) fun c=>if fits (1+c)then if fits ((1+c)*22)then if fits (((1+c)*22)*a)then if fits (10*a)then if fits ((10*a)+3)then if fits (((10*a)+3)+f)then oB (jcf N (((1+c)*22)*a) (((10*a)+3)+f)) fun k=>(some (k.1,k.2))else none else none else none else none else none else none) fun h=>bif decide ((0:Int)<d)then if fits (e*b)then if fits ((e*b)*9)then if d≠0 then if fits (((e*b)*9).tdiv d)then h (j,b,i,(((e*b)*9).tdiv d),0,0)else none else none else none else none else h (j,b,i,1,0,0))
theorem jtF :mK 102 (bX [pI,pI,pI,pI,pI] [.agg [pI,pI]] (c5A (s_l12Term_m N))):=
 mO (fC (jkd N) (fC (jn4 N) ja)) func102 rfl N (.seq .no (.seq .no (.meet jqT .no .no))) _
def s_l12Points_m (b:List Z2) (c:List Z1) (d:List UInt8) (f:List UInt8) (h:Int):Z11:=
 (oB (s_l12At_m N b c d f h) fun e=>bif decide ((e.length:Int)=0)then some 0 else oB (s_l7Long_m N b c d h) fun k=>oB (s_l12Total_m N b c d) fun j=>oB (s_l7Posts_m N b c d f) fun i=>oB (s_l12Term_m N (e.length:Int) k j (b.length:Int) (i.length:Int)) fun a=>if fits (a.1*1000)then if a.2≠0 then if fits ((a.1*1000).tdiv a.2)then some ((a.1*1000).tdiv a.2)else none else none else none)
theorem jrZ :mK 51 (bX [.agg [.pv Y2,.pv Y4],pS,pS,pI] [pI] (c5A (s_l12Points_m N))):=
 mO (fC (jn1 N) (fC (jrY N) (fC (jn2 N) (fC (jh6 N) (fC (jtF N) ja))))) func51 rfl N .no _
def jAu :Sh:=⟨.pv (.sl .str)::pS::dz 3 (pS::pI::dz 18 []),[]⟩
def jxS (o:List Z0) (l:List UInt8):Option (Z0):=
 (iter (fun n (f,a,b,c)=>bif decide (c<(f.length:Int))then meet (fun(d:(List Z0)×Z0×Z0×Int)=>match d with|(j,m,i,e)=>oB (idx j e) fun h=>if i.length+h.length<=9223372036854775807 then if fits (e+1)then n (j,m,(i++h),(e+1))else none else none) fun k=>(bif decide ((0:Int)<c)then if b.length+a.length<=9223372036854775807 then k (f,a,(b++a),c)else none else k (f,a,b,c))else some b) N (o,l,([]:List UInt8),(0:Int)))
theorem jAy :mK 109 (bX [.pv (.sl .str),pS] [pS] (c2A (jxS N))):=
 mO ja func109 rfl N (.seq .no (.seq .no (.seq (.seq .no (.block (.loop jAu (.seq .no (.seq (.block (.meet jAu .no .no)) .no))))) .no))) _
def jB2 :Sh:=⟨dz 3 (pI:: .dead:: .box 5 0:: .box 6 0:: .dead:: .dead:: .own 600009 Y19 84 true:: .own 600010 Y15 114 true::pI::dz 65 []),[(5,false,[.pv Y2,.pv Y4]),(6,false,[pI,pS,.pv (.sl .str),pI,pI,.pv (.sl .q)])]⟩
def jCf :Sh:=⟨dz 3 (pI:: .dead:: .box 5 0:: .box 6 0:: .dead:: .dead:: .own 600009 Y19 84 true:: .own 600010 Y15 114 true::pI::pI:: .pv Y19:: .own 600014 tI 3 true::pI::dz 61 []),[(5,false,[.pv Y2,.pv Y4]),(6,false,[pI,pS,.pv (.sl .str),pI,pI,.pv (.sl .q)])]⟩
def jyf (c:List Z0) (c2:List Z4) (s:List Z2) (s2:List Z1) (q:Int) (q2:List UInt8) (q3:List Z0) (q4:Int) (q5:Int) (q6:List DQ) (id:Int):Option (Z14):=
 (oB (jxS N q3 ([32]:List UInt8)) fun r=>oB (ja5 N c c2 r) fun r2=>iter (fun go (id2,out,terms,i,s3,s4,q7,q8,q9,q10,q11,q12)=>bif decide (i<(terms.length:Int))then oB (idx terms i) fun e=>(oB (idx terms 0) fun e2=>if fits (e.2-e2.2)then if fits ((e.2-e2.2)-i)then oB (idx terms i) fun e3=>(oB (s_l12At_m N s3 s4 q8 e3.1 id2) fun r3=>iter (fun go2 (id3,out2,terms2,i2,shift,at0,list,k,s5,s6,q13,q14,q15,q16,q17,q18)=>bif decide (k<(at0.length:Int))then oB (idx at0 k) fun e4=>(bif decide (shift<=e4)then oB (idx at0 k) fun e5=>(if fits (e5-shift)then if room list.length ([(e5-shift)]:List Int).length 8 then if fits (k+1)then go2 (id3,out2,terms2,i2,shift,at0,(list++([(e5-shift)]:List Int)),(k+1),s5,s6,q13,q14,q15,q16,q17,q18)else none else none else none)else if fits (k+1)then go2 (id3,out2,terms2,i2,shift,at0,list,(k+1),s5,s6,q13,q14,q15,q16,q17,q18)else none)else if room out2.length ([list]:List (List Int)).length 24 then if fits (i2+1)then go (id3,(out2++([list]:List (List Int))),terms2,(i2+1),s5,s6,q13,q14,q15,q16,q17,q18)else none else none) N (id2,out,terms,i,((e.2-e2.2)-i),r3,([]:List Int),(0:Int),s3,s4,q7,q8,q9,q10,q11,q12))else none else none)else some out) N (id,([]:List (List Int)),r2,(0:Int),s,s2,q,q2,q3,q4,q5,q6))
theorem jCm :mK 107 (bX [.agg [.pv (.sl .str),.pv Y14],.agg [.pv Y2,.pv Y4],.agg [pI,pS,.pv (.sl .str),pI,pI,.pv (.sl .q)],pI] [.own 1 Y19 84 true] (c11A (jyf N))):=
 mO (fC (jAy N) (fC (jiO N) (fC (jn1 N) ja))) func107 rfl N (.seq .no (.seq .no (.seq .no (.seq (.seq .no (.block (.loop jB2 (.seq .no (.seq (.block (.seq .no (.seq .no (.seq .no (.seq (.seq .no (.block (.loop jCf .no))) .no))))) .no))))) .no)))) _
def jCI :Sh:=⟨.pv Y19:: .dead:: .dead::pI::dz 31 [],[]⟩
def jx3 (h:List Int):Z7:=
 (iter (fun c (b,a)=>bif decide (a<(b.length:Int))then oB (idx b a) fun e=>(oB (jJ N e 0 999999999) fun d=>bif !d then some false else bif decide ((0:Int)<a)then oB (idx b a) fun i=>(if fits (a-1)then oB (idx b (a-1)) fun j=>(bif decide (i<=j)then some false else if fits (a+1)then c (b,(a+1))else none)else none)else if fits (a+1)then c (b,(a+1))else none)else some (decide ((b.length:Int)<=60))) N (h,(0:Int)))
theorem jC9 :mK 151 (bX [.pv Y19] [pB] (c1A (jx3 N))):=
 mO (fC (jcL N) ja) func151 rfl N (.seq .no (.seq (.seq .no (.block (.loop jCI .no))) .no)) _
def jBI :Sh:=⟨.pv (.sl Y19)::pI::pI::pI::pI::dz 6 (pI::dz 46 []),[]⟩
def jxJ (N:Nat):(D:Nat)->Z14->Int->Int->Int->Int->Z7
 |0,_,_,_,_,_=>none
 |D+1,lists,k,last,start,slop=>
 bif decide (k=(lists.length:Int))then
 if fits (last-start)then if fits ((lists.length:Int)-1)then if fits ((last-start)-((lists.length:Int)-1))then some (decide (((last-start)-((lists.length:Int)-1))<=slop))else none else none else none
 else
 iter (fun go (g:Z14×Int×Int×Int×Int×Int)=>
 match g with
 |(lists2,k2,last2,start2,slop2,i)=>
 oB (idx lists2 k2) fun e=>
 bif decide (i<(e.length:Int))then
 oB (idx lists2 k2) fun e2=>
 (oB (idx e2 i) fun e3=>
 bif decide (last2<e3)then
 if fits (k2+1)then oB (idx lists2 k2) fun e4=>
 (oB (idx e4 i) fun e5=>
 oB (jxJ N D lists2 (k2+1) e5 start2 slop2) fun r=>
 bif r then
 some true
 else
 if fits (i+1)then go (lists2,k2,last2,start2,slop2,(i+1))else none)else none
 else
 if fits (i+1)then go (lists2,k2,last2,start2,slop2,(i+1))else none)
 else
 some false) N (lists,k,last,start,slop,0)
def jyj (N D:Nat):Model:=⟨⟨[.pv (.sl Y19),pI,pI,pI,pI],[]⟩,⟨[pB],[]⟩,c5A (jxJ N D)⟩
theorem jD8 (N D:Nat) (ih:mK 152 (jyj N D)):mK 152 (jyj N (D+1)):=
 mO (fC ih ja) func152 rfl N (.seq .no (.seq .no (.seq (.seq .no (.block (.loop jBI .no))) .no))) (jyj N (D+1))
theorem jzt (N:Nat):∀D,mK 152 (jyj N D)
 |0=>modelOk_none ⟨_,func152,by decide,by kernel_rfl⟩ _ (fun a=>rfl)
 |D+1=>jD8 N D (jzt N D)
def jCF :Sh:=⟨.pv (.sl Y19)::pI::dz 3 (.own 600005 tI 3 true::pI::dz 56 []),[]⟩
def jBd :Sh:=⟨.pv (.sl Y19)::pI::dz 3 (.own 600005 tI 3 true:: .dead::pI::dz 55 []),[]⟩
def jyb (w:List (List Int)) (A:Int):Option ((List Int)):=
 (iter (fun m (c,h,k,d)=>bif decide (d<(c.length:Int))then oB (idx c d) fun u=>(oB (jx3 N u) fun r=>bif !r then some ([]:List Int)else if fits (d+1)then m (c,h,k,(d+1))else none)else oB (jJ N (c.length:Int) 1 6) fun p=>bif !p then some ([]:List Int)else oB (jJ N h 0 5) fun x=>bif !x then some ([]:List Int)else iter (fun l (b,i,e,a)=>oB (idx b 0) fun o=>bif decide (a<(o.length:Int))then oB (idx b 0) fun q=>(oB (idx q a) fun z=>oB (idx b 0) fun v=>oB (idx v a) fun n=>oB (jxJ N N b 1 z n i) fun t=>bif t then oB (idx b 0) fun y=>(oB (idx y a) fun j=>if room e.length ([j]:List Int).length 8 then if fits (a+1)then l (b,i,(e++([j]:List Int)),(a+1))else none else none)else if fits (a+1)then l (b,i,e,(a+1))else none)else some e) N (c,h,k,(0:Int))) N (w,A,([]:List Int),(0:Int)))
theorem jAW :mK 108 (bX [.pv (.sl Y19),pI] [.own 1 tI 3 true] (c2A (jyb N))):=
 mO (fC (jC9 N) (fC (jcL N) (fC (jzt N N) ja))) func108 rfl N (.seq .no (.seq .no (.seq (.seq .no (.block (.loop jCF .no))) (.seq .no (.seq (.seq .no (.block (.loop jBd .no))) .no))))) _
def jCQ :Sh:=⟨dz 3 (pI:: .dead:: .box 5 0:: .box 6 0::dz 3 (pI::pI:: .own 600012 Y15 114 true::pI::dz 41 [])),[(5,false,[.pv Y2,.pv Y4]),(6,false,[pI,pS,.pv (.sl .str),pI,pI,.pv (.sl .q)])]⟩
def jCS :Sh:=⟨dz 3 (pI:: .box 4 0:: .box 5 0:: .box 6 0::dz 3 (pI::dz 44 [])),[(4,false,[.pv (.sl .str),.pv Y14]),(5,false,[.pv Y2,.pv Y4]),(6,false,[pI,pS,.pv (.sl .str),pI,pI,.pv (.sl .q)])]⟩
def jx2 (o:List Z0) (l:List Z4) (i:List Z2) (q:List Z1) (h:Int) (p:List UInt8) (n:List Z0) (c:Int) (e:Int) (f:List DQ) (k:Int):Z11:=
 (oB (jyf N o l i q h p n c e f k) fun v=>bif decide ((v.length:Int)=0)then some 0 else oB (jyb N v c) fun y=>meet (fun(d:Int×Int×(List Z0)×(List Z4)×(List Z2)×(List Z1)×Int×Z0×(List Z0)×Int×Int×(List DQ))=>match d with|(O,V,W,E,D,aa,S,P,u,G,B,R)=>oB (jxS N u ([32]:List UInt8)) fun Q=>oB (ja5 N W E Q) fun I=>iter (fun T (t,j,b,m,a,r,x,X,A,U,C,L,H)=>bif decide (a<(m.length:Int))then oB (idx m a) fun K=>(oB (s_l12Points_m N r x A K.1 t) fun z=>if fits (b+z)then if fits (a+1)then T (t,j,(b+z),m,(a+1),r,x,X,A,U,C,L,H)else none else none)else if fits (b*j)then some (b*j)else none) N (O,V,(0:Int),I,(0:Int),D,aa,S,P,u,G,B,R)) fun w=>bif decide ((3:Int)<y.length)then w (k,3,o,l,i,q,h,p,n,c,e,f)else w (k,(y.length:Int),o,l,i,q,h,p,n,c,e,f))
theorem jAL :mK 53 (bX [.agg [.pv (.sl .str),.pv Y14],.agg [.pv Y2,.pv Y4],.agg [pI,pS,.pv (.sl .str),pI,pI,.pv (.sl .q)],pI] [pI] (c11A (jx2 N))):=
 mO (fC (jCm N) (fC (jAW N) (fC (jAy N) (fC (jiO N) (fC (jrZ N) ja))))) func53 rfl N (.seq .no (.seq .no (.seq .no (.seq .no (.meet jCS .no (.seq .no (.seq .no (.seq (.seq .no (.block (.loop jCQ .no))) .no)))))))) _
def s_l5Min_m (N:Nat) (b:Int) (a:Int):Z11:=
 (bif decide (b<a)then some b else some a)
theorem jDQ :mK 153 (bX [pI,pI] [pI] (c2A (s_l5Min_m N))):=
 mO ja func153 rfl N .no _
def jCw :Sh:=⟨pS::pS::dz 3 (.mtk 600005 tI 3 true::pI::dz 74 []),[]⟩
def jDJ :Sh:=⟨pS::pS::dz 3 (.mtk 600005 tI 3 true:: .dead::pI::dz 73 []),[]⟩
def jDM :Sh:=⟨pS::pS::dz 3 (.mtk 600005 tI 3 true:: .dead::pI::pI::pI::dz 71 []),[]⟩
def jBZ :Sh:=⟨pS::pS::dz 3 (.mtk 600005 tI 3 true:: .dead::pI:: .dead::pI::pI::dz 70 []),[]⟩
def s_l5Far_m (B:List UInt8) (d:List UInt8):Z11:=
 (if fits ((d.length:Int)+1)then if((d.length:Int)+1)=((d.length:Int)+1)/\0<=((d.length:Int)+1)/\((d.length:Int)+1)*8<=140737488355328/\((d.length:Int)+1)<=140737488355328 then iter (fun D (v,p,m,c)=>bif decide (c<=(p.length:Int))then if 0<=c/\c<(m.length:Int)then oB (m[c.toNat]?) fun R=>(if fits (c+1)then D (v,p,(m.set c.toNat c),(c+1))else none)else none else iter (fun A (u,n,f,j)=>bif decide (j<(u.length:Int))then if 0<=(0:Int)/\(0:Int)<f.length then oB (f[(0:Int).toNat]?) fun x=>(if fits (j+1)then if 0<=(0:Int)/\(0:Int)<f.length then oB (f[(0:Int).toNat]?) fun Q=>(iter (fun L (l,h,q,i,o,k)=>bif decide (k<(h.length:Int))then meet (fun(e:Z15)=>match e with|(E,O,b,H,a,z)=>if fits (a+1)then if 0<=(a+1)/\(a+1)<(b.length:Int)then oB (b[(a+1).toNat]?) fun P=>(if fits (a+1)then if 0<=a/\a<(b.length:Int)then oB (b[a.toNat]?) fun y=>(if fits (a+1)then if 0<=(a+1)/\(a+1)<(b.length:Int)then oB (b[(a+1).toNat]?) fun G=>(oB (s_l5Min_m N y G) fun r=>if fits (r+1)then oB (s_l5Min_m N z (r+1)) fun I=>(if 0<=(a+1)/\(a+1)<(b.length:Int)then oB (b[(a+1).toNat]?) fun S=>(if fits (a+1)then L (E,O,(b.set (a+1).toNat I),H,P,(a+1))else none)else none)else none)else none else none)else none else none)else none else none) fun t=>(oB (idx l i) fun K=>oB (idx h k) fun C=>bif !decide ((K.toNat:Int)=(C.toNat:Int))then if fits (o+1)then t (l,h,q,i,k,(o+1))else none else t (l,h,q,i,k,o))else if fits (i+1)then A (l,h,q,(i+1))else none) N (u,n,(f.set (0:Int).toNat (j+1)),j,x,(0:Int)))else none else none)else none else if 0<=(n.length:Int)/\(n.length:Int)<(f.length:Int)then oB (f[(n.length:Int).toNat]?) fun w=>(some w)else none) N (v,p,m,(0:Int))) N (B,d,(List.replicate ((d.length:Int)+1).toNat 0),(0:Int))else none else none)
theorem jBt :mK 110 (bX [pS,pS] [pI] (c2A (s_l5Far_m N))):=
 mO (fC (jDQ N) ja) func110 rfl N (.seq .no (.seq .no (.seq (.seq .no (.block (.loop jCw .no))) (.seq (.seq .no (.block (.loop jDJ (.seq .no (.seq (.block (.seq .no (.seq .no (.seq .no (.block (.loop jDM (.seq .no (.seq (.block (.seq .no (.meet jBZ .no .no))) .no)))))))) .no))))) .no)))) _ (wr:=[14])
def jC5 :Sh:=⟨.dead:: .dead::pI:: .box 3 0:: .box 4 0:: .dead:: .dead::pI::pI::dz 49 [],[(3,false,[.pv Y2,.pv Y4]),(4,false,[pI,pS,.pv (.sl .str),pI,pI,.pv (.sl .q)])]⟩
def jx5 (x:List Z2) (A:List Z1) (v:Int) (z:List UInt8) (u:List Z0) (y:Int) (r:Int) (t:List DQ) (B:Int):Z11:=
 (iter (fun m (j,i,a,e,b,k,d,f,h,l,o)=>bif decide (a<(b.length:Int))then oB (idx b a) fun p=>(oB (idx f 0) fun w=>oB (s_l5Far_m N p.2.1 w) fun c=>bif !decide (p.1=d)then if fits (a+1)then m (j,i,(a+1),e,b,k,d,f,h,l,o)else none else bif decide (h<c)then if fits (a+1)then m (j,i,(a+1),e,b,k,d,f,h,l,o)else none else oB (s_l12Points_m N e b d p.2.1 j) fun n=>if fits (3-c)then if fits (n*(3-c))then if 3≠0 then if fits ((n*(3-c)).tdiv 3)then bif decide (i<((n*(3-c)).tdiv 3))then if fits (a+1)then m (j,((n*(3-c)).tdiv 3),(a+1),e,b,k,d,f,h,l,o)else none else(if fits (a+1)then m (j,i,(a+1),e,b,k,d,f,h,l,o)else none)else none else none else none else none)else some i) N (B,(0:Int),(0:Int),x,A,v,z,u,y,r,t))
theorem jCb :mK 54 (bX [.agg [.pv Y2,.pv Y4],.agg [pI,pS,.pv (.sl .str),pI,pI,.pv (.sl .q)],pI] [pI] (c9A (jx5 N))):=
 mO (fC (jBt N) (fC (jrZ N) ja)) func54 rfl N (.seq .no (.seq .no (.seq (.seq .no (.block (.loop jC5 .no))) .no))) _
def jxB (N:Nat):(D:Nat)->Z0->Z0->Z7
 |0,_,_=>none
 |D+1,p,s=>
 bif decide (p=([]:List UInt8))then
 some (decide (s=([]:List UInt8)))
 else
 oB (idx p 0) fun c=>
 bif decide ((c.toNat:Int)=42)then
 oB (cut p 1 (p.length:Int)) fun y=>
 (oB (jxB N D y s) fun r=>
 bif r then
 some true
 else
 bif !decide (s=([]:List UInt8))then
 oB (cut s 1 (s.length:Int)) fun y2=>
 (oB (jxB N D p y2) fun r2=>
 some r2)
 else
 some false)
 else
 bif !decide (s=([]:List UInt8))then
 oB (idx p 0) fun c2=>
 (bif decide ((c2.toNat:Int)=63)then
 oB (cut p 1 (p.length:Int)) fun y3=>
 (oB (cut s 1 (s.length:Int)) fun y4=>
 oB (jxB N D y3 y4) fun r3=>
 some r3)
 else
 oB (idx p 0) fun c3=>
 oB (idx s 0) fun c4=>
 bif decide ((c3.toNat:Int)=(c4.toNat:Int))then
 oB (cut p 1 (p.length:Int)) fun y5=>
 (oB (cut s 1 (s.length:Int)) fun y6=>
 oB (jxB N D y5 y6) fun r4=>
 some r4)
 else
 some false)
 else
 some false
def jyr (N D:Nat):Model:=⟨⟨[pS,pS],[]⟩,⟨[pB],[]⟩,c2A (jxB N D)⟩
theorem jDg (N D:Nat) (ih:mK 111 (jyr N D)):mK 111 (jyr N (D+1)):=
 mO (fC ih ja) func111 rfl N .no (jyr N (D+1))
theorem jzM (N:Nat):∀D,mK 111 (jyr N D)
 |0=>modelOk_none ⟨_,func111,by decide,by kernel_rfl⟩ _ (fun a=>rfl)
 |D+1=>jDg N D (jzM N D)
def jBi :Sh:=⟨.dead:: .dead::pI:: .box 3 0:: .box 4 0:: .dead:: .dead::pI::dz 38 [],[(3,false,[.pv Y2,.pv Y4]),(4,false,[pI,pS,.pv (.sl .str),pI,pI,.pv (.sl .q)])]⟩
def jyd (v:List Z2) (z:List Z1) (r:Int) (y:List UInt8) (q:List Z0) (x:Int) (o:Int) (p:List DQ) (A:Int):Z7:=
 (iter (fun j (f,a,d,b,h,c,e,k,i,m)=>bif decide (a<(b.length:Int))then oB (idx b a) fun l=>(bif decide (l.1=c)then oB (idx e 0) fun t=>(oB (jxB N N t l.2.1) fun w=>bif w then oB (s_l12At_m N d b c l.2.1 f) fun u=>(bif decide ((0:Int)<u.length)then some true else if fits (a+1)then j (f,(a+1),d,b,h,c,e,k,i,m)else none)else if fits (a+1)then j (f,(a+1),d,b,h,c,e,k,i,m)else none)else if fits (a+1)then j (f,(a+1),d,b,h,c,e,k,i,m)else none)else some false) N (A,(0:Int),v,z,r,y,q,x,o,p))
theorem jCi :mK 56 (bX [.agg [.pv Y2,.pv Y4],.agg [pI,pS,.pv (.sl .str),pI,pI,.pv (.sl .q)],pI] [pB] (c9A (jyd N))):=
 mO (fC (jzM N N) (fC (jn1 N) ja)) func56 rfl N (.seq .no (.seq (.seq .no (.block (.loop jBi .no))) .no)) _
def jyV (N:Nat) (a:Bool):Z11:=
 (bif a then some 100 else some 0)
theorem jCo :mK 55 (bX [pB] [pI] (c1A (jyV N))):=
 mO ja func55 rfl N .no _
def jym (h:Int) (k:Z12) (l:Z6) (m:List UInt8):Z11:=
 (iter (fun i (c,a,e,n,b)=>bif decide (a<(b.length:Int))then oB (idx b a) fun d=>(bif decide (d.1=c)then oB (idx b a) fun j=>(some j.2)else if fits (a+1)then i (c,(a+1),e,n,b)else none)else some (-1)) N (m,(0:Int),h,k,l))
theorem jDS :mK 58 (bX [.agg [pI,.pv Y16,.pv Y13],pS] [pI] (c4A (jym N))):=
 mO ja func58 rfl N (.seq .no (.seq (.seq .no (.block (.loop jl8 .no))) .no)) _
def jDX :Sh:=⟨dz 3 (pI:: .box 4 0:: .box 5 0:: .box 6 0:: .dead:: .dead::pI::pI::dz 111 []),[(4,false,[.pv (.sl .str),.pv Y14]),(5,false,[.pv Y2,.pv Y4]),(6,false,[pI,pS,.pv (.sl .str),pI,pI,.pv (.sl .q)])]⟩
def s_l12Score_m (N:Nat):(D:Nat)->(List Z0)->(List Z4)->(List Z2)->(List Z1)->Int->Z0->(List Z0)->Int->Int->(List DQ)->Int->Z11
 |0,_,_,_,_,_,_,_,_,_,_,_=>none
 |D+1,c,c2,s,s2,q,q2,q3,q4,q5,q6,id=>
 bif decide (q=1)then
 some 100
 else
 bif decide (q=2)then
 oB (idx q3 0) fun e=>
 (oB (jyC N c c2 e) fun r=>
 oB (s_l12Points_m N s s2 q2 r id) fun r2=>
 some r2)
 else
 bif decide (q=3)then
 oB (jx2 N c c2 s s2 q q2 q3 q4 q5 q6 id) fun r3=>
 (some r3)
 else
 bif decide (q=4)then
 oB (jx5 N s s2 q q2 q3 q4 q5 q6 id) fun r4=>
 (some r4)
 else
 bif decide (q=5)then
 oB (jyd N s s2 q q2 q3 q4 q5 q6 id) fun r5=>
 (oB (jyV N r5) fun r6=>
 some r6)
 else
 bif decide (q=6)then
 oB (jyv N s s2 id) fun r7=>
 (oB (jym N r7.1 r7.2.1 r7.2.2 q2) fun r8=>
 oB (jJ N r8 q4 q5) fun r9=>
 oB (jyV N r9) fun r10=>
 some r10)
 else
 bif decide (q=10)then
 oB (idx q6 0) fun e2=>
 (oB (s_l12Score_m N D c c2 s s2 e2.kind e2.field e2.words e2.lo e2.hi e2.kids id) fun r11=>
 if fits (q4*r11)then some (q4*r11)else none)
 else
 bif decide (q=9)then
 oB (idx q6 1) fun e3=>
 (oB (s_l12Score_m N D c c2 s s2 e3.kind e3.field e3.words e3.lo e3.hi e3.kids id) fun r12=>
 bif decide ((0:Int)<r12)then
 some 0
 else
 oB (idx q6 0) fun e4=>
 oB (s_l12Score_m N D c c2 s s2 e4.kind e4.field e4.words e4.lo e4.hi e4.kids id) fun r13=>
 some r13)
 else
 iter (fun go (g:Int×Int×Int×(List Z0)×(List Z4)×(List Z2)×(List Z1)×Int×Z0×(List Z0)×Int×Int×(List DQ))=>
 match g with
 |(id2,sum,i,c3,c4,s3,s4,q7,q8,q9,q10,q11,q12)=>
 bif decide (i<(q12.length:Int))then
 oB (idx q12 i) fun e5=>
 (oB (s_l12Score_m N D c3 c4 s3 s4 e5.kind e5.field e5.words e5.lo e5.hi e5.kids id2) fun r14=>
 bif decide (r14=0)then
 bif decide (q7=7)then
 some 0
 else
 (if fits (sum+r14)then if fits (i+1)then go (id2,(sum+r14),(i+1),c3,c4,s3,s4,q7,q8,q9,q10,q11,q12)else none else none)
 else
 if fits (sum+r14)then if fits (i+1)then go (id2,(sum+r14),(i+1),c3,c4,s3,s4,q7,q8,q9,q10,q11,q12)else none else none)
 else
 some sum) N (id,0,0,c,c2,s,s2,q,q2,q3,q4,q5,q6)
def jyz (N D:Nat):Model:=⟨⟨[.agg [.pv (.sl .str),.pv Y14],.agg [.pv Y2,.pv Y4],.agg [pI,pS,.pv (.sl .str),pI,pI,.pv (.sl .q)],pI],[]⟩,⟨[pI],[]⟩,c11A (s_l12Score_m N D)⟩
theorem jBH (N D:Nat) (ih:mK 22 (jyz N D)):mK 22 (jyz N (D+1)):=
 mO (fC ih (fC (jCy N) (fC (jrZ N) (fC (jAL N) (fC (jCb N) (fC (jCi N) (fC (jCo N) (fC (jDn N) (fC (jDS N) (fC (jcL N) ja)))))))))) func22 rfl N (.seq .no (.seq .no (.seq .no (.seq (.seq .no (.block (.loop jDX .no))) .no)))) (jyz N (D+1))
theorem jz7 (N:Nat):∀D,mK 22 (jyz N D)
 |0=>modelOk_none ⟨_,func22,by decide,by kernel_rfl⟩ _ (fun a=>rfl)
 |D+1=>jBH N D (jz7 N D)
def s_ScoreOf_m (j:List Z0) (c:List Z4) (a:List Z2) (b:List Z1) (h:Int) (k:List UInt8) (f:List Z0) (i:Int) (d:Int) (e:List DQ) (l:Int):Z11:=
 (oB (s_l7Ok_m N j c a b) fun n=>bif !n then some 0 else oB (s_l11Ok_m N h k f i d e) fun m=>bif !m then some 0 else oB (jyv N a b l) fun p=>bif decide (p.1=0)then some 0 else oB (s_l12Score_m N N j c a b h k f i d e l) fun o=>some o)
theorem jEe :mK 8 (bX [.agg [.pv (.sl .str),.pv Y14],.agg [.pv Y2,.pv Y4],.agg [pI,pS,.pv (.sl .str),pI,pI,.pv (.sl .q)],pI] [pI] (c11A (s_ScoreOf_m N))):=
 mO (fC (jpm N) (fC (jBX N) (fC (jDn N) (fC (jz7 N N) ja)))) func8 rfl N .no _
noncomputable def l_FnScoreWritten_m (d:List Int):Z7:=
 (bif decide ((1048576:Int)<d.length)then some true else oB (s_DrawScoreOf_m N d) fun a=>oB (i_ScoreOf_m N a.1 a.2.1 a.2.2.1 a.2.2.2.1 a.2.2.2.2.1 a.2.2.2.2.2.1 a.2.2.2.2.2.2.1 a.2.2.2.2.2.2.2.1 a.2.2.2.2.2.2.2.2.1 a.2.2.2.2.2.2.2.2.2.1 a.2.2.2.2.2.2.2.2.2.2) fun c=>oB (i_QueryPut_m N a.2.2.2.2.1 a.2.2.2.2.2.1 a.2.2.2.2.2.2.1 a.2.2.2.2.2.2.2.1 a.2.2.2.2.2.2.2.2.1 a.2.2.2.2.2.2.2.2.2.1) fun j=>oB (i_QueryRead_m N j) fun b=>oB (s_ScoreOf_m N a.1 a.2.1 a.2.2.1 a.2.2.2.1 a.2.2.2.2.1 a.2.2.2.2.2.1 a.2.2.2.2.2.2.1 a.2.2.2.2.2.2.2.1 a.2.2.2.2.2.2.2.2.1 a.2.2.2.2.2.2.2.2.2.1 a.2.2.2.2.2.2.2.2.2.2) fun e=>bif !decide (c=e)then oB (s_ScoreOf_m N a.1 a.2.1 a.2.2.1 a.2.2.2.1 a.2.2.2.2.1 a.2.2.2.2.2.1 a.2.2.2.2.2.2.1 a.2.2.2.2.2.2.2.1 a.2.2.2.2.2.2.2.2.1 a.2.2.2.2.2.2.2.2.2.1 a.2.2.2.2.2.2.2.2.2.2) fun h=>(some (decide (c=h)))else bif !b.2.2.2.2.2.2 then oB (s_ScoreOf_m N a.1 a.2.1 a.2.2.1 a.2.2.2.1 a.2.2.2.2.1 a.2.2.2.2.2.1 a.2.2.2.2.2.2.1 a.2.2.2.2.2.2.2.1 a.2.2.2.2.2.2.2.2.1 a.2.2.2.2.2.2.2.2.2.1 a.2.2.2.2.2.2.2.2.2.2) fun f=>(some (decide (c=f)))else oB (i_ScoreOf_m N a.1 a.2.1 a.2.2.1 a.2.2.2.1 b.1 b.2.1 b.2.2.1 b.2.2.2.1 b.2.2.2.2.1 b.2.2.2.2.2.1 a.2.2.2.2.2.2.2.2.2.2) fun i=>bif decide (i=c)then some (decide ((0:Int)<=c))else some false)
noncomputable def j43 (N:Nat):Model:=⟨⟨[.pv (.sl (.int .u8))],[]⟩,⟨[pB],[]⟩,c1A (l_FnScoreWritten_m N)⟩
theorem j5b :mK 3 (j43 N):=
 mO (fC (j48 N) (fC (jEf N) (fC (jOC N) (fC (j5a N) (fC (jEe N) ja))))) func3 rfl N .no (j43 N)
end Go.Proofs.YtkglkigmdmohkaaGreatDoor
