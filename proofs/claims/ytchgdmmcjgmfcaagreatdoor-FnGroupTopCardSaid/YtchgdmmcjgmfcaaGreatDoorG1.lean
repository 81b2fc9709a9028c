import Derived.Test.YtchgdmmcjgmfcaaGreatDoorG1A
set_option linter.unusedVariables false
set_option linter.unusedSimpArgs false
namespace Go.Proofs.YtchgdmmcjgmfcaaGreatDoor
open Go.RowKit Go.Proofs.Tryz
variable (N : Nat)
open Option renaming bind -> oB
def jHG (a:List Int) (b:Int):Z9:=
 (oB (jHJ N a b) fun c=>some (decide ((0:Int)<=c)))
theorem jIT :mK 105 (bX [.pv Y21,pI] [pB] (c2A (jHG N))):=
 mO (fC (jJu N) ja) func105 rfl N .no _
def jxH (N:Nat) (a:Int):Z9:=
 (some (!decide (a=a)))
theorem joK :mK 174 (bX [pI] [pB] (c1A (jxH N))):=
 mO ja func174 rfl N .no _
def jxY (b:Int) (a:Int):Z13:=
 (oB (jxH N b) fun d=>oB (jxH N a) fun c=>bif d then bif c then some 0 else(some (-1))else bif c then some 1 else bif decide (b<a)then some (-1)else bif decide (a<b)then some 1 else some 0)
theorem jpP :mK 113 (bX [pI,pI] [pI] (c2A (jxY N))):=
 mO (fC (joK N) ja) func113 rfl N .no _
def jye (b:Int) (a:Int):Z9:=
 (oB (jxH N b) fun d=>bif d then oB (jxH N a) fun c=>(bif !c then some true else some (decide (b<a)))else some (decide (b<a)))
theorem jA5 :mK 229 (bX [pI,pI] [pB] (c2A (jye N))):=
 mO (fC (joK N) ja) func229 rfl N .no _
def l_foInts_m (e:List Int) (d:List Int):Z9:=
 (bif !decide ((e.length:Int)=(d.length:Int))then some false else iter (fun i (b,c,a)=>bif decide (a<(b.length:Int))then oB (idx b a) fun h=>(oB (idx c a) fun j=>bif !decide (h=j)then some false else if fits (a+1)then i (b,c,(a+1))else none)else some true) N (e,d,(0:Int)))
theorem jQS :mK 38 (bX [.pv Y21,.pv Y21] [pB] (c2A (l_foInts_m N))):=
 mO ja func38 rfl N (.seq .no (.seq .no (.seq (.seq .no (.block (.loop jnI .no))) .no))) _
def jDx :Sh:=⟨pS::dz 4 (pI::pI::dz 23 []),[]⟩
def jxV (e:List UInt8):Z9:=
 (iter (fun d (b,c,a)=>bif decide (a<c)then oB (idx b a) fun f=>(oB (jaw N (f.toNat:Int)) fun l=>bif !l then oB (idx b a) fun j=>(bif !decide ((j.toNat:Int)=42)then oB (idx b a) fun h=>(bif !decide ((h.toNat:Int)=63)then some false else if fits (a+1)then d (b,c,(a+1))else none)else if fits (a+1)then d (b,c,(a+1))else none)else if fits (a+1)then d (b,c,(a+1))else none)else oB (jm N (b.length:Int) 1 12) fun k=>some k) N (e,(e.length:Int),(0:Int)))
theorem jz9 :mK 167 (bX [pS] [pB] (c1A (jxV N))):=
 mO (fC (jeK N) (fC (jY N) ja)) func167 rfl N (.seq .no (.seq (.seq .no (.block (.loop jDx .no))) .no)) _
def jBs :Sh:=⟨.dead::pI:: .box 2 0::dz 90 (.pv (.sl .str)::pI::pI::dz 39 []),[(2,false,[pI,pS,.pv (.sl .str),pI,pI,.pv (.sl .q)])]⟩
def jC6 :Sh:=⟨.dead::pI::dz 121 (.pv (.sl .q)::pI::pI::dz 9 []),[]⟩
def jDY :Sh:=⟨.dead::pI:: .box 2 0::dz 132 [],[(2,false,[pI,pS,.pv (.sl .str),pI,pI,.pv (.sl .q)])]⟩
def jzZ :Sh:=⟨.dead::pI:: .box 2 0:: .dead:: .dead:: .box 5 0::dz 129 [],[(2,false,[pI,pS,.pv (.sl .str),pI,pI,.pv (.sl .q)]),(5,false,[pB,pI,pI,pI,pI,pB,pI,pI])]⟩
def jxE (N:Nat):(D:Nat)->Int->Z0->(List Z0)->Int->Int->(List DQ)->Int->Z9
 |0,_,_,_,_,_,_,_=>none
 |D+1,q,q2,q3,q4,q5,q6,deep=>
 meet (fun(g:Z18)=>
 match g with
 |(deep2,q7,q8,q9,q10,q11,q12,x,x2,x3,x4,x5,x6,x7,x8)=>
 meet (fun(g:Z18)=>
 match g with
 |(deep3,q13,q14,q15,q16,q17,q18,x9,x10,x11,x12,x13,x14,x15,x16)=>
 meet (fun(g:Int×Int×Z0×(List Z0)×Int×Int×(List DQ))=>
 match g with
 |(deep4,q19,q20,q21,q22,q23,q24)=>
 iter (fun go (g:Int×(List Z0)×Int×Int×Int×Z0×(List Z0)×Int×Int×(List DQ))=>
 match g with
 |(deep5,t93,t94,t95,q25,q26,q27,q28,q29,q30)=>
 bif decide (t95<t94)then
 oB (idx t93 t95) fun e=>
 (bif decide (q25=5)then
 oB (jxV N e) fun r6=>
 (bif !r6 then
 some false
 else
 oB (jO N e) fun r7=>
 bif r7 then
 some false
 else
 bif !decide (q25=5)then
 oB (jO N e) fun r8=>
 (bif !r8 then
 some false
 else
 if fits (t95+1)then go (deep5,t93,t94,(t95+1),q25,q26,q27,q28,q29,q30)else none)
 else
 if fits (t95+1)then go (deep5,t93,t94,(t95+1),q25,q26,q27,q28,q29,q30)else none)
 else
 bif !decide (q25=5)then
 oB (jO N e) fun r9=>
 (bif !r9 then
 some false
 else
 if fits (t95+1)then go (deep5,t93,t94,(t95+1),q25,q26,q27,q28,q29,q30)else none)
 else
 if fits (t95+1)then go (deep5,t93,t94,(t95+1),q25,q26,q27,q28,q29,q30)else none)
 else
 iter (fun go2 (g:Int×(List DQ)×Int×Int)=>
 match g with
 |(deep6,t123,t124,t125)=>
 bif decide (t125<t124)then
 oB (idx t123 t125) fun e2=>
 (if fits (deep6-1)then oB (jxE N D e2.kind e2.field e2.words e2.lo e2.hi e2.kids (deep6-1)) fun r10=>
 (bif !r10 then
 some false
 else
 if fits (t125+1)then go2 (deep6,t123,t124,(t125+1))else none)else none)
 else
 some true) N (deep5,q30,(q30.length:Int),0)) N (deep4,q21,(q21.length:Int),0,q19,q20,q21,q22,q23,q24)) fun J3=>
 bif x14 then
 oB (jm N q17 q16 999999999) fun r5=>
 (bif !r5 then
 some false
 else
 bif !x14 then
 bif !decide (q17=0)then
 some false
 else
 (J3 (deep3,q13,q14,q15,q16,q17,q18))
 else
 J3 (deep3,q13,q14,q15,q16,q17,q18))
 else
 bif !x14 then
 bif !decide (q17=0)then
 some false
 else
 (J3 (deep3,q13,q14,q15,q16,q17,q18))
 else
 J3 (deep3,q13,q14,q15,q16,q17,q18)) fun J2=>
 oB (jm N (q9.length:Int) x2 x3) fun r2=>
 bif !r2 then
 some false
 else
 oB (jm N (q12.length:Int) x7 x8) fun r3=>
 bif !r3 then
 some false
 else
 oB (jm N q10 x4 x5) fun r4=>
 bif !r4 then
 some false
 else
 J2 (deep2,q7,q8,q9,q10,q11,q12,x,x2,x3,x4,x5,x6,x7,x8)) fun J=>
 bif !((mget tI (.pair .bool (.pair tI (.pair tI (.pair tI (.pair tI (.pair .bool Y14)))))) gm_shapes q).isSome)then
 some false
 else
 bif decide (deep<1)then
 some false
 else
 bif !((((mget tI (.pair .bool (.pair tI (.pair tI (.pair tI (.pair tI (.pair .bool Y14)))))) gm_shapes q).getD (false,(0,(0,(0,(0,(false,(0,0)))))))).1)==(!decide (q2=([]:List UInt8))))then
 some false
 else
 bif((mget tI (.pair .bool (.pair tI (.pair tI (.pair tI (.pair tI (.pair .bool Y14)))))) gm_shapes q).getD (false,(0,(0,(0,(0,(false,(0,0)))))))).1 then
 oB (jO N q2) fun r=>
 (bif !r then
 some false
 else
 J (deep,q,q2,q3,q4,q5,q6,((mget tI (.pair .bool (.pair tI (.pair tI (.pair tI (.pair tI (.pair .bool Y14)))))) gm_shapes q).getD (false,(0,(0,(0,(0,(false,(0,0)))))))).1,(((mget tI (.pair .bool (.pair tI (.pair tI (.pair tI (.pair tI (.pair .bool Y14)))))) gm_shapes q).getD (false,(0,(0,(0,(0,(false,(0,0)))))))).2).1,((((mget tI (.pair .bool (.pair tI (.pair tI (.pair tI (.pair tI (.pair .bool Y14)))))) gm_shapes q).getD (false,(0,(0,(0,(0,(false,(0,0)))))))).2).2).1,(((((mget tI (.pair .bool (.pair tI (.pair tI (.pair tI (.pair tI (.pair .bool Y14)))))) gm_shapes q).getD (false,(0,(0,(0,(0,(false,(0,0)))))))).2).2).2).1,((((((mget tI (.pair .bool (.pair tI (.pair tI (.pair tI (.pair tI (.pair .bool Y14)))))) gm_shapes q).getD (false,(0,(0,(0,(0,(false,(0,0)))))))).2).2).2).2).1,(((((((mget tI (.pair .bool (.pair tI (.pair tI (.pair tI (.pair tI (.pair .bool Y14)))))) gm_shapes q).getD (false,(0,(0,(0,(0,(false,(0,0)))))))).2).2).2).2).2).1,((((((((mget tI (.pair .bool (.pair tI (.pair tI (.pair tI (.pair tI (.pair .bool Y14)))))) gm_shapes q).getD (false,(0,(0,(0,(0,(false,(0,0)))))))).2).2).2).2).2).2).1,((((((((mget tI (.pair .bool (.pair tI (.pair tI (.pair tI (.pair tI (.pair .bool Y14)))))) gm_shapes q).getD (false,(0,(0,(0,(0,(false,(0,0)))))))).2).2).2).2).2).2).2))
 else
 J (deep,q,q2,q3,q4,q5,q6,((mget tI (.pair .bool (.pair tI (.pair tI (.pair tI (.pair tI (.pair .bool Y14)))))) gm_shapes q).getD (false,(0,(0,(0,(0,(false,(0,0)))))))).1,(((mget tI (.pair .bool (.pair tI (.pair tI (.pair tI (.pair tI (.pair .bool Y14)))))) gm_shapes q).getD (false,(0,(0,(0,(0,(false,(0,0)))))))).2).1,((((mget tI (.pair .bool (.pair tI (.pair tI (.pair tI (.pair tI (.pair .bool Y14)))))) gm_shapes q).getD (false,(0,(0,(0,(0,(false,(0,0)))))))).2).2).1,(((((mget tI (.pair .bool (.pair tI (.pair tI (.pair tI (.pair tI (.pair .bool Y14)))))) gm_shapes q).getD (false,(0,(0,(0,(0,(false,(0,0)))))))).2).2).2).1,((((((mget tI (.pair .bool (.pair tI (.pair tI (.pair tI (.pair tI (.pair .bool Y14)))))) gm_shapes q).getD (false,(0,(0,(0,(0,(false,(0,0)))))))).2).2).2).2).1,(((((((mget tI (.pair .bool (.pair tI (.pair tI (.pair tI (.pair tI (.pair .bool Y14)))))) gm_shapes q).getD (false,(0,(0,(0,(0,(false,(0,0)))))))).2).2).2).2).2).1,((((((((mget tI (.pair .bool (.pair tI (.pair tI (.pair tI (.pair tI (.pair .bool Y14)))))) gm_shapes q).getD (false,(0,(0,(0,(0,(false,(0,0)))))))).2).2).2).2).2).2).1,((((((((mget tI (.pair .bool (.pair tI (.pair tI (.pair tI (.pair tI (.pair .bool Y14)))))) gm_shapes q).getD (false,(0,(0,(0,(0,(false,(0,0)))))))).2).2).2).2).2).2).2)
def jyl (N D:Nat):Model:=⟨⟨[.agg [pI,pS,.pv (.sl .str),pI,pI,.pv (.sl .q)],pI],[]⟩,⟨[pB],[]⟩,c7A (jxE N D)⟩
theorem jAF (N D:Nat) (ih:mK 103 (jyl N D)):mK 103 (jyl N (D+1)):=
 mO (fC ih (fC (jcM N) (fC (jY N) (fC (jz9 N) ja)))) func103 rfl N (.seq .no (.seq .no (.meet jzZ .no (.meet jzZ .no (.meet jDY .no (.seq (.seq .no (.block (.loop jBs .no))) (.seq (.seq .no (.block (.loop jC6 .no))) .no))))))) (jyl N (D+1))
theorem jzh (N:Nat):∀D,mK 103 (jyl N D)
 |0=>modelOk_none ⟨_,func103,by decide,by kernel_rfl⟩ _ (fun a=>rfl)
 |D+1=>jAF N D (jzh N D)
def i_QueryOk_m (a:Int) (d:List UInt8) (h:List Z0) (b:Int) (c:Int) (e:List DQ):Z9:=
 (oB (jxE N N a d h b c e 4) fun f=>some f)
theorem jCN :mK 41 (bX [.agg [pI,pS,.pv (.sl .str),pI,pI,.pv (.sl .q)]] [pB] (c6A (i_QueryOk_m N))):=
 mO (fC (jzh N N) ja) func41 rfl N .no _
def jyc (d:List Z0) (c:List Z4) (b:List UInt8):Option (Z0):=
 (oB (jO N b) fun f=>bif !f then some ([]:List UInt8)else oB (jbw N d c b) fun a=>bif decide ((a.length:Int)=0)then some ([]:List UInt8)else oB (idx a 0) fun e=>some e.1)
theorem jBn :mK 191 (bX [.agg [.pv (.sl .str),.pv Y16],pS] [pS] (c3A (jyc N))):=
 mO (fC (jcM N) (fC (jgO N) ja)) func191 rfl N .no _
def jnu :Sh:=⟨.dead::pS::pS::dz 9 (.pv Y4::pI::pI::dz 16 []),[]⟩
def i_Seg_posts_m (i:(List Z1)×(List Z2)) (j:List UInt8) (l:List UInt8):Option (Z15):=
 (iter (fun h (c,f,b,e,a)=>bif decide (a<e)then oB (idx b a) fun d=>(bif decide (d.1=c)then bif decide (d.2.1=f)then some d.2.2 else(if fits (a+1)then h (c,f,b,e,(a+1))else none)else if fits (a+1)then h (c,f,b,e,(a+1))else none)else some ([]:Z3)) N (j,l,i.2,(i.2.length:Int),(0:Int)))
theorem jcq :mK 259 (bX [.ptr Y1,pS,pS] [.pv Y11] (c3A (i_Seg_posts_m N))):=
 mO ja func259 rfl N (.seq .no (.seq (.seq .no (.block (.loop jnu .no))) .no)) _
def jni :Sh:=⟨dz 3 (pI::dz 12 (.pv Y11::pI::pI::dz 10 [])),[]⟩
def i_scorer_places_m (m:((List Z0)×(List Z4))×(List Z1)×(List Z2)) (i:List UInt8) (k:List UInt8) (h:Int):Option ((List Int)):=
 (oB (i_Seg_posts_m N m.2 i k) fun f=>iter (fun l (e,b,d,a)=>bif decide (a<d)then oB (idx b a) fun c=>(bif decide (c.1=e)then some c.2 else if fits (a+1)then l (e,b,d,(a+1))else none)else some ([]:List Int)) N (h,f,(f.length:Int),(0:Int)))
theorem jrB :mK 196 (bX [.ptr Y0,pS,pS,pI] [.pv Y21] (c4A (i_scorer_places_m N))):=
 mO (fC (jcq N) ja) func196 rfl N (.seq .no (.seq (.seq .no (.block (.loop jni .no))) .no)) _
def jmV :Sh:=⟨.dead::pS::dz 8 (.pv Y19::pI::pI::dz 10 []),[]⟩
def i_DocField_m (j:Int) (b:Z14) (h:Z8) (l:List UInt8):Option (Z0):=
 (oB (jbx N j b h) fun m=>bif m then iter (fun k (d,f,e,a)=>bif decide (a<e)then oB (idx f a) fun c=>(bif decide (c.1=d)then some c.2 else if fits (a+1)then k (d,f,e,(a+1))else none)else some ([]:List UInt8)) N (l,b,(b.length:Int),(0:Int))else some ([]:List UInt8))
theorem jqd :mK 294 (bX [.agg [pI,.pv Y19,.pv Y15],pS] [pS] (c4A (i_DocField_m N))):=
 mO (fC (jh0 N) ja) func294 rfl N (.seq .no (.seq (.seq .no (.cond (.seq .no (.block (.loop jmV .no))) .no)) .no)) _
def i_Seg_long_m (i:(List Z1)×(List Z2)) (c:List Z0) (e:List Z4) (d:List UInt8) (b:Int):Z13:=
 (oB (i_Seg_doc_m N i b) fun a=>bif !a.2.2.2 then some 0 else oB (i_DocField_m N a.1 a.2.1 a.2.2.1 d) fun f=>oB (jbw N c e f) fun h=>some (h.length:Int))
theorem jhs :mK 257 (bX [.ptr Y1,.agg [.pv (.sl .str),.pv Y16],pS,pI] [pI] (c5A (i_Seg_long_m N))):=
 mO (fC (jlU N) (fC (jqd N) (fC (jgO N) ja))) func257 rfl N .no _
def joq :Sh:=⟨pI::pI::dz 13 [],[]⟩
def ja2 (f:Int) (d:Int):Z13:=
 (iter (fun c (a,b)=>bif !decide (b=0)then if b≠0 then c (b,(a.tmod b))else none else if fits (0-a)then some (if(0-a)>a then 0-a else a)else none) N (f,d))
theorem jiQ :mK 311 (bX [pI,pI] [pI] (c2A (ja2 N))):=
 mO ja func311 rfl N (.seq .no (.seq (.block (.loop joq .no)) .no)) _
def jbk (b:Int) (a:Int):Z9:=
 (oB (jm N b (-1000000000) 1000000000) fun d=>bif d then oB (jm N a 1 1000000000) fun c=>(bif c then oB (ja2 N b a) fun e=>(some (decide (e=1)))else some false)else some false)
theorem jhS :mK 296 (bX [.agg [pI,pI]] [pB] (c2A (jbk N))):=
 mO (fC (jY N) (fC (jiQ N) ja)) func296 rfl N .no _
def jk5 :Sh:=⟨pI::pI:: .dead:: .dead:: .box 4 0::dz 24 [],[(4,false,[pI,pI])]⟩
def jcl (e:Int) (b:Int):Option (Int×Int×Bool):=
 (meet (fun(h:Int×Int×Int×Int)=>match h with|(d,c,k,j)=>oB (ja2 N d c) fun a=>if a≠0 then if fits (d.tdiv a)then if a≠0 then if fits (c.tdiv a)then oB (jbk N (d.tdiv a) (c.tdiv a)) fun i=>(bif !i then some (0,1,false)else some ((d.tdiv a),(c.tdiv a),true))else none else none else none else none) fun f=>bif decide (b<0)then if fits (0-e)then if fits (0-b)then f ((0-e),(0-b),0,0)else none else none else f (e,b,0,0))
theorem jlG :mK 310 (bX [pI,pI] [.tup [.agg [pI,pI],pB]] (c2A (jcl N))):=
 mO (fC (jiQ N) (fC (jhS N) ja)) func310 rfl N (.seq .no (.meet jk5 .no .no)) _
def jb7 (c:Int) (a:Int):Option (Int×Int×Bool):=
 (oB (jm N c (-1000000000) 1000000000) fun e=>bif !e then some (0,1,false)else oB (jm N a (-1000000000) 1000000000) fun d=>bif !d then some (0,1,false)else bif decide (a=0)then some (0,1,false)else oB (jcl N c a) fun b=>some (b.1,b.2.1,b.2.2))
theorem jpX :mK 295 (bX [pI,pI] [.tup [.agg [pI,pI],pB]] (c2A (jb7 N))):=
 mO (fC (jY N) (fC (jlG N) ja)) func295 rfl N .no _
def jtO :Sh:=⟨pI::pI::pI::pI::pI::dz 5 (.box 10 0:: .dead::pI::dz 53 []),[(10,false,[pI,pI])]⟩
def i_TermScore_m (f:Int) (i:Int) (l:Int) (h:Int) (m:Int):Option (Int×Int×Bool):=
 (oB (jm N f 1 80) fun r=>bif !r then some (0,1,false)else oB (jm N i f 80) fun p=>bif !p then some (0,1,false)else oB (jm N h 1 16) fun q=>bif !q then some (0,1,false)else oB (jm N m 1 h) fun o=>bif !o then some (0,1,false)else oB (jm N l i 1280) fun v=>bif !v then some (0,1,false)else iter (fun w (b,c,e,d,k,a,t,n)=>if fits (a+1)then if 0<=(a+1)then if fits (k*2^(min (a+1).toNat (IntKind.bits .i64)))then bif decide ((k*2^(min (a+1).toNat (IntKind.bits .i64)))<=d)then if fits (a+1)then w (b,c,e,d,k,(a+1),t,n)else none else(if fits (22*b)then if fits (a+1)then if fits ((22*b)*(a+1))then if fits (10*b)then if fits ((10*b)+3)then if fits (9*c)then if fits ((9*c)*d)then if e≠0 then if fits (((9*c)*d).tdiv e)then if fits (((10*b)+3)+(((9*c)*d).tdiv e))then oB (jb7 N ((22*b)*(a+1)) (((10*b)+3)+(((9*c)*d).tdiv e))) fun j=>(some (j.1,j.2.1,j.2.2))else none else none else none else none else none else none else none else none else none else none)else none else none else none) N (f,i,l,h,m,(0:Int),(0:Int),(0:Int)))
theorem jgE :mK 258 (bX [pI,pI,pI,pI,pI] [.tup [.agg [pI,pI],pB]] (c5A (i_TermScore_m N))):=
 mO (fC (jY N) (fC (jpX N) ja)) func258 rfl N (.seq .no (.seq .no (.seq .no (.seq (.block (.loop jtO .no)) .no)))) _
def i_RatFloor_m (c:Int) (a:Int) (b:Int):Z13:=
 (oB (jbk N c a) fun e=>bif !e then some 0 else oB (jm N b 1 1000) fun d=>bif !d then some 0 else if fits (c*b)then bif decide ((0:Int)<=(c*b))then if a≠0 then if fits ((c*b).tdiv a)then some ((c*b).tdiv a)else none else none else(if fits (0-(c*b))then if fits ((0-(c*b))+a)then if fits (((0-(c*b))+a)-1)then if a≠0 then if fits ((((0-(c*b))+a)-1).tdiv a)then if fits (0-((((0-(c*b))+a)-1).tdiv a))then some (0-((((0-(c*b))+a)-1).tdiv a))else none else none else none else none else none else none)else none)
theorem jiY :mK 260 (bX [.agg [pI,pI],pI] [pI] (c3A (i_RatFloor_m N))):=
 mO (fC (jhS N) (fC (jY N) ja)) func260 rfl N .no _
def jlZ :Sh:=⟨.ptr Y0::pS::pS::pI::dz 5 (.pv Y21::pI::dz 16 (.pv Y2::pI::pI::dz 49 [])),[]⟩
def i_scorer_points_m (d:((List Z0)×(List Z4))×(List Z1)×(List Z2)) (f:List UInt8) (o:List UInt8) (m:Int):Z13:=
 (oB (i_scorer_places_m N d f o m) fun k=>bif decide ((k.length:Int)=0)then some 0 else iter (fun x (a,b,l,i,j,e,q,p,c)=>bif decide (c<p)then oB (idx q c) fun w=>(oB (i_Seg_long_m N a.2 a.1.1 a.1.2 b w.1) fun h=>if fits (e+h)then if fits (c+1)then x (a,b,l,i,j,(e+h),q,p,(c+1))else none else none)else oB (i_Seg_long_m N a.2 a.1.1 a.1.2 b i) fun u=>oB (i_Seg_posts_m N a.2 b l) fun r=>oB (i_TermScore_m N (j.length:Int) u e (a.2.1.length:Int) (r.length:Int)) fun n=>oB (i_RatFloor_m N n.1 n.2.1 1000) fun t=>some t) N (d,f,o,m,k,(0:Int),d.2.1,(d.2.1.length:Int),(0:Int)))
theorem jsD :mK 190 (bX [.ptr Y0,pS,pS,pI] [pI] (c4A (i_scorer_points_m N))):=
 mO (fC (jrB N) (fC (jhs N) (fC (jcq N) (fC (jgE N) (fC (jiY N) ja))))) func190 rfl N (.seq .no (.seq .no (.seq .no (.seq .no (.seq (.seq .no (.block (.loop jlZ .no))) .no))))) _
def jyu (N:Nat) (a:List Z0) (b:List UInt8):Option (Z0):=jxR a b
 
def jBB (N:Nat):Model:=⟨⟨[.pv (.sl .str),pS],[]⟩,⟨[pS],[]⟩,c2A (jyu N)⟩
theorem jBE :mK 261 (jBB N):=jBz
def jBY :Sh:=⟨.pv (.sl Y21)::dz 4 (.pv (.sl Y21)::pI::pI::dz 10 []),[]⟩
def jyD (b:List (List Int)):Z9:=
 (iter (fun i (d,c,e,a)=>bif decide (a<e)then oB (idx c a) fun h=>(oB (jx1 N h) fun j=>bif !j then some false else if fits (a+1)then i (d,c,e,(a+1))else none)else some (decide ((d.length:Int)<=6))) N (b,b,(b.length:Int),(0:Int)))
theorem jD9 :mK 314 (bX [.pv (.sl Y21)] [pB] (c1A (jyD N))):=
 mO (fC (jAN N) ja) func314 rfl N (.seq .no (.seq (.seq .no (.block (.loop jBY .no))) .no)) _
def jyK (a:List (List Int)):Z9:=
 (bif decide ((0:Int)<a.length)then oB (jyD N a) fun b=>(some b)else some false)
theorem jD6 :mK 300 (bX [.pv (.sl Y21)] [pB] (c1A (jyK N))):=
 mO (fC (jD9 N) ja) func300 rfl N .no _
def jxW (N:Nat) (a:Int):Z9:=
 (some (!decide (a=a)))
theorem jCp :mK 319 (bX [pI] [pB] (c1A (jxW N))):=
 mO ja func319 rfl N .no _
def jB3 :Sh:=⟨.pv Y21::pI::dz 4 (pI::pI::pI::dz 45 []),[]⟩
def jyA (e:List Int) (l:Int):Option (Int×Bool):=
 (iter (fun h (d,c,f,a,b)=>bif decide (a<b)then if fits (a+b)then if 0<=(1:Int)then oB (idx d (IntKind.i64.wrap ((IntKind.u64.wrap (a+b)).fdiv (2^(min (1:Int).toNat (IntKind.bits .u64)))))) fun j=>(oB (jye N j c) fun p=>bif p then if fits ((IntKind.i64.wrap ((IntKind.u64.wrap (a+b)).fdiv (2^(min (1:Int).toNat (IntKind.bits .u64)))))+1)then h (d,c,f,((IntKind.i64.wrap ((IntKind.u64.wrap (a+b)).fdiv (2^(min (1:Int).toNat (IntKind.bits .u64)))))+1),b)else none else h (d,c,f,a,(IntKind.i64.wrap ((IntKind.u64.wrap (a+b)).fdiv (2^(min (1:Int).toNat (IntKind.bits .u64)))))))else none else none else bif decide (a<f)then oB (idx d a) fun o=>(bif decide (o=c)then some (a,true)else oB (idx d a) fun n=>oB (jxW N n) fun k=>bif k then oB (jxW N c) fun m=>(some (a,m))else some (a,false))else some (a,false)) N (e,l,(e.length:Int),(0:Int),(e.length:Int)))
theorem jDL :mK 315 (bX [.pv Y21,pI] [.tup [pI,pB]] (c2A (jyA N))):=
 mO (fC (jA5 N) (fC (jCp N) ja)) func315 rfl N (.seq .no (.seq .no (.seq .no (.seq (.block (.loop jB3 .no)) .no)))) _
def jys (a:List Int) (c:Int):Option (Int×Bool):=
 (oB (jyA N a c) fun b=>bif decide (b.1=(a.length:Int))then some (0,false)else oB (idx a b.1) fun d=>some (d,true))
theorem jAO :mK 301 (bX [.pv Y21,pI] [.tup [pI,pB]] (c2A (jys N))):=
 mO (fC (jDL N) ja) func301 rfl N .no _
def jBS :Sh:=⟨.pv (.sl Y21)::pI::dz 3 (.own 600005 tI 3 true::dz 20 (.pv Y21::pI::pI::dz 42 [])),[]⟩
def jDv :Sh:=⟨.pv (.sl Y21)::pI::dz 3 (.own 600005 tI 3 true:: .dead::pI::pI::pB::dz 16 (.pv Y21::pI::pI::dz 5 (.pv (.sl Y21)::pI::pI::dz 34 []))),[]⟩
def jyw (o:List (List Int)) (u:Int):Option ((List Int)):=
 (oB (jyK N o) fun E=>bif !E then some ([]:List Int)else oB (jm N u 0 5) fun D=>bif !D then some ([]:List Int)else oB (idx o 0) fun y=>iter (fun q (l,C,x,A,B,r)=>bif decide (r<B)then oB (idx A r) fun w=>(oB (cut l 1 (l.length:Int)) fun v=>iter (fun t (a,d,e,c,j,z,i,h,b,m,k,f)=>bif decide (f<k)then oB (idx m f) fun G=>(if fits (j+1)then oB (jys N G (j+1)) fun n=>(bif z then if fits (f+1)then t (a,d,e,c,n.1,n.2,i,h,b,m,k,(f+1))else none else if fits (f+1)then t (a,d,e,c,n.1,false,i,h,b,m,k,(f+1))else none)else none)else bif z then if fits (c+(a.length:Int))then if fits ((c+(a.length:Int))-1)then if fits (((c+(a.length:Int))-1)+d)then bif decide (j<=(((c+(a.length:Int))-1)+d))then if room e.length ([c]:List Int).length 8 then if fits (b+1)then q (a,d,(e++([c]:List Int)),i,h,(b+1))else none else none else(if fits (b+1)then q (a,d,e,i,h,(b+1))else none)else none else none else none else if fits (b+1)then q (a,d,e,i,h,(b+1))else none) N (l,C,x,w,w,true,A,B,r,v,(v.length:Int),(0:Int)))else some x) N (o,u,([]:List Int),y,(y.length:Int),(0:Int)))
theorem jCX :mK 262 (bX [.pv (.sl Y21),pI] [.own 1 tI 3 true] (c2A (jyw N))):=
 mO (fC (jD6 N) (fC (jY N) (fC (jAO N) ja))) func262 rfl N (.seq .no (.seq .no (.seq .no (.seq (.seq .no (.block (.loop jBS (.seq .no (.seq .no (.seq (.block (.seq .no (.seq .no (.seq (.seq .no (.block (.loop jDv .no))) .no)))) .no)))))) .no)))) _
def jCk :Sh:=⟨.ptr Y0::dz 3 (.box 4 0:: .box 5 0:: .dead:: .own 600007 Y17 126 true:: .own 600008 Y21 75 true::pI::dz 18 (.pv Y15::pI::pI::dz 59 [])),[(4,false,[pI,pS,.pv (.sl .str),pI,pI,.pv (.sl .q)]),(5,false,[pI,.pv Y19,.pv Y15])]⟩
def jDK :Sh:=⟨.ptr Y0::dz 3 (.box 4 0:: .box 5 0:: .dead:: .own 600007 Y17 126 true:: .own 600008 Y21 75 true::pI::pI:: .box 11 0:: .own 600012 tI 3 true::dz 15 (.pv Y15::pI::pI::dz 12 (.pv Y21::pI::pI::dz 44 []))),[(4,false,[pI,pS,.pv (.sl .str),pI,pI,.pv (.sl .q)]),(5,false,[pI,.pv Y19,.pv Y15]),(11,false,[pS,pI])]⟩
def jyB (x:((List Z0)×(List Z4))×(List Z1)×(List Z2)) (q:Int) (q2:List UInt8) (q3:List Z0) (q4:Int) (q5:Int) (q6:List DQ) (d:Int) (d2:Z14) (d3:Z8):Z13:=
 (oB (jyu N q3 ([32]:List UInt8)) fun r=>oB (jbw N x.1.1 x.1.2 r) fun r2=>bif decide ((r2.length:Int)=0)then some 0 else iter (fun go (x2,terms,lists,all,t28,t29,t30,q7,q8,q9,q10,q11,q12,d4,d5,d6)=>bif decide (t30<t29)then oB (idx t28 t30) fun e=>(oB (i_scorer_places_m N x2 q8 e.1 d4) fun r3=>iter (fun go2 (x3,terms2,lists2,all2,i,list,t282,t292,t302,t43,t44,t45,q13,q14,q15,q16,q17,q18,d7,d8,d9,t,t2)=>bif decide (t45<t44)then oB (idx t43 t45) fun e2=>(oB (idx terms2 0) fun e3=>if fits (t2-e3.2)then if fits ((t2-e3.2)-i)then if fits (e2-((t2-e3.2)-i))then bif decide ((0:Int)<=(e2-((t2-e3.2)-i)))then if room list.length ([(e2-((t2-e3.2)-i))]:List Int).length 8 then if fits (t45+1)then go2 (x3,terms2,lists2,all2,i,(list++([(e2-((t2-e3.2)-i))]:List Int)),t282,t292,t302,t43,t44,(t45+1),q13,q14,q15,q16,q17,q18,d7,d8,d9,t,t2)else none else none else(if fits (t45+1)then go2 (x3,terms2,lists2,all2,i,list,t282,t292,t302,t43,t44,(t45+1),q13,q14,q15,q16,q17,q18,d7,d8,d9,t,t2)else none)else none else none else none)else if room lists2.length ([list]:List (List Int)).length 24 then oB (i_scorer_points_m N x3 q14 t d7) fun r4=>(if fits (all2+r4)then if fits (t302+1)then go (x3,terms2,(lists2++([list]:List (List Int))),(all2+r4),t282,t292,(t302+1),q13,q14,q15,q16,q17,q18,d7,d8,d9)else none else none)else none) N (x2,terms,lists,all,t30,([]:List Int),t28,t29,t30,r3,(r3.length:Int),(0:Int),q7,q8,q9,q10,q11,q12,d4,d5,d6,e.1,e.2))else oB (jyw N lists q10) fun r5=>if fits ((if(r5.length:Int)<3 then(r5.length:Int)else 3)*all)then some ((if(r5.length:Int)<3 then(r5.length:Int)else 3)*all)else none) N (x,r2,([]:List (List Int)),(0:Int),r2,(r2.length:Int),(0:Int),q,q2,q3,q4,q5,q6,d,d2,d3))
theorem jDC :mK 192 (bX [.ptr Y0,.agg [pI,pS,.pv (.sl .str),pI,pI,.pv (.sl .q)],.agg [pI,.pv Y19,.pv Y15]] [pI] (c10A (jyB N))):=
 mO (fC (jBE N) (fC (jgO N) (fC (jrB N) (fC (jsD N) (fC (jCX N) ja))))) func192 rfl N (.seq .no (.seq .no (.seq .no (.seq .no (.seq .no (.seq (.seq .no (.block (.loop jCk (.seq .no (.seq .no (.seq (.block (.seq .no (.seq .no (.seq (.seq .no (.block (.loop jDK .no))) .no)))) .no)))))) .no)))))) _
def jtE :Sh:=⟨.dead::pS::dz 3 (.own 600005 .str 9 true::dz 6 (.pv Y4::pI::pI::dz 14 [])),[]⟩
def i_Seg_terms_m (i:(List Z1)×(List Z2)) (j:List UInt8):Option ((List Z0)):=
 (iter (fun h (d,b,c,f,a)=>bif decide (a<f)then oB (idx c a) fun e=>(bif decide (e.1=d)then if room b.length ([e.2.1]:List Z0).length 16 then if fits (a+1)then h (d,(b++([e.2.1]:List Z0)),c,f,(a+1))else none else none else if fits (a+1)then h (d,b,c,f,(a+1))else none)else some b) N (j,([]:List Z0),i.2,(i.2.length:Int),(0:Int)))
theorem jln :mK 193 (bX [.ptr Y1,pS] [.own 1 .str 9 true] (c2A (i_Seg_terms_m N))):=
 mO ja func193 rfl N (.seq .no (.seq .no (.seq (.seq .no (.block (.loop jtE .no))) .no))) _
def jDE :Sh:=⟨pS::pS::dz 3 (.mtk 600005 tI 3 true::dz 18 (pI::pI::dz 62 [])),[]⟩
def jBC :Sh:=⟨pS::pS::dz 3 (.mtk 600005 tI 3 true:: .dead::pI::dz 80 []),[]⟩
def jCv :Sh:=⟨pS::pS::dz 3 (.mtk 600005 tI 3 true:: .dead::pI::pI::pI::dz 78 []),[]⟩
def jAI :Sh:=⟨pS::pS::dz 3 (.mtk 600005 tI 3 true:: .dead::pI:: .dead::pI::pI::dz 77 []),[]⟩
def jAQ :Sh:=⟨pS::pS::dz 3 (.mtk 22 tI 3 true::dz 82 []),[]⟩
def jDZ :Sh:=⟨pS::pS::dz 86 [],[]⟩
def i_NearFar_m (a:List UInt8) (b:List UInt8):Z13:=
 (meet (fun(g:Z0×Z0)=>match g with|(a2,b2)=>meet (fun(g:Z0×Z0×(List Int))=>match g with|(a3,b3,row)=>iter (fun go (a4,b4,row2,t24,t25)=>bif decide (t25<t24)then if 0<=t25/\t25<(row2.length:Int)then oB (row2[t25.toNat]?) fun e=>(if fits (t25+1)then go (a4,b4,(row2.set t25.toNat t25),t24,(t25+1))else none)else none else iter (fun go2 (a5,b5,row3,i)=>bif decide (i<=(a5.length:Int))then if 0<=(0:Int)/\(0:Int)<row3.length then oB (row3[(0:Int).toNat]?) fun e2=>(if 0<=(0:Int)/\(0:Int)<row3.length then oB (row3[(0:Int).toNat]?) fun e3=>(iter (fun go3 (a6,b6,row4,i2,corner,j)=>bif decide (j<=(b6.length:Int))then meet (fun(g:Z17)=>match g with|(a7,b7,row5,i3,j2,cost)=>if 0<=j2/\j2<(row5.length:Int)then oB (row5[j2.toNat]?) fun e4=>(if 0<=j2/\j2<(row5.length:Int)then oB (row5[j2.toNat]?) fun e5=>(if fits (e5+1)then if fits (j2-1)then if 0<=(j2-1)/\(j2-1)<(row5.length:Int)then oB (row5[(j2-1).toNat]?) fun e6=>(if fits (e6+1)then if 0<=j2/\j2<(row5.length:Int)then oB (row5[j2.toNat]?) fun e7=>(if fits (j2+1)then go3 (a7,b7,(row5.set j2.toNat (if(e6+1)<(if(e5+1)<cost then e5+1 else cost)then e6+1 else if(e5+1)<cost then e5+1 else cost)),i3,e4,(j2+1))else none)else none else none)else none else none else none)else none)else none) fun J3=>(if fits (i2-1)then oB (idx a6 (i2-1)) fun c=>(if fits (j-1)then oB (idx b6 (j-1)) fun c2=>(bif !decide ((c.toNat:Int)=(c2.toNat:Int))then if fits (corner+1)then J3 (a6,b6,row4,i2,j,(corner+1))else none else J3 (a6,b6,row4,i2,j,corner))else none)else none)else if fits (i2+1)then go2 (a6,b6,row4,(i2+1))else none) N (a5,b5,(row3.set (0:Int).toNat i),i,e2,(1:Int)))else none)else none else if 0<=(b5.length:Int)/\(b5.length:Int)<(row3.length:Int)then oB (row3[(b5.length:Int).toNat]?) fun e8=>(some e8)else none) N (a4,b4,row2,(1:Int))) N (a3,b3,row,(row.length:Int),(0:Int))) fun J2=>if fits ((b2.length:Int)+1)then if((b2.length:Int)+1)=((b2.length:Int)+1)/\0<=((b2.length:Int)+1)/\((b2.length:Int)+1)*8<=140737488355328/\((b2.length:Int)+1)<=140737488355328 then J2 (a2,b2,(List.replicate ((b2.length:Int)+1).toNat 0))else none else none) fun J=>oB (jO N a) fun r=>bif !r then some (-1)else oB (jO N b) fun r2=>bif !r2 then some (-1)else J (a,b))
theorem jDu :mK 194 (bX [pS,pS] [pI] (c2A (i_NearFar_m N))):=
 mO (fC (jcM N) ja) func194 rfl N (.seq .no (.meet jDZ .no (.meet jAQ .no (.seq (.seq .no (.block (.loop jDE .no))) (.seq (.seq .no (.block (.loop jBC (.seq .no (.seq (.block (.seq .no (.seq .no (.seq .no (.block (.loop jCv (.seq .no (.seq (.block (.seq .no (.meet jAI .no .no))) .no)))))))) .no))))) .no))))) _ (wr:=[22])
def jxG (N:Nat):(D:Nat)->Z0->Z0->Z9
 |0,_,_=>none
 |D+1,p,s=>
 bif decide (p=([]:List UInt8))then
 some (decide (s=([]:List UInt8)))
 else
 oB (idx p 0) fun c=>
 bif decide ((c.toNat:Int)=42)then
 oB (cut p 1 (p.length:Int)) fun y=>
 (oB (jxG N D y s) fun r=>
 bif r then
 some true
 else
 bif !decide (s=([]:List UInt8))then
 oB (cut s 1 (s.length:Int)) fun y2=>
 (oB (jxG N D p y2) fun r2=>
 some r2)
 else
 some false)
 else
 bif decide (s=([]:List UInt8))then
 some false
 else
 oB (idx p 0) fun c2=>
 bif decide ((c2.toNat:Int)=63)then
 oB (cut p 1 (p.length:Int)) fun y3=>
 (oB (cut s 1 (s.length:Int)) fun y4=>
 oB (jxG N D y3 y4) fun r3=>
 some r3)
 else
 oB (idx p 0) fun c3=>
 oB (idx s 0) fun c4=>
 bif decide ((c3.toNat:Int)=(c4.toNat:Int))then
 oB (cut p 1 (p.length:Int)) fun y5=>
 (oB (cut s 1 (s.length:Int)) fun y6=>
 oB (jxG N D y5 y6) fun r4=>
 some r4)
 else
 some false
def jyg (N D:Nat):Model:=⟨⟨[pS,pS],[]⟩,⟨[pB],[]⟩,c2A (jxG N D)⟩
theorem jBG (N D:Nat) (ih:mK 263 (jyg N D)):mK 263 (jyg N (D+1)):=
 mO (fC ih ja) func263 rfl N .no (jyg N (D+1))
theorem jAz (N:Nat):∀D,mK 263 (jyg N D)
 |0=>modelOk_none ⟨_,func263,by decide,by kernel_rfl⟩ _ (fun a=>rfl)
 |D+1=>jBG N D (jAz N D)
def jx0 (a:List UInt8) (b:List UInt8):Z9:=
 (oB (jxV N a) fun e=>bif e then oB (jO N b) fun c=>(bif c then oB (jxG N N a b) fun d=>(some d)else some false)else some false)
theorem jDd :mK 195 (bX [pS,pS] [pB] (c2A (jx0 N))):=
 mO (fC (jz9 N) (fC (jcM N) (fC (jAz N N) ja))) func195 rfl N .no _
def jD5 :Sh:=⟨.dead::pS::dz 8 (.pv Y15::pI::pI::dz 10 []),[]⟩
def i_DocNum_m (i:Int) (l:Z14) (b:Z8) (k:List UInt8):Z13:=
 (oB (jbx N i l b) fun m=>bif m then iter (fun j (d,f,e,a)=>bif decide (a<e)then oB (idx f a) fun c=>(bif decide (c.1=d)then some c.2 else if fits (a+1)then j (d,f,e,(a+1))else none)else some (-1)) N (k,b,(b.length:Int),(0:Int))else some (-1))
theorem jBQ :mK 48 (bX [.agg [pI,.pv Y19,.pv Y15],pS] [pI] (c4A (i_DocNum_m N))):=
 mO (fC (jh0 N) ja) func48 rfl N (.seq .no (.seq (.seq .no (.cond (.seq .no (.block (.loop jD5 .no))) .no)) .no)) _
def jDa :Sh:=⟨.ptr Y0::dz 3 (.box 4 0:: .box 5 0:: .dead::pI::dz 43 (.own 600051 .str 9 true::pI::pI::dz 122 [])),[(4,false,[pI,pS,.pv (.sl .str),pI,pI,.pv (.sl .q)]),(5,false,[pI,.pv Y19,.pv Y15])]⟩
def jCO :Sh:=⟨.ptr Y0::dz 3 (.box 4 0:: .box 5 0::dz 83 (.own 600089 .str 9 true::pI::pI::dz 84 [])),[(4,false,[pI,pS,.pv (.sl .str),pI,pI,.pv (.sl .q)]),(5,false,[pI,.pv Y19,.pv Y15])]⟩
def jDp :Sh:=⟨.ptr Y0::dz 3 (.box 4 0:: .box 5 0::dz 7 (pI::dz 140 (.pv (.sl .q)::pI::pI::dz 19 []))),[(4,false,[pI,pS,.pv (.sl .str),pI,pI,.pv (.sl .q)]),(5,false,[pI,.pv Y19,.pv Y15])]⟩
def i_scorer_score_m (N:Nat):(D:Nat)->Z11->Int->Z0->(List Z0)->Int->Int->(List DQ)->Int->Z12->Z7->Z13
 |0,_,_,_,_,_,_,_,_,_,_=>none
 |D+1,x,q,q2,q3,q4,q5,q6,d,d2,d3=>
 bif decide (q=1)then
 some 100
 else
 bif decide (q=2)then
 oB (idx q3 0) fun e=>
 (oB (jyc N x.1.1 x.1.2 e) fun r=>
 oB (i_scorer_points_m N x q2 r d) fun r2=>
 some r2)
 else
 bif decide (q=3)then
 oB (jyB N x q q2 q3 q4 q5 q6 d d2 d3) fun r3=>
 (some r3)
 else
 bif decide (q=4)then
 oB (i_Seg_terms_m N x.2 q2) fun r4=>
 (iter (fun go (g:Z11×Int×(List Z0)×Int×Int×Int×Z0×(List Z0)×Int×Int×(List DQ)×Int×Z12×Z7)=>
 match g with
 |(x2,best,t51,t52,t53,q7,q8,q9,q10,q11,q12,d4,d5,d6)=>
 bif decide (t53<t52)then
 oB (idx t51 t53) fun e2=>
 (oB (idx q9 0) fun e3=>
 oB (i_NearFar_m N e2 e3) fun r5=>
 oB (jm N r5 0 q10) fun r6=>
 bif r6 then
 oB (i_scorer_points_m N x2 q8 e2 d4) fun r7=>
 (if fits (3-r5)then if fits (r7*(3-r5))then if 3≠0 then
 if fits ((r7*(3-r5)).tdiv 3)then if fits (t53+1)then go (x2,(if((r7*(3-r5)).tdiv 3)>best then(r7*(3-r5)).tdiv 3 else best),t51,t52,(t53+1),q7,q8,q9,q10,q11,q12,d4,d5,d6)else none else none
 else none else none else none)
 else
 if fits (t53+1)then go (x2,best,t51,t52,(t53+1),q7,q8,q9,q10,q11,q12,d4,d5,d6)else none)
 else
 some best) N (x,0,r4,(r4.length:Int),0,q,q2,q3,q4,q5,q6,d,d2,d3))
 else
 bif decide (q=5)then
 oB (i_Seg_terms_m N x.2 q2) fun r8=>
 (iter (fun go2 (g:Z11×(List Z0)×Int×Int×Int×Z0×(List Z0)×Int×Int×(List DQ)×Int×Z12×Z7)=>
 match g with
 |(x3,t89,t90,t91,q13,q14,q15,q16,q17,q18,d7,d8,d9)=>
 bif decide (t91<t90)then
 oB (idx t89 t91) fun e4=>
 (oB (idx q15 0) fun e5=>
 oB (jx0 N e5 e4) fun r9=>
 bif r9 then
 oB (i_scorer_places_m N x3 q14 e4 d7) fun r10=>
 (bif decide ((0:Int)<r10.length)then
 some 100
 else
 if fits (t91+1)then go2 (x3,t89,t90,(t91+1),q13,q14,q15,q16,q17,q18,d7,d8,d9)else none)
 else
 if fits (t91+1)then go2 (x3,t89,t90,(t91+1),q13,q14,q15,q16,q17,q18,d7,d8,d9)else none)
 else
 some 0) N (x,r8,(r8.length:Int),0,q,q2,q3,q4,q5,q6,d,d2,d3))
 else
 bif decide (q=6)then
 oB (i_DocNum_m N d d2 d3 q2) fun r11=>
 (oB (jm N r11 q4 q5) fun r12=>
 bif r12 then
 some 100
 else
 some 0)
 else
 bif decide (q=10)then
 oB (idx q6 0) fun e6=>
 (oB (i_scorer_score_m N D x e6.kind e6.field e6.words e6.lo e6.hi e6.kids d d2 d3) fun r13=>
 if fits (q4*r13)then some (q4*r13)else none)
 else
 bif decide (q=9)then
 oB (idx q6 1) fun e7=>
 (oB (i_scorer_score_m N D x e7.kind e7.field e7.words e7.lo e7.hi e7.kids d d2 d3) fun r14=>
 bif decide ((0:Int)<r14)then
 some 0
 else
 oB (idx q6 0) fun e8=>
 oB (i_scorer_score_m N D x e8.kind e8.field e8.words e8.lo e8.hi e8.kids d d2 d3) fun r15=>
 some r15)
 else
 iter (fun go3 (g:Z11×Int×(List DQ)×Int×Int×Int×Z0×(List Z0)×Int×Int×(List DQ)×Int×Z12×Z7)=>
 match g with
 |(x4,all,t154,t155,t156,q19,q20,q21,q22,q23,q24,d10,d11,d12)=>
 bif decide (t156<t155)then
 oB (idx t154 t156) fun e9=>
 (oB (i_scorer_score_m N D x4 e9.kind e9.field e9.words e9.lo e9.hi e9.kids d10 d11 d12) fun r16=>
 bif decide (r16=0)then
 bif decide (q19=7)then
 some 0
 else
 (if fits (all+r16)then if fits (t156+1)then go3 (x4,(all+r16),t154,t155,(t156+1),q19,q20,q21,q22,q23,q24,d10,d11,d12)else none else none)
 else
 if fits (all+r16)then if fits (t156+1)then go3 (x4,(all+r16),t154,t155,(t156+1),q19,q20,q21,q22,q23,q24,d10,d11,d12)else none else none)
 else
 some all) N (x,0,q6,(q6.length:Int),0,q,q2,q3,q4,q5,q6,d,d2,d3)
def jx6 (N D:Nat):Model:=⟨⟨[.ptr Y0,.agg [pI,pS,.pv (.sl .str),pI,pI,.pv (.sl .q)],.agg [pI,.pv Y19,.pv Y15]],[]⟩,⟨[pI],[]⟩,c10A (i_scorer_score_m N D)⟩
theorem jBq (N D:Nat) (ih:mK 140 (jx6 N D)):mK 140 (jx6 N (D+1)):=
 mO (fC ih (fC (jBn N) (fC (jsD N) (fC (jDC N) (fC (jln N) (fC (jDu N) (fC (jY N) (fC (jDd N) (fC (jrB N) (fC (jBQ N) ja)))))))))) func140 rfl N (.seq .no (.seq (.seq .no (.block (.seq .no (.cond .no (.seq .no (.cond .no (.seq .no (.cond .no (.seq .no (.cond (.seq .no (.seq (.seq .no (.block (.loop jDa .no))) .no)) (.seq .no (.cond (.seq (.seq .no (.block (.loop jCO .no))) .no) .no)))))))))))) (.seq .no (.seq (.seq .no (.block (.loop jDp .no))) .no)))) (jx6 N (D+1))
theorem jzy (N:Nat):∀D,mK 140 (jx6 N D)
 |0=>modelOk_none ⟨_,func140,by decide,by kernel_rfl⟩ _ (fun a=>rfl)
 |D+1=>jBq N D (jzy N D)
def jBM :Sh:=⟨dz 5 (.box 5 0:: .dead:: .own 600007 Y14 90 true:: .box 26 0::dz 19 (.pv Y2::pI::pI::dz 18 [])),[(5,false,[pI,pS,.pv (.sl .str),pI,pI,.pv (.sl .q)]),(26,true,[.pv (.sl .str),.pv Y16,.pv Y2,.pv Y4])]⟩
def i_scores_m (u:List Z0) (B:List Z4) (c:List Z1) (y:List Z2) (t:Int) (w:List UInt8) (x:List Z0) (v:Int) (z:Int) (C:List DQ):Option (Z5):=
 (oB (i_SegOk_m N u B c y) fun E=>bif !E then some ([]:Z6)else oB (i_QueryOk_m N t w x v z C) fun D=>bif !D then some ([]:Z6)else iter (fun A (d,e,o,a,i,j,q,l,n,p,m,f,h,r)=>bif decide (a<o)then oB (idx e a) fun b=>(oB (i_scorer_score_m N N ((m,f),h,r) i j q l n p b.1 b.2.1 b.2.2) fun k=>bif decide ((0:Int)<k)then if room d.length ([(b.1,k)]:Z6).length 16 then if fits (a+1)then A ((d++([(b.1,k)]:Z6)),e,o,(a+1),i,j,q,l,n,p,m,f,h,r)else none else none else if fits (a+1)then A (d,e,o,(a+1),i,j,q,l,n,p,m,f,h,r)else none)else some d) N (([]:Z6),c,(c.length:Int),(0:Int),t,w,x,v,z,C,u,B,c,y))
theorem jBc :mK 96 (bX [.agg [.pv (.sl .str),.pv Y16],.agg [.pv Y2,.pv Y4],.agg [pI,pS,.pv (.sl .str),pI,pI,.pv (.sl .q)]] [.own 1 Y14 90 true] (c10A (i_scores_m N))):=
 mO (fC (joa N) (fC (jCN N) (fC (jzy N N) ja))) func96 rfl N (.seq .no (.seq .no (.seq .no (.seq .no (.seq (.seq .no (.block (.loop jBM .no))) .no))))) _
def jx4 (d:Int) (c:Int) (b:Int) (a:Int):Z13:=
 (oB (jxY N a c) fun h=>oB (jxY N d b) fun e=>oB (jbe N ([h,e]:List Int)) fun f=>some f)
theorem jvi :mK 171 (bX [.agg [pI,pI],.agg [pI,pI]] [pI] (c4A (jx4 N))):=
 mO (fC (jpP N) (fC (jhC N) ja)) func171 rfl N .no _
def cmp454 (N:Nat):(Unit)->(Int×Int)->(Int×Int)->Option Int:=(fun(cmp:Unit) (e e2:Int×Int)=>jx4 N e.1 e.2 e2.1 e2.2)
def jwq :Sh:=⟨.mtk 800000 Y14 90 true::pI::pI:: .clo 171 []::dz 4 (pI::dz 44 []),[]⟩
def jwI :Sh:=⟨.mtk 800000 Y14 90 true::pI::pI:: .clo 171 []::dz 4 (pI::pI::dz 43 []),[]⟩
def jvU (b:Z6) (d:Int) (c:Int) (a:Unit):Option (Z5):=insG (cmp454 N) N b d c a
 
theorem jwF :mK 277 (bX [.mtk 800000 Y14 90 true,pI,pI,.clo 171 []] [.tup [],.mtk 800000 Y14 90 true] (c4A (jvU N))):=
 mO (fC (jvi N) ja) func277 rfl N (.seq .no (.block (.loop jwq (.seq .no (.seq (.block (.seq .no (.block (.loop jwI .no)))) .no))))) _ (rs:=[800000])
def jv5 :Sh:=⟨.mtk 800000 Y14 90 true:: .dead::pI::pI:: .clo 171 []::dz 5 (pI::dz 71 []),[]⟩
def jwh :Sh:=⟨.mtk 800000 Y14 90 true:: .dead::pI::pI:: .clo 171 []::dz 5 (pI::pI::dz 70 []),[]⟩
def jvp (c:Z6) (e:Int) (b:Int) (a:Int) (d:Unit):Option (Z5):=siftG (cmp454 N) N c e b a d
 
theorem jwd :mK 305 (bX [.mtk 800000 Y14 90 true,pI,pI,pI,.clo 171 []] [.tup [],.mtk 800000 Y14 90 true] (c5A (jvp N))):=
 mO (fC (jvi N) ja) func305 rfl N (.seq .no (.block (.loop jv5 (.block (.seq .no (.seq .no (.meet jwh .no .no))))))) _ (rs:=[800000])
def jwy :Sh:=⟨.mtk 800000 Y14 90 true:: .dead:: .dead:: .clo 171 []::dz 4 (pI::pI::pI::pI::dz 48 []),[]⟩
def jwM :Sh:=⟨.mtk 800000 Y14 90 true:: .dead:: .dead:: .clo 171 []::dz 4 (pI::pI:: .dead:: .dead::pI::dz 47 []),[]⟩
def jvj (b:Z6) (d:Int) (c:Int) (a:Unit):Option (Z5):=heapG (cmp454 N) N b d c a
 
theorem jwr :mK 278 (bX [.mtk 800000 Y14 90 true,pI,pI,.clo 171 []] [.tup [],.mtk 800000 Y14 90 true] (c4A (jvj N))):=
 mO (fC (jwd N) ja) func278 rfl N (.seq .no (.seq .no (.seq .no (.seq (.seq .no (.block (.loop jwy .no))) (.seq .no (.block (.loop jwM .no))))))) _ (rs:=[800000])
def jw2 :Sh:=⟨.mtk 800000 Y14 90 true::pI::dz 6 (pI:: .box 9 0:: .pv (.int .u64)::pI::dz 55 []),[(9,false,[.pv (.int .u64)])]⟩
def jw5 :Sh:=⟨.mtk 800000 Y14 90 true::pI::dz 6 (pI:: .box 9 0:: .pv (.int .u64)::pI::pI::dz 54 []),[(9,false,[.pv (.int .u64)])]⟩
def jvw (b:Z6) (d:Int) (c:Int) (a:Unit):Option (Z5):=breakG N b d c a
 
theorem jwR :mK 279 (bX [.mtk 800000 Y14 90 true,pI,pI,.clo 171 []] [.tup [],.mtk 800000 Y14 90 true] (c4A (jvw N))):=
 mO (fC (jhv N) (fC (jet N) ja)) func279 rfl N (.seq .no (.seq .no (.cond (.seq .no (.seq .no (.seq .no (.block (.loop jw2 (.seq .no (.seq (.block (.seq .no (.meet jw5 .no .no))) .no))))))) .no))) _ (rs:=[800000])
def jvl (c:Z6) (e:Int) (d:Int) (a:Unit) (b:Int):Option (Int×Int×Z5×Int):=order2G (cmp454 N) N c e d a b
 
theorem jwG :mK 316 ⟨⟨[.mtk 800000 Y14 90 true,pI,pI,.box 900003 0,.clo 171 []],[(900003,false,[pI])]⟩,⟨[.tup [pI,pI],.mtk 800000 Y14 90 true],[(900003,false,[pI])]⟩,c5A (jvl N)⟩:=
 mO (fC (jvi N) ja) func316 rfl N .no _ (rs:=[900003,800000])
def jvr (d:Z6) (f:Int) (e:Int) (b:Int) (a:Unit) (c:Int):Option (Int×Z5×Int):=medianG (cmp454 N) N d f e b a c
 
theorem jvO :mK 307 ⟨⟨[.mtk 800000 Y14 90 true,pI,pI,pI,.box 900004 0,.clo 171 []],[(900004,false,[pI])]⟩,⟨[pI,.mtk 800000 Y14 90 true],[(900004,false,[pI])]⟩,c6A (jvr N)⟩:=
 mO (fC (jwG N) ja) func307 rfl N .no _ (rs:=[900004,800000])
def jvm (b:Z6) (d:Int) (a:Unit) (c:Int):Option (Int×Z5×Int):=medianAdjacentG (cmp454 N) N b d a c
 
theorem jwj :mK 306 ⟨⟨[.mtk 800000 Y14 90 true,pI,.box 900002 0,.clo 171 []],[(900002,false,[pI])]⟩,⟨[pI,.mtk 800000 Y14 90 true],[(900002,false,[pI])]⟩,c4A (jvm N)⟩:=
 mO (fC (jvO N) ja) func306 rfl N .no _ (rs:=[900002,800000])
def jwt :Sh:=⟨.mtk 800000 Y14 90 true:: .dead:: .dead:: .clo 171 []::dz 7 (.box 11 0::pI::pI::pI::dz 48 []),[(11,false,[pI])]⟩
def jwK :Sh:=⟨.mtk 800000 Y14 90 true::dz 10 (.box 11 0:: .dead::pI::dz 49 []),[(11,false,[pI])]⟩
def jvA (b:Z6) (d:Int) (c:Int) (a:Unit):Option (Int×Int×Z5):=choosePivotG (cmp454 N) N b d c a
 
theorem jwf :mK 280 (bX [.mtk 800000 Y14 90 true,pI,pI,.clo 171 []] [.tup [pI,pI],.mtk 800000 Y14 90 true] (c4A (jvA N))):=
 mO (fC (jwj N) (fC (jvO N) ja)) func280 rfl N (.seq .no (.seq .no (.seq .no (.seq .no (.seq .no (.seq .no (.meet jwK (.seq .no (.cond (.meet jwt .no .no) .no)) .no))))))) _ (rs:=[800000])
def jv2 :Sh:=⟨.mtk 800000 Y14 90 true::dz 7 (pI::pI::dz 24 []),[]⟩
def jvJ (b:Z6) (d:Int) (c:Int) (a:Unit):Option (Z5):=reverseRangeG N b d c a
 
theorem jwz :mK 281 (bX [.mtk 800000 Y14 90 true,pI,pI,.clo 171 []] [.tup [],.mtk 800000 Y14 90 true] (c4A (jvJ N))):=
 mO ja func281 rfl N (.seq .no (.seq .no (.block (.loop jv2 .no)))) _ (rs:=[800000])
def jw7 :Sh:=⟨.mtk 800000 Y14 90 true::pI::pI:: .clo 171 []::dz 5 (pI::pI::dz 130 []),[]⟩
def jwp :Sh:=⟨.mtk 800000 Y14 90 true::pI::pI:: .clo 171 []::dz 5 (pI::pI::pI::dz 129 []),[]⟩
def jwY :Sh:=⟨.mtk 800000 Y14 90 true::pI::pI:: .clo 171 []::dz 5 (pI::pI:: .dead::pI::dz 128 []),[]⟩
def jvz (b:Z6) (d:Int) (c:Int) (a:Unit):Option (Bool×Z5):=pisG (cmp454 N) N b d c a
 
theorem jw4 :mK 282 (bX [.mtk 800000 Y14 90 true,pI,pI,.clo 171 []] [pB,.mtk 800000 Y14 90 true] (c4A (jvz N))):=
 mO (fC (jvi N) ja) func282 rfl N (.seq .no (.seq .no (.seq (.seq .no (.block (.loop jw7 (.seq .no (.seq (.block (.seq (.block (.loop jw7 .no)) (.seq .no (.seq .no (.seq .no (.meet jw7 (.seq .no (.cond (.seq .no (.block (.loop jwp .no))) .no)) (.seq .no (.cond (.seq .no (.block (.loop jwY .no))) .no)))))))) .no))))) .no))) _ (rs:=[800000])
def jws :Sh:=⟨.mtk 800000 Y14 90 true::pI:: .dead:: .dead:: .clo 171 []::dz 6 (pI::pI::dz 77 []),[]⟩
def jvo (b:Z6) (d:Int) (c:Int) (e:Int) (a:Unit):Option (Int×Z5):=peqG (cmp454 N) N b d c e a
 
theorem jwA :mK 283 (bX [.mtk 800000 Y14 90 true,pI,pI,pI,.clo 171 []] [pI,.mtk 800000 Y14 90 true] (c5A (jvo N))):=
 mO (fC (jvi N) ja) func283 rfl N (.seq .no (.seq .no (.seq .no (.seq (.block (.loop jws (.block (.seq (.block (.loop jws .no)) (.seq (.block (.loop jws .no)) .no))))) .no)))) _ (rs:=[800000])
def jwU :Sh:=⟨.mtk 800000 Y14 90 true::pI:: .dead:: .dead:: .clo 171 []::dz 7 (pI::pI::dz 164 []),[]⟩
def jvs (b:Z6) (d:Int) (c:Int) (e:Int) (a:Unit):Option (Int×Bool×Z5):=partG (cmp454 N) N b d c e a
 
theorem jv9 :mK 284 (bX [.mtk 800000 Y14 90 true,pI,pI,pI,.clo 171 []] [.tup [pI,pB],.mtk 800000 Y14 90 true] (c5A (jvs N))):=
 mO (fC (jvi N) ja) func284 rfl N (.seq .no (.seq .no (.seq .no (.seq (.block (.loop jwU .no)) (.seq (.block (.loop jwU .no)) (.seq .no (.seq .no (.seq .no (.seq .no (.seq (.block (.loop jwU (.block (.seq (.block (.loop jwU .no)) (.seq (.block (.loop jwU .no)) .no))))) .no)))))))))) _ (rs:=[800000])
def jwT :Sh:=⟨.mtk 800000 Y14 90 true::pI::pI::pI:: .clo 171 []::dz 5 (pB::pB::dz 136 []),[]⟩
def jwO :Sh:=⟨.mtk 800000 Y14 90 true::pI::pI::pI:: .clo 171 []::dz 5 (pB::pB::pI::pI::dz 134 []),[]⟩
def jwP :Sh:=⟨.mtk 800000 Y14 90 true::pI::pI::pI:: .clo 171 []::dz 5 (pB::pB::pI::pI::pI::dz 133 []),[]⟩
def jwn :Sh:=⟨.mtk 800000 Y14 90 true::pI::pI::pI:: .clo 171 []::dz 5 (pB::pB::pI::dz 135 []),[]⟩
def jvh (N D:Nat) (f:Z6) (b a limit:Int) (h:Unit):Option (Z5):=pdqG (cmp454 N) (fun d b a c=>heapG (cmp454 N) N d b a c) (fun d b a e c=>peqG (cmp454 N) N d b a e c) N D f b a limit h
 
def jvn (N D:Nat):Model:=⟨⟨[.mtk 800000 Y14 90 true,pI,pI,pI,.clo 171 []],[]⟩,⟨[.tup [],.mtk 800000 Y14 90 true],[]⟩,c5A (jvh N D)⟩
theorem jwv (N D:Nat) (ih:mK 232 (jvn N D)):mK 232 (jvn N (D+1)):=
 mO (fC ih (fC (jwF N) (fC (jwr N) (fC (jwR N) (fC (jwf N) (fC (jwz N) (fC (jw4 N) (fC (jvi N) (fC (jwA N) (fC (jv9 N) ja)))))))))) func232 rfl N (.seq .no (.seq .no (.block (.loop jwT (.block (.seq .no (.seq .no (.seq .no (.meet jwn .no (.seq .no (.meet jwP .no (.meet jwO .no .no)))))))))))) (jvn N (D+1)) (rs:=[800000])
theorem jvI (N:Nat):∀D,mK 232 (jvn N D)
 |0=>modelOk_none ⟨_,func232,by decide,by kernel_rfl⟩ _ (fun a=>rfl)
 |D+1=>jwv N D (jvI N D)
def k_slices_SortFunc_454_m (a:Z6) (d:Unit):Option (Z5):=
 (oB (k_math_bits_Len_m N (IntKind.u64.wrap (a.length:Int))) fun c=>oB (jvh N N a 0 (a.length:Int) c ()) fun b=>some b)
theorem jwX :mK 170 (bX [.mtk 800000 Y14 90 true,.clo 171 []] [.tup [],.mtk 800000 Y14 90 true] (c2A (k_slices_SortFunc_454_m N))):=
 mO (fC (jda N) (fC (jvI N N) ja)) func170 rfl N .no _ (rs:=[800000])
def i_firstHits_m (c:Z6) (b:Int):Option (Z5):=
 (if room ([]:Z6).length c.length 16 then oB (k_slices_SortFunc_454_m N (([]:Z6)++c) ()) fun a=>(oB (cut a 0 (if b<(a.length:Int)then b else(a.length:Int))) fun d=>if room ([]:Z6).length d.length 16 then some (([]:Z6)++d)else none)else none)
theorem jv7 :mK 108 (bX [.pv Y13,pI] [.own 1 Y14 90 true] (c2A (i_firstHits_m N))):=
 mO (fC (jwX N) ja) func108 rfl N .no _ (wr:=[6,8,11,17,18])
def i_TopOf_m (c:List Z0) (h:List Z4) (m:List Z1) (l:List Z2) (b:Int) (f:List UInt8) (o:List Z0) (d:Int) (e:Int) (i:List DQ) (a:Int):Option (Z5):=
 (oB (jm N a 1 16) fun n=>bif !n then some ([]:Z6)else oB (i_scores_m N c h m l b f o d e i) fun j=>oB (i_firstHits_m N j a) fun k=>some k)
theorem jCZ :mK 45 (bX [.agg [.pv (.sl .str),.pv Y16],.agg [.pv Y2,.pv Y4],.agg [pI,pS,.pv (.sl .str),pI,pI,.pv (.sl .q)],pI] [.own 1 Y14 90 true] (c11A (i_TopOf_m N))):=
 mO (fC (jY N) (fC (jBc N) (fC (jv7 N) ja))) func45 rfl N .no _
def s_l30Known_m (N:Nat):Option ((List Z0)):=
 (some ([([99,97,116]:List UInt8),([99,97,116,115]:List UInt8),([100,111,103]:List UInt8),([100,111,103,115]:List UInt8),([114,117,110]:List UInt8),([114,117,110,110,105,110,103]:List UInt8),([116,104,101]:List UInt8),([114,101,100]:List UInt8),([98,105,103]:List UInt8),([110,101,119]:List UInt8),([121,111,114,107]:List UInt8),([110,121]:List UInt8),([102,111,120]:List UInt8)]:List Z0))
theorem jGd :mK 186 ⟨⟨[],[]⟩,⟨[.own 1 .str 9 true],[]⟩,fun a=>s_l30Known_m N⟩:=
 mO ja func186 rfl N .no _
def s_l30Leaf_m (o:List Int) (m:Int):Option (Int×Z0×(List Z0)×Int×Int×(List Int)×Int):=
 (oB (s_l30Rd_of_m N ([([98,111,100,121]:List UInt8),([98,111,100,121]:List UInt8),([116,105,116,108,101]:List UInt8)]:List Z0) o m) fun b=>oB (jtW N 9 b.2.1 b.2.2) fun a=>bif decide (a.1=0)then some (1,([]:List UInt8),([]:List Z0),0,0,a.2.1,a.2.2)else bif decide (a.1=1)then oB (s_l30Known_m N) fun q=>(oB (s_l30Rd_of_m N q a.2.1 a.2.2) fun i=>oB (s_l30Known_m N) fun p=>oB (s_l30Rd_of_m N p i.2.1 i.2.2) fun j=>oB (jtW N 3 j.2.1 j.2.2) fun f=>some (3,b.1,([i.1,j.1]:List Z0),f.1,0,f.2.1,f.2.2))else bif decide (a.1=2)then oB (s_l30Rd_of_m N ([([99,111,116]:List UInt8),([100,117,103]:List UInt8),([114,110]:List UInt8),([102,111,103]:List UInt8)]:List Z0) a.2.1 a.2.2) fun h=>(oB (jtW N 2 h.2.1 h.2.2) fun e=>if fits (1+e.1)then some (4,b.1,([h.1]:List Z0),(1+e.1),0,e.2.1,e.2.2)else none)else bif decide (a.1=3)then oB (s_l30Rd_of_m N ([([99,42]:List UInt8),([63,111,63]:List UInt8),([42,110]:List UInt8),([42]:List UInt8)]:List Z0) a.2.1 a.2.2) fun k=>(some (5,b.1,([k.1]:List Z0),0,0,k.2.1,k.2.2))else bif decide (a.1=4)then oB (jtW N 4 a.2.1 a.2.2) fun c=>(oB (jtW N 3 c.2.1 c.2.2) fun d=>if fits (c.1+d.1)then some (6,([114,97,116,101]:List UInt8),([]:List Z0),c.1,(c.1+d.1),d.2.1,d.2.2)else none)else oB (s_l30Known_m N) fun n=>oB (s_l30Rd_of_m N n a.2.1 a.2.2) fun l=>some (2,b.1,([l.1]:List Z0),0,0,l.2.1,l.2.2))
theorem jGD :mK 132 ⟨⟨[.box 900000 0],[(900000,false,[.pv (.sl (.int .u8)),pI])]⟩,⟨[.agg [pI,pS,.own 1 .str 9 true,pI,pI,.nils]],[(900000,false,[.pv (.sl (.int .u8)),pI])]⟩,c2A (s_l30Leaf_m N)⟩:=
 mO (fC (jt3 N) (fC (jtX N) (fC (jGd N) ja))) func132 rfl N .no _ (rs:=[900000])
def jFT :Sh:=⟨.box 900000 0::pI:: .dead:: .dead:: .box 4 0::dz 36 (pB::dz 30 []),[(4,false,[pI,pS,.nils,pI,pI,.nils]),(900000,false,[.pv (.sl (.int .u8)),pI])]⟩
def jFQ :Sh:=⟨.box 900000 0::pI:: .dead:: .dead:: .box 4 0:: .box 5 0::pI::dz 65 [],[(4,false,[pI,pS,.nils,pI,pI,.nils]),(5,false,[pI,pS,.nils,pI,pI,.own 700505 .q 38 true]),(900000,false,[.pv (.sl (.int .u8)),pI])]⟩
def s_l30Query_m (N:Nat):(D:Nat)->Int->(List Int)->Int->Option (Int×Z0×(List Z0)×Int×Int×(List DQ)×(List Int)×Int)
 |0,_,_,_=>none
 |D+1,deep,b,b2=>
 bif decide (deep<=1)then
 oB (s_l30Leaf_m N b b2) fun r=>
 (some (r.1,r.2.1,r.2.2.1,r.2.2.2.1,r.2.2.2.2.1,([]:List DQ),r.2.2.2.2.2.1,r.2.2.2.2.2.2))
 else
 oB (jtW N 3 b b2) fun r2=>
 bif decide (r2.1=0)then
 oB (s_l30Leaf_m N r2.2.1 r2.2.2) fun r3=>
 (some (r3.1,r3.2.1,r3.2.2.1,r3.2.2.2.1,r3.2.2.2.2.1,([]:List DQ),r3.2.2.2.2.2.1,r3.2.2.2.2.2.2))
 else
 oB (jtW N 6 r2.2.1 r2.2.2) fun r4=>
 bif decide (r4.1=0)then
 if fits (deep-1)then oB (s_l30Query_m N D (deep-1) r4.2.1 r4.2.2) fun r5=>
 (if fits (deep-1)then oB (s_l30Query_m N D (deep-1) r5.2.2.2.2.2.2.1 r5.2.2.2.2.2.2.2) fun r6=>
 (some (9,([]:List UInt8),([]:List Z0),0,0,([(DQ.mk r5.1 r5.2.1 r5.2.2.1 r5.2.2.2.1 r5.2.2.2.2.1 r5.2.2.2.2.2.1),(DQ.mk r6.1 r6.2.1 r6.2.2.1 r6.2.2.2.1 r6.2.2.2.2.1 r6.2.2.2.2.2.1)]:List DQ),r6.2.2.2.2.2.2.1,r6.2.2.2.2.2.2.2))else none)else none
 else
 bif decide (r4.1=1)then
 oB (jtW N 4 r4.2.1 r4.2.2) fun r7=>
 (if fits (2+r7.1)then if fits (deep-1)then oB (s_l30Query_m N D (deep-1) r7.2.1 r7.2.2) fun r8=>
 (some (10,([]:List UInt8),([]:List Z0),(2+r7.1),0,([(DQ.mk r8.1 r8.2.1 r8.2.2.1 r8.2.2.2.1 r8.2.2.2.2.1 r8.2.2.2.2.2.1)]:List DQ),r8.2.2.2.2.2.2.1,r8.2.2.2.2.2.2.2))else none else none)
 else
 meet (fun(g:Int×Bool×Int×Z0×Int×Int×(List Int)×Int)=>
 match g with
 |(deep2,t41,b3,b4,b5,b6,b7,b8)=>
 bif t41 then
 if fits (deep2-1)then oB (s_l30Query_m N D (deep2-1) b7 b8) fun r9=>
 (if fits (deep2-1)then oB (s_l30Query_m N D (deep2-1) r9.2.2.2.2.2.2.1 r9.2.2.2.2.2.2.2) fun r10=>
 (some (7,([]:List UInt8),([]:List Z0),0,0,([(DQ.mk r9.1 r9.2.1 r9.2.2.1 r9.2.2.2.1 r9.2.2.2.2.1 r9.2.2.2.2.2.1),(DQ.mk r10.1 r10.2.1 r10.2.2.1 r10.2.2.2.1 r10.2.2.2.2.1 r10.2.2.2.2.2.1)]:List DQ),r10.2.2.2.2.2.2.1,r10.2.2.2.2.2.2.2))else none)else none
 else
 oB (jtW N 2 b7 b8) fun r11=>
 if fits (2+r11.1)then iter (fun go (g:Int×Int×Int×Z0×Int×Int×Int×Z0×Int×Int×(List DQ)×(List Int)×Int)=>
 match g with
 |(deep3,n,b9,b10,b11,b12,q,q2,q3,q4,q5,b13,b14)=>
 bif decide ((0:Int)<n)then
 if fits (deep3-1)then oB (s_l30Query_m N D (deep3-1) b13 b14) fun r12=>
 (if room q5.length ([(DQ.mk r12.1 r12.2.1 r12.2.2.1 r12.2.2.2.1 r12.2.2.2.2.1 r12.2.2.2.2.2.1)]:List DQ).length 88 then
 if fits (n-1)then go (deep3,(n-1),b9,b10,b11,b12,q,q2,q3,q4,(q5++([(DQ.mk r12.1 r12.2.1 r12.2.2.1 r12.2.2.2.1 r12.2.2.2.2.1 r12.2.2.2.2.2.1)]:List DQ)),r12.2.2.2.2.2.2.1,r12.2.2.2.2.2.2.2)else none
 else none)else none
 else
 some (q,q2,([]:List Z0),q3,q4,q5,b13,b14)) N (deep2,(2+r11.1),b3,b4,b5,b6,8,([]:List UInt8),0,0,([]:List DQ),r11.2.1,r11.2.2)else none) fun J=>
 bif decide (r4.1=2)then
 J (deep,true,0,([]:List UInt8),0,0,r4.2.1,r4.2.2)
 else
 J (deep,(decide (r4.1=3)),0,([]:List UInt8),0,0,r4.2.1,r4.2.2)
def jE6 (N D:Nat):Model:=⟨⟨[.box 900000 0,pI],[(900000,false,[.pv (.sl (.int .u8)),pI])]⟩,⟨[.agg [pI,pS,.own 1 .str 9 true,pI,pI,.own 2 .q 38 true]],[(900000,false,[.pv (.sl (.int .u8)),pI])]⟩,c3A (s_l30Query_m N D)⟩
theorem jGF (N D:Nat) (ih:mK 68 (jE6 N D)):mK 68 (jE6 N (D+1)):=
 mO (fC ih (fC (jGD N) (fC (jtX N) ja))) func68 rfl N (.seq .no (.seq .no (.seq (.seq .no (.block (.seq .no (.cond .no (.seq .no (.cond .no (.meet jFT .no .no))))))) (.seq .no (.seq (.seq .no (.block (.loop jFQ .no))) .no))))) (jE6 N (D+1)) (rs:=[900000])
theorem jE7 (N:Nat):∀D,mK 68 (jE6 N D)
 |0=>modelOk_none ⟨_,func68,by decide,by kernel_rfl⟩ _ (fun a=>rfl)
 |D+1=>jGF N D (jE7 N D)
def jxz (N:Nat) (k:Int) (i:List UInt8) (h:List Z0) (d:Int) (e:Int) (b:List DQ) (j:Bool) (f:Bool) (c:Bool) (a:Bool):Z9:=
 (bif j then bif f then bif c then bif a then some true else(some (decide ((b.length:Int)=0)))else(bif decide (d=0)then bif decide (e=0)then bif a then some true else(some (decide ((b.length:Int)=0)))else(some false)else some false)else(bif decide ((h.length:Int)=0)then bif c then bif a then some true else(some (decide ((b.length:Int)=0)))else(bif decide (d=0)then bif decide (e=0)then bif a then some true else(some (decide ((b.length:Int)=0)))else(some false)else some false)else some false)else bif decide (i=([]:List UInt8))then bif f then bif c then bif a then some true else(some (decide ((b.length:Int)=0)))else(bif decide (d=0)then bif decide (e=0)then bif a then some true else(some (decide ((b.length:Int)=0)))else(some false)else some false)else(bif decide ((h.length:Int)=0)then bif c then bif a then some true else(some (decide ((b.length:Int)=0)))else(bif decide (d=0)then bif decide (e=0)then bif a then some true else(some (decide ((b.length:Int)=0)))else(some false)else some false)else some false)else some false)
theorem jDV :mK 253 (bX [.agg [pI,pS,.pv (.sl .str),pI,pI,.pv (.sl .q)],pB,pB,pB,pB] [pB] (c10A (jxz N))):=
 mO ja func253 rfl N .no _
def jDt :Sh:=⟨.pv (.sl .str)::pI::dz 3 (pI::dz 16 []),[]⟩
def jxL (j:List Z0) (d:Int):Z9:=
 (iter (fun h (a,c,b)=>bif decide (b<(a.length:Int))then oB (idx a b) fun f=>(oB (jT N f) fun k=>bif !k then some false else if fits (b+1)then h (a,c,(b+1))else none)else oB (jJ N (a.length:Int) 1 c) fun i=>some i) N (j,d,(0:Int)))
theorem jDs :mK 254 (bX [.pv (.sl .str),pI] [pB] (c2A (jxL N))):=
 mO (fC (jgp N) (fC (jcL N) ja)) func254 rfl N (.seq .no (.seq (.seq .no (.block (.loop jDt .no))) .no)) _
def jBL :Sh:=⟨pS:: .dead:: .dead::pI::dz 28 [],[]⟩
def jyk (h:List UInt8):Z9:=
 (iter (fun c (b,a)=>bif decide (a<(b.length:Int))then oB (idx b a) fun d=>(bif !decide ((d.toNat:Int)=42)then oB (idx b a) fun i=>(bif !decide ((i.toNat:Int)=63)then if fits (a+1)then oB (cut b a (a+1)) fun f=>(oB (jT N f) fun k=>bif !k then some false else if fits (a+1)then c (b,(a+1))else none)else none else if fits (a+1)then c (b,(a+1))else none)else if fits (a+1)then c (b,(a+1))else none)else oB (jJ N (b.length:Int) 1 12) fun j=>some j) N (h,(0:Int)))
theorem jC1 :mK 255 (bX [pS] [pB] (c1A (jyk N))):=
 mO (fC (jgp N) (fC (jcL N) ja)) func255 rfl N (.seq .no (.seq (.seq .no (.block (.loop jBL .no))) .no)) _
def jDP :Sh:=⟨.dead:: .box 1 0:: .dead::pI::dz 4 (pI::dz 123 (pB::dz 34 [])),[(1,false,[pI,pS,.pv (.sl .str),pI,pI,.pv (.sl .q)])]⟩
def jyq (a:Int) (c:List UInt8) (b:List Z0) (d:Int) (e:Int) (f:List DQ):Z9:=
 (bif decide (a=1)then oB (jxz N a c b d e f false false false false) fun w=>(some w)else bif decide (a=2)then oB (jxz N a c b d e f true true false false) fun K=>(bif K then oB (jT N c) fun Q=>(bif Q then oB (jxL N b 1) fun I=>(some I)else some false)else some false)else bif decide (a=3)then oB (jxz N a c b d e f true true true false) fun z=>(bif z then oB (jT N c) fun P=>(bif P then oB (jxL N b 4) fun V=>(bif V then bif decide ((1:Int)<b.length)then bif decide (e=0)then oB (jJ N d 0 5) fun H=>(some H)else(some false)else(some false)else some false)else some false)else some false)else bif decide (a=4)then oB (jxz N a c b d e f true true true false) fun T=>(bif T then oB (jT N c) fun O=>(bif O then oB (jxL N b 1) fun u=>(bif u then bif decide (e=0)then oB (jJ N d 1 2) fun W=>(some W)else(some false)else some false)else some false)else some false)else bif decide (a=5)then oB (jxz N a c b d e f true true false false) fun G=>(bif G then oB (jT N c) fun S=>(bif S then bif decide ((b.length:Int)=1)then oB (idx b 0) fun A=>(oB (jyk N A) fun C=>bif C then oB (idx b 0) fun R=>(oB (jT N R) fun t=>some (!t))else some false)else(some false)else some false)else some false)else bif decide (a=6)then oB (jxz N a c b d e f true false true false) fun q=>(bif q then oB (jT N c) fun L=>(bif L then oB (jJ N d 0 999999999) fun r=>(bif r then oB (jJ N e d 999999999) fun X=>(some X)else some false)else some false)else some false)else meet (fun(y:Int×Int×Bool×Int×Z0×(List Z0)×Int×Int×(List DQ))=>match y with|(k,p,v,l,m,j,i,h,n)=>bif v then oB (jxz N l m j i h n false false false true) fun B=>(bif B then oB (jJ N k 2 4) fun E=>(some E)else some false)else bif decide (p=9)then oB (jxz N l m j i h n false false false true) fun D=>(bif D then some (decide (k=2))else some false)else bif decide (p=10)then oB (jxz N l m j i h n false false true true) fun U=>(bif U then bif decide (k=1)then bif decide (h=0)then oB (jJ N i 2 9) fun x=>(some x)else(some false)else(some false)else some false)else some false) fun o=>bif decide (a=7)then o ((f.length:Int),a,true,a,c,b,d,e,f)else o ((f.length:Int),a,(decide (a=8)),a,c,b,d,e,f))
theorem jBO :mK 187 (bX [.agg [pI,pS,.pv (.sl .str),pI,pI,.pv (.sl .q)]] [pB] (c6A (jyq N))):=
 mO (fC (jDV N) (fC (jgp N) (fC (jDs N) (fC (jcL N) (fC (jC1 N) ja))))) func187 rfl N (.seq .no (.seq .no (.seq (.seq .no (.block (.seq .no (.cond .no (.seq .no (.cond .no (.seq .no (.cond .no (.seq .no (.cond .no (.seq .no (.cond .no (.seq .no (.cond .no (.meet jDP .no .no))))))))))))))) .no))) _
def jD7 :Sh:=⟨.dead::pI:: .box 2 0:: .dead:: .dead::pI::dz 23 [],[(2,false,[pI,pS,.pv (.sl .str),pI,pI,.pv (.sl .q)])]⟩
def jxO (N:Nat):(D:Nat)->Int->Z0->(List Z0)->Int->Int->(List DQ)->Int->Z9
 |0,_,_,_,_,_,_,_=>none
 |D+1,q,q2,q3,q4,q5,q6,deep=>
 bif decide (deep=0)then
 some false
 else
 oB (jyq N q q2 q3 q4 q5 q6) fun r=>
 bif !r then
 some false
 else
 iter (fun go (g:Int×Int×Int×Z0×(List Z0)×Int×Int×(List DQ))=>
 match g with
 |(deep2,i,q7,q8,q9,q10,q11,q12)=>
 bif decide (i<(q12.length:Int))then
 oB (idx q12 i) fun e=>
 (if fits (deep2-1)then oB (jxO N D e.kind e.field e.words e.lo e.hi e.kids (deep2-1)) fun r2=>
 (bif !r2 then
 some false
 else
 if fits (i+1)then go (deep2,(i+1),q7,q8,q9,q10,q11,q12)else none)else none)
 else
 some true) N (deep,0,q,q2,q3,q4,q5,q6)
def jx9 (N D:Nat):Model:=⟨⟨[.agg [pI,pS,.pv (.sl .str),pI,pI,.pv (.sl .q)],pI],[]⟩,⟨[pB],[]⟩,c7A (jxO N D)⟩
theorem jBT (N D:Nat) (ih:mK 133 (jx9 N D)):mK 133 (jx9 N (D+1)):=
 mO (fC ih (fC (jBO N) ja)) func133 rfl N (.seq .no (.seq .no (.seq (.seq .no (.block (.loop jD7 .no))) .no))) (jx9 N (D+1))
theorem jzV (N:Nat):∀D,mK 133 (jx9 N D)
 |0=>modelOk_none ⟨_,func133,by decide,by kernel_rfl⟩ _ (fun a=>rfl)
 |D+1=>jBT N D (jzV N D)
def s_l11Ok_m (a:Int) (d:List UInt8) (h:List Z0) (b:Int) (c:Int) (e:List DQ):Z9:=
 (oB (jxO N N a d h b c e 4) fun f=>some f)
theorem jBX :mK 70 (bX [.agg [pI,pS,.pv (.sl .str),pI,pI,.pv (.sl .q)]] [pB] (c6A (s_l11Ok_m N))):=
 mO (fC (jzV N N) ja) func70 rfl N .no _
def jyC (a:List Z0) (b:List Z4) (d:List UInt8):Option (Z0):=
 (oB (jcw N a b) fun h=>bif !h then some ([]:List UInt8)else oB (jT N d) fun f=>bif !f then some ([]:List UInt8)else oB (ja5 N a b d) fun c=>bif decide ((c.length:Int)=0)then some ([]:List UInt8)else oB (idx c 0) fun e=>some e.1)
theorem jCy :mK 147 (bX [.agg [.pv (.sl .str),.pv Y16],pS] [pS] (c3A (jyC N))):=
 mO (fC (jtf N) (fC (jgp N) (fC (jiO N) ja))) func147 rfl N .no _
def jtm :Sh:=⟨.dead::pS::pS:: .box 3 0::dz 3 (pI::dz 31 []),[(3,false,[.pv Y2,.pv Y4])]⟩
def s_l7Posts_m (m:List Z1) (l:List Z2) (h:List UInt8) (k:List UInt8):Option (Z15):=
 (iter (fun f (c,d,a,e,b)=>bif decide (a<(b.length:Int))then oB (idx b a) fun j=>(bif decide (j.1=c)then oB (idx b a) fun o=>(bif decide (o.2.1=d)then oB (idx b a) fun n=>(some n.2.2)else if fits (a+1)then f (c,d,(a+1),e,b)else none)else if fits (a+1)then f (c,d,(a+1),e,b)else none)else some ([]:Z3)) N (h,k,(0:Int),m,l))
theorem jh6 :mK 203 (bX [.agg [.pv Y2,.pv Y4],pS,pS] [.pv Y11] (c4A (s_l7Posts_m N))):=
 mO ja func203 rfl N (.seq .no (.seq (.seq .no (.block (.loop jtm .no))) .no)) _
def jst :Sh:=⟨dz 3 (pI::dz 5 (.pv Y11::pI::dz 22 [])),[]⟩
def s_l12At_m (k:List Z1) (l:List Z2) (e:List UInt8) (i:List UInt8) (d:Int):Option ((List Int)):=
 (oB (s_l7Posts_m N k l e i) fun n=>iter (fun j (c,b,a)=>bif decide (a<(b.length:Int))then oB (idx b a) fun h=>(bif decide (h.1=c)then oB (idx b a) fun m=>(some m.2)else if fits (a+1)then j (c,b,(a+1))else none)else some ([]:List Int)) N (d,n,(0:Int)))
theorem jn1 :mK 199 (bX [.agg [.pv Y2,.pv Y4],pS,pS,pI] [.pv Y21] (c5A (s_l12At_m N))):=
 mO (fC (jh6 N) ja) func199 rfl N (.seq .no (.seq .no (.seq (.seq .no (.block (.loop jst .no))) .no))) _
def jqS :Sh:=⟨.dead::pS::pI:: .box 3 0::dz 3 (pI::pI::dz 55 []),[(3,false,[.pv Y2,.pv Y4])]⟩
def jm7 :Sh:=⟨.dead::pS::pI:: .box 3 0::dz 3 (pI::pI::pI::dz 54 []),[(3,false,[.pv Y2,.pv Y4])]⟩
def s_l7Long_m (u:List Z1) (t:List Z2) (p:List UInt8) (x:Int):Z13:=
 (iter (fun o (y,r,m,l,q,j)=>bif decide (l<(j.length:Int))then iter (fun k (f,d,e,a,c,h,b)=>oB (idx b a) fun z=>bif decide (c<(z.2.2.length:Int))then oB (idx b a) fun v=>(bif decide (v.1=f)then oB (idx b a) fun B=>(oB (idx B.2.2 c) fun w=>bif decide (w.1=d)then oB (idx b a) fun A=>(oB (idx A.2.2 c) fun n=>if fits (e+(n.2.length:Int))then if fits (c+1)then k (f,d,(e+(n.2.length:Int)),a,(c+1),h,b)else none else none)else if fits (c+1)then k (f,d,e,a,(c+1),h,b)else none)else if fits (a+1)then o (f,d,e,(a+1),h,b)else none)else if fits (a+1)then o (f,d,e,(a+1),h,b)else none) N (y,r,m,l,(0:Int),q,j)else some m) N (p,x,(0:Int),(0:Int),u,t))
theorem jrY :mK 201 (bX [.agg [.pv Y2,.pv Y4],pS,pI] [pI] (c4A (s_l7Long_m N))):=
 mO ja func201 rfl N (.seq .no (.seq .no (.seq (.seq .no (.block (.loop jqS (.seq .no (.seq (.block (.seq .no (.block (.loop jm7 .no)))) .no))))) .no))) _
def jsB :Sh:=⟨.dead::pS:: .box 2 0:: .dead:: .dead::pI::pI::dz 43 [],[(2,false,[.pv Y2,.pv Y4])]⟩
def jnl :Sh:=⟨.dead::pS:: .box 2 0:: .dead:: .dead::pI::pI::pI::dz 42 [],[(2,false,[.pv Y2,.pv Y4])]⟩
def s_l12Total_m (r:List Z1) (q:List Z2) (o:List UInt8):Z13:=
 (iter (fun m (u,k,j,p,i)=>bif decide (j<(i.length:Int))then iter (fun n (e,d,a,c,h,b)=>oB (idx b a) fun v=>bif decide (c<(v.2.2.length:Int))then oB (idx b a) fun t=>(bif decide (t.1=e)then oB (idx b a) fun w=>(oB (idx w.2.2 c) fun l=>if fits (d+(l.2.length:Int))then if fits (c+1)then n (e,(d+(l.2.length:Int)),a,(c+1),h,b)else none else none)else if fits (a+1)then m (e,d,(a+1),h,b)else none)else if fits (a+1)then m (e,d,(a+1),h,b)else none) N (u,k,j,(0:Int),p,i)else some k) N (o,(0:Int),(0:Int),r,q))
theorem jn2 :mK 202 (bX [.agg [.pv Y2,.pv Y4],pS] [pI] (c3A (s_l12Total_m N))):=
 mO ja func202 rfl N (.seq .no (.seq .no (.seq (.seq .no (.block (.loop jsB (.seq .no (.seq (.block (.seq .no (.block (.loop jnl .no)))) .no))))) .no))) _
def jsx :Sh:=⟨pI::pI::dz 3 (pI::dz 13 []),[]⟩
def jbz (f:Int) (d:Int):Z13:=
 (iter (fun h (a,c,b)=>bif decide ((0:Int)<a)then if fits (a*2)then bif decide ((a*2)<=c)then if fits (a*2)then if fits (b+1)then h ((a*2),c,(b+1))else none else none else(some b)else none else some b) N (f,d,(0:Int)))
theorem jkd :mK 266 (bX [pI,pI] [pI] (c2A (jbz N))):=
 mO ja func266 rfl N (.seq .no (.seq .no (.seq (.block (.loop jsx .no)) .no))) _
def jkC :Sh:=⟨pI::pI::dz 15 [],[]⟩
def jaY (N:Nat):(D:Nat)->Int->Int->Z13
 |0,_,_=>none
 |D+1,a,b=>
 meet (fun(g:Int×Int)=>
 match g with
 |(a2,b2)=>
 bif decide (b2=0)then
 some a2
 else
 if b2≠0 then
 oB (jaY N D b2 (a2.tmod b2)) fun r=>
 (some r)
 else none) fun J=>
 bif decide (a<0)then
 if fits (0-a)then J ((0-a),b)else none
 else
 J (a,b)
def jcQ (N D:Nat):Model:=⟨⟨[pI,pI],[]⟩,⟨[pI],[]⟩,c2A (jaY N D)⟩
theorem jlI (N D:Nat) (ih:mK 302 (jcQ N D)):mK 302 (jcQ N (D+1)):=
 mO (fC ih ja) func302 rfl N (.seq .no (.meet jkC .no .no)) (jcQ N (D+1))
theorem jeF (N:Nat):∀D,mK 302 (jcQ N D)
 |0=>modelOk_none ⟨_,func302,by decide,by kernel_rfl⟩ _ (fun a=>rfl)
 |D+1=>jlI N D (jeF N D)
def jlg :Sh:=⟨pI::pI:: .dead:: .dead:: .box 4 0::dz 17 [],[(4,false,[pI,pI])]⟩
def jcf (e:Int) (b:Int):Option (Int×Int):=
 (meet (fun(h:Int×Int×Int×Int)=>match h with|(d,c,i,j)=>oB (jaY N N d c) fun a=>if a≠0 then if fits (d.tdiv a)then if a≠0 then if fits (c.tdiv a)then some ((d.tdiv a),(c.tdiv a))else none else none else none else none) fun f=>bif decide (b<0)then if fits (0-e)then if fits (0-b)then f ((0-e),(0-b),0,0)else none else none else f (e,b,0,0))
theorem jn4 :mK 265 (bX [pI,pI] [.agg [pI,pI]] (c2A (jcf N))):=
 mO (fC (jeF N N) ja) func265 rfl N (.seq .no (.meet jlg .no .no)) _
def jqT :Sh:=⟨pI:: .dead:: .dead::pI::pI::dz 5 (.box 10 0::pI::dz 21 []),[(10,false,[pI,pI])]⟩
def s_l12Term_m (f:Int) (c:Int) (d:Int) (b:Int) (j:Int):Option (Int×Int):=
 (meet (fun(l:Int×Int×Int×Int×Int×Int)=>match l with|(a,n,m,h,p,o)=>oB (jbz N m n) fun e=>if fits (1+e)then if fits ((1+e)*22)then if fits (((1+e)*22)*a)then if fits (10*a)then if fits ((10*a)+3)then if fits (((10*a)+3)+h)then oB (jcf N (((1+e)*22)*a) (((10*a)+3)+h)) fun k=>(some (k.1,k.2))else none else none else none else none else none else none) fun i=>bif decide ((0:Int)<d)then if fits (c*b)then if fits ((c*b)*9)then if d≠0 then if fits (((c*b)*9).tdiv d)then i (f,b,j,(((c*b)*9).tdiv d),0,0)else none else none else none else none else i (f,b,j,1,0,0))
theorem jtF :mK 200 (bX [pI,pI,pI,pI,pI] [.agg [pI,pI]] (c5A (s_l12Term_m N))):=
 mO (fC (jkd N) (fC (jn4 N) ja)) func200 rfl N (.seq .no (.seq .no (.meet jqT .no .no))) _
def s_l12Points_m (b:List Z1) (d:List Z2) (c:List UInt8) (f:List UInt8) (e:Int):Z13:=
 (oB (s_l12At_m N b d c f e) fun h=>bif decide ((h.length:Int)=0)then some 0 else oB (s_l7Long_m N b d c e) fun j=>oB (s_l12Total_m N b d c) fun k=>oB (s_l7Posts_m N b d c f) fun i=>oB (s_l12Term_m N (h.length:Int) j k (b.length:Int) (i.length:Int)) fun a=>if fits (a.1*1000)then if a.2≠0 then if fits ((a.1*1000).tdiv a.2)then some ((a.1*1000).tdiv a.2)else none else none else none)
theorem jrZ :mK 146 (bX [.agg [.pv Y2,.pv Y4],pS,pS,pI] [pI] (c5A (s_l12Points_m N))):=
 mO (fC (jn1 N) (fC (jrY N) (fC (jn2 N) (fC (jh6 N) (fC (jtF N) ja))))) func146 rfl N .no _
def jAu :Sh:=⟨.pv (.sl .str)::pS::dz 3 (pS::pI::dz 18 []),[]⟩
def jxS (o:List Z0) (l:List UInt8):Option (Z0):=
 (iter (fun n (f,a,c,b)=>bif decide (b<(f.length:Int))then meet (fun(d:(List Z0)×Z0×Z0×Int)=>match d with|(i,m,h,e)=>oB (idx i e) fun j=>if h.length+j.length<=9223372036854775807 then if fits (e+1)then n (i,m,(h++j),(e+1))else none else none) fun k=>(bif decide ((0:Int)<b)then if c.length+a.length<=9223372036854775807 then k (f,a,(c++a),b)else none else k (f,a,c,b))else some c) N (o,l,([]:List UInt8),(0:Int)))
theorem jAy :mK 206 (bX [.pv (.sl .str),pS] [pS] (c2A (jxS N))):=
 mO ja func206 rfl N (.seq .no (.seq .no (.seq (.seq .no (.block (.loop jAu (.seq .no (.seq (.block (.meet jAu .no .no)) .no))))) .no))) _
def jB2 :Sh:=⟨dz 3 (pI:: .dead:: .box 5 0:: .box 6 0:: .dead:: .dead:: .own 600009 Y21 75 true:: .own 600010 Y17 126 true::pI::dz 65 []),[(5,false,[.pv Y2,.pv Y4]),(6,false,[pI,pS,.pv (.sl .str),pI,pI,.pv (.sl .q)])]⟩
def jCf :Sh:=⟨dz 3 (pI:: .dead:: .box 5 0:: .box 6 0:: .dead:: .dead:: .own 600009 Y21 75 true:: .own 600010 Y17 126 true::pI::pI:: .pv Y21:: .own 600014 tI 3 true::pI::dz 61 []),[(5,false,[.pv Y2,.pv Y4]),(6,false,[pI,pS,.pv (.sl .str),pI,pI,.pv (.sl .q)])]⟩
def jyf (G:List Z0) (ad:List Z4) (H:List Z1) (aa:List Z2) (S:Int) (U:List UInt8) (y:List Z0) (T:Int) (L:Int) (Q:List DQ) (K:Int):Option (Z16):=
 (oB (jxS N y ([32]:List UInt8)) fun I=>oB (ja5 N G ad I) fun V=>iter (fun P (D,z,f,b,C,A,W,E,R,ac,O,ae)=>bif decide (b<(f.length:Int))then oB (idx f b) fun m=>(oB (idx f 0) fun r=>if fits (m.2-r.2)then if fits ((m.2-r.2)-b)then oB (idx f b) fun af=>(oB (s_l12At_m N C A E af.1 D) fun X=>iter (fun B (j,i,n,h,c,e,d,a,v,k,x,p,w,q,t,u)=>bif decide (a<(e.length:Int))then oB (idx e a) fun ab=>(bif decide (c<=ab)then oB (idx e a) fun o=>(if fits (o-c)then if room d.length ([(o-c)]:List Int).length 8 then if fits (a+1)then B (j,i,n,h,c,e,(d++([(o-c)]:List Int)),(a+1),v,k,x,p,w,q,t,u)else none else none else none)else if fits (a+1)then B (j,i,n,h,c,e,d,(a+1),v,k,x,p,w,q,t,u)else none)else if room i.length ([d]:List (List Int)).length 24 then if fits (h+1)then P (j,(i++([d]:List (List Int))),n,(h+1),v,k,x,p,w,q,t,u)else none else none) N (D,z,f,b,((m.2-r.2)-b),X,([]:List Int),(0:Int),C,A,W,E,R,ac,O,ae))else none else none)else some z) N (K,([]:List (List Int)),V,(0:Int),H,aa,S,U,y,T,L,Q))
theorem jCm :mK 204 (bX [.agg [.pv (.sl .str),.pv Y16],.agg [.pv Y2,.pv Y4],.agg [pI,pS,.pv (.sl .str),pI,pI,.pv (.sl .q)],pI] [.own 1 Y21 75 true] (c11A (jyf N))):=
 mO (fC (jAy N) (fC (jiO N) (fC (jn1 N) ja))) func204 rfl N (.seq .no (.seq .no (.seq .no (.seq (.seq .no (.block (.loop jB2 (.seq .no (.seq (.block (.seq .no (.seq .no (.seq .no (.seq (.seq .no (.block (.loop jCf .no))) .no))))) .no))))) .no)))) _
def jBI :Sh:=⟨.pv (.sl Y21)::pI::pI::pI::pI::dz 6 (pI::dz 46 []),[]⟩
def jxJ (N:Nat):(D:Nat)->Z16->Int->Int->Int->Int->Z9
 |0,_,_,_,_,_=>none
 |D+1,lists,k,last,start,slop=>
 bif decide (k=(lists.length:Int))then
 if fits (last-start)then if fits ((lists.length:Int)-1)then if fits ((last-start)-((lists.length:Int)-1))then some (decide (((last-start)-((lists.length:Int)-1))<=slop))else none else none else none
 else
 iter (fun go (g:Z16×Int×Int×Int×Int×Int)=>
 match g with
 |(lists2,k2,last2,start2,slop2,i)=>
 oB (idx lists2 k2) fun e=>
 bif decide (i<(e.length:Int))then
 oB (idx lists2 k2) fun e2=>
 (oB (idx e2 i) fun e3=>
 bif decide (last2<e3)then
 if fits (k2+1)then oB (idx lists2 k2) fun e4=>
 (oB (idx e4 i) fun e5=>
 oB (jxJ N D lists2 (k2+1) e5 start2 slop2) fun r=>
 bif r then
 some true
 else
 if fits (i+1)then go (lists2,k2,last2,start2,slop2,(i+1))else none)else none
 else
 if fits (i+1)then go (lists2,k2,last2,start2,slop2,(i+1))else none)
 else
 some false) N (lists,k,last,start,slop,0)
def jyj (N D:Nat):Model:=⟨⟨[.pv (.sl Y21),pI,pI,pI,pI],[]⟩,⟨[pB],[]⟩,c5A (jxJ N D)⟩
theorem jD8 (N D:Nat) (ih:mK 267 (jyj N D)):mK 267 (jyj N (D+1)):=
 mO (fC ih ja) func267 rfl N (.seq .no (.seq .no (.seq (.seq .no (.block (.loop jBI .no))) .no))) (jyj N (D+1))
theorem jzt (N:Nat):∀D,mK 267 (jyj N D)
 |0=>modelOk_none ⟨_,func267,by decide,by kernel_rfl⟩ _ (fun a=>rfl)
 |D+1=>jD8 N D (jzt N D)
def jCF :Sh:=⟨.pv (.sl Y21)::pI::dz 3 (.own 600005 tI 3 true::pI::dz 56 []),[]⟩
def jBd :Sh:=⟨.pv (.sl Y21)::pI::dz 3 (.own 600005 tI 3 true:: .dead::pI::dz 55 []),[]⟩
def jyb (v:List (List Int)) (m:Int):Option ((List Int)):=
 (iter (fun y (c,f,l,e)=>bif decide (e<(c.length:Int))then oB (idx c e) fun x=>(oB (jx3 N x) fun t=>bif !t then some ([]:List Int)else if fits (e+1)then y (c,f,l,(e+1))else none)else oB (jJ N (c.length:Int) 1 6) fun o=>bif !o then some ([]:List Int)else oB (jJ N f 0 5) fun p=>bif !p then some ([]:List Int)else iter (fun j (b,i,d,a)=>oB (idx b 0) fun q=>bif decide (a<(q.length:Int))then oB (idx b 0) fun A=>(oB (idx A a) fun w=>oB (idx b 0) fun z=>oB (idx z a) fun u=>oB (jxJ N N b 1 w u i) fun n=>bif n then oB (idx b 0) fun r=>(oB (idx r a) fun k=>if room d.length ([k]:List Int).length 8 then if fits (a+1)then j (b,i,(d++([k]:List Int)),(a+1))else none else none)else if fits (a+1)then j (b,i,d,(a+1))else none)else some d) N (c,f,l,(0:Int))) N (v,m,([]:List Int),(0:Int)))
theorem jAW :mK 205 (bX [.pv (.sl Y21),pI] [.own 1 tI 3 true] (c2A (jyb N))):=
 mO (fC (jC9 N) (fC (jcL N) (fC (jzt N N) ja))) func205 rfl N (.seq .no (.seq .no (.seq (.seq .no (.block (.loop jCF .no))) (.seq .no (.seq (.seq .no (.block (.loop jBd .no))) .no))))) _
def jCQ :Sh:=⟨dz 3 (pI:: .dead:: .box 5 0:: .box 6 0::dz 3 (pI::pI:: .own 600012 Y17 126 true::pI::dz 41 [])),[(5,false,[.pv Y2,.pv Y4]),(6,false,[pI,pS,.pv (.sl .str),pI,pI,.pv (.sl .q)])]⟩
def jCS :Sh:=⟨dz 3 (pI:: .box 4 0:: .box 5 0:: .box 6 0::dz 3 (pI::dz 44 [])),[(4,false,[.pv (.sl .str),.pv Y16]),(5,false,[.pv Y2,.pv Y4]),(6,false,[pI,pS,.pv (.sl .str),pI,pI,.pv (.sl .q)])]⟩
def jx2 (d:List Z0) (q:List Z4) (f:List Z1) (o:List Z2) (m:Int) (n:List UInt8) (e:List Z0) (b:Int) (k:Int) (l:List DQ) (h:Int):Z13:=
 (oB (jyf N d q f o m n e b k l h) fun r=>bif decide ((r.length:Int)=0)then some 0 else oB (jyb N r b) fun z=>meet (fun(j:Int×Int×(List Z0)×(List Z4)×(List Z1)×(List Z2)×Int×Z0×(List Z0)×Int×Int×(List DQ))=>match j with|(P,B,I,H,L,G,Q,R,y,T,D,W)=>oB (jxS N y ([32]:List UInt8)) fun S=>oB (ja5 N I H S) fun O=>iter (fun E (t,i,c,p,a,A,u,aa,x,X,K,U,V)=>bif decide (a<(p.length:Int))then oB (idx p a) fun C=>(oB (s_l12Points_m N A u x C.1 t) fun v=>if fits (c+v)then if fits (a+1)then E (t,i,(c+v),p,(a+1),A,u,aa,x,X,K,U,V)else none else none)else if fits (c*i)then some (c*i)else none) N (P,B,(0:Int),O,(0:Int),L,G,Q,R,y,T,D,W)) fun w=>bif decide ((3:Int)<z.length)then w (h,3,d,q,f,o,m,n,e,b,k,l)else w (h,(z.length:Int),d,q,f,o,m,n,e,b,k,l))
theorem jAL :mK 148 (bX [.agg [.pv (.sl .str),.pv Y16],.agg [.pv Y2,.pv Y4],.agg [pI,pS,.pv (.sl .str),pI,pI,.pv (.sl .q)],pI] [pI] (c11A (jx2 N))):=
 mO (fC (jCm N) (fC (jAW N) (fC (jAy N) (fC (jiO N) (fC (jrZ N) ja))))) func148 rfl N (.seq .no (.seq .no (.seq .no (.seq .no (.meet jCS .no (.seq .no (.seq .no (.seq (.seq .no (.block (.loop jCQ .no))) .no)))))))) _
def s_l5Min_m (N:Nat) (b:Int) (a:Int):Z13:=
 (bif decide (b<a)then some b else some a)
theorem jDQ :mK 268 (bX [pI,pI] [pI] (c2A (s_l5Min_m N))):=
 mO ja func268 rfl N .no _
def jCw :Sh:=⟨pS::pS::dz 3 (.mtk 600005 tI 3 true::pI::dz 74 []),[]⟩
def jDJ :Sh:=⟨pS::pS::dz 3 (.mtk 600005 tI 3 true:: .dead::pI::dz 73 []),[]⟩
def jDM :Sh:=⟨pS::pS::dz 3 (.mtk 600005 tI 3 true:: .dead::pI::pI::pI::dz 71 []),[]⟩
def jBZ :Sh:=⟨pS::pS::dz 3 (.mtk 600005 tI 3 true:: .dead::pI:: .dead::pI::pI::dz 70 []),[]⟩
def s_l5Far_m (L:List UInt8) (c:List UInt8):Z13:=
 (if fits ((c.length:Int)+1)then if((c.length:Int)+1)=((c.length:Int)+1)/\0<=((c.length:Int)+1)/\((c.length:Int)+1)*8<=140737488355328/\((c.length:Int)+1)<=140737488355328 then iter (fun z (v,o,n,d)=>bif decide (d<=(o.length:Int))then if 0<=d/\d<(n.length:Int)then oB (n[d.toNat]?) fun Q=>(if fits (d+1)then z (v,o,(n.set d.toNat d),(d+1))else none)else none else iter (fun B (t,j,f,k)=>bif decide (k<(t.length:Int))then if 0<=(0:Int)/\(0:Int)<f.length then oB (f[(0:Int).toNat]?) fun I=>(if fits (k+1)then if 0<=(0:Int)/\(0:Int)<f.length then oB (f[(0:Int).toNat]?) fun S=>(iter (fun C (m,i,p,h,q,l)=>bif decide (l<(i.length:Int))then meet (fun(e:Z17)=>match e with|(D,P,b,H,a,G)=>if fits (a+1)then if 0<=(a+1)/\(a+1)<(b.length:Int)then oB (b[(a+1).toNat]?) fun K=>(if fits (a+1)then if 0<=a/\a<(b.length:Int)then oB (b[a.toNat]?) fun A=>(if fits (a+1)then if 0<=(a+1)/\(a+1)<(b.length:Int)then oB (b[(a+1).toNat]?) fun x=>(oB (s_l5Min_m N A x) fun r=>if fits (r+1)then oB (s_l5Min_m N G (r+1)) fun E=>(if 0<=(a+1)/\(a+1)<(b.length:Int)then oB (b[(a+1).toNat]?) fun R=>(if fits (a+1)then C (D,P,(b.set (a+1).toNat E),H,K,(a+1))else none)else none)else none)else none else none)else none else none)else none else none) fun u=>(oB (idx m h) fun w=>oB (idx i l) fun O=>bif !decide ((w.toNat:Int)=(O.toNat:Int))then if fits (q+1)then u (m,i,p,h,l,(q+1))else none else u (m,i,p,h,l,q))else if fits (h+1)then B (m,i,p,(h+1))else none) N (t,j,(f.set (0:Int).toNat (k+1)),k,I,(0:Int)))else none else none)else none else if 0<=(j.length:Int)/\(j.length:Int)<(f.length:Int)then oB (f[(j.length:Int).toNat]?) fun y=>(some y)else none) N (v,o,n,(0:Int))) N (L,c,(List.replicate ((c.length:Int)+1).toNat 0),(0:Int))else none else none)
theorem jBt :mK 207 (bX [pS,pS] [pI] (c2A (s_l5Far_m N))):=
 mO (fC (jDQ N) ja) func207 rfl N (.seq .no (.seq .no (.seq (.seq .no (.block (.loop jCw .no))) (.seq (.seq .no (.block (.loop jDJ (.seq .no (.seq (.block (.seq .no (.seq .no (.seq .no (.block (.loop jDM (.seq .no (.seq (.block (.seq .no (.meet jBZ .no .no))) .no)))))))) .no))))) .no)))) _ (wr:=[14])
def jC5 :Sh:=⟨.dead:: .dead::pI:: .box 3 0:: .box 4 0:: .dead:: .dead::pI::pI::dz 49 [],[(3,false,[.pv Y2,.pv Y4]),(4,false,[pI,pS,.pv (.sl .str),pI,pI,.pv (.sl .q)])]⟩
def jx5 (w:List Z1) (v:List Z2) (q:Int) (t:List UInt8) (u:List Z0) (r:Int) (z:Int) (B:List DQ) (y:Int):Z13:=
 (iter (fun n (f,i,a,e,b,l,c,j,h,m,o)=>bif decide (a<(b.length:Int))then oB (idx b a) fun p=>(oB (idx j 0) fun x=>oB (s_l5Far_m N p.2.1 x) fun d=>bif !decide (p.1=c)then if fits (a+1)then n (f,i,(a+1),e,b,l,c,j,h,m,o)else none else bif decide (h<d)then if fits (a+1)then n (f,i,(a+1),e,b,l,c,j,h,m,o)else none else oB (s_l12Points_m N e b c p.2.1 f) fun k=>if fits (3-d)then if fits (k*(3-d))then if 3≠0 then if fits ((k*(3-d)).tdiv 3)then bif decide (i<((k*(3-d)).tdiv 3))then if fits (a+1)then n (f,((k*(3-d)).tdiv 3),(a+1),e,b,l,c,j,h,m,o)else none else(if fits (a+1)then n (f,i,(a+1),e,b,l,c,j,h,m,o)else none)else none else none else none else none)else some i) N (y,(0:Int),(0:Int),w,v,q,t,u,r,z,B))
theorem jCb :mK 149 (bX [.agg [.pv Y2,.pv Y4],.agg [pI,pS,.pv (.sl .str),pI,pI,.pv (.sl .q)],pI] [pI] (c9A (jx5 N))):=
 mO (fC (jBt N) (fC (jrZ N) ja)) func149 rfl N (.seq .no (.seq .no (.seq (.seq .no (.block (.loop jC5 .no))) .no))) _
def jxB (N:Nat):(D:Nat)->Z0->Z0->Z9
 |0,_,_=>none
 |D+1,p,s=>
 bif decide (p=([]:List UInt8))then
 some (decide (s=([]:List UInt8)))
 else
 oB (idx p 0) fun c=>
 bif decide ((c.toNat:Int)=42)then
 oB (cut p 1 (p.length:Int)) fun y=>
 (oB (jxB N D y s) fun r=>
 bif r then
 some true
 else
 bif !decide (s=([]:List UInt8))then
 oB (cut s 1 (s.length:Int)) fun y2=>
 (oB (jxB N D p y2) fun r2=>
 some r2)
 else
 some false)
 else
 bif !decide (s=([]:List UInt8))then
 oB (idx p 0) fun c2=>
 (bif decide ((c2.toNat:Int)=63)then
 oB (cut p 1 (p.length:Int)) fun y3=>
 (oB (cut s 1 (s.length:Int)) fun y4=>
 oB (jxB N D y3 y4) fun r3=>
 some r3)
 else
 oB (idx p 0) fun c3=>
 oB (idx s 0) fun c4=>
 bif decide ((c3.toNat:Int)=(c4.toNat:Int))then
 oB (cut p 1 (p.length:Int)) fun y5=>
 (oB (cut s 1 (s.length:Int)) fun y6=>
 oB (jxB N D y5 y6) fun r4=>
 some r4)
 else
 some false)
 else
 some false
def jyr (N D:Nat):Model:=⟨⟨[pS,pS],[]⟩,⟨[pB],[]⟩,c2A (jxB N D)⟩
theorem jDg (N D:Nat) (ih:mK 208 (jyr N D)):mK 208 (jyr N (D+1)):=
 mO (fC ih ja) func208 rfl N .no (jyr N (D+1))
theorem jzM (N:Nat):∀D,mK 208 (jyr N D)
 |0=>modelOk_none ⟨_,func208,by decide,by kernel_rfl⟩ _ (fun a=>rfl)
 |D+1=>jDg N D (jzM N D)
def jBi :Sh:=⟨.dead:: .dead::pI:: .box 3 0:: .box 4 0:: .dead:: .dead::pI::dz 38 [],[(3,false,[.pv Y2,.pv Y4]),(4,false,[pI,pS,.pv (.sl .str),pI,pI,.pv (.sl .q)])]⟩
def jyd (u:List Z1) (t:List Z2) (n:Int) (p:List UInt8) (r:List Z0) (o:Int) (y:Int) (A:List DQ) (x:Int):Z9:=
 (iter (fun l (e,a,d,b,h,c,f,i,k,m)=>bif decide (a<(b.length:Int))then oB (idx b a) fun j=>(bif decide (j.1=c)then oB (idx f 0) fun v=>(oB (jxB N N v j.2.1) fun w=>bif w then oB (s_l12At_m N d b c j.2.1 e) fun q=>(bif decide ((0:Int)<q.length)then some true else if fits (a+1)then l (e,(a+1),d,b,h,c,f,i,k,m)else none)else if fits (a+1)then l (e,(a+1),d,b,h,c,f,i,k,m)else none)else if fits (a+1)then l (e,(a+1),d,b,h,c,f,i,k,m)else none)else some false) N (x,(0:Int),u,t,n,p,r,o,y,A))
theorem jCi :mK 151 (bX [.agg [.pv Y2,.pv Y4],.agg [pI,pS,.pv (.sl .str),pI,pI,.pv (.sl .q)],pI] [pB] (c9A (jyd N))):=
 mO (fC (jzM N N) (fC (jn1 N) ja)) func151 rfl N (.seq .no (.seq (.seq .no (.block (.loop jBi .no))) .no)) _
def jyV (N:Nat) (a:Bool):Z13:=
 (bif a then some 100 else some 0)
theorem jCo :mK 150 (bX [pB] [pI] (c1A (jyV N))):=
 mO ja func150 rfl N .no _
def jym (j:Int) (m:Z14) (e:Z8) (l:List UInt8):Z13:=
 (iter (fun k (c,a,i,d,b)=>bif decide (a<(b.length:Int))then oB (idx b a) fun h=>(bif decide (h.1=c)then oB (idx b a) fun n=>(some n.2)else if fits (a+1)then k (c,(a+1),i,d,b)else none)else some (-1)) N (l,(0:Int),j,m,e))
theorem jDS :mK 152 (bX [.agg [pI,.pv Y19,.pv Y15],pS] [pI] (c4A (jym N))):=
 mO ja func152 rfl N (.seq .no (.seq (.seq .no (.block (.loop jl8 .no))) .no)) _
def jDX :Sh:=⟨dz 3 (pI:: .box 4 0:: .box 5 0:: .box 6 0:: .dead:: .dead::pI::pI::dz 111 []),[(4,false,[.pv (.sl .str),.pv Y16]),(5,false,[.pv Y2,.pv Y4]),(6,false,[pI,pS,.pv (.sl .str),pI,pI,.pv (.sl .q)])]⟩
def s_l12Score_m (N:Nat):(D:Nat)->(List Z0)->(List Z4)->(List Z1)->(List Z2)->Int->Z0->(List Z0)->Int->Int->(List DQ)->Int->Z13
 |0,_,_,_,_,_,_,_,_,_,_,_=>none
 |D+1,c,c2,s,s2,q,q2,q3,q4,q5,q6,id=>
 bif decide (q=1)then
 some 100
 else
 bif decide (q=2)then
 oB (idx q3 0) fun e=>
 (oB (jyC N c c2 e) fun r=>
 oB (s_l12Points_m N s s2 q2 r id) fun r2=>
 some r2)
 else
 bif decide (q=3)then
 oB (jx2 N c c2 s s2 q q2 q3 q4 q5 q6 id) fun r3=>
 (some r3)
 else
 bif decide (q=4)then
 oB (jx5 N s s2 q q2 q3 q4 q5 q6 id) fun r4=>
 (some r4)
 else
 bif decide (q=5)then
 oB (jyd N s s2 q q2 q3 q4 q5 q6 id) fun r5=>
 (oB (jyV N r5) fun r6=>
 some r6)
 else
 bif decide (q=6)then
 oB (jyv N s s2 id) fun r7=>
 (oB (jym N r7.1 r7.2.1 r7.2.2 q2) fun r8=>
 oB (jJ N r8 q4 q5) fun r9=>
 oB (jyV N r9) fun r10=>
 some r10)
 else
 bif decide (q=10)then
 oB (idx q6 0) fun e2=>
 (oB (s_l12Score_m N D c c2 s s2 e2.kind e2.field e2.words e2.lo e2.hi e2.kids id) fun r11=>
 if fits (q4*r11)then some (q4*r11)else none)
 else
 bif decide (q=9)then
 oB (idx q6 1) fun e3=>
 (oB (s_l12Score_m N D c c2 s s2 e3.kind e3.field e3.words e3.lo e3.hi e3.kids id) fun r12=>
 bif decide ((0:Int)<r12)then
 some 0
 else
 oB (idx q6 0) fun e4=>
 oB (s_l12Score_m N D c c2 s s2 e4.kind e4.field e4.words e4.lo e4.hi e4.kids id) fun r13=>
 some r13)
 else
 iter (fun go (g:Int×Int×Int×(List Z0)×(List Z4)×(List Z1)×(List Z2)×Int×Z0×(List Z0)×Int×Int×(List DQ))=>
 match g with
 |(id2,sum,i,c3,c4,s3,s4,q7,q8,q9,q10,q11,q12)=>
 bif decide (i<(q12.length:Int))then
 oB (idx q12 i) fun e5=>
 (oB (s_l12Score_m N D c3 c4 s3 s4 e5.kind e5.field e5.words e5.lo e5.hi e5.kids id2) fun r14=>
 bif decide (r14=0)then
 bif decide (q7=7)then
 some 0
 else
 (if fits (sum+r14)then if fits (i+1)then go (id2,(sum+r14),(i+1),c3,c4,s3,s4,q7,q8,q9,q10,q11,q12)else none else none)
 else
 if fits (sum+r14)then if fits (i+1)then go (id2,(sum+r14),(i+1),c3,c4,s3,s4,q7,q8,q9,q10,q11,q12)else none else none)
 else
 some sum) N (id,0,0,c,c2,s,s2,q,q2,q3,q4,q5,q6)
def jyz (N D:Nat):Model:=⟨⟨[.agg [.pv (.sl .str),.pv Y16],.agg [.pv Y2,.pv Y4],.agg [pI,pS,.pv (.sl .str),pI,pI,.pv (.sl .q)],pI],[]⟩,⟨[pI],[]⟩,c11A (s_l12Score_m N D)⟩
theorem jBH (N D:Nat) (ih:mK 84 (jyz N D)):mK 84 (jyz N (D+1)):=
 mO (fC ih (fC (jCy N) (fC (jrZ N) (fC (jAL N) (fC (jCb N) (fC (jCi N) (fC (jCo N) (fC (jDn N) (fC (jDS N) (fC (jcL N) ja)))))))))) func84 rfl N (.seq .no (.seq .no (.seq .no (.seq (.seq .no (.block (.loop jDX .no))) .no)))) (jyz N (D+1))
theorem jz7 (N:Nat):∀D,mK 84 (jyz N D)
 |0=>modelOk_none ⟨_,func84,by decide,by kernel_rfl⟩ _ (fun a=>rfl)
 |D+1=>jBH N D (jz7 N D)
def s_l30AnyQuery_m (f:List Int) (e:Int):Option (Int×Z0×(List Z0)×Int×Int×(List DQ)×(List Int)×Int):=
 (oB (s_l30Query_m N N 3 f e) fun a=>oB (jtW N 16 a.2.2.2.2.2.2.1 a.2.2.2.2.2.2.2) fun b=>bif decide (b.1=0)then oB (s_l30Rd_one_m N ([0,11,7]:List Int) b.2.1 b.2.2) fun d=>(some (d.1,a.2.1,a.2.2.1,a.2.2.2.1,a.2.2.2.2.1,a.2.2.2.2.2.1,d.2.1,d.2.2))else bif decide (b.1=1)then oB (s_l30Rd_one_m N ([(-1),10,1]:List Int) b.2.1 b.2.2) fun c=>(some (a.1,a.2.1,a.2.2.1,c.1,a.2.2.2.2.1,a.2.2.2.2.2.1,c.2.1,c.2.2))else bif decide (b.1=2)then if room a.2.2.1.length ([([66,97,100]:List UInt8)]:List Z0).length 16 then some (a.1,a.2.1,(a.2.2.1++([([66,97,100]:List UInt8)]:List Z0)),a.2.2.2.1,a.2.2.2.2.1,a.2.2.2.2.2.1,b.2.1,b.2.2)else none else bif decide (b.1=3)then if room ([(DQ.mk a.1 a.2.1 a.2.2.1 a.2.2.2.1 a.2.2.2.2.1 a.2.2.2.2.2.1)]:List DQ).length a.2.2.2.2.2.1.length 88 then some (a.1,a.2.1,a.2.2.1,a.2.2.2.1,a.2.2.2.2.1,(([(DQ.mk a.1 a.2.1 a.2.2.1 a.2.2.2.1 a.2.2.2.2.1 a.2.2.2.2.2.1)]:List DQ)++a.2.2.2.2.2.1),b.2.1,b.2.2)else none else some (a.1,a.2.1,a.2.2.1,a.2.2.2.1,a.2.2.2.2.1,a.2.2.2.2.2.1,b.2.1,b.2.2))
theorem jGf :mK 99 ⟨⟨[.box 900000 0],[(900000,false,[.pv (.sl (.int .u8)),pI])]⟩,⟨[.agg [pI,pS,.pv (.sl .str),pI,pI,.own 1 .q 38 false]],[(900000,false,[.pv (.sl (.int .u8)),pI])]⟩,c2A (s_l30AnyQuery_m N)⟩:=
 mO (fC (jE7 N N) (fC (jtX N) (fC (juA N) ja))) func99 rfl N .no _ (rs:=[900000])
def jEp :Sh:=⟨dz 7 (.own 600007 tI 3 true::dz 6 (.own 600014 Y14 90 true::pI::pI::dz 10 [])),[]⟩
def i_MatchOf_m (i:List Z0) (r:List Z4) (n:List Z1) (m:List Z2) (h:Int) (k:List UInt8) (l:List Z0) (j:Int) (o:Int) (t:List DQ):Option ((List Int)):=
 (oB (i_scores_m N i r n m h k l j o t) fun e=>iter (fun q (b,c,d,a)=>bif decide (a<d)then oB (idx c a) fun f=>(if room b.length ([f.1]:List Int).length 8 then if fits (a+1)then q ((b++([f.1]:List Int)),c,d,(a+1))else none else none)else some b) N (([]:List Int),e,(e.length:Int),(0:Int)))
theorem jEl :mK 35 (bX [.agg [.pv (.sl .str),.pv Y16],.agg [.pv Y2,.pv Y4],.agg [pI,pS,.pv (.sl .str),pI,pI,.pv (.sl .q)]] [.own 1 tI 3 true] (c10A (i_MatchOf_m N))):=
 mO (fC (jBc N) ja) func35 rfl N (.seq .no (.seq .no (.seq (.seq .no (.block (.loop jEp .no))) .no))) _
def s_l30Seg_m (e:List Int) (d:Int):Option ((List Z0)×(List Z4)×(List Z1)×(List Z2)×(List Int)×Int):=
 (oB (s_l30Conf_m N e d) fun a=>oB (s_l30Docs_m N a.2.2.1 a.2.2.2) fun b=>oB (s_l7Of_m N a.1 a.2.1 b.1) fun c=>some (a.1,a.2.1,c.1,c.2,b.2.1,b.2.2))
theorem jvc :mK 163 ⟨⟨[.box 900000 0],[(900000,false,[.pv (.sl (.int .u8)),pI])]⟩,⟨[.tup [.agg [.own 1 .str 9 true,.own 2 Y18 117 true],.agg [.tre 3 Y3 51,.tre 4 Y5 131]]],[(900000,false,[.pv (.sl (.int .u8)),pI])]⟩,c2A (s_l30Seg_m N)⟩:=
 mO (fC (jva N) (fC (juO N) (fC (jmU N) ja))) func163 rfl N .no _ (rs:=[900000]) (dw:=[11])
def s_l30AnySeg_m (h:List Int) (f:Int):Option ((List Z0)×(List Z4)×(List Z1)×(List Z2)×(List Int)×Int):=
 (oB (s_l30Seg_m N h f) fun a=>bif decide ((0:Int)<a.2.2.2.1.length)then oB (jtW N (a.2.2.2.1.length:Int) a.2.2.2.2.1 a.2.2.2.2.2) fun c=>(oB (jtW N 16 c.2.1 c.2.2) fun b=>bif decide (b.1=0)then if 0<=c.1/\c.1<(a.2.2.2.1.length:Int)then oB (a.2.2.2.1[c.1.toNat]?) fun d=>(some (a.1,a.2.1,a.2.2.1,(a.2.2.2.1.set c.1.toNat (d.1,([122,122,122]:List UInt8),d.2.2)),b.2.1,b.2.2))else none else bif decide (b.1=1)then if 0<=c.1/\c.1<(a.2.2.2.1.length:Int)then oB (a.2.2.2.1[c.1.toNat]?) fun e=>(if room a.2.2.2.1.length ([e]:List Z2).length 56 then some (a.1,a.2.1,a.2.2.1,(a.2.2.2.1++([e]:List Z2)),b.2.1,b.2.2)else none)else none else bif decide (b.1=2)then oB (cut a.2.2.1 1 (a.2.2.1.length:Int)) fun i=>(some (a.1,a.2.1,i,a.2.2.2.1,b.2.1,b.2.2))else some (a.1,a.2.1,a.2.2.1,a.2.2.2.1,b.2.1,b.2.2))else some (a.1,a.2.1,a.2.2.1,a.2.2.2.1,a.2.2.2.2.1,a.2.2.2.2.2))
theorem juW :mK 97 ⟨⟨[.box 900000 0],[(900000,false,[.pv (.sl (.int .u8)),pI])]⟩,⟨[.tup [.agg [.own 1 .str 9 true,.own 2 Y18 117 true],.agg [.pv Y2,.own 3 Y5 131 false]]],[(900000,false,[.pv (.sl (.int .u8)),pI])]⟩,c2A (s_l30AnySeg_m N)⟩:=
 mO (fC (jvc N) (fC (jtX N) ja)) func97 rfl N (.seq .no (.seq .no (.seq (.seq (.touch [.thaw 5 0,.thaw 5 1]) .no) .no))) _ (wr:=[39,40,46]) (rs:=[900000])
def s_DrawMatchOf_m (f:List Int):Option ((List Z0)×(List Z4)×(List Z1)×(List Z2)×Int×Z0×(List Z0)×Int×Int×(List DQ)):=
 (oB (jt0 N f) fun e=>oB (s_l30AnySeg_m N e.1 e.2) fun a=>oB (jtW N 10 a.2.2.2.2.1 a.2.2.2.2.2) fun d=>bif decide (d.1=0)then oB (s_l30AnyQuery_m N d.2.1 d.2.2) fun b=>(some (a.1,a.2.1,a.2.2.1,a.2.2.2.1,b.1,b.2.1,b.2.2.1,b.2.2.2.1,b.2.2.2.2.1,b.2.2.2.2.2.1))else oB (s_l30Query_m N N 3 d.2.1 d.2.2) fun c=>some (a.1,a.2.1,a.2.2.1,a.2.2.2.1,c.1,c.2.1,c.2.2.1,c.2.2.2.1,c.2.2.2.2.1,c.2.2.2.2.2.1))
theorem jSk :mK 37 (bX [.pv (.sl (.int .u8))] [.tup [.agg [.own 1 .str 9 true,.own 2 Y18 117 true],.agg [.pv Y2,.own 3 Y5 131 false],.agg [pI,pS,.pv (.sl .str),pI,pI,.own 4 .q 38 false]]] (c1A (s_DrawMatchOf_m N))):=
 mO (fC (juQ N) (fC (juW N) (fC (jtX N) (fC (jGf N) (fC (jE7 N N) ja))))) func37 rfl N .no _
def jEo :Sh:=⟨dz 3 (.box 3 0:: .box 4 0:: .box 5 0:: .dead:: .own 600007 tI 3 true::pI::dz 39 []),[(3,false,[.pv (.sl .str),.pv Y16]),(4,false,[.pv Y2,.pv Y4]),(5,false,[pI,pS,.pv (.sl .str),pI,pI,.pv (.sl .q)])]⟩
def s_MatchOf_m (o:List Z0) (y:List Z4) (v:List Z1) (u:List Z2) (n:Int) (q:List UInt8) (r:List Z0) (p:Int) (w:Int) (z:List DQ):Option ((List Int)):=
 (oB (s_l7Ok_m N o y v u) fun C=>bif !C then some ([]:List Int)else oB (s_l11Ok_m N n q r p w z) fun A=>bif !A then some ([]:List Int)else iter (fun x (c,a,f,e,b,d,h,i,m,j,k,l)=>bif decide (a<(b.length:Int))then oB (idx b a) fun E=>(oB (s_l12Score_m N N f e b d h i m j k l E.1) fun B=>bif decide ((0:Int)<B)then oB (idx b a) fun t=>(if room c.length ([t.1]:List Int).length 8 then if fits (a+1)then x ((c++([t.1]:List Int)),(a+1),f,e,b,d,h,i,m,j,k,l)else none else none)else if fits (a+1)then x (c,(a+1),f,e,b,d,h,i,m,j,k,l)else none)else some c) N (([]:List Int),(0:Int),o,y,v,u,n,q,r,p,w,z))
theorem jEs :mK 39 (bX [.agg [.pv (.sl .str),.pv Y16],.agg [.pv Y2,.pv Y4],.agg [pI,pS,.pv (.sl .str),pI,pI,.pv (.sl .q)]] [.own 1 tI 3 true] (c10A (s_MatchOf_m N))):=
 mO (fC (jpm N) (fC (jBX N) (fC (jz7 N N) ja))) func39 rfl N (.seq .no (.seq .no (.seq .no (.seq (.seq .no (.block (.loop jEo .no))) .no)))) _
def i_hasDoc_1_m (N:Nat) (a:Int) (c:Int) (b:Int):Z9:=
 (some (decide (a=b)))
theorem jwE :mK 234 (bX [.agg [pI,pI],.ptr tI] [pB] (c3A (i_hasDoc_1_m N))):=
 mO ja func234 rfl N .no _
def jwa :Sh:=⟨.pv Y13:: .clo 234 [.ptr tI]::dz 5 (pI::pI::dz 10 []),[]⟩
def k_slices_IndexFunc_200_m (f:Z6) (k:Int):Z13:=
 (iter (fun i (e,b,c,a)=>bif decide (a<c)then oB (idx e a) fun d=>(oB (i_hasDoc_1_m N d.1 d.2 b) fun j=>bif j then some a else if fits (a+1)then i (e,b,c,(a+1))else none)else some (-1)) N (f,k,(f.length:Int),(0:Int)))
theorem jwl :mK 285 (bX [.pv Y13,.clo 234 [.ptr tI]] [pI] (c2A (k_slices_IndexFunc_200_m N))):=
 mO (fC (jwE N) ja) func285 rfl N (.seq .no (.seq (.seq .no (.block (.loop jwa .no))) .no)) _
def k_slices_ContainsFunc_50_m (b:Z6) (a:Int):Z9:=
 (oB (k_slices_IndexFunc_200_m N b a) fun c=>some (decide ((0:Int)<=c)))
theorem jwg :mK 233 (bX [.pv Y13,.clo 234 [.ptr tI]] [pB] (c2A (k_slices_ContainsFunc_50_m N))):=
 mO (fC (jwl N) ja) func233 rfl N .no _
def i_hasDoc_m (b:Z6) (a:Int):Z9:=
 (oB (k_slices_ContainsFunc_50_m N b a) fun c=>some c)
theorem jwB :mK 172 (bX [.pv Y13,pI] [pB] (c2A (i_hasDoc_m N))):=
 mO (fC (jwg N) ja) func172 rfl N .no _
def jw3 :Sh:=⟨.pv Y13::dz 4 (.pv Y13::pI::pI::dz 39 []),[]⟩
def i_HitsOk_m (f:Z6):Z9:=
 (iter (fun h (c,d,e,a)=>bif decide (a<e)then oB (idx d a) fun b=>(oB (jm N b.1 1 9999) fun n=>bif !n then some false else bif decide (b.2<1)then some false else oB (cut c 0 a) fun j=>oB (i_hasDoc_m N j b.1) fun l=>bif l then some false else bif decide ((0:Int)<a)then if fits (a-1)then oB (idx c (a-1)) fun i=>(oB (jx4 N i.1 i.2 b.1 b.2) fun m=>bif decide ((0:Int)<=m)then some false else if fits (a+1)then h (c,d,e,(a+1))else none)else none else if fits (a+1)then h (c,d,e,(a+1))else none)else some (decide ((c.length:Int)<=16))) N (f,f,(f.length:Int),(0:Int)))
theorem jwk :mK 109 (bX [.pv Y13] [pB] (c1A (i_HitsOk_m N))):=
 mO (fC (jY N) (fC (jwB N) (fC (jvi N) ja))) func109 rfl N (.seq .no (.seq (.seq .no (.block (.loop jw3 .no))) .no)) _
def jSA :Sh:=⟨.pv Y2:: .dead::pS::dz 4 (.own 600007 Y14 90 true:: .box 1000000024 0::dz 16 (.pv Y13::pI::pI::dz 36 [])),[(1000000024,false,[.pv (.sl (.pair tI .bool))])]⟩
def jST :Sh:=⟨.pv Y2:: .dead::pS::dz 4 (.own 600007 Y14 90 true:: .box 1000000024 0:: .dead:: .box 10 0::dz 14 (.pv Y13::pI::pI::dz 3 (.pv Y2::pI::pI::dz 30 []))),[(10,false,[pI,pI]),(1000000024,false,[.pv (.sl (.pair tI .bool))])]⟩
def i_GroupOf_m (v:List Z1) (r:Z6) (C:List UInt8):Option (Z5):=
 (oB (jbf N v) fun B=>bif !B then some ([]:Z6)else oB (i_HitsOk_m N r) fun A=>bif !A then some ([]:Z6)else iter (fun G (u,E,x,w,z,t,D)=>bif decide (t<z)then oB (idx w t) fun y=>(iter (fun n (m,h,d,j,l,f,i,k,a,b,e,c)=>bif decide (a<k)then oB (idx i a) fun o=>(oB (i_DocNum_m N o.1 o.2.1 o.2.2 h) fun p=>bif decide (o.1=b)then bif !decide (p=(-1))then bif !((mget tI .bool c p).getD false)then if room d.length ([(b,e)]:Z6).length 16 then if fits (a+1)then n (m,h,(d++([(b,e)]:Z6)),j,l,f,i,k,(a+1),b,e,(mput tI .bool c p true))else none else none else(if fits (a+1)then n (m,h,d,j,l,f,i,k,(a+1),b,e,c)else none)else(if fits (a+1)then n (m,h,d,j,l,f,i,k,(a+1),b,e,c)else none)else if fits (a+1)then n (m,h,d,j,l,f,i,k,(a+1),b,e,c)else none)else if fits (f+1)then G (m,h,d,j,l,(f+1),c)else none) N (u,E,x,w,z,t,u,(u.length:Int),(0:Int),y.1,y.2,D))else some x) N (v,C,([]:Z6),r,(r.length:Int),(0:Int),([]:List (Int×Bool))))
theorem jSH :mK 46 (bX [.pv Y2,.pv Y13,pS] [.own 1 Y14 90 true] (c3A (i_GroupOf_m N))):=
 mO (fC (jjU N) (fC (jwk N) (fC (jBQ N) ja))) func46 rfl N (.seq .no (.seq .no (.seq .no (.seq .no (.seq (.seq .no (.block (.loop jSA (.seq .no (.seq .no (.seq (.block (.seq .no (.seq .no (.block (.loop jST .no))))) .no)))))) .no))))) _
def jTe :Sh:=⟨.dead:: .pv Y21::pS::dz 4 (.own 600007 tI 3 true::dz 4 (.pv Y2::pI::pI::dz 20 [])),[]⟩
def i_selected_m (k:List Z1) (l:List Int) (o:List UInt8):Option ((List Int)):=
 (iter (fun i (e,f,b,c,h,a)=>bif decide (a<h)then oB (idx c a) fun d=>(oB (i_DocNum_m N d.1 d.2.1 d.2.2 f) fun j=>bif !decide (j=(-1))then oB (jHG N e d.1) fun n=>(bif n then if room b.length ([j]:List Int).length 8 then if fits (a+1)then i (e,f,(b++([j]:List Int)),c,h,(a+1))else none else none else if fits (a+1)then i (e,f,b,c,h,(a+1))else none)else if fits (a+1)then i (e,f,b,c,h,(a+1))else none)else some b) N (l,o,([]:List Int),k,(k.length:Int),(0:Int)))
theorem jS2 :mK 110 (bX [.pv Y2,.pv Y21,pS] [.own 1 tI 3 true] (c3A (i_selected_m N))):=
 mO (fC (jBQ N) (fC (jIT N) ja)) func110 rfl N (.seq .no (.seq .no (.seq (.seq .no (.block (.loop jTe .no))) .no))) _
def jSx (d:Int) (c:Int) (b:Int) (a:Int):Z13:=
 (oB (jxY N a c) fun h=>oB (jxY N d b) fun e=>oB (jbe N ([h,e]:List Int)) fun f=>some f)
theorem j6 :mK 112 (bX [.agg [pI,pI],.agg [pI,pI]] [pI] (c4A (jSx N))):=
 mO (fC (jpP N) (fC (jhC N) ja)) func112 rfl N .no _
def cmp484 (N:Nat):(Unit)->(Int×Int)->(Int×Int)->Option Int:=(fun(cmp:Unit) (e e2:Int×Int)=>jSx N e.1 e.2 e2.1 e2.2)
def jSS :Sh:=⟨.mtk 800000 Y14 152 true::pI::pI:: .clo 112 []::dz 4 (pI::dz 44 []),[]⟩
def jSO :Sh:=⟨.mtk 800000 Y14 152 true::pI::pI:: .clo 112 []::dz 4 (pI::pI::dz 43 []),[]⟩
def jS6 (b:Z6) (d:Int) (c:Int) (a:Unit):Option (Z5):=insG (cmp484 N) N b d c a
 
theorem jS9 :mK 235 (bX [.mtk 800000 Y14 152 true,pI,pI,.clo 112 []] [.tup [],.mtk 800000 Y14 152 true] (c4A (jS6 N))):=
 mO (fC (j6 N) ja) func235 rfl N (.seq .no (.block (.loop jSS (.seq .no (.seq (.block (.seq .no (.block (.loop jSO .no)))) .no))))) _ (rs:=[800000])
def jTs :Sh:=⟨.mtk 800000 Y14 152 true:: .dead::pI::pI:: .clo 112 []::dz 5 (pI::dz 71 []),[]⟩
def jSQ :Sh:=⟨.mtk 800000 Y14 152 true:: .dead::pI::pI:: .clo 112 []::dz 5 (pI::pI::dz 70 []),[]⟩
def jS1 (c:Z6) (e:Int) (b:Int) (a:Int) (d:Unit):Option (Z5):=siftG (cmp484 N) N c e b a d
 
theorem jTp :mK 286 (bX [.mtk 800000 Y14 152 true,pI,pI,pI,.clo 112 []] [.tup [],.mtk 800000 Y14 152 true] (c5A (jS1 N))):=
 mO (fC (j6 N) ja) func286 rfl N (.seq .no (.block (.loop jTs (.block (.seq .no (.seq .no (.meet jSQ .no .no))))))) _ (rs:=[800000])
def jS7 :Sh:=⟨.mtk 800000 Y14 152 true:: .dead:: .dead:: .clo 112 []::dz 4 (pI::pI::pI::pI::dz 48 []),[]⟩
def jTg :Sh:=⟨.mtk 800000 Y14 152 true:: .dead:: .dead:: .clo 112 []::dz 4 (pI::pI:: .dead:: .dead::pI::dz 47 []),[]⟩
def jSW (b:Z6) (d:Int) (c:Int) (a:Unit):Option (Z5):=heapG (cmp484 N) N b d c a
 
theorem jSN :mK 236 (bX [.mtk 800000 Y14 152 true,pI,pI,.clo 112 []] [.tup [],.mtk 800000 Y14 152 true] (c4A (jSW N))):=
 mO (fC (jTp N) ja) func236 rfl N (.seq .no (.seq .no (.seq .no (.seq (.seq .no (.block (.loop jS7 .no))) (.seq .no (.block (.loop jTg .no))))))) _ (rs:=[800000])
def jTb :Sh:=⟨.mtk 800000 Y14 152 true::pI::dz 6 (pI:: .box 9 0:: .pv (.int .u64)::pI::dz 55 []),[(9,false,[.pv (.int .u64)])]⟩
def jTo :Sh:=⟨.mtk 800000 Y14 152 true::pI::dz 6 (pI:: .box 9 0:: .pv (.int .u64)::pI::pI::dz 54 []),[(9,false,[.pv (.int .u64)])]⟩
def jS4 (b:Z6) (d:Int) (c:Int) (a:Unit):Option (Z5):=breakG N b d c a
 
theorem jTi :mK 237 (bX [.mtk 800000 Y14 152 true,pI,pI,.clo 112 []] [.tup [],.mtk 800000 Y14 152 true] (c4A (jS4 N))):=
 mO (fC (jhv N) (fC (jet N) ja)) func237 rfl N (.seq .no (.seq .no (.cond (.seq .no (.seq .no (.seq .no (.block (.loop jTb (.seq .no (.seq (.block (.seq .no (.meet jTo .no .no))) .no))))))) .no))) _ (rs:=[800000])
def jSJ (c:Z6) (e:Int) (d:Int) (a:Unit) (b:Int):Option (Int×Int×Z5×Int):=order2G (cmp484 N) N c e d a b
 
theorem jSV :mK 308 ⟨⟨[.mtk 800000 Y14 152 true,pI,pI,.box 900003 0,.clo 112 []],[(900003,false,[pI])]⟩,⟨[.tup [pI,pI],.mtk 800000 Y14 152 true],[(900003,false,[pI])]⟩,c5A (jSJ N)⟩:=
 mO (fC (j6 N) ja) func308 rfl N .no _ (rs:=[900003,800000])
def jTk (d:Z6) (f:Int) (e:Int) (b:Int) (a:Unit) (c:Int):Option (Int×Z5×Int):=medianG (cmp484 N) N d f e b a c
 
theorem jSw :mK 288 ⟨⟨[.mtk 800000 Y14 152 true,pI,pI,pI,.box 900004 0,.clo 112 []],[(900004,false,[pI])]⟩,⟨[pI,.mtk 800000 Y14 152 true],[(900004,false,[pI])]⟩,c6A (jTk N)⟩:=
 mO (fC (jSV N) ja) func288 rfl N .no _ (rs:=[900004,800000])
def jS5 (b:Z6) (d:Int) (a:Unit) (c:Int):Option (Int×Z5×Int):=medianAdjacentG (cmp484 N) N b d a c
 
theorem jSM :mK 287 ⟨⟨[.mtk 800000 Y14 152 true,pI,.box 900002 0,.clo 112 []],[(900002,false,[pI])]⟩,⟨[pI,.mtk 800000 Y14 152 true],[(900002,false,[pI])]⟩,c4A (jS5 N)⟩:=
 mO (fC (jSw N) ja) func287 rfl N .no _ (rs:=[900002,800000])
def jSZ :Sh:=⟨.mtk 800000 Y14 152 true:: .dead:: .dead:: .clo 112 []::dz 7 (.box 11 0::pI::pI::pI::dz 48 []),[(11,false,[pI])]⟩
def jTm :Sh:=⟨.mtk 800000 Y14 152 true::dz 10 (.box 11 0:: .dead::pI::dz 49 []),[(11,false,[pI])]⟩
def jSL (b:Z6) (d:Int) (c:Int) (a:Unit):Option (Int×Int×Z5):=choosePivotG (cmp484 N) N b d c a
 
theorem jSX :mK 238 (bX [.mtk 800000 Y14 152 true,pI,pI,.clo 112 []] [.tup [pI,pI],.mtk 800000 Y14 152 true] (c4A (jSL N))):=
 mO (fC (jSM N) (fC (jSw N) ja)) func238 rfl N (.seq .no (.seq .no (.seq .no (.seq .no (.seq .no (.seq .no (.meet jTm (.seq .no (.cond (.meet jSZ .no .no) .no)) .no))))))) _ (rs:=[800000])
def jTn :Sh:=⟨.mtk 800000 Y14 152 true::dz 7 (pI::pI::dz 24 []),[]⟩
def jSY (b:Z6) (d:Int) (c:Int) (a:Unit):Option (Z5):=reverseRangeG N b d c a
 
theorem jTa :mK 239 (bX [.mtk 800000 Y14 152 true,pI,pI,.clo 112 []] [.tup [],.mtk 800000 Y14 152 true] (c4A (jSY N))):=
 mO ja func239 rfl N (.seq .no (.seq .no (.block (.loop jTn .no)))) _ (rs:=[800000])
def j9 :Sh:=⟨.mtk 800000 Y14 152 true::pI::pI:: .clo 112 []::dz 5 (pI::pI::dz 130 []),[]⟩
def jSR :Sh:=⟨.mtk 800000 Y14 152 true::pI::pI:: .clo 112 []::dz 5 (pI::pI::pI::dz 129 []),[]⟩
def jTd :Sh:=⟨.mtk 800000 Y14 152 true::pI::pI:: .clo 112 []::dz 5 (pI::pI:: .dead::pI::dz 128 []),[]⟩
def jSC (b:Z6) (d:Int) (c:Int) (a:Unit):Option (Bool×Z5):=pisG (cmp484 N) N b d c a
 
theorem jTc :mK 240 (bX [.mtk 800000 Y14 152 true,pI,pI,.clo 112 []] [pB,.mtk 800000 Y14 152 true] (c4A (jSC N))):=
 mO (fC (j6 N) ja) func240 rfl N (.seq .no (.seq .no (.seq (.seq .no (.block (.loop j9 (.seq .no (.seq (.block (.seq (.block (.loop j9 .no)) (.seq .no (.seq .no (.seq .no (.meet j9 (.seq .no (.cond (.seq .no (.block (.loop jSR .no))) .no)) (.seq .no (.cond (.seq .no (.block (.loop jTd .no))) .no)))))))) .no))))) .no))) _ (rs:=[800000])
def jSs :Sh:=⟨.mtk 800000 Y14 152 true::pI:: .dead:: .dead:: .clo 112 []::dz 6 (pI::pI::dz 77 []),[]⟩
def jTq (b:Z6) (d:Int) (c:Int) (e:Int) (a:Unit):Option (Int×Z5):=peqG (cmp484 N) N b d c e a
 
theorem jTj :mK 241 (bX [.mtk 800000 Y14 152 true,pI,pI,pI,.clo 112 []] [pI,.mtk 800000 Y14 152 true] (c5A (jTq N))):=
 mO (fC (j6 N) ja) func241 rfl N (.seq .no (.seq .no (.seq .no (.seq (.block (.loop jSs (.block (.seq (.block (.loop jSs .no)) (.seq (.block (.loop jSs .no)) .no))))) .no)))) _ (rs:=[800000])
def j7 :Sh:=⟨.mtk 800000 Y14 152 true::pI:: .dead:: .dead:: .clo 112 []::dz 7 (pI::pI::dz 164 []),[]⟩
def jSB (b:Z6) (d:Int) (c:Int) (e:Int) (a:Unit):Option (Int×Bool×Z5):=partG (cmp484 N) N b d c e a
 
theorem jSz :mK 242 (bX [.mtk 800000 Y14 152 true,pI,pI,pI,.clo 112 []] [.tup [pI,pB],.mtk 800000 Y14 152 true] (c5A (jSB N))):=
 mO (fC (j6 N) ja) func242 rfl N (.seq .no (.seq .no (.seq .no (.seq (.block (.loop j7 .no)) (.seq (.block (.loop j7 .no)) (.seq .no (.seq .no (.seq .no (.seq .no (.seq (.block (.loop j7 (.block (.seq (.block (.loop j7 .no)) (.seq (.block (.loop j7 .no)) .no))))) .no)))))))))) _ (rs:=[800000])
def jSP :Sh:=⟨.mtk 800000 Y14 152 true::pI::pI::pI:: .clo 112 []::dz 5 (pB::pB::dz 136 []),[]⟩
def jSG :Sh:=⟨.mtk 800000 Y14 152 true::pI::pI::pI:: .clo 112 []::dz 5 (pB::pB::pI::pI::dz 134 []),[]⟩
def jTl :Sh:=⟨.mtk 800000 Y14 152 true::pI::pI::pI:: .clo 112 []::dz 5 (pB::pB::pI::pI::pI::dz 133 []),[]⟩
def jTr :Sh:=⟨.mtk 800000 Y14 152 true::pI::pI::pI:: .clo 112 []::dz 5 (pB::pB::pI::dz 135 []),[]⟩
def jSu (N D:Nat) (f:Z6) (b a limit:Int) (h:Unit):Option (Z5):=pdqG (cmp484 N) (fun d b a c=>heapG (cmp484 N) N d b a c) (fun d b a e c=>peqG (cmp484 N) N d b a e c) N D f b a limit h
 
def j8 (N D:Nat):Model:=⟨⟨[.mtk 800000 Y14 152 true,pI,pI,pI,.clo 112 []],[]⟩,⟨[.tup [],.mtk 800000 Y14 152 true],[]⟩,c5A (jSu N D)⟩
theorem jSU (N D:Nat) (ih:mK 173 (j8 N D)):mK 173 (j8 N (D+1)):=
 mO (fC ih (fC (jS9 N) (fC (jSN N) (fC (jTi N) (fC (jSX N) (fC (jTa N) (fC (jTc N) (fC (j6 N) (fC (jTj N) (fC (jSz N) ja)))))))))) func173 rfl N (.seq .no (.seq .no (.block (.loop jSP (.block (.seq .no (.seq .no (.seq .no (.meet jTr .no (.seq .no (.meet jTl .no (.meet jSG .no .no)))))))))))) (j8 N (D+1)) (rs:=[800000])
theorem jSv (N:Nat):∀D,mK 173 (j8 N D)
 |0=>modelOk_none ⟨_,func173,by decide,by kernel_rfl⟩ _ (fun a=>rfl)
 |D+1=>jSU N D (jSv N D)
def k_slices_SortFunc_484_m (a:Z6) (d:Unit):Option (Z5):=
 (oB (k_math_bits_Len_m N (IntKind.u64.wrap (a.length:Int))) fun c=>oB (jSu N N a 0 (a.length:Int) c ()) fun b=>some b)
theorem jTh :mK 111 (bX [.mtk 800000 Y14 152 true,.clo 112 []] [.tup [],.mtk 800000 Y14 152 true] (c2A (k_slices_SortFunc_484_m N))):=
 mO (fC (jda N) (fC (jSv N N) ja)) func111 rfl N .no _ (rs:=[800000])
def jSK :Sh:=⟨dz 7 (.mtk 600007 Y14 152 true:: .box 1000000023 0::dz 18 (.own 600027 tI 3 true::pI::pI::dz 24 [])),[(1000000023,false,[.pv Y13])]⟩
def jS8 :Sh:=⟨dz 7 (.mtk 600007 Y14 152 true::dz 31 (.box 2000000039 0::dz 14 [])),[(1000000023,false,[.pv Y13]),(2000000039,false,[.box 1000000023 0,pI,pI,pI])]⟩
noncomputable def i_FacetOf_m (l:List Z1) (k:List Int) (w:List UInt8):Option (Z5):=
 (oB (jbf N l) fun v=>bif !v then some ([]:Z6)else oB (jx1 N k) fun u=>bif !u then some ([]:Z6)else oB (i_selected_m N l k w) fun m=>iter (fun x (o,q,p,d,b)=>bif decide (d<p)then oB (idx q d) fun i=>(if fits (((mget tI tI b i).getD 0)+1)then if fits (d+1)then x (o,q,p,(d+1),(mput tI tI b i (((mget tI tI b i).getD 0)+1)))else none else none)else iter (fun r (f,a,e,j,y)=>if(a.length:Int)=e then bif(leftI a.length (Int.toNat j)).isEmpty then oB (k_slices_SortFunc_484_m N f ()) fun t=>(some t)else(anyOf (leftI a.length (Int.toNat j)) fun c=>if 0<((c+1:Nat):Int)/\(a.length:Int)=e then oB (a[Int.toNat ((c+1:Nat):Int)-1]?) fun n=>(if room f.length ([n]:Z6).length 16 then r ((f++([n]:Z6)),a,e,((Int.toNat j|||2^c:Nat):Int),((c+1:Nat):Int))else none)else none)else none) N (o,b,(b.length:Int),(0:Int),(0:Int))) N (([]:Z6),m,(m.length:Int),(0:Int),([]:Z6)))
theorem jSy :mK 47 (bX [.pv Y2,.pv Y21,pS] [.own 1 Y14 152 true] (c3A (i_FacetOf_m N))):=
 mO (fC (jjU N) (fC (jAN N) (fC (jS2 N) (fC (jTh N) ja)))) func47 rfl N (.seq .no (.seq .no (.seq .no (.seq .no (.seq (.seq .no (.block (.loop jSK .no))) (.seq (.seq .no (.block (.loop jS8 .no))) .no)))))) _ (wr:=[13,49,50])
def jSD :Sh:=⟨.pv Y2::pI:: .dead:: .dead:: .box 4 0::pI::dz 18 [],[(4,false,[pI,.nils,.nils])]⟩
def l_foFind_m (f:List Z1) (e:Int):Option Z1:=
 (iter (fun k (b,d,a,h)=>bif decide (a<(b.length:Int))then oB (idx b a) fun j=>(bif decide (j.1=d)then oB (idx b a) fun c=>(some (c.1,c.2.1,c.2.2))else if fits (a+1)then k (b,d,(a+1),h)else none)else some (0,([]:Z14),([]:Z8))) N (f,e,(0:Int),(0:Int)))
theorem jTf :mK 49 (bX [.pv Y2,pI] [.agg [pI,.pv Y19,.pv Y15]] (c2A (l_foFind_m N))):=
 mO ja func49 rfl N (.seq .no (.seq (.seq .no (.block (.loop jSD .no))) .no)) _
def jS0 :Sh:=⟨dz 4 (.box 4 0::dz 3 (.own 600008 Y14 90 true:: .own 600009 Y14 152 true::pI::dz 87 [])),[(4,false,[.pv Y2,.own 700401 Y5 131 false])]⟩
def jSE :Sh:=⟨dz 4 (.box 4 0::dz 3 (.own 600008 Y14 90 true:: .own 600009 Y14 152 true::pI::pI::pI::dz 85 [])),[(4,false,[.pv Y2,.own 700401 Y5 131 false])]⟩
noncomputable def l_FnGroupTop_m (n:List Int):Z9:=
 (bif decide ((1048576:Int)<n.length)then some true else oB (s_DrawMatchOf_m N n) fun a=>oB (i_MatchOf_m N a.1 a.2.1 a.2.2.1 a.2.2.2.1 a.2.2.2.2.1 a.2.2.2.2.2.1 a.2.2.2.2.2.2.1 a.2.2.2.2.2.2.2.1 a.2.2.2.2.2.2.2.2.1 a.2.2.2.2.2.2.2.2.2) fun b=>oB (s_MatchOf_m N a.1 a.2.1 a.2.2.1 a.2.2.2.1 a.2.2.2.2.1 a.2.2.2.2.2.1 a.2.2.2.2.2.2.1 a.2.2.2.2.2.2.2.1 a.2.2.2.2.2.2.2.2.1 a.2.2.2.2.2.2.2.2.2) fun H=>oB (l_foInts_m N b H) fun D=>bif !D then oB (s_MatchOf_m N a.1 a.2.1 a.2.2.1 a.2.2.2.1 a.2.2.2.2.1 a.2.2.2.2.2.1 a.2.2.2.2.2.2.1 a.2.2.2.2.2.2.2.1 a.2.2.2.2.2.2.2.2.1 a.2.2.2.2.2.2.2.2.2) fun w=>(oB (l_foInts_m N b w) fun G=>some G)else oB (i_SegOk_m N a.1 a.2.1 a.2.2.1 a.2.2.2.1) fun P=>bif !P then oB (s_MatchOf_m N a.1 a.2.1 a.2.2.1 a.2.2.2.1 a.2.2.2.2.1 a.2.2.2.2.2.1 a.2.2.2.2.2.2.1 a.2.2.2.2.2.2.2.1 a.2.2.2.2.2.2.2.2.1 a.2.2.2.2.2.2.2.2.2) fun C=>(oB (l_foInts_m N b C) fun L=>some L)else oB (i_QueryOk_m N a.2.2.2.2.1 a.2.2.2.2.2.1 a.2.2.2.2.2.2.1 a.2.2.2.2.2.2.2.1 a.2.2.2.2.2.2.2.2.1 a.2.2.2.2.2.2.2.2.2) fun E=>bif !E then oB (s_MatchOf_m N a.1 a.2.1 a.2.2.1 a.2.2.2.1 a.2.2.2.2.1 a.2.2.2.2.2.1 a.2.2.2.2.2.2.1 a.2.2.2.2.2.2.2.1 a.2.2.2.2.2.2.2.2.1 a.2.2.2.2.2.2.2.2.2) fun v=>(oB (l_foInts_m N b v) fun Q=>some Q)else oB (i_TopOf_m N a.1 a.2.1 a.2.2.1 a.2.2.2.1 a.2.2.2.2.1 a.2.2.2.2.2.1 a.2.2.2.2.2.2.1 a.2.2.2.2.2.2.2.1 a.2.2.2.2.2.2.2.2.1 a.2.2.2.2.2.2.2.2.2 16) fun B=>oB (i_GroupOf_m N a.2.2.1 B ([114,97,116,101]:List UInt8)) fun K=>oB (i_FacetOf_m N a.2.2.1 b ([114,97,116,101]:List UInt8)) fun z=>iter (fun y (d,r,f,m,O)=>bif decide (f<(d.length:Int))then oB (idx d f) fun x=>(oB (l_foFind_m N m x.1) fun h=>oB (i_DocNum_m N h.1 h.2.1 h.2.2 ([114,97,116,101]:List UInt8)) fun t=>iter (fun A (l,p,c,q,e,j,o)=>bif decide (e<c)then oB (idx l e) fun I=>(oB (l_foFind_m N j I.1) fun k=>oB (i_DocNum_m N k.1 k.2.1 k.2.2 ([114,97,116,101]:List UInt8)) fun u=>bif decide (u=q)then some false else if fits (e+1)then A (l,p,c,q,(e+1),j,o)else none)else if fits (c+1)then y (l,p,(c+1),j,o)else none) N (d,r,f,t,(0:Int),m,O))else some (decide ((d.length:Int)=(r.length:Int)))) N (K,z,(0:Int),a.2.2.1,a.2.2.2.1))
noncomputable def jSt (N:Nat):Model:=⟨⟨[.pv (.sl (.int .u8))],[]⟩,⟨[pB],[]⟩,c1A (l_FnGroupTop_m N)⟩
theorem jSF :mK 8 (jSt N):=
 mO (fC (jSk N) (fC (jEl N) (fC (jEs N) (fC (jQS N) (fC (joa N) (fC (jCN N) (fC (jCZ N) (fC (jSH N) (fC (jSy N) (fC (jTf N) (fC (jBQ N) ja))))))))))) func8 rfl N (.seq .no (.seq .no (.seq .no (.seq .no (.seq .no (.seq .no (.seq .no (.seq .no (.seq (.seq .no (.block (.loop jS0 (.seq .no (.seq (.block (.seq .no (.seq .no (.block (.loop jSE .no))))) .no))))) .no))))))))) (jSt N)
end Go.Proofs.YtchgdmmcjgmfcaaGreatDoor
