import Derived.Test.YtcdcmcgdgnibmaaGreatDoorG1A
set_option linter.unusedVariables false
set_option linter.unusedSimpArgs false
namespace Go.Proofs.YtcdcmcgdgnibmaaGreatDoor
open Go.RowKit Go.Proofs.Tryz
variable (N : Nat)
open Option renaming bind -> oB
def jtB :Sh:=⟨.pv Y19:: .pv Y19::dz 10 (pI::pI::dz 12 []),[]⟩
def jbX (b:List Int) (d:List Int):Z10:=
 (bif !decide ((b.length:Int)=(d.length:Int))then some false else iter (fun j (f,c,e,a)=>bif decide (a<e)then oB (idx f a) fun i=>(oB (idx c a) fun k=>bif !decide (i=k)then some false else if fits (a+1)then j (f,c,e,(a+1))else none)else some true) N (b,d,(b.length:Int),(0:Int)))
theorem jqi :mK 292 (bX [.pv Y19,.pv Y19] [pB] (c2A (jbX N))):=
 mO ja func292 rfl N (.seq .no (.seq .no (.seq (.seq .no (.block (.loop jtB .no))) .no))) _
def jcp (e:Int) (b:List Int) (c:Int) (d:List Int):Z10:=
 (bif decide (e=c)then oB (jbX N b d) fun a=>(some a)else some false)
theorem jth :mK 260 (bX [.agg [pI,.pv Y19],.agg [pI,.pv Y19]] [pB] (c4A (jcp N))):=
 mO (fC (jqi N) ja) func260 rfl N .no _
def jlX :Sh:=⟨.dead:: .pv Y11:: .clo 260 []::dz 12 (.pv Y11::pI::pI::dz 14 []),[]⟩
def jb6 (b:Z6) (e:Z6) (m:Unit):Z10:=
 (bif !decide ((b.length:Int)=(e.length:Int))then some false else iter (fun k (d,n,h,i,a)=>bif decide (a<i)then oB (idx h a) fun c=>(oB (idx d a) fun f=>oB (jcp N c.1 c.2 f.1 f.2) fun l=>bif !l then some false else if fits (a+1)then k (d,(),h,i,(a+1))else none)else some true) N (e,(),b,(b.length:Int),(0:Int)))
theorem jnG :mK 259 (bX [.pv Y11,.pv Y11,.clo 260 []] [pB] (c3A (jb6 N))):=
 mO (fC (jth N) ja) func259 rfl N (.seq .no (.seq .no (.seq (.seq .no (.block (.loop jlX .no))) .no))) _
def jcz (c:List UInt8) (e:List UInt8) (h:Z6) (f:List UInt8) (b:List UInt8) (a:Z6):Z10:=
 (bif decide (c=f)then bif decide (e=b)then oB (jb6 N h a ()) fun d=>(some d)else(some false)else some false)
theorem jp4 :mK 214 (bX [.agg [pS,pS,.pv Y11],.agg [pS,pS,.pv Y11]] [pB] (c6A (jcz N))):=
 mO (fC (jnG N) ja) func214 rfl N .no _
def jlD :Sh:=⟨.dead:: .pv Y5:: .clo 214 []::dz 12 (.pv Y5::pI::pI::dz 14 []),[]⟩
def jcn (b:List Z2) (f:List Z2) (m:Unit):Z10:=
 (bif !decide ((b.length:Int)=(f.length:Int))then some false else iter (fun k (e,n,h,i,a)=>bif decide (a<i)then oB (idx h a) fun c=>(oB (idx e a) fun d=>oB (jcz N c.1 c.2.1 c.2.2 d.1 d.2.1 d.2.2) fun l=>bif !l then some false else if fits (a+1)then k (e,(),h,i,(a+1))else none)else some true) N (f,(),b,(b.length:Int),(0:Int)))
theorem jsa :mK 213 (bX [.pv Y5,.pv Y5,.clo 214 []] [pB] (c3A (jcn N))):=
 mO (fC (jp4 N) ja) func213 rfl N (.seq .no (.seq .no (.seq (.seq .no (.block (.loop jlD .no))) .no))) _
noncomputable def jbN (c:List Z1) (b:List Z4) (a:List Z0) (d:List Z2):Z10:=
 (oB (jaj N c b) fun f=>bif !f then some false else oB (jbf N a) fun h=>bif !h then some false else oB (jbT N c b a) fun e=>oB (jcn N e.2 d ()) fun i=>some i)
theorem joa :mK 152 (bX [.agg [.pv (.sl .str),.pv Y14],.agg [.pv Y3,.pv Y5]] [pB] (c4A (jbN N))):=
 mO (fC (jdX N) (fC (jjU N) (fC (jqC N) (fC (jsa N) ja)))) func152 rfl N .no _
def jDT :Sh:=⟨.pv Y19::dz 4 (.pv Y19::pI::pI::dz 24 []),[]⟩
def jx1 (d:List Int):Z10:=
 (iter (fun h (b,e,c,a)=>bif decide (a<c)then oB (idx e a) fun f=>(oB (jm N f 0 999999999) fun j=>bif !j then some false else bif decide ((0:Int)<a)then if fits (a-1)then oB (idx b (a-1)) fun k=>(bif decide (f<=k)then some false else if fits (a+1)then h (b,e,c,(a+1))else none)else none else if fits (a+1)then h (b,e,c,(a+1))else none)else some (decide ((b.length:Int)<=60))) N (d,d,(d.length:Int),(0:Int)))
theorem jAN :mK 153 (bX [.pv Y19] [pB] (c1A (jx1 N))):=
 mO (fC (jY N) ja) func153 rfl N (.seq .no (.seq (.seq .no (.block (.loop jDT .no))) .no)) _
def jqv :Sh:=⟨.dead::pI:: .dead:: .dead:: .box 4 0::dz 6 (.pv Y3::pI::pI::dz 10 []),[(4,false,[pI,.nils,.nils])]⟩
def i_Seg_doc_m (d:(List Z0)×(List Z2)) (j:Int):Option (Int×Z11×Z8×Bool):=
 (iter (fun i (c,e,f,a,k)=>bif decide (a<f)then oB (idx e a) fun b=>(bif decide (b.1=c)then some (b.1,b.2.1,b.2.2,true)else if fits (a+1)then i (c,e,f,(a+1),k)else none)else some (0,([]:Z7),([]:Z5),false)) N (j,d.1,(d.1.length:Int),(0:Int),(0:Int)))
theorem jlU :mK 154 (bX [.ptr Y2,pI] [.tup [.agg [pI,.pv Y17,.pv Y13],pB]] (c2A (i_Seg_doc_m N))):=
 mO ja func154 rfl N (.seq .no (.seq (.seq .no (.block (.loop jqv .no))) .no)) _
def jIP :Sh:=⟨.pv Y19::pI::dz 5 (pI::pI::dz 10 []),[]⟩
def k_slices_Index_484_m (b:List Int) (j:Int):Option (Int):=
 (iter (fun i (c,d,e,a)=>bif decide (a<e)then oB (idx c a) fun h=>(bif decide (d=h)then some a else if fits (a+1)then i (c,d,e,(a+1))else none)else some (-1)) N (b,j,(b.length:Int),(0:Int)))
theorem jJu :mK 261 (bX [.pv Y19,pI] [pI] (c2A (k_slices_Index_484_m N))):=
 mO ja func261 rfl N (.seq .no (.seq (.seq .no (.block (.loop jIP .no))) .no)) _
def k_slices_Contains_735_m (c:List Int) (a:Int):Z10:=
 (oB (k_slices_Index_484_m N c a) fun b=>some (decide ((0:Int)<=b)))
theorem jIT :mK 215 (bX [.pv Y19,pI] [pB] (c2A (k_slices_Contains_735_m N))):=
 mO (fC (jJu N) ja) func215 rfl N .no _
def jIi :Sh:=⟨.dead:: .box 1 0:: .dead:: .own 600003 Y4 81 false::dz 5 (.pv Y3::pI::pI::dz 15 []),[(1,false,[.pv Y3,.pv Y5,.pv Y19])]⟩
def i_Live_alive_m (f:List Z0) (m:List Z2) (n:List Int):Z13:=
 (iter (fun j (b,e,h,a,i,k,c)=>bif decide (a<h)then oB (idx e a) fun d=>(oB (k_slices_Contains_735_m N c d.1) fun o=>bif !o then if room b.length ([d]:List Z0).length 56 then if fits (a+1)then j ((b++([d]:List Z0)),e,h,(a+1),i,k,c)else none else none else if fits (a+1)then j (b,e,h,(a+1),i,k,c)else none)else some b) N (([]:List Z0),f,(f.length:Int),(0:Int),f,m,n))
theorem jH4 :mK 155 (bX [.agg [.pv Y3,.pv Y5,.pv Y19]] [.own 1 Y4 81 false] (c3A (i_Live_alive_m N))):=
 mO (fC (jIT N) ja) func155 rfl N (.seq .no (.seq .no (.seq (.seq .no (.block (.loop jIi .no))) .no))) _
def jIO :Sh:=⟨dz 3 (.box 3 0::dz 17 (.pv Y19::pI::pI::dz 16 [])),[(3,true,[.pv Y3,.pv Y5,.pv Y19])]⟩
noncomputable def i_liveOk_m (q:List Z1) (p:List Z4) (i:List Z0) (f:List Z2) (b:List Int):Z10:=
 (oB (jbN N q p i f) fun t=>bif !t then some false else oB (jx1 N b) fun o=>bif !o then some false else iter (fun m (h,e,a,c,d,j)=>bif decide (a<e)then oB (idx h a) fun l=>(oB (i_Seg_doc_m N (c,d) l) fun n=>bif !n.2.2.2 then some false else if fits (a+1)then m (h,e,(a+1),c,d,j)else none)else oB (i_Live_alive_m N c d j) fun r=>some (decide ((0:Int)<r.length))) N (b,(b.length:Int),(0:Int),i,f,b))
theorem jJD :mK 78 (bX [.agg [.pv (.sl .str),.pv Y14],.agg [.pv Y3,.pv Y5,.pv Y19]] [pB] (c5A (i_liveOk_m N))):=
 mO (fC (joa N) (fC (jAN N) (fC (jlU N) (fC (jH4 N) ja)))) func78 rfl N (.seq .no (.seq .no (.seq (.seq .no (.block (.loop jIO .no))) .no))) _
def jl0 :Sh:=⟨.pv (.int .u64):: .dead::pI::dz 22 [],[]⟩
def k_math_bits_Len64_m (N:Nat) (c:Int):Option (Int):=
 (meet (fun(a:Int×Int)=>match a with|(e,b)=>meet (fun(a:Int×Int)=>match a with|(f,d)=>meet (fun(a:Int×Int)=>match a with|(m,j)=>oB (idx ([0,1,2,2,3,3,3,3,4,4,4,4,4,4,4,4,5,5,5,5,5,5,5,5,5,5,5,5,5,5,5,5,6,6,6,6,6,6,6,6,6,6,6,6,6,6,6,6,6,6,6,6,6,6,6,6,6,6,6,6,6,6,6,6,7,7,7,7,7,7,7,7,7,7,7,7,7,7,7,7,7,7,7,7,7,7,7,7,7,7,7,7,7,7,7,7,7,7,7,7,7,7,7,7,7,7,7,7,7,7,7,7,7,7,7,7,7,7,7,7,7,7,7,7,7,7,7,7,8,8,8,8,8,8,8,8,8,8,8,8,8,8,8,8,8,8,8,8,8,8,8,8,8,8,8,8,8,8,8,8,8,8,8,8,8,8,8,8,8,8,8,8,8,8,8,8,8,8,8,8,8,8,8,8,8,8,8,8,8,8,8,8,8,8,8,8,8,8,8,8,8,8,8,8,8,8,8,8,8,8,8,8,8,8,8,8,8,8,8,8,8,8,8,8,8,8,8,8,8,8,8,8,8,8,8,8,8,8,8,8,8,8,8,8,8,8,8,8,8,8,8,8,8,8,8,8]:List UInt8) (IntKind.u8.wrap m)) fun k=>if fits (j+(IntKind.i64.wrap (k.toNat:Int)))then some (j+(IntKind.i64.wrap (k.toNat:Int)))else none) fun h=>bif decide ((256:Int)<=f)then if 0<=(8:Int)then if fits (d+8)then h ((f.fdiv (2^(min (8:Int).toNat (IntKind.bits .u64)))),(d+8))else none else none else h (f,d)) fun i=>bif decide ((65536:Int)<=e)then if 0<=(16:Int)then if fits (b+16)then i ((e.fdiv (2^(min (16:Int).toNat (IntKind.bits .u64)))),(b+16))else none else none else i (e,b)) fun l=>bif decide ((4294967296:Int)<=c)then if 0<=(32:Int)then l ((c.fdiv (2^(min (32:Int).toNat (IntKind.bits .u64)))),32)else none else l (c,0))
theorem jrK :mK 244 (bX [.pv (.int .u64)] [pI] (c1A (k_math_bits_Len64_m N))):=
 mO ja func244 rfl N (.seq .no (.meet jl0 .no (.meet jl0 .no (.meet jl0 .no .no)))) _
def k_math_bits_Len_m (b:Int):Option (Int):=
 (oB (k_math_bits_Len64_m N b) fun a=>some a)
theorem jda :mK 188 (bX [.pv (.int .u64)] [pI] (c1A (k_math_bits_Len_m N))):=
 mO (fC (jrK N) ja) func188 rfl N .no _
def k_cmp_isNaN_538_m (N:Nat) (a:Int):Z10:=
 (some (!decide (a=a)))
theorem joK :mK 217 (bX [pI] [pB] (c1A (k_cmp_isNaN_538_m N))):=
 mO ja func217 rfl N .no _
def k_cmp_Compare_992_m (b:Int) (a:Int):Option (Int):=
 (oB (k_cmp_isNaN_538_m N b) fun d=>oB (k_cmp_isNaN_538_m N a) fun c=>bif d then bif c then some 0 else(some (-1))else bif c then some 1 else bif decide (b<a)then some (-1)else bif decide (a<b)then some 1 else some 0)
theorem jpP :mK 158 (bX [pI,pI] [pI] (c2A (k_cmp_Compare_992_m N))):=
 mO (fC (joK N) ja) func158 rfl N .no _
def i_allAlive_1_m (a:Int) (f:Z7) (h:Z5) (c:Int) (e:Z7) (d:Z5):Option (Int):=
 (oB (k_cmp_Compare_992_m N a c) fun b=>some b)
theorem jHC :mK 157 (bX [.agg [pI,.pv Y17,.pv Y13],.agg [pI,.pv Y17,.pv Y13]] [pI] (c6A (i_allAlive_1_m N))):=
 mO (fC (jpP N) ja) func157 rfl N .no _
def k_slices_nextPowerOfTwo_m (b:Int):Option (Int):=
 (oB (k_math_bits_Len_m N (IntKind.u64.wrap b)) fun a=>if 0<=a then some (IntKind.u64.wrap ((1:Int)*2^(min a.toNat (IntKind.bits .u64))))else none)
theorem jhv :mK 282 (bX [pI] [.pv (.int .u64)] (c1A (k_slices_nextPowerOfTwo_m N))):=
 mO (fC (jda N) ja) func282 rfl N .no _
def k__slices_xorshift_Next_m (N:Nat) (a:Int):Option (Int×Int):=
 (if 0<=(13:Int)then if 0<=(7:Int)then if 0<=(17:Int)then some ((bitsI .xor .u64 (bitsI .xor .u64 (bitsI .xor .u64 a (IntKind.u64.wrap (a*2^(min (13:Int).toNat (IntKind.bits .u64))))) ((bitsI .xor .u64 a (IntKind.u64.wrap (a*2^(min (13:Int).toNat (IntKind.bits .u64))))).fdiv (2^(min (7:Int).toNat (IntKind.bits .u64))))) (IntKind.u64.wrap ((bitsI .xor .u64 (bitsI .xor .u64 a (IntKind.u64.wrap (a*2^(min (13:Int).toNat (IntKind.bits .u64))))) ((bitsI .xor .u64 a (IntKind.u64.wrap (a*2^(min (13:Int).toNat (IntKind.bits .u64))))).fdiv (2^(min (7:Int).toNat (IntKind.bits .u64)))))*2^(min (17:Int).toNat (IntKind.bits .u64))))),(bitsI .xor .u64 (bitsI .xor .u64 (bitsI .xor .u64 a (IntKind.u64.wrap (a*2^(min (13:Int).toNat (IntKind.bits .u64))))) ((bitsI .xor .u64 a (IntKind.u64.wrap (a*2^(min (13:Int).toNat (IntKind.bits .u64))))).fdiv (2^(min (7:Int).toNat (IntKind.bits .u64))))) (IntKind.u64.wrap ((bitsI .xor .u64 (bitsI .xor .u64 a (IntKind.u64.wrap (a*2^(min (13:Int).toNat (IntKind.bits .u64))))) ((bitsI .xor .u64 a (IntKind.u64.wrap (a*2^(min (13:Int).toNat (IntKind.bits .u64))))).fdiv (2^(min (7:Int).toNat (IntKind.bits .u64)))))*2^(min (17:Int).toNat (IntKind.bits .u64))))))else none else none else none)
theorem jet :mK 283 ⟨⟨[.box 900000 0],[(900000,false,[.pv (.int .u64)])]⟩,⟨[.pv (.int .u64)],[(900000,false,[.pv (.int .u64)])]⟩,c1A (k__slices_xorshift_Next_m N)⟩:=
 mO ja func283 rfl N .no _ (rs:=[900000])
section
variable {α γ ρ : Type} (c : γ -> α -> α -> Option Int)
def swpG (d:List α) (i j:Int) (k:List α->Option ρ):Option ρ:=
 if 0<=j/\j<(d.length:Int)then oB (d[j.toNat]?) fun e=>if 0<=i/\i<(d.length:Int)then oB (d[i.toNat]?) fun e2=>
  if 0<=i/\i<(d.length:Int)then oB (d[i.toNat]?) fun e3=>if 0<=j/\j<((d.set i.toNat e).length:Int)then oB ((d.set i.toNat e)[j.toNat]?) fun e4=>k ((d.set i.toNat e).set j.toNat e2)
  else none else none else none else none
def cmpG (ks:γ) (d:List α) (i j:Int) (k:Int->Option ρ):Option ρ:=
 if 0<=i/\i<(d.length:Int)then oB (d[i.toNat]?) fun e=>if 0<=j/\j<(d.length:Int)then oB (d[j.toNat]?) fun e2=>oB (c ks e e2) k else none else none
def cmpP (ks:γ) (d:List α) (j:Int) (k:Int->Option ρ):Option ρ:=
 if 0<=j/\j<(d.length:Int)then oB (d[j.toNat]?) fun e=>if fits (j-1)then if 0<=(j-1)/\(j-1)<(d.length:Int)then oB (d[(j-1).toNat]?) fun e2=>oB (c ks e e2) k else none else none else none
def swpP (d:List α) (j:Int) (k:List α->Option ρ):Option ρ:=if fits (j-1)then if fits (j-1)then swpG d j (j-1) k else none else none
def insG (N:Nat) (d:List α) (a b:Int) (ks:γ):Option (List α):=
 if fits (a+1)then iter (fun go (g:List α×Int×Int×γ×Int)=>
  match g with
  |(d2,a2,b2,ks2,i)=>
  bif decide (i<b2)then
   iter (fun go2 (g:List α×Int×Int×γ×Int×Int)=>
    match g with
    |(d3,a3,b3,ks3,i2,j)=>
    bif decide (a3<j)then cmpP c ks3 d3 j fun r=>bif decide (r<0)then swpP d3 j fun d=>if fits (j-1)then go2 (d,a3,b3,ks3,i2,j-1)else none
     else if fits (i2+1)then go (d3,a3,b3,ks3,i2+1)else none
    else if fits (i2+1)then go (d3,a3,b3,ks3,i2+1)else none) N (d2,a2,b2,ks2,i,i)
  else some d2) N (d,a,b,ks,a+1)else none
def siftG (N:Nat) (data:List α) (lo:Int) (hi:Int) (first:Int) (cmp:γ):Option ((List α)):=
 (iter (fun go (g:(List α)×Int×Int×γ×Int)=>
   match g with
   |(data2,hi2,first2,cmp2,root)=>
   (if fits (2*root)then(if fits ((2*root)+1)then(bif(decide (hi2<=((2*root)+1)))then
      (some data2)
      else
      (meet (fun(g:(List α)×Int×Int×γ×Int×Int)=>
        match g with
        |(data3,hi3,first3,cmp3,root2,child)=>
        (if fits (first3+root2)then(if 0<=(first3+root2)/\(first3+root2)<(data3.length:Int)then
          (oB (data3[(first3+root2).toNat]?) fun e3=>
           (if fits (first3+child)then(if 0<=(first3+child)/\(first3+child)<(data3.length:Int)then
             (oB (data3[(first3+child).toNat]?) fun e4=>
              (oB (c cmp3 e3 e4) fun r2=>
               (bif(!(decide (r2<0)))then
                (some data3)
                else
                (if fits (first3+root2)then(if fits (first3+child)then(if fits (first3+child)then(if 0<=(first3+child)/\(first3+child)<(data3.length:Int)then
                    (oB (data3[(first3+child).toNat]?) fun e5=>
                     (if fits (first3+root2)then(if 0<=(first3+root2)/\(first3+root2)<(data3.length:Int)then
                       (oB (data3[(first3+root2).toNat]?) fun e6=>
                        (if 0<=(first3+root2)/\(first3+root2)<(data3.length:Int)then
                         (oB (data3[(first3+root2).toNat]?) fun e7=>
                          (if 0<=(first3+child)/\(first3+child)<((data3.set (first3+root2).toNat e5).length:Int)then
                           (oB ((data3.set (first3+root2).toNat e5)[(first3+child).toNat]?) fun e8=>
                            (go (((data3.set (first3+root2).toNat e5).set (first3+child).toNat e6),hi3,first3,cmp3,child)))
                           else none))
                         else none))
                       else none)else none))
                    else none)else none)else none)else none))))
             else none)else none))
          else none)else none)) fun J=>
       (if fits (((2*root)+1)+1)then(bif(decide ((((2*root)+1)+1)<hi2))then
         (if fits (first2+((2*root)+1))then(if 0<=(first2+((2*root)+1))/\(first2+((2*root)+1))<(data2.length:Int)then
           (oB (data2[(first2+((2*root)+1)).toNat]?) fun e=>
            (if fits (first2+((2*root)+1))then(if fits ((first2+((2*root)+1))+1)then(if 0<=((first2+((2*root)+1))+1)/\((first2+((2*root)+1))+1)<(data2.length:Int)then
               (oB (data2[((first2+((2*root)+1))+1).toNat]?) fun e2=>
                (oB (c cmp2 e e2) fun r=>
                 (bif(decide (r<0))then
                  (if fits (((2*root)+1)+1)then(J (data2,hi2,first2,cmp2,root,(((2*root)+1)+1)))else none)
                  else
                  (J (data2,hi2,first2,cmp2,root,((2*root)+1))))))
               else none)else none)else none))
           else none)else none)
         else
         (J (data2,hi2,first2,cmp2,root,((2*root)+1))))else none)))else none)else none)) N (data,hi,first,cmp,lo))
def heapG (N:Nat) (data:List α) (a:Int) (b:Int) (cmp:γ):Option ((List α)):=
 (if fits (b-a)then(if fits ((b-a)-1)then(if 2≠0 then
    (if fits (((b-a)-1).tdiv 2)then(iter (fun go (g:(List α)×γ×Int×Int×Int×Int)=>
       match g with
       |(data2,cmp2,first,lo,hi,i)=>
       (bif(decide ((0:Int)<=i))then
        (oB (siftG c N data2 i hi first cmp2) fun r=>
         (if fits (i-1)then(go (r,cmp2,first,lo,hi,(i-1)))else none))
        else
        (if fits (hi-1)then(iter (fun go2 (g:(List α)×γ×Int×Int×Int)=>
           match g with
           |(data3,cmp3,first2,lo2,i2)=>
           (bif(decide ((0:Int)<=i2))then
            (if fits (first2+i2)then(if fits (first2+i2)then swpG data3 first2 (first2+i2) fun d=>(oB (siftG c N d lo2 i2 first2 cmp3) fun r2=>
                       (if fits (i2-1)then(go2 (r2,cmp3,first2,lo2,(i2-1)))else none))else none)else none)
            else
            (some data3))) N (data2,cmp2,first,lo,(hi-1)))else none))) N (data,cmp,a,0,(b-a),(((b-a)-1).tdiv 2)))else none)
    else none)else none)else none)
def breakG (N:Nat) (data:List α) (a:Int) (b:Int) (cmp:γ):Option (List α):=
 (if fits (b-a)then(bif(decide ((8:Int)<=(b-a)))then
   (oB (k_slices_nextPowerOfTwo_m N (b-a)) fun r=>
    (if 4≠0 then
     (if fits ((b-a).tdiv 4)then(if fits (((b-a).tdiv 4)*2)then(if fits (a+(((b-a).tdiv 4)*2))then(if fits ((a+(((b-a).tdiv 4)*2))-1)then(iter (fun go (g:(List α)×Int×Int×Int×Int×Int)=>
           match g with
           |(data2,a2,length,modulus,idx0,random)=>
           (if 4≠0 then
            (if fits (length.tdiv 4)then(if fits ((length.tdiv 4)*2)then(if fits (a2+((length.tdiv 4)*2))then(if fits ((a2+((length.tdiv 4)*2))+1)then(bif(decide (idx0<=((a2+((length.tdiv 4)*2))+1)))then
                 (oB (k__slices_xorshift_Next_m N random) fun r2=>
                  (meet (fun(g:(List α)×Int×Int×Int×Int×Int×Int)=>
                    match g with
                    |(data3,a3,length2,modulus2,idx02,other,random2)=>
                    (if fits (a3+other)then(if fits (a3+other)then swpG data3 idx02 (a3+other) fun d=>(if fits (idx02+1)then(go (d,a3,length2,modulus2,(idx02+1),random2))else none)else none)else none)) fun J=>
                   (bif(decide (length<=(IntKind.i64.wrap (bitsI .and .u64 r2.1 (IntKind.u64.wrap (modulus-1))))))then
                    (if fits ((IntKind.i64.wrap (bitsI .and .u64 r2.1 (IntKind.u64.wrap (modulus-1))))-length)then(J (data2,a2,length,modulus,idx0,((IntKind.i64.wrap (bitsI .and .u64 r2.1 (IntKind.u64.wrap (modulus-1))))-length),r2.2))else none)
                    else
                    (J (data2,a2,length,modulus,idx0,(IntKind.i64.wrap (bitsI .and .u64 r2.1 (IntKind.u64.wrap (modulus-1)))),r2.2)))))
                 else
                 (some data2))else none)else none)else none)else none)
            else none)) N (data,a,(b-a),r,((a+(((b-a).tdiv 4)*2))-1),(IntKind.u64.wrap (b-a))))else none)else none)else none)else none)
     else none))
   else
   (some data))else none)
def order2G (N:Nat) (data:List α) (a:Int) (b:Int) (cmp:γ) (b2:Int):Option (Int×Int×(List α)×Int):=
 cmpG c cmp data b a fun r=>(bif(decide (r<0))then(if fits (b2+1)then(some (b,a,data,(b2+1)))else none)else(some (a,b,data,b2)))
def medianG (N:Nat) (data:List α) (a:Int) (b:Int) (c0:Int) (cmp:γ) (b2:Int):Option (Int×(List α)×Int):=
 (oB (order2G c N data a b cmp b2) fun r=>
  (oB (order2G c N r.2.2.1 r.2.1 c0 cmp r.2.2.2) fun r2=>
   (oB (order2G c N r2.2.2.1 r.1 r2.1 cmp r2.2.2.2) fun r3=>
    (some (r3.2.1,r3.2.2.1,r3.2.2.2)))))
def medianAdjacentG (N:Nat) (data:List α) (a:Int) (cmp:γ) (b:Int):Option (Int×(List α)×Int):=
 (if fits (a-1)then(if fits (a+1)then(oB (medianG c N data (a-1) a (a+1) cmp b) fun r=>
    (some (r.1,r.2.1,r.2.2)))else none)else none)
def choosePivotG (N:Nat) (data:List α) (a:Int) (b:Int) (cmp:γ):Option (Int×Int×(List α)):=
 (if fits (b-a)then(if 4≠0 then
   (if fits ((b-a).tdiv 4)then(if fits (((b-a).tdiv 4)*1)then(if fits (a+(((b-a).tdiv 4)*1))then(if 4≠0 then
       (if fits ((b-a).tdiv 4)then(if fits (((b-a).tdiv 4)*2)then(if fits (a+(((b-a).tdiv 4)*2))then(if 4≠0 then
           (if fits ((b-a).tdiv 4)then(if fits (((b-a).tdiv 4)*3)then(if fits (a+(((b-a).tdiv 4)*3))then(meet (fun(g:(List α)×Int×Int)=>
                match g with
                |(data3,j2,swaps2)=>
                (bif(decide (swaps2=0))then
                 (some (j2,1,data3))
                 else
                 (bif(decide (swaps2=12))then
                  (some (j2,2,data3))
                  else
                  (some (j2,0,data3))))) fun J=>
               (bif(decide ((8:Int)<=(b-a)))then
                (meet (fun(g:(List α)×γ×Int×Int×Int×Int)=>
                  match g with
                  |(data2,cmp2,i,j,k,swaps)=>
                  (oB (medianG c N data2 i j k cmp2 swaps) fun r4=>
                   (J (r4.2.1,r4.1,r4.2.2)))) fun J2=>
                 (bif(decide ((50:Int)<=(b-a)))then
                  (oB (medianAdjacentG c N data (a+(((b-a).tdiv 4)*1)) cmp 0) fun r=>
                   (oB (medianAdjacentG c N r.2.1 (a+(((b-a).tdiv 4)*2)) cmp r.2.2) fun r2=>
                    (oB (medianAdjacentG c N r2.2.1 (a+(((b-a).tdiv 4)*3)) cmp r2.2.2) fun r3=>
                     (J2 (r3.2.1,cmp,r.1,r2.1,r3.1,r3.2.2)))))
                  else
                  (J2 (data,cmp,(a+(((b-a).tdiv 4)*1)),(a+(((b-a).tdiv 4)*2)),(a+(((b-a).tdiv 4)*3)),0))))
                else
                (J (data,(a+(((b-a).tdiv 4)*2)),0))))else none)else none)else none)
           else none)else none)else none)else none)
       else none)else none)else none)else none)
   else none)else none)
def reverseRangeG (N:Nat) (data:List α) (a:Int) (b:Int) (cmp:γ):Option ((List α)):=
 (if fits (b-1)then(iter (fun go (g:(List α)×Int×Int)=>
    match g with
    |(data2,i,j)=>
    (bif(decide (i<j))then swpG data2 i j fun d=>(if fits (i+1)then(if fits (j-1)then(go (d,(i+1),(j-1)))else none)else none)
     else
     (some data2))) N (data,a,(b-1)))else none)
def shDown (k:(List α×Int×Int×γ×Int×Int)->Option ρ) (N:Nat) (g:List α×Int×Int×γ×Int×Int×Int):Option ρ:=
 iter (fun go3 (g:(List α)×Int×Int×γ×Int×Int×Int)=>
  match g with
  |(d,a,b,ks,i,j,j4)=>
  bif decide ((1:Int)<=j4)then cmpP c ks d j4 fun r=>bif !decide (r<0)then k (d,a,b,ks,i,j)else swpP d j4 fun d'=>if fits (j4-1)then go3 (d',a,b,ks,i,j,j4-1)else none
  else k (d,a,b,ks,i,j)) N g
def shUp (k:(List α×Int×Int×γ×Int×Int)->Option ρ) (N:Nat) (g:List α×Int×Int×γ×Int×Int×Int):Option ρ:=
 iter (fun go4 (g:(List α)×Int×Int×γ×Int×Int×Int)=>
  match g with
  |(d,a,b,ks,i,j,j4)=>
  bif decide (j4<b)then cmpP c ks d j4 fun r=>bif !decide (r<0)then(if fits (j+1)then k (d,a,b,ks,i,j+1)else none)else swpP d j4 fun d'=>if fits (j4+1)then go4 (d',a,b,ks,i,j,j4+1)else none
  else if fits (j+1)then k (d,a,b,ks,i,j+1)else none) N g
def pisX (N:Nat) (go:(List α×Int×Int×γ×Int×Int)->Option (Bool×List α)) (d:List α) (a b:Int) (ks:γ) (i j:Int):Option (Bool×List α):=
 bif decide (i=b)then some (true,d)else if fits (b-a)then bif decide ((b-a)<50)then some (false,d)else
  swpP d i fun d'=>meet (fun(g:List α×Int×Int×γ×Int×Int)=>
   match g with
   |(d5,a5,b5,ks5,i4,j5)=>
   if fits (b5-i4)then bif decide ((2:Int)<=(b5-i4))then if fits (i4+1)then shUp c go N (d5,a5,b5,ks5,i4,j5,i4+1)else none
    else(if fits (j5+1)then go (d5,a5,b5,ks5,i4,j5+1)else none)else none) fun J=>
   if fits (i-a)then bif decide ((2:Int)<=(i-a))then if fits (i-1)then shDown c J N (d',a,b,ks,i,j,i-1)else none else J (d',a,b,ks,i,j)else none
 else none
def pisG (N:Nat) (d:List α) (a b:Int) (ks:γ):Option (Bool×List α):=
 if fits (a+1)then iter (fun go (g:List α×Int×Int×γ×Int×Int)=>
  match g with
  |(d2,a2,b2,ks2,i,j)=>
  bif decide (j<5)then
   iter (fun go2 (g:List α×Int×Int×γ×Int×Int)=>
    match g with
    |(d3,a3,b3,ks3,i2,j2)=>
    bif decide (i2<b3)then cmpP c ks3 d3 i2 fun r=>bif !decide (r<0)then(if fits (i2+1)then go2 (d3,a3,b3,ks3,i2+1,j2)else none)else pisX c N go d3 a3 b3 ks3 i2 j2
    else pisX c N go d3 a3 b3 ks3 i2 j2) N (d2,a2,b2,ks2,i,j)
  else some (false,d2)) N (d,a,b,ks,a+1,0)else none
def partE (go3:(List α×Int×γ×Int×Int)->Option (Int×Bool×List α)) (fl:Bool) (g:List α×Int×γ×Int×Int):Option (Int×Bool×List α):=
 match g with
 |(d,a,ks,i,j)=>
 bif decide (j<i)then swpG d j a fun d'=>some (j,fl,d')else swpG d i j fun d'=>if fits (i+1)then if fits (j-1)then go3 (d',a,ks,i+1,j-1)else none else none
def partD (k:(List α×Int×γ×Int×Int)->Option ρ) (N:Nat) (g:List α×Int×γ×Int×Int):Option ρ:=
 iter (fun go (g:List α×Int×γ×Int×Int)=>
  match g with
  |(d,a,ks,i,j)=>
  bif decide (i<=j)then cmpG c ks d j a fun r=>bif !decide (r<0)then(if fits (j-1)then go (d,a,ks,i,j-1)else none)else k (d,a,ks,i,j)
  else k (d,a,ks,i,j)) N g
def partU (k:(List α×Int×γ×Int×Int)->Option ρ) (N:Nat) (g:List α×Int×γ×Int×Int):Option ρ:=
 iter (fun go (g:List α×Int×γ×Int×Int)=>
  match g with
  |(d,a,ks,i,j)=>
  bif decide (i<=j)then cmpG c ks d i a fun r=>bif decide (r<0)then(if fits (i+1)then go (d,a,ks,i+1,j)else none)else k (d,a,ks,i,j)
  else k (d,a,ks,i,j)) N g
def partG (N:Nat) (d:List α) (a b p:Int) (ks:γ):Option (Int×Bool×List α):=
 swpG d a p fun d=>if fits (a+1)then if fits (b-1)then
  partU c (fun g=>partD c (partE (fun g=>iter (fun go3 g=>partU c (fun g=>partD c (partE go3 false) N g) N g) N g) true) N g) N (d,a,ks,a+1,b-1)
 else none else none
def peqE (go:(List α×Int×γ×Int×Int)->Option (Int×List α)) (g:List α×Int×γ×Int×Int):Option (Int×List α):=
 match g with
 |(d,a,ks,i,j)=>
 bif decide (j<i)then some (i,d)else swpG d i j fun d'=>if fits (i+1)then if fits (j-1)then go (d',a,ks,i+1,j-1)else none else none
def peqD (k:(List α×Int×γ×Int×Int)->Option ρ) (N:Nat) (g:List α×Int×γ×Int×Int):Option ρ:=
 iter (fun go (g:List α×Int×γ×Int×Int)=>
  match g with
  |(d,a,ks,i,j)=>
  bif decide (i<=j)then cmpG c ks d a j fun r=>bif decide (r<0)then(if fits (j-1)then go (d,a,ks,i,j-1)else none)else k (d,a,ks,i,j)
  else k (d,a,ks,i,j)) N g
def peqU (k:(List α×Int×γ×Int×Int)->Option ρ) (N:Nat) (g:List α×Int×γ×Int×Int):Option ρ:=
 iter (fun go (g:List α×Int×γ×Int×Int)=>
  match g with
  |(d,a,ks,i,j)=>
  bif decide (i<=j)then cmpG c ks d a i fun r=>bif !decide (r<0)then(if fits (i+1)then go (d,a,ks,i+1,j)else none)else k (d,a,ks,i,j)
  else k (d,a,ks,i,j)) N g
def peqG (N:Nat) (d:List α) (a b p:Int) (ks:γ):Option (Int×List α):=
 swpG d a p fun d=>if fits (a+1)then if fits (b-1)then iter (fun go g=>peqU c (fun g=>peqD c (peqE go) N g) N g) N (d,a,ks,a+1,b-1)else none else none
def pdqG (hs:List α->Int->Int->γ->Option (List α)) (pe:List α->Int->Int->Int->γ->Option (Int×List α)) (N:Nat):(D:Nat)->(List α)->Int->Int->Int->γ->Option ((List α))
 |0,_,_,_,_,_=>none
 |D+1,data,a,b,limit,cmp=>
 (iter (fun go (g:(List α)×Int×Int×Int×γ×Bool×Bool)=>
   match g with
   |(data2,a2,b2,limit2,cmp2,wasBalanced,wasPartitioned)=>
   (if fits (b2-a2)then(bif(decide ((b2-a2)<=12))then
     (oB (insG c N data2 a2 b2 cmp2) fun r=>
      (some r))
     else
     (bif(decide (limit2=0))then
      (oB (hs data2 a2 b2 cmp2) fun r2=>
       (some r2))
      else
      (meet (fun(g:(List α)×Int×Int×Int×γ×Bool×Bool×Int)=>
        match g with
        |(data3,a3,b3,limit3,cmp3,wasBalanced2,wasPartitioned2,length)=>
        (oB (choosePivotG c N data3 a3 b3 cmp3) fun r4=>
         (meet (fun(g:(List α)×Int×Int×Int×γ×Bool×Bool×Int×Int×Int)=>
           match g with
           |(data4,a4,b4,limit4,cmp4,wasBalanced3,wasPartitioned3,length2,pivot,hint)=>
           (meet (fun(g:(List α)×Int×Int×Int×γ×Bool×Bool×Int×Int)=>
             match g with
             |(data5,a5,b5,limit5,cmp5,wasBalanced4,wasPartitioned4,length3,pivot2)=>
             (bif(decide ((0:Int)<a5))then
              (if fits (a5-1)then(if 0<=(a5-1)/\(a5-1)<(data5.length:Int)then
                (oB (data5[(a5-1).toNat]?) fun e=>
                 (if 0<=pivot2/\pivot2<(data5.length:Int)then
                  (oB (data5[pivot2.toNat]?) fun e2=>
                   (oB (c cmp5 e e2) fun r7=>
                    (bif(!(decide (r7<0)))then
                     (oB (pe data5 a5 b5 pivot2 cmp5) fun r8=>
                      (go (r8.2,r8.1,b5,limit5,cmp5,wasBalanced4,wasPartitioned4)))
                     else
                     (oB (partG c N data5 a5 b5 pivot2 cmp5) fun r9=>
                      (if fits (r9.1-a5)then(if fits (b5-r9.1)then(if 8≠0 then
                         (if fits (length3.tdiv 8)then(bif(decide ((r9.1-a5)<(b5-r9.1)))then
                           (oB (pdqG hs pe N D r9.2.2 a5 r9.1 limit5 cmp5) fun r10=>
                            (if fits (r9.1+1)then(go (r10,(r9.1+1),b5,limit5,cmp5,(decide ((length3.tdiv 8)<=(r9.1-a5))),r9.2.1))else none))
                           else
                           (if fits (r9.1+1)then(oB (pdqG hs pe N D r9.2.2 (r9.1+1) b5 limit5 cmp5) fun r11=>
                             (go (r11,a5,r9.1,limit5,cmp5,(decide ((length3.tdiv 8)<=(b5-r9.1))),r9.2.1)))else none))else none)
                         else none)else none)else none)))))
                  else none))
                else none)else none)
              else
              (oB (partG c N data5 a5 b5 pivot2 cmp5) fun r12=>
               (if fits (r12.1-a5)then(if fits (b5-r12.1)then(if 8≠0 then
                  (if fits (length3.tdiv 8)then(bif(decide ((r12.1-a5)<(b5-r12.1)))then
                    (oB (pdqG hs pe N D r12.2.2 a5 r12.1 limit5 cmp5) fun r13=>
                     (if fits (r12.1+1)then(go (r13,(r12.1+1),b5,limit5,cmp5,(decide ((length3.tdiv 8)<=(r12.1-a5))),r12.2.1))else none))
                    else
                    (if fits (r12.1+1)then(oB (pdqG hs pe N D r12.2.2 (r12.1+1) b5 limit5 cmp5) fun r14=>
                      (go (r14,a5,r12.1,limit5,cmp5,(decide ((length3.tdiv 8)<=(b5-r12.1))),r12.2.1)))else none))else none)
                  else none)else none)else none)))) fun J3=>
            (bif wasBalanced3 then
             (bif wasPartitioned3 then
              (bif(decide (hint=1))then
               (oB (pisG c N data4 a4 b4 cmp4) fun r6=>
                (bif r6.1 then
                 (some r6.2)
                 else
                 (J3 (r6.2,a4,b4,limit4,cmp4,wasBalanced3,wasPartitioned3,length2,pivot))))
               else
               (J3 (data4,a4,b4,limit4,cmp4,wasBalanced3,wasPartitioned3,length2,pivot)))
              else
              (J3 (data4,a4,b4,limit4,cmp4,wasBalanced3,wasPartitioned3,length2,pivot)))
             else
             (J3 (data4,a4,b4,limit4,cmp4,wasBalanced3,wasPartitioned3,length2,pivot))))) fun J2=>
          (bif(decide (r4.2.1=2))then
           (oB (reverseRangeG N r4.2.2 a3 b3 cmp3) fun r5=>
            (if fits (b3-1)then(if fits (r4.1-a3)then(if fits ((b3-1)-(r4.1-a3))then(J2 (r5,a3,b3,limit3,cmp3,wasBalanced2,wasPartitioned2,length,((b3-1)-(r4.1-a3)),1))else none)else none)else none))
           else
           (J2 (r4.2.2,a3,b3,limit3,cmp3,wasBalanced2,wasPartitioned2,length,r4.1,r4.2.1)))))) fun J=>
       (bif(!wasBalanced)then
        (oB (breakG N data2 a2 b2 cmp2) fun r3=>
         (if fits (limit2-1)then(J (r3,a2,b2,(limit2-1),cmp2,wasBalanced,wasPartitioned,(b2-a2)))else none))
        else
        (J (data2,a2,b2,limit2,cmp2,wasBalanced,wasPartitioned,(b2-a2)))))))else none)) N (data,a,b,limit,cmp,true,true))
end
def cmp669 (N:Nat):(Unit)->Z0->Z0->Option Int:=(fun(cmp:Unit) (e e2:Int×Z11×Z8)=>i_allAlive_1_m N e.1 e.2.1 e.2.2 e2.1 e2.2.1 e2.2.2)
def jIw :Sh:=⟨.mtk 800000 Y4 81 false::pI::pI:: .clo 157 []::dz 4 (pI::dz 44 []),[]⟩
def jJn :Sh:=⟨.mtk 800000 Y4 81 false::pI::pI:: .clo 157 []::dz 4 (pI::pI::dz 43 []),[]⟩
def jJk (c:List Z0) (d:Int) (b:Int) (a:Unit):Z13:=insG (cmp669 N) N c d b a
 
theorem jIC :mK 262 (bX [.mtk 800000 Y4 81 false,pI,pI,.clo 157 []] [.tup [],.mtk 800000 Y4 81 false] (c4A (jJk N))):=
 mO (fC (jHC N) ja) func262 rfl N (.seq .no (.block (.loop jIw (.seq .no (.seq (.block (.seq .no (.block (.loop jJn .no)))) .no))))) _ (rs:=[800000])
def jI7 :Sh:=⟨.mtk 800000 Y4 81 false:: .dead::pI::pI:: .clo 157 []::dz 5 (pI::dz 71 []),[]⟩
def jJE :Sh:=⟨.mtk 800000 Y4 81 false:: .dead::pI::pI:: .clo 157 []::dz 5 (pI::pI::dz 70 []),[]⟩
def jJr (b:List Z0) (d:Int) (c:Int) (e:Int) (a:Unit):Z13:=siftG (cmp669 N) N b d c e a
 
theorem jIA :mK 293 (bX [.mtk 800000 Y4 81 false,pI,pI,pI,.clo 157 []] [.tup [],.mtk 800000 Y4 81 false] (c5A (jJr N))):=
 mO (fC (jHC N) ja) func293 rfl N (.seq .no (.block (.loop jI7 (.block (.seq .no (.seq .no (.meet jJE .no .no))))))) _ (rs:=[800000])
def jH9 :Sh:=⟨.mtk 800000 Y4 81 false:: .dead:: .dead:: .clo 157 []::dz 4 (pI::pI::pI::pI::dz 48 []),[]⟩
def jIK :Sh:=⟨.mtk 800000 Y4 81 false:: .dead:: .dead:: .clo 157 []::dz 4 (pI::pI:: .dead:: .dead::pI::dz 47 []),[]⟩
def jIj (c:List Z0) (d:Int) (b:Int) (a:Unit):Z13:=heapG (cmp669 N) N c d b a
 
theorem jJa :mK 263 (bX [.mtk 800000 Y4 81 false,pI,pI,.clo 157 []] [.tup [],.mtk 800000 Y4 81 false] (c4A (jIj N))):=
 mO (fC (jIA N) ja) func263 rfl N (.seq .no (.seq .no (.seq .no (.seq (.seq .no (.block (.loop jH9 .no))) (.seq .no (.block (.loop jIK .no))))))) _ (rs:=[800000])
def jH6 :Sh:=⟨.mtk 800000 Y4 81 false::pI::dz 6 (pI:: .box 9 0:: .pv (.int .u64)::pI::dz 55 []),[(9,false,[.pv (.int .u64)])]⟩
def jJm :Sh:=⟨.mtk 800000 Y4 81 false::pI::dz 6 (pI:: .box 9 0:: .pv (.int .u64)::pI::pI::dz 54 []),[(9,false,[.pv (.int .u64)])]⟩
def jI4 (c:List Z0) (d:Int) (b:Int) (a:Unit):Z13:=breakG N c d b a
 
theorem jIs :mK 264 (bX [.mtk 800000 Y4 81 false,pI,pI,.clo 157 []] [.tup [],.mtk 800000 Y4 81 false] (c4A (jI4 N))):=
 mO (fC (jhv N) (fC (jet N) ja)) func264 rfl N (.seq .no (.seq .no (.cond (.seq .no (.seq .no (.seq .no (.block (.loop jH6 (.seq .no (.seq (.block (.seq .no (.meet jJm .no .no))) .no))))))) .no))) _ (rs:=[800000])
def jJC (d:List Z0) (e:Int) (a:Int) (b:Unit) (c:Int):Option (Int×Int×(List Z0)×Int):=order2G (cmp669 N) N d e a b c
 
theorem jIo :mK 303 ⟨⟨[.mtk 800000 Y4 81 false,pI,pI,.box 900003 0,.clo 157 []],[(900003,false,[pI])]⟩,⟨[.tup [pI,pI],.mtk 800000 Y4 81 false],[(900003,false,[pI])]⟩,c5A (jJC N)⟩:=
 mO (fC (jHC N) ja) func303 rfl N .no _ (rs:=[900003,800000])
def jII (e:List Z0) (f:Int) (a:Int) (c:Int) (b:Unit) (d:Int):Option (Int×(List Z0)×Int):=medianG (cmp669 N) N e f a c b d
 
theorem jHQ :mK 295 ⟨⟨[.mtk 800000 Y4 81 false,pI,pI,pI,.box 900004 0,.clo 157 []],[(900004,false,[pI])]⟩,⟨[pI,.mtk 800000 Y4 81 false],[(900004,false,[pI])]⟩,c6A (jII N)⟩:=
 mO (fC (jIo N) ja) func295 rfl N .no _ (rs:=[900004,800000])
def jIn (c:List Z0) (d:Int) (a:Unit) (b:Int):Option (Int×(List Z0)×Int):=medianAdjacentG (cmp669 N) N c d a b
 
theorem jI9 :mK 294 ⟨⟨[.mtk 800000 Y4 81 false,pI,.box 900002 0,.clo 157 []],[(900002,false,[pI])]⟩,⟨[pI,.mtk 800000 Y4 81 false],[(900002,false,[pI])]⟩,c4A (jIn N)⟩:=
 mO (fC (jHQ N) ja) func294 rfl N .no _ (rs:=[900002,800000])
def jJw :Sh:=⟨.mtk 800000 Y4 81 false:: .dead:: .dead:: .clo 157 []::dz 7 (.box 11 0::pI::pI::pI::dz 48 []),[(11,false,[pI])]⟩
def jI6 :Sh:=⟨.mtk 800000 Y4 81 false::dz 10 (.box 11 0:: .dead::pI::dz 49 []),[(11,false,[pI])]⟩
def jIq (c:List Z0) (d:Int) (b:Int) (a:Unit):Option (Int×Int×(List Z0)):=choosePivotG (cmp669 N) N c d b a
 
theorem jJz :mK 265 (bX [.mtk 800000 Y4 81 false,pI,pI,.clo 157 []] [.tup [pI,pI],.mtk 800000 Y4 81 false] (c4A (jIq N))):=
 mO (fC (jI9 N) (fC (jHQ N) ja)) func265 rfl N (.seq .no (.seq .no (.seq .no (.seq .no (.seq .no (.seq .no (.meet jI6 (.seq .no (.cond (.meet jJw .no .no) .no)) .no))))))) _ (rs:=[800000])
def jJB :Sh:=⟨.mtk 800000 Y4 81 false::dz 7 (pI::pI::dz 24 []),[]⟩
def jJs (c:List Z0) (d:Int) (b:Int) (a:Unit):Z13:=reverseRangeG N c d b a
 
theorem jIk :mK 266 (bX [.mtk 800000 Y4 81 false,pI,pI,.clo 157 []] [.tup [],.mtk 800000 Y4 81 false] (c4A (jJs N))):=
 mO ja func266 rfl N (.seq .no (.seq .no (.block (.loop jJB .no)))) _ (rs:=[800000])
def jHL :Sh:=⟨.mtk 800000 Y4 81 false::pI::pI:: .clo 157 []::dz 5 (pI::pI::dz 130 []),[]⟩
def jJh :Sh:=⟨.mtk 800000 Y4 81 false::pI::pI:: .clo 157 []::dz 5 (pI::pI::pI::dz 129 []),[]⟩
def jIF :Sh:=⟨.mtk 800000 Y4 81 false::pI::pI:: .clo 157 []::dz 5 (pI::pI:: .dead::pI::dz 128 []),[]⟩
def jIx (c:List Z0) (d:Int) (b:Int) (a:Unit):Option (Bool×(List Z0)):=pisG (cmp669 N) N c d b a
 
theorem jI1 :mK 267 (bX [.mtk 800000 Y4 81 false,pI,pI,.clo 157 []] [pB,.mtk 800000 Y4 81 false] (c4A (jIx N))):=
 mO (fC (jHC N) ja) func267 rfl N (.seq .no (.seq .no (.seq (.seq .no (.block (.loop jHL (.seq .no (.seq (.block (.seq (.block (.loop jHL .no)) (.seq .no (.seq .no (.seq .no (.meet jHL (.seq .no (.cond (.seq .no (.block (.loop jJh .no))) .no)) (.seq .no (.cond (.seq .no (.block (.loop jIF .no))) .no)))))))) .no))))) .no))) _ (rs:=[800000])
def jHK :Sh:=⟨.mtk 800000 Y4 81 false::pI:: .dead:: .dead:: .clo 157 []::dz 6 (pI::pI::dz 77 []),[]⟩
def jIh (d:List Z0) (e:Int) (c:Int) (b:Int) (a:Unit):Option (Int×(List Z0)):=peqG (cmp669 N) N d e c b a
 
theorem jH7 :mK 268 (bX [.mtk 800000 Y4 81 false,pI,pI,pI,.clo 157 []] [pI,.mtk 800000 Y4 81 false] (c5A (jIh N))):=
 mO (fC (jHC N) ja) func268 rfl N (.seq .no (.seq .no (.seq .no (.seq (.block (.loop jHK (.block (.seq (.block (.loop jHK .no)) (.seq (.block (.loop jHK .no)) .no))))) .no)))) _ (rs:=[800000])
def jHD :Sh:=⟨.mtk 800000 Y4 81 false::pI:: .dead:: .dead:: .clo 157 []::dz 7 (pI::pI::dz 164 []),[]⟩
def jIZ (d:List Z0) (e:Int) (c:Int) (b:Int) (a:Unit):Option (Int×Bool×(List Z0)):=partG (cmp669 N) N d e c b a
 
theorem jJc :mK 269 (bX [.mtk 800000 Y4 81 false,pI,pI,pI,.clo 157 []] [.tup [pI,pB],.mtk 800000 Y4 81 false] (c5A (jIZ N))):=
 mO (fC (jHC N) ja) func269 rfl N (.seq .no (.seq .no (.seq .no (.seq (.block (.loop jHD .no)) (.seq (.block (.loop jHD .no)) (.seq .no (.seq .no (.seq .no (.seq .no (.seq (.block (.loop jHD (.block (.seq (.block (.loop jHD .no)) (.seq (.block (.loop jHD .no)) .no))))) .no)))))))))) _ (rs:=[800000])
def jIv :Sh:=⟨.mtk 800000 Y4 81 false::pI::pI::pI:: .clo 157 []::dz 5 (pB::pB::dz 136 []),[]⟩
def jIt :Sh:=⟨.mtk 800000 Y4 81 false::pI::pI::pI:: .clo 157 []::dz 5 (pB::pB::pI::pI::dz 134 []),[]⟩
def jIU :Sh:=⟨.mtk 800000 Y4 81 false::pI::pI::pI:: .clo 157 []::dz 5 (pB::pB::pI::pI::pI::dz 133 []),[]⟩
def jID :Sh:=⟨.mtk 800000 Y4 81 false::pI::pI::pI:: .clo 157 []::dz 5 (pB::pB::pI::dz 135 []),[]⟩
def jHN (N D:Nat) (h:List Z0) (a b limit:Int) (e:Unit):Z13:=pdqG (cmp669 N) (fun d a b c=>heapG (cmp669 N) N d a b c) (fun d a b f c=>peqG (cmp669 N) N d a b f c) N D h a b limit e
 
def jHF (N D:Nat):Model:=⟨⟨[.mtk 800000 Y4 81 false,pI,pI,pI,.clo 157 []],[]⟩,⟨[.tup [],.mtk 800000 Y4 81 false],[]⟩,c5A (jHN N D)⟩
theorem jJo (N D:Nat) (ih:mK 216 (jHF N D)):mK 216 (jHF N (D+1)):=
 mO (fC ih (fC (jIC N) (fC (jJa N) (fC (jIs N) (fC (jJz N) (fC (jIk N) (fC (jI1 N) (fC (jHC N) (fC (jH7 N) (fC (jJc N) ja)))))))))) func216 rfl N (.seq .no (.seq .no (.block (.loop jIv (.block (.seq .no (.seq .no (.seq .no (.meet jID .no (.seq .no (.meet jIU .no (.meet jIt .no .no)))))))))))) (jHF N (D+1)) (rs:=[800000])
theorem jHV (N:Nat):∀D,mK 216 (jHF N D)
 |0=>modelOk_none ⟨_,func216,by decide,by kernel_rfl⟩ _ (fun a=>rfl)
 |D+1=>jJo N D (jHV N D)
def k_slices_SortFunc_669_m (a:List Z0) (d:Unit):Z13:=
 (oB (k_math_bits_Len_m N (IntKind.u64.wrap (a.length:Int))) fun b=>oB (jHN N N a 0 (a.length:Int) b ()) fun c=>some c)
theorem jIu :mK 156 (bX [.mtk 800000 Y4 81 false,.clo 157 []] [.tup [],.mtk 800000 Y4 81 false] (c2A (k_slices_SortFunc_669_m N))):=
 mO (fC (jda N) (fC (jHV N N) ja)) func156 rfl N .no _ (rs:=[800000])
def jH5 :Sh:=⟨dz 3 (.mtk 600003 Y4 81 false::dz 3 (.pv Y0::pI::pI::dz 11 [])),[]⟩
def i_allAlive_m (d:List Z3):Z13:=
 (iter (fun j (b,h,f,a)=>bif decide (a<f)then oB (idx h a) fun c=>(oB (i_Live_alive_m N c.1.1 c.1.2 c.2) fun e=>if room b.length e.length 56 then if fits (a+1)then j ((b++e),h,f,(a+1))else none else none)else oB (k_slices_SortFunc_669_m N b ()) fun k=>some k) N (([]:List Z0),d,(d.length:Int),(0:Int)))
theorem jHR :mK 80 (bX [.pv Y0] [.own 1 Y4 81 false] (c1A (i_allAlive_m N))):=
 mO (fC (jH4 N) (fC (jIu N) ja)) func80 rfl N (.seq .no (.seq .no (.seq (.seq .no (.block (.loop jH5 .no))) .no))) _ (wr:=[6,16])
def jIf :Sh:=⟨.dead:: .box 1 0::dz 14 (.pv Y0::pI::pI::dz 13 []),[(1,false,[.pv (.sl .str),.pv Y14,.pv Y0])]⟩
noncomputable def i_IndexOk_m (d:List Z1) (j:List Z4) (a:List Z3):Z10:=
 (oB (jaj N d j) fun o=>bif !o then some false else bif decide ((5:Int)<a.length)then some false else iter (fun m (k,e,b,f,h,i)=>bif decide (b<e)then oB (idx k b) fun c=>(oB (i_liveOk_m N f h c.1.1 c.1.2 c.2) fun p=>bif !p then some false else if fits (b+1)then m (k,e,(b+1),f,h,i)else none)else oB (i_allAlive_m N i) fun n=>oB (jbf N n) fun q=>some q) N (a,(a.length:Int),(0:Int),d,j,a))
theorem jIr :mK 28 (bX [.agg [.pv (.sl .str),.pv Y14,.pv Y0]] [pB] (c3A (i_IndexOk_m N))):=
 mO (fC (jdX N) (fC (jJD N) (fC (jHR N) (fC (jjU N) ja)))) func28 rfl N (.seq .no (.seq .no (.seq (.seq .no (.block (.loop jIf .no))) .no))) _
def k_strconv_Itoa_m (N:Nat) (a:Int):Option (Z1):=itoaM a
 
def jOU (N:Nat):Model:=⟨⟨[pI],[]⟩,⟨[pS],[]⟩,c1A (k_strconv_Itoa_m N)⟩
theorem jO0 :mK 40 (jOU N):=jPp
def jXY :Sh:=⟨.dead:: .box 1 0:: .dead::pS::dz 13 (.pv Y17::pI::pI::dz 34 []),[(1,false,[pI,.pv Y17,.pv Y13])]⟩
def jX3 :Sh:=⟨dz 3 (pS::dz 31 (.pv Y13::pI::pI::dz 16 [])),[]⟩
def i_DocPut_m (l:Int) (f:Z7) (p:Z5):Option (Z1):=
 (oB (i_DocOk_m N l f p) fun v=>bif !v then some ([]:List UInt8)else oB (k_strconv_Itoa_m N l) fun j=>if([100,111,99,32]:List UInt8).length+j.length<=9223372036854775807 then if(([100,111,99,32]:List UInt8)++j).length+([10]:List UInt8).length<=9223372036854775807 then iter (fun t (h,q,o,c,u,x,m)=>bif decide (c<o)then oB (idx q c) fun a=>(if([102,105,101,108,100,32]:List UInt8).length+a.1.length<=9223372036854775807 then if(([102,105,101,108,100,32]:List UInt8)++a.1).length+([32]:List UInt8).length<=9223372036854775807 then if((([102,105,101,108,100,32]:List UInt8)++a.1)++([32]:List UInt8)).length+a.2.length<=9223372036854775807 then if(((([102,105,101,108,100,32]:List UInt8)++a.1)++([32]:List UInt8))++a.2).length+([10]:List UInt8).length<=9223372036854775807 then if h.length+((((([102,105,101,108,100,32]:List UInt8)++a.1)++([32]:List UInt8))++a.2)++([10]:List UInt8)).length<=9223372036854775807 then if fits (c+1)then t ((h++((((([102,105,101,108,100,32]:List UInt8)++a.1)++([32]:List UInt8))++a.2)++([10]:List UInt8))),q,o,(c+1),u,x,m)else none else none else none else none else none else none)else iter (fun w (k,r,n,e)=>bif decide (e<n)then oB (idx r e) fun b=>(if([110,117,109,32]:List UInt8).length+b.1.length<=9223372036854775807 then if(([110,117,109,32]:List UInt8)++b.1).length+([32]:List UInt8).length<=9223372036854775807 then oB (k_strconv_Itoa_m N b.2) fun d=>(if((([110,117,109,32]:List UInt8)++b.1)++([32]:List UInt8)).length+d.length<=9223372036854775807 then if(((([110,117,109,32]:List UInt8)++b.1)++([32]:List UInt8))++d).length+([10]:List UInt8).length<=9223372036854775807 then if k.length+((((([110,117,109,32]:List UInt8)++b.1)++([32]:List UInt8))++d)++([10]:List UInt8)).length<=9223372036854775807 then if fits (e+1)then w ((k++((((([110,117,109,32]:List UInt8)++b.1)++([32]:List UInt8))++d)++([10]:List UInt8))),r,n,(e+1))else none else none else none else none)else none else none)else some k) N (h,m,(m.length:Int),(0:Int))) N (((([100,111,99,32]:List UInt8)++j)++([10]:List UInt8)),f,(f.length:Int),(0:Int),l,f,p)else none else none)
theorem jYs :mK 39 (bX [.agg [pI,.pv Y17,.pv Y13]] [pS] (c3A (i_DocPut_m N))):=
 mO (fC (jh0 N) (fC (jO0 N) ja)) func39 rfl N (.seq .no (.seq .no (.seq .no (.seq (.seq .no (.block (.loop jXY .no))) (.seq (.seq .no (.block (.loop jX3 .no))) .no))))) _
def jYE :Sh:=⟨dz 3 (.box 3 0:: .dead::pS::dz 12 (.pv Y3::pI::pI::dz 23 [])),[(3,false,[.pv Y3,.pv Y5,.pv Y19])]⟩
def jX8 :Sh:=⟨dz 5 (pS::dz 24 (.pv Y19::pI::pI::dz 11 [])),[]⟩
noncomputable def i_LivePut_m (v:List Z1) (u:List Z4) (b:List Z0) (l:List Z2) (p:List Int):Option (Z1):=
 (oB (i_IndexOk_m N v u ([((b,l),p)]:List Z3)) fun w=>bif !w then some ([]:List UInt8)else iter (fun t (e,o,k,c,r,z,i)=>bif decide (c<k)then oB (idx o c) fun h=>(oB (i_DocPut_m N h.1 h.2.1 h.2.2) fun n=>if e.length+n.length<=9223372036854775807 then if fits (c+1)then t ((e++n),o,k,(c+1),r,z,i)else none else none)else iter (fun y (j,m,q,d)=>bif decide (d<q)then oB (idx m d) fun x=>(oB (k_strconv_Itoa_m N x) fun a=>if([100,101,97,100,32]:List UInt8).length+a.length<=9223372036854775807 then if(([100,101,97,100,32]:List UInt8)++a).length+([10]:List UInt8).length<=9223372036854775807 then if j.length+((([100,101,97,100,32]:List UInt8)++a)++([10]:List UInt8)).length<=9223372036854775807 then if fits (d+1)then y ((j++((([100,101,97,100,32]:List UInt8)++a)++([10]:List UInt8))),m,q,(d+1))else none else none else none else none)else some j) N (e,i,(i.length:Int),(0:Int))) N (([]:List UInt8),b,(b.length:Int),(0:Int),b,l,p))
theorem jXI :mK 9 (bX [.agg [.pv (.sl .str),.pv Y14],.agg [.pv Y3,.pv Y5,.pv Y19]] [pS] (c5A (i_LivePut_m N))):=
 mO (fC (jIr N) (fC (jYs N) (fC (jO0 N) ja))) func9 rfl N (.seq .no (.seq .no (.seq .no (.seq (.seq .no (.block (.loop jYE .no))) (.seq (.seq .no (.block (.loop jX8 .no))) .no))))) _
def s_l1Dec_m (N:Nat):(D:Nat)->Int->Option (Z1)
 |0,_=>none
 |D+1,n=>
 bif decide (n<(-9223372036854775807))then
 some ([45,57,50,50,51,51,55,50,48,51,54,56,53,52,55,55,53,56,48,56]:List UInt8)
 else
 bif decide (n<0)then
 if fits (0-n)then oB (s_l1Dec_m N D (0-n)) fun r=>
 (if([45]:List UInt8).length+r.length<=9223372036854775807 then
 some (([45]:List UInt8)++r)
 else none)else none
 else
 bif decide (n<10)then
 if fits (48+n)then some (bytesOf ([(IntKind.u8.wrap (48+n))]:List Int))else none
 else
 if 10≠0 then
 if fits (n.tdiv 10)then oB (s_l1Dec_m N D (n.tdiv 10)) fun r2=>
 (if 10≠0 then
 if fits (48+(n.tmod 10))then if r2.length+(bytesOf ([(IntKind.u8.wrap (48+(n.tmod 10)))]:List Int)).length<=9223372036854775807 then
 some (r2++(bytesOf ([(IntKind.u8.wrap (48+(n.tmod 10)))]:List Int)))
 else none else none
 else none)else none
 else none
def jOp (N D:Nat):Model:=⟨⟨[pI],[]⟩,⟨[pS],[]⟩,c1A (s_l1Dec_m N D)⟩
theorem jPg (N D:Nat) (ih:mK 99 (jOp N D)):mK 99 (jOp N (D+1)):=
 mO (fC ih ja) func99 rfl N .no (jOp N (D+1))
theorem jOx (N:Nat):∀D,mK 99 (jOp N D)
 |0=>modelOk_none ⟨_,func99,by decide,by kernel_rfl⟩ _ (fun a=>rfl)
 |D+1=>jPg N D (jOx N D)
def jXV :Sh:=⟨.dead:: .box 1 0:: .dead::pS::pI::dz 58 [],[(1,false,[pI,.pv Y17,.pv Y13])]⟩
def jYl :Sh:=⟨.dead:: .box 1 0:: .dead::pS:: .dead::pI::dz 57 [],[(1,false,[pI,.pv Y17,.pv Y13])]⟩
def s_l6Put_m (o:Int) (v:Z7) (u:Z5):Option (Z1):=
 (oB (s_l1Dec_m N N o) fun l=>if([100,111,99,32]:List UInt8).length+l.length<=9223372036854775807 then if(([100,111,99,32]:List UInt8)++l).length+([10]:List UInt8).length<=9223372036854775807 then iter (fun r (a,c,n,h,p)=>bif decide (c<(h.length:Int))then if a.length+([102,105,101,108,100,32]:List UInt8).length<=9223372036854775807 then oB (idx h c) fun e=>(if(a++([102,105,101,108,100,32]:List UInt8)).length+e.1.length<=9223372036854775807 then if((a++([102,105,101,108,100,32]:List UInt8))++e.1).length+([32]:List UInt8).length<=9223372036854775807 then oB (idx h c) fun m=>(if(((a++([102,105,101,108,100,32]:List UInt8))++e.1)++([32]:List UInt8)).length+m.2.length<=9223372036854775807 then if((((a++([102,105,101,108,100,32]:List UInt8))++e.1)++([32]:List UInt8))++m.2).length+([10]:List UInt8).length<=9223372036854775807 then if fits (c+1)then r ((((((a++([102,105,101,108,100,32]:List UInt8))++e.1)++([32]:List UInt8))++m.2)++([10]:List UInt8)),(c+1),n,h,p)else none else none else none)else none else none)else none else iter (fun w (b,f,q,x,i)=>bif decide (f<(i.length:Int))then if b.length+([110,117,109,32]:List UInt8).length<=9223372036854775807 then oB (idx i f) fun d=>(if(b++([110,117,109,32]:List UInt8)).length+d.1.length<=9223372036854775807 then if((b++([110,117,109,32]:List UInt8))++d.1).length+([32]:List UInt8).length<=9223372036854775807 then oB (idx i f) fun t=>(oB (s_l1Dec_m N N t.2) fun k=>if(((b++([110,117,109,32]:List UInt8))++d.1)++([32]:List UInt8)).length+k.length<=9223372036854775807 then if((((b++([110,117,109,32]:List UInt8))++d.1)++([32]:List UInt8))++k).length+([10]:List UInt8).length<=9223372036854775807 then if fits (f+1)then w ((((((b++([110,117,109,32]:List UInt8))++d.1)++([32]:List UInt8))++k)++([10]:List UInt8)),(f+1),q,x,i)else none else none else none)else none else none)else none else some b) N (a,(0:Int),n,h,p)) N (((([100,111,99,32]:List UInt8)++l)++([10]:List UInt8)),(0:Int),o,v,u)else none else none)
theorem jYI :mK 98 (bX [.agg [pI,.pv Y17,.pv Y13]] [pS] (c3A (s_l6Put_m N))):=
 mO (fC (jOx N N) ja) func98 rfl N (.seq .no (.seq .no (.seq (.seq .no (.block (.loop jXV .no))) (.seq (.seq .no (.block (.loop jYl .no))) .no)))) _
def jX7 :Sh:=⟨.dead:: .box 1 0:: .dead::pS::pI::dz 36 [],[(1,false,[.pv Y3,.pv Y5,.pv Y19])]⟩
def jYu :Sh:=⟨.dead:: .box 1 0:: .dead::pS:: .dead::pI::dz 35 [],[(1,false,[.pv Y3,.pv Y5,.pv Y19])]⟩
def s_l19Seg_m (q:List Z0) (n:List Z2) (t:List Int):Option (Z1):=
 (iter (fun o (e,c,b,m,k)=>bif decide (c<(b.length:Int))then oB (idx b c) fun h=>(oB (s_l6Put_m N h.1 h.2.1 h.2.2) fun l=>if e.length+l.length<=9223372036854775807 then if fits (c+1)then o ((e++l),(c+1),b,m,k)else none else none)else iter (fun v (a,d,p,r,j)=>bif decide (d<(j.length:Int))then if a.length+([100,101,97,100,32]:List UInt8).length<=9223372036854775807 then oB (idx j d) fun u=>(oB (s_l1Dec_m N N u) fun i=>if(a++([100,101,97,100,32]:List UInt8)).length+i.length<=9223372036854775807 then if((a++([100,101,97,100,32]:List UInt8))++i).length+([10]:List UInt8).length<=9223372036854775807 then if fits (d+1)then v ((((a++([100,101,97,100,32]:List UInt8))++i)++([10]:List UInt8)),(d+1),p,r,j)else none else none else none)else none else some a) N (e,(0:Int),b,m,k)) N (([]:List UInt8),(0:Int),q,n,t))
theorem jX1 :mK 42 (bX [.agg [.pv Y3,.pv Y5,.pv Y19]] [pS] (c3A (s_l19Seg_m N))):=
 mO (fC (jYI N) (fC (jOx N N) ja)) func42 rfl N (.seq .no (.seq .no (.seq (.seq .no (.block (.loop jX7 .no))) (.seq (.seq .no (.block (.loop jYu .no))) .no)))) _
def jXx (N:Nat) (b:List UInt8) (a:List UInt8):Option ((List Z1)):=jXq b a
 
def jYt (N:Nat):Model:=⟨⟨[pS,pS],[]⟩,⟨[.pv (.sl .str)],[]⟩,c2A (jXx N)⟩
theorem jYi :mK 44 (jYt N):=jYA
def k_internal_stringslite_HasPrefix_m (N:Nat) (b:List UInt8) (a:List UInt8):Z10:=
 (bif decide ((a.length:Int)<=(b.length:Int))then oB (cut b 0 (a.length:Int)) fun c=>(some (decide (c=a)))else some false)
theorem jXE :mK 108 (bX [pS,pS] [pB] (c2A (k_internal_stringslite_HasPrefix_m N))):=
 mO ja func108 rfl N .no _
def k_internal_stringslite_CutPrefix_m (a:List UInt8) (b:List UInt8):Option (Z1×Bool):=
 (oB (k_internal_stringslite_HasPrefix_m N a b) fun c=>bif !c then some (a,false)else oB (cut a (b.length:Int) (a.length:Int)) fun d=>some (d,true))
theorem jYb :mK 105 (bX [pS,pS] [.tup [pS,pB]] (c2A (k_internal_stringslite_CutPrefix_m N))):=
 mO (fC (jXE N) ja) func105 rfl N .no _
def k_strings_CutPrefix_m (b:List UInt8) (c:List UInt8):Option (Z1×Bool):=
 (oB (k_internal_stringslite_CutPrefix_m N b c) fun a=>some (a.1,a.2))
theorem jYg :mK 45 (bX [pS,pS] [.tup [pS,pB]] (c2A (k_strings_CutPrefix_m N))):=
 mO (fC (jYb N) ja) func45 rfl N .no _
def jXn (N:Nat) (a:List UInt8):Option Int:=atoiM a
 
def jYe (N:Nat):Model:=⟨⟨[pS],[]⟩,⟨[.tup [pI,.dead]],[]⟩,c1A (jXn N)⟩
theorem jXC :mK 46 (jYe N):=jYw
def k_strings_HasPrefix_m (b:List UInt8) (c:List UInt8):Z10:=
 (oB (k_internal_stringslite_HasPrefix_m N b c) fun a=>some a)
theorem jXS :mK 47 (bX [pS,pS] [pB] (c2A (k_strings_HasPrefix_m N))):=
 mO (fC (jXE N) ja) func47 rfl N .no _
def jXr (N:Nat) (b:List UInt8) (a:List UInt8):Option (Z1×Z1×Bool):=cutM b a
 
def jYv (N:Nat):Model:=⟨⟨[pS,pS],[]⟩,⟨[.tup [pS,pS,pB]],[]⟩,c2A (jXr N)⟩
theorem jX0 :mK 109 (jYv N):=jXX
def jYp :Sh:=⟨.dead:: .dead:: .box 2 0:: .box 3 0::dz 13 (.pv (.sl .str)::pI::pI::dz 51 []),[(2,false,[pI,.nils,.nils]),(3,false,[pI,.own 700301 Y18 134 true,.own 700302 Y15 136 true])]⟩
def jXo (l:List Z1):Option Z0:=
 (iter (fun i (e,h,a,k,j,c,d)=>bif decide (a<h)then oB (idx e a) fun o=>(oB (jXr N o ([32]:List UInt8)) fun f=>oB (jXr N f.2.1 ([32]:List UInt8)) fun b=>bif decide (f.1=([100,111,99]:List UInt8))then oB (jXn N f.2.1) fun p=>(if fits (a+1)then i (e,h,(a+1),k,p,c,d)else none)else bif decide (f.1=([102,105,101,108,100]:List UInt8))then if room c.length ([(b.1,b.2.1)]:Z7).length 32 then if fits (a+1)then i (e,h,(a+1),k,j,(c++([(b.1,b.2.1)]:Z7)),d)else none else none else bif decide (f.1=([110,117,109]:List UInt8))then oB (jXn N b.2.1) fun m=>(if room d.length ([(b.1,m)]:Z5).length 24 then if fits (a+1)then i (e,h,(a+1),k,j,c,(d++([(b.1,m)]:Z5)))else none else none)else if fits (a+1)then i (e,h,(a+1),k,j,c,d)else none)else some (j,c,d)) N (l,(l.length:Int),(0:Int),(0:Int),(0:Int),([]:Z7),([]:Z5)))
theorem jYG :mK 48 (bX [.pv (.sl .str)] [.agg [pI,.own 1 Y18 134 true,.own 2 Y15 136 true]] (c1A (jXo N))):=
 mO (fC (jX0 N) (fC (jXC N) ja)) func48 rfl N (.seq .no (.seq .no (.seq (.seq .no (.block (.loop jYp .no))) .no))) _
def jX4 :Sh:=⟨.dead::pS:: .box 2 0:: .dead:: .box 4 0:: .dead:: .own 600006 Y4 81 true:: .own 600007 tI 3 true:: .pv (.sl .str)::pI::dz 92 [],[(2,false,[.pv (.sl .str),.pv Y14]),(4,false,[.nils,.nils,.nils])]⟩
def jYB :Sh:=⟨.dead::pS:: .box 2 0:: .dead:: .box 4 0:: .dead:: .own 600006 Y4 81 true:: .own 600007 tI 3 true:: .pv (.sl .str)::pI::dz 4 (pI::dz 87 []),[(2,false,[.pv (.sl .str),.pv Y14]),(4,false,[.nils,.nils,.nils])]⟩
noncomputable def i_LiveGet_m (A:List Z1) (z:List Z4) (u:List UInt8):Option ((List Z0)×(List Z2)×(List Int)×Bool):=
 (oB (jaj N A z) fun R=>bif !R then some (([]:List Z0),([]:List Z2),([]:List Int),false)else oB (jXx N u ([10]:List UInt8)) fun O=>iter (fun f (m,t,l,p,h,q,o)=>bif decide (h<(p.length:Int))then oB (idx p h) fun D=>(oB (k_strings_CutPrefix_m N D ([100,101,97,100,32]:List UInt8)) fun v=>bif v.2 then oB (jXn N v.1) fun x=>(if room l.length ([x]:List Int).length 8 then if fits (h+1)then f (m,t,(l++([x]:List Int)),p,(h+1),q,o)else none else none)else if fits (h+1)then iter (fun T (j,c,i,a,k,b,d,e)=>bif decide (b<(a.length:Int))then oB (idx a b) fun S=>(oB (k_strings_HasPrefix_m N S ([100,111,99,32]:List UInt8)) fun G=>bif !G then oB (idx a b) fun C=>(oB (k_strings_HasPrefix_m N C ([100,101,97,100,32]:List UInt8)) fun H=>bif !H then if fits (b+1)then T (j,c,i,a,k,(b+1),d,e)else none else oB (idx a k) fun L=>bif !decide (L=([]:List UInt8))then oB (cut a k b) fun E=>(oB (jXo N E) fun y=>if room c.length ([y]:List Z0).length 56 then f (j,(c++([y]:List Z0)),i,a,b,d,e)else none)else f (j,c,i,a,b,d,e))else oB (idx a k) fun I=>bif !decide (I=([]:List UInt8))then oB (cut a k b) fun P=>(oB (jXo N P) fun B=>if room c.length ([B]:List Z0).length 56 then f (j,(c++([B]:List Z0)),i,a,b,d,e)else none)else f (j,c,i,a,b,d,e))else oB (idx a k) fun Q=>bif !decide (Q=([]:List UInt8))then oB (cut a k b) fun K=>(oB (jXo N K) fun w=>if room c.length ([w]:List Z0).length 56 then f (j,(c++([w]:List Z0)),i,a,b,d,e)else none)else f (j,c,i,a,b,d,e)) N (m,t,l,p,h,(h+1),q,o)else none)else oB (jbT N q o t) fun n=>bif decide (m=([]:List UInt8))then some (([]:List Z0),([]:List Z2),([]:List Int),false)else oB (i_LivePut_m N q o n.1 n.2 l) fun U=>bif !decide (U=m)then some (([]:List Z0),([]:List Z2),([]:List Int),false)else some (n.1,n.2,l,true)) N (u,([]:List Z0),([]:List Int),O,(0:Int),A,z))
theorem jYm :mK 11 (bX [.agg [.pv (.sl .str),.pv Y14],pS] [.tup [.agg [.own 1 Y4 81 true,.own 2 Y6 132 true,.own 3 tI 3 true],pB]] (c3A (i_LiveGet_m N))):=
 mO (fC (jdX N) (fC (jYi N) (fC (jYg N) (fC (jXC N) (fC (jXS N) (fC (jYG N) (fC (jqC N) (fC (jXI N) ja)))))))) func11 rfl N (.seq .no (.seq .no (.seq .no (.seq .no (.seq .no (.seq (.seq .no (.block (.loop jX4 (.seq .no (.block (.seq .no (.seq .no (.seq (.block (.loop jYB .no)) .no)))))))) .no)))))) _
def jRj :Sh:=⟨.dead:: .dead:: .box 2 0:: .box 3 0:: .dead::pI::dz 60 [],[(2,false,[pI,.pv Y17,.pv Y13]),(3,false,[pI,.pv Y17,.pv Y13])]⟩
def jRu :Sh:=⟨.dead:: .dead:: .box 2 0:: .box 3 0:: .dead:: .dead::pI::dz 59 [],[(2,false,[pI,.pv Y17,.pv Y13]),(3,false,[pI,.pv Y17,.pv Y13])]⟩
def l_foDoc_m (k:Int) (t:Z7) (w:Z5) (n:Int) (q:Z7) (p:Z5):Z10:=
 (bif !decide (k=n)then some false else bif !decide ((t.length:Int)=(q.length:Int))then some false else bif !decide ((w.length:Int)=(p.length:Int))then some false else iter (fun x (a,u,c,r,o,e,m)=>bif decide (a<(c.length:Int))then oB (idx c a) fun i=>(oB (idx e a) fun v=>bif !((decide (i.1=v.1))&&(decide (i.2=v.2)))then some false else if fits (a+1)then x ((a+1),u,c,r,o,e,m)else none)else iter (fun B (b,A,C,f,y,z,j)=>bif decide (b<(f.length:Int))then oB (idx f b) fun h=>(oB (idx j b) fun l=>bif !((decide (h.1=l.1))&&(decide (h.2=l.2)))then some false else if fits (b+1)then B ((b+1),A,C,f,y,z,j)else none)else some true) N ((0:Int),u,c,r,o,e,m)) N ((0:Int),k,t,w,n,q,p))
theorem jRr :mK 190 (bX [.agg [pI,.pv Y17,.pv Y13],.agg [pI,.pv Y17,.pv Y13]] [pB] (c6A (l_foDoc_m N))):=
 mO ja func190 rfl N (.seq .no (.seq .no (.seq (.seq .no (.block (.loop jRj .no))) (.seq (.seq .no (.block (.loop jRu .no))) .no)))) _
def jRs :Sh:=⟨.pv Y3:: .pv Y3::dz 3 (pI::dz 21 []),[]⟩
def l_foDocs_m (f:List Z0) (h:List Z0):Z10:=
 (bif !decide ((f.length:Int)=(h.length:Int))then some false else iter (fun j (c,e,a)=>bif decide (a<(c.length:Int))then oB (idx c a) fun b=>(oB (idx e a) fun d=>oB (l_foDoc_m N b.1 b.2.1 b.2.2 d.1 d.2.1 d.2.2) fun k=>bif !k then some false else if fits (a+1)then j (c,e,(a+1))else none)else some true) N (f,h,(0:Int)))
theorem jQV :mK 117 (bX [.pv Y3,.pv Y3] [pB] (c2A (l_foDocs_m N))):=
 mO (fC (jRr N) ja) func117 rfl N (.seq .no (.seq .no (.seq (.seq .no (.block (.loop jRs .no))) .no))) _
def l_foInts_m (d:List Int) (e:List Int):Z10:=
 (bif !decide ((d.length:Int)=(e.length:Int))then some false else iter (fun i (b,c,a)=>bif decide (a<(b.length:Int))then oB (idx b a) fun h=>(oB (idx c a) fun j=>bif !decide (h=j)then some false else if fits (a+1)then i (b,c,(a+1))else none)else some true) N (d,e,(0:Int)))
theorem jQS :mK 51 (bX [.pv Y19,.pv Y19] [pB] (c2A (l_foInts_m N))):=
 mO ja func51 rfl N (.seq .no (.seq .no (.seq (.seq .no (.block (.loop jnI .no))) .no))) _
def jQ6 :Sh:=⟨.pv Y11:: .pv Y11::dz 3 (pI::dz 36 []),[]⟩
def l_foPosts_m (d:Z6) (e:Z6):Z10:=
 (bif !decide ((d.length:Int)=(e.length:Int))then some false else iter (fun j (b,c,a)=>bif decide (a<(b.length:Int))then oB (idx b a) fun i=>(oB (idx c a) fun m=>bif !decide (i.1=m.1)then some false else oB (idx b a) fun h=>oB (idx c a) fun k=>oB (l_foInts_m N h.2 k.2) fun l=>bif !l then some false else if fits (a+1)then j (b,c,(a+1))else none)else some true) N (d,e,(0:Int)))
theorem jRl :mK 118 (bX [.pv Y11,.pv Y11] [pB] (c2A (l_foPosts_m N))):=
 mO (fC (jQS N) ja) func118 rfl N (.seq .no (.seq .no (.seq (.seq .no (.block (.loop jQ6 .no))) .no))) _
def jQ7 :Sh:=⟨.dead:: .dead:: .box 2 0:: .box 3 0:: .dead::pI::dz 66 [],[(2,false,[.pv Y3,.pv Y5]),(3,false,[.pv Y3,.pv Y5])]⟩
def l_foSeg_m (d:List Z0) (h:List Z2) (e:List Z0) (f:List Z2):Z10:=
 (oB (l_foDocs_m N d e) fun q=>bif !q then some false else bif !decide ((h.length:Int)=(f.length:Int))then some false else iter (fun l (a,u,b,o,c)=>bif decide (a<(b.length:Int))then oB (idx b a) fun k=>(oB (idx c a) fun r=>bif !decide (k.1=r.1)then some false else oB (idx b a) fun j=>oB (idx c a) fun m=>bif !decide (j.2.1=m.2.1)then some false else oB (idx b a) fun t=>oB (idx c a) fun p=>oB (l_foPosts_m N t.2.2 p.2.2) fun n=>bif !n then some false else if fits (a+1)then l ((a+1),u,b,o,c)else none)else some true) N ((0:Int),d,h,e,f))
theorem jRc :mK 50 (bX [.agg [.pv Y3,.pv Y5],.agg [.pv Y3,.pv Y5]] [pB] (c4A (l_foSeg_m N))):=
 mO (fC (jQV N) (fC (jRl N) ja)) func50 rfl N (.seq .no (.seq .no (.seq (.seq .no (.block (.loop jQ7 .no))) .no))) _
def l_foLive_m (c:List Z0) (f:List Z2) (i:List Int) (h:List Z0) (b:List Z2) (a:List Int):Z10:=
 (oB (l_foSeg_m N c f h b) fun d=>bif d then oB (l_foInts_m N i a) fun e=>(some e)else some false)
theorem jQ4 :mK 12 (bX [.agg [.pv Y3,.pv Y5,.pv Y19],.agg [.pv Y3,.pv Y5,.pv Y19]] [pB] (c6A (l_foLive_m N))):=
 mO (fC (jRc N) (fC (jQS N) ja)) func12 rfl N .no _
def s_l30Bent_m (b:List UInt8) (k:List Int) (j:Int):Option (Z1×(List Int)×Int):=
 (if fits ((b.length:Int)+1)then oB (s_l30Rd_pick_m N ((b.length:Int)+1) k j) fun c=>(oB (s_l30Rd_pick_m N 5 c.2.1 c.2.2) fun a=>bif decide (a.1=0)then bif decide (c.1<(b.length:Int))then oB (cut b 0 c.1) fun f=>(oB (s_l30Rd_of_m N ([([48]:List UInt8),([49]:List UInt8),([32]:List UInt8),([40]:List UInt8),([41]:List UInt8),([10]:List UInt8),([58]:List UInt8),([128]:List UInt8)]:List Z1) a.2.1 a.2.2) fun d=>if f.length+d.1.length<=9223372036854775807 then if fits (c.1+1)then oB (cut b (c.1+1) (b.length:Int)) fun h=>(if(f++d.1).length+h.length<=9223372036854775807 then some (((f++d.1)++h),d.2.1,d.2.2)else none)else none else none)else(some (b,a.2.1,a.2.2))else bif decide (a.1=1)then oB (cut b 0 c.1) fun i=>(some (i,a.2.1,a.2.2))else bif decide (a.1=2)then oB (s_l30Rd_of_m N ([([48]:List UInt8),([32]:List UInt8),([41]:List UInt8),([10]:List UInt8)]:List Z1) a.2.1 a.2.2) fun e=>(if b.length+e.1.length<=9223372036854775807 then some ((b++e.1),e.2.1,e.2.2)else none)else some (b,a.2.1,a.2.2))else none)
theorem jYX :mK 54 ⟨⟨[.box 900000 0,pS],[(900000,false,[.pv (.sl (.int .u8)),pI])]⟩,⟨[pS],[(900000,false,[.pv (.sl (.int .u8)),pI])]⟩,c3A (s_l30Bent_m N)⟩:=
 mO (fC (jtX N) (fC (jt3 N) ja)) func54 rfl N .no _ (rs:=[900000])
def s_DrawLiveGet_m (e:List Int):Option ((List Z1)×(List Z4)×Z1):=
 (oB (s_l30Open_m N e) fun d=>oB (s_l30Index_m N d.1 d.2) fun a=>bif decide ((a.2.2.1.length:Int)=0)then oB (s_l30Rd_of_m N ([([]:List UInt8),([100,111,99,32,49,10]:List UInt8),([100,101,97,100,32,49,10]:List UInt8)]:List Z1) a.2.2.2.1 a.2.2.2.2) fun f=>(some (a.1,a.2.1,f.1))else oB (s_l30Rd_pick_m N (a.2.2.1.length:Int) a.2.2.2.1 a.2.2.2.2) fun c=>oB (idx a.2.2.1 c.1) fun b=>oB (s_l19Seg_m N b.1.1 b.1.2 b.2) fun h=>oB (s_l30Bent_m N h c.2.1 c.2.2) fun i=>some (a.1,a.2.1,i.1))
theorem jYW :mK 13 (bX [.pv (.sl (.int .u8))] [.tup [.agg [.pv (.sl .str),.pv Y14],pS]] (c1A (s_DrawLiveGet_m N))):=
 mO (fC (juQ N) (fC (jNR N) (fC (jt3 N) (fC (jtX N) (fC (jX1 N) (fC (jYX N) ja)))))) func13 rfl N .no _
def jY2 :Sh:=⟨pS:: .pv (.int .u8)::pI::dz 4 (.own 600007 .str 9 true::pI::pI::dz 33 []),[]⟩
def s_l1Cut_m (n:List UInt8) (p:Int) (l:Int):Option ((List Z1)):=
 (iter (fun j (b,e,f,c,d,a)=>bif decide (a<(b.length:Int))then bif decide ((c.length:Int)<f)then oB (idx b a) fun o=>(bif decide ((o.toNat:Int)=e)then oB (cut b d a) fun k=>(if room c.length ([k]:List Z1).length 16 then if fits (a+1)then if fits (a+1)then j (b,e,f,(c++([k]:List Z1)),(a+1),(a+1))else none else none else none)else if fits (a+1)then j (b,e,f,c,d,(a+1))else none)else(oB (cut b d (b.length:Int)) fun i=>if room c.length ([i]:List Z1).length 16 then some (c++([i]:List Z1))else none)else oB (cut b d (b.length:Int)) fun h=>if room c.length ([h]:List Z1).length 16 then some (c++([h]:List Z1))else none) N (n,p,l,([]:List Z1),(0:Int),(0:Int)))
theorem jYN :mK 196 (bX [pS,.pv (.int .u8),pI] [.own 1 .str 9 true] (c3A (s_l1Cut_m N))):=
 mO ja func196 rfl N (.seq .no (.seq .no (.seq .no (.seq (.seq .no (.block (.loop jY2 .no))) .no)))) _
def jY1 :Sh:=⟨pS:: .dead:: .dead::pI::pI::dz 42 [],[]⟩
def s_l1Num_m (h:List UInt8):Option (Int):=
 (iter (fun i (a,c,b)=>bif decide (b<(a.length:Int))then oB (idx a b) fun k=>(bif decide ((k.toNat:Int)<48)then some (-1)else oB (idx a b) fun j=>bif decide ((57:Int)<(j.toNat:Int))then some (-1)else bif decide ((9:Int)<=b)then some (-1)else if fits (c*10)then oB (idx a b) fun d=>(if fits ((c*10)+(IntKind.i64.wrap (IntKind.u8.wrap ((d.toNat:Int)-48))))then if fits (b+1)then i (a,((c*10)+(IntKind.i64.wrap (IntKind.u8.wrap ((d.toNat:Int)-48)))),(b+1))else none else none)else none)else bif decide ((a.length:Int)=0)then some (-1)else bif decide ((1:Int)<a.length)then oB (idx a 0) fun f=>(bif decide ((f.toNat:Int)=48)then some (-1)else some c)else some c) N (h,(0:Int),(0:Int)))
theorem jYO :mK 198 (bX [pS] [pI] (c1A (s_l1Num_m N))):=
 mO ja func198 rfl N (.seq .no (.seq .no (.seq (.seq .no (.block (.loop jY1 .no))) .no))) _
def jYV :Sh:=⟨pS:: .dead:: .box 2 0:: .dead:: .box 4 0:: .own 600005 .str 9 true::pI::dz 100 [],[(2,false,[pI,.nils,.nils]),(4,false,[pI,.own 700401 Y18 134 true,.own 700402 Y15 136 true])]⟩
def s_DocGet_m (s:List UInt8):Option (Int×Z11×Z8×Bool):=
 (oB (s_l1Cut_m N s 10 8) fun r=>iter (fun go (s2,lines,i,b,d,d2,d3)=>if fits (i+1)then bif decide ((i+1)<(lines.length:Int))then oB (idx lines i) fun e=>(oB (s_l1Cut_m N e 32 2) fun r2=>bif decide (i=0)then oB (idx r2 0) fun e2=>(bif decide (e2=([100,111,99]:List UInt8))then bif decide ((r2.length:Int)=2)then oB (idx r2 1) fun e3=>(oB (s_l1Num_m N e3) fun r3=>if fits (i+1)then go (s2,lines,(i+1),b,r3,d2,d3)else none)else(bif decide ((0:Int)<i)then oB (idx r2 0) fun e4=>(bif decide (e4=([102,105,101,108,100]:List UInt8))then bif decide ((r2.length:Int)=3)then oB (idx r2 1) fun e5=>(oB (idx r2 2) fun e6=>if room d2.length ([(e5,e6)]:Z7).length 32 then if fits (i+1)then go (s2,lines,(i+1),b,d,(d2++([(e5,e6)]:Z7)),d3)else none else none)else(bif decide ((0:Int)<i)then oB (idx r2 0) fun e7=>(bif decide (e7=([110,117,109]:List UInt8))then bif decide ((r2.length:Int)=3)then oB (idx r2 1) fun e8=>(oB (idx r2 2) fun e9=>oB (s_l1Num_m N e9) fun r4=>if room d3.length ([(e8,r4)]:Z5).length 24 then if fits (i+1)then go (s2,lines,(i+1),b,d,d2,(d3++([(e8,r4)]:Z5)))else none else none)else(some (0,([]:Z7),([]:Z5),false))else some (0,([]:Z7),([]:Z5),false))else some (0,([]:Z7),([]:Z5),false))else bif decide ((0:Int)<i)then oB (idx r2 0) fun e10=>(bif decide (e10=([110,117,109]:List UInt8))then bif decide ((r2.length:Int)=3)then oB (idx r2 1) fun e11=>(oB (idx r2 2) fun e12=>oB (s_l1Num_m N e12) fun r5=>if room d3.length ([(e11,r5)]:Z5).length 24 then if fits (i+1)then go (s2,lines,(i+1),b,d,d2,(d3++([(e11,r5)]:Z5)))else none else none)else(some (0,([]:Z7),([]:Z5),false))else some (0,([]:Z7),([]:Z5),false))else some (0,([]:Z7),([]:Z5),false))else bif decide ((0:Int)<i)then oB (idx r2 0) fun e13=>(bif decide (e13=([110,117,109]:List UInt8))then bif decide ((r2.length:Int)=3)then oB (idx r2 1) fun e14=>(oB (idx r2 2) fun e15=>oB (s_l1Num_m N e15) fun r6=>if room d3.length ([(e14,r6)]:Z5).length 24 then if fits (i+1)then go (s2,lines,(i+1),b,d,d2,(d3++([(e14,r6)]:Z5)))else none else none)else(some (0,([]:Z7),([]:Z5),false))else some (0,([]:Z7),([]:Z5),false))else some (0,([]:Z7),([]:Z5),false))else bif decide ((0:Int)<i)then oB (idx r2 0) fun e16=>(bif decide (e16=([102,105,101,108,100]:List UInt8))then bif decide ((r2.length:Int)=3)then oB (idx r2 1) fun e17=>(oB (idx r2 2) fun e18=>if room d2.length ([(e17,e18)]:Z7).length 32 then if fits (i+1)then go (s2,lines,(i+1),b,d,(d2++([(e17,e18)]:Z7)),d3)else none else none)else(bif decide ((0:Int)<i)then oB (idx r2 0) fun e19=>(bif decide (e19=([110,117,109]:List UInt8))then bif decide ((r2.length:Int)=3)then oB (idx r2 1) fun e20=>(oB (idx r2 2) fun e21=>oB (s_l1Num_m N e21) fun r7=>if room d3.length ([(e20,r7)]:Z5).length 24 then if fits (i+1)then go (s2,lines,(i+1),b,d,d2,(d3++([(e20,r7)]:Z5)))else none else none)else(some (0,([]:Z7),([]:Z5),false))else some (0,([]:Z7),([]:Z5),false))else some (0,([]:Z7),([]:Z5),false))else bif decide ((0:Int)<i)then oB (idx r2 0) fun e22=>(bif decide (e22=([110,117,109]:List UInt8))then bif decide ((r2.length:Int)=3)then oB (idx r2 1) fun e23=>(oB (idx r2 2) fun e24=>oB (s_l1Num_m N e24) fun r8=>if room d3.length ([(e23,r8)]:Z5).length 24 then if fits (i+1)then go (s2,lines,(i+1),b,d,d2,(d3++([(e23,r8)]:Z5)))else none else none)else(some (0,([]:Z7),([]:Z5),false))else some (0,([]:Z7),([]:Z5),false))else some (0,([]:Z7),([]:Z5),false))else bif decide ((0:Int)<i)then oB (idx r2 0) fun e25=>(bif decide (e25=([110,117,109]:List UInt8))then bif decide ((r2.length:Int)=3)then oB (idx r2 1) fun e26=>(oB (idx r2 2) fun e27=>oB (s_l1Num_m N e27) fun r9=>if room d3.length ([(e26,r9)]:Z5).length 24 then if fits (i+1)then go (s2,lines,(i+1),b,d,d2,(d3++([(e26,r9)]:Z5)))else none else none)else(some (0,([]:Z7),([]:Z5),false))else some (0,([]:Z7),([]:Z5),false))else some (0,([]:Z7),([]:Z5),false))else bif decide ((0:Int)<i)then oB (idx r2 0) fun e28=>(bif decide (e28=([102,105,101,108,100]:List UInt8))then bif decide ((r2.length:Int)=3)then oB (idx r2 1) fun e29=>(oB (idx r2 2) fun e30=>if room d2.length ([(e29,e30)]:Z7).length 32 then if fits (i+1)then go (s2,lines,(i+1),b,d,(d2++([(e29,e30)]:Z7)),d3)else none else none)else(bif decide ((0:Int)<i)then oB (idx r2 0) fun e31=>(bif decide (e31=([110,117,109]:List UInt8))then bif decide ((r2.length:Int)=3)then oB (idx r2 1) fun e32=>(oB (idx r2 2) fun e33=>oB (s_l1Num_m N e33) fun r10=>if room d3.length ([(e32,r10)]:Z5).length 24 then if fits (i+1)then go (s2,lines,(i+1),b,d,d2,(d3++([(e32,r10)]:Z5)))else none else none)else(some (0,([]:Z7),([]:Z5),false))else some (0,([]:Z7),([]:Z5),false))else some (0,([]:Z7),([]:Z5),false))else bif decide ((0:Int)<i)then oB (idx r2 0) fun e34=>(bif decide (e34=([110,117,109]:List UInt8))then bif decide ((r2.length:Int)=3)then oB (idx r2 1) fun e35=>(oB (idx r2 2) fun e36=>oB (s_l1Num_m N e36) fun r11=>if room d3.length ([(e35,r11)]:Z5).length 24 then if fits (i+1)then go (s2,lines,(i+1),b,d,d2,(d3++([(e35,r11)]:Z5)))else none else none)else(some (0,([]:Z7),([]:Z5),false))else some (0,([]:Z7),([]:Z5),false))else some (0,([]:Z7),([]:Z5),false))else bif decide ((0:Int)<i)then oB (idx r2 0) fun e37=>(bif decide (e37=([110,117,109]:List UInt8))then bif decide ((r2.length:Int)=3)then oB (idx r2 1) fun e38=>(oB (idx r2 2) fun e39=>oB (s_l1Num_m N e39) fun r12=>if room d3.length ([(e38,r12)]:Z5).length 24 then if fits (i+1)then go (s2,lines,(i+1),b,d,d2,(d3++([(e38,r12)]:Z5)))else none else none)else(some (0,([]:Z7),([]:Z5),false))else some (0,([]:Z7),([]:Z5),false))else some (0,([]:Z7),([]:Z5),false))else(oB (jcb N d d2 d3) fun r13=>bif !r13 then some (0,([]:Z7),([]:Z5),false)else oB (s_l6Put_m N d d2 d3) fun r14=>bif !decide (r14=s2)then some (0,([]:Z7),([]:Z5),false)else some (d,d2,d3,true))else none) N (s,r,(0:Int),(0:Int),(0:Int),([]:Z7),([]:Z5)))
theorem jYP :mK 197 (bX [pS] [.tup [.agg [pI,.own 1 Y18 134 true,.own 2 Y15 136 true],pB]] (c1A (s_DocGet_m N))):=
 mO (fC (jYN N) (fC (jYO N) (fC (jpD N) (fC (jYI N) ja)))) func197 rfl N (.seq .no (.seq .no (.seq .no (.seq (.seq .no (.block (.loop jYV .no))) .no)))) _
def jYZ :Sh:=⟨dz 4 (.own 600004 Y4 81 true:: .own 600005 tI 3 true:: .own 600006 .str 9 true::pS::pI::dz 73 []),[]⟩
def jY0 :Sh:=⟨dz 4 (.own 49 Y4 81 true:: .own 600005 tI 3 true:: .own 600006 .str 9 true::pS::pI:: .own 27001 .str 9 true::dz 72 []),[]⟩
def s_l19Docs_m (x:List UInt8):Option ((List Z0)×(List Int)):=
 (oB (s_l1Cut_m N x 10 400) fun z=>iter (fun m (j,n,i,l,d)=>bif decide (d<(i.length:Int))then oB (idx i d) fun w=>(oB (s_l1Cut_m N w 32 1) fun f=>meet (fun(q:(List Z0)×(List Int)×(List Z1)×Z1×Int×(List Z1))=>match q with|(k,h,c,b,a,r)=>bif decide ((r.length:Int)=2)then oB (idx r 0) fun y=>(bif decide (y=([100,101,97,100]:List UInt8))then oB (idx r 1) fun B=>(oB (s_l1Num_m N B) fun u=>if room h.length ([u]:List Int).length 8 then if fits (a+1)then m (k,(h++([u]:List Int)),c,b,(a+1))else none else none)else if fits (a+1)then bif decide ((a+1)<(c.length:Int))then oB (idx c a) fun t=>(if b.length+t.length<=9223372036854775807 then if(b++t).length+([10]:List UInt8).length<=9223372036854775807 then if fits (a+1)then m (k,h,c,((b++t)++([10]:List UInt8)),(a+1))else none else none else none)else(if fits (a+1)then m (k,h,c,b,(a+1))else none)else none)else if fits (a+1)then bif decide ((a+1)<(c.length:Int))then oB (idx c a) fun p=>(if b.length+p.length<=9223372036854775807 then if(b++p).length+([10]:List UInt8).length<=9223372036854775807 then if fits (a+1)then m (k,h,c,((b++p)++([10]:List UInt8)),(a+1))else none else none else none)else(if fits (a+1)then m (k,h,c,b,(a+1))else none)else none) fun o=>bif !decide (l=([]:List UInt8))then oB (idx f 0) fun A=>(bif !decide (A=([102,105,101,108,100]:List UInt8))then oB (idx f 0) fun v=>(bif !decide (v=([110,117,109]:List UInt8))then oB (s_DocGet_m N l) fun e=>(if room j.length ([(e.1,e.2.1,e.2.2.1)]:List Z0).length 56 then o ((j++([(e.1,e.2.1,e.2.2.1)]:List Z0)),n,i,([]:List UInt8),d,f)else none)else o (j,n,i,l,d,f))else o (j,n,i,l,d,f))else o (j,n,i,l,d,f))else some (j,n)) N (([]:List Z0),([]:List Int),z,([]:List UInt8),(0:Int)))
theorem jYQ :mK 129 (bX [pS] [.tup [.own 1 Y4 81 true,.own 2 tI 3 true]] (c1A (s_l19Docs_m N))):=
 mO (fC (jYN N) (fC (jYP N) (fC (jYO N) ja))) func129 rfl N (.seq .no (.seq .no (.seq .no (.seq .no (.seq .no (.seq (.seq .no (.block (.loop jYZ (.seq .no (.seq (.block (.seq .no (.meet jY0 .no .no))) .no))))) .no)))))) _
def s_l19Get_m (e:List Z1) (d:List Z4) (c:List UInt8):Option ((List Z0)×(List Z2)×(List Int)×Bool):=
 (oB (s_l19Docs_m N c) fun a=>oB (jbU N a.1) fun f=>bif !f then some (([]:List Z0),([]:List Z2),([]:List Int),false)else bif decide ((a.1.length:Int)=0)then some (([]:List Z0),([]:List Z2),([]:List Int),false)else oB (s_l7Of_m N e d a.1) fun b=>oB (s_l18Ok_m N e d ([(b,a.2)]:List Z3)) fun i=>bif !i then some (([]:List Z0),([]:List Z2),([]:List Int),false)else oB (s_l19Seg_m N b.1 b.2 a.2) fun h=>bif !decide (h=c)then some (([]:List Z0),([]:List Z2),([]:List Int),false)else some (b.1,b.2,a.2,true))
theorem jYR :mK 56 (bX [.agg [.pv (.sl .str),.pv Y14],pS] [.tup [.agg [.pv Y3,.pv Y5,.pv Y19],pB]] (c3A (s_l19Get_m N))):=
 mO (fC (jYQ N) (fC (jpx N) (fC (jmU N) (fC (jIW N) (fC (jX1 N) ja))))) func56 rfl N .no _
def s_LiveGet_m (b:List Z1) (c:List Z4) (e:List UInt8):Option ((List Z0)×(List Z2)×(List Int)×Bool):=
 (oB (jcw N b c) fun d=>bif !d then some (([]:List Z0),([]:List Z2),([]:List Int),false)else oB (s_l19Get_m N b c e) fun a=>some (a.1,a.2.1,a.2.2.1,a.2.2.2))
theorem jYT :mK 14 (bX [.agg [.pv (.sl .str),.pv Y14],pS] [.tup [.agg [.pv Y3,.pv Y5,.pv Y19],pB]] (c3A (s_LiveGet_m N))):=
 mO (fC (jtf N) (fC (jYR N) ja)) func14 rfl N .no _
noncomputable def l_FnLiveGet_m (d:List Int):Z10:=
 (bif decide ((1048576:Int)<d.length)then some true else oB (s_DrawLiveGet_m N d) fun c=>oB (i_LiveGet_m N c.1 c.2.1 c.2.2) fun a=>oB (s_LiveGet_m N c.1 c.2.1 c.2.2) fun b=>bif !(a.2.2.2==b.2.2.2)then bif a.2.2.2==b.2.2.2 then oB (l_foLive_m N a.1 a.2.1 a.2.2.1 b.1 b.2.1 b.2.2.1) fun j=>(some j)else(some false)else oB (l_foLive_m N a.1 a.2.1 a.2.2.1 b.1 b.2.1 b.2.2.1) fun f=>bif !f then bif a.2.2.2==b.2.2.2 then oB (l_foLive_m N a.1 a.2.1 a.2.2.1 b.1 b.2.1 b.2.2.1) fun h=>(some h)else(some false)else bif !a.2.2.2 then bif a.2.2.2==b.2.2.2 then oB (l_foLive_m N a.1 a.2.1 a.2.2.1 b.1 b.2.1 b.2.2.1) fun e=>(some e)else(some false)else oB (i_LivePut_m N c.1 c.2.1 a.1 a.2.1 a.2.2.1) fun i=>some (decide (i=c.2.2)))
noncomputable def jYM (N:Nat):Model:=⟨⟨[.pv (.sl (.int .u8))],[]⟩,⟨[pB],[]⟩,c1A (l_FnLiveGet_m N)⟩
theorem jY3 :mK 4 (jYM N):=
 mO (fC (jYW N) (fC (jYm N) (fC (jYT N) (fC (jQ4 N) (fC (jXI N) ja))))) func4 rfl N .no (jYM N)
end Go.Proofs.YtcdcmcgdgnibmaaGreatDoor
