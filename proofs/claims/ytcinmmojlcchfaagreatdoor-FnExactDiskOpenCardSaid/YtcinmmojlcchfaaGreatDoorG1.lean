import Derived.Test.YtcinmmojlcchfaaGreatDoorG1A
set_option linter.unusedVariables false
set_option linter.unusedSimpArgs false
namespace Go.Proofs.YtcinmmojlcchfaaGreatDoor
open Go.RowKit Go.Proofs.Tryz
variable (N : Nat)
open Option renaming bind -> oB
def jIP :Sh:=⟨.pv Y19::pI::dz 5 (pI::pI::dz 10 []),[]⟩
def k_slices_Index_484_m (b:List Int) (h:Int):Z12:=
 (iter (fun i (c,e,d,a)=>bif decide (a<d)then oB (idx c a) fun j=>(bif decide (e=j)then some a else if fits (a+1)then i (c,e,d,(a+1))else none)else some (-1)) N (b,h,(b.length:Int),(0:Int)))
theorem jJu :mK 271 (bX [.pv Y19,pI] [pI] (c2A (k_slices_Index_484_m N))):=
 mO ja func271 rfl N (.seq .no (.seq (.seq .no (.block (.loop jIP .no))) .no)) _
def k_slices_Contains_735_m (b:List Int) (c:Int):Z8:=
 (oB (k_slices_Index_484_m N b c) fun a=>some (decide ((0:Int)<=a)))
theorem jIT :mK 220 (bX [.pv Y19,pI] [pB] (c2A (k_slices_Contains_735_m N))):=
 mO (fC (jJu N) ja) func220 rfl N .no _
def jIi :Sh:=⟨.dead:: .box 1 0:: .dead:: .own 600003 Y4 95 false::dz 5 (.pv Y3::pI::pI::dz 15 []),[(1,false,[.pv Y3,.pv Y5,.pv Y19])]⟩
def i_Live_alive_m (f:List Z0) (o:List Z2) (n:List Int):Z14:=
 (iter (fun i (b,c,e,a,j,k,d)=>bif decide (a<e)then oB (idx c a) fun h=>(oB (k_slices_Contains_735_m N d h.1) fun l=>bif !l then if room b.length ([h]:List Z0).length 56 then if fits (a+1)then i ((b++([h]:List Z0)),c,e,(a+1),j,k,d)else none else none else if fits (a+1)then i (b,c,e,(a+1),j,k,d)else none)else some b) N (([]:List Z0),f,(f.length:Int),(0:Int),f,o,n))
theorem jH4 :mK 152 (bX [.agg [.pv Y3,.pv Y5,.pv Y19]] [.own 1 Y4 95 false] (c3A (i_Live_alive_m N))):=
 mO (fC (jIT N) ja) func152 rfl N (.seq .no (.seq .no (.seq (.seq .no (.block (.loop jIi .no))) .no))) _
def jIO :Sh:=⟨dz 3 (.box 3 0::dz 17 (.pv Y19::pI::pI::dz 16 [])),[(3,true,[.pv Y3,.pv Y5,.pv Y19])]⟩
noncomputable def i_liveOk_m (n:List Z1) (t:List Z4) (j:List Z0) (i:List Z2) (a:List Int):Z8:=
 (oB (jbN N n t j i) fun q=>bif !q then some false else oB (jx1 N a) fun o=>bif !o then some false else iter (fun m (e,f,b,c,d,h)=>bif decide (b<f)then oB (idx e b) fun r=>(oB (i_Seg_doc_m N (c,d) r) fun k=>bif !k.2.2.2 then some false else if fits (b+1)then m (e,f,(b+1),c,d,h)else none)else oB (i_Live_alive_m N c d h) fun p=>some (decide ((0:Int)<p.length))) N (a,(a.length:Int),(0:Int),j,i,a))
theorem jJD :mK 72 (bX [.agg [.pv (.sl .str),.pv Y14],.agg [.pv Y3,.pv Y5,.pv Y19]] [pB] (c5A (i_liveOk_m N))):=
 mO (fC (joa N) (fC (jAN N) (fC (jlU N) (fC (jH4 N) ja)))) func72 rfl N (.seq .no (.seq .no (.seq (.seq .no (.block (.loop jIO .no))) .no))) _
def jl0 :Sh:=⟨.pv (.int .u64):: .dead::pI::dz 22 [],[]⟩
def k_math_bits_Len64_m (N:Nat) (d:Int):Z12:=
 (meet (fun(a:Int×Int)=>match a with|(b,e)=>meet (fun(a:Int×Int)=>match a with|(f,c)=>meet (fun(a:Int×Int)=>match a with|(m,i)=>oB (idx ([0,1,2,2,3,3,3,3,4,4,4,4,4,4,4,4,5,5,5,5,5,5,5,5,5,5,5,5,5,5,5,5,6,6,6,6,6,6,6,6,6,6,6,6,6,6,6,6,6,6,6,6,6,6,6,6,6,6,6,6,6,6,6,6,7,7,7,7,7,7,7,7,7,7,7,7,7,7,7,7,7,7,7,7,7,7,7,7,7,7,7,7,7,7,7,7,7,7,7,7,7,7,7,7,7,7,7,7,7,7,7,7,7,7,7,7,7,7,7,7,7,7,7,7,7,7,7,7,8,8,8,8,8,8,8,8,8,8,8,8,8,8,8,8,8,8,8,8,8,8,8,8,8,8,8,8,8,8,8,8,8,8,8,8,8,8,8,8,8,8,8,8,8,8,8,8,8,8,8,8,8,8,8,8,8,8,8,8,8,8,8,8,8,8,8,8,8,8,8,8,8,8,8,8,8,8,8,8,8,8,8,8,8,8,8,8,8,8,8,8,8,8,8,8,8,8,8,8,8,8,8,8,8,8,8,8,8,8,8,8,8,8,8,8,8,8,8,8,8,8,8,8,8,8,8,8]:List UInt8) (IntKind.u8.wrap m)) fun j=>if fits (i+(IntKind.i64.wrap (j.toNat:Int)))then some (i+(IntKind.i64.wrap (j.toNat:Int)))else none) fun l=>bif decide ((256:Int)<=f)then if 0<=(8:Int)then if fits (c+8)then l ((f.fdiv (2^(min (8:Int).toNat (IntKind.bits .u64)))),(c+8))else none else none else l (f,c)) fun k=>bif decide ((65536:Int)<=b)then if 0<=(16:Int)then if fits (e+16)then k ((b.fdiv (2^(min (16:Int).toNat (IntKind.bits .u64)))),(e+16))else none else none else k (b,e)) fun h=>bif decide ((4294967296:Int)<=d)then if 0<=(32:Int)then h ((d.fdiv (2^(min (32:Int).toNat (IntKind.bits .u64)))),32)else none else h (d,0))
theorem jrK :mK 256 (bX [.pv (.int .u64)] [pI] (c1A (k_math_bits_Len64_m N))):=
 mO ja func256 rfl N (.seq .no (.meet jl0 .no (.meet jl0 .no (.meet jl0 .no .no)))) _
def k_math_bits_Len_m (a:Int):Z12:=
 (oB (k_math_bits_Len64_m N a) fun b=>some b)
theorem jda :mK 203 (bX [.pv (.int .u64)] [pI] (c1A (k_math_bits_Len_m N))):=
 mO (fC (jrK N) ja) func203 rfl N .no _
def k_cmp_isNaN_538_m (N:Nat) (a:Int):Z8:=
 (some (!decide (a=a)))
theorem joK :mK 222 (bX [pI] [pB] (c1A (k_cmp_isNaN_538_m N))):=
 mO ja func222 rfl N .no _
def k_cmp_Compare_992_m (a:Int) (b:Int):Z12:=
 (oB (k_cmp_isNaN_538_m N a) fun d=>oB (k_cmp_isNaN_538_m N b) fun c=>bif d then bif c then some 0 else(some (-1))else bif c then some 1 else bif decide (a<b)then some (-1)else bif decide (b<a)then some 1 else some 0)
theorem jpP :mK 156 (bX [pI,pI] [pI] (c2A (k_cmp_Compare_992_m N))):=
 mO (fC (joK N) ja) func156 rfl N .no _
def i_allAlive_1_m (c:Int) (f:Z7) (e:Z5) (b:Int) (h:Z7) (d:Z5):Z12:=
 (oB (k_cmp_Compare_992_m N c b) fun a=>some a)
theorem jHC :mK 155 (bX [.agg [pI,.pv Y17,.pv Y13],.agg [pI,.pv Y17,.pv Y13]] [pI] (c6A (i_allAlive_1_m N))):=
 mO (fC (jpP N) ja) func155 rfl N .no _
def k_slices_nextPowerOfTwo_m (b:Int):Z12:=
 (oB (k_math_bits_Len_m N (IntKind.u64.wrap b)) fun a=>if 0<=a then some (IntKind.u64.wrap ((1:Int)*2^(min a.toNat (IntKind.bits .u64))))else none)
theorem jhv :mK 308 (bX [pI] [.pv (.int .u64)] (c1A (k_slices_nextPowerOfTwo_m N))):=
 mO (fC (jda N) ja) func308 rfl N .no _
def k__slices_xorshift_Next_m (N:Nat) (a:Int):Option (Int×Int):=
 (if 0<=(13:Int)then if 0<=(7:Int)then if 0<=(17:Int)then some ((bitsI .xor .u64 (bitsI .xor .u64 (bitsI .xor .u64 a (IntKind.u64.wrap (a*2^(min (13:Int).toNat (IntKind.bits .u64))))) ((bitsI .xor .u64 a (IntKind.u64.wrap (a*2^(min (13:Int).toNat (IntKind.bits .u64))))).fdiv (2^(min (7:Int).toNat (IntKind.bits .u64))))) (IntKind.u64.wrap ((bitsI .xor .u64 (bitsI .xor .u64 a (IntKind.u64.wrap (a*2^(min (13:Int).toNat (IntKind.bits .u64))))) ((bitsI .xor .u64 a (IntKind.u64.wrap (a*2^(min (13:Int).toNat (IntKind.bits .u64))))).fdiv (2^(min (7:Int).toNat (IntKind.bits .u64)))))*2^(min (17:Int).toNat (IntKind.bits .u64))))),(bitsI .xor .u64 (bitsI .xor .u64 (bitsI .xor .u64 a (IntKind.u64.wrap (a*2^(min (13:Int).toNat (IntKind.bits .u64))))) ((bitsI .xor .u64 a (IntKind.u64.wrap (a*2^(min (13:Int).toNat (IntKind.bits .u64))))).fdiv (2^(min (7:Int).toNat (IntKind.bits .u64))))) (IntKind.u64.wrap ((bitsI .xor .u64 (bitsI .xor .u64 a (IntKind.u64.wrap (a*2^(min (13:Int).toNat (IntKind.bits .u64))))) ((bitsI .xor .u64 a (IntKind.u64.wrap (a*2^(min (13:Int).toNat (IntKind.bits .u64))))).fdiv (2^(min (7:Int).toNat (IntKind.bits .u64)))))*2^(min (17:Int).toNat (IntKind.bits .u64))))))else none else none else none)
theorem jet :mK 309 ⟨⟨[.box 900000 0],[(900000,false,[.pv (.int .u64)])]⟩,⟨[.pv (.int .u64)],[(900000,false,[.pv (.int .u64)])]⟩,c1A (k__slices_xorshift_Next_m N)⟩:=
 mO ja func309 rfl N .no _ (rs:=[900000])
section
variable {α γ ρ : Type} (c : γ -> α -> α -> Option Int)
def swpG (d:List α) (i j:Int) (k:List α->Option ρ):Option ρ:=
 if 0<=j/\j<(d.length:Int)then oB (d[j.toNat]?) fun e=>if 0<=i/\i<(d.length:Int)then oB (d[i.toNat]?) fun e2=>
  if 0<=i/\i<(d.length:Int)then oB (d[i.toNat]?) fun e3=>if 0<=j/\j<((d.set i.toNat e).length:Int)then oB ((d.set i.toNat e)[j.toNat]?) fun e4=>k ((d.set i.toNat e).set j.toNat e2)
  else none else none else none else none
def cmpG (ks:γ) (d:List α) (i j:Int) (k:Int->Option ρ):Option ρ:=
 if 0<=i/\i<(d.length:Int)then oB (d[i.toNat]?) fun e=>if 0<=j/\j<(d.length:Int)then oB (d[j.toNat]?) fun e2=>oB (c ks e e2) k else none else none
def cmpP (ks:γ) (d:List α) (j:Int) (k:Int->Option ρ):Option ρ:=
 if 0<=j/\j<(d.length:Int)then oB (d[j.toNat]?) fun e=>if fits (j-1)then if 0<=(j-1)/\(j-1)<(d.length:Int)then oB (d[(j-1).toNat]?) fun e2=>oB (c ks e e2) k else none else none else none
def swpP (d:List α) (j:Int) (k:List α->Option ρ):Option ρ:=if fits (j-1)then if fits (j-1)then swpG d j (j-1) k else none else none
def insG (N:Nat) (d:List α) (a b:Int) (ks:γ):Option (List α):=
 if fits (a+1)then iter (fun go (g:List α×Int×Int×γ×Int)=>
  match g with
  |(d2,a2,b2,ks2,i)=>
  bif decide (i<b2)then
   iter (fun go2 (g:List α×Int×Int×γ×Int×Int)=>
    match g with
    |(d3,a3,b3,ks3,i2,j)=>
    bif decide (a3<j)then cmpP c ks3 d3 j fun r=>bif decide (r<0)then swpP d3 j fun d=>if fits (j-1)then go2 (d,a3,b3,ks3,i2,j-1)else none
     else if fits (i2+1)then go (d3,a3,b3,ks3,i2+1)else none
    else if fits (i2+1)then go (d3,a3,b3,ks3,i2+1)else none) N (d2,a2,b2,ks2,i,i)
  else some d2) N (d,a,b,ks,a+1)else none
def siftG (N:Nat) (data:List α) (lo:Int) (hi:Int) (first:Int) (cmp:γ):Option ((List α)):=
 (iter (fun go (g:(List α)×Int×Int×γ×Int)=>
   match g with
   |(data2,hi2,first2,cmp2,root)=>
   (if fits (2*root)then(if fits ((2*root)+1)then(bif(decide (hi2<=((2*root)+1)))then
      (some data2)
      else
      (meet (fun(g:(List α)×Int×Int×γ×Int×Int)=>
        match g with
        |(data3,hi3,first3,cmp3,root2,child)=>
        (if fits (first3+root2)then(if 0<=(first3+root2)/\(first3+root2)<(data3.length:Int)then
          (oB (data3[(first3+root2).toNat]?) fun e3=>
           (if fits (first3+child)then(if 0<=(first3+child)/\(first3+child)<(data3.length:Int)then
             (oB (data3[(first3+child).toNat]?) fun e4=>
              (oB (c cmp3 e3 e4) fun r2=>
               (bif(!(decide (r2<0)))then
                (some data3)
                else
                (if fits (first3+root2)then(if fits (first3+child)then(if fits (first3+child)then(if 0<=(first3+child)/\(first3+child)<(data3.length:Int)then
                    (oB (data3[(first3+child).toNat]?) fun e5=>
                     (if fits (first3+root2)then(if 0<=(first3+root2)/\(first3+root2)<(data3.length:Int)then
                       (oB (data3[(first3+root2).toNat]?) fun e6=>
                        (if 0<=(first3+root2)/\(first3+root2)<(data3.length:Int)then
                         (oB (data3[(first3+root2).toNat]?) fun e7=>
                          (if 0<=(first3+child)/\(first3+child)<((data3.set (first3+root2).toNat e5).length:Int)then
                           (oB ((data3.set (first3+root2).toNat e5)[(first3+child).toNat]?) fun e8=>
                            (go (((data3.set (first3+root2).toNat e5).set (first3+child).toNat e6),hi3,first3,cmp3,child)))
                           else none))
                         else none))
                       else none)else none))
                    else none)else none)else none)else none))))
             else none)else none))
          else none)else none)) fun J=>
       (if fits (((2*root)+1)+1)then(bif(decide ((((2*root)+1)+1)<hi2))then
         (if fits (first2+((2*root)+1))then(if 0<=(first2+((2*root)+1))/\(first2+((2*root)+1))<(data2.length:Int)then
           (oB (data2[(first2+((2*root)+1)).toNat]?) fun e=>
            (if fits (first2+((2*root)+1))then(if fits ((first2+((2*root)+1))+1)then(if 0<=((first2+((2*root)+1))+1)/\((first2+((2*root)+1))+1)<(data2.length:Int)then
               (oB (data2[((first2+((2*root)+1))+1).toNat]?) fun e2=>
                (oB (c cmp2 e e2) fun r=>
                 (bif(decide (r<0))then
                  (if fits (((2*root)+1)+1)then(J (data2,hi2,first2,cmp2,root,(((2*root)+1)+1)))else none)
                  else
                  (J (data2,hi2,first2,cmp2,root,((2*root)+1))))))
               else none)else none)else none))
           else none)else none)
         else
         (J (data2,hi2,first2,cmp2,root,((2*root)+1))))else none)))else none)else none)) N (data,hi,first,cmp,lo))
def heapG (N:Nat) (data:List α) (a:Int) (b:Int) (cmp:γ):Option ((List α)):=
 (if fits (b-a)then(if fits ((b-a)-1)then(if 2≠0 then
    (if fits (((b-a)-1).tdiv 2)then(iter (fun go (g:(List α)×γ×Int×Int×Int×Int)=>
       match g with
       |(data2,cmp2,first,lo,hi,i)=>
       (bif(decide ((0:Int)<=i))then
        (oB (siftG c N data2 i hi first cmp2) fun r=>
         (if fits (i-1)then(go (r,cmp2,first,lo,hi,(i-1)))else none))
        else
        (if fits (hi-1)then(iter (fun go2 (g:(List α)×γ×Int×Int×Int)=>
           match g with
           |(data3,cmp3,first2,lo2,i2)=>
           (bif(decide ((0:Int)<=i2))then
            (if fits (first2+i2)then(if fits (first2+i2)then swpG data3 first2 (first2+i2) fun d=>(oB (siftG c N d lo2 i2 first2 cmp3) fun r2=>
                       (if fits (i2-1)then(go2 (r2,cmp3,first2,lo2,(i2-1)))else none))else none)else none)
            else
            (some data3))) N (data2,cmp2,first,lo,(hi-1)))else none))) N (data,cmp,a,0,(b-a),(((b-a)-1).tdiv 2)))else none)
    else none)else none)else none)
def breakG (N:Nat) (data:List α) (a:Int) (b:Int) (cmp:γ):Option (List α):=
 (if fits (b-a)then(bif(decide ((8:Int)<=(b-a)))then
   (oB (k_slices_nextPowerOfTwo_m N (b-a)) fun r=>
    (if 4≠0 then
     (if fits ((b-a).tdiv 4)then(if fits (((b-a).tdiv 4)*2)then(if fits (a+(((b-a).tdiv 4)*2))then(if fits ((a+(((b-a).tdiv 4)*2))-1)then(iter (fun go (g:(List α)×Int×Int×Int×Int×Int)=>
           match g with
           |(data2,a2,length,modulus,idx0,random)=>
           (if 4≠0 then
            (if fits (length.tdiv 4)then(if fits ((length.tdiv 4)*2)then(if fits (a2+((length.tdiv 4)*2))then(if fits ((a2+((length.tdiv 4)*2))+1)then(bif(decide (idx0<=((a2+((length.tdiv 4)*2))+1)))then
                 (oB (k__slices_xorshift_Next_m N random) fun r2=>
                  (meet (fun(g:(List α)×Int×Int×Int×Int×Int×Int)=>
                    match g with
                    |(data3,a3,length2,modulus2,idx02,other,random2)=>
                    (if fits (a3+other)then(if fits (a3+other)then swpG data3 idx02 (a3+other) fun d=>(if fits (idx02+1)then(go (d,a3,length2,modulus2,(idx02+1),random2))else none)else none)else none)) fun J=>
                   (bif(decide (length<=(IntKind.i64.wrap (bitsI .and .u64 r2.1 (IntKind.u64.wrap (modulus-1))))))then
                    (if fits ((IntKind.i64.wrap (bitsI .and .u64 r2.1 (IntKind.u64.wrap (modulus-1))))-length)then(J (data2,a2,length,modulus,idx0,((IntKind.i64.wrap (bitsI .and .u64 r2.1 (IntKind.u64.wrap (modulus-1))))-length),r2.2))else none)
                    else
                    (J (data2,a2,length,modulus,idx0,(IntKind.i64.wrap (bitsI .and .u64 r2.1 (IntKind.u64.wrap (modulus-1)))),r2.2)))))
                 else
                 (some data2))else none)else none)else none)else none)
            else none)) N (data,a,(b-a),r,((a+(((b-a).tdiv 4)*2))-1),(IntKind.u64.wrap (b-a))))else none)else none)else none)else none)
     else none))
   else
   (some data))else none)
def order2G (N:Nat) (data:List α) (a:Int) (b:Int) (cmp:γ) (b2:Int):Option (Int×Int×(List α)×Int):=
 cmpG c cmp data b a fun r=>(bif(decide (r<0))then(if fits (b2+1)then(some (b,a,data,(b2+1)))else none)else(some (a,b,data,b2)))
def medianG (N:Nat) (data:List α) (a:Int) (b:Int) (c0:Int) (cmp:γ) (b2:Int):Option (Int×(List α)×Int):=
 (oB (order2G c N data a b cmp b2) fun r=>
  (oB (order2G c N r.2.2.1 r.2.1 c0 cmp r.2.2.2) fun r2=>
   (oB (order2G c N r2.2.2.1 r.1 r2.1 cmp r2.2.2.2) fun r3=>
    (some (r3.2.1,r3.2.2.1,r3.2.2.2)))))
def medianAdjacentG (N:Nat) (data:List α) (a:Int) (cmp:γ) (b:Int):Option (Int×(List α)×Int):=
 (if fits (a-1)then(if fits (a+1)then(oB (medianG c N data (a-1) a (a+1) cmp b) fun r=>
    (some (r.1,r.2.1,r.2.2)))else none)else none)
def choosePivotG (N:Nat) (data:List α) (a:Int) (b:Int) (cmp:γ):Option (Int×Int×(List α)):=
 (if fits (b-a)then(if 4≠0 then
   (if fits ((b-a).tdiv 4)then(if fits (((b-a).tdiv 4)*1)then(if fits (a+(((b-a).tdiv 4)*1))then(if 4≠0 then
       (if fits ((b-a).tdiv 4)then(if fits (((b-a).tdiv 4)*2)then(if fits (a+(((b-a).tdiv 4)*2))then(if 4≠0 then
           (if fits ((b-a).tdiv 4)then(if fits (((b-a).tdiv 4)*3)then(if fits (a+(((b-a).tdiv 4)*3))then(meet (fun(g:(List α)×Int×Int)=>
                match g with
                |(data3,j2,swaps2)=>
                (bif(decide (swaps2=0))then
                 (some (j2,1,data3))
                 else
                 (bif(decide (swaps2=12))then
                  (some (j2,2,data3))
                  else
                  (some (j2,0,data3))))) fun J=>
               (bif(decide ((8:Int)<=(b-a)))then
                (meet (fun(g:(List α)×γ×Int×Int×Int×Int)=>
                  match g with
                  |(data2,cmp2,i,j,k,swaps)=>
                  (oB (medianG c N data2 i j k cmp2 swaps) fun r4=>
                   (J (r4.2.1,r4.1,r4.2.2)))) fun J2=>
                 (bif(decide ((50:Int)<=(b-a)))then
                  (oB (medianAdjacentG c N data (a+(((b-a).tdiv 4)*1)) cmp 0) fun r=>
                   (oB (medianAdjacentG c N r.2.1 (a+(((b-a).tdiv 4)*2)) cmp r.2.2) fun r2=>
                    (oB (medianAdjacentG c N r2.2.1 (a+(((b-a).tdiv 4)*3)) cmp r2.2.2) fun r3=>
                     (J2 (r3.2.1,cmp,r.1,r2.1,r3.1,r3.2.2)))))
                  else
                  (J2 (data,cmp,(a+(((b-a).tdiv 4)*1)),(a+(((b-a).tdiv 4)*2)),(a+(((b-a).tdiv 4)*3)),0))))
                else
                (J (data,(a+(((b-a).tdiv 4)*2)),0))))else none)else none)else none)
           else none)else none)else none)else none)
       else none)else none)else none)else none)
   else none)else none)
def reverseRangeG (N:Nat) (data:List α) (a:Int) (b:Int) (cmp:γ):Option ((List α)):=
 (if fits (b-1)then(iter (fun go (g:(List α)×Int×Int)=>
    match g with
    |(data2,i,j)=>
    (bif(decide (i<j))then swpG data2 i j fun d=>(if fits (i+1)then(if fits (j-1)then(go (d,(i+1),(j-1)))else none)else none)
     else
     (some data2))) N (data,a,(b-1)))else none)
def shDown (k:(List α×Int×Int×γ×Int×Int)->Option ρ) (N:Nat) (g:List α×Int×Int×γ×Int×Int×Int):Option ρ:=
 iter (fun go3 (g:(List α)×Int×Int×γ×Int×Int×Int)=>
  match g with
  |(d,a,b,ks,i,j,j4)=>
  bif decide ((1:Int)<=j4)then cmpP c ks d j4 fun r=>bif !decide (r<0)then k (d,a,b,ks,i,j)else swpP d j4 fun d'=>if fits (j4-1)then go3 (d',a,b,ks,i,j,j4-1)else none
  else k (d,a,b,ks,i,j)) N g
def shUp (k:(List α×Int×Int×γ×Int×Int)->Option ρ) (N:Nat) (g:List α×Int×Int×γ×Int×Int×Int):Option ρ:=
 iter (fun go4 (g:(List α)×Int×Int×γ×Int×Int×Int)=>
  match g with
  |(d,a,b,ks,i,j,j4)=>
  bif decide (j4<b)then cmpP c ks d j4 fun r=>bif !decide (r<0)then(if fits (j+1)then k (d,a,b,ks,i,j+1)else none)else swpP d j4 fun d'=>if fits (j4+1)then go4 (d',a,b,ks,i,j,j4+1)else none
  else if fits (j+1)then k (d,a,b,ks,i,j+1)else none) N g
def pisX (N:Nat) (go:(List α×Int×Int×γ×Int×Int)->Option (Bool×List α)) (d:List α) (a b:Int) (ks:γ) (i j:Int):Option (Bool×List α):=
 bif decide (i=b)then some (true,d)else if fits (b-a)then bif decide ((b-a)<50)then some (false,d)else
  swpP d i fun d'=>meet (fun(g:List α×Int×Int×γ×Int×Int)=>
   match g with
   |(d5,a5,b5,ks5,i4,j5)=>
   if fits (b5-i4)then bif decide ((2:Int)<=(b5-i4))then if fits (i4+1)then shUp c go N (d5,a5,b5,ks5,i4,j5,i4+1)else none
    else(if fits (j5+1)then go (d5,a5,b5,ks5,i4,j5+1)else none)else none) fun J=>
   if fits (i-a)then bif decide ((2:Int)<=(i-a))then if fits (i-1)then shDown c J N (d',a,b,ks,i,j,i-1)else none else J (d',a,b,ks,i,j)else none
 else none
def pisG (N:Nat) (d:List α) (a b:Int) (ks:γ):Option (Bool×List α):=
 if fits (a+1)then iter (fun go (g:List α×Int×Int×γ×Int×Int)=>
  match g with
  |(d2,a2,b2,ks2,i,j)=>
  bif decide (j<5)then
   iter (fun go2 (g:List α×Int×Int×γ×Int×Int)=>
    match g with
    |(d3,a3,b3,ks3,i2,j2)=>
    bif decide (i2<b3)then cmpP c ks3 d3 i2 fun r=>bif !decide (r<0)then(if fits (i2+1)then go2 (d3,a3,b3,ks3,i2+1,j2)else none)else pisX c N go d3 a3 b3 ks3 i2 j2
    else pisX c N go d3 a3 b3 ks3 i2 j2) N (d2,a2,b2,ks2,i,j)
  else some (false,d2)) N (d,a,b,ks,a+1,0)else none
def partE (go3:(List α×Int×γ×Int×Int)->Option (Int×Bool×List α)) (fl:Bool) (g:List α×Int×γ×Int×Int):Option (Int×Bool×List α):=
 match g with
 |(d,a,ks,i,j)=>
 bif decide (j<i)then swpG d j a fun d'=>some (j,fl,d')else swpG d i j fun d'=>if fits (i+1)then if fits (j-1)then go3 (d',a,ks,i+1,j-1)else none else none
def partD (k:(List α×Int×γ×Int×Int)->Option ρ) (N:Nat) (g:List α×Int×γ×Int×Int):Option ρ:=
 iter (fun go (g:List α×Int×γ×Int×Int)=>
  match g with
  |(d,a,ks,i,j)=>
  bif decide (i<=j)then cmpG c ks d j a fun r=>bif !decide (r<0)then(if fits (j-1)then go (d,a,ks,i,j-1)else none)else k (d,a,ks,i,j)
  else k (d,a,ks,i,j)) N g
def partU (k:(List α×Int×γ×Int×Int)->Option ρ) (N:Nat) (g:List α×Int×γ×Int×Int):Option ρ:=
 iter (fun go (g:List α×Int×γ×Int×Int)=>
  match g with
  |(d,a,ks,i,j)=>
  bif decide (i<=j)then cmpG c ks d i a fun r=>bif decide (r<0)then(if fits (i+1)then go (d,a,ks,i+1,j)else none)else k (d,a,ks,i,j)
  else k (d,a,ks,i,j)) N g
def partG (N:Nat) (d:List α) (a b p:Int) (ks:γ):Option (Int×Bool×List α):=
 swpG d a p fun d=>if fits (a+1)then if fits (b-1)then
  partU c (fun g=>partD c (partE (fun g=>iter (fun go3 g=>partU c (fun g=>partD c (partE go3 false) N g) N g) N g) true) N g) N (d,a,ks,a+1,b-1)
 else none else none
def peqE (go:(List α×Int×γ×Int×Int)->Option (Int×List α)) (g:List α×Int×γ×Int×Int):Option (Int×List α):=
 match g with
 |(d,a,ks,i,j)=>
 bif decide (j<i)then some (i,d)else swpG d i j fun d'=>if fits (i+1)then if fits (j-1)then go (d',a,ks,i+1,j-1)else none else none
def peqD (k:(List α×Int×γ×Int×Int)->Option ρ) (N:Nat) (g:List α×Int×γ×Int×Int):Option ρ:=
 iter (fun go (g:List α×Int×γ×Int×Int)=>
  match g with
  |(d,a,ks,i,j)=>
  bif decide (i<=j)then cmpG c ks d a j fun r=>bif decide (r<0)then(if fits (j-1)then go (d,a,ks,i,j-1)else none)else k (d,a,ks,i,j)
  else k (d,a,ks,i,j)) N g
def peqU (k:(List α×Int×γ×Int×Int)->Option ρ) (N:Nat) (g:List α×Int×γ×Int×Int):Option ρ:=
 iter (fun go (g:List α×Int×γ×Int×Int)=>
  match g with
  |(d,a,ks,i,j)=>
  bif decide (i<=j)then cmpG c ks d a i fun r=>bif !decide (r<0)then(if fits (i+1)then go (d,a,ks,i+1,j)else none)else k (d,a,ks,i,j)
  else k (d,a,ks,i,j)) N g
def peqG (N:Nat) (d:List α) (a b p:Int) (ks:γ):Option (Int×List α):=
 swpG d a p fun d=>if fits (a+1)then if fits (b-1)then iter (fun go g=>peqU c (fun g=>peqD c (peqE go) N g) N g) N (d,a,ks,a+1,b-1)else none else none
def pdqG (hs:List α->Int->Int->γ->Option (List α)) (pe:List α->Int->Int->Int->γ->Option (Int×List α)) (N:Nat):(D:Nat)->(List α)->Int->Int->Int->γ->Option ((List α))
 |0,_,_,_,_,_=>none
 |D+1,data,a,b,limit,cmp=>
 (iter (fun go (g:(List α)×Int×Int×Int×γ×Bool×Bool)=>
   match g with
   |(data2,a2,b2,limit2,cmp2,wasBalanced,wasPartitioned)=>
   (if fits (b2-a2)then(bif(decide ((b2-a2)<=12))then
     (oB (insG c N data2 a2 b2 cmp2) fun r=>
      (some r))
     else
     (bif(decide (limit2=0))then
      (oB (hs data2 a2 b2 cmp2) fun r2=>
       (some r2))
      else
      (meet (fun(g:(List α)×Int×Int×Int×γ×Bool×Bool×Int)=>
        match g with
        |(data3,a3,b3,limit3,cmp3,wasBalanced2,wasPartitioned2,length)=>
        (oB (choosePivotG c N data3 a3 b3 cmp3) fun r4=>
         (meet (fun(g:(List α)×Int×Int×Int×γ×Bool×Bool×Int×Int×Int)=>
           match g with
           |(data4,a4,b4,limit4,cmp4,wasBalanced3,wasPartitioned3,length2,pivot,hint)=>
           (meet (fun(g:(List α)×Int×Int×Int×γ×Bool×Bool×Int×Int)=>
             match g with
             |(data5,a5,b5,limit5,cmp5,wasBalanced4,wasPartitioned4,length3,pivot2)=>
             (bif(decide ((0:Int)<a5))then
              (if fits (a5-1)then(if 0<=(a5-1)/\(a5-1)<(data5.length:Int)then
                (oB (data5[(a5-1).toNat]?) fun e=>
                 (if 0<=pivot2/\pivot2<(data5.length:Int)then
                  (oB (data5[pivot2.toNat]?) fun e2=>
                   (oB (c cmp5 e e2) fun r7=>
                    (bif(!(decide (r7<0)))then
                     (oB (pe data5 a5 b5 pivot2 cmp5) fun r8=>
                      (go (r8.2,r8.1,b5,limit5,cmp5,wasBalanced4,wasPartitioned4)))
                     else
                     (oB (partG c N data5 a5 b5 pivot2 cmp5) fun r9=>
                      (if fits (r9.1-a5)then(if fits (b5-r9.1)then(if 8≠0 then
                         (if fits (length3.tdiv 8)then(bif(decide ((r9.1-a5)<(b5-r9.1)))then
                           (oB (pdqG hs pe N D r9.2.2 a5 r9.1 limit5 cmp5) fun r10=>
                            (if fits (r9.1+1)then(go (r10,(r9.1+1),b5,limit5,cmp5,(decide ((length3.tdiv 8)<=(r9.1-a5))),r9.2.1))else none))
                           else
                           (if fits (r9.1+1)then(oB (pdqG hs pe N D r9.2.2 (r9.1+1) b5 limit5 cmp5) fun r11=>
                             (go (r11,a5,r9.1,limit5,cmp5,(decide ((length3.tdiv 8)<=(b5-r9.1))),r9.2.1)))else none))else none)
                         else none)else none)else none)))))
                  else none))
                else none)else none)
              else
              (oB (partG c N data5 a5 b5 pivot2 cmp5) fun r12=>
               (if fits (r12.1-a5)then(if fits (b5-r12.1)then(if 8≠0 then
                  (if fits (length3.tdiv 8)then(bif(decide ((r12.1-a5)<(b5-r12.1)))then
                    (oB (pdqG hs pe N D r12.2.2 a5 r12.1 limit5 cmp5) fun r13=>
                     (if fits (r12.1+1)then(go (r13,(r12.1+1),b5,limit5,cmp5,(decide ((length3.tdiv 8)<=(r12.1-a5))),r12.2.1))else none))
                    else
                    (if fits (r12.1+1)then(oB (pdqG hs pe N D r12.2.2 (r12.1+1) b5 limit5 cmp5) fun r14=>
                      (go (r14,a5,r12.1,limit5,cmp5,(decide ((length3.tdiv 8)<=(b5-r12.1))),r12.2.1)))else none))else none)
                  else none)else none)else none)))) fun J3=>
            (bif wasBalanced3 then
             (bif wasPartitioned3 then
              (bif(decide (hint=1))then
               (oB (pisG c N data4 a4 b4 cmp4) fun r6=>
                (bif r6.1 then
                 (some r6.2)
                 else
                 (J3 (r6.2,a4,b4,limit4,cmp4,wasBalanced3,wasPartitioned3,length2,pivot))))
               else
               (J3 (data4,a4,b4,limit4,cmp4,wasBalanced3,wasPartitioned3,length2,pivot)))
              else
              (J3 (data4,a4,b4,limit4,cmp4,wasBalanced3,wasPartitioned3,length2,pivot)))
             else
             (J3 (data4,a4,b4,limit4,cmp4,wasBalanced3,wasPartitioned3,length2,pivot))))) fun J2=>
          (bif(decide (r4.2.1=2))then
           (oB (reverseRangeG N r4.2.2 a3 b3 cmp3) fun r5=>
            (if fits (b3-1)then(if fits (r4.1-a3)then(if fits ((b3-1)-(r4.1-a3))then(J2 (r5,a3,b3,limit3,cmp3,wasBalanced2,wasPartitioned2,length,((b3-1)-(r4.1-a3)),1))else none)else none)else none))
           else
           (J2 (r4.2.2,a3,b3,limit3,cmp3,wasBalanced2,wasPartitioned2,length,r4.1,r4.2.1)))))) fun J=>
       (bif(!wasBalanced)then
        (oB (breakG N data2 a2 b2 cmp2) fun r3=>
         (if fits (limit2-1)then(J (r3,a2,b2,(limit2-1),cmp2,wasBalanced,wasPartitioned,(b2-a2)))else none))
        else
        (J (data2,a2,b2,limit2,cmp2,wasBalanced,wasPartitioned,(b2-a2)))))))else none)) N (data,a,b,limit,cmp,true,true))
end
def cmp669 (N:Nat):(Unit)->Z0->Z0->Option Int:=(fun(cmp:Unit) (e e2:Int×Z10×Z9)=>i_allAlive_1_m N e.1 e.2.1 e.2.2 e2.1 e2.2.1 e2.2.2)
def jIw :Sh:=⟨.mtk 800000 Y4 95 false::pI::pI:: .clo 155 []::dz 4 (pI::dz 44 []),[]⟩
def jJn :Sh:=⟨.mtk 800000 Y4 95 false::pI::pI:: .clo 155 []::dz 4 (pI::pI::dz 43 []),[]⟩
def jJk (a:List Z0) (c:Int) (d:Int) (b:Unit):Z14:=insG (cmp669 N) N a c d b
 
theorem jIC :mK 272 (bX [.mtk 800000 Y4 95 false,pI,pI,.clo 155 []] [.tup [],.mtk 800000 Y4 95 false] (c4A (jJk N))):=
 mO (fC (jHC N) ja) func272 rfl N (.seq .no (.block (.loop jIw (.seq .no (.seq (.block (.seq .no (.block (.loop jJn .no)))) .no))))) _ (rs:=[800000])
def jI7 :Sh:=⟨.mtk 800000 Y4 95 false:: .dead::pI::pI:: .clo 155 []::dz 5 (pI::dz 71 []),[]⟩
def jJE :Sh:=⟨.mtk 800000 Y4 95 false:: .dead::pI::pI:: .clo 155 []::dz 5 (pI::pI::dz 70 []),[]⟩
def jJr (b:List Z0) (a:Int) (c:Int) (d:Int) (e:Unit):Z14:=siftG (cmp669 N) N b a c d e
 
theorem jIA :mK 319 (bX [.mtk 800000 Y4 95 false,pI,pI,pI,.clo 155 []] [.tup [],.mtk 800000 Y4 95 false] (c5A (jJr N))):=
 mO (fC (jHC N) ja) func319 rfl N (.seq .no (.block (.loop jI7 (.block (.seq .no (.seq .no (.meet jJE .no .no))))))) _ (rs:=[800000])
def jH9 :Sh:=⟨.mtk 800000 Y4 95 false:: .dead:: .dead:: .clo 155 []::dz 4 (pI::pI::pI::pI::dz 48 []),[]⟩
def jIK :Sh:=⟨.mtk 800000 Y4 95 false:: .dead:: .dead:: .clo 155 []::dz 4 (pI::pI:: .dead:: .dead::pI::dz 47 []),[]⟩
def jIj (a:List Z0) (c:Int) (d:Int) (b:Unit):Z14:=heapG (cmp669 N) N a c d b
 
theorem jJa :mK 273 (bX [.mtk 800000 Y4 95 false,pI,pI,.clo 155 []] [.tup [],.mtk 800000 Y4 95 false] (c4A (jIj N))):=
 mO (fC (jIA N) ja) func273 rfl N (.seq .no (.seq .no (.seq .no (.seq (.seq .no (.block (.loop jH9 .no))) (.seq .no (.block (.loop jIK .no))))))) _ (rs:=[800000])
def jH6 :Sh:=⟨.mtk 800000 Y4 95 false::pI::dz 6 (pI:: .box 9 0:: .pv (.int .u64)::pI::dz 55 []),[(9,false,[.pv (.int .u64)])]⟩
def jJm :Sh:=⟨.mtk 800000 Y4 95 false::pI::dz 6 (pI:: .box 9 0:: .pv (.int .u64)::pI::pI::dz 54 []),[(9,false,[.pv (.int .u64)])]⟩
def jI4 (a:List Z0) (c:Int) (d:Int) (b:Unit):Z14:=breakG N a c d b
 
theorem jIs :mK 274 (bX [.mtk 800000 Y4 95 false,pI,pI,.clo 155 []] [.tup [],.mtk 800000 Y4 95 false] (c4A (jI4 N))):=
 mO (fC (jhv N) (fC (jet N) ja)) func274 rfl N (.seq .no (.seq .no (.cond (.seq .no (.seq .no (.seq .no (.block (.loop jH6 (.seq .no (.seq (.block (.seq .no (.meet jJm .no .no))) .no))))))) .no))) _ (rs:=[800000])
def jJC (a:List Z0) (d:Int) (e:Int) (b:Unit) (c:Int):Option (Int×Int×(List Z0)×Int):=order2G (cmp669 N) N a d e b c
 
theorem jIo :mK 340 ⟨⟨[.mtk 800000 Y4 95 false,pI,pI,.box 900003 0,.clo 155 []],[(900003,false,[pI])]⟩,⟨[.tup [pI,pI],.mtk 800000 Y4 95 false],[(900003,false,[pI])]⟩,c5A (jJC N)⟩:=
 mO (fC (jHC N) ja) func340 rfl N .no _ (rs:=[900003,800000])
def jII (a:List Z0) (e:Int) (f:Int) (b:Int) (c:Unit) (d:Int):Option (Int×(List Z0)×Int):=medianG (cmp669 N) N a e f b c d
 
theorem jHQ :mK 321 ⟨⟨[.mtk 800000 Y4 95 false,pI,pI,pI,.box 900004 0,.clo 155 []],[(900004,false,[pI])]⟩,⟨[pI,.mtk 800000 Y4 95 false],[(900004,false,[pI])]⟩,c6A (jII N)⟩:=
 mO (fC (jIo N) ja) func321 rfl N .no _ (rs:=[900004,800000])
def jIn (a:List Z0) (c:Int) (b:Unit) (d:Int):Option (Int×(List Z0)×Int):=medianAdjacentG (cmp669 N) N a c b d
 
theorem jI9 :mK 320 ⟨⟨[.mtk 800000 Y4 95 false,pI,.box 900002 0,.clo 155 []],[(900002,false,[pI])]⟩,⟨[pI,.mtk 800000 Y4 95 false],[(900002,false,[pI])]⟩,c4A (jIn N)⟩:=
 mO (fC (jHQ N) ja) func320 rfl N .no _ (rs:=[900002,800000])
def jJw :Sh:=⟨.mtk 800000 Y4 95 false:: .dead:: .dead:: .clo 155 []::dz 7 (.box 11 0::pI::pI::pI::dz 48 []),[(11,false,[pI])]⟩
def jI6 :Sh:=⟨.mtk 800000 Y4 95 false::dz 10 (.box 11 0:: .dead::pI::dz 49 []),[(11,false,[pI])]⟩
def jIq (a:List Z0) (c:Int) (d:Int) (b:Unit):Option (Int×Int×(List Z0)):=choosePivotG (cmp669 N) N a c d b
 
theorem jJz :mK 275 (bX [.mtk 800000 Y4 95 false,pI,pI,.clo 155 []] [.tup [pI,pI],.mtk 800000 Y4 95 false] (c4A (jIq N))):=
 mO (fC (jI9 N) (fC (jHQ N) ja)) func275 rfl N (.seq .no (.seq .no (.seq .no (.seq .no (.seq .no (.seq .no (.meet jI6 (.seq .no (.cond (.meet jJw .no .no) .no)) .no))))))) _ (rs:=[800000])
def jJB :Sh:=⟨.mtk 800000 Y4 95 false::dz 7 (pI::pI::dz 24 []),[]⟩
def jJs (a:List Z0) (c:Int) (d:Int) (b:Unit):Z14:=reverseRangeG N a c d b
 
theorem jIk :mK 276 (bX [.mtk 800000 Y4 95 false,pI,pI,.clo 155 []] [.tup [],.mtk 800000 Y4 95 false] (c4A (jJs N))):=
 mO ja func276 rfl N (.seq .no (.seq .no (.block (.loop jJB .no)))) _ (rs:=[800000])
def jHL :Sh:=⟨.mtk 800000 Y4 95 false::pI::pI:: .clo 155 []::dz 5 (pI::pI::dz 130 []),[]⟩
def jJh :Sh:=⟨.mtk 800000 Y4 95 false::pI::pI:: .clo 155 []::dz 5 (pI::pI::pI::dz 129 []),[]⟩
def jIF :Sh:=⟨.mtk 800000 Y4 95 false::pI::pI:: .clo 155 []::dz 5 (pI::pI:: .dead::pI::dz 128 []),[]⟩
def jIx (a:List Z0) (c:Int) (d:Int) (b:Unit):Option (Bool×(List Z0)):=pisG (cmp669 N) N a c d b
 
theorem jI1 :mK 277 (bX [.mtk 800000 Y4 95 false,pI,pI,.clo 155 []] [pB,.mtk 800000 Y4 95 false] (c4A (jIx N))):=
 mO (fC (jHC N) ja) func277 rfl N (.seq .no (.seq .no (.seq (.seq .no (.block (.loop jHL (.seq .no (.seq (.block (.seq (.block (.loop jHL .no)) (.seq .no (.seq .no (.seq .no (.meet jHL (.seq .no (.cond (.seq .no (.block (.loop jJh .no))) .no)) (.seq .no (.cond (.seq .no (.block (.loop jIF .no))) .no)))))))) .no))))) .no))) _ (rs:=[800000])
def jHK :Sh:=⟨.mtk 800000 Y4 95 false::pI:: .dead:: .dead:: .clo 155 []::dz 6 (pI::pI::dz 77 []),[]⟩
def jIh (a:List Z0) (d:Int) (e:Int) (b:Int) (c:Unit):Option (Int×(List Z0)):=peqG (cmp669 N) N a d e b c
 
theorem jH7 :mK 278 (bX [.mtk 800000 Y4 95 false,pI,pI,pI,.clo 155 []] [pI,.mtk 800000 Y4 95 false] (c5A (jIh N))):=
 mO (fC (jHC N) ja) func278 rfl N (.seq .no (.seq .no (.seq .no (.seq (.block (.loop jHK (.block (.seq (.block (.loop jHK .no)) (.seq (.block (.loop jHK .no)) .no))))) .no)))) _ (rs:=[800000])
def jHD :Sh:=⟨.mtk 800000 Y4 95 false::pI:: .dead:: .dead:: .clo 155 []::dz 7 (pI::pI::dz 164 []),[]⟩
def jIZ (a:List Z0) (d:Int) (e:Int) (b:Int) (c:Unit):Option (Int×Bool×(List Z0)):=partG (cmp669 N) N a d e b c
 
theorem jJc :mK 279 (bX [.mtk 800000 Y4 95 false,pI,pI,pI,.clo 155 []] [.tup [pI,pB],.mtk 800000 Y4 95 false] (c5A (jIZ N))):=
 mO (fC (jHC N) ja) func279 rfl N (.seq .no (.seq .no (.seq .no (.seq (.block (.loop jHD .no)) (.seq (.block (.loop jHD .no)) (.seq .no (.seq .no (.seq .no (.seq .no (.seq (.block (.loop jHD (.block (.seq (.block (.loop jHD .no)) (.seq (.block (.loop jHD .no)) .no))))) .no)))))))))) _ (rs:=[800000])
def jIv :Sh:=⟨.mtk 800000 Y4 95 false::pI::pI::pI:: .clo 155 []::dz 5 (pB::pB::dz 136 []),[]⟩
def jIt :Sh:=⟨.mtk 800000 Y4 95 false::pI::pI::pI:: .clo 155 []::dz 5 (pB::pB::pI::pI::dz 134 []),[]⟩
def jIU :Sh:=⟨.mtk 800000 Y4 95 false::pI::pI::pI:: .clo 155 []::dz 5 (pB::pB::pI::pI::pI::dz 133 []),[]⟩
def jID :Sh:=⟨.mtk 800000 Y4 95 false::pI::pI::pI:: .clo 155 []::dz 5 (pB::pB::pI::dz 135 []),[]⟩
def jHN (N D:Nat) (e:List Z0) (b a limit:Int) (f:Unit):Z14:=pdqG (cmp669 N) (fun c b a d=>heapG (cmp669 N) N c b a d) (fun c b a h d=>peqG (cmp669 N) N c b a h d) N D e b a limit f
 
def jHF (N D:Nat):Model:=⟨⟨[.mtk 800000 Y4 95 false,pI,pI,pI,.clo 155 []],[]⟩,⟨[.tup [],.mtk 800000 Y4 95 false],[]⟩,c5A (jHN N D)⟩
theorem jJo (N D:Nat) (ih:mK 221 (jHF N D)):mK 221 (jHF N (D+1)):=
 mO (fC ih (fC (jIC N) (fC (jJa N) (fC (jIs N) (fC (jJz N) (fC (jIk N) (fC (jI1 N) (fC (jHC N) (fC (jH7 N) (fC (jJc N) ja)))))))))) func221 rfl N (.seq .no (.seq .no (.block (.loop jIv (.block (.seq .no (.seq .no (.seq .no (.meet jID .no (.seq .no (.meet jIU .no (.meet jIt .no .no)))))))))))) (jHF N (D+1)) (rs:=[800000])
theorem jHV (N:Nat):∀D,mK 221 (jHF N D)
 |0=>modelOk_none ⟨_,func221,by decide,by kernel_rfl⟩ _ (fun a=>rfl)
 |D+1=>jJo N D (jHV N D)
def k_slices_SortFunc_669_m (a:List Z0) (d:Unit):Z14:=
 (oB (k_math_bits_Len_m N (IntKind.u64.wrap (a.length:Int))) fun c=>oB (jHN N N a 0 (a.length:Int) c ()) fun b=>some b)
theorem jIu :mK 154 (bX [.mtk 800000 Y4 95 false,.clo 155 []] [.tup [],.mtk 800000 Y4 95 false] (c2A (k_slices_SortFunc_669_m N))):=
 mO (fC (jda N) (fC (jHV N N) ja)) func154 rfl N .no _ (rs:=[800000])
def jH5 :Sh:=⟨dz 3 (.mtk 600003 Y4 95 false::dz 3 (.pv Y0::pI::pI::dz 11 [])),[]⟩
def i_allAlive_m (d:List Z3):Z14:=
 (iter (fun k (b,h,f,a)=>bif decide (a<f)then oB (idx h a) fun c=>(oB (i_Live_alive_m N c.1.1 c.1.2 c.2) fun e=>if room b.length e.length 56 then if fits (a+1)then k ((b++e),h,f,(a+1))else none else none)else oB (k_slices_SortFunc_669_m N b ()) fun i=>some i) N (([]:List Z0),d,(d.length:Int),(0:Int)))
theorem jHR :mK 74 (bX [.pv Y0] [.own 1 Y4 95 false] (c1A (i_allAlive_m N))):=
 mO (fC (jH4 N) (fC (jIu N) ja)) func74 rfl N (.seq .no (.seq .no (.seq (.seq .no (.block (.loop jH5 .no))) .no))) _ (wr:=[6,16])
def jIf :Sh:=⟨.dead:: .box 1 0::dz 14 (.pv Y0::pI::pI::dz 13 []),[(1,false,[.pv (.sl .str),.pv Y14,.pv Y0])]⟩
noncomputable def i_IndexOk_m (i:List Z1) (d:List Z4) (b:List Z3):Z8:=
 (oB (jaj N i d) fun o=>bif !o then some false else bif decide ((5:Int)<b.length)then some false else iter (fun q (k,f,a,e,j,h)=>bif decide (a<f)then oB (idx k a) fun c=>(oB (i_liveOk_m N e j c.1.1 c.1.2 c.2) fun l=>bif !l then some false else if fits (a+1)then q (k,f,(a+1),e,j,h)else none)else oB (i_allAlive_m N h) fun n=>oB (jbf N n) fun m=>some m) N (b,(b.length:Int),(0:Int),i,d,b))
theorem jIr :mK 24 (bX [.agg [.pv (.sl .str),.pv Y14,.pv Y0]] [pB] (c3A (i_IndexOk_m N))):=
 mO (fC (jdX N) (fC (jJD N) (fC (jHR N) (fC (jjU N) ja)))) func24 rfl N (.seq .no (.seq .no (.seq (.seq .no (.block (.loop jIf .no))) .no))) _
def k_strconv_Itoa_m (N:Nat) (a:Int):Option (Z1):=itoaM a
 
def jOU (N:Nat):Model:=⟨⟨[pI],[]⟩,⟨[pS],[]⟩,c1A (k_strconv_Itoa_m N)⟩
theorem jO0 :mK 86 (jOU N):=jPp
def jXY :Sh:=⟨.dead:: .box 1 0:: .dead::pS::dz 13 (.pv Y17::pI::pI::dz 34 []),[(1,false,[pI,.pv Y17,.pv Y13])]⟩
def jX3 :Sh:=⟨dz 3 (pS::dz 31 (.pv Y13::pI::pI::dz 16 [])),[]⟩
def i_DocPut_m (h:Int) (d:Z7) (o:Z5):Option (Z1):=
 (oB (i_DocOk_m N h d o) fun w=>bif !w then some ([]:List UInt8)else oB (k_strconv_Itoa_m N h) fun m=>if([100,111,99,32]:List UInt8).length+m.length<=9223372036854775807 then if(([100,111,99,32]:List UInt8)++m).length+([10]:List UInt8).length<=9223372036854775807 then iter (fun u (j,n,q,e,x,v,l)=>bif decide (e<q)then oB (idx n e) fun a=>(if([102,105,101,108,100,32]:List UInt8).length+a.1.length<=9223372036854775807 then if(([102,105,101,108,100,32]:List UInt8)++a.1).length+([32]:List UInt8).length<=9223372036854775807 then if((([102,105,101,108,100,32]:List UInt8)++a.1)++([32]:List UInt8)).length+a.2.length<=9223372036854775807 then if(((([102,105,101,108,100,32]:List UInt8)++a.1)++([32]:List UInt8))++a.2).length+([10]:List UInt8).length<=9223372036854775807 then if j.length+((((([102,105,101,108,100,32]:List UInt8)++a.1)++([32]:List UInt8))++a.2)++([10]:List UInt8)).length<=9223372036854775807 then if fits (e+1)then u ((j++((((([102,105,101,108,100,32]:List UInt8)++a.1)++([32]:List UInt8))++a.2)++([10]:List UInt8))),n,q,(e+1),x,v,l)else none else none else none else none else none else none)else iter (fun t (k,p,r,f)=>bif decide (f<r)then oB (idx p f) fun b=>(if([110,117,109,32]:List UInt8).length+b.1.length<=9223372036854775807 then if(([110,117,109,32]:List UInt8)++b.1).length+([32]:List UInt8).length<=9223372036854775807 then oB (k_strconv_Itoa_m N b.2) fun c=>(if((([110,117,109,32]:List UInt8)++b.1)++([32]:List UInt8)).length+c.length<=9223372036854775807 then if(((([110,117,109,32]:List UInt8)++b.1)++([32]:List UInt8))++c).length+([10]:List UInt8).length<=9223372036854775807 then if k.length+((((([110,117,109,32]:List UInt8)++b.1)++([32]:List UInt8))++c)++([10]:List UInt8)).length<=9223372036854775807 then if fits (f+1)then t ((k++((((([110,117,109,32]:List UInt8)++b.1)++([32]:List UInt8))++c)++([10]:List UInt8))),p,r,(f+1))else none else none else none else none)else none else none)else some k) N (j,l,(l.length:Int),(0:Int))) N (((([100,111,99,32]:List UInt8)++m)++([10]:List UInt8)),d,(d.length:Int),(0:Int),h,d,o)else none else none)
theorem jYs :mK 127 (bX [.agg [pI,.pv Y17,.pv Y13]] [pS] (c3A (i_DocPut_m N))):=
 mO (fC (jh0 N) (fC (jO0 N) ja)) func127 rfl N (.seq .no (.seq .no (.seq .no (.seq (.seq .no (.block (.loop jXY .no))) (.seq (.seq .no (.block (.loop jX3 .no))) .no))))) _
def jYE :Sh:=⟨dz 3 (.box 3 0:: .dead::pS::dz 12 (.pv Y3::pI::pI::dz 23 [])),[(3,false,[.pv Y3,.pv Y5,.pv Y19])]⟩
def jX8 :Sh:=⟨dz 5 (pS::dz 24 (.pv Y19::pI::pI::dz 11 [])),[]⟩
noncomputable def i_LivePut_m (v:List Z1) (z:List Z4) (d:List Z0) (q:List Z2) (k:List Int):Option (Z1):=
 (oB (i_IndexOk_m N v z ([((d,q),k)]:List Z3)) fun w=>bif !w then some ([]:List UInt8)else iter (fun t (f,p,l,b,u,y,i)=>bif decide (b<l)then oB (idx p b) fun j=>(oB (i_DocPut_m N j.1 j.2.1 j.2.2) fun n=>if f.length+n.length<=9223372036854775807 then if fits (b+1)then t ((f++n),p,l,(b+1),u,y,i)else none else none)else iter (fun r (h,o,m,c)=>bif decide (c<m)then oB (idx o c) fun x=>(oB (k_strconv_Itoa_m N x) fun a=>if([100,101,97,100,32]:List UInt8).length+a.length<=9223372036854775807 then if(([100,101,97,100,32]:List UInt8)++a).length+([10]:List UInt8).length<=9223372036854775807 then if h.length+((([100,101,97,100,32]:List UInt8)++a)++([10]:List UInt8)).length<=9223372036854775807 then if fits (c+1)then r ((h++((([100,101,97,100,32]:List UInt8)++a)++([10]:List UInt8))),o,m,(c+1))else none else none else none else none)else some h) N (f,i,(i.length:Int),(0:Int))) N (([]:List UInt8),d,(d.length:Int),(0:Int),d,q,k))
theorem jXI :mK 52 (bX [.agg [.pv (.sl .str),.pv Y14],.agg [.pv Y3,.pv Y5,.pv Y19]] [pS] (c5A (i_LivePut_m N))):=
 mO (fC (jIr N) (fC (jYs N) (fC (jO0 N) ja))) func52 rfl N (.seq .no (.seq .no (.seq .no (.seq (.seq .no (.block (.loop jYE .no))) (.seq (.seq .no (.block (.loop jX8 .no))) .no))))) _
def jX4 :Sh:=⟨.dead::pS:: .box 2 0:: .dead:: .box 4 0:: .dead:: .own 600006 Y4 95 true:: .own 600007 tI 3 true:: .pv (.sl .str)::pI::dz 92 [],[(2,false,[.pv (.sl .str),.pv Y14]),(4,false,[.nils,.nils,.nils])]⟩
def jYB :Sh:=⟨.dead::pS:: .box 2 0:: .dead:: .box 4 0:: .dead:: .own 600006 Y4 95 true:: .own 600007 tI 3 true:: .pv (.sl .str)::pI::dz 4 (pI::dz 87 []),[(2,false,[.pv (.sl .str),.pv Y14]),(4,false,[.nils,.nils,.nils])]⟩
noncomputable def jY4 (w:List Z1) (A:List Z4) (y:List UInt8):Option ((List Z0)×(List Z2)×(List Int)×Bool):=
 (oB (jaj N w A) fun S=>bif !S then some (([]:List Z0),([]:List Z2),([]:List Int),false)else oB (k_strings_Split_m N y ([10]:List UInt8)) fun E=>iter (fun e (n,t,l,m,k,p,q)=>bif decide (k<(m.length:Int))then oB (idx m k) fun U=>(oB (k_strings_CutPrefix_m N U ([100,101,97,100,32]:List UInt8)) fun u=>bif u.2 then oB (jXn N u.1) fun x=>(if room l.length ([x]:List Int).length 8 then if fits (k+1)then e (n,t,(l++([x]:List Int)),m,(k+1),p,q)else none else none)else if fits (k+1)then iter (fun O (i,c,f,a,d,b,j,h)=>bif decide (b<(a.length:Int))then oB (idx a b) fun I=>(oB (k_strings_HasPrefix_m N I ([100,111,99,32]:List UInt8)) fun L=>bif !L then oB (idx a b) fun G=>(oB (k_strings_HasPrefix_m N G ([100,101,97,100,32]:List UInt8)) fun K=>bif !K then if fits (b+1)then O (i,c,f,a,d,(b+1),j,h)else none else oB (idx a d) fun H=>bif !decide (H=([]:List UInt8))then oB (cut a d b) fun C=>(oB (jXo N C) fun z=>if room c.length ([z]:List Z0).length 56 then e (i,(c++([z]:List Z0)),f,a,b,j,h)else none)else e (i,c,f,a,b,j,h))else oB (idx a d) fun P=>bif !decide (P=([]:List UInt8))then oB (cut a d b) fun D=>(oB (jXo N D) fun B=>if room c.length ([B]:List Z0).length 56 then e (i,(c++([B]:List Z0)),f,a,b,j,h)else none)else e (i,c,f,a,b,j,h))else oB (idx a d) fun R=>bif !decide (R=([]:List UInt8))then oB (cut a d b) fun Q=>(oB (jXo N Q) fun v=>if room c.length ([v]:List Z0).length 56 then e (i,(c++([v]:List Z0)),f,a,b,j,h)else none)else e (i,c,f,a,b,j,h)) N (n,t,l,m,k,(k+1),p,q)else none)else oB (jbT N p q t) fun o=>bif decide (n=([]:List UInt8))then some (([]:List Z0),([]:List Z2),([]:List Int),false)else oB (i_LivePut_m N p q o.1 o.2 l) fun T=>bif !decide (T=n)then some (([]:List Z0),([]:List Z2),([]:List Int),false)else some (o.1,o.2,l,true)) N (y,([]:List Z0),([]:List Int),E,(0:Int),w,A))
theorem jYm :mK 12 (bX [.agg [.pv (.sl .str),.pv Y14],pS] [.tup [.agg [.own 1 Y4 95 true,.own 2 Y6 167 true,.own 3 tI 3 true],pB]] (c3A (jY4 N))):=
 mO (fC (jdX N) (fC (jYi N) (fC (jYg N) (fC (jXC N) (fC (jXS N) (fC (jYG N) (fC (jqC N) (fC (jXI N) ja)))))))) func12 rfl N (.seq .no (.seq .no (.seq .no (.seq .no (.seq .no (.seq (.seq .no (.block (.loop jX4 (.seq .no (.block (.seq .no (.seq .no (.seq (.block (.loop jYB .no)) .no)))))))) .no)))))) _
def jbd (N:Nat) (c:List UInt8) (a:List UInt8) (d:List UInt8) (b:List UInt8):Z8:=
 (bif !decide (c=d)then some false else bif !decide (a=b)then some false else some true)
theorem jmy :mK 312 (bX [.agg [pS,pS],.agg [pS,pS]] [pB] (c4A (jbd N))):=
 mO ja func312 rfl N .no _
def jqq :Sh:=⟨.pv Y17:: .pv Y17::dz 3 (pI::dz 21 []),[]⟩
def jdj (h:Z7) (d:Z7):Z8:=
 (bif !decide ((h.length:Int)=(d.length:Int))then some false else iter (fun k (b,f,a)=>bif decide (a<(b.length:Int))then oB (idx b a) fun e=>(oB (idx f a) fun c=>oB (jbd N e.1 e.2 c.1 c.2) fun i=>bif !i then some false else if fits (a+1)then k (b,f,(a+1))else none)else some true) N (h,d,(0:Int)))
theorem jmD :mK 257 (bX [.pv Y17,.pv Y17] [pB] (c2A (jdj N))):=
 mO (fC (jmy N) ja) func257 rfl N (.seq .no (.seq .no (.seq (.seq .no (.block (.loop jqq .no))) .no))) _
def jbo (N:Nat) (c:List UInt8) (a:Int) (d:List UInt8) (b:Int):Z8:=
 (bif !decide (c=d)then some false else bif !decide (a=b)then some false else some true)
theorem jtn :mK 313 (bX [.agg [pS,pI],.agg [pS,pI]] [pB] (c4A (jbo N))):=
 mO ja func313 rfl N .no _
def jtU :Sh:=⟨.pv Y13:: .pv Y13::dz 3 (pI::dz 21 []),[]⟩
def jdN (h:Z5) (d:Z5):Z8:=
 (bif !decide ((h.length:Int)=(d.length:Int))then some false else iter (fun k (b,f,a)=>bif decide (a<(b.length:Int))then oB (idx b a) fun e=>(oB (idx f a) fun c=>oB (jbo N e.1 e.2 c.1 c.2) fun i=>bif !i then some false else if fits (a+1)then k (b,f,(a+1))else none)else some true) N (h,d,(0:Int)))
theorem jkL :mK 258 (bX [.pv Y13,.pv Y13] [pB] (c2A (jdN N))):=
 mO (fC (jtn N) ja) func258 rfl N (.seq .no (.seq .no (.seq (.seq .no (.block (.loop jtU .no))) .no))) _
def jbi (i:Int) (f:Z7) (d:Z5) (e:Int) (h:Z7) (b:Z5):Z8:=
 (bif !decide (i=e)then some false else oB (jdj N f h) fun c=>bif !c then some false else oB (jdN N d b) fun a=>bif !a then some false else some true)
theorem jta :mK 205 (bX [.agg [pI,.pv Y17,.pv Y13],.agg [pI,.pv Y17,.pv Y13]] [pB] (c6A (jbi N))):=
 mO (fC (jmD N) (fC (jkL N) ja)) func205 rfl N .no _
def jqZ :Sh:=⟨.pv Y3:: .pv Y3::dz 3 (pI::dz 21 []),[]⟩
def jdZ (h:List Z0) (e:List Z0):Z8:=
 (bif !decide ((h.length:Int)=(e.length:Int))then some false else iter (fun k (d,f,a)=>bif decide (a<(d.length:Int))then oB (idx d a) fun c=>(oB (idx f a) fun b=>oB (jbi N c.1 c.2.1 c.2.2 b.1 b.2.1 b.2.2) fun i=>bif !i then some false else if fits (a+1)then k (d,f,(a+1))else none)else some true) N (h,e,(0:Int)))
theorem jmb :mK 128 (bX [.pv Y3,.pv Y3] [pB] (c2A (jdZ N))):=
 mO (fC (jta N) ja) func128 rfl N (.seq .no (.seq .no (.seq (.seq .no (.block (.loop jqZ .no))) .no))) _
def jea (e:List Int) (c:List Int):Z8:=
 (bif !decide ((e.length:Int)=(c.length:Int))then some false else iter (fun h (b,d,a)=>bif decide (a<(b.length:Int))then oB (idx b a) fun j=>(oB (idx d a) fun i=>bif !decide (j=i)then some false else if fits (a+1)then h (b,d,(a+1))else none)else some true) N (e,c,(0:Int)))
theorem jmk :mK 54 (bX [.pv Y19,.pv Y19] [pB] (c2A (jea N))):=
 mO ja func54 rfl N (.seq .no (.seq .no (.seq (.seq .no (.block (.loop jnI .no))) .no))) _
def jbl (d:Int) (b:List Int) (e:Int) (c:List Int):Z8:=
 (bif !decide (d=e)then some false else oB (jea N b c) fun a=>bif !a then some false else some true)
theorem jrv :mK 314 (bX [.agg [pI,.pv Y19],.agg [pI,.pv Y19]] [pB] (c4A (jbl N))):=
 mO (fC (jmk N) ja) func314 rfl N .no _
def jna :Sh:=⟨.pv Y11:: .pv Y11::dz 3 (pI::dz 21 []),[]⟩
def jdt (h:Z6) (d:Z6):Z8:=
 (bif !decide ((h.length:Int)=(d.length:Int))then some false else iter (fun k (b,f,a)=>bif decide (a<(b.length:Int))then oB (idx b a) fun e=>(oB (idx f a) fun c=>oB (jbl N e.1 e.2 c.1 c.2) fun i=>bif !i then some false else if fits (a+1)then k (b,f,(a+1))else none)else some true) N (h,d,(0:Int)))
theorem jrb :mK 259 (bX [.pv Y11,.pv Y11] [pB] (c2A (jdt N))):=
 mO (fC (jrv N) ja) func259 rfl N (.seq .no (.seq .no (.seq (.seq .no (.block (.loop jna .no))) .no))) _
def jaU (h:List UInt8) (e:List UInt8) (c:Z6) (d:List UInt8) (f:List UInt8) (a:Z6):Z8:=
 (bif !decide (h=d)then some false else bif !decide (e=f)then some false else oB (jdt N c a) fun b=>bif !b then some false else some true)
theorem jmZ :mK 206 (bX [.agg [pS,pS,.pv Y11],.agg [pS,pS,.pv Y11]] [pB] (c6A (jaU N))):=
 mO (fC (jrb N) ja) func206 rfl N .no _
def jkD :Sh:=⟨.pv Y5:: .pv Y5::dz 3 (pI::dz 21 []),[]⟩
def jdU (h:List Z2) (e:List Z2):Z8:=
 (bif !decide ((h.length:Int)=(e.length:Int))then some false else iter (fun k (d,f,a)=>bif decide (a<(d.length:Int))then oB (idx d a) fun c=>(oB (idx f a) fun b=>oB (jaU N c.1 c.2.1 c.2.2 b.1 b.2.1 b.2.2) fun i=>bif !i then some false else if fits (a+1)then k (d,f,(a+1))else none)else some true) N (h,e,(0:Int)))
theorem jkg :mK 129 (bX [.pv Y5,.pv Y5] [pB] (c2A (jdU N))):=
 mO (fC (jmZ N) ja) func129 rfl N (.seq .no (.seq .no (.seq (.seq .no (.block (.loop jkD .no))) .no))) _
def jbJ (e:List Z0) (c:List Z2) (f:List Z0) (d:List Z2):Z8:=
 (oB (jdZ N e f) fun b=>bif !b then some false else oB (jdU N c d) fun a=>bif !a then some false else some true)
theorem jnM :mK 53 (bX [.agg [.pv Y3,.pv Y5],.agg [.pv Y3,.pv Y5]] [pB] (c4A (jbJ N))):=
 mO (fC (jmb N) (fC (jkg N) ja)) func53 rfl N .no _
def jJW (i:List Z0) (f:List Z2) (d:List Int) (e:List Z0) (h:List Z2) (b:List Int):Z8:=
 (oB (jbJ N i f e h) fun c=>bif !c then some false else oB (jea N d b) fun a=>bif !a then some false else some true)
theorem jI3 :mK 13 (bX [.agg [.pv Y3,.pv Y5,.pv Y19],.agg [.pv Y3,.pv Y5,.pv Y19]] [pB] (c6A (jJW N))):=
 mO (fC (jnM N) (fC (jmk N) ja)) func13 rfl N .no _
def jo5 :Sh:=⟨.pv (.sl .str):: .pv (.sl .str)::dz 3 (pI::dz 20 []),[]⟩
def j0 (e:List Z1) (c:List Z1):Z8:=
 (bif !decide ((e.length:Int)=(c.length:Int))then some false else iter (fun h (b,d,a)=>bif decide (a<(b.length:Int))then oB (idx b a) fun j=>(oB (idx d a) fun i=>bif !decide (j=i)then some false else if fits (a+1)then h (b,d,(a+1))else none)else some true) N (e,c,(0:Int)))
theorem jd6 :mK 55 (bX [.pv (.sl .str),.pv (.sl .str)] [pB] (c2A (j0 N))):=
 mO ja func55 rfl N (.seq .no (.seq .no (.seq (.seq .no (.block (.loop jo5 .no))) .no))) _
def jaR (d:List Z1) (b:List UInt8) (e:List Z1) (c:List UInt8):Z8:=
 (oB (j0 N d e) fun a=>bif !a then some false else bif !decide (b=c)then some false else some true)
theorem jqb :mK 130 (bX [.agg [.pv (.sl .str),pS],.agg [.pv (.sl .str),pS]] [pB] (c4A (jaR N))):=
 mO (fC (jd6 N) ja) func130 rfl N .no _
def jp9 :Sh:=⟨.pv Y14:: .pv Y14::dz 3 (pI::dz 21 []),[]⟩
def jdJ (h:List Z4) (d:List Z4):Z8:=
 (bif !decide ((h.length:Int)=(d.length:Int))then some false else iter (fun k (b,f,a)=>bif decide (a<(b.length:Int))then oB (idx b a) fun e=>(oB (idx f a) fun c=>oB (jaR N e.1 e.2 c.1 c.2) fun i=>bif !i then some false else if fits (a+1)then k (b,f,(a+1))else none)else some true) N (h,d,(0:Int)))
theorem jkU :mK 56 (bX [.pv Y14,.pv Y14] [pB] (c2A (jdJ N))):=
 mO (fC (jqb N) ja) func56 rfl N (.seq .no (.seq .no (.seq (.seq .no (.block (.loop jp9 .no))) .no))) _
def jcO (e:List Z1) (c:List Z4) (f:List Z1) (d:List Z4):Z8:=
 (oB (j0 N e f) fun b=>bif !b then some false else oB (jdJ N c d) fun a=>bif !a then some false else some true)
theorem jr8 :mK 14 (bX [.agg [.pv (.sl .str),.pv Y14],.agg [.pv (.sl .str),.pv Y14]] [pB] (c4A (jcO N))):=
 mO (fC (jd6 N) (fC (jkU N) ja)) func14 rfl N .no _
def jnU :Sh:=⟨pI:: .dead:: .dead::pS::dz 16 [],[]⟩
def l_markText_m (c:Int):Option (Z1):=
 (bif decide (c<=0)then some ([109,48]:List UInt8)else iter (fun e (a,b)=>bif decide ((0:Int)<a)then if 10≠0 then if fits (48+(a.tmod 10))then if(bytesOf ([(IntKind.u8.wrap (48+(a.tmod 10)))]:List Int)).length+b.length<=9223372036854775807 then if 10≠0 then if fits (a.tdiv 10)then e ((a.tdiv 10),((bytesOf ([(IntKind.u8.wrap (48+(a.tmod 10)))]:List Int))++b))else none else none else none else none else none else if([109]:List UInt8).length+b.length<=9223372036854775807 then some (([109]:List UInt8)++b)else none) N (c,([]:List UInt8)))
theorem jaz :mK 131 (bX [pI] [pS] (c1A (l_markText_m N))):=
 mO ja func131 rfl N (.seq .no (.seq .no (.seq .no (.seq (.block (.loop jnU .no)) .no)))) _
def jol :Sh:=⟨.mtk 800000 .str 9 true::pI::dz 3 (pI::dz 14 []),[]⟩
def l_markStringS_m (i:List Z1) (f:Int):Option (Int×(List Z1)):=
 (iter (fun h (b,c,a)=>bif decide (a<(b.length:Int))then oB (l_markText_m N c) fun d=>(if 0<=a/\a<(b.length:Int)then oB (b[a.toNat]?) fun j=>(if fits (c+1)then if fits (a+1)then h ((b.set a.toNat d),(c+1),(a+1))else none else none)else none)else some (c,b)) N (i,f,(0:Int)))
theorem jdf :mK 57 (bX [.mtk 800000 .str 9 true,pI] [pI,.mtk 800000 .str 9 true] (c2A (l_markStringS_m N))):=
 mO (fC (jaz N) ja) func57 rfl N (.seq .no (.seq (.seq .no (.block (.loop jol .no))) .no)) _ (rs:=[800000])
def jq1 :Sh:=⟨.tre 800000 Y16 142::pI::dz 3 (pI::dz 22 []),[]⟩
def l_markSynS_m (m:List Z4) (h:Int):Option (Int×(List Z4)):=
 (iter (fun i (b,d,a)=>bif decide (a<(b.length:Int))then if 0<=a/\a<(b.length:Int)then oB (b[a.toNat]?) fun k=>(oB (l_markStringS_m N k.1 d) fun c=>oB (l_markText_m N c.1) fun e=>if 0<=a/\a<(b.length:Int)then oB (b[a.toNat]?) fun j=>(if fits (c.1+1)then if fits (a+1)then i (((b.set a.toNat (j.1,e)).modify a.toNat fun l=>(c.2,l.2)),(c.1+1),(a+1))else none else none)else none)else none else some (d,b)) N (m,h,(0:Int)))
theorem jqK :mK 58 (bX [.tre 800000 Y16 142,pI] [pI,.tre 800000 Y16 142] (c2A (l_markSynS_m N))):=
 mO (fC (jdf N) (fC (jaz N) ja)) func58 rfl N (.seq .no (.seq (.seq .no (.block (.loop jq1 .no))) .no)) _ (rs:=[800000])
def l_markConf_m (e:List Z1) (d:List Z4) (c:Int):Option (Int×(List Z1)×(List Z4)):=
 (oB (l_markStringS_m N e c) fun b=>oB (l_markSynS_m N d b.1) fun a=>some (a.1,b.2,a.2))
theorem jrd :mK 15 (bX [.agg [.mtk 800000 .str 9 true,.tre 800001 Y16 142],pI] [pI,.mtk 800000 .str 9 true,.tre 800001 Y16 142] (c3A (l_markConf_m N))):=
 mO (fC (jdf N) (fC (jqK N) ja)) func15 rfl N .no _ (rs:=[800000,800001])
def jrq :Sh:=⟨.mtk 800000 Y18 155 true::pI::dz 3 (pI::dz 23 []),[]⟩
def l_markFieldS_m (l:Z7) (i:Int):Option (Int×Z10):=
 (iter (fun j (b,c,a)=>bif decide (a<(b.length:Int))then oB (l_markText_m N c) fun d=>(if 0<=a/\a<(b.length:Int)then oB (b[a.toNat]?) fun e=>(if fits (c+1)then oB (l_markText_m N (c+1)) fun f=>(if 0<=a/\a<((b.set a.toNat (d,e.2)).length:Int)then oB ((b.set a.toNat (d,e.2))[a.toNat]?) fun k=>(if fits ((c+1)+1)then if fits (a+1)then j (((b.set a.toNat (d,e.2)).set a.toNat (k.1,f)),((c+1)+1),(a+1))else none else none)else none)else none)else none)else some (c,b)) N (l,i,(0:Int)))
theorem jo0 :mK 207 (bX [.mtk 800000 Y18 155 true,pI] [pI,.mtk 800000 Y18 155 true] (c2A (l_markFieldS_m N))):=
 mO (fC (jaz N) ja) func207 rfl N (.seq .no (.seq (.seq .no (.block (.loop jrq .no))) .no)) _ (rs:=[800000])
def js9 :Sh:=⟨.mtk 800000 Y15 157 true::pI::dz 3 (pI::dz 22 []),[]⟩
def l_markAttrS_m (k:Z5) (h:Int):Option (Int×Z9):=
 (iter (fun i (b,c,a)=>bif decide (a<(b.length:Int))then oB (l_markText_m N c) fun d=>(if 0<=a/\a<(b.length:Int)then oB (b[a.toNat]?) fun e=>(if fits (c+1)then if 0<=a/\a<((b.set a.toNat (d,e.2)).length:Int)then oB ((b.set a.toNat (d,e.2))[a.toNat]?) fun j=>(if fits ((c+1)+1)then if fits (a+1)then i (((b.set a.toNat (d,e.2)).set a.toNat (j.1,(c+1))),((c+1)+1),(a+1))else none else none)else none else none)else none)else some (c,b)) N (k,h,(0:Int)))
theorem js2 :mK 208 (bX [.mtk 800000 Y15 157 true,pI] [pI,.mtk 800000 Y15 157 true] (c2A (l_markAttrS_m N))):=
 mO (fC (jaz N) ja) func208 rfl N (.seq .no (.seq (.seq .no (.block (.loop js9 .no))) .no)) _ (rs:=[800000])
def jml :Sh:=⟨.tre 800000 Y4 95::pI::dz 3 (pI::dz 28 []),[]⟩
def l_markDocS_m (o:List Z0) (l:Int):Option (Int×(List Z0)):=
 (iter (fun m (b,c,a)=>bif decide (a<(b.length:Int))then if 0<=a/\a<(b.length:Int)then oB (b[a.toNat]?) fun d=>(if fits (c+1)then if 0<=a/\a<((b.set a.toNat (c,d.2)).length:Int)then oB ((b.set a.toNat (c,d.2))[a.toNat]?) fun n=>(oB (l_markFieldS_m N n.2.1 (c+1)) fun h=>if 0<=a/\a<((b.set a.toNat (c,d.2)).length:Int)then oB ((b.set a.toNat (c,d.2))[a.toNat]?) fun j=>(oB (l_markAttrS_m N j.2.2 h.1) fun e=>if fits (a+1)then m ((((b.set a.toNat (c,d.2)).modify a.toNat fun i=>(i.1,i.2.1,e.2)).modify a.toNat fun f=>(f.1,h.2,f.2.2)),e.1,(a+1))else none)else none)else none else none)else none else some (c,b)) N (o,l,(0:Int)))
theorem jnb :mK 132 (bX [.tre 800000 Y4 95,pI] [pI,.tre 800000 Y4 95] (c2A (l_markDocS_m N))):=
 mO (fC (jo0 N) (fC (js2 N) ja)) func132 rfl N (.seq .no (.seq (.seq .no (.block (.loop jml .no))) .no)) _ (rs:=[800000])
def jl9 :Sh:=⟨.mtk 800000 tI 3 true::pI::dz 3 (pI::dz 13 []),[]⟩
def l_markIntS_m (h:List Int) (e:Int):Option (Int×(List Int)):=
 (iter (fun f (b,c,a)=>bif decide (a<(b.length:Int))then if 0<=a/\a<(b.length:Int)then oB (b[a.toNat]?) fun i=>(if fits (c+1)then if fits (a+1)then f ((b.set a.toNat c),(c+1),(a+1))else none else none)else none else some (c,b)) N (h,e,(0:Int)))
theorem jr1 :mK 60 (bX [.mtk 800000 tI 3 true,pI] [pI,.mtk 800000 tI 3 true] (c2A (l_markIntS_m N))):=
 mO ja func60 rfl N (.seq .no (.seq (.seq .no (.block (.loop jl9 .no))) .no)) _ (rs:=[800000])
def jnn :Sh:=⟨.tre 800000 Y12 241::pI::dz 3 (pI::dz 21 []),[]⟩
def l_markPostS_m (l:Z6) (h:Int):Option (Int×Z13):=
 (iter (fun i (b,c,a)=>bif decide (a<(b.length:Int))then if 0<=a/\a<(b.length:Int)then oB (b[a.toNat]?) fun d=>(if fits (c+1)then if 0<=a/\a<((b.set a.toNat (c,d.2)).length:Int)then oB ((b.set a.toNat (c,d.2))[a.toNat]?) fun j=>(oB (l_markIntS_m N j.2 (c+1)) fun e=>if fits (a+1)then i (((b.set a.toNat (c,d.2)).modify a.toNat fun k=>(k.1,e.2)),e.1,(a+1))else none)else none else none)else none else some (c,b)) N (l,h,(0:Int)))
theorem jrg :mK 209 (bX [.tre 800000 Y12 241,pI] [pI,.tre 800000 Y12 241] (c2A (l_markPostS_m N))):=
 mO (fC (jr1 N) ja) func209 rfl N (.seq .no (.seq (.seq .no (.block (.loop jnn .no))) .no)) _ (rs:=[800000])
def jkI :Sh:=⟨.tre 800000 Y6 167::pI::dz 3 (pI::dz 30 []),[]⟩
def l_markEntryS_m (o:List Z2) (m:Int):Option (Int×(List Z2)):=
 (iter (fun n (b,d,a)=>bif decide (a<(b.length:Int))then oB (l_markText_m N d) fun e=>(if 0<=a/\a<(b.length:Int)then oB (b[a.toNat]?) fun f=>(if fits (d+1)then oB (l_markText_m N (d+1)) fun h=>(if 0<=a/\a<((b.set a.toNat (e,f.2)).length:Int)then oB ((b.set a.toNat (e,f.2))[a.toNat]?) fun c=>(if fits ((d+1)+1)then if 0<=a/\a<(((b.set a.toNat (e,f.2)).set a.toNat (c.1,h,c.2.2)).length:Int)then oB (((b.set a.toNat (e,f.2)).set a.toNat (c.1,h,c.2.2))[a.toNat]?) fun k=>(oB (l_markPostS_m N k.2.2 ((d+1)+1)) fun i=>if fits (a+1)then n ((((b.set a.toNat (e,f.2)).set a.toNat (c.1,h,c.2.2)).modify a.toNat fun j=>(j.1,j.2.1,i.2)),i.1,(a+1))else none)else none else none)else none)else none)else none)else some (d,b)) N (o,m,(0:Int)))
theorem jlr :mK 133 (bX [.tre 800000 Y6 167,pI] [pI,.tre 800000 Y6 167] (c2A (l_markEntryS_m N))):=
 mO (fC (jaz N) (fC (jrg N) ja)) func133 rfl N (.seq .no (.seq (.seq .no (.block (.loop jkI .no))) .no)) _ (rs:=[800000])
def jK5 :Sh:=⟨.pv Y17::pI::dz 3 (pI::dz 27 []),[]⟩
def l_heldFieldS_m (l:Z7) (h:Int):Z12:=
 (iter (fun i (c,a,b)=>bif decide (b<(c.length:Int))then oB (idx c b) fun k=>(oB (l_markText_m N a) fun e=>bif !decide (k.1=e)then some (-1)else if fits (a+1)then oB (idx c b) fun j=>(oB (l_markText_m N (a+1)) fun d=>bif !decide (j.2=d)then some (-1)else if fits ((a+1)+1)then if fits (b+1)then i (c,((a+1)+1),(b+1))else none else none)else none)else some a) N (l,h,(0:Int)))
theorem jLR :mK 210 (bX [.pv Y17,pI] [pI] (c2A (l_heldFieldS_m N))):=
 mO (fC (jaz N) ja) func210 rfl N (.seq .no (.seq (.seq .no (.block (.loop jK5 .no))) .no)) _
def jNb :Sh:=⟨.pv Y13::pI::dz 3 (pI::dz 26 []),[]⟩
def l_heldAttrS_m (k:Z5) (f:Int):Z12:=
 (iter (fun h (c,a,b)=>bif decide (b<(c.length:Int))then oB (idx c b) fun j=>(oB (l_markText_m N a) fun d=>bif !decide (j.1=d)then some (-1)else if fits (a+1)then oB (idx c b) fun i=>(bif !decide (i.2=(a+1))then some (-1)else if fits ((a+1)+1)then if fits (b+1)then h (c,((a+1)+1),(b+1))else none else none)else none)else some a) N (k,f,(0:Int)))
theorem jMG :mK 211 (bX [.pv Y13,pI] [pI] (c2A (l_heldAttrS_m N))):=
 mO (fC (jaz N) ja) func211 rfl N (.seq .no (.seq (.seq .no (.block (.loop jNb .no))) .no)) _
def jMl :Sh:=⟨.pv Y3::pI::dz 3 (pI::dz 34 []),[]⟩
def l_heldDocS_m (m:List Z0) (i:Int):Z12:=
 (iter (fun j (b,c,a)=>bif decide (a<(b.length:Int))then oB (idx b a) fun l=>(bif !decide (l.1=c)then some (-1)else if fits (c+1)then oB (idx b a) fun k=>(oB (l_heldFieldS_m N k.2.1 (c+1)) fun e=>bif decide (e<0)then some (-1)else oB (idx b a) fun f=>oB (l_heldAttrS_m N f.2.2 e) fun d=>bif decide (d<0)then some (-1)else if fits (a+1)then j (b,d,(a+1))else none)else none)else some c) N (m,i,(0:Int)))
theorem jKZ :mK 134 (bX [.pv Y3,pI] [pI] (c2A (l_heldDocS_m N))):=
 mO (fC (jLR N) (fC (jMG N) ja)) func134 rfl N (.seq .no (.seq (.seq .no (.block (.loop jMl .no))) .no)) _
def jEr :Sh:=⟨.pv Y19::pI::dz 3 (pI::dz 15 []),[]⟩
def l_heldIntS_m (i:List Int) (e:Int):Z12:=
 (iter (fun f (c,b,a)=>bif decide (a<(c.length:Int))then oB (idx c a) fun h=>(bif !decide (h=b)then some (-1)else if fits (b+1)then if fits (a+1)then f (c,(b+1),(a+1))else none else none)else some b) N (i,e,(0:Int)))
theorem jEn :mK 62 (bX [.pv Y19,pI] [pI] (c2A (l_heldIntS_m N))):=
 mO ja func62 rfl N (.seq .no (.seq (.seq .no (.block (.loop jEr .no))) .no)) _
def jMS :Sh:=⟨.pv Y11::pI::dz 3 (pI::dz 25 []),[]⟩
def l_heldPostS_m (k:Z6) (f:Int):Z12:=
 (iter (fun h (c,b,a)=>bif decide (a<(c.length:Int))then oB (idx c a) fun j=>(bif !decide (j.1=b)then some (-1)else if fits (b+1)then oB (idx c a) fun i=>(oB (l_heldIntS_m N i.2 (b+1)) fun d=>bif decide (d<0)then some (-1)else if fits (a+1)then h (c,d,(a+1))else none)else none)else some b) N (k,f,(0:Int)))
theorem jMN :mK 212 (bX [.pv Y11,pI] [pI] (c2A (l_heldPostS_m N))):=
 mO (fC (jEn N) ja) func212 rfl N (.seq .no (.seq (.seq .no (.block (.loop jMS .no))) .no)) _
def jK2 :Sh:=⟨.pv Y5::pI::dz 3 (pI::dz 36 []),[]⟩
def l_heldEntryS_m (n:List Z2) (j:Int):Z12:=
 (iter (fun k (c,b,a)=>bif decide (a<(c.length:Int))then oB (idx c a) fun m=>(oB (l_markText_m N b) fun h=>bif !decide (m.1=h)then some (-1)else if fits (b+1)then oB (idx c a) fun l=>(oB (l_markText_m N (b+1)) fun e=>bif !decide (l.2.1=e)then some (-1)else if fits ((b+1)+1)then oB (idx c a) fun f=>(oB (l_heldPostS_m N f.2.2 ((b+1)+1)) fun d=>bif decide (d<0)then some (-1)else if fits (a+1)then k (c,d,(a+1))else none)else none)else none)else some b) N (n,j,(0:Int)))
theorem jLJ :mK 135 (bX [.pv Y5,pI] [pI] (c2A (l_heldEntryS_m N))):=
 mO (fC (jaz N) (fC (jMN N) ja)) func135 rfl N (.seq .no (.seq (.seq .no (.block (.loop jK2 .no))) .no)) _
def jMA :Sh:=⟨.dead:: .box 1 0:: .box 2 0:: .box 3 0::pI::dz 33 [],[(1,false,[.pv (.sl .str),.pv Y14]),(2,false,[.nils,.nils]),(3,false,[.own 700300 .str 9 true,.own 700301 Y16 142 true])]⟩
def s_l18CopyConf_m (c:List Z1) (l:List Z4):Option ((List Z1)×(List Z4)):=
 (if room ([]:List Z1).length c.length 16 then iter (fun k (a,j,b,h,e)=>bif decide (a<(b.length:Int))then oB (idx b a) fun d=>(if room ([]:List Z1).length d.1.length 16 then oB (idx b a) fun f=>(if room e.length ([((([]:List Z1)++d.1),f.2)]:List Z4).length 40 then if fits (a+1)then k ((a+1),j,b,h,(e++([((([]:List Z1)++d.1),f.2)]:List Z4)))else none else none)else none)else some (h,e)) N ((0:Int),c,l,(([]:List Z1)++c),([]:List Z4))else none)
theorem jMp :mK 144 (bX [.agg [.pv (.sl .str),.pv Y14]] [.agg [.own 1 .str 9 true,.own 2 Y16 142 true]] (c2A (s_l18CopyConf_m N))):=
 mO ja func144 rfl N (.seq .no (.seq .no (.seq (.seq .no (.block (.loop jMA .no))) .no))) _
def jZN :Sh:=⟨.dead:: .box 1 0:: .dead::pI::dz 39 [],[(1,false,[.pv Y17])]⟩
def s_l19DiskOk_m (f:Z7):Z8:=
 (iter (fun d (a,b)=>bif decide (a<(b.length:Int))then oB (idx b a) fun j=>(oB (jT N j.1) fun h=>bif !h then some false else bif decide ((0:Int)<a)then oB (idx b a) fun e=>(if fits (a-1)then oB (idx b (a-1)) fun c=>(bif Op.bytesLess e.1 c.1||decide (e.1=c.1)then some false else if fits (a+1)then d ((a+1),b)else none)else none)else if fits (a+1)then d ((a+1),b)else none)else some (decide ((b.length:Int)<=24))) N ((0:Int),f))
theorem j0g :mK 67 (bX [.agg [.pv Y17]] [pB] (c1A (s_l19DiskOk_m N))):=
 mO (fC (jgp N) ja) func67 rfl N (.seq .no (.seq (.seq .no (.block (.loop jZN .no))) .no)) _
def s_l19Gen_m (b:Int):Option (Z1):=
 (if fits (1000+b)then oB (s_l1Dec_m N N (1000+b)) fun a=>(if([103,101,110]:List UInt8).length+a.length<=9223372036854775807 then some (([103,101,110]:List UInt8)++a)else none)else none)
theorem j0N :mK 142 (bX [pI] [pS] (c1A (s_l19Gen_m N))):=
 mO (fC (jOx N N) ja) func142 rfl N .no _
def j0j :Sh:=⟨.dead::pS:: .box 2 0::dz 3 (pI::dz 21 []),[(2,false,[.pv Y17])]⟩
def s_l19File_m (d:Z7) (j:List UInt8):Option (Z1×Bool):=
 (iter (fun f (c,a,b)=>bif decide (a<(b.length:Int))then oB (idx b a) fun i=>(bif decide (i.1=c)then oB (idx b a) fun h=>(some (h.2,true))else if fits (a+1)then f (c,(a+1),b)else none)else some (([]:List UInt8),false)) N (j,(0:Int),d))
theorem jZK :mK 141 (bX [.agg [.pv Y17],pS] [.tup [pS,pB]] (c2A (s_l19File_m N))):=
 mO ja func141 rfl N (.seq .no (.seq (.seq .no (.block (.loop j0j .no))) .no)) _
def j0u :Sh:=⟨pS:: .dead:: .dead::pI::pI::dz 27 [],[]⟩
def j0M :Sh:=⟨pS:: .dead:: .dead::pI::pI::pI::dz 26 [],[]⟩
def s_l19Crc_m (k:List UInt8):Z12:=
 (iter (fun l (f,j,h)=>bif decide (h<(f.length:Int))then oB (idx f h) fun m=>(iter (fun i (e,a,c,b)=>bif decide (b<8)then if 2≠0 then bif decide ((a.tmod 2)=1)then if 2≠0 then if fits (a.tdiv 2)then if fits (b+1)then i (e,(bitsI .xor .i64 (a.tdiv 2) 3988292384),c,(b+1))else none else none else none else(if 2≠0 then if fits (a.tdiv 2)then if fits (b+1)then i (e,(a.tdiv 2),c,(b+1))else none else none else none)else none else if fits (c+1)then l (e,a,(c+1))else none) N (f,(bitsI .xor .i64 j (IntKind.i64.wrap (m.toNat:Int))),h,(0:Int)))else some (bitsI .xor .i64 j 4294967295)) N (k,(4294967295:Int),(0:Int)))
theorem jZT :mK 171 (bX [pS] [pI] (c1A (s_l19Crc_m N))):=
 mO ja func171 rfl N (.seq .no (.seq .no (.seq (.seq .no (.block (.loop j0u (.seq .no (.seq (.block (.seq .no (.seq .no (.block (.loop j0M .no))))) .no))))) .no))) _
def jZS :Sh:=⟨.dead:: .box 1 0::dz 4 (.pv Y17::pI::pI::dz 29 []),[(1,false,[.pv Y17])]⟩
def i_DiskOk_m (c:Z7):Z8:=
 (iter (fun f (d,e,a,b)=>bif decide (a<e)then oB (idx d a) fun h=>(oB (jO N h.1) fun i=>bif !i then some false else bif decide ((0:Int)<a)then if fits (a-1)then oB (idx b (a-1)) fun k=>(bif !Op.bytesLess k.1 h.1 then some false else if fits (a+1)then f (d,e,(a+1),b)else none)else none else if fits (a+1)then f (d,e,(a+1),b)else none)else some (decide ((b.length:Int)<=24))) N (c,(c.length:Int),(0:Int),c))
theorem j0P :mK 22 (bX [.agg [.pv Y17]] [pB] (c1A (i_DiskOk_m N))):=
 mO (fC (jcM N) ja) func22 rfl N (.seq .no (.seq (.seq .no (.block (.loop jZS .no))) .no)) _
def i_genName_m (b:Int):Option (Z1):=
 (if fits (1000+b)then oB (k_strconv_Itoa_m N (1000+b)) fun a=>(if([103,101,110]:List UInt8).length+a.length<=9223372036854775807 then some (([103,101,110]:List UInt8)++a)else none)else none)
theorem j0B :mK 85 (bX [pI] [pS] (c1A (i_genName_m N))):=
 mO (fC (jO0 N) ja) func85 rfl N .no _
def j0n :Sh:=⟨.dead::pS::dz 7 (.pv Y17::pI::pI::dz 10 []),[]⟩
def i_Disk_file_m (b:Z7) (j:List UInt8):Option (Z1×Bool):=
 (iter (fun i (d,c,e,a)=>bif decide (a<e)then oB (idx c a) fun f=>(bif decide (f.1=d)then some (f.2,true)else if fits (a+1)then i (d,c,e,(a+1))else none)else some (([]:List UInt8),false)) N (j,b,(b.length:Int),(0:Int)))
theorem j0r :mK 84 (bX [.agg [.pv Y17],pS] [.tup [pS,pB]] (c2A (i_Disk_file_m N))):=
 mO ja func84 rfl N (.seq .no (.seq (.seq .no (.block (.loop j0n .no))) .no)) _
def jM7 :Sh:=⟨.dead:: .dead:: .box 2 0:: .box 3 0::dz 9 (.pv Y14::pI::pI::dz 17 []),[(2,false,[.nils,.nils]),(3,false,[.own 700300 .str 9 true,.own 700301 Y16 142 true])]⟩
def i_cloneConf_m (e:List Z1) (h:List Z4):Option ((List Z1)×(List Z4)):=
 (if room ([]:List Z1).length e.length 16 then iter (fun k (i,f,b,d,c)=>bif decide (b<f)then oB (idx i b) fun a=>(if room ([]:List Z1).length a.1.length 16 then if room c.length ([((([]:List Z1)++a.1),a.2)]:List Z4).length 40 then if fits (b+1)then k (i,f,(b+1),d,(c++([((([]:List Z1)++a.1),a.2)]:List Z4)))else none else none else none)else some (d,c)) N (h,(h.length:Int),(0:Int),(([]:List Z1)++e),([]:List Z4))else none)
theorem jLo :mK 140 (bX [.agg [.pv (.sl .str),.pv Y14]] [.agg [.own 1 .str 9 true,.own 2 Y16 142 true]] (c2A (i_cloneConf_m N))):=
 mO ja func140 rfl N (.seq .no (.seq .no (.seq (.seq .no (.block (.loop jM7 .no))) .no))) _
def jZO :Sh:=⟨pS:: .dead:: .dead:: .pv (.int .u32):: .dead:: .dead::pI::pI::dz 23 [],[]⟩
def j0x :Sh:=⟨pS:: .dead:: .dead:: .pv (.int .u32):: .dead:: .dead::pI::pI::dz 8 (pI::dz 14 []),[]⟩
def i_Crc_m (i:List UInt8):Z12:=
 (iter (fun n (k,m,l,h)=>bif decide (h<l)then oB (idx k h) fun o=>(iter (fun j (e,b,f,c,a)=>bif decide (a<8)then bif decide ((bitsI .and .u32 b 1)=1)then if 0<=(1:Int)then if fits (a+1)then j (e,(bitsI .xor .u32 (b.fdiv (2^(min (1:Int).toNat (IntKind.bits .u32)))) 3988292384),f,c,(a+1))else none else none else(if 0<=(1:Int)then if fits (a+1)then j (e,(b.fdiv (2^(min (1:Int).toNat (IntKind.bits .u32)))),f,c,(a+1))else none else none)else if fits (c+1)then n (e,b,f,(c+1))else none) N (k,(bitsI .xor .u32 m (IntKind.u32.wrap (o.toNat:Int))),l,h,(0:Int)))else some (IntKind.i64.wrap (bitsI .xor .u32 4294967295 m))) N (i,(4294967295:Int),(i.length:Int),(0:Int)))
theorem jZY :mK 87 (bX [pS] [pI] (c1A (i_Crc_m N))):=
 mO ja func87 rfl N (.seq .no (.seq .no (.seq (.seq .no (.block (.loop jZO (.seq .no (.seq .no (.seq (.block (.seq .no (.seq .no (.seq .no (.block (.loop j0x .no)))))) .no)))))) .no))) _
def jZQ :Sh:=⟨dz 3 (.box 3 0:: .box 4 0:: .dead:: .box 6 0::dz 5 (.box 12 0::dz 37 (.pv (.sl .str)::pI::pI::dz 44 []))),[(3,false,[.pv Y17]),(4,false,[.pv (.sl .str),.pv Y14]),(6,false,[.nils,.nils,.nils]),(12,false,[.own 701200 .str 9 true,.own 701201 Y16 142 true,.own 701202 Y1 33 true])]⟩
noncomputable def i_Disk_commit_m (i:Z7) (l:List Z1) (u:List Z4) (x:Int):Option ((List Z1)×(List Z4)×(List Z3)×Bool):=
 (oB (i_genName_m N x) fun z=>oB (i_Disk_file_m N i z) fun n=>oB (k_strings_Split_m N n.1 ([10]:List UInt8)) fun b=>if fits ((b.length:Int)-1)then bif !n.2 then some (([]:List Z1),([]:List Z4),([]:List Z3),false)else(oB (idx b ((b.length:Int)-1)) fun C=>bif !decide (C=([101,110,100]:List UInt8))then some (([]:List Z1),([]:List Z4),([]:List Z3),false)else oB (i_cloneConf_m N l u) fun o=>oB (cut b 0 ((b.length:Int)-1)) fun k=>iter (fun w (p,q,c,m,j,r,f,e,d)=>bif decide (c<q)then oB (idx p c) fun A=>(oB (k_strings_Cut_m N A ([32]:List UInt8)) fun t=>oB (i_Disk_file_m N m t.1) fun h=>bif !h.2 then some (([]:List Z1),([]:List Z4),([]:List Z3),false)else oB (i_Crc_m N h.1) fun B=>oB (k_strconv_Itoa_m N B) fun D=>bif !decide (D=t.2.1)then some (([]:List Z1),([]:List Z4),([]:List Z3),false)else oB (jY4 N j r h.1) fun a=>bif !a.2.2.2 then some (([]:List Z1),([]:List Z4),([]:List Z3),false)else if room d.length ([((a.1,a.2.1),a.2.2.1)]:List Z3).length 72 then if fits (c+1)then w (p,q,(c+1),m,j,r,f,e,(d++([((a.1,a.2.1),a.2.2.1)]:List Z3)))else none else none)else oB (i_IndexOk_m N f e d) fun y=>some (f,e,d,y)) N (k,(k.length:Int),(0:Int),i,l,u,o.1,o.2,([]:List Z3)))else none)
theorem j0h :mK 65 (bX [.agg [.pv Y17],.agg [.pv (.sl .str),.pv Y14],pI] [.tup [.agg [.own 1 .str 9 true,.own 2 Y16 142 true,.own 3 Y1 33 true],pB]] (c4A (i_Disk_commit_m N))):=
 mO (fC (j0B N) (fC (j0r N) (fC (jYi N) (fC (jLo N) (fC (jX0 N) (fC (jZY N) (fC (jO0 N) (fC (jYm N) (fC (jIr N) ja))))))))) func65 rfl N (.seq .no (.seq .no (.seq .no (.seq .no (.seq .no (.seq .no (.seq (.seq .no (.block (.loop jZQ .no))) .no))))))) _
def i_IndexNew_m (b:List Z1) (c:List Z4):Option ((List Z1)×(List Z4)×(List Z3)):=
 (oB (jaj N b c) fun d=>bif !d then some (([]:List Z1),([]:List Z4),([]:List Z3))else oB (i_cloneConf_m N b c) fun a=>some (a.1,a.2,([]:List Z3)))
theorem jRK :mK 66 (bX [.agg [.pv (.sl .str),.pv Y14]] [.agg [.own 1 .str 9 true,.own 2 Y16 142 true,.own 3 Y1 33 true]] (c2A (i_IndexNew_m N))):=
 mO (fC (jdX N) (fC (jLo N) ja)) func66 rfl N .no _
def jZ2 :Sh:=⟨.dead:: .dead:: .box 2 0:: .box 3 0:: .box 4 0:: .dead::pI::dz 27 [],[(2,false,[.pv (.sl .str),.pv Y14]),(3,false,[.pv Y17]),(4,false,[.nils,.nils,.nils])]⟩
noncomputable def i_DiskOpen_m (h:List Z1) (j:List Z4) (f:Z7):Option ((List Z1)×(List Z4)×(List Z3)×Int):=
 (oB (jaj N h j) fun l=>bif !l then some (([]:List Z1),([]:List Z4),([]:List Z3),(-1))else oB (i_DiskOk_m N f) fun k=>bif !k then some (([]:List Z1),([]:List Z4),([]:List Z3),(-1))else iter (fun n (a,d,e,i)=>bif decide ((1:Int)<=a)then oB (i_Disk_commit_m N i d e a) fun b=>(bif b.2.2.2 then some (b.1,b.2.1,b.2.2.1,a)else if fits (a-1)then n ((a-1),d,e,i)else none)else oB (i_IndexNew_m N d e) fun c=>some (c.1,c.2.1,c.2.2,0)) N ((99:Int),h,j,f))
theorem j0w :mK 19 (bX [.agg [.pv (.sl .str),.pv Y14],.agg [.pv Y17]] [.tup [.agg [.own 1 .str 9 true,.own 2 Y16 142 true,.own 3 Y1 33 true],pI]] (c3A (i_DiskOpen_m N))):=
 mO (fC (jdX N) (fC (j0P N) (fC (j0h N) (fC (jRK N) ja)))) func19 rfl N (.seq .no (.seq .no (.seq (.seq .no (.block (.loop jZ2 .no))) .no))) _
def jZU :Sh:=⟨dz 3 (.box 3 0:: .box 4 0:: .dead:: .box 6 0:: .dead:: .box 8 0:: .own 600009 .str 9 true::pI::dz 73 []),[(3,false,[.pv (.sl .str),.pv Y14]),(4,false,[.pv Y17]),(6,false,[.nils,.nils,.nils]),(8,false,[.own 700800 .str 9 true,.own 700801 Y16 142 true,.own 700802 Y1 33 false])]⟩
def s_l19Open_m (k:List Z1) (o:List Z4) (p:Z7) (w:List UInt8):Option ((List Z1)×(List Z4)×(List Z3)×Bool):=
 (oB (s_l18CopyConf_m N k o) fun m=>oB (s_l1Cut_m N w 10 6) fun t=>iter (fun r (b,c,j,n,l,f,e,d)=>if fits (c+1)then bif decide ((c+1)<(b.length:Int))then oB (idx b c) fun z=>(oB (s_l1Cut_m N z 32 2) fun h=>bif !decide ((h.length:Int)=2)then some (([]:List Z1),([]:List Z4),([]:List Z3),false)else oB (idx h 0) fun x=>oB (s_l19File_m N l x) fun i=>bif !i.2 then some (([]:List Z1),([]:List Z4),([]:List Z3),false)else oB (idx h 1) fun u=>oB (s_l19Crc_m N i.1) fun y=>oB (s_l1Dec_m N N y) fun A=>bif !decide (u=A)then some (([]:List Z1),([]:List Z4),([]:List Z3),false)else oB (s_l19Get_m N j n i.1) fun a=>bif !a.2.2.2 then some (([]:List Z1),([]:List Z4),([]:List Z3),false)else if room d.length ([((a.1,a.2.1),a.2.2.1)]:List Z3).length 72 then if fits (c+1)then r (b,(c+1),j,n,l,f,e,(d++([((a.1,a.2.1),a.2.2.1)]:List Z3)))else none else none)else(if fits ((b.length:Int)-1)then oB (idx b ((b.length:Int)-1)) fun v=>(bif decide (v=([101,110,100]:List UInt8))then oB (s_l18Ok_m N f e d) fun B=>(some (f,e,d,B))else some (f,e,d,false))else none)else none) N (t,(0:Int),k,o,p,m.1,m.2,([]:List Z3)))
theorem j0v :mK 143 (bX [.agg [.pv (.sl .str),.pv Y14],.agg [.pv Y17],pS] [.tup [.agg [.own 1 .str 9 true,.own 2 Y16 142 true,.own 3 Y1 33 false],pB]] (c4A (s_l19Open_m N))):=
 mO (fC (jMp N) (fC (jYN N) (fC (jZK N) (fC (jZT N) (fC (jOx N N) (fC (jYR N) (fC (jIW N) ja))))))) func143 rfl N (.seq .no (.seq .no (.seq .no (.seq (.seq .no (.block (.loop jZU .no))) .no)))) _
def j0s :Sh:=⟨.dead:: .dead:: .box 2 0:: .box 3 0:: .box 4 0:: .dead::pI::dz 30 [],[(2,false,[.pv (.sl .str),.pv Y14]),(3,false,[.pv Y17]),(4,false,[.nils,.nils,.nils])]⟩
def s_l19Last_m (m:List Z1) (n:List Z4) (j:Z7):Option ((List Z1)×(List Z4)×(List Z3)×Int):=
 (iter (fun i (a,c,d,e)=>bif decide ((1:Int)<=a)then oB (s_l19Gen_m N a) fun k=>(oB (s_l19File_m N e k) fun f=>bif !f.2 then if fits (a-1)then i ((a-1),c,d,e)else none else oB (s_l19Open_m N c d e f.1) fun b=>bif b.2.2.2 then some (b.1,b.2.1,b.2.2.1,a)else if fits (a-1)then i ((a-1),c,d,e)else none)else oB (s_l18CopyConf_m N c d) fun h=>some (h.1,h.2,([]:List Z3),0)) N ((99:Int),m,n,j))
theorem j0p :mK 68 (bX [.agg [.pv (.sl .str),.pv Y14],.agg [.pv Y17]] [.tup [.agg [.own 1 .str 9 true,.own 2 Y16 142 true,.own 3 Y1 33 false],pI]] (c3A (s_l19Last_m N))):=
 mO (fC (j0N N) (fC (jZK N) (fC (j0v N) (fC (jMp N) ja)))) func68 rfl N (.seq .no (.seq (.seq .no (.block (.loop j0s .no))) .no)) _
def s_DiskOpen_m (c:List Z1) (d:List Z4) (b:Z7):Option ((List Z1)×(List Z4)×(List Z3)×Int):=
 (oB (jcw N c d) fun f=>bif !f then some (([]:List Z1),([]:List Z4),([]:List Z3),(-1))else oB (s_l19DiskOk_m N b) fun e=>bif !e then some (([]:List Z1),([]:List Z4),([]:List Z3),(-1))else oB (s_l19Last_m N c d b) fun a=>some (a.1,a.2.1,a.2.2.1,a.2.2.2))
theorem jZ3 :mK 20 (bX [.agg [.pv (.sl .str),.pv Y14],.agg [.pv Y17]] [.tup [.agg [.own 1 .str 9 true,.own 2 Y16 142 true,.own 3 Y1 33 false],pI]] (c3A (s_DiskOpen_m N))):=
 mO (fC (jtf N) (fC (j0g N) (fC (j0p N) ja))) func20 rfl N .no _
def jZx (N:Nat) (b:List UInt8) (c:List UInt8) (a:Int):Z12:=
 (if fits (a-(b.length:Int))then bif decide ((a-(b.length:Int))<0)then some (-1)else(if fits ((a-(b.length:Int))-(c.length:Int))then bif decide (((a-(b.length:Int))-(c.length:Int))<0)then some (-1)else(some ((a-(b.length:Int))-(c.length:Int)))else none)else none)
theorem j0d :mK 157 (bX [.agg [pS,pS],pI] [pI] (c3A (jZx N))):=
 mO ja func157 rfl N .no _
def j0m :Sh:=⟨.pv Y17::pI::dz 3 (pI::dz 21 []),[]⟩
def jZH (b:Z7) (c:Int):Z12:=
 (if fits (c-(b.length:Int))then bif decide ((c-(b.length:Int))<0)then some (-1)else(iter (fun j (d,h,a)=>bif decide (a<(d.length:Int))then oB (idx d a) fun f=>(oB (jZx N f.1 f.2 h) fun e=>bif decide (e<0)then some (-1)else if fits (a+1)then j (d,e,(a+1))else none)else some h) N (b,(c-(b.length:Int)),(0:Int)))else none)
theorem jZ1 :mK 75 (bX [.pv Y17,pI] [pI] (c2A (jZH N))):=
 mO (fC (j0d N) ja) func75 rfl N (.seq .no (.seq .no (.seq .no (.seq (.seq .no (.block (.loop j0m .no))) .no)))) _
def jZB (c:Z7) (b:Int):Z12:=
 (oB (jZH N c b) fun a=>bif decide (a<0)then some (-1)else some a)
theorem jZ7 :mK 25 (bX [.agg [.pv Y17],pI] [pI] (c2A (jZB N))):=
 mO (fC (jZ1 N) ja) func25 rfl N .no _
def jZz (N:Nat) (b:List UInt8) (a:List UInt8):Option (Z1×Z1):=
 (some (b,a))
theorem j0l :mK 158 (bX [.agg [pS,pS]] [.agg [pS,pS]] (c2A (jZz N))):=
 mO ja func158 rfl N .no _
def j0L :Sh:=⟨.pv Y17:: .dead:: .dead:: .mtk 600003 Y18 114 true::pI::dz 18 [],[]⟩
def jZI (b:Z7):Option (Z10):=
 (if(b.length:Int)=(b.length:Int)/\0<=(b.length:Int)/\(b.length:Int)*32<=140737488355328/\(b.length:Int)<=140737488355328 then iter (fun i (d,c,a)=>bif decide (a<(d.length:Int))then oB (idx d a) fun e=>(oB (jZz N e.1 e.2) fun f=>if 0<=a/\a<(c.length:Int)then oB (c[a.toNat]?) fun j=>(if fits (a+1)then i (d,(c.set a.toNat f),(a+1))else none)else none)else some c) N (b,(List.replicate (b.length:Int).toNat (([]:List UInt8),([]:List UInt8))),(0:Int))else none)
theorem jZZ :mK 76 (bX [.pv Y17] [.own 1 Y18 114 true] (c1A (jZI N))):=
 mO (fC (j0l N) ja) func76 rfl N (.seq .no (.seq .no (.seq (.seq .no (.block (.loop j0L .no))) .no))) _ (wr:=[7]) (dw:=[20])
def jZw (a:Z7):Option (Z10):=
 (oB (jZI N a) fun b=>some b)
theorem j0K :mK 26 (bX [.agg [.pv Y17]] [.agg [.own 1 Y18 114 true]] (c1A (jZw N))):=
 mO (fC (jZZ N) ja) func26 rfl N .no _ (dw:=[6])
def jIS :Sh:=⟨.pv Y0:: .pv Y0::dz 3 (pI::dz 21 []),[]⟩
def jKn (h:List Z3) (e:List Z3):Z8:=
 (bif !decide ((h.length:Int)=(e.length:Int))then some false else iter (fun k (d,f,a)=>bif decide (a<(d.length:Int))then oB (idx d a) fun c=>(oB (idx f a) fun b=>oB (jJW N c.1.1 c.1.2 c.2 b.1.1 b.1.2 b.2) fun i=>bif !i then some false else if fits (a+1)then k (d,f,(a+1))else none)else some true) N (h,e,(0:Int)))
theorem jIa :mK 77 (bX [.pv Y0,.pv Y0] [pB] (c2A (jKn N))):=
 mO (fC (jI3 N) ja) func77 rfl N (.seq .no (.seq .no (.seq (.seq .no (.block (.loop jIS .no))) .no))) _
def jJN (i:List Z1) (f:List Z4) (d:List Z3) (e:List Z1) (h:List Z4) (b:List Z3):Z8:=
 (oB (jcO N i f e h) fun c=>bif !c then some false else oB (jKn N d b) fun a=>bif !a then some false else some true)
theorem jIY :mK 27 (bX [.agg [.pv (.sl .str),.pv Y14,.pv Y0],.agg [.pv (.sl .str),.pv Y14,.pv Y0]] [pB] (c6A (jJN N))):=
 mO (fC (jr8 N) (fC (jIa N) ja)) func27 rfl N .no _
def jZA (N:Nat) (c:List UInt8) (a:List UInt8) (d:List UInt8) (b:List UInt8):Z8:=
 (bif !decide (c=d)then some false else bif !decide (a=b)then some false else some true)
theorem j0D :mK 159 (bX [.agg [pS,pS],.agg [pS,pS]] [pB] (c4A (jZA N))):=
 mO ja func159 rfl N .no _
def jZG (h:Z7) (d:Z7):Z8:=
 (bif !decide ((h.length:Int)=(d.length:Int))then some false else iter (fun k (b,f,a)=>bif decide (a<(b.length:Int))then oB (idx b a) fun e=>(oB (idx f a) fun c=>oB (jZA N e.1 e.2 c.1 c.2) fun i=>bif !i then some false else if fits (a+1)then k (b,f,(a+1))else none)else some true) N (h,d,(0:Int)))
theorem jZR :mK 78 (bX [.pv Y17,.pv Y17] [pB] (c2A (jZG N))):=
 mO (fC (j0D N) ja) func78 rfl N (.seq .no (.seq .no (.seq (.seq .no (.block (.loop jqq .no))) .no))) _
def jZE (b:Z7) (c:Z7):Z8:=
 (oB (jZG N b c) fun a=>bif !a then some false else some true)
theorem j0C :mK 28 (bX [.agg [.pv Y17],.agg [.pv Y17]] [pB] (c2A (jZE N))):=
 mO (fC (jZR N) ja) func28 rfl N .no _
def jZX :Sh:=⟨.mtk 800000 Y18 114 true::pI::dz 3 (pI::dz 23 []),[]⟩
def jZC (l:Z7) (i:Int):Option (Int×Z10):=
 (iter (fun j (b,c,a)=>bif decide (a<(b.length:Int))then oB (l_markText_m N c) fun d=>(if 0<=a/\a<(b.length:Int)then oB (b[a.toNat]?) fun e=>(if fits (c+1)then oB (l_markText_m N (c+1)) fun f=>(if 0<=a/\a<((b.set a.toNat (d,e.2)).length:Int)then oB ((b.set a.toNat (d,e.2))[a.toNat]?) fun k=>(if fits ((c+1)+1)then if fits (a+1)then j (((b.set a.toNat (d,e.2)).set a.toNat (k.1,f)),((c+1)+1),(a+1))else none else none)else none)else none)else none)else some (c,b)) N (l,i,(0:Int)))
theorem jZ6 :mK 79 (bX [.mtk 800000 Y18 114 true,pI] [pI,.mtk 800000 Y18 114 true] (c2A (jZC N))):=
 mO (fC (jaz N) ja) func79 rfl N (.seq .no (.seq (.seq .no (.block (.loop jZX .no))) .no)) _ (rs:=[800000])
def jZF (c:Z7) (b:Int):Option (Int×Z10):=
 (oB (jZC N c b) fun a=>some (a.1,a.2))
theorem j0A :mK 29 (bX [.agg [.mtk 800000 Y18 114 true],pI] [pI,.mtk 800000 Y18 114 true] (c2A (jZF N))):=
 mO (fC (jZ6 N) ja) func29 rfl N .no _ (rs:=[800000])
def jIe :Sh:=⟨.tre 800000 Y1 33::pI::dz 3 (pI::dz 30 []),[]⟩
def jKd (q:List Z3) (m:Int):Option (Int×(List Z3)):=
 (iter (fun n (b,i,a)=>bif decide (a<(b.length:Int))then if 0<=a/\a<(b.length:Int)then oB (b[a.toNat]?) fun p=>(oB (l_markDocS_m N p.1.1 i) fun e=>if 0<=a/\a<(b.length:Int)then oB (b[a.toNat]?) fun o=>(oB (l_markEntryS_m N o.1.2 e.1) fun c=>if 0<=a/\a<(b.length:Int)then oB (b[a.toNat]?) fun j=>(oB (l_markIntS_m N j.2 c.1) fun d=>if fits (a+1)then n ((((b.modify a.toNat fun k=>(k.1,d.2)).modify a.toNat fun f=>((f.1.1,c.2),f.2)).modify a.toNat fun h=>((e.2,h.1.2),h.2)),d.1,(a+1))else none)else none)else none)else none else some (i,b)) N (q,m,(0:Int)))
theorem jIE :mK 80 (bX [.tre 800000 Y1 33,pI] [pI,.tre 800000 Y1 33] (c2A (jKd N))):=
 mO (fC (jnb N) (fC (jlr N) (fC (jr1 N) ja))) func80 rfl N (.seq .no (.seq (.seq .no (.block (.loop jIe .no))) .no)) _ (rs:=[800000])
def jJX (c:List Z1) (e:List Z4) (f:List Z3) (d:Int):Option (Int×(List Z1)×(List Z4)×(List Z3)):=
 (oB (l_markConf_m N c e d) fun a=>oB (jKd N f a.1) fun b=>some (b.1,a.2.1,a.2.2,b.2))
theorem jJp :mK 30 (bX [.agg [.mtk 800000 .str 9 true,.tre 800001 Y16 142,.tre 800002 Y1 33],pI] [pI,.mtk 800000 .str 9 true,.tre 800001 Y16 142,.tre 800002 Y1 33] (c4A (jJX N))):=
 mO (fC (jrd N) (fC (jIE N) ja)) func30 rfl N .no _ (rs:=[800000,800001,800002])
def jo4 :Sh:=⟨.pv (.sl .str)::pI::dz 3 (pI::dz 16 []),[]⟩
def l_heldStringS_m (j:List Z1) (f:Int):Z12:=
 (iter (fun h (c,b,a)=>bif decide (a<(c.length:Int))then oB (idx c a) fun i=>(oB (l_markText_m N b) fun d=>bif !decide (i=d)then some (-1)else if fits (b+1)then if fits (a+1)then h (c,(b+1),(a+1))else none else none)else some b) N (j,f,(0:Int)))
theorem jrD :mK 160 (bX [.pv (.sl .str),pI] [pI] (c2A (l_heldStringS_m N))):=
 mO (fC (jaz N) ja) func160 rfl N (.seq .no (.seq (.seq .no (.block (.loop jo4 .no))) .no)) _
def jMM :Sh:=⟨.pv Y14::pI::dz 3 (pI::dz 26 []),[]⟩
def l_heldSynS_m (l:List Z4) (h:Int):Z12:=
 (iter (fun i (c,d,a)=>bif decide (a<(c.length:Int))then oB (idx c a) fun k=>(oB (l_heldStringS_m N k.1 d) fun b=>bif decide (b<0)then some (-1)else oB (idx c a) fun j=>oB (l_markText_m N b) fun e=>bif !decide (j.2=e)then some (-1)else if fits (b+1)then if fits (a+1)then i (c,(b+1),(a+1))else none else none)else some d) N (l,h,(0:Int)))
theorem jMk :mK 161 (bX [.pv Y14,pI] [pI] (c2A (l_heldSynS_m N))):=
 mO (fC (jrD N) (fC (jaz N) ja)) func161 rfl N (.seq .no (.seq (.seq .no (.block (.loop jMM .no))) .no)) _
def l_heldConf_m (e:List Z1) (d:List Z4) (c:Int):Z12:=
 (oB (l_heldStringS_m N e c) fun b=>bif decide (b<0)then some (-1)else oB (l_heldSynS_m N d b) fun a=>bif decide (a<0)then some (-1)else some a)
theorem jLQ :mK 81 (bX [.agg [.pv (.sl .str),.pv Y14],pI] [pI] (c3A (l_heldConf_m N))):=
 mO (fC (jrD N) (fC (jMk N) ja)) func81 rfl N .no _
def jMb :Sh:=⟨.pv Y0::pI::dz 3 (pI::dz 36 []),[]⟩
def jJ6 (n:List Z3) (j:Int):Z12:=
 (iter (fun k (b,f,a)=>bif decide (a<(b.length:Int))then oB (idx b a) fun m=>(oB (l_heldDocS_m N m.1.1 f) fun e=>bif decide (e<0)then some (-1)else oB (idx b a) fun l=>oB (l_heldEntryS_m N l.1.2 e) fun c=>bif decide (c<0)then some (-1)else oB (idx b a) fun h=>oB (l_heldIntS_m N h.2 c) fun d=>bif decide (d<0)then some (-1)else if fits (a+1)then k (b,d,(a+1))else none)else some f) N (n,j,(0:Int)))
theorem jMy :mK 82 (bX [.pv Y0,pI] [pI] (c2A (jJ6 N))):=
 mO (fC (jKZ N) (fC (jLJ N) (fC (jEn N) ja))) func82 rfl N (.seq .no (.seq (.seq .no (.block (.loop jMb .no))) .no)) _
def jJT (c:List Z1) (e:List Z4) (f:List Z3) (d:Int):Z12:=
 (oB (l_heldConf_m N c e d) fun b=>bif decide (b<0)then some (-1)else oB (jJ6 N f b) fun a=>bif decide (a<0)then some (-1)else some a)
theorem jLE :mK 31 (bX [.agg [.pv (.sl .str),.pv Y14,.pv Y0],pI] [pI] (c4A (jJT N))):=
 mO (fC (jLQ N) (fC (jMy N) ja)) func31 rfl N .no _
noncomputable def jZD (e:List Z1) (f:List Z4) (h:Z7):Z8:=
 (oB (jbD N e f 1048576) fun o=>bif decide (o<0)then some true else oB (jZB N h o) fun w=>bif decide (w<0)then some true else oB (jad N e f) fun k=>oB (jZw N h) fun x=>oB (s_DiskOpen_m N k.1 k.2 x) fun a=>oB (jad N e f) fun d=>oB (jZw N h) fun j=>oB (i_DiskOpen_m N d.1 d.2 j) fun b=>oB (jJN N b.1 b.2.1 b.2.2.1 a.1 a.2.1 a.2.2.1) fun q=>bif !q then some false else bif !decide (b.2.2.2=a.2.2.2)then some false else oB (jad N e f) fun n=>oB (jcO N d.1 d.2 n.1 n.2) fun z=>bif !z then some false else oB (jZw N h) fun v=>oB (jZE N j v) fun B=>bif !B then some false else oB (l_markConf_m N d.1 d.2 1) fun y=>oB (jZF N j y.1) fun t=>bif decide (t.1<0)then some false else oB (jJN N b.1 b.2.1 b.2.2.1 a.1 a.2.1 a.2.2.1) fun A=>bif !A then some false else bif !decide (b.2.2.2=a.2.2.2)then some false else oB (jJX N b.1 b.2.1 b.2.2.1 1) fun c=>oB (jJT N c.2.1 c.2.2.1 c.2.2.2 1) fun p=>bif decide (p<0)then some false else bif !decide (p=c.1)then some false else oB (jad N e f) fun l=>oB (jZw N h) fun r=>oB (i_DiskOpen_m N l.1 l.2 r) fun i=>oB (jJN N i.1 i.2.1 i.2.2.1 a.1 a.2.1 a.2.2.1) fun u=>bif !u then some false else bif !decide (i.2.2.2=a.2.2.2)then some false else oB (jJT N c.2.1 c.2.2.1 c.2.2.2 1) fun m=>bif decide (m<0)then some false else bif !decide (m=c.1)then some false else some true)
noncomputable def jZL (N:Nat):Model:=⟨⟨[.agg [.pv (.sl .str),.pv Y14],.agg [.pv Y17]],[]⟩,⟨[pB],[]⟩,c3A (jZD N)⟩
theorem j0o :mK 5 (jZL N):=
 mO (fC (jm8 N) (fC (jZ7 N) (fC (jtJ N) (fC (j0K N) (fC (jZ3 N) (fC (j0w N) (fC (jIY N) (fC (jr8 N) (fC (j0C N) (fC (jrd N) (fC (j0A N) (fC (jJp N) (fC (jLE N) ja))))))))))))) func5 rfl N .no (jZL N) (dw:=[29,31,36,38,42,47,56,57,61,62,75,88,96,98,99,104,113])
end Go.Proofs.YtcinmmojlcchfaaGreatDoor
