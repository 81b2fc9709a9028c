import Derived.Test.YtabhgjdikeipdaaGreatDoorG1A
set_option linter.unusedVariables false
set_option linter.unusedSimpArgs false
namespace Go.Proofs.YtabhgjdikeipdaaGreatDoor
open Go.RowKit Go.Proofs.Tryz
variable (N : Nat)
open Option renaming bind -> oB
def jl0 :Sh:=⟨.pv (.int .u64):: .dead::pI::dz 22 [],[]⟩
def k_math_bits_Len64_m (N:Nat) (c:Int):Z14:=
 (meet (fun(a:Int×Int)=>match a with|(d,b)=>meet (fun(a:Int×Int)=>match a with|(e,f)=>meet (fun(a:Int×Int)=>match a with|(m,k)=>oB (idx ([0,1,2,2,3,3,3,3,4,4,4,4,4,4,4,4,5,5,5,5,5,5,5,5,5,5,5,5,5,5,5,5,6,6,6,6,6,6,6,6,6,6,6,6,6,6,6,6,6,6,6,6,6,6,6,6,6,6,6,6,6,6,6,6,7,7,7,7,7,7,7,7,7,7,7,7,7,7,7,7,7,7,7,7,7,7,7,7,7,7,7,7,7,7,7,7,7,7,7,7,7,7,7,7,7,7,7,7,7,7,7,7,7,7,7,7,7,7,7,7,7,7,7,7,7,7,7,7,8,8,8,8,8,8,8,8,8,8,8,8,8,8,8,8,8,8,8,8,8,8,8,8,8,8,8,8,8,8,8,8,8,8,8,8,8,8,8,8,8,8,8,8,8,8,8,8,8,8,8,8,8,8,8,8,8,8,8,8,8,8,8,8,8,8,8,8,8,8,8,8,8,8,8,8,8,8,8,8,8,8,8,8,8,8,8,8,8,8,8,8,8,8,8,8,8,8,8,8,8,8,8,8,8,8,8,8,8,8,8,8,8,8,8,8,8,8,8,8,8,8,8,8,8,8,8,8]:List UInt8) (IntKind.u8.wrap m)) fun i=>if fits (k+(IntKind.i64.wrap (i.toNat:Int)))then some (k+(IntKind.i64.wrap (i.toNat:Int)))else none) fun h=>bif decide ((256:Int)<=e)then if 0<=(8:Int)then if fits (f+8)then h ((e.fdiv (2^(min (8:Int).toNat (IntKind.bits .u64)))),(f+8))else none else none else h (e,f)) fun l=>bif decide ((65536:Int)<=d)then if 0<=(16:Int)then if fits (b+16)then l ((d.fdiv (2^(min (16:Int).toNat (IntKind.bits .u64)))),(b+16))else none else none else l (d,b)) fun j=>bif decide ((4294967296:Int)<=c)then if 0<=(32:Int)then j ((c.fdiv (2^(min (32:Int).toNat (IntKind.bits .u64)))),32)else none else j (c,0))
theorem jrK :mK 216 (bX [.pv (.int .u64)] [pI] (c1A (k_math_bits_Len64_m N))):=
 mO ja func216 rfl N (.seq .no (.meet jl0 .no (.meet jl0 .no (.meet jl0 .no .no)))) _
def k_math_bits_Len_m (a:Int):Z14:=
 (oB (k_math_bits_Len64_m N a) fun b=>some b)
theorem jda :mK 137 (bX [.pv (.int .u64)] [pI] (c1A (k_math_bits_Len_m N))):=
 mO (fC (jrK N) ja) func137 rfl N .no _
def jbn (N:Nat) (a:List UInt8):Z9:=
 (some (!decide (a=a)))
theorem jkt :mK 138 (bX [pS] [pB] (c1A (jbn N))):=
 mO ja func138 rfl N .no _
def jam (a:List UInt8) (b:List UInt8):Z14:=
 (oB (jbn N a) fun d=>oB (jbn N b) fun c=>bif d then bif c then some 0 else(some (-1))else bif c then some 1 else bif Op.bytesLess a b then some (-1)else bif !(Op.bytesLess a b||decide (a=b))then some 1 else some 0)
theorem ji2 :mK 61 (bX [pS,pS] [pI] (c2A (jam N))):=
 mO (fC (jkt N) ja) func61 rfl N .no _
def je (c:List UInt8) (e:List UInt8) (j:Z7) (f:List UInt8) (d:List UInt8) (i:Z7):Z14:=
 (oB (jam N c f) fun b=>oB (jam N e d) fun a=>oB (k_cmp_Or_892_m N ([b,a]:List Int)) fun h=>some h)
theorem jaf :mK 59 (bX [.agg [pS,pS,.pv Y15],.agg [pS,pS,.pv Y15]] [pI] (c6A (je N))):=
 mO (fC (ji2 N) (fC (jhC N) ja)) func59 rfl N .no _
def k_slices_nextPowerOfTwo_m (b:Int):Z14:=
 (oB (k_math_bits_Len_m N (IntKind.u64.wrap b)) fun a=>if 0<=a then some (IntKind.u64.wrap ((1:Int)*2^(min a.toNat (IntKind.bits .u64))))else none)
theorem jhv :mK 286 (bX [pI] [.pv (.int .u64)] (c1A (k_slices_nextPowerOfTwo_m N))):=
 mO (fC (jda N) ja) func286 rfl N .no _
def k__slices_xorshift_Next_m (N:Nat) (a:Int):Option (Int×Int):=
 (if 0<=(13:Int)then if 0<=(7:Int)then if 0<=(17:Int)then some ((bitsI .xor .u64 (bitsI .xor .u64 (bitsI .xor .u64 a (IntKind.u64.wrap (a*2^(min (13:Int).toNat (IntKind.bits .u64))))) ((bitsI .xor .u64 a (IntKind.u64.wrap (a*2^(min (13:Int).toNat (IntKind.bits .u64))))).fdiv (2^(min (7:Int).toNat (IntKind.bits .u64))))) (IntKind.u64.wrap ((bitsI .xor .u64 (bitsI .xor .u64 a (IntKind.u64.wrap (a*2^(min (13:Int).toNat (IntKind.bits .u64))))) ((bitsI .xor .u64 a (IntKind.u64.wrap (a*2^(min (13:Int).toNat (IntKind.bits .u64))))).fdiv (2^(min (7:Int).toNat (IntKind.bits .u64)))))*2^(min (17:Int).toNat (IntKind.bits .u64))))),(bitsI .xor .u64 (bitsI .xor .u64 (bitsI .xor .u64 a (IntKind.u64.wrap (a*2^(min (13:Int).toNat (IntKind.bits .u64))))) ((bitsI .xor .u64 a (IntKind.u64.wrap (a*2^(min (13:Int).toNat (IntKind.bits .u64))))).fdiv (2^(min (7:Int).toNat (IntKind.bits .u64))))) (IntKind.u64.wrap ((bitsI .xor .u64 (bitsI .xor .u64 a (IntKind.u64.wrap (a*2^(min (13:Int).toNat (IntKind.bits .u64))))) ((bitsI .xor .u64 a (IntKind.u64.wrap (a*2^(min (13:Int).toNat (IntKind.bits .u64))))).fdiv (2^(min (7:Int).toNat (IntKind.bits .u64)))))*2^(min (17:Int).toNat (IntKind.bits .u64))))))else none else none else none)
theorem jet :mK 287 ⟨⟨[.box 900000 0],[(900000,false,[.pv (.int .u64)])]⟩,⟨[.pv (.int .u64)],[(900000,false,[.pv (.int .u64)])]⟩,c1A (k__slices_xorshift_Next_m N)⟩:=
 mO ja func287 rfl N .no _ (rs:=[900000])
section
variable {α γ ρ : Type} (c : γ -> α -> α -> Option Int)
def swpG (d:List α) (i j:Int) (k:List α->Option ρ):Option ρ:=
 if 0<=j/\j<(d.length:Int)then oB (d[j.toNat]?) fun e=>if 0<=i/\i<(d.length:Int)then oB (d[i.toNat]?) fun e2=>
  if 0<=i/\i<(d.length:Int)then oB (d[i.toNat]?) fun e3=>if 0<=j/\j<((d.set i.toNat e).length:Int)then oB ((d.set i.toNat e)[j.toNat]?) fun e4=>k ((d.set i.toNat e).set j.toNat e2)
  else none else none else none else none
def cmpG (ks:γ) (d:List α) (i j:Int) (k:Int->Option ρ):Option ρ:=
 if 0<=i/\i<(d.length:Int)then oB (d[i.toNat]?) fun e=>if 0<=j/\j<(d.length:Int)then oB (d[j.toNat]?) fun e2=>oB (c ks e e2) k else none else none
def cmpP (ks:γ) (d:List α) (j:Int) (k:Int->Option ρ):Option ρ:=
 if 0<=j/\j<(d.length:Int)then oB (d[j.toNat]?) fun e=>if fits (j-1)then if 0<=(j-1)/\(j-1)<(d.length:Int)then oB (d[(j-1).toNat]?) fun e2=>oB (c ks e e2) k else none else none else none
def swpP (d:List α) (j:Int) (k:List α->Option ρ):Option ρ:=if fits (j-1)then if fits (j-1)then swpG d j (j-1) k else none else none
def insG (N:Nat) (d:List α) (a b:Int) (ks:γ):Option (List α):=
 if fits (a+1)then iter (fun go (g:List α×Int×Int×γ×Int)=>
  match g with
  |(d2,a2,b2,ks2,i)=>
  bif decide (i<b2)then
   iter (fun go2 (g:List α×Int×Int×γ×Int×Int)=>
    match g with
    |(d3,a3,b3,ks3,i2,j)=>
    bif decide (a3<j)then cmpP c ks3 d3 j fun r=>bif decide (r<0)then swpP d3 j fun d=>if fits (j-1)then go2 (d,a3,b3,ks3,i2,j-1)else none
     else if fits (i2+1)then go (d3,a3,b3,ks3,i2+1)else none
    else if fits (i2+1)then go (d3,a3,b3,ks3,i2+1)else none) N (d2,a2,b2,ks2,i,i)
  else some d2) N (d,a,b,ks,a+1)else none
def siftG (N:Nat) (data:List α) (lo:Int) (hi:Int) (first:Int) (cmp:γ):Option ((List α)):=
 (iter (fun go (g:(List α)×Int×Int×γ×Int)=>
   match g with
   |(data2,hi2,first2,cmp2,root)=>
   (if fits (2*root)then(if fits ((2*root)+1)then(bif(decide (hi2<=((2*root)+1)))then
      (some data2)
      else
      (meet (fun(g:(List α)×Int×Int×γ×Int×Int)=>
        match g with
        |(data3,hi3,first3,cmp3,root2,child)=>
        (if fits (first3+root2)then(if 0<=(first3+root2)/\(first3+root2)<(data3.length:Int)then
          (oB (data3[(first3+root2).toNat]?) fun e3=>
           (if fits (first3+child)then(if 0<=(first3+child)/\(first3+child)<(data3.length:Int)then
             (oB (data3[(first3+child).toNat]?) fun e4=>
              (oB (c cmp3 e3 e4) fun r2=>
               (bif(!(decide (r2<0)))then
                (some data3)
                else
                (if fits (first3+root2)then(if fits (first3+child)then(if fits (first3+child)then(if 0<=(first3+child)/\(first3+child)<(data3.length:Int)then
                    (oB (data3[(first3+child).toNat]?) fun e5=>
                     (if fits (first3+root2)then(if 0<=(first3+root2)/\(first3+root2)<(data3.length:Int)then
                       (oB (data3[(first3+root2).toNat]?) fun e6=>
                        (if 0<=(first3+root2)/\(first3+root2)<(data3.length:Int)then
                         (oB (data3[(first3+root2).toNat]?) fun e7=>
                          (if 0<=(first3+child)/\(first3+child)<((data3.set (first3+root2).toNat e5).length:Int)then
                           (oB ((data3.set (first3+root2).toNat e5)[(first3+child).toNat]?) fun e8=>
                            (go (((data3.set (first3+root2).toNat e5).set (first3+child).toNat e6),hi3,first3,cmp3,child)))
                           else none))
                         else none))
                       else none)else none))
                    else none)else none)else none)else none))))
             else none)else none))
          else none)else none)) fun J=>
       (if fits (((2*root)+1)+1)then(bif(decide ((((2*root)+1)+1)<hi2))then
         (if fits (first2+((2*root)+1))then(if 0<=(first2+((2*root)+1))/\(first2+((2*root)+1))<(data2.length:Int)then
           (oB (data2[(first2+((2*root)+1)).toNat]?) fun e=>
            (if fits (first2+((2*root)+1))then(if fits ((first2+((2*root)+1))+1)then(if 0<=((first2+((2*root)+1))+1)/\((first2+((2*root)+1))+1)<(data2.length:Int)then
               (oB (data2[((first2+((2*root)+1))+1).toNat]?) fun e2=>
                (oB (c cmp2 e e2) fun r=>
                 (bif(decide (r<0))then
                  (if fits (((2*root)+1)+1)then(J (data2,hi2,first2,cmp2,root,(((2*root)+1)+1)))else none)
                  else
                  (J (data2,hi2,first2,cmp2,root,((2*root)+1))))))
               else none)else none)else none))
           else none)else none)
         else
         (J (data2,hi2,first2,cmp2,root,((2*root)+1))))else none)))else none)else none)) N (data,hi,first,cmp,lo))
def heapG (N:Nat) (data:List α) (a:Int) (b:Int) (cmp:γ):Option ((List α)):=
 (if fits (b-a)then(if fits ((b-a)-1)then(if 2≠0 then
    (if fits (((b-a)-1).tdiv 2)then(iter (fun go (g:(List α)×γ×Int×Int×Int×Int)=>
       match g with
       |(data2,cmp2,first,lo,hi,i)=>
       (bif(decide ((0:Int)<=i))then
        (oB (siftG c N data2 i hi first cmp2) fun r=>
         (if fits (i-1)then(go (r,cmp2,first,lo,hi,(i-1)))else none))
        else
        (if fits (hi-1)then(iter (fun go2 (g:(List α)×γ×Int×Int×Int)=>
           match g with
           |(data3,cmp3,first2,lo2,i2)=>
           (bif(decide ((0:Int)<=i2))then
            (if fits (first2+i2)then(if fits (first2+i2)then swpG data3 first2 (first2+i2) fun d=>(oB (siftG c N d lo2 i2 first2 cmp3) fun r2=>
                       (if fits (i2-1)then(go2 (r2,cmp3,first2,lo2,(i2-1)))else none))else none)else none)
            else
            (some data3))) N (data2,cmp2,first,lo,(hi-1)))else none))) N (data,cmp,a,0,(b-a),(((b-a)-1).tdiv 2)))else none)
    else none)else none)else none)
def breakG (N:Nat) (data:List α) (a:Int) (b:Int) (cmp:γ):Option (List α):=
 (if fits (b-a)then(bif(decide ((8:Int)<=(b-a)))then
   (oB (k_slices_nextPowerOfTwo_m N (b-a)) fun r=>
    (if 4≠0 then
     (if fits ((b-a).tdiv 4)then(if fits (((b-a).tdiv 4)*2)then(if fits (a+(((b-a).tdiv 4)*2))then(if fits ((a+(((b-a).tdiv 4)*2))-1)then(iter (fun go (g:(List α)×Int×Int×Int×Int×Int)=>
           match g with
           |(data2,a2,length,modulus,idx0,random)=>
           (if 4≠0 then
            (if fits (length.tdiv 4)then(if fits ((length.tdiv 4)*2)then(if fits (a2+((length.tdiv 4)*2))then(if fits ((a2+((length.tdiv 4)*2))+1)then(bif(decide (idx0<=((a2+((length.tdiv 4)*2))+1)))then
                 (oB (k__slices_xorshift_Next_m N random) fun r2=>
                  (meet (fun(g:(List α)×Int×Int×Int×Int×Int×Int)=>
                    match g with
                    |(data3,a3,length2,modulus2,idx02,other,random2)=>
                    (if fits (a3+other)then(if fits (a3+other)then swpG data3 idx02 (a3+other) fun d=>(if fits (idx02+1)then(go (d,a3,length2,modulus2,(idx02+1),random2))else none)else none)else none)) fun J=>
                   (bif(decide (length<=(IntKind.i64.wrap (bitsI .and .u64 r2.1 (IntKind.u64.wrap (modulus-1))))))then
                    (if fits ((IntKind.i64.wrap (bitsI .and .u64 r2.1 (IntKind.u64.wrap (modulus-1))))-length)then(J (data2,a2,length,modulus,idx0,((IntKind.i64.wrap (bitsI .and .u64 r2.1 (IntKind.u64.wrap (modulus-1))))-length),r2.2))else none)
                    else
                    (J (data2,a2,length,modulus,idx0,(IntKind.i64.wrap (bitsI .and .u64 r2.1 (IntKind.u64.wrap (modulus-1)))),r2.2)))))
                 else
                 (some data2))else none)else none)else none)else none)
            else none)) N (data,a,(b-a),r,((a+(((b-a).tdiv 4)*2))-1),(IntKind.u64.wrap (b-a))))else none)else none)else none)else none)
     else none))
   else
   (some data))else none)
def order2G (N:Nat) (data:List α) (a:Int) (b:Int) (cmp:γ) (b2:Int):Option (Int×Int×(List α)×Int):=
 cmpG c cmp data b a fun r=>(bif(decide (r<0))then(if fits (b2+1)then(some (b,a,data,(b2+1)))else none)else(some (a,b,data,b2)))
def medianG (N:Nat) (data:List α) (a:Int) (b:Int) (c0:Int) (cmp:γ) (b2:Int):Option (Int×(List α)×Int):=
 (oB (order2G c N data a b cmp b2) fun r=>
  (oB (order2G c N r.2.2.1 r.2.1 c0 cmp r.2.2.2) fun r2=>
   (oB (order2G c N r2.2.2.1 r.1 r2.1 cmp r2.2.2.2) fun r3=>
    (some (r3.2.1,r3.2.2.1,r3.2.2.2)))))
def medianAdjacentG (N:Nat) (data:List α) (a:Int) (cmp:γ) (b:Int):Option (Int×(List α)×Int):=
 (if fits (a-1)then(if fits (a+1)then(oB (medianG c N data (a-1) a (a+1) cmp b) fun r=>
    (some (r.1,r.2.1,r.2.2)))else none)else none)
def choosePivotG (N:Nat) (data:List α) (a:Int) (b:Int) (cmp:γ):Option (Int×Int×(List α)):=
 (if fits (b-a)then(if 4≠0 then
   (if fits ((b-a).tdiv 4)then(if fits (((b-a).tdiv 4)*1)then(if fits (a+(((b-a).tdiv 4)*1))then(if 4≠0 then
       (if fits ((b-a).tdiv 4)then(if fits (((b-a).tdiv 4)*2)then(if fits (a+(((b-a).tdiv 4)*2))then(if 4≠0 then
           (if fits ((b-a).tdiv 4)then(if fits (((b-a).tdiv 4)*3)then(if fits (a+(((b-a).tdiv 4)*3))then(meet (fun(g:(List α)×Int×Int)=>
                match g with
                |(data3,j2,swaps2)=>
                (bif(decide (swaps2=0))then
                 (some (j2,1,data3))
                 else
                 (bif(decide (swaps2=12))then
                  (some (j2,2,data3))
                  else
                  (some (j2,0,data3))))) fun J=>
               (bif(decide ((8:Int)<=(b-a)))then
                (meet (fun(g:(List α)×γ×Int×Int×Int×Int)=>
                  match g with
                  |(data2,cmp2,i,j,k,swaps)=>
                  (oB (medianG c N data2 i j k cmp2 swaps) fun r4=>
                   (J (r4.2.1,r4.1,r4.2.2)))) fun J2=>
                 (bif(decide ((50:Int)<=(b-a)))then
                  (oB (medianAdjacentG c N data (a+(((b-a).tdiv 4)*1)) cmp 0) fun r=>
                   (oB (medianAdjacentG c N r.2.1 (a+(((b-a).tdiv 4)*2)) cmp r.2.2) fun r2=>
                    (oB (medianAdjacentG c N r2.2.1 (a+(((b-a).tdiv 4)*3)) cmp r2.2.2) fun r3=>
                     (J2 (r3.2.1,cmp,r.1,r2.1,r3.1,r3.2.2)))))
                  else
                  (J2 (data,cmp,(a+(((b-a).tdiv 4)*1)),(a+(((b-a).tdiv 4)*2)),(a+(((b-a).tdiv 4)*3)),0))))
                else
                (J (data,(a+(((b-a).tdiv 4)*2)),0))))else none)else none)else none)
           else none)else none)else none)else none)
       else none)else none)else none)else none)
   else none)else none)
def reverseRangeG (N:Nat) (data:List α) (a:Int) (b:Int) (cmp:γ):Option ((List α)):=
 (if fits (b-1)then(iter (fun go (g:(List α)×Int×Int)=>
    match g with
    |(data2,i,j)=>
    (bif(decide (i<j))then swpG data2 i j fun d=>(if fits (i+1)then(if fits (j-1)then(go (d,(i+1),(j-1)))else none)else none)
     else
     (some data2))) N (data,a,(b-1)))else none)
def shDown (k:(List α×Int×Int×γ×Int×Int)->Option ρ) (N:Nat) (g:List α×Int×Int×γ×Int×Int×Int):Option ρ:=
 iter (fun go3 (g:(List α)×Int×Int×γ×Int×Int×Int)=>
  match g with
  |(d,a,b,ks,i,j,j4)=>
  bif decide ((1:Int)<=j4)then cmpP c ks d j4 fun r=>bif !decide (r<0)then k (d,a,b,ks,i,j)else swpP d j4 fun d'=>if fits (j4-1)then go3 (d',a,b,ks,i,j,j4-1)else none
  else k (d,a,b,ks,i,j)) N g
def shUp (k:(List α×Int×Int×γ×Int×Int)->Option ρ) (N:Nat) (g:List α×Int×Int×γ×Int×Int×Int):Option ρ:=
 iter (fun go4 (g:(List α)×Int×Int×γ×Int×Int×Int)=>
  match g with
  |(d,a,b,ks,i,j,j4)=>
  bif decide (j4<b)then cmpP c ks d j4 fun r=>bif !decide (r<0)then(if fits (j+1)then k (d,a,b,ks,i,j+1)else none)else swpP d j4 fun d'=>if fits (j4+1)then go4 (d',a,b,ks,i,j,j4+1)else none
  else if fits (j+1)then k (d,a,b,ks,i,j+1)else none) N g
def pisX (N:Nat) (go:(List α×Int×Int×γ×Int×Int)->Option (Bool×List α)) (d:List α) (a b:Int) (ks:γ) (i j:Int):Option (Bool×List α):=
 bif decide (i=b)then some (true,d)else if fits (b-a)then bif decide ((b-a)<50)then some (false,d)else
  swpP d i fun d'=>meet (fun(g:List α×Int×Int×γ×Int×Int)=>
   match g with
   |(d5,a5,b5,ks5,i4,j5)=>
   if fits (b5-i4)then bif decide ((2:Int)<=(b5-i4))then if fits (i4+1)then shUp c go N (d5,a5,b5,ks5,i4,j5,i4+1)else none
    else(if fits (j5+1)then go (d5,a5,b5,ks5,i4,j5+1)else none)else none) fun J=>
   if fits (i-a)then bif decide ((2:Int)<=(i-a))then if fits (i-1)then shDown c J N (d',a,b,ks,i,j,i-1)else none else J (d',a,b,ks,i,j)else none
 else none
def pisG (N:Nat) (d:List α) (a b:Int) (ks:γ):Option (Bool×List α):=
 if fits (a+1)then iter (fun go (g:List α×Int×Int×γ×Int×Int)=>
  match g with
  |(d2,a2,b2,ks2,i,j)=>
  bif decide (j<5)then
   iter (fun go2 (g:List α×Int×Int×γ×Int×Int)=>
    match g with
    |(d3,a3,b3,ks3,i2,j2)=>
    bif decide (i2<b3)then cmpP c ks3 d3 i2 fun r=>bif !decide (r<0)then(if fits (i2+1)then go2 (d3,a3,b3,ks3,i2+1,j2)else none)else pisX c N go d3 a3 b3 ks3 i2 j2
    else pisX c N go d3 a3 b3 ks3 i2 j2) N (d2,a2,b2,ks2,i,j)
  else some (false,d2)) N (d,a,b,ks,a+1,0)else none
def partE (go3:(List α×Int×γ×Int×Int)->Option (Int×Bool×List α)) (fl:Bool) (g:List α×Int×γ×Int×Int):Option (Int×Bool×List α):=
 match g with
 |(d,a,ks,i,j)=>
 bif decide (j<i)then swpG d j a fun d'=>some (j,fl,d')else swpG d i j fun d'=>if fits (i+1)then if fits (j-1)then go3 (d',a,ks,i+1,j-1)else none else none
def partD (k:(List α×Int×γ×Int×Int)->Option ρ) (N:Nat) (g:List α×Int×γ×Int×Int):Option ρ:=
 iter (fun go (g:List α×Int×γ×Int×Int)=>
  match g with
  |(d,a,ks,i,j)=>
  bif decide (i<=j)then cmpG c ks d j a fun r=>bif !decide (r<0)then(if fits (j-1)then go (d,a,ks,i,j-1)else none)else k (d,a,ks,i,j)
  else k (d,a,ks,i,j)) N g
def partU (k:(List α×Int×γ×Int×Int)->Option ρ) (N:Nat) (g:List α×Int×γ×Int×Int):Option ρ:=
 iter (fun go (g:List α×Int×γ×Int×Int)=>
  match g with
  |(d,a,ks,i,j)=>
  bif decide (i<=j)then cmpG c ks d i a fun r=>bif decide (r<0)then(if fits (i+1)then go (d,a,ks,i+1,j)else none)else k (d,a,ks,i,j)
  else k (d,a,ks,i,j)) N g
def partG (N:Nat) (d:List α) (a b p:Int) (ks:γ):Option (Int×Bool×List α):=
 swpG d a p fun d=>if fits (a+1)then if fits (b-1)then
  partU c (fun g=>partD c (partE (fun g=>iter (fun go3 g=>partU c (fun g=>partD c (partE go3 false) N g) N g) N g) true) N g) N (d,a,ks,a+1,b-1)
 else none else none
def peqE (go:(List α×Int×γ×Int×Int)->Option (Int×List α)) (g:List α×Int×γ×Int×Int):Option (Int×List α):=
 match g with
 |(d,a,ks,i,j)=>
 bif decide (j<i)then some (i,d)else swpG d i j fun d'=>if fits (i+1)then if fits (j-1)then go (d',a,ks,i+1,j-1)else none else none
def peqD (k:(List α×Int×γ×Int×Int)->Option ρ) (N:Nat) (g:List α×Int×γ×Int×Int):Option ρ:=
 iter (fun go (g:List α×Int×γ×Int×Int)=>
  match g with
  |(d,a,ks,i,j)=>
  bif decide (i<=j)then cmpG c ks d a j fun r=>bif decide (r<0)then(if fits (j-1)then go (d,a,ks,i,j-1)else none)else k (d,a,ks,i,j)
  else k (d,a,ks,i,j)) N g
def peqU (k:(List α×Int×γ×Int×Int)->Option ρ) (N:Nat) (g:List α×Int×γ×Int×Int):Option ρ:=
 iter (fun go (g:List α×Int×γ×Int×Int)=>
  match g with
  |(d,a,ks,i,j)=>
  bif decide (i<=j)then cmpG c ks d a i fun r=>bif !decide (r<0)then(if fits (i+1)then go (d,a,ks,i+1,j)else none)else k (d,a,ks,i,j)
  else k (d,a,ks,i,j)) N g
def peqG (N:Nat) (d:List α) (a b p:Int) (ks:γ):Option (Int×List α):=
 swpG d a p fun d=>if fits (a+1)then if fits (b-1)then iter (fun go g=>peqU c (fun g=>peqD c (peqE go) N g) N g) N (d,a,ks,a+1,b-1)else none else none
def pdqG (hs:List α->Int->Int->γ->Option (List α)) (pe:List α->Int->Int->Int->γ->Option (Int×List α)) (N:Nat):(D:Nat)->(List α)->Int->Int->Int->γ->Option ((List α))
 |0,_,_,_,_,_=>none
 |D+1,data,a,b,limit,cmp=>
 (iter (fun go (g:(List α)×Int×Int×Int×γ×Bool×Bool)=>
   match g with
   |(data2,a2,b2,limit2,cmp2,wasBalanced,wasPartitioned)=>
   (if fits (b2-a2)then(bif(decide ((b2-a2)<=12))then
     (oB (insG c N data2 a2 b2 cmp2) fun r=>
      (some r))
     else
     (bif(decide (limit2=0))then
      (oB (hs data2 a2 b2 cmp2) fun r2=>
       (some r2))
      else
      (meet (fun(g:(List α)×Int×Int×Int×γ×Bool×Bool×Int)=>
        match g with
        |(data3,a3,b3,limit3,cmp3,wasBalanced2,wasPartitioned2,length)=>
        (oB (choosePivotG c N data3 a3 b3 cmp3) fun r4=>
         (meet (fun(g:(List α)×Int×Int×Int×γ×Bool×Bool×Int×Int×Int)=>
           match g with
           |(data4,a4,b4,limit4,cmp4,wasBalanced3,wasPartitioned3,length2,pivot,hint)=>
           (meet (fun(g:(List α)×Int×Int×Int×γ×Bool×Bool×Int×Int)=>
             match g with
             |(data5,a5,b5,limit5,cmp5,wasBalanced4,wasPartitioned4,length3,pivot2)=>
             (bif(decide ((0:Int)<a5))then
              (if fits (a5-1)then(if 0<=(a5-1)/\(a5-1)<(data5.length:Int)then
                (oB (data5[(a5-1).toNat]?) fun e=>
                 (if 0<=pivot2/\pivot2<(data5.length:Int)then
                  (oB (data5[pivot2.toNat]?) fun e2=>
                   (oB (c cmp5 e e2) fun r7=>
                    (bif(!(decide (r7<0)))then
                     (oB (pe data5 a5 b5 pivot2 cmp5) fun r8=>
                      (go (r8.2,r8.1,b5,limit5,cmp5,wasBalanced4,wasPartitioned4)))
                     else
                     (oB (partG c N data5 a5 b5 pivot2 cmp5) fun r9=>
                      (if fits (r9.1-a5)then(if fits (b5-r9.1)then(if 8≠0 then
                         (if fits (length3.tdiv 8)then(bif(decide ((r9.1-a5)<(b5-r9.1)))then
                           (oB (pdqG hs pe N D r9.2.2 a5 r9.1 limit5 cmp5) fun r10=>
                            (if fits (r9.1+1)then(go (r10,(r9.1+1),b5,limit5,cmp5,(decide ((length3.tdiv 8)<=(r9.1-a5))),r9.2.1))else none))
                           else
                           (if fits (r9.1+1)then(oB (pdqG hs pe N D r9.2.2 (r9.1+1) b5 limit5 cmp5) fun r11=>
                             (go (r11,a5,r9.1,limit5,cmp5,(decide ((length3.tdiv 8)<=(b5-r9.1))),r9.2.1)))else none))else none)
                         else none)else none)else none)))))
                  else none))
                else none)else none)
              else
              (oB (partG c N data5 a5 b5 pivot2 cmp5) fun r12=>
               (if fits (r12.1-a5)then(if fits (b5-r12.1)then(if 8≠0 then
                  (if fits (length3.tdiv 8)then(bif(decide ((r12.1-a5)<(b5-r12.1)))then
                    (oB (pdqG hs pe N D r12.2.2 a5 r12.1 limit5 cmp5) fun r13=>
                     (if fits (r12.1+1)then(go (r13,(r12.1+1),b5,limit5,cmp5,(decide ((length3.tdiv 8)<=(r12.1-a5))),r12.2.1))else none))
                    else
                    (if fits (r12.1+1)then(oB (pdqG hs pe N D r12.2.2 (r12.1+1) b5 limit5 cmp5) fun r14=>
                      (go (r14,a5,r12.1,limit5,cmp5,(decide ((length3.tdiv 8)<=(b5-r12.1))),r12.2.1)))else none))else none)
                  else none)else none)else none)))) fun J3=>
            (bif wasBalanced3 then
             (bif wasPartitioned3 then
              (bif(decide (hint=1))then
               (oB (pisG c N data4 a4 b4 cmp4) fun r6=>
                (bif r6.1 then
                 (some r6.2)
                 else
                 (J3 (r6.2,a4,b4,limit4,cmp4,wasBalanced3,wasPartitioned3,length2,pivot))))
               else
               (J3 (data4,a4,b4,limit4,cmp4,wasBalanced3,wasPartitioned3,length2,pivot)))
              else
              (J3 (data4,a4,b4,limit4,cmp4,wasBalanced3,wasPartitioned3,length2,pivot)))
             else
             (J3 (data4,a4,b4,limit4,cmp4,wasBalanced3,wasPartitioned3,length2,pivot))))) fun J2=>
          (bif(decide (r4.2.1=2))then
           (oB (reverseRangeG N r4.2.2 a3 b3 cmp3) fun r5=>
            (if fits (b3-1)then(if fits (r4.1-a3)then(if fits ((b3-1)-(r4.1-a3))then(J2 (r5,a3,b3,limit3,cmp3,wasBalanced2,wasPartitioned2,length,((b3-1)-(r4.1-a3)),1))else none)else none)else none))
           else
           (J2 (r4.2.2,a3,b3,limit3,cmp3,wasBalanced2,wasPartitioned2,length,r4.1,r4.2.1)))))) fun J=>
       (bif(!wasBalanced)then
        (oB (breakG N data2 a2 b2 cmp2) fun r3=>
         (if fits (limit2-1)then(J (r3,a2,b2,(limit2-1),cmp2,wasBalanced,wasPartitioned,(b2-a2)))else none))
        else
        (J (data2,a2,b2,limit2,cmp2,wasBalanced,wasPartitioned,(b2-a2)))))))else none)) N (data,a,b,limit,cmp,true,true))
end
def cmp105 (N:Nat):(Unit)->Z1->Z1->Option Int:=(fun(cmp:Unit) (e e2:Z2×Z2×Z17)=>je N e.1 e.2.1 e.2.2 e2.1 e2.2.1 e2.2.2)
def jny :Sh:=⟨.mtk 800000 Y7 116 false::pI::pI:: .clo 59 []::dz 4 (pI::dz 44 []),[]⟩
def jll :Sh:=⟨.mtk 800000 Y7 116 false::pI::pI:: .clo 59 []::dz 4 (pI::pI::dz 43 []),[]⟩
def jeC (a:List Z1) (c:Int) (d:Int) (b:Unit):Option ((List Z1)):=insG (cmp105 N) N a c d b
 
theorem jqw :mK 207 (bX [.mtk 800000 Y7 116 false,pI,pI,.clo 59 []] [.tup [],.mtk 800000 Y7 116 false] (c4A (jeC N))):=
 mO (fC (jaf N) ja) func207 rfl N (.seq .no (.block (.loop jny (.seq .no (.seq (.block (.seq .no (.block (.loop jll .no)))) .no))))) _ (rs:=[800000])
def jnV :Sh:=⟨.mtk 800000 Y7 116 false:: .dead::pI::pI:: .clo 59 []::dz 5 (pI::dz 71 []),[]⟩
def jmo :Sh:=⟨.mtk 800000 Y7 116 false:: .dead::pI::pI:: .clo 59 []::dz 5 (pI::pI::dz 70 []),[]⟩
def jdy (a:List Z1) (e:Int) (b:Int) (c:Int) (d:Unit):Option ((List Z1)):=siftG (cmp105 N) N a e b c d
 
theorem jqE :mK 285 (bX [.mtk 800000 Y7 116 false,pI,pI,pI,.clo 59 []] [.tup [],.mtk 800000 Y7 116 false] (c5A (jdy N))):=
 mO (fC (jaf N) ja) func285 rfl N (.seq .no (.block (.loop jnV (.block (.seq .no (.seq .no (.meet jmo .no .no))))))) _ (rs:=[800000])
def jmY :Sh:=⟨.mtk 800000 Y7 116 false:: .dead:: .dead:: .clo 59 []::dz 4 (pI::pI::pI::pI::dz 48 []),[]⟩
def jq3 :Sh:=⟨.mtk 800000 Y7 116 false:: .dead:: .dead:: .clo 59 []::dz 4 (pI::pI:: .dead:: .dead::pI::dz 47 []),[]⟩
def jaC (a:List Z1) (c:Int) (d:Int) (b:Unit):Option ((List Z1)):=heapG (cmp105 N) N a c d b
 
theorem jqz :mK 208 (bX [.mtk 800000 Y7 116 false,pI,pI,.clo 59 []] [.tup [],.mtk 800000 Y7 116 false] (c4A (jaC N))):=
 mO (fC (jqE N) ja) func208 rfl N (.seq .no (.seq .no (.seq .no (.seq (.seq .no (.block (.loop jmY .no))) (.seq .no (.block (.loop jq3 .no))))))) _ (rs:=[800000])
def jkH :Sh:=⟨.mtk 800000 Y7 116 false::pI::dz 6 (pI:: .box 9 0:: .pv (.int .u64)::pI::dz 55 []),[(9,false,[.pv (.int .u64)])]⟩
def jmx :Sh:=⟨.mtk 800000 Y7 116 false::pI::dz 6 (pI:: .box 9 0:: .pv (.int .u64)::pI::pI::dz 54 []),[(9,false,[.pv (.int .u64)])]⟩
def jez (a:List Z1) (c:Int) (d:Int) (b:Unit):Option ((List Z1)):=breakG N a c d b
 
theorem jlO :mK 209 (bX [.mtk 800000 Y7 116 false,pI,pI,.clo 59 []] [.tup [],.mtk 800000 Y7 116 false] (c4A (jez N))):=
 mO (fC (jhv N) (fC (jet N) ja)) func209 rfl N (.seq .no (.seq .no (.cond (.seq .no (.seq .no (.seq .no (.block (.loop jkH (.seq .no (.seq (.block (.seq .no (.meet jmx .no .no))) .no))))))) .no))) _ (rs:=[800000])
def jcG (a:List Z1) (c:Int) (d:Int) (b:Unit) (e:Int):Option (Int×Int×(List Z1)×Int):=order2G (cmp105 N) N a c d b e
 
theorem jrN :mK 322 ⟨⟨[.mtk 800000 Y7 116 false,pI,pI,.box 900003 0,.clo 59 []],[(900003,false,[pI])]⟩,⟨[.tup [pI,pI],.mtk 800000 Y7 116 false],[(900003,false,[pI])]⟩,c5A (jcG N)⟩:=
 mO (fC (jaf N) ja) func322 rfl N .no _ (rs:=[900003,800000])
def jdE (a:List Z1) (d:Int) (e:Int) (b:Int) (c:Unit) (f:Int):Option (Int×(List Z1)×Int):=medianG (cmp105 N) N a d e b c f
 
theorem jfr :mK 289 ⟨⟨[.mtk 800000 Y7 116 false,pI,pI,pI,.box 900004 0,.clo 59 []],[(900004,false,[pI])]⟩,⟨[pI,.mtk 800000 Y7 116 false],[(900004,false,[pI])]⟩,c6A (jdE N)⟩:=
 mO (fC (jrN N) ja) func289 rfl N .no _ (rs:=[900004,800000])
def jca (a:List Z1) (c:Int) (b:Unit) (d:Int):Option (Int×(List Z1)×Int):=medianAdjacentG (cmp105 N) N a c b d
 
theorem jko :mK 288 ⟨⟨[.mtk 800000 Y7 116 false,pI,.box 900002 0,.clo 59 []],[(900002,false,[pI])]⟩,⟨[pI,.mtk 800000 Y7 116 false],[(900002,false,[pI])]⟩,c4A (jca N)⟩:=
 mO (fC (jfr N) ja) func288 rfl N .no _ (rs:=[900002,800000])
def jnR :Sh:=⟨.mtk 800000 Y7 116 false:: .dead:: .dead:: .clo 59 []::dz 7 (.box 11 0::pI::pI::pI::dz 48 []),[(11,false,[pI])]⟩
def jrt :Sh:=⟨.mtk 800000 Y7 116 false::dz 10 (.box 11 0:: .dead::pI::dz 49 []),[(11,false,[pI])]⟩
def jjM (a:List Z1) (c:Int) (d:Int) (b:Unit):Option (Int×Int×(List Z1)):=choosePivotG (cmp105 N) N a c d b
 
theorem joO :mK 210 (bX [.mtk 800000 Y7 116 false,pI,pI,.clo 59 []] [.tup [pI,pI],.mtk 800000 Y7 116 false] (c4A (jjM N))):=
 mO (fC (jko N) (fC (jfr N) ja)) func210 rfl N (.seq .no (.seq .no (.seq .no (.seq .no (.seq .no (.seq .no (.meet jrt (.seq .no (.cond (.meet jnR .no .no) .no)) .no))))))) _ (rs:=[800000])
def jpl :Sh:=⟨.mtk 800000 Y7 116 false::dz 7 (pI::pI::dz 24 []),[]⟩
def jeV (a:List Z1) (c:Int) (d:Int) (b:Unit):Option ((List Z1)):=reverseRangeG N a c d b
 
theorem jma :mK 211 (bX [.mtk 800000 Y7 116 false,pI,pI,.clo 59 []] [.tup [],.mtk 800000 Y7 116 false] (c4A (jeV N))):=
 mO ja func211 rfl N (.seq .no (.seq .no (.block (.loop jpl .no)))) _ (rs:=[800000])
def jn3 :Sh:=⟨.mtk 800000 Y7 116 false::pI::pI:: .clo 59 []::dz 5 (pI::pI::dz 130 []),[]⟩
def jsj :Sh:=⟨.mtk 800000 Y7 116 false::pI::pI:: .clo 59 []::dz 5 (pI::pI::pI::dz 129 []),[]⟩
def jnQ :Sh:=⟨.mtk 800000 Y7 116 false::pI::pI:: .clo 59 []::dz 5 (pI::pI:: .dead::pI::dz 128 []),[]⟩
def jhb (a:List Z1) (c:Int) (d:Int) (b:Unit):Option (Bool×(List Z1)):=pisG (cmp105 N) N a c d b
 
theorem jnw :mK 212 (bX [.mtk 800000 Y7 116 false,pI,pI,.clo 59 []] [pB,.mtk 800000 Y7 116 false] (c4A (jhb N))):=
 mO (fC (jaf N) ja) func212 rfl N (.seq .no (.seq .no (.seq (.seq .no (.block (.loop jn3 (.seq .no (.seq (.block (.seq (.block (.loop jn3 .no)) (.seq .no (.seq .no (.seq .no (.meet jn3 (.seq .no (.cond (.seq .no (.block (.loop jsj .no))) .no)) (.seq .no (.cond (.seq .no (.block (.loop jnQ .no))) .no)))))))) .no))))) .no))) _ (rs:=[800000])
def jnv :Sh:=⟨.mtk 800000 Y7 116 false::pI:: .dead:: .dead:: .clo 59 []::dz 6 (pI::pI::dz 77 []),[]⟩
def jbG (a:List Z1) (c:Int) (d:Int) (e:Int) (b:Unit):Option (Int×(List Z1)):=peqG (cmp105 N) N a c d e b
 
theorem jp1 :mK 213 (bX [.mtk 800000 Y7 116 false,pI,pI,pI,.clo 59 []] [pI,.mtk 800000 Y7 116 false] (c5A (jbG N))):=
 mO (fC (jaf N) ja) func213 rfl N (.seq .no (.seq .no (.seq .no (.seq (.block (.loop jnv (.block (.seq (.block (.loop jnv .no)) (.seq (.block (.loop jnv .no)) .no))))) .no)))) _ (rs:=[800000])
def jru :Sh:=⟨.mtk 800000 Y7 116 false::pI:: .dead:: .dead:: .clo 59 []::dz 7 (pI::pI::dz 164 []),[]⟩
def jcT (a:List Z1) (c:Int) (d:Int) (e:Int) (b:Unit):Option (Int×Bool×(List Z1)):=partG (cmp105 N) N a c d e b
 
theorem jrO :mK 214 (bX [.mtk 800000 Y7 116 false,pI,pI,pI,.clo 59 []] [.tup [pI,pB],.mtk 800000 Y7 116 false] (c5A (jcT N))):=
 mO (fC (jaf N) ja) func214 rfl N (.seq .no (.seq .no (.seq .no (.seq (.block (.loop jru .no)) (.seq (.block (.loop jru .no)) (.seq .no (.seq .no (.seq .no (.seq .no (.seq (.block (.loop jru (.block (.seq (.block (.loop jru .no)) (.seq (.block (.loop jru .no)) .no))))) .no)))))))))) _ (rs:=[800000])
def jmM :Sh:=⟨.mtk 800000 Y7 116 false::pI::pI::pI:: .clo 59 []::dz 5 (pB::pB::dz 136 []),[]⟩
def jnd :Sh:=⟨.mtk 800000 Y7 116 false::pI::pI::pI:: .clo 59 []::dz 5 (pB::pB::pI::pI::dz 134 []),[]⟩
def jmi :Sh:=⟨.mtk 800000 Y7 116 false::pI::pI::pI:: .clo 59 []::dz 5 (pB::pB::pI::pI::pI::dz 133 []),[]⟩
def js7 :Sh:=⟨.mtk 800000 Y7 116 false::pI::pI::pI:: .clo 59 []::dz 5 (pB::pB::pI::dz 135 []),[]⟩
def jK (N D:Nat) (h:List Z1) (a b limit:Int) (e:Unit):Option ((List Z1)):=pdqG (cmp105 N) (fun c a b d=>heapG (cmp105 N) N c a b d) (fun c a b f d=>peqG (cmp105 N) N c a b f d) N D h a b limit e
 
def jcj (N D:Nat):Model:=⟨⟨[.mtk 800000 Y7 116 false,pI,pI,pI,.clo 59 []],[]⟩,⟨[.tup [],.mtk 800000 Y7 116 false],[]⟩,c5A (jK N D)⟩
theorem jrm (N D:Nat) (ih:mK 136 (jcj N D)):mK 136 (jcj N (D+1)):=
 mO (fC ih (fC (jqw N) (fC (jqz N) (fC (jlO N) (fC (joO N) (fC (jma N) (fC (jnw N) (fC (jaf N) (fC (jp1 N) (fC (jrO N) ja)))))))))) func136 rfl N (.seq .no (.seq .no (.block (.loop jmM (.block (.seq .no (.seq .no (.seq .no (.meet js7 .no (.seq .no (.meet jmi .no (.meet jnd .no .no)))))))))))) (jcj N (D+1)) (rs:=[800000])
theorem jix (N:Nat):∀D,mK 136 (jcj N D)
 |0=>modelOk_none ⟨_,func136,by decide,by kernel_rfl⟩ _ (fun a=>rfl)
 |D+1=>jrm N D (jix N D)
def k_slices_SortFunc_105_m (a:List Z1) (d:Unit):Option ((List Z1)):=
 (oB (k_math_bits_Len_m N (IntKind.u64.wrap (a.length:Int))) fun c=>oB (jK N N a 0 (a.length:Int) c ()) fun b=>some b)
theorem jtu :mK 58 (bX [.mtk 800000 Y7 116 false,.clo 59 []] [.tup [],.mtk 800000 Y7 116 false] (c2A (k_slices_SortFunc_105_m N))):=
 mO (fC (jda N) (fC (jix N N) ja)) func58 rfl N .no _ (rs:=[800000])
def jmK :Sh:=⟨.dead:: .dead:: .box 2 0:: .dead:: .box 4 0:: .box 5 0::dz 19 (.pv Y4::pI::pI::dz 32 []),[(2,false,[.pv (.sl .str),.pv Y20]),(4,false,[.nils,.nils]),(5,false,[.pv Y4,.tre 700501 Y7 116])]⟩
def jor :Sh:=⟨.dead:: .dead:: .box 2 0:: .dead:: .box 4 0:: .box 5 0:: .dead:: .box 7 0::dz 17 (.pv Y4::pI::pI::dz 4 (.pv Y23::pI::pI::dz 25 [])),[(2,false,[.pv (.sl .str),.pv Y20]),(4,false,[.nils,.nils]),(5,false,[.pv Y4,.tre 700501 Y7 116]),(7,false,[pI,.pv Y23,.pv Y19])]⟩
def jnj :Sh:=⟨.dead:: .dead:: .box 2 0:: .dead:: .box 4 0:: .box 5 0:: .dead:: .box 7 0:: .dead:: .box 9 0::dz 15 (.pv Y4::pI::pI::dz 4 (.pv Y23::pI::pI::dz 6 (.own 600041 Y21 111 true::pI::pI::dz 16 []))),[(2,false,[.pv (.sl .str),.pv Y20]),(4,false,[.nils,.nils]),(5,false,[.pv Y4,.tre 700501 Y7 116]),(7,false,[pI,.pv Y23,.pv Y19]),(9,false,[pS,pS])]⟩
def i_SegOf_m (c:List Z2) (c2:List Z5) (docs:List Z0):Option ((List Z0)×(List Z1)):=
 (oB (jaj N c c2) fun r=>bif !r then some (([]:List Z0),([]:List Z1))else oB (jbf N docs) fun r2=>bif !r2 then some (([]:List Z0),([]:List Z1))else oB (jbV N docs) fun r3=>iter (fun go (t25,t26,t27,c3,c4,s,s2)=>bif decide (t27<t26)then oB (idx t25 t27) fun e=>(iter (fun go2 (t252,t262,t272,t32,t33,t34,c5,c6,s3,s4,d,d2,d3)=>bif decide (t34<t33)then oB (idx t32 t34) fun e2=>(oB (jbw N c5 c6 e2.2) fun r4=>iter (fun go3 (t253,t263,t273,t322,t332,t342,t41,t42,t43,c7,c8,s5,s6,d4,d5,d6,f,f2)=>bif decide (t43<t42)then oB (idx t41 t43) fun e3=>(oB (i_Seg_put_m N f e3.1 e3.2 d4 s5 s6) fun r5=>if fits (t43+1)then go3 (t253,t263,t273,t322,t332,t342,t41,t42,(t43+1),c7,c8,r5.1,r5.2,d4,d5,d6,f,f2)else none)else if fits (t342+1)then go2 (t253,t263,t273,t322,t332,(t342+1),c7,c8,s5,s6,d4,d5,d6)else none) N (t252,t262,t272,t32,t33,t34,r4,(r4.length:Int),(0:Int),c5,c6,s3,s4,d,d2,d3,e2.1,e2.2))else if fits (t272+1)then go (t252,t262,(t272+1),c5,c6,s3,s4)else none) N (t25,t26,t27,e.2.1,(e.2.1.length:Int),(0:Int),c3,c4,s,s2,e.1,e.2.1,e.2.2))else oB (k_slices_SortFunc_105_m N s2 ()) fun r6=>some (s,r6)) N (docs,(docs.length:Int),(0:Int),c,c2,r3,([]:List Z1)))
theorem jqC :mK 12 (bX [.agg [.pv (.sl .str),.pv Y20],.pv Y4] [.agg [.pv Y4,.own 1 Y7 116 false]] (c3A (i_SegOf_m N))):=
 mO (fC (jdX N) (fC (jjU N) (fC (joC N) (fC (jgO N) (fC (jky N) (fC (jtu N) ja)))))) func12 rfl N (.seq .no (.seq .no (.seq .no (.seq (.seq .no (.block (.loop jmK (.seq .no (.seq .no (.seq (.block (.seq .no (.seq .no (.block (.loop jor (.seq .no (.seq .no (.seq (.block (.seq .no (.seq .no (.block (.loop jnj .no))))) .no)))))))) .no)))))) .no)))) _ (wr:=[23]) (dw:=[23,57])
def jtB :Sh:=⟨.pv Y25:: .pv Y25::dz 10 (pI::pI::dz 12 []),[]⟩
def jbX (b:List Int) (d:List Int):Z9:=
 (bif !decide ((b.length:Int)=(d.length:Int))then some false else iter (fun i (f,e,c,a)=>bif decide (a<c)then oB (idx f a) fun k=>(oB (idx e a) fun j=>bif !decide (k=j)then some false else if fits (a+1)then i (f,e,c,(a+1))else none)else some true) N (b,d,(b.length:Int),(0:Int)))
theorem jqi :mK 313 (bX [.pv Y25,.pv Y25] [pB] (c2A (jbX N))):=
 mO ja func313 rfl N (.seq .no (.seq .no (.seq (.seq .no (.block (.loop jtB .no))) .no))) _
def jcp (c:Int) (a:List Int) (d:Int) (e:List Int):Z9:=
 (bif decide (c=d)then oB (jbX N a e) fun b=>(some b)else some false)
theorem jth :mK 270 (bX [.agg [pI,.pv Y25],.agg [pI,.pv Y25]] [pB] (c4A (jcp N))):=
 mO (fC (jqi N) ja) func270 rfl N .no _
def jlX :Sh:=⟨.dead:: .pv Y15:: .clo 270 []::dz 12 (.pv Y15::pI::pI::dz 14 []),[]⟩
def jb6 (b:Z7) (e:Z7) (n:Unit):Z9:=
 (bif !decide ((b.length:Int)=(e.length:Int))then some false else iter (fun l (h,m,c,d,a)=>bif decide (a<d)then oB (idx c a) fun i=>(oB (idx h a) fun f=>oB (jcp N i.1 i.2 f.1 f.2) fun j=>bif !j then some false else if fits (a+1)then l (h,(),c,d,(a+1))else none)else some true) N (e,(),b,(b.length:Int),(0:Int)))
theorem jnG :mK 269 (bX [.pv Y15,.pv Y15,.clo 270 []] [pB] (c3A (jb6 N))):=
 mO (fC (jth N) ja) func269 rfl N (.seq .no (.seq .no (.seq (.seq .no (.block (.loop jlX .no))) .no))) _
def jcz (d:List UInt8) (f:List UInt8) (c:Z7) (h:List UInt8) (e:List UInt8) (b:Z7):Z9:=
 (bif decide (d=h)then bif decide (f=e)then oB (jb6 N c b ()) fun a=>(some a)else(some false)else some false)
theorem jp4 :mK 196 (bX [.agg [pS,pS,.pv Y15],.agg [pS,pS,.pv Y15]] [pB] (c6A (jcz N))):=
 mO (fC (jnG N) ja) func196 rfl N .no _
def jlD :Sh:=⟨.dead:: .pv Y6:: .clo 196 []::dz 12 (.pv Y6::pI::pI::dz 14 []),[]⟩
def jcn (b:List Z1) (h:List Z1) (n:Unit):Z9:=
 (bif !decide ((b.length:Int)=(h.length:Int))then some false else iter (fun l (i,m,e,f,a)=>bif decide (a<f)then oB (idx e a) fun d=>(oB (idx i a) fun c=>oB (jcz N d.1 d.2.1 d.2.2 c.1 c.2.1 c.2.2) fun j=>bif !j then some false else if fits (a+1)then l (i,(),e,f,(a+1))else none)else some true) N (h,(),b,(b.length:Int),(0:Int)))
theorem jsa :mK 195 (bX [.pv Y6,.pv Y6,.clo 196 []] [pB] (c3A (jcn N))):=
 mO (fC (jp4 N) ja) func195 rfl N (.seq .no (.seq .no (.seq (.seq .no (.block (.loop jlD .no))) .no))) _
def i_SegOk_m (a:List Z2) (c:List Z5) (b:List Z0) (f:List Z1):Z9:=
 (oB (jaj N a c) fun e=>bif !e then some false else oB (jbf N b) fun d=>bif !d then some false else oB (i_SegOf_m N a c b) fun i=>oB (jcn N i.2 f ()) fun h=>some h)
theorem joa :mK 123 (bX [.agg [.pv (.sl .str),.pv Y20],.agg [.pv Y4,.pv Y6]] [pB] (c4A (i_SegOk_m N))):=
 mO (fC (jdX N) (fC (jjU N) (fC (jqC N) (fC (jsa N) ja)))) func123 rfl N .no _
def jDT :Sh:=⟨.pv Y25::dz 4 (.pv Y25::pI::pI::dz 24 []),[]⟩
def jx1 (d:List Int):Z9:=
 (iter (fun f (b,c,e,a)=>bif decide (a<e)then oB (idx c a) fun h=>(oB (i_within_m N h 0 999999999) fun i=>bif !i then some false else bif decide ((0:Int)<a)then if fits (a-1)then oB (idx b (a-1)) fun k=>(bif decide (h<=k)then some false else if fits (a+1)then f (b,c,e,(a+1))else none)else none else if fits (a+1)then f (b,c,e,(a+1))else none)else some (decide ((b.length:Int)<=60))) N (d,d,(d.length:Int),(0:Int)))
theorem jAN :mK 124 (bX [.pv Y25] [pB] (c1A (jx1 N))):=
 mO (fC (jY N) ja) func124 rfl N (.seq .no (.seq (.seq .no (.block (.loop jDT .no))) .no)) _
def jqv :Sh:=⟨.dead::pI:: .dead:: .dead:: .box 4 0::dz 6 (.pv Y4::pI::pI::dz 10 []),[(4,false,[pI,.nils,.nils])]⟩
def i_Seg_doc_m (f:(List Z0)×(List Z1)) (h:Int):Option (Int×Z13×Z8×Bool):=
 (iter (fun j (d,e,c,a,k)=>bif decide (a<c)then oB (idx e a) fun b=>(bif decide (b.1=d)then some (b.1,b.2.1,b.2.2,true)else if fits (a+1)then j (d,e,c,(a+1),k)else none)else some (0,([]:Z16),([]:Z10),false)) N (h,f.1,(f.1.length:Int),(0:Int),(0:Int)))
theorem jlU :mK 125 (bX [.ptr Y3,pI] [.tup [.agg [pI,.pv Y23,.pv Y19],pB]] (c2A (i_Seg_doc_m N))):=
 mO ja func125 rfl N (.seq .no (.seq (.seq .no (.block (.loop jqv .no))) .no)) _
def jIP :Sh:=⟨.pv Y25::pI::dz 5 (pI::pI::dz 10 []),[]⟩
def jHJ (c:List Int) (f:Int):Z14:=
 (iter (fun i (b,d,e,a)=>bif decide (a<e)then oB (idx b a) fun j=>(bif decide (d=j)then some a else if fits (a+1)then i (b,d,e,(a+1))else none)else some (-1)) N (c,f,(c.length:Int),(0:Int)))
theorem jJu :mK 241 (bX [.pv Y25,pI] [pI] (c2A (jHJ N))):=
 mO ja func241 rfl N (.seq .no (.seq (.seq .no (.block (.loop jIP .no))) .no)) _
def jHG (c:List Int) (a:Int):Z9:=
 (oB (jHJ N c a) fun b=>some (decide ((0:Int)<=b)))
theorem jIT :mK 170 (bX [.pv Y25,pI] [pB] (c2A (jHG N))):=
 mO (fC (jJu N) ja) func170 rfl N .no _
def jIi :Sh:=⟨.dead:: .box 1 0:: .dead:: .own 600003 Y5 105 false::dz 5 (.pv Y4::pI::pI::dz 15 []),[(1,false,[.pv Y4,.pv Y6,.pv Y25])]⟩
def jHE (f:List Z0) (n:List Z1) (o:List Int):Z19:=
 (iter (fun j (b,c,e,a,k,i,d)=>bif decide (a<e)then oB (idx c a) fun h=>(oB (jHG N d h.1) fun l=>bif !l then if room b.length ([h]:List Z0).length 56 then if fits (a+1)then j ((b++([h]:List Z0)),c,e,(a+1),k,i,d)else none else none else if fits (a+1)then j (b,c,e,(a+1),k,i,d)else none)else some b) N (([]:List Z0),f,(f.length:Int),(0:Int),f,n,o))
theorem jH4 :mK 101 (bX [.agg [.pv Y4,.pv Y6,.pv Y25]] [.own 1 Y5 105 false] (c3A (jHE N))):=
 mO (fC (jIT N) ja) func101 rfl N (.seq .no (.seq .no (.seq (.seq .no (.block (.loop jIi .no))) .no))) _
def jIO :Sh:=⟨dz 3 (.box 3 0::dz 17 (.pv Y25::pI::pI::dz 16 [])),[(3,true,[.pv Y4,.pv Y6,.pv Y25])]⟩
def jHI (p:List Z2) (l:List Z5) (i:List Z0) (f:List Z1) (a:List Int):Z9:=
 (oB (i_SegOk_m N p l i f) fun q=>bif !q then some false else oB (jx1 N a) fun o=>bif !o then some false else iter (fun t (j,h,b,d,c,e)=>bif decide (b<h)then oB (idx j b) fun n=>(oB (i_Seg_doc_m N (d,c) n) fun m=>bif !m.2.2.2 then some false else if fits (b+1)then t (j,h,(b+1),d,c,e)else none)else oB (jHE N d c e) fun k=>some (decide ((0:Int)<k.length))) N (a,(a.length:Int),(0:Int),i,f,a))
theorem jJD :mK 51 (bX [.agg [.pv (.sl .str),.pv Y20],.agg [.pv Y4,.pv Y6,.pv Y25]] [pB] (c5A (jHI N))):=
 mO (fC (joa N) (fC (jAN N) (fC (jlU N) (fC (jH4 N) ja)))) func51 rfl N (.seq .no (.seq .no (.seq (.seq .no (.block (.loop jIO .no))) .no))) _
def i_allAlive_1_m (b:Int) (h:Z16) (e:Z10) (c:Int) (f:Z16) (d:Z10):Z14:=
 (oB (k_cmp_Compare_992_m N b c) fun a=>some a)
theorem jHC :mK 103 (bX [.agg [pI,.pv Y23,.pv Y19],.agg [pI,.pv Y23,.pv Y19]] [pI] (c6A (i_allAlive_1_m N))):=
 mO (fC (jpP N) ja) func103 rfl N .no _
def cmp669 (N:Nat):(Unit)->Z0->Z0->Option Int:=(fun(cmp:Unit) (e e2:Int×Z13×Z8)=>i_allAlive_1_m N e.1 e.2.1 e.2.2 e2.1 e2.2.1 e2.2.2)
def jIw :Sh:=⟨.mtk 800000 Y5 105 false::pI::pI:: .clo 103 []::dz 4 (pI::dz 44 []),[]⟩
def jJn :Sh:=⟨.mtk 800000 Y5 105 false::pI::pI:: .clo 103 []::dz 4 (pI::pI::dz 43 []),[]⟩
def jJk (a:List Z0) (c:Int) (d:Int) (b:Unit):Z19:=insG (cmp669 N) N a c d b
 
theorem jIC :mK 242 (bX [.mtk 800000 Y5 105 false,pI,pI,.clo 103 []] [.tup [],.mtk 800000 Y5 105 false] (c4A (jJk N))):=
 mO (fC (jHC N) ja) func242 rfl N (.seq .no (.block (.loop jIw (.seq .no (.seq (.block (.seq .no (.block (.loop jJn .no)))) .no))))) _ (rs:=[800000])
def jI7 :Sh:=⟨.mtk 800000 Y5 105 false:: .dead::pI::pI:: .clo 103 []::dz 5 (pI::dz 71 []),[]⟩
def jJE :Sh:=⟨.mtk 800000 Y5 105 false:: .dead::pI::pI:: .clo 103 []::dz 5 (pI::pI::dz 70 []),[]⟩
def jJr (a:List Z0) (e:Int) (b:Int) (c:Int) (d:Unit):Z19:=siftG (cmp669 N) N a e b c d
 
theorem jIA :mK 303 (bX [.mtk 800000 Y5 105 false,pI,pI,pI,.clo 103 []] [.tup [],.mtk 800000 Y5 105 false] (c5A (jJr N))):=
 mO (fC (jHC N) ja) func303 rfl N (.seq .no (.block (.loop jI7 (.block (.seq .no (.seq .no (.meet jJE .no .no))))))) _ (rs:=[800000])
def jH9 :Sh:=⟨.mtk 800000 Y5 105 false:: .dead:: .dead:: .clo 103 []::dz 4 (pI::pI::pI::pI::dz 48 []),[]⟩
def jIK :Sh:=⟨.mtk 800000 Y5 105 false:: .dead:: .dead:: .clo 103 []::dz 4 (pI::pI:: .dead:: .dead::pI::dz 47 []),[]⟩
def jIj (a:List Z0) (c:Int) (d:Int) (b:Unit):Z19:=heapG (cmp669 N) N a c d b
 
theorem jJa :mK 243 (bX [.mtk 800000 Y5 105 false,pI,pI,.clo 103 []] [.tup [],.mtk 800000 Y5 105 false] (c4A (jIj N))):=
 mO (fC (jIA N) ja) func243 rfl N (.seq .no (.seq .no (.seq .no (.seq (.seq .no (.block (.loop jH9 .no))) (.seq .no (.block (.loop jIK .no))))))) _ (rs:=[800000])
def jH6 :Sh:=⟨.mtk 800000 Y5 105 false::pI::dz 6 (pI:: .box 9 0:: .pv (.int .u64)::pI::dz 55 []),[(9,false,[.pv (.int .u64)])]⟩
def jJm :Sh:=⟨.mtk 800000 Y5 105 false::pI::dz 6 (pI:: .box 9 0:: .pv (.int .u64)::pI::pI::dz 54 []),[(9,false,[.pv (.int .u64)])]⟩
def jI4 (a:List Z0) (c:Int) (d:Int) (b:Unit):Z19:=breakG N a c d b
 
theorem jIs :mK 244 (bX [.mtk 800000 Y5 105 false,pI,pI,.clo 103 []] [.tup [],.mtk 800000 Y5 105 false] (c4A (jI4 N))):=
 mO (fC (jhv N) (fC (jet N) ja)) func244 rfl N (.seq .no (.seq .no (.cond (.seq .no (.seq .no (.seq .no (.block (.loop jH6 (.seq .no (.seq (.block (.seq .no (.meet jJm .no .no))) .no))))))) .no))) _ (rs:=[800000])
def jJC (a:List Z0) (c:Int) (d:Int) (b:Unit) (e:Int):Option (Int×Int×(List Z0)×Int):=order2G (cmp669 N) N a c d b e
 
theorem jIo :mK 336 ⟨⟨[.mtk 800000 Y5 105 false,pI,pI,.box 900003 0,.clo 103 []],[(900003,false,[pI])]⟩,⟨[.tup [pI,pI],.mtk 800000 Y5 105 false],[(900003,false,[pI])]⟩,c5A (jJC N)⟩:=
 mO (fC (jHC N) ja) func336 rfl N .no _ (rs:=[900003,800000])
def jII (a:List Z0) (d:Int) (e:Int) (b:Int) (c:Unit) (f:Int):Option (Int×(List Z0)×Int):=medianG (cmp669 N) N a d e b c f
 
theorem jHQ :mK 305 ⟨⟨[.mtk 800000 Y5 105 false,pI,pI,pI,.box 900004 0,.clo 103 []],[(900004,false,[pI])]⟩,⟨[pI,.mtk 800000 Y5 105 false],[(900004,false,[pI])]⟩,c6A (jII N)⟩:=
 mO (fC (jIo N) ja) func305 rfl N .no _ (rs:=[900004,800000])
def jIn (a:List Z0) (c:Int) (b:Unit) (d:Int):Option (Int×(List Z0)×Int):=medianAdjacentG (cmp669 N) N a c b d
 
theorem jI9 :mK 304 ⟨⟨[.mtk 800000 Y5 105 false,pI,.box 900002 0,.clo 103 []],[(900002,false,[pI])]⟩,⟨[pI,.mtk 800000 Y5 105 false],[(900002,false,[pI])]⟩,c4A (jIn N)⟩:=
 mO (fC (jHQ N) ja) func304 rfl N .no _ (rs:=[900002,800000])
def jJw :Sh:=⟨.mtk 800000 Y5 105 false:: .dead:: .dead:: .clo 103 []::dz 7 (.box 11 0::pI::pI::pI::dz 48 []),[(11,false,[pI])]⟩
def jI6 :Sh:=⟨.mtk 800000 Y5 105 false::dz 10 (.box 11 0:: .dead::pI::dz 49 []),[(11,false,[pI])]⟩
def jIq (a:List Z0) (c:Int) (d:Int) (b:Unit):Option (Int×Int×(List Z0)):=choosePivotG (cmp669 N) N a c d b
 
theorem jJz :mK 245 (bX [.mtk 800000 Y5 105 false,pI,pI,.clo 103 []] [.tup [pI,pI],.mtk 800000 Y5 105 false] (c4A (jIq N))):=
 mO (fC (jI9 N) (fC (jHQ N) ja)) func245 rfl N (.seq .no (.seq .no (.seq .no (.seq .no (.seq .no (.seq .no (.meet jI6 (.seq .no (.cond (.meet jJw .no .no) .no)) .no))))))) _ (rs:=[800000])
def jJB :Sh:=⟨.mtk 800000 Y5 105 false::dz 7 (pI::pI::dz 24 []),[]⟩
def jJs (a:List Z0) (c:Int) (d:Int) (b:Unit):Z19:=reverseRangeG N a c d b
 
theorem jIk :mK 246 (bX [.mtk 800000 Y5 105 false,pI,pI,.clo 103 []] [.tup [],.mtk 800000 Y5 105 false] (c4A (jJs N))):=
 mO ja func246 rfl N (.seq .no (.seq .no (.block (.loop jJB .no)))) _ (rs:=[800000])
def jHL :Sh:=⟨.mtk 800000 Y5 105 false::pI::pI:: .clo 103 []::dz 5 (pI::pI::dz 130 []),[]⟩
def jJh :Sh:=⟨.mtk 800000 Y5 105 false::pI::pI:: .clo 103 []::dz 5 (pI::pI::pI::dz 129 []),[]⟩
def jIF :Sh:=⟨.mtk 800000 Y5 105 false::pI::pI:: .clo 103 []::dz 5 (pI::pI:: .dead::pI::dz 128 []),[]⟩
def jIx (a:List Z0) (c:Int) (d:Int) (b:Unit):Option (Bool×(List Z0)):=pisG (cmp669 N) N a c d b
 
theorem jI1 :mK 247 (bX [.mtk 800000 Y5 105 false,pI,pI,.clo 103 []] [pB,.mtk 800000 Y5 105 false] (c4A (jIx N))):=
 mO (fC (jHC N) ja) func247 rfl N (.seq .no (.seq .no (.seq (.seq .no (.block (.loop jHL (.seq .no (.seq (.block (.seq (.block (.loop jHL .no)) (.seq .no (.seq .no (.seq .no (.meet jHL (.seq .no (.cond (.seq .no (.block (.loop jJh .no))) .no)) (.seq .no (.cond (.seq .no (.block (.loop jIF .no))) .no)))))))) .no))))) .no))) _ (rs:=[800000])
def jHK :Sh:=⟨.mtk 800000 Y5 105 false::pI:: .dead:: .dead:: .clo 103 []::dz 6 (pI::pI::dz 77 []),[]⟩
def jIh (a:List Z0) (c:Int) (d:Int) (e:Int) (b:Unit):Option (Int×(List Z0)):=peqG (cmp669 N) N a c d e b
 
theorem jH7 :mK 248 (bX [.mtk 800000 Y5 105 false,pI,pI,pI,.clo 103 []] [pI,.mtk 800000 Y5 105 false] (c5A (jIh N))):=
 mO (fC (jHC N) ja) func248 rfl N (.seq .no (.seq .no (.seq .no (.seq (.block (.loop jHK (.block (.seq (.block (.loop jHK .no)) (.seq (.block (.loop jHK .no)) .no))))) .no)))) _ (rs:=[800000])
def jHD :Sh:=⟨.mtk 800000 Y5 105 false::pI:: .dead:: .dead:: .clo 103 []::dz 7 (pI::pI::dz 164 []),[]⟩
def jIZ (a:List Z0) (c:Int) (d:Int) (e:Int) (b:Unit):Option (Int×Bool×(List Z0)):=partG (cmp669 N) N a c d e b
 
theorem jJc :mK 249 (bX [.mtk 800000 Y5 105 false,pI,pI,pI,.clo 103 []] [.tup [pI,pB],.mtk 800000 Y5 105 false] (c5A (jIZ N))):=
 mO (fC (jHC N) ja) func249 rfl N (.seq .no (.seq .no (.seq .no (.seq (.block (.loop jHD .no)) (.seq (.block (.loop jHD .no)) (.seq .no (.seq .no (.seq .no (.seq .no (.seq (.block (.loop jHD (.block (.seq (.block (.loop jHD .no)) (.seq (.block (.loop jHD .no)) .no))))) .no)))))))))) _ (rs:=[800000])
def jIv :Sh:=⟨.mtk 800000 Y5 105 false::pI::pI::pI:: .clo 103 []::dz 5 (pB::pB::dz 136 []),[]⟩
def jIt :Sh:=⟨.mtk 800000 Y5 105 false::pI::pI::pI:: .clo 103 []::dz 5 (pB::pB::pI::pI::dz 134 []),[]⟩
def jIU :Sh:=⟨.mtk 800000 Y5 105 false::pI::pI::pI:: .clo 103 []::dz 5 (pB::pB::pI::pI::pI::dz 133 []),[]⟩
def jID :Sh:=⟨.mtk 800000 Y5 105 false::pI::pI::pI:: .clo 103 []::dz 5 (pB::pB::pI::dz 135 []),[]⟩
def jHN (N D:Nat) (h:List Z0) (a b limit:Int) (e:Unit):Z19:=pdqG (cmp669 N) (fun c a b d=>heapG (cmp669 N) N c a b d) (fun c a b f d=>peqG (cmp669 N) N c a b f d) N D h a b limit e
 
def jHF (N D:Nat):Model:=⟨⟨[.mtk 800000 Y5 105 false,pI,pI,pI,.clo 103 []],[]⟩,⟨[.tup [],.mtk 800000 Y5 105 false],[]⟩,c5A (jHN N D)⟩
theorem jJo (N D:Nat) (ih:mK 171 (jHF N D)):mK 171 (jHF N (D+1)):=
 mO (fC ih (fC (jIC N) (fC (jJa N) (fC (jIs N) (fC (jJz N) (fC (jIk N) (fC (jI1 N) (fC (jHC N) (fC (jH7 N) (fC (jJc N) ja)))))))))) func171 rfl N (.seq .no (.seq .no (.block (.loop jIv (.block (.seq .no (.seq .no (.seq .no (.meet jID .no (.seq .no (.meet jIU .no (.meet jIt .no .no)))))))))))) (jHF N (D+1)) (rs:=[800000])
theorem jHV (N:Nat):∀D,mK 171 (jHF N D)
 |0=>modelOk_none ⟨_,func171,by decide,by kernel_rfl⟩ _ (fun a=>rfl)
 |D+1=>jJo N D (jHV N D)
def k_slices_SortFunc_669_m (a:List Z0) (d:Unit):Z19:=
 (oB (k_math_bits_Len_m N (IntKind.u64.wrap (a.length:Int))) fun c=>oB (jHN N N a 0 (a.length:Int) c ()) fun b=>some b)
theorem jIu :mK 102 (bX [.mtk 800000 Y5 105 false,.clo 103 []] [.tup [],.mtk 800000 Y5 105 false] (c2A (k_slices_SortFunc_669_m N))):=
 mO (fC (jda N) (fC (jHV N N) ja)) func102 rfl N .no _ (rs:=[800000])
def jH5 :Sh:=⟨dz 3 (.mtk 600003 Y5 105 false::dz 3 (.pv Y1::pI::pI::dz 11 [])),[]⟩
def i_allAlive_m (e:List Z3):Z19:=
 (iter (fun k (b,h,f,a)=>bif decide (a<f)then oB (idx h a) fun c=>(oB (jHE N c.1.1 c.1.2 c.2) fun d=>if room b.length d.length 56 then if fits (a+1)then k ((b++d),h,f,(a+1))else none else none)else oB (k_slices_SortFunc_669_m N b ()) fun i=>some i) N (([]:List Z0),e,(e.length:Int),(0:Int)))
theorem jHR :mK 43 (bX [.pv Y1] [.own 1 Y5 105 false] (c1A (i_allAlive_m N))):=
 mO (fC (jH4 N) (fC (jIu N) ja)) func43 rfl N (.seq .no (.seq .no (.seq (.seq .no (.block (.loop jH5 .no))) .no))) _ (wr:=[6,16])
def jIf :Sh:=⟨.dead:: .box 1 0::dz 14 (.pv Y1::pI::pI::dz 13 []),[(1,false,[.pv (.sl .str),.pv Y20,.pv Y1])]⟩
def i_IndexOk_m (e:List Z2) (f:List Z5) (b:List Z3):Z9:=
 (oB (jaj N e f) fun m=>bif !m then some false else bif decide ((5:Int)<b.length)then some false else iter (fun o (h,j,a,i,k,d)=>bif decide (a<j)then oB (idx h a) fun c=>(oB (jHI N i k c.1.1 c.1.2 c.2) fun l=>bif !l then some false else if fits (a+1)then o (h,j,(a+1),i,k,d)else none)else oB (i_allAlive_m N d) fun q=>oB (jbf N q) fun p=>some p) N (b,(b.length:Int),(0:Int),e,f,b))
theorem jIr :mK 10 (bX [.agg [.pv (.sl .str),.pv Y20,.pv Y1]] [pB] (c3A (i_IndexOk_m N))):=
 mO (fC (jdX N) (fC (jJD N) (fC (jHR N) (fC (jjU N) ja)))) func10 rfl N (.seq .no (.seq .no (.seq (.seq .no (.block (.loop jIf .no))) .no))) _
def jDx :Sh:=⟨pS::dz 4 (pI::pI::dz 23 []),[]⟩
def jxV (e:List UInt8):Z9:=
 (iter (fun d (b,c,a)=>bif decide (a<c)then oB (idx b a) fun h=>(oB (jaw N (h.toNat:Int)) fun i=>bif !i then oB (idx b a) fun l=>(bif !decide ((l.toNat:Int)=42)then oB (idx b a) fun k=>(bif !decide ((k.toNat:Int)=63)then some false else if fits (a+1)then d (b,c,(a+1))else none)else if fits (a+1)then d (b,c,(a+1))else none)else if fits (a+1)then d (b,c,(a+1))else none)else oB (i_within_m N (b.length:Int) 1 12) fun f=>some f) N (e,(e.length:Int),(0:Int)))
theorem jz9 :mK 144 (bX [pS] [pB] (c1A (jxV N))):=
 mO (fC (jeK N) (fC (jY N) ja)) func144 rfl N (.seq .no (.seq (.seq .no (.block (.loop jDx .no))) .no)) _
def jBs :Sh:=⟨.dead::pI:: .box 2 0::dz 90 (.pv (.sl .str)::pI::pI::dz 39 []),[(2,false,[pI,pS,.pv (.sl .str),pI,pI,.pv (.sl .q)])]⟩
def jC6 :Sh:=⟨.dead::pI::dz 121 (.pv (.sl .q)::pI::pI::dz 9 []),[]⟩
def jDY :Sh:=⟨.dead::pI:: .box 2 0::dz 132 [],[(2,false,[pI,pS,.pv (.sl .str),pI,pI,.pv (.sl .q)])]⟩
def jzZ :Sh:=⟨.dead::pI:: .box 2 0:: .dead:: .dead:: .box 5 0::dz 129 [],[(2,false,[pI,pS,.pv (.sl .str),pI,pI,.pv (.sl .q)]),(5,false,[pB,pI,pI,pI,pI,pB,pI,pI])]⟩
def jxE (N:Nat):(D:Nat)->Int->Z2->(List Z2)->Int->Int->(List DQ)->Int->Z9
 |0,_,_,_,_,_,_,_=>none
 |D+1,q,q2,q3,q4,q5,q6,deep=>
 meet (fun(g:Z23)=>
 match g with
 |(deep2,q7,q8,q9,q10,q11,q12,x,x2,x3,x4,x5,x6,x7,x8)=>
 meet (fun(g:Z23)=>
 match g with
 |(deep3,q13,q14,q15,q16,q17,q18,x9,x10,x11,x12,x13,x14,x15,x16)=>
 meet (fun(g:Int×Int×Z2×(List Z2)×Int×Int×(List DQ))=>
 match g with
 |(deep4,q19,q20,q21,q22,q23,q24)=>
 iter (fun go (g:Int×(List Z2)×Int×Int×Int×Z2×(List Z2)×Int×Int×(List DQ))=>
 match g with
 |(deep5,t93,t94,t95,q25,q26,q27,q28,q29,q30)=>
 bif decide (t95<t94)then
 oB (idx t93 t95) fun e=>
 (bif decide (q25=5)then
 oB (jxV N e) fun r6=>
 (bif !r6 then
 some false
 else
 oB (jO N e) fun r7=>
 bif r7 then
 some false
 else
 bif !decide (q25=5)then
 oB (jO N e) fun r8=>
 (bif !r8 then
 some false
 else
 if fits (t95+1)then go (deep5,t93,t94,(t95+1),q25,q26,q27,q28,q29,q30)else none)
 else
 if fits (t95+1)then go (deep5,t93,t94,(t95+1),q25,q26,q27,q28,q29,q30)else none)
 else
 bif !decide (q25=5)then
 oB (jO N e) fun r9=>
 (bif !r9 then
 some false
 else
 if fits (t95+1)then go (deep5,t93,t94,(t95+1),q25,q26,q27,q28,q29,q30)else none)
 else
 if fits (t95+1)then go (deep5,t93,t94,(t95+1),q25,q26,q27,q28,q29,q30)else none)
 else
 iter (fun go2 (g:Int×(List DQ)×Int×Int)=>
 match g with
 |(deep6,t123,t124,t125)=>
 bif decide (t125<t124)then
 oB (idx t123 t125) fun e2=>
 (if fits (deep6-1)then oB (jxE N D e2.kind e2.field e2.words e2.lo e2.hi e2.kids (deep6-1)) fun r10=>
 (bif !r10 then
 some false
 else
 if fits (t125+1)then go2 (deep6,t123,t124,(t125+1))else none)else none)
 else
 some true) N (deep5,q30,(q30.length:Int),0)) N (deep4,q21,(q21.length:Int),0,q19,q20,q21,q22,q23,q24)) fun J3=>
 bif x14 then
 oB (i_within_m N q17 q16 999999999) fun r5=>
 (bif !r5 then
 some false
 else
 bif !x14 then
 bif !decide (q17=0)then
 some false
 else
 (J3 (deep3,q13,q14,q15,q16,q17,q18))
 else
 J3 (deep3,q13,q14,q15,q16,q17,q18))
 else
 bif !x14 then
 bif !decide (q17=0)then
 some false
 else
 (J3 (deep3,q13,q14,q15,q16,q17,q18))
 else
 J3 (deep3,q13,q14,q15,q16,q17,q18)) fun J2=>
 oB (i_within_m N (q9.length:Int) x2 x3) fun r2=>
 bif !r2 then
 some false
 else
 oB (i_within_m N (q12.length:Int) x7 x8) fun r3=>
 bif !r3 then
 some false
 else
 oB (i_within_m N q10 x4 x5) fun r4=>
 bif !r4 then
 some false
 else
 J2 (deep2,q7,q8,q9,q10,q11,q12,x,x2,x3,x4,x5,x6,x7,x8)) fun J=>
 bif !((mget tI (.pair .bool (.pair tI (.pair tI (.pair tI (.pair tI (.pair .bool Y18)))))) gm_shapes q).isSome)then
 some false
 else
 bif decide (deep<1)then
 some false
 else
 bif !((((mget tI (.pair .bool (.pair tI (.pair tI (.pair tI (.pair tI (.pair .bool Y18)))))) gm_shapes q).getD (false,(0,(0,(0,(0,(false,(0,0)))))))).1)==(!decide (q2=([]:List UInt8))))then
 some false
 else
 bif((mget tI (.pair .bool (.pair tI (.pair tI (.pair tI (.pair tI (.pair .bool Y18)))))) gm_shapes q).getD (false,(0,(0,(0,(0,(false,(0,0)))))))).1 then
 oB (jO N q2) fun r=>
 (bif !r then
 some false
 else
 J (deep,q,q2,q3,q4,q5,q6,((mget tI (.pair .bool (.pair tI (.pair tI (.pair tI (.pair tI (.pair .bool Y18)))))) gm_shapes q).getD (false,(0,(0,(0,(0,(false,(0,0)))))))).1,(((mget tI (.pair .bool (.pair tI (.pair tI (.pair tI (.pair tI (.pair .bool Y18)))))) gm_shapes q).getD (false,(0,(0,(0,(0,(false,(0,0)))))))).2).1,((((mget tI (.pair .bool (.pair tI (.pair tI (.pair tI (.pair tI (.pair .bool Y18)))))) gm_shapes q).getD (false,(0,(0,(0,(0,(false,(0,0)))))))).2).2).1,(((((mget tI (.pair .bool (.pair tI (.pair tI (.pair tI (.pair tI (.pair .bool Y18)))))) gm_shapes q).getD (false,(0,(0,(0,(0,(false,(0,0)))))))).2).2).2).1,((((((mget tI (.pair .bool (.pair tI (.pair tI (.pair tI (.pair tI (.pair .bool Y18)))))) gm_shapes q).getD (false,(0,(0,(0,(0,(false,(0,0)))))))).2).2).2).2).1,(((((((mget tI (.pair .bool (.pair tI (.pair tI (.pair tI (.pair tI (.pair .bool Y18)))))) gm_shapes q).getD (false,(0,(0,(0,(0,(false,(0,0)))))))).2).2).2).2).2).1,((((((((mget tI (.pair .bool (.pair tI (.pair tI (.pair tI (.pair tI (.pair .bool Y18)))))) gm_shapes q).getD (false,(0,(0,(0,(0,(false,(0,0)))))))).2).2).2).2).2).2).1,((((((((mget tI (.pair .bool (.pair tI (.pair tI (.pair tI (.pair tI (.pair .bool Y18)))))) gm_shapes q).getD (false,(0,(0,(0,(0,(false,(0,0)))))))).2).2).2).2).2).2).2))
 else
 J (deep,q,q2,q3,q4,q5,q6,((mget tI (.pair .bool (.pair tI (.pair tI (.pair tI (.pair tI (.pair .bool Y18)))))) gm_shapes q).getD (false,(0,(0,(0,(0,(false,(0,0)))))))).1,(((mget tI (.pair .bool (.pair tI (.pair tI (.pair tI (.pair tI (.pair .bool Y18)))))) gm_shapes q).getD (false,(0,(0,(0,(0,(false,(0,0)))))))).2).1,((((mget tI (.pair .bool (.pair tI (.pair tI (.pair tI (.pair tI (.pair .bool Y18)))))) gm_shapes q).getD (false,(0,(0,(0,(0,(false,(0,0)))))))).2).2).1,(((((mget tI (.pair .bool (.pair tI (.pair tI (.pair tI (.pair tI (.pair .bool Y18)))))) gm_shapes q).getD (false,(0,(0,(0,(0,(false,(0,0)))))))).2).2).2).1,((((((mget tI (.pair .bool (.pair tI (.pair tI (.pair tI (.pair tI (.pair .bool Y18)))))) gm_shapes q).getD (false,(0,(0,(0,(0,(false,(0,0)))))))).2).2).2).2).1,(((((((mget tI (.pair .bool (.pair tI (.pair tI (.pair tI (.pair tI (.pair .bool Y18)))))) gm_shapes q).getD (false,(0,(0,(0,(0,(false,(0,0)))))))).2).2).2).2).2).1,((((((((mget tI (.pair .bool (.pair tI (.pair tI (.pair tI (.pair tI (.pair .bool Y18)))))) gm_shapes q).getD (false,(0,(0,(0,(0,(false,(0,0)))))))).2).2).2).2).2).2).1,((((((((mget tI (.pair .bool (.pair tI (.pair tI (.pair tI (.pair tI (.pair .bool Y18)))))) gm_shapes q).getD (false,(0,(0,(0,(0,(false,(0,0)))))))).2).2).2).2).2).2).2)
def jyl (N D:Nat):Model:=⟨⟨[.agg [pI,pS,.pv (.sl .str),pI,pI,.pv (.sl .q)],pI],[]⟩,⟨[pB],[]⟩,c7A (jxE N D)⟩
theorem jAF (N D:Nat) (ih:mK 72 (jyl N D)):mK 72 (jyl N (D+1)):=
 mO (fC ih (fC (jcM N) (fC (jY N) (fC (jz9 N) ja)))) func72 rfl N (.seq .no (.seq .no (.meet jzZ .no (.meet jzZ .no (.meet jDY .no (.seq (.seq .no (.block (.loop jBs .no))) (.seq (.seq .no (.block (.loop jC6 .no))) .no))))))) (jyl N (D+1))
theorem jzh (N:Nat):∀D,mK 72 (jyl N D)
 |0=>modelOk_none ⟨_,func72,by decide,by kernel_rfl⟩ _ (fun a=>rfl)
 |D+1=>jAF N D (jzh N D)
def i_QueryOk_m (h:Int) (e:List UInt8) (b:List Z2) (a:Int) (f:Int) (c:List DQ):Z9:=
 (oB (jxE N N h e b a f c 4) fun d=>some d)
theorem jCN :mK 18 (bX [.agg [pI,pS,.pv (.sl .str),pI,pI,.pv (.sl .q)]] [pB] (c6A (i_QueryOk_m N))):=
 mO (fC (jzh N N) ja) func18 rfl N .no _
def jyu (N:Nat) (b:List Z2) (a:List UInt8):Option (Z2):=jxR b a
 
def jBB (N:Nat):Model:=⟨⟨[.pv (.sl .str),pS],[]⟩,⟨[pS],[]⟩,c2A (jyu N)⟩
theorem jBE :mK 146 (jBB N):=jBz
def jOm (N:Nat) (a:Int):Option (Z2):=jOn a
 
def jOU (N:Nat):Model:=⟨⟨[pI],[]⟩,⟨[pS],[]⟩,c1A (jOm N)⟩
theorem jO0 :mK 147 (jOU N):=jPp
def jO5 :Sh:=⟨.dead:: .box 1 0::dz 5 (pI:: .dead:: .dead::pB::dz 82 []),[(1,false,[pI,pS,.pv (.sl .str),pI,pI,.pv (.sl .q)])]⟩
def jPe :Sh:=⟨dz 3 (pS::dz 75 (.pv (.sl .q)::pI::pI::dz 11 [])),[]⟩
def jOW :Sh:=⟨.dead:: .box 1 0:: .dead::pS::dz 89 [],[(1,false,[pI,pS,.pv (.sl .str),pI,pI,.pv (.sl .q)])]⟩
def i_Query_text_m (N:Nat):(D:Nat)->Int->Z2->(List Z2)->Int->Int->(List DQ)->Option (Z2)
 |0,_,_,_,_,_,_=>none
 |D+1,q,q2,q3,q4,q5,q6=>
 bif decide (q=1)then
 some ([97,108,108]:List UInt8)
 else
 meet (fun(g:Int×Bool×Int×Z2×(List Z2)×Int×Int×(List DQ))=>
 match g with
 |(t7,t10,q7,q8,q9,q10,q11,q12)=>
 bif t10 then
 if q8.length+([58]:List UInt8).length<=9223372036854775807 then
 oB (idx q9 0) fun e=>
 (if(q8++([58]:List UInt8)).length+e.length<=9223372036854775807 then
 some ((q8++([58]:List UInt8))++e)
 else none)
 else none
 else
 bif decide (t7=3)then
 if q8.length+([58]:List UInt8).length<=9223372036854775807 then
 oB (jyu N q9 ([43]:List UInt8)) fun r=>
 (if(q8++([58]:List UInt8)).length+r.length<=9223372036854775807 then
 if((q8++([58]:List UInt8))++r).length+([126]:List UInt8).length<=9223372036854775807 then
 oB (jOm N q10) fun r2=>
 (if(((q8++([58]:List UInt8))++r)++([126]:List UInt8)).length+r2.length<=9223372036854775807 then
 some ((((q8++([58]:List UInt8))++r)++([126]:List UInt8))++r2)
 else none)
 else none
 else none)
 else none
 else
 bif decide (t7=4)then
 if q8.length+([58]:List UInt8).length<=9223372036854775807 then
 oB (idx q9 0) fun e2=>
 (if(q8++([58]:List UInt8)).length+e2.length<=9223372036854775807 then
 if((q8++([58]:List UInt8))++e2).length+([37]:List UInt8).length<=9223372036854775807 then
 oB (jOm N q10) fun r3=>
 (if(((q8++([58]:List UInt8))++e2)++([37]:List UInt8)).length+r3.length<=9223372036854775807 then
 some ((((q8++([58]:List UInt8))++e2)++([37]:List UInt8))++r3)
 else none)
 else none
 else none)
 else none
 else
 bif decide (t7=6)then
 if q8.length+([61]:List UInt8).length<=9223372036854775807 then
 oB (jOm N q10) fun r4=>
 (if(q8++([61]:List UInt8)).length+r4.length<=9223372036854775807 then
 if((q8++([61]:List UInt8))++r4).length+([46,46]:List UInt8).length<=9223372036854775807 then
 oB (jOm N q11) fun r5=>
 (if(((q8++([61]:List UInt8))++r4)++([46,46]:List UInt8)).length+r5.length<=9223372036854775807 then
 some ((((q8++([61]:List UInt8))++r4)++([46,46]:List UInt8))++r5)
 else none)
 else none
 else none)
 else none
 else
 if([40]:List UInt8).length+((mget tI .str gm_opNames q7).getD ([]:List UInt8)).length<=9223372036854775807 then
 meet (fun(g:Z2×Int×Z2×(List Z2)×Int×Int×(List DQ))=>
 match g with
 |(out,q13,q14,q15,q16,q17,q18)=>
 iter (fun go (g:Z2×(List DQ)×Int×Int)=>
 match g with
 |(out2,t79,t80,t81)=>
 bif decide (t81<t80)then
 oB (idx t79 t81) fun e3=>
 (oB (i_Query_text_m N D e3.kind e3.field e3.words e3.lo e3.hi e3.kids) fun r7=>
 if([32]:List UInt8).length+r7.length<=9223372036854775807 then
 if out2.length+(([32]:List UInt8)++r7).length<=9223372036854775807 then
 if fits (t81+1)then go ((out2++(([32]:List UInt8)++r7)),t79,t80,(t81+1))else none
 else none
 else none)
 else
 if out2.length+([41]:List UInt8).length<=9223372036854775807 then
 some (out2++([41]:List UInt8))
 else none) N (out,q18,(q18.length:Int),0)) fun J2=>
 (bif decide (q7=10)then
 oB (jOm N q10) fun r6=>
 (if([32]:List UInt8).length+r6.length<=9223372036854775807 then
 if(([40]:List UInt8)++((mget tI .str gm_opNames q7).getD ([]:List UInt8))).length+(([32]:List UInt8)++r6).length<=9223372036854775807 then
 J2 (((([40]:List UInt8)++((mget tI .str gm_opNames q7).getD ([]:List UInt8)))++(([32]:List UInt8)++r6)),q7,q8,q9,q10,q11,q12)
 else none
 else none)
 else
 J2 ((([40]:List UInt8)++((mget tI .str gm_opNames q7).getD ([]:List UInt8))),q7,q8,q9,q10,q11,q12))
 else none) fun J=>
 bif decide (q=2)then
 J (q,true,q,q2,q3,q4,q5,q6)
 else
 J (q,(decide (q=5)),q,q2,q3,q4,q5,q6)
def jOr (N D:Nat):Model:=⟨⟨[.agg [pI,pS,.pv (.sl .str),pI,pI,.pv (.sl .q)]],[]⟩,⟨[pS],[]⟩,c6A (i_Query_text_m N D)⟩
theorem jOY (N D:Nat) (ih:mK 76 (jOr N D)):mK 76 (jOr N (D+1)):=
 mO (fC ih (fC (jBE N) (fC (jO0 N) ja))) func76 rfl N (.seq .no (.seq (.seq .no (.block (.seq .no (.cond .no (.meet jO5 .no .no))))) (.seq .no (.meet jOW .no (.seq (.seq .no (.block (.loop jPe .no))) .no))))) (jOr N (D+1))
theorem jOz (N:Nat):∀D,mK 76 (jOr N D)
 |0=>modelOk_none ⟨_,func76,by decide,by kernel_rfl⟩ _ (fun a=>rfl)
 |D+1=>jOY N D (jOz N D)
def i_QueryPut_m (f:Int) (d:List UInt8) (b:List Z2) (a:Int) (e:Int) (c:List DQ):Option (Z2):=
 (oB (i_QueryOk_m N f d b a e c) fun i=>bif !i then some ([]:List UInt8)else oB (i_Query_text_m N N f d b a e c) fun h=>some h)
theorem jOC :mK 21 (bX [.agg [pI,pS,.pv (.sl .str),pI,pI,.pv (.sl .q)]] [pS] (c6A (i_QueryPut_m N))):=
 mO (fC (jCN N) (fC (jOz N N) ja)) func21 rfl N .no _
def jOI :Sh:=⟨.dead::pS::dz 3 (.mtk 600005 Y13 128 true::dz 4 (.pv Y11::pI::pI::dz 19 [])),[]⟩
def i_Cache_without_m (l:Int) (m:Int) (i:List Z4) (k:List UInt8):Option ((List Z4)):=
 (iter (fun h (f,c,d,e,a)=>bif decide (a<e)then oB (idx d a) fun b=>(bif !decide (b.1=f)then if room ([]:Z6).length b.2.length 16 then if room c.length ([(b.1,(([]:Z6)++b.2))]:List Z4).length 40 then if fits (a+1)then h (f,(c++([(b.1,(([]:Z6)++b.2))]:List Z4)),d,e,(a+1))else none else none else none else if fits (a+1)then h (f,c,d,e,(a+1))else none)else some c) N (k,([]:List Z4),i,(i.length:Int),(0:Int)))
theorem jOy :mK 75 (bX [.agg [pI,pI,.pv Y11],pS] [.mtk 1 Y13 128 true] (c4A (i_Cache_without_m N))):=
 mO ja func75 rfl N (.seq .no (.seq .no (.seq (.seq .no (.block (.loop jOI .no))) .no))) _ (wr:=[8,28,29])
def i_CacheGet_m (b:Int) (a:Int) (c:List Z4) (e:List UInt8) (j:Int):Z21:=
 (oB (i_CacheOk_m N b a c) fun i=>bif !i then some (0,0,([]:List Z4),([]:Z6),false)else oB (i_Cache_find_m N b a c e) fun f=>bif !decide (j=a)then oB (i_Cache_without_m N b a c ([]:List UInt8)) fun l=>(some (b,a,l,([]:Z6),false))else bif decide (f<0)then oB (i_Cache_without_m N b a c ([]:List UInt8)) fun k=>(some (b,a,k,([]:Z6),false))else oB (idx c f) fun d=>if room ([]:Z6).length d.2.length 16 then oB (i_Cache_without_m N b a c e) fun h=>(if room ([(e,(([]:Z6)++d.2))]:List Z4).length h.length 40 then if room ([]:Z6).length d.2.length 16 then some (b,a,(([(e,(([]:Z6)++d.2))]:List Z4)++h),(([]:Z6)++d.2),true)else none else none)else none)
theorem jOH :mK 20 (bX [.agg [pI,pI,.pv Y11],pS,pI] [.tup [.agg [pI,pI,.own 1 Y13 128 true],.own 2 Y18 93 true,pB]] (c5A (i_CacheGet_m N))):=
 mO (fC (jOo N) (fC (jOF N) (fC (jOy N) ja))) func20 rfl N .no _
def jyc (c:List Z2) (e:List Z5) (b:List UInt8):Option (Z2):=
 (oB (jO N b) fun d=>bif !d then some ([]:List UInt8)else oB (jbw N c e b) fun a=>bif decide ((a.length:Int)=0)then some ([]:List UInt8)else oB (idx a 0) fun f=>some f.1)
theorem jBn :mK 199 (bX [.agg [.pv (.sl .str),.pv Y20],pS] [pS] (c3A (jyc N))):=
 mO (fC (jcM N) (fC (jgO N) ja)) func199 rfl N .no _
def jnu :Sh:=⟨.dead::pS::pS::dz 9 (.pv Y6::pI::pI::dz 16 []),[]⟩
def i_Seg_posts_m (h:(List Z0)×(List Z1)) (k:List UInt8) (l:List UInt8):Option (Z17):=
 (iter (fun i (d,b,c,e,a)=>bif decide (a<e)then oB (idx c a) fun f=>(bif decide (f.1=d)then bif decide (f.2.1=b)then some f.2.2 else(if fits (a+1)then i (d,b,c,e,(a+1))else none)else if fits (a+1)then i (d,b,c,e,(a+1))else none)else some ([]:Z7)) N (k,l,h.2,(h.2.length:Int),(0:Int)))
theorem jcq :mK 281 (bX [.ptr Y3,pS,pS] [.pv Y15] (c3A (i_Seg_posts_m N))):=
 mO ja func281 rfl N (.seq .no (.seq (.seq .no (.block (.loop jnu .no))) .no)) _
def jni :Sh:=⟨dz 3 (pI::dz 12 (.pv Y15::pI::pI::dz 10 [])),[]⟩
def i_scorer_places_m (i:((List Z2)×(List Z5))×(List Z0)×(List Z1)) (k:List UInt8) (m:List UInt8) (h:Int):Option ((List Int)):=
 (oB (i_Seg_posts_m N i.2 k m) fun b=>iter (fun l (c,d,e,a)=>bif decide (a<e)then oB (idx d a) fun f=>(bif decide (f.1=c)then some f.2 else if fits (a+1)then l (c,d,e,(a+1))else none)else some ([]:List Int)) N (h,b,(b.length:Int),(0:Int)))
theorem jrB :mK 204 (bX [.ptr Y0,pS,pS,pI] [.pv Y25] (c4A (i_scorer_places_m N))):=
 mO (fC (jcq N) ja) func204 rfl N (.seq .no (.seq (.seq .no (.block (.loop jni .no))) .no)) _
def jmV :Sh:=⟨.dead::pS::dz 8 (.pv Y23::pI::pI::dz 10 []),[]⟩
def i_DocField_m (h:Int) (b:Z16) (k:Z10) (m:List UInt8):Option (Z2):=
 (oB (jbx N h b k) fun i=>bif i then iter (fun l (e,c,d,a)=>bif decide (a<d)then oB (idx c a) fun f=>(bif decide (f.1=e)then some f.2 else if fits (a+1)then l (e,c,d,(a+1))else none)else some ([]:List UInt8)) N (m,b,(b.length:Int),(0:Int))else some ([]:List UInt8))
theorem jqd :mK 317 (bX [.agg [pI,.pv Y23,.pv Y19],pS] [pS] (c4A (i_DocField_m N))):=
 mO (fC (jh0 N) ja) func317 rfl N (.seq .no (.seq (.seq .no (.cond (.seq .no (.block (.loop jmV .no))) .no)) .no)) _
def i_Seg_long_m (e:(List Z0)×(List Z1)) (d:List Z2) (h:List Z5) (f:List UInt8) (b:Int):Z14:=
 (oB (i_Seg_doc_m N e b) fun a=>bif !a.2.2.2 then some 0 else oB (i_DocField_m N a.1 a.2.1 a.2.2.1 f) fun c=>oB (jbw N d h c) fun i=>some (i.length:Int))
theorem jhs :mK 279 (bX [.ptr Y3,.agg [.pv (.sl .str),.pv Y20],pS,pI] [pI] (c5A (i_Seg_long_m N))):=
 mO (fC (jlU N) (fC (jqd N) (fC (jgO N) ja))) func279 rfl N .no _
def joq :Sh:=⟨pI::pI::dz 13 [],[]⟩
def ja2 (d:Int) (e:Int):Z14:=
 (iter (fun c (a,b)=>bif !decide (b=0)then if b≠0 then c (b,(a.tmod b))else none else if fits (0-a)then some (if(0-a)>a then 0-a else a)else none) N (d,e))
theorem jiQ :mK 340 (bX [pI,pI] [pI] (c2A (ja2 N))):=
 mO ja func340 rfl N (.seq .no (.seq (.block (.loop joq .no)) .no)) _
def jbk (b:Int) (a:Int):Z9:=
 (oB (i_within_m N b (-1000000000) 1000000000) fun d=>bif d then oB (i_within_m N a 1 1000000000) fun c=>(bif c then oB (ja2 N b a) fun e=>(some (decide (e=1)))else some false)else some false)
theorem jhS :mK 319 (bX [.agg [pI,pI]] [pB] (c2A (jbk N))):=
 mO (fC (jY N) (fC (jiQ N) ja)) func319 rfl N .no _
def jk5 :Sh:=⟨pI::pI:: .dead:: .dead:: .box 4 0::dz 24 [],[(4,false,[pI,pI])]⟩
def jcl (e:Int) (c:Int):Option (Int×Int×Bool):=
 (meet (fun(i:Int×Int×Int×Int)=>match i with|(d,b,k,j)=>oB (ja2 N d b) fun a=>if a≠0 then if fits (d.tdiv a)then if a≠0 then if fits (b.tdiv a)then oB (jbk N (d.tdiv a) (b.tdiv a)) fun h=>(bif !h then some (0,1,false)else some ((d.tdiv a),(b.tdiv a),true))else none else none else none else none) fun f=>bif decide (c<0)then if fits (0-e)then if fits (0-c)then f ((0-e),(0-c),0,0)else none else none else f (e,c,0,0))
theorem jlG :mK 339 (bX [pI,pI] [.tup [.agg [pI,pI],pB]] (c2A (jcl N))):=
 mO (fC (jiQ N) (fC (jhS N) ja)) func339 rfl N (.seq .no (.meet jk5 .no .no)) _
def jb7 (c:Int) (a:Int):Option (Int×Int×Bool):=
 (oB (i_within_m N c (-1000000000) 1000000000) fun e=>bif !e then some (0,1,false)else oB (i_within_m N a (-1000000000) 1000000000) fun d=>bif !d then some (0,1,false)else bif decide (a=0)then some (0,1,false)else oB (jcl N c a) fun b=>some (b.1,b.2.1,b.2.2))
theorem jpX :mK 318 (bX [pI,pI] [.tup [.agg [pI,pI],pB]] (c2A (jb7 N))):=
 mO (fC (jY N) (fC (jlG N) ja)) func318 rfl N .no _
def jtO :Sh:=⟨pI::pI::pI::pI::pI::dz 5 (.box 10 0:: .dead::pI::dz 53 []),[(10,false,[pI,pI])]⟩
def i_TermScore_m (k:Int) (h:Int) (m:Int) (j:Int) (l:Int):Option (Int×Int×Bool):=
 (oB (i_within_m N k 1 80) fun t=>bif !t then some (0,1,false)else oB (i_within_m N h k 80) fun r=>bif !r then some (0,1,false)else oB (i_within_m N j 1 16) fun p=>bif !p then some (0,1,false)else oB (i_within_m N l 1 j) fun o=>bif !o then some (0,1,false)else oB (i_within_m N m h 1280) fun q=>bif !q then some (0,1,false)else iter (fun v (b,d,e,c,i,a,w,n)=>if fits (a+1)then if 0<=(a+1)then if fits (i*2^(min (a+1).toNat (IntKind.bits .i64)))then bif decide ((i*2^(min (a+1).toNat (IntKind.bits .i64)))<=c)then if fits (a+1)then v (b,d,e,c,i,(a+1),w,n)else none else(if fits (22*b)then if fits (a+1)then if fits ((22*b)*(a+1))then if fits (10*b)then if fits ((10*b)+3)then if fits (9*d)then if fits ((9*d)*c)then if e≠0 then if fits (((9*d)*c).tdiv e)then if fits (((10*b)+3)+(((9*d)*c).tdiv e))then oB (jb7 N ((22*b)*(a+1)) (((10*b)+3)+(((9*d)*c).tdiv e))) fun f=>(some (f.1,f.2.1,f.2.2))else none else none else none else none else none else none else none else none else none else none)else none else none else none) N (k,h,m,j,l,(0:Int),(0:Int),(0:Int)))
theorem jgE :mK 280 (bX [pI,pI,pI,pI,pI] [.tup [.agg [pI,pI],pB]] (c5A (i_TermScore_m N))):=
 mO (fC (jY N) (fC (jpX N) ja)) func280 rfl N (.seq .no (.seq .no (.seq .no (.seq (.block (.loop jtO .no)) .no)))) _
def i_RatFloor_m (b:Int) (a:Int) (c:Int):Z14:=
 (oB (jbk N b a) fun e=>bif !e then some 0 else oB (i_within_m N c 1 1000) fun d=>bif !d then some 0 else if fits (b*c)then bif decide ((0:Int)<=(b*c))then if a≠0 then if fits ((b*c).tdiv a)then some ((b*c).tdiv a)else none else none else(if fits (0-(b*c))then if fits ((0-(b*c))+a)then if fits (((0-(b*c))+a)-1)then if a≠0 then if fits ((((0-(b*c))+a)-1).tdiv a)then if fits (0-((((0-(b*c))+a)-1).tdiv a))then some (0-((((0-(b*c))+a)-1).tdiv a))else none else none else none else none else none else none)else none)
theorem jiY :mK 282 (bX [.agg [pI,pI],pI] [pI] (c3A (i_RatFloor_m N))):=
 mO (fC (jhS N) (fC (jY N) ja)) func282 rfl N .no _
def jlZ :Sh:=⟨.ptr Y0::pS::pS::pI::dz 5 (.pv Y25::pI::dz 16 (.pv Y4::pI::pI::dz 49 [])),[]⟩
def i_scorer_points_m (d:((List Z2)×(List Z5))×(List Z0)×(List Z1)) (o:List UInt8) (p:List UInt8) (f:Int):Z14:=
 (oB (i_scorer_places_m N d o p f) fun n=>bif decide ((n.length:Int)=0)then some 0 else iter (fun x (a,c,l,i,h,e,q,k,b)=>bif decide (b<k)then oB (idx q b) fun v=>(oB (i_Seg_long_m N a.2 a.1.1 a.1.2 c v.1) fun m=>if fits (e+m)then if fits (b+1)then x (a,c,l,i,h,(e+m),q,k,(b+1))else none else none)else oB (i_Seg_long_m N a.2 a.1.1 a.1.2 c i) fun u=>oB (i_Seg_posts_m N a.2 c l) fun t=>oB (i_TermScore_m N (h.length:Int) u e (a.2.1.length:Int) (t.length:Int)) fun j=>oB (i_RatFloor_m N j.1 j.2.1 1000) fun r=>some r) N (d,o,p,f,n,(0:Int),d.2.1,(d.2.1.length:Int),(0:Int)))
theorem jsD :mK 198 (bX [.ptr Y0,pS,pS,pI] [pI] (c4A (i_scorer_points_m N))):=
 mO (fC (jrB N) (fC (jhs N) (fC (jcq N) (fC (jgE N) (fC (jiY N) ja))))) func198 rfl N (.seq .no (.seq .no (.seq .no (.seq .no (.seq (.seq .no (.block (.loop jlZ .no))) .no))))) _
def jBY :Sh:=⟨.pv (.sl Y25)::dz 4 (.pv (.sl Y25)::pI::pI::dz 10 []),[]⟩
def jyD (b:List (List Int)):Z9:=
 (iter (fun i (c,d,e,a)=>bif decide (a<e)then oB (idx d a) fun j=>(oB (jx1 N j) fun f=>bif !f then some false else if fits (a+1)then i (c,d,e,(a+1))else none)else some (decide ((c.length:Int)<=6))) N (b,b,(b.length:Int),(0:Int)))
theorem jD9 :mK 341 (bX [.pv (.sl Y25)] [pB] (c1A (jyD N))):=
 mO (fC (jAN N) ja) func341 rfl N (.seq .no (.seq (.seq .no (.block (.loop jBY .no))) .no)) _
def jyK (a:List (List Int)):Z9:=
 (bif decide ((0:Int)<a.length)then oB (jyD N a) fun b=>(some b)else some false)
theorem jD6 :mK 320 (bX [.pv (.sl Y25)] [pB] (c1A (jyK N))):=
 mO (fC (jD9 N) ja) func320 rfl N .no _
def jye (a:Int) (b:Int):Z9:=
 (oB (k_cmp_isNaN_538_m N a) fun d=>bif d then oB (k_cmp_isNaN_538_m N b) fun c=>(bif !c then some true else some (decide (a<b)))else some (decide (a<b)))
theorem jA5 :mK 356 (bX [pI,pI] [pB] (c2A (jye N))):=
 mO (fC (joK N) ja) func356 rfl N .no _
def jxW (N:Nat) (a:Int):Z9:=
 (some (!decide (a=a)))
theorem jCp :mK 357 (bX [pI] [pB] (c1A (jxW N))):=
 mO ja func357 rfl N .no _
def jB3 :Sh:=⟨.pv Y25::pI::dz 4 (pI::pI::pI::dz 45 []),[]⟩
def jyA (f:List Int) (l:Int):Option (Int×Bool):=
 (iter (fun h (c,d,e,a,b)=>bif decide (a<b)then if fits (a+b)then if 0<=(1:Int)then oB (idx c (IntKind.i64.wrap ((IntKind.u64.wrap (a+b)).fdiv (2^(min (1:Int).toNat (IntKind.bits .u64)))))) fun p=>(oB (jye N p d) fun k=>bif k then if fits ((IntKind.i64.wrap ((IntKind.u64.wrap (a+b)).fdiv (2^(min (1:Int).toNat (IntKind.bits .u64)))))+1)then h (c,d,e,((IntKind.i64.wrap ((IntKind.u64.wrap (a+b)).fdiv (2^(min (1:Int).toNat (IntKind.bits .u64)))))+1),b)else none else h (c,d,e,a,(IntKind.i64.wrap ((IntKind.u64.wrap (a+b)).fdiv (2^(min (1:Int).toNat (IntKind.bits .u64)))))))else none else none else bif decide (a<e)then oB (idx c a) fun n=>(bif decide (n=d)then some (a,true)else oB (idx c a) fun i=>oB (jxW N i) fun j=>bif j then oB (jxW N d) fun o=>(some (a,o))else some (a,false))else some (a,false)) N (f,l,(f.length:Int),(0:Int),(f.length:Int)))
theorem jDL :mK 342 (bX [.pv Y25,pI] [.tup [pI,pB]] (c2A (jyA N))):=
 mO (fC (jA5 N) (fC (jCp N) ja)) func342 rfl N (.seq .no (.seq .no (.seq .no (.seq (.block (.loop jB3 .no)) .no)))) _
def jys (a:List Int) (c:Int):Option (Int×Bool):=
 (oB (jyA N a c) fun b=>bif decide (b.1=(a.length:Int))then some (0,false)else oB (idx a b.1) fun d=>some (d,true))
theorem jAO :mK 321 (bX [.pv Y25,pI] [.tup [pI,pB]] (c2A (jys N))):=
 mO (fC (jDL N) ja) func321 rfl N .no _
def jBS :Sh:=⟨.pv (.sl Y25)::pI::dz 3 (.own 600005 tI 3 true::dz 20 (.pv Y25::pI::pI::dz 42 [])),[]⟩
def jDv :Sh:=⟨.pv (.sl Y25)::pI::dz 3 (.own 600005 tI 3 true:: .dead::pI::pI::pB::dz 16 (.pv Y25::pI::pI::dz 5 (.pv (.sl Y25)::pI::pI::dz 34 []))),[]⟩
def jyw (p:List (List Int)) (z:Int):Option ((List Int)):=
 (oB (jyK N p) fun G=>bif !G then some ([]:List Int)else oB (i_within_m N z 0 5) fun E=>bif !E then some ([]:List Int)else oB (idx p 0) fun v=>iter (fun r (m,D,u,y,B,l)=>bif decide (l<B)then oB (idx y l) fun A=>(oB (cut m 1 (m.length:Int)) fun t=>iter (fun w (a,d,f,c,n,x,h,i,b,j,o,e)=>bif decide (e<o)then oB (idx j e) fun C=>(if fits (n+1)then oB (jys N C (n+1)) fun k=>(bif x then if fits (e+1)then w (a,d,f,c,k.1,k.2,h,i,b,j,o,(e+1))else none else if fits (e+1)then w (a,d,f,c,k.1,false,h,i,b,j,o,(e+1))else none)else none)else bif x then if fits (c+(a.length:Int))then if fits ((c+(a.length:Int))-1)then if fits (((c+(a.length:Int))-1)+d)then bif decide (n<=(((c+(a.length:Int))-1)+d))then if room f.length ([c]:List Int).length 8 then if fits (b+1)then r (a,d,(f++([c]:List Int)),h,i,(b+1))else none else none else(if fits (b+1)then r (a,d,f,h,i,(b+1))else none)else none else none else none else if fits (b+1)then r (a,d,f,h,i,(b+1))else none) N (m,D,u,A,A,true,y,B,l,t,(t.length:Int),(0:Int)))else some u) N (p,z,([]:List Int),v,(v.length:Int),(0:Int)))
theorem jCX :mK 283 (bX [.pv (.sl Y25),pI] [.own 1 tI 3 true] (c2A (jyw N))):=
 mO (fC (jD6 N) (fC (jY N) (fC (jAO N) ja))) func283 rfl N (.seq .no (.seq .no (.seq .no (.seq (.seq .no (.block (.loop jBS (.seq .no (.seq .no (.seq (.block (.seq .no (.seq .no (.seq (.seq .no (.block (.loop jDv .no))) .no)))) .no)))))) .no)))) _
def jCk :Sh:=⟨.ptr Y0::dz 3 (.box 4 0:: .box 5 0:: .dead:: .own 600007 Y21 111 true:: .own 600008 Y25 89 true::pI::dz 18 (.pv Y19::pI::pI::dz 59 [])),[(4,false,[pI,pS,.pv (.sl .str),pI,pI,.pv (.sl .q)]),(5,false,[pI,.pv Y23,.pv Y19])]⟩
def jDK :Sh:=⟨.ptr Y0::dz 3 (.box 4 0:: .box 5 0:: .dead:: .own 600007 Y21 111 true:: .own 600008 Y25 89 true::pI::pI:: .box 11 0:: .own 600012 tI 3 true::dz 15 (.pv Y19::pI::pI::dz 12 (.pv Y25::pI::pI::dz 44 []))),[(4,false,[pI,pS,.pv (.sl .str),pI,pI,.pv (.sl .q)]),(5,false,[pI,.pv Y23,.pv Y19]),(11,false,[pS,pI])]⟩
def jyB (x:((List Z2)×(List Z5))×(List Z0)×(List Z1)) (q:Int) (q2:List UInt8) (q3:List Z2) (q4:Int) (q5:Int) (q6:List DQ) (d:Int) (d2:Z16) (d3:Z10):Z14:=
 (oB (jyu N q3 ([32]:List UInt8)) fun r=>oB (jbw N x.1.1 x.1.2 r) fun r2=>bif decide ((r2.length:Int)=0)then some 0 else iter (fun go (x2,terms,lists,all,t28,t29,t30,q7,q8,q9,q10,q11,q12,d4,d5,d6)=>bif decide (t30<t29)then oB (idx t28 t30) fun e=>(oB (i_scorer_places_m N x2 q8 e.1 d4) fun r3=>iter (fun go2 (x3,terms2,lists2,all2,i,list,t282,t292,t302,t43,t44,t45,q13,q14,q15,q16,q17,q18,d7,d8,d9,t,t2)=>bif decide (t45<t44)then oB (idx t43 t45) fun e2=>(oB (idx terms2 0) fun e3=>if fits (t2-e3.2)then if fits ((t2-e3.2)-i)then if fits (e2-((t2-e3.2)-i))then bif decide ((0:Int)<=(e2-((t2-e3.2)-i)))then if room list.length ([(e2-((t2-e3.2)-i))]:List Int).length 8 then if fits (t45+1)then go2 (x3,terms2,lists2,all2,i,(list++([(e2-((t2-e3.2)-i))]:List Int)),t282,t292,t302,t43,t44,(t45+1),q13,q14,q15,q16,q17,q18,d7,d8,d9,t,t2)else none else none else(if fits (t45+1)then go2 (x3,terms2,lists2,all2,i,list,t282,t292,t302,t43,t44,(t45+1),q13,q14,q15,q16,q17,q18,d7,d8,d9,t,t2)else none)else none else none else none)else if room lists2.length ([list]:List (List Int)).length 24 then oB (i_scorer_points_m N x3 q14 t d7) fun r4=>(if fits (all2+r4)then if fits (t302+1)then go (x3,terms2,(lists2++([list]:List (List Int))),(all2+r4),t282,t292,(t302+1),q13,q14,q15,q16,q17,q18,d7,d8,d9)else none else none)else none) N (x2,terms,lists,all,t30,([]:List Int),t28,t29,t30,r3,(r3.length:Int),(0:Int),q7,q8,q9,q10,q11,q12,d4,d5,d6,e.1,e.2))else oB (jyw N lists q10) fun r5=>if fits ((if(r5.length:Int)<3 then(r5.length:Int)else 3)*all)then some ((if(r5.length:Int)<3 then(r5.length:Int)else 3)*all)else none) N (x,r2,([]:List (List Int)),(0:Int),r2,(r2.length:Int),(0:Int),q,q2,q3,q4,q5,q6,d,d2,d3))
theorem jDC :mK 200 (bX [.ptr Y0,.agg [pI,pS,.pv (.sl .str),pI,pI,.pv (.sl .q)],.agg [pI,.pv Y23,.pv Y19]] [pI] (c10A (jyB N))):=
 mO (fC (jBE N) (fC (jgO N) (fC (jrB N) (fC (jsD N) (fC (jCX N) ja))))) func200 rfl N (.seq .no (.seq .no (.seq .no (.seq .no (.seq .no (.seq (.seq .no (.block (.loop jCk (.seq .no (.seq .no (.seq (.block (.seq .no (.seq .no (.seq (.seq .no (.block (.loop jDK .no))) .no)))) .no)))))) .no)))))) _
def jtE :Sh:=⟨.dead::pS::dz 3 (.own 600005 .str 9 true::dz 6 (.pv Y6::pI::pI::dz 14 [])),[]⟩
def i_Seg_terms_m (h:(List Z0)×(List Z1)) (k:List UInt8):Option ((List Z2)):=
 (iter (fun i (d,b,c,e,a)=>bif decide (a<e)then oB (idx c a) fun f=>(bif decide (f.1=d)then if room b.length ([f.2.1]:List Z2).length 16 then if fits (a+1)then i (d,(b++([f.2.1]:List Z2)),c,e,(a+1))else none else none else if fits (a+1)then i (d,b,c,e,(a+1))else none)else some b) N (k,([]:List Z2),h.2,(h.2.length:Int),(0:Int)))
theorem jln :mK 201 (bX [.ptr Y3,pS] [.own 1 .str 9 true] (c2A (i_Seg_terms_m N))):=
 mO ja func201 rfl N (.seq .no (.seq .no (.seq (.seq .no (.block (.loop jtE .no))) .no))) _
def jDE :Sh:=⟨pS::pS::dz 3 (.mtk 600005 tI 3 true::dz 18 (pI::pI::dz 62 [])),[]⟩
def jBC :Sh:=⟨pS::pS::dz 3 (.mtk 600005 tI 3 true:: .dead::pI::dz 80 []),[]⟩
def jCv :Sh:=⟨pS::pS::dz 3 (.mtk 600005 tI 3 true:: .dead::pI::pI::pI::dz 78 []),[]⟩
def jAI :Sh:=⟨pS::pS::dz 3 (.mtk 600005 tI 3 true:: .dead::pI:: .dead::pI::pI::dz 77 []),[]⟩
def jAQ :Sh:=⟨pS::pS::dz 3 (.mtk 22 tI 3 true::dz 82 []),[]⟩
def jDZ :Sh:=⟨pS::pS::dz 86 [],[]⟩
def i_NearFar_m (a:List UInt8) (b:List UInt8):Z14:=
 (meet (fun(g:Z2×Z2)=>match g with|(a2,b2)=>meet (fun(g:Z2×Z2×(List Int))=>match g with|(a3,b3,row)=>iter (fun go (a4,b4,row2,t24,t25)=>bif decide (t25<t24)then if 0<=t25/\t25<(row2.length:Int)then oB (row2[t25.toNat]?) fun e=>(if fits (t25+1)then go (a4,b4,(row2.set t25.toNat t25),t24,(t25+1))else none)else none else iter (fun go2 (a5,b5,row3,i)=>bif decide (i<=(a5.length:Int))then if 0<=(0:Int)/\(0:Int)<row3.length then oB (row3[(0:Int).toNat]?) fun e2=>(if 0<=(0:Int)/\(0:Int)<row3.length then oB (row3[(0:Int).toNat]?) fun e3=>(iter (fun go3 (a6,b6,row4,i2,corner,j)=>bif decide (j<=(b6.length:Int))then meet (fun(g:Z22)=>match g with|(a7,b7,row5,i3,j2,cost)=>if 0<=j2/\j2<(row5.length:Int)then oB (row5[j2.toNat]?) fun e4=>(if 0<=j2/\j2<(row5.length:Int)then oB (row5[j2.toNat]?) fun e5=>(if fits (e5+1)then if fits (j2-1)then if 0<=(j2-1)/\(j2-1)<(row5.length:Int)then oB (row5[(j2-1).toNat]?) fun e6=>(if fits (e6+1)then if 0<=j2/\j2<(row5.length:Int)then oB (row5[j2.toNat]?) fun e7=>(if fits (j2+1)then go3 (a7,b7,(row5.set j2.toNat (if(e6+1)<(if(e5+1)<cost then e5+1 else cost)then e6+1 else if(e5+1)<cost then e5+1 else cost)),i3,e4,(j2+1))else none)else none else none)else none else none else none)else none)else none) fun J3=>(if fits (i2-1)then oB (idx a6 (i2-1)) fun c=>(if fits (j-1)then oB (idx b6 (j-1)) fun c2=>(bif !decide ((c.toNat:Int)=(c2.toNat:Int))then if fits (corner+1)then J3 (a6,b6,row4,i2,j,(corner+1))else none else J3 (a6,b6,row4,i2,j,corner))else none)else none)else if fits (i2+1)then go2 (a6,b6,row4,(i2+1))else none) N (a5,b5,(row3.set (0:Int).toNat i),i,e2,(1:Int)))else none)else none else if 0<=(b5.length:Int)/\(b5.length:Int)<(row3.length:Int)then oB (row3[(b5.length:Int).toNat]?) fun e8=>(some e8)else none) N (a4,b4,row2,(1:Int))) N (a3,b3,row,(row.length:Int),(0:Int))) fun J2=>if fits ((b2.length:Int)+1)then if((b2.length:Int)+1)=((b2.length:Int)+1)/\0<=((b2.length:Int)+1)/\((b2.length:Int)+1)*8<=140737488355328/\((b2.length:Int)+1)<=140737488355328 then J2 (a2,b2,(List.replicate ((b2.length:Int)+1).toNat 0))else none else none) fun J=>oB (jO N a) fun r=>bif !r then some (-1)else oB (jO N b) fun r2=>bif !r2 then some (-1)else J (a,b))
theorem jDu :mK 202 (bX [pS,pS] [pI] (c2A (i_NearFar_m N))):=
 mO (fC (jcM N) ja) func202 rfl N (.seq .no (.meet jDZ .no (.meet jAQ .no (.seq (.seq .no (.block (.loop jDE .no))) (.seq (.seq .no (.block (.loop jBC (.seq .no (.seq (.block (.seq .no (.seq .no (.seq .no (.block (.loop jCv (.seq .no (.seq (.block (.seq .no (.meet jAI .no .no))) .no)))))))) .no))))) .no))))) _ (wr:=[22])
def jxG (N:Nat):(D:Nat)->Z2->Z2->Z9
 |0,_,_=>none
 |D+1,p,s=>
 bif decide (p=([]:List UInt8))then
 some (decide (s=([]:List UInt8)))
 else
 oB (idx p 0) fun c=>
 bif decide ((c.toNat:Int)=42)then
 oB (cut p 1 (p.length:Int)) fun y=>
 (oB (jxG N D y s) fun r=>
 bif r then
 some true
 else
 bif !decide (s=([]:List UInt8))then
 oB (cut s 1 (s.length:Int)) fun y2=>
 (oB (jxG N D p y2) fun r2=>
 some r2)
 else
 some false)
 else
 bif decide (s=([]:List UInt8))then
 some false
 else
 oB (idx p 0) fun c2=>
 bif decide ((c2.toNat:Int)=63)then
 oB (cut p 1 (p.length:Int)) fun y3=>
 (oB (cut s 1 (s.length:Int)) fun y4=>
 oB (jxG N D y3 y4) fun r3=>
 some r3)
 else
 oB (idx p 0) fun c3=>
 oB (idx s 0) fun c4=>
 bif decide ((c3.toNat:Int)=(c4.toNat:Int))then
 oB (cut p 1 (p.length:Int)) fun y5=>
 (oB (cut s 1 (s.length:Int)) fun y6=>
 oB (jxG N D y5 y6) fun r4=>
 some r4)
 else
 some false
def jyg (N D:Nat):Model:=⟨⟨[pS,pS],[]⟩,⟨[pB],[]⟩,c2A (jxG N D)⟩
theorem jBG (N D:Nat) (ih:mK 284 (jyg N D)):mK 284 (jyg N (D+1)):=
 mO (fC ih ja) func284 rfl N .no (jyg N (D+1))
theorem jAz (N:Nat):∀D,mK 284 (jyg N D)
 |0=>modelOk_none ⟨_,func284,by decide,by kernel_rfl⟩ _ (fun a=>rfl)
 |D+1=>jBG N D (jAz N D)
def jx0 (a:List UInt8) (b:List UInt8):Z9:=
 (oB (jxV N a) fun d=>bif d then oB (jO N b) fun c=>(bif c then oB (jxG N N a b) fun e=>(some e)else some false)else some false)
theorem jDd :mK 203 (bX [pS,pS] [pB] (c2A (jx0 N))):=
 mO (fC (jz9 N) (fC (jcM N) (fC (jAz N N) ja))) func203 rfl N .no _
def jD5 :Sh:=⟨.dead::pS::dz 8 (.pv Y19::pI::pI::dz 10 []),[]⟩
def jyp (h:Int) (i:Z16) (b:Z10) (m:List UInt8):Z14:=
 (oB (jbx N h i b) fun j=>bif j then iter (fun l (e,c,d,a)=>bif decide (a<d)then oB (idx c a) fun f=>(bif decide (f.1=e)then some f.2 else if fits (a+1)then l (e,c,d,(a+1))else none)else some (-1)) N (m,b,(b.length:Int),(0:Int))else some (-1))
theorem jBQ :mK 205 (bX [.agg [pI,.pv Y23,.pv Y19],pS] [pI] (c4A (jyp N))):=
 mO (fC (jh0 N) ja) func205 rfl N (.seq .no (.seq (.seq .no (.cond (.seq .no (.block (.loop jD5 .no))) .no)) .no)) _
def jDa :Sh:=⟨.ptr Y0::dz 3 (.box 4 0:: .box 5 0:: .dead::pI::dz 43 (.own 600051 .str 9 true::pI::pI::dz 122 [])),[(4,false,[pI,pS,.pv (.sl .str),pI,pI,.pv (.sl .q)]),(5,false,[pI,.pv Y23,.pv Y19])]⟩
def jCO :Sh:=⟨.ptr Y0::dz 3 (.box 4 0:: .box 5 0::dz 83 (.own 600089 .str 9 true::pI::pI::dz 84 [])),[(4,false,[pI,pS,.pv (.sl .str),pI,pI,.pv (.sl .q)]),(5,false,[pI,.pv Y23,.pv Y19])]⟩
def jDp :Sh:=⟨.ptr Y0::dz 3 (.box 4 0:: .box 5 0::dz 7 (pI::dz 140 (.pv (.sl .q)::pI::pI::dz 19 []))),[(4,false,[pI,pS,.pv (.sl .str),pI,pI,.pv (.sl .q)]),(5,false,[pI,.pv Y23,.pv Y19])]⟩
def i_scorer_score_m (N:Nat):(D:Nat)->Z15->Int->Z2->(List Z2)->Int->Int->(List DQ)->Int->Z13->Z8->Z14
 |0,_,_,_,_,_,_,_,_,_,_=>none
 |D+1,x,q,q2,q3,q4,q5,q6,d,d2,d3=>
 bif decide (q=1)then
 some 100
 else
 bif decide (q=2)then
 oB (idx q3 0) fun e=>
 (oB (jyc N x.1.1 x.1.2 e) fun r=>
 oB (i_scorer_points_m N x q2 r d) fun r2=>
 some r2)
 else
 bif decide (q=3)then
 oB (jyB N x q q2 q3 q4 q5 q6 d d2 d3) fun r3=>
 (some r3)
 else
 bif decide (q=4)then
 oB (i_Seg_terms_m N x.2 q2) fun r4=>
 (iter (fun go (g:Z15×Int×(List Z2)×Int×Int×Int×Z2×(List Z2)×Int×Int×(List DQ)×Int×Z13×Z8)=>
 match g with
 |(x2,best,t51,t52,t53,q7,q8,q9,q10,q11,q12,d4,d5,d6)=>
 bif decide (t53<t52)then
 oB (idx t51 t53) fun e2=>
 (oB (idx q9 0) fun e3=>
 oB (i_NearFar_m N e2 e3) fun r5=>
 oB (i_within_m N r5 0 q10) fun r6=>
 bif r6 then
 oB (i_scorer_points_m N x2 q8 e2 d4) fun r7=>
 (if fits (3-r5)then if fits (r7*(3-r5))then if 3≠0 then
 if fits ((r7*(3-r5)).tdiv 3)then if fits (t53+1)then go (x2,(if((r7*(3-r5)).tdiv 3)>best then(r7*(3-r5)).tdiv 3 else best),t51,t52,(t53+1),q7,q8,q9,q10,q11,q12,d4,d5,d6)else none else none
 else none else none else none)
 else
 if fits (t53+1)then go (x2,best,t51,t52,(t53+1),q7,q8,q9,q10,q11,q12,d4,d5,d6)else none)
 else
 some best) N (x,0,r4,(r4.length:Int),0,q,q2,q3,q4,q5,q6,d,d2,d3))
 else
 bif decide (q=5)then
 oB (i_Seg_terms_m N x.2 q2) fun r8=>
 (iter (fun go2 (g:Z15×(List Z2)×Int×Int×Int×Z2×(List Z2)×Int×Int×(List DQ)×Int×Z13×Z8)=>
 match g with
 |(x3,t89,t90,t91,q13,q14,q15,q16,q17,q18,d7,d8,d9)=>
 bif decide (t91<t90)then
 oB (idx t89 t91) fun e4=>
 (oB (idx q15 0) fun e5=>
 oB (jx0 N e5 e4) fun r9=>
 bif r9 then
 oB (i_scorer_places_m N x3 q14 e4 d7) fun r10=>
 (bif decide ((0:Int)<r10.length)then
 some 100
 else
 if fits (t91+1)then go2 (x3,t89,t90,(t91+1),q13,q14,q15,q16,q17,q18,d7,d8,d9)else none)
 else
 if fits (t91+1)then go2 (x3,t89,t90,(t91+1),q13,q14,q15,q16,q17,q18,d7,d8,d9)else none)
 else
 some 0) N (x,r8,(r8.length:Int),0,q,q2,q3,q4,q5,q6,d,d2,d3))
 else
 bif decide (q=6)then
 oB (jyp N d d2 d3 q2) fun r11=>
 (oB (i_within_m N r11 q4 q5) fun r12=>
 bif r12 then
 some 100
 else
 some 0)
 else
 bif decide (q=10)then
 oB (idx q6 0) fun e6=>
 (oB (i_scorer_score_m N D x e6.kind e6.field e6.words e6.lo e6.hi e6.kids d d2 d3) fun r13=>
 if fits (q4*r13)then some (q4*r13)else none)
 else
 bif decide (q=9)then
 oB (idx q6 1) fun e7=>
 (oB (i_scorer_score_m N D x e7.kind e7.field e7.words e7.lo e7.hi e7.kids d d2 d3) fun r14=>
 bif decide ((0:Int)<r14)then
 some 0
 else
 oB (idx q6 0) fun e8=>
 oB (i_scorer_score_m N D x e8.kind e8.field e8.words e8.lo e8.hi e8.kids d d2 d3) fun r15=>
 some r15)
 else
 iter (fun go3 (g:Z15×Int×(List DQ)×Int×Int×Int×Z2×(List Z2)×Int×Int×(List DQ)×Int×Z13×Z8)=>
 match g with
 |(x4,all,t154,t155,t156,q19,q20,q21,q22,q23,q24,d10,d11,d12)=>
 bif decide (t156<t155)then
 oB (idx t154 t156) fun e9=>
 (oB (i_scorer_score_m N D x4 e9.kind e9.field e9.words e9.lo e9.hi e9.kids d10 d11 d12) fun r16=>
 bif decide (r16=0)then
 bif decide (q19=7)then
 some 0
 else
 (if fits (all+r16)then if fits (t156+1)then go3 (x4,(all+r16),t154,t155,(t156+1),q19,q20,q21,q22,q23,q24,d10,d11,d12)else none else none)
 else
 if fits (all+r16)then if fits (t156+1)then go3 (x4,(all+r16),t154,t155,(t156+1),q19,q20,q21,q22,q23,q24,d10,d11,d12)else none else none)
 else
 some all) N (x,0,q6,(q6.length:Int),0,q,q2,q3,q4,q5,q6,d,d2,d3)
def jx6 (N D:Nat):Model:=⟨⟨[.ptr Y0,.agg [pI,pS,.pv (.sl .str),pI,pI,.pv (.sl .q)],.agg [pI,.pv Y23,.pv Y19]],[]⟩,⟨[pI],[]⟩,c10A (i_scorer_score_m N D)⟩
theorem jBq (N D:Nat) (ih:mK 129 (jx6 N D)):mK 129 (jx6 N (D+1)):=
 mO (fC ih (fC (jBn N) (fC (jsD N) (fC (jDC N) (fC (jln N) (fC (jDu N) (fC (jY N) (fC (jDd N) (fC (jrB N) (fC (jBQ N) ja)))))))))) func129 rfl N (.seq .no (.seq (.seq .no (.block (.seq .no (.cond .no (.seq .no (.cond .no (.seq .no (.cond .no (.seq .no (.cond (.seq .no (.seq (.seq .no (.block (.loop jDa .no))) .no)) (.seq .no (.cond (.seq (.seq .no (.block (.loop jCO .no))) .no) .no)))))))))))) (.seq .no (.seq (.seq .no (.block (.loop jDp .no))) .no)))) (jx6 N (D+1))
theorem jzy (N:Nat):∀D,mK 129 (jx6 N D)
 |0=>modelOk_none ⟨_,func129,by decide,by kernel_rfl⟩ _ (fun a=>rfl)
 |D+1=>jBq N D (jzy N D)
def jBM :Sh:=⟨dz 5 (.box 5 0:: .dead:: .own 600007 Y18 93 true:: .box 26 0::dz 19 (.pv Y4::pI::pI::dz 18 [])),[(5,false,[pI,pS,.pv (.sl .str),pI,pI,.pv (.sl .q)]),(26,true,[.pv (.sl .str),.pv Y20,.pv Y4,.pv Y6])]⟩
def i_scores_m (y:List Z2) (x:List Z5) (d:List Z0) (v:List Z1) (C:Int) (w:List UInt8) (t:List Z2) (z:Int) (B:Int) (u:List DQ):Option (Z11):=
 (oB (i_SegOk_m N y x d v) fun E=>bif !E then some ([]:Z6)else oB (i_QueryOk_m N C w t z B u) fun D=>bif !D then some ([]:Z6)else iter (fun A (c,n,j,a,o,k,m,h,e,p,r,i,f,q)=>bif decide (a<j)then oB (idx n a) fun b=>(oB (i_scorer_score_m N N ((r,i),f,q) o k m h e p b.1 b.2.1 b.2.2) fun l=>bif decide ((0:Int)<l)then if room c.length ([(b.1,l)]:Z6).length 16 then if fits (a+1)then A ((c++([(b.1,l)]:Z6)),n,j,(a+1),o,k,m,h,e,p,r,i,f,q)else none else none else if fits (a+1)then A (c,n,j,(a+1),o,k,m,h,e,p,r,i,f,q)else none)else some c) N (([]:Z6),d,(d.length:Int),(0:Int),C,w,t,z,B,u,y,x,d,v))
theorem jBc :mK 54 (bX [.agg [.pv (.sl .str),.pv Y20],.agg [.pv Y4,.pv Y6],.agg [pI,pS,.pv (.sl .str),pI,pI,.pv (.sl .q)]] [.own 1 Y18 93 true] (c10A (i_scores_m N))):=
 mO (fC (joa N) (fC (jCN N) (fC (jzy N N) ja))) func54 rfl N (.seq .no (.seq .no (.seq .no (.seq .no (.seq (.seq .no (.block (.loop jBM .no))) .no))))) _
def cmp454 (N:Nat):(Unit)->(Int×Int)->(Int×Int)->Option Int:=(fun(cmp:Unit) (e e2:Int×Int)=>i_hitOrder_m N e.1 e.2 e2.1 e2.2)
def jwq :Sh:=⟨.mtk 800000 Y18 93 true::pI::pI:: .clo 128 []::dz 4 (pI::dz 44 []),[]⟩
def jwI :Sh:=⟨.mtk 800000 Y18 93 true::pI::pI:: .clo 128 []::dz 4 (pI::pI::dz 43 []),[]⟩
def jvU (a:Z6) (c:Int) (d:Int) (b:Unit):Option (Z11):=insG (cmp454 N) N a c d b
 
theorem jwF :mK 271 (bX [.mtk 800000 Y18 93 true,pI,pI,.clo 128 []] [.tup [],.mtk 800000 Y18 93 true] (c4A (jvU N))):=
 mO (fC (jvi N) ja) func271 rfl N (.seq .no (.block (.loop jwq (.seq .no (.seq (.block (.seq .no (.block (.loop jwI .no)))) .no))))) _ (rs:=[800000])
def jv5 :Sh:=⟨.mtk 800000 Y18 93 true:: .dead::pI::pI:: .clo 128 []::dz 5 (pI::dz 71 []),[]⟩
def jwh :Sh:=⟨.mtk 800000 Y18 93 true:: .dead::pI::pI:: .clo 128 []::dz 5 (pI::pI::dz 70 []),[]⟩
def jvp (a:Z6) (e:Int) (b:Int) (c:Int) (d:Unit):Option (Z11):=siftG (cmp454 N) N a e b c d
 
theorem jwd :mK 314 (bX [.mtk 800000 Y18 93 true,pI,pI,pI,.clo 128 []] [.tup [],.mtk 800000 Y18 93 true] (c5A (jvp N))):=
 mO (fC (jvi N) ja) func314 rfl N (.seq .no (.block (.loop jv5 (.block (.seq .no (.seq .no (.meet jwh .no .no))))))) _ (rs:=[800000])
def jwy :Sh:=⟨.mtk 800000 Y18 93 true:: .dead:: .dead:: .clo 128 []::dz 4 (pI::pI::pI::pI::dz 48 []),[]⟩
def jwM :Sh:=⟨.mtk 800000 Y18 93 true:: .dead:: .dead:: .clo 128 []::dz 4 (pI::pI:: .dead:: .dead::pI::dz 47 []),[]⟩
def jvj (a:Z6) (c:Int) (d:Int) (b:Unit):Option (Z11):=heapG (cmp454 N) N a c d b
 
theorem jwr :mK 272 (bX [.mtk 800000 Y18 93 true,pI,pI,.clo 128 []] [.tup [],.mtk 800000 Y18 93 true] (c4A (jvj N))):=
 mO (fC (jwd N) ja) func272 rfl N (.seq .no (.seq .no (.seq .no (.seq (.seq .no (.block (.loop jwy .no))) (.seq .no (.block (.loop jwM .no))))))) _ (rs:=[800000])
def jw2 :Sh:=⟨.mtk 800000 Y18 93 true::pI::dz 6 (pI:: .box 9 0:: .pv (.int .u64)::pI::dz 55 []),[(9,false,[.pv (.int .u64)])]⟩
def jw5 :Sh:=⟨.mtk 800000 Y18 93 true::pI::dz 6 (pI:: .box 9 0:: .pv (.int .u64)::pI::pI::dz 54 []),[(9,false,[.pv (.int .u64)])]⟩
def jvw (a:Z6) (c:Int) (d:Int) (b:Unit):Option (Z11):=breakG N a c d b
 
theorem jwR :mK 273 (bX [.mtk 800000 Y18 93 true,pI,pI,.clo 128 []] [.tup [],.mtk 800000 Y18 93 true] (c4A (jvw N))):=
 mO (fC (jhv N) (fC (jet N) ja)) func273 rfl N (.seq .no (.seq .no (.cond (.seq .no (.seq .no (.seq .no (.block (.loop jw2 (.seq .no (.seq (.block (.seq .no (.meet jw5 .no .no))) .no))))))) .no))) _ (rs:=[800000])
def jvl (a:Z6) (c:Int) (d:Int) (b:Unit) (e:Int):Option (Int×Int×Z11×Int):=order2G (cmp454 N) N a c d b e
 
theorem jwG :mK 338 ⟨⟨[.mtk 800000 Y18 93 true,pI,pI,.box 900003 0,.clo 128 []],[(900003,false,[pI])]⟩,⟨[.tup [pI,pI],.mtk 800000 Y18 93 true],[(900003,false,[pI])]⟩,c5A (jvl N)⟩:=
 mO (fC (jvi N) ja) func338 rfl N .no _ (rs:=[900003,800000])
def jvr (a:Z6) (d:Int) (e:Int) (b:Int) (c:Unit) (f:Int):Option (Int×Z11×Int):=medianG (cmp454 N) N a d e b c f
 
theorem jvO :mK 316 ⟨⟨[.mtk 800000 Y18 93 true,pI,pI,pI,.box 900004 0,.clo 128 []],[(900004,false,[pI])]⟩,⟨[pI,.mtk 800000 Y18 93 true],[(900004,false,[pI])]⟩,c6A (jvr N)⟩:=
 mO (fC (jwG N) ja) func316 rfl N .no _ (rs:=[900004,800000])
def jvm (a:Z6) (c:Int) (b:Unit) (d:Int):Option (Int×Z11×Int):=medianAdjacentG (cmp454 N) N a c b d
 
theorem jwj :mK 315 ⟨⟨[.mtk 800000 Y18 93 true,pI,.box 900002 0,.clo 128 []],[(900002,false,[pI])]⟩,⟨[pI,.mtk 800000 Y18 93 true],[(900002,false,[pI])]⟩,c4A (jvm N)⟩:=
 mO (fC (jvO N) ja) func315 rfl N .no _ (rs:=[900002,800000])
def jwt :Sh:=⟨.mtk 800000 Y18 93 true:: .dead:: .dead:: .clo 128 []::dz 7 (.box 11 0::pI::pI::pI::dz 48 []),[(11,false,[pI])]⟩
def jwK :Sh:=⟨.mtk 800000 Y18 93 true::dz 10 (.box 11 0:: .dead::pI::dz 49 []),[(11,false,[pI])]⟩
def jvA (a:Z6) (c:Int) (d:Int) (b:Unit):Option (Int×Int×Z11):=choosePivotG (cmp454 N) N a c d b
 
theorem jwf :mK 274 (bX [.mtk 800000 Y18 93 true,pI,pI,.clo 128 []] [.tup [pI,pI],.mtk 800000 Y18 93 true] (c4A (jvA N))):=
 mO (fC (jwj N) (fC (jvO N) ja)) func274 rfl N (.seq .no (.seq .no (.seq .no (.seq .no (.seq .no (.seq .no (.meet jwK (.seq .no (.cond (.meet jwt .no .no) .no)) .no))))))) _ (rs:=[800000])
def jv2 :Sh:=⟨.mtk 800000 Y18 93 true::dz 7 (pI::pI::dz 24 []),[]⟩
def jvJ (a:Z6) (c:Int) (d:Int) (b:Unit):Option (Z11):=reverseRangeG N a c d b
 
theorem jwz :mK 275 (bX [.mtk 800000 Y18 93 true,pI,pI,.clo 128 []] [.tup [],.mtk 800000 Y18 93 true] (c4A (jvJ N))):=
 mO ja func275 rfl N (.seq .no (.seq .no (.block (.loop jv2 .no)))) _ (rs:=[800000])
def jw7 :Sh:=⟨.mtk 800000 Y18 93 true::pI::pI:: .clo 128 []::dz 5 (pI::pI::dz 130 []),[]⟩
def jwp :Sh:=⟨.mtk 800000 Y18 93 true::pI::pI:: .clo 128 []::dz 5 (pI::pI::pI::dz 129 []),[]⟩
def jwY :Sh:=⟨.mtk 800000 Y18 93 true::pI::pI:: .clo 128 []::dz 5 (pI::pI:: .dead::pI::dz 128 []),[]⟩
def jvz (a:Z6) (c:Int) (d:Int) (b:Unit):Option (Bool×Z11):=pisG (cmp454 N) N a c d b
 
theorem jw4 :mK 276 (bX [.mtk 800000 Y18 93 true,pI,pI,.clo 128 []] [pB,.mtk 800000 Y18 93 true] (c4A (jvz N))):=
 mO (fC (jvi N) ja) func276 rfl N (.seq .no (.seq .no (.seq (.seq .no (.block (.loop jw7 (.seq .no (.seq (.block (.seq (.block (.loop jw7 .no)) (.seq .no (.seq .no (.seq .no (.meet jw7 (.seq .no (.cond (.seq .no (.block (.loop jwp .no))) .no)) (.seq .no (.cond (.seq .no (.block (.loop jwY .no))) .no)))))))) .no))))) .no))) _ (rs:=[800000])
def jws :Sh:=⟨.mtk 800000 Y18 93 true::pI:: .dead:: .dead:: .clo 128 []::dz 6 (pI::pI::dz 77 []),[]⟩
def jvo (a:Z6) (c:Int) (d:Int) (e:Int) (b:Unit):Option (Int×Z11):=peqG (cmp454 N) N a c d e b
 
theorem jwA :mK 277 (bX [.mtk 800000 Y18 93 true,pI,pI,pI,.clo 128 []] [pI,.mtk 800000 Y18 93 true] (c5A (jvo N))):=
 mO (fC (jvi N) ja) func277 rfl N (.seq .no (.seq .no (.seq .no (.seq (.block (.loop jws (.block (.seq (.block (.loop jws .no)) (.seq (.block (.loop jws .no)) .no))))) .no)))) _ (rs:=[800000])
def jwU :Sh:=⟨.mtk 800000 Y18 93 true::pI:: .dead:: .dead:: .clo 128 []::dz 7 (pI::pI::dz 164 []),[]⟩
def jvs (a:Z6) (c:Int) (d:Int) (e:Int) (b:Unit):Option (Int×Bool×Z11):=partG (cmp454 N) N a c d e b
 
theorem jv9 :mK 278 (bX [.mtk 800000 Y18 93 true,pI,pI,pI,.clo 128 []] [.tup [pI,pB],.mtk 800000 Y18 93 true] (c5A (jvs N))):=
 mO (fC (jvi N) ja) func278 rfl N (.seq .no (.seq .no (.seq .no (.seq (.block (.loop jwU .no)) (.seq (.block (.loop jwU .no)) (.seq .no (.seq .no (.seq .no (.seq .no (.seq (.block (.loop jwU (.block (.seq (.block (.loop jwU .no)) (.seq (.block (.loop jwU .no)) .no))))) .no)))))))))) _ (rs:=[800000])
def jwT :Sh:=⟨.mtk 800000 Y18 93 true::pI::pI::pI:: .clo 128 []::dz 5 (pB::pB::dz 136 []),[]⟩
def jwO :Sh:=⟨.mtk 800000 Y18 93 true::pI::pI::pI:: .clo 128 []::dz 5 (pB::pB::pI::pI::dz 134 []),[]⟩
def jwP :Sh:=⟨.mtk 800000 Y18 93 true::pI::pI::pI:: .clo 128 []::dz 5 (pB::pB::pI::pI::pI::dz 133 []),[]⟩
def jwn :Sh:=⟨.mtk 800000 Y18 93 true::pI::pI::pI:: .clo 128 []::dz 5 (pB::pB::pI::dz 135 []),[]⟩
def jvh (N D:Nat) (h:Z6) (a b limit:Int) (e:Unit):Option (Z11):=pdqG (cmp454 N) (fun c a b d=>heapG (cmp454 N) N c a b d) (fun c a b f d=>peqG (cmp454 N) N c a b f d) N D h a b limit e
 
def jvn (N D:Nat):Model:=⟨⟨[.mtk 800000 Y18 93 true,pI,pI,pI,.clo 128 []],[]⟩,⟨[.tup [],.mtk 800000 Y18 93 true],[]⟩,c5A (jvh N D)⟩
theorem jwv (N D:Nat) (ih:mK 197 (jvn N D)):mK 197 (jvn N (D+1)):=
 mO (fC ih (fC (jwF N) (fC (jwr N) (fC (jwR N) (fC (jwf N) (fC (jwz N) (fC (jw4 N) (fC (jvi N) (fC (jwA N) (fC (jv9 N) ja)))))))))) func197 rfl N (.seq .no (.seq .no (.block (.loop jwT (.block (.seq .no (.seq .no (.seq .no (.meet jwn .no (.seq .no (.meet jwP .no (.meet jwO .no .no)))))))))))) (jvn N (D+1)) (rs:=[800000])
theorem jvI (N:Nat):∀D,mK 197 (jvn N D)
 |0=>modelOk_none ⟨_,func197,by decide,by kernel_rfl⟩ _ (fun a=>rfl)
 |D+1=>jwv N D (jvI N D)
def k_slices_SortFunc_454_m (a:Z6) (d:Unit):Option (Z11):=
 (oB (k_math_bits_Len_m N (IntKind.u64.wrap (a.length:Int))) fun c=>oB (jvh N N a 0 (a.length:Int) c ()) fun b=>some b)
theorem jwX :mK 127 (bX [.mtk 800000 Y18 93 true,.clo 128 []] [.tup [],.mtk 800000 Y18 93 true] (c2A (k_slices_SortFunc_454_m N))):=
 mO (fC (jda N) (fC (jvI N N) ja)) func127 rfl N .no _ (rs:=[800000])
def i_firstHits_m (d:Z6) (c:Int):Option (Z11):=
 (if room ([]:Z6).length d.length 16 then oB (k_slices_SortFunc_454_m N (([]:Z6)++d) ()) fun a=>(oB (cut a 0 (if c<(a.length:Int)then c else(a.length:Int))) fun b=>if room ([]:Z6).length b.length 16 then some (([]:Z6)++b)else none)else none)
theorem jv7 :mK 53 (bX [.pv Y17,pI] [.own 1 Y18 93 true] (c2A (i_firstHits_m N))):=
 mO (fC (jwX N) ja) func53 rfl N .no _ (wr:=[6,8,11,17,18])
def i_TopOf_m (d:List Z2) (m:List Z5) (j:List Z0) (i:List Z1) (o:Int) (k:List UInt8) (c:List Z2) (f:Int) (l:Int) (h:List DQ) (a:Int):Option (Z11):=
 (oB (i_within_m N a 1 16) fun e=>bif !e then some ([]:Z6)else oB (i_scores_m N d m j i o k c f l h) fun b=>oB (i_firstHits_m N b a) fun n=>some n)
theorem jCZ :mK 11 (bX [.agg [.pv (.sl .str),.pv Y20],.agg [.pv Y4,.pv Y6],.agg [pI,pS,.pv (.sl .str),pI,pI,.pv (.sl .q)],pI] [.own 1 Y18 93 true] (c11A (i_TopOf_m N))):=
 mO (fC (jY N) (fC (jBc N) (fC (jv7 N) ja))) func11 rfl N .no _
def i_IndexTop_m (b:List Z2) (a:List Z5) (h:List Z3) (l:Int) (f:List UInt8) (c:List Z2) (j:Int) (k:Int) (d:List DQ) (e:Int):Option (Z11):=
 (oB (i_IndexOk_m N b a h) fun q=>bif !q then some ([]:Z6)else oB (i_QueryOk_m N l f c j k d) fun p=>bif !p then some ([]:Z6)else oB (i_within_m N e 1 16) fun o=>bif !o then some ([]:Z6)else oB (i_allAlive_m N h) fun n=>oB (i_SegOf_m N b a n) fun i=>oB (i_TopOf_m N b a i.1 i.2 l f c j k d e) fun m=>some m)
theorem jIR :mK 7 (bX [.agg [.pv (.sl .str),.pv Y20,.pv Y1],.agg [pI,pS,.pv (.sl .str),pI,pI,.pv (.sl .q)],pI] [.own 1 Y18 93 true] (c10A (i_IndexTop_m N))):=
 mO (fC (jIr N) (fC (jCN N) (fC (jY N) (fC (jHR N) (fC (jqC N) (fC (jCZ N) ja)))))) func7 rfl N .no _
def jPn :Sh:=⟨.dead:: .dead::pI:: .dead:: .box 4 0::dz 3 (.box 8 0:: .own 56 Y13 128 true::dz 52 []),[(4,false,[pI,pI,.pv Y11]),(8,false,[pI,pI,.nils])]⟩
def i_CachePut_m (a:Int) (b:Int) (c:List Z4) (e:List UInt8) (f:Int) (d:Z6):Option (Int×Int×(List Z4)):=
 (oB (i_CacheOk_m N a b c) fun q=>bif !q then some (0,0,([]:List Z4))else bif decide (e=([]:List UInt8))then oB (i_Cache_without_m N a b c ([]:List UInt8)) fun p=>(some (a,b,p))else oB (i_within_m N f 0 999999999) fun n=>bif !n then oB (i_Cache_without_m N a b c ([]:List UInt8)) fun m=>(some (a,b,m))else oB (i_HitsOk_m N d) fun o=>bif !o then oB (i_Cache_without_m N a b c ([]:List UInt8)) fun l=>(some (a,b,l))else if room ([]:Z6).length d.length 16 then meet (fun(t:Int×(List Z4)×Int×Int×(List Z4)×Int×Int)=>match t with|(k,u,r,v,y,x,w)=>some (r,k,u)) fun j=>(bif decide (f=b)then oB (i_Cache_without_m N a b c e) fun h=>(if fits (a-1)then oB (cut h 0 (if(a-1)<(h.length:Int)then a-1 else(h.length:Int))) fun i=>(if room ([(e,(([]:Z6)++d))]:List Z4).length i.length 40 then j (f,(([(e,(([]:Z6)++d))]:List Z4)++i),a,b,c,0,0)else none)else none)else j (f,([(e,(([]:Z6)++d))]:List Z4),a,b,c,0,0))else none)
theorem jPb :mK 68 (bX [.agg [pI,pI,.pv Y11],pS,pI,.pv Y17] [.agg [pI,pI,.own 1 Y13 128 true]] (c6A (i_CachePut_m N))):=
 mO (fC (jOo N) (fC (jOy N) (fC (jY N) (fC (jwk N) ja)))) func68 rfl N (.seq .no (.seq .no (.seq .no (.seq .no (.meet jPn .no .no))))) _ (wr:=[55])
def i_CacheTop_m (i:Int) (h:Int) (f:List Z4) (q:List Z2) (n:List Z5) (o:List Z3) (d:Int) (m:Int) (e:List UInt8) (b:List Z2) (j:Int) (l:Int) (c:List DQ):Z21:=
 (oB (i_CacheOk_m N i h f) fun w=>bif !w then some (0,0,([]:List Z4),([]:Z6),false)else oB (i_IndexOk_m N q n o) fun v=>bif !v then some (0,0,([]:List Z4),([]:Z6),false)else oB (i_QueryOk_m N m e b j l c) fun u=>bif !u then some (0,0,([]:List Z4),([]:Z6),false)else oB (i_within_m N d 0 999999999) fun t=>bif !t then some (0,0,([]:List Z4),([]:Z6),false)else oB (i_QueryPut_m N m e b j l c) fun p=>oB (i_CacheGet_m N i h f p d) fun a=>bif a.2.2.2.2 then some (a.1,a.2.1,a.2.2.1,a.2.2.2.1,true)else oB (i_IndexTop_m N q n o m e b j l c 16) fun r=>oB (i_CachePut_m N i h f p d r) fun k=>some (k.1,k.2.1,k.2.2,r,false))
theorem jO9 :mK 15 (bX [.agg [pI,pI,.pv Y11],.agg [.pv (.sl .str),.pv Y20,.pv Y1],pI,.agg [pI,pS,.pv (.sl .str),pI,pI,.pv (.sl .q)]] [.tup [.agg [pI,pI,.own 1 Y13 128 true],.own 2 Y18 93 true,pB]] (c13A (i_CacheTop_m N))):=
 mO (fC (jOo N) (fC (jIr N) (fC (jCN N) (fC (jY N) (fC (jOC N) (fC (jOH N) (fC (jIR N) (fC (jPb N) ja)))))))) func15 rfl N .no _
def jxz (N:Nat) (k:Int) (i:List UInt8) (f:List Z2) (d:Int) (e:Int) (a:List DQ) (j:Bool) (h:Bool) (c:Bool) (b:Bool):Z9:=
 (bif j then bif h then bif c then bif b then some true else(some (decide ((a.length:Int)=0)))else(bif decide (d=0)then bif decide (e=0)then bif b then some true else(some (decide ((a.length:Int)=0)))else(some false)else some false)else(bif decide ((f.length:Int)=0)then bif c then bif b then some true else(some (decide ((a.length:Int)=0)))else(bif decide (d=0)then bif decide (e=0)then bif b then some true else(some (decide ((a.length:Int)=0)))else(some false)else some false)else some false)else bif decide (i=([]:List UInt8))then bif h then bif c then bif b then some true else(some (decide ((a.length:Int)=0)))else(bif decide (d=0)then bif decide (e=0)then bif b then some true else(some (decide ((a.length:Int)=0)))else(some false)else some false)else(bif decide ((f.length:Int)=0)then bif c then bif b then some true else(some (decide ((a.length:Int)=0)))else(bif decide (d=0)then bif decide (e=0)then bif b then some true else(some (decide ((a.length:Int)=0)))else(some false)else some false)else some false)else some false)
theorem jDV :mK 254 (bX [.agg [pI,pS,.pv (.sl .str),pI,pI,.pv (.sl .q)],pB,pB,pB,pB] [pB] (c10A (jxz N))):=
 mO ja func254 rfl N .no _
def jDt :Sh:=⟨.pv (.sl .str)::pI::dz 3 (pI::dz 16 []),[]⟩
def jxL (f:List Z2) (h:Int):Z9:=
 (iter (fun j (b,c,a)=>bif decide (a<(b.length:Int))then oB (idx b a) fun k=>(oB (jT N k) fun e=>bif !e then some false else if fits (a+1)then j (b,c,(a+1))else none)else oB (s_l1In_m N (b.length:Int) 1 c) fun d=>some d) N (f,h,(0:Int)))
theorem jDs :mK 255 (bX [.pv (.sl .str),pI] [pB] (c2A (jxL N))):=
 mO (fC (jgp N) (fC (jcL N) ja)) func255 rfl N (.seq .no (.seq (.seq .no (.block (.loop jDt .no))) .no)) _
def jBL :Sh:=⟨pS:: .dead:: .dead::pI::dz 28 [],[]⟩
def jyk (i:List UInt8):Z9:=
 (iter (fun c (b,a)=>bif decide (a<(b.length:Int))then oB (idx b a) fun f=>(bif !decide ((f.toNat:Int)=42)then oB (idx b a) fun k=>(bif !decide ((k.toNat:Int)=63)then if fits (a+1)then oB (cut b a (a+1)) fun e=>(oB (jT N e) fun h=>bif !h then some false else if fits (a+1)then c (b,(a+1))else none)else none else if fits (a+1)then c (b,(a+1))else none)else if fits (a+1)then c (b,(a+1))else none)else oB (s_l1In_m N (b.length:Int) 1 12) fun d=>some d) N (i,(0:Int)))
theorem jC1 :mK 256 (bX [pS] [pB] (c1A (jyk N))):=
 mO (fC (jgp N) (fC (jcL N) ja)) func256 rfl N (.seq .no (.seq (.seq .no (.block (.loop jBL .no))) .no)) _
def jDP :Sh:=⟨.dead:: .box 1 0:: .dead::pI::dz 4 (pI::dz 123 (pB::dz 34 [])),[(1,false,[pI,pS,.pv (.sl .str),pI,pI,.pv (.sl .q)])]⟩
def jyq (a:Int) (c:List UInt8) (b:List Z2) (d:Int) (e:Int) (f:List DQ):Z9:=
 (bif decide (a=1)then oB (jxz N a c b d e f false false false false) fun x=>(some x)else bif decide (a=2)then oB (jxz N a c b d e f true true false false) fun v=>(bif v then oB (jT N c) fun Q=>(bif Q then oB (jxL N b 1) fun r=>(some r)else some false)else some false)else bif decide (a=3)then oB (jxz N a c b d e f true true true false) fun S=>(bif S then oB (jT N c) fun q=>(bif q then oB (jxL N b 4) fun y=>(bif y then bif decide ((1:Int)<b.length)then bif decide (e=0)then oB (s_l1In_m N d 0 5) fun z=>(some z)else(some false)else(some false)else some false)else some false)else some false)else bif decide (a=4)then oB (jxz N a c b d e f true true true false) fun U=>(bif U then oB (jT N c) fun L=>(bif L then oB (jxL N b 1) fun G=>(bif G then bif decide (e=0)then oB (s_l1In_m N d 1 2) fun A=>(some A)else(some false)else some false)else some false)else some false)else bif decide (a=5)then oB (jxz N a c b d e f true true false false) fun T=>(bif T then oB (jT N c) fun V=>(bif V then bif decide ((b.length:Int)=1)then oB (idx b 0) fun R=>(oB (jyk N R) fun u=>bif u then oB (idx b 0) fun W=>(oB (jT N W) fun w=>some (!w))else some false)else(some false)else some false)else some false)else bif decide (a=6)then oB (jxz N a c b d e f true false true false) fun K=>(bif K then oB (jT N c) fun X=>(bif X then oB (s_l1In_m N d 0 999999999) fun O=>(bif O then oB (s_l1In_m N e d 999999999) fun D=>(some D)else some false)else some false)else some false)else meet (fun(B:Int×Int×Bool×Int×Z2×(List Z2)×Int×Int×(List DQ))=>match B with|(m,p,E,k,j,n,i,h,l)=>bif E then oB (jxz N k j n i h l false false false true) fun I=>(bif I then oB (s_l1In_m N m 2 4) fun H=>(some H)else some false)else bif decide (p=9)then oB (jxz N k j n i h l false false false true) fun t=>(bif t then some (decide (m=2))else some false)else bif decide (p=10)then oB (jxz N k j n i h l false false true true) fun C=>(bif C then bif decide (m=1)then bif decide (h=0)then oB (s_l1In_m N i 2 9) fun P=>(some P)else(some false)else(some false)else some false)else some false) fun o=>bif decide (a=7)then o ((f.length:Int),a,true,a,c,b,d,e,f)else o ((f.length:Int),a,(decide (a=8)),a,c,b,d,e,f))
theorem jBO :mK 178 (bX [.agg [pI,pS,.pv (.sl .str),pI,pI,.pv (.sl .q)]] [pB] (c6A (jyq N))):=
 mO (fC (jDV N) (fC (jgp N) (fC (jDs N) (fC (jcL N) (fC (jC1 N) ja))))) func178 rfl N (.seq .no (.seq .no (.seq (.seq .no (.block (.seq .no (.cond .no (.seq .no (.cond .no (.seq .no (.cond .no (.seq .no (.cond .no (.seq .no (.cond .no (.seq .no (.cond .no (.meet jDP .no .no))))))))))))))) .no))) _
def jD7 :Sh:=⟨.dead::pI:: .box 2 0:: .dead:: .dead::pI::dz 23 [],[(2,false,[pI,pS,.pv (.sl .str),pI,pI,.pv (.sl .q)])]⟩
def jxO (N:Nat):(D:Nat)->Int->Z2->(List Z2)->Int->Int->(List DQ)->Int->Z9
 |0,_,_,_,_,_,_,_=>none
 |D+1,q,q2,q3,q4,q5,q6,deep=>
 bif decide (deep=0)then
 some false
 else
 oB (jyq N q q2 q3 q4 q5 q6) fun r=>
 bif !r then
 some false
 else
 iter (fun go (g:Int×Int×Int×Z2×(List Z2)×Int×Int×(List DQ))=>
 match g with
 |(deep2,i,q7,q8,q9,q10,q11,q12)=>
 bif decide (i<(q12.length:Int))then
 oB (idx q12 i) fun e=>
 (if fits (deep2-1)then oB (jxO N D e.kind e.field e.words e.lo e.hi e.kids (deep2-1)) fun r2=>
 (bif !r2 then
 some false
 else
 if fits (i+1)then go (deep2,(i+1),q7,q8,q9,q10,q11,q12)else none)else none)
 else
 some true) N (deep,0,q,q2,q3,q4,q5,q6)
def jx9 (N D:Nat):Model:=⟨⟨[.agg [pI,pS,.pv (.sl .str),pI,pI,.pv (.sl .q)],pI],[]⟩,⟨[pB],[]⟩,c7A (jxO N D)⟩
theorem jBT (N D:Nat) (ih:mK 110 (jx9 N D)):mK 110 (jx9 N (D+1)):=
 mO (fC ih (fC (jBO N) ja)) func110 rfl N (.seq .no (.seq .no (.seq (.seq .no (.block (.loop jD7 .no))) .no))) (jx9 N (D+1))
theorem jzV (N:Nat):∀D,mK 110 (jx9 N D)
 |0=>modelOk_none ⟨_,func110,by decide,by kernel_rfl⟩ _ (fun a=>rfl)
 |D+1=>jBT N D (jzV N D)
def jE5 (h:Int) (e:List UInt8) (b:List Z2) (a:Int) (f:Int) (c:List DQ):Z9:=
 (oB (jxO N N h e b a f c 4) fun d=>some d)
theorem jBX :mK 45 (bX [.agg [pI,pS,.pv (.sl .str),pI,pI,.pv (.sl .q)]] [pB] (c6A (jE5 N))):=
 mO (fC (jzV N N) ja) func45 rfl N .no _
def jO2 :Sh:=⟨.dead::pS::pI:: .box 3 0:: .dead:: .dead:: .box 6 0:: .dead:: .dead:: .box 9 0::pI::dz 55 [],[(3,false,[pI,pI,.pv Y11]),(6,false,[pI,pI,.nils]),(9,false,[pI,pI,.own 700902 Y13 128 true])]⟩
def s_CacheGet_m (k:Int) (i:Int) (h:List Z4) (x:List UInt8) (p:Int):Z21:=
 (oB (s_l24Ok_m N k i h) fun t=>bif !t then some (0,0,([]:List Z4),([]:Z6),false)else oB (s_l24Copy_m N k i h) fun j=>iter (fun w (n,l,b,u,m,z,y,q,d,e,a)=>bif decide (b<(a.length:Int))then bif decide (l=m)then oB (idx a b) fun r=>(bif decide (r.1=n)then oB (idx a b) fun c=>(oB (cut a 0 b) fun f=>if room ([c]:List Z4).length f.length 40 then if fits (b+1)then oB (cut a (b+1) (a.length:Int)) fun o=>(if room (([c]:List Z4)++f).length o.length 40 then if room ([]:Z6).length c.2.length 16 then some (d,e,((([c]:List Z4)++f)++o),(([]:Z6)++c.2),true)else none else none)else none else none)else if fits (b+1)then w (n,l,(b+1),u,m,z,y,q,d,e,a)else none)else(some (d,e,a,([]:Z6),false))else some (d,e,a,([]:Z6),false)) N (x,p,(0:Int),k,i,h,(0:Int),(0:Int),j.1,j.2.1,j.2.2))
theorem jPi :mK 70 (bX [.agg [pI,pI,.pv Y11],pS,pI] [.tup [.agg [pI,pI,.own 1 Y13 128 false],.own 2 Y18 93 true,pB]] (c5A (s_CacheGet_m N))):=
 mO (fC (jOt N) (fC (jOv N) ja)) func70 rfl N (.seq .no (.seq .no (.seq .no (.seq (.seq .no (.block (.loop jO2 .no))) .no)))) _
def s_CacheTop_m (o:Int) (n:Int) (m:List Z4) (f:List Z2) (b:List Z5) (p:List Z3) (l:Int) (j:Int) (e:List UInt8) (c:List Z2) (h:Int) (i:Int) (d:List DQ):Z21:=
 (oB (s_l24Ok_m N o n m) fun y=>bif !y then some (0,0,([]:List Z4),([]:Z6),false)else oB (s_l18Ok_m N f b p) fun x=>bif !x then some (0,0,([]:List Z4),([]:Z6),false)else oB (jE5 N j e c h i d) fun v=>bif !v then some (0,0,([]:List Z4),([]:Z6),false)else oB (s_l1In_m N l 0 999999999) fun t=>bif !t then some (0,0,([]:List Z4),([]:Z6),false)else oB (s_l11Put_m N N j e c h i d) fun w=>oB (s_CacheGet_m N o n m w l) fun a=>bif a.2.2.2.2 then some (a.1,a.2.1,a.2.2.1,a.2.2.2.1,true)else oB (s_l18Docs_m N f b p) fun z=>oB (s_l7Of_m N f b z) fun r=>oB (s_l13Top_m N f b r.1 r.2 j e c h i d 16) fun q=>oB (s_l11Put_m N N j e c h i d) fun u=>oB (s_CachePut_m N o n m u l q) fun k=>some (k.1,k.2.1,k.2.2,q,false))
theorem jOS :mK 16 (bX [.agg [pI,pI,.pv Y11],.agg [.pv (.sl .str),.pv Y20,.pv Y1],pI,.agg [pI,pS,.pv (.sl .str),pI,pI,.pv (.sl .q)]] [.tup [.agg [pI,pI,.own 1 Y13 128 false],.own 2 Y18 93 true,pB]] (c13A (s_CacheTop_m N))):=
 mO (fC (jOt N) (fC (jIW N) (fC (jBX N) (fC (jcL N) (fC (jOu N N) (fC (jPi N) (fC (jH3 N) (fC (jmU N) (fC (jBA N) (fC (jOw N) ja)))))))))) func16 rfl N .no _
def jxa :Sh:=⟨.pv Y17:: .pv Y17::dz 3 (pI::dz 20 []),[]⟩
def l_foHits_m (c:Z6) (f:Z6):Z9:=
 (bif !decide ((c.length:Int)=(f.length:Int))then some false else iter (fun j (b,d,a)=>bif decide (a<(b.length:Int))then oB (idx b a) fun h=>(oB (idx d a) fun e=>bif !((decide (h.1=e.1))&&(decide (h.2=e.2)))then some false else if fits (a+1)then j (b,d,(a+1))else none)else some true) N (c,f,(0:Int)))
theorem jwb :mK 8 (bX [.pv Y17,.pv Y17] [pB] (c2A (l_foHits_m N))):=
 mO ja func8 rfl N (.seq .no (.seq .no (.seq (.seq .no (.block (.loop jxa .no))) .no))) _
def jPk :Sh:=⟨.pv Y11:: .pv Y11::dz 3 (pI::dz 36 []),[]⟩
def l_foItems_m (d:List Z4) (e:List Z4):Z9:=
 (bif !decide ((d.length:Int)=(e.length:Int))then some false else iter (fun k (b,c,a)=>bif decide (a<(b.length:Int))then oB (idx b a) fun m=>(oB (idx c a) fun l=>bif !decide (m.1=l.1)then some false else oB (idx b a) fun f=>oB (idx c a) fun j=>oB (l_foHits_m N f.2 j.2) fun h=>bif !h then some false else if fits (a+1)then k (b,c,(a+1))else none)else some true) N (d,e,(0:Int)))
theorem jO8 :mK 71 (bX [.pv Y11,.pv Y11] [pB] (c2A (l_foItems_m N))):=
 mO (fC (jwb N) ja) func71 rfl N (.seq .no (.seq .no (.seq (.seq .no (.block (.loop jPk .no))) .no))) _
def l_foCache_m (d:Int) (f:Int) (c:List Z4) (h:Int) (e:Int) (b:List Z4):Z9:=
 (bif decide (d=h)then bif decide (f=e)then oB (l_foItems_m N c b) fun a=>(some a)else(some false)else some false)
theorem jOK :mK 17 (bX [.agg [pI,pI,.pv Y11],.agg [pI,pI,.pv Y11]] [pB] (c6A (l_foCache_m N))):=
 mO (fC (jO8 N) ja) func17 rfl N .no _
def l_FnCacheTop_m (e:List Int):Z9:=
 (bif decide ((1048576:Int)<e.length)then some true else oB (s_DrawCacheTop_m N e) fun a=>oB (i_CacheTop_m N a.1 a.2.1 a.2.2.1 a.2.2.2.1 a.2.2.2.2.1 a.2.2.2.2.2.1 a.2.2.2.2.2.2.1 a.2.2.2.2.2.2.2.1 a.2.2.2.2.2.2.2.2.1 a.2.2.2.2.2.2.2.2.2.1 a.2.2.2.2.2.2.2.2.2.2.1 a.2.2.2.2.2.2.2.2.2.2.2 ([]:List DQ)) fun b=>oB (s_CacheTop_m N a.1 a.2.1 a.2.2.1 a.2.2.2.1 a.2.2.2.2.1 a.2.2.2.2.2.1 a.2.2.2.2.2.2.1 a.2.2.2.2.2.2.2.1 a.2.2.2.2.2.2.2.2.1 a.2.2.2.2.2.2.2.2.2.1 a.2.2.2.2.2.2.2.2.2.2.1 a.2.2.2.2.2.2.2.2.2.2.2 ([]:List DQ)) fun c=>bif !(b.2.2.2.2==c.2.2.2.2)then bif b.2.2.2.2==c.2.2.2.2 then oB (l_foCache_m N b.1 b.2.1 b.2.2.1 c.1 c.2.1 c.2.2.1) fun l=>(bif l then oB (l_foHits_m N b.2.2.2.1 c.2.2.2.1) fun r=>(some r)else some false)else(some false)else oB (l_foCache_m N b.1 b.2.1 b.2.2.1 c.1 c.2.1 c.2.2.1) fun k=>bif !k then bif b.2.2.2.2==c.2.2.2.2 then oB (l_foCache_m N b.1 b.2.1 b.2.2.1 c.1 c.2.1 c.2.2.1) fun y=>(bif y then oB (l_foHits_m N b.2.2.2.1 c.2.2.2.1) fun z=>(some z)else some false)else(some false)else oB (l_foHits_m N b.2.2.2.1 c.2.2.2.1) fun v=>bif !v then bif b.2.2.2.2==c.2.2.2.2 then oB (l_foCache_m N b.1 b.2.1 b.2.2.1 c.1 c.2.1 c.2.2.1) fun n=>(bif n then oB (l_foHits_m N b.2.2.2.1 c.2.2.2.1) fun f=>(some f)else some false)else(some false)else oB (i_IndexOk_m N a.2.2.2.1 a.2.2.2.2.1 a.2.2.2.2.2.1) fun A=>bif !A then bif b.2.2.2.2==c.2.2.2.2 then oB (l_foCache_m N b.1 b.2.1 b.2.2.1 c.1 c.2.1 c.2.2.1) fun t=>(bif t then oB (l_foHits_m N b.2.2.2.1 c.2.2.2.1) fun D=>(some D)else some false)else(some false)else oB (i_QueryOk_m N a.2.2.2.2.2.2.2.1 a.2.2.2.2.2.2.2.2.1 a.2.2.2.2.2.2.2.2.2.1 a.2.2.2.2.2.2.2.2.2.2.1 a.2.2.2.2.2.2.2.2.2.2.2 ([]:List DQ)) fun q=>bif !q then bif b.2.2.2.2==c.2.2.2.2 then oB (l_foCache_m N b.1 b.2.1 b.2.2.1 c.1 c.2.1 c.2.2.1) fun u=>(bif u then oB (l_foHits_m N b.2.2.2.1 c.2.2.2.1) fun j=>(some j)else some false)else(some false)else oB (i_CacheOk_m N a.1 a.2.1 a.2.2.1) fun E=>bif !E then bif b.2.2.2.2==c.2.2.2.2 then oB (l_foCache_m N b.1 b.2.1 b.2.2.1 c.1 c.2.1 c.2.2.1) fun o=>(bif o then oB (l_foHits_m N b.2.2.2.1 c.2.2.2.1) fun C=>(some C)else some false)else(some false)else oB (i_CacheTop_m N b.1 b.2.1 b.2.2.1 a.2.2.2.1 a.2.2.2.2.1 a.2.2.2.2.2.1 a.2.2.2.2.2.2.1 a.2.2.2.2.2.2.2.1 a.2.2.2.2.2.2.2.2.1 a.2.2.2.2.2.2.2.2.2.1 a.2.2.2.2.2.2.2.2.2.2.1 a.2.2.2.2.2.2.2.2.2.2.2 ([]:List DQ)) fun d=>oB (i_QueryPut_m N a.2.2.2.2.2.2.2.1 a.2.2.2.2.2.2.2.2.1 a.2.2.2.2.2.2.2.2.2.1 a.2.2.2.2.2.2.2.2.2.2.1 a.2.2.2.2.2.2.2.2.2.2.2 ([]:List DQ)) fun i=>oB (i_CacheGet_m N a.1 a.2.1 a.2.2.1 i a.2.2.2.2.2.2.1) fun m=>oB (i_CacheOk_m N b.1 b.2.1 b.2.2.1) fun B=>bif B then bif b.2.2.2.2==m.2.2.2.2 then bif d.2.2.2.2 then oB (l_foHits_m N d.2.2.2.1 b.2.2.2.1) fun p=>(bif p then oB (l_foCache_m N d.1 d.2.1 d.2.2.1 b.1 b.2.1 b.2.2.1) fun h=>(bif h then bif b.2.2.2.2 then some true else(oB (i_IndexTop_m N a.2.2.2.1 a.2.2.2.2.1 a.2.2.2.2.2.1 a.2.2.2.2.2.2.2.1 a.2.2.2.2.2.2.2.2.1 a.2.2.2.2.2.2.2.2.2.1 a.2.2.2.2.2.2.2.2.2.2.1 a.2.2.2.2.2.2.2.2.2.2.2 ([]:List DQ) 16) fun x=>oB (l_foHits_m N b.2.2.2.1 x) fun w=>some w)else some false)else some false)else(some false)else(some false)else some false)
def jOD (N:Nat):Model:=⟨⟨[.pv (.sl (.int .u8))],[]⟩,⟨[pB],[]⟩,c1A (l_FnCacheTop_m N)⟩
theorem jPj :mK 4 (jOD N):=
 mO (fC (jOQ N) (fC (jO9 N) (fC (jOS N) (fC (jOK N) (fC (jwb N) (fC (jIr N) (fC (jCN N) (fC (jOo N) (fC (jOC N) (fC (jOH N) (fC (jIR N) ja))))))))))) func4 rfl N .no (jOD N)
end Go.Proofs.YtabhgjdikeipdaaGreatDoor
