import Derived.Test.YtibcadmdkehmhaaGreatQA
set_option linter.unusedVariables false
set_option linter.unusedSimpArgs false
namespace Go.Proofs.YtibcadmdkehmhaaGreat
open Go.RowKit
section
variable {Y ρ : Type} (c : Y -> Y -> Option Bool)
def cmpGO (d:List Y) (i j:Int) (k:Bool->Option ρ):Option ρ:=
 if 0<=i/\i<(d.length:Int)then Option.bind (d[i.toNat]?) fun e=>if 0<=j/\j<(d.length:Int)then Option.bind (d[j.toNat]?) fun e2=>Option.bind (c e e2) k else none else none
def cmpPO (d:List Y) (j:Int) (k:Bool->Option ρ):Option ρ:=
 if 0<=j/\j<(d.length:Int)then Option.bind (d[j.toNat]?) fun e=>if fits (j-1)then if 0<=(j-1)/\(j-1)<(d.length:Int)then Option.bind (d[(j-1).toNat]?) fun e2=>Option.bind (c e e2) k else none else none else none
def insO (N:Nat) (d:List Y) (a b:Int):Option (List Y):=
 if fits (a+1)then iter (fun(go:(List Y×Int×Int×Int)->Option (List Y)) (g:List Y×Int×Int×Int)=>
  match g with
  |(d2,a2,b2,i)=>
  bif decide (i<b2)then
   iter (fun(go2:(List Y×Int×Int×Int×Int)->Option (List Y)) (g:List Y×Int×Int×Int×Int)=>
    match g with
    |(d3,a3,b3,i2,j)=>
    bif decide (a3<j)then cmpPO c d3 j fun r=>bif r then swpP d3 j fun d=>if fits (j-1)then go2 (d,a3,b3,i2,j-1)else none
     else if fits (i2+1)then go (d3,a3,b3,i2+1)else none
    else if fits (i2+1)then go (d3,a3,b3,i2+1)else none) N (d2,a2,b2,i,i)
  else some d2) N (d,a,b,a+1)else none
def siftO (N:Nat) (data:List Y) (lo:Int) (hi:Int) (first:Int):Option ((List Y)):=
 (iter (fun(go:((List Y)×Int×Int×Int)->Option ((List Y))) (g:(List Y)×Int×Int×Int)=>
   match g with
   |(data2,hi2,first2,root)=>
   (if fits (2*root)then(if fits ((2*root)+1)then(bif(decide (hi2<=((2*root)+1)))then
      (some data2)
      else
      (meet (fun(g:(List Y)×Int×Int×Int×Int)=>
        match g with
        |(data3,hi3,first3,root2,child)=>
        (if fits (first3+root2)then(if 0<=(first3+root2)/\(first3+root2)<(data3.length:Int)then
          (Option.bind (data3[(first3+root2).toNat]?) fun(e3:Y)=>
           (if fits (first3+child)then(if 0<=(first3+child)/\(first3+child)<(data3.length:Int)then
             (Option.bind (data3[(first3+child).toNat]?) fun(e4:Y)=>
              (Option.bind (c e3 e4) fun(r2:Bool)=>
               (bif(!(r2))then
                (some data3)
                else
                (if fits (first3+root2)then(if fits (first3+child)then(if fits (first3+child)then(if 0<=(first3+child)/\(first3+child)<(data3.length:Int)then
                    (Option.bind (data3[(first3+child).toNat]?) fun(e5:Y)=>
                     (if fits (first3+root2)then(if 0<=(first3+root2)/\(first3+root2)<(data3.length:Int)then
                       (Option.bind (data3[(first3+root2).toNat]?) fun(e6:Y)=>
                        (if 0<=(first3+root2)/\(first3+root2)<(data3.length:Int)then
                         (Option.bind (data3[(first3+root2).toNat]?) fun(e7:Y)=>
                          (if 0<=(first3+child)/\(first3+child)<((data3.set (first3+root2).toNat e5).length:Int)then
                           (Option.bind ((data3.set (first3+root2).toNat e5)[(first3+child).toNat]?) fun(e8:Y)=>
                            (go (((data3.set (first3+root2).toNat e5).set (first3+child).toNat e6),hi3,first3,child)))
                           else none))
                         else none))
                       else none)else none))
                    else none)else none)else none)else none))))
             else none)else none))
          else none)else none)) fun(J:((List Y)×Int×Int×Int×Int)->Option ((List Y)))=>
       (if fits (((2*root)+1)+1)then(bif(decide ((((2*root)+1)+1)<hi2))then
         (if fits (first2+((2*root)+1))then(if 0<=(first2+((2*root)+1))/\(first2+((2*root)+1))<(data2.length:Int)then
           (Option.bind (data2[(first2+((2*root)+1)).toNat]?) fun(e:Y)=>
            (if fits (first2+((2*root)+1))then(if fits ((first2+((2*root)+1))+1)then(if 0<=((first2+((2*root)+1))+1)/\((first2+((2*root)+1))+1)<(data2.length:Int)then
               (Option.bind (data2[((first2+((2*root)+1))+1).toNat]?) fun(e2:Y)=>
                (Option.bind (c e e2) fun(r:Bool)=>
                 (bif(r)then
                  (if fits (((2*root)+1)+1)then(J (data2,hi2,first2,root,(((2*root)+1)+1)))else none)
                  else
                  (J (data2,hi2,first2,root,((2*root)+1))))))
               else none)else none)else none))
           else none)else none)
         else
         (J (data2,hi2,first2,root,((2*root)+1))))else none)))else none)else none)) N (data,hi,first,lo))
def heapO (N:Nat) (data:List Y) (a:Int) (b:Int):Option ((List Y)):=
 (if fits (b-a)then(if fits ((b-a)-1)then(if 2≠0 then
    (if fits (((b-a)-1).tdiv 2)then(iter (fun(go:((List Y)×Int×Int×Int×Int)->Option ((List Y))) (g:(List Y)×Int×Int×Int×Int)=>
       match g with
       |(data2,first,lo,hi,i)=>
       (bif(decide ((0:Int)<=i))then
        (Option.bind (siftO c N data2 i hi first) fun(r:(List Y))=>
         (if fits (i-1)then(go (r,first,lo,hi,(i-1)))else none))
        else
        (if fits (hi-1)then(iter (fun(go2:((List Y)×Int×Int×Int)->Option ((List Y))) (g:(List Y)×Int×Int×Int)=>
           match g with
           |(data3,first2,lo2,i2)=>
           (bif(decide ((0:Int)<=i2))then
            (if fits (first2+i2)then(if fits (first2+i2)then swpG data3 first2 (first2+i2) fun d=>(Option.bind (siftO c N d lo2 i2 first2) fun(r2:(List Y))=>
                       (if fits (i2-1)then(go2 (r2,first2,lo2,(i2-1)))else none))else none)else none)
            else
            (some data3))) N (data2,first,lo,(hi-1)))else none))) N (data,a,0,(b-a),(((b-a)-1).tdiv 2)))else none)
    else none)else none)else none)
def breakO (N:Nat) (data:List Y) (a:Int) (b:Int):Option (List Y):=
 (if fits (b-a)then(bif(decide ((8:Int)<=(b-a)))then
   (Option.bind (k_slices_nextPowerOfTwo_m N (b-a)) fun(r:Int)=>
    (if 4≠0 then
     (if fits ((b-a).tdiv 4)then(if fits (((b-a).tdiv 4)*2)then(if fits (a+(((b-a).tdiv 4)*2))then(if fits ((a+(((b-a).tdiv 4)*2))-1)then(iter (fun(go:((List Y)×Int×Int×Int×Int×Int)->Option ((List Y))) (g:(List Y)×Int×Int×Int×Int×Int)=>
           match g with
           |(data2,a2,length,modulus,idx0,random)=>
           (if 4≠0 then
            (if fits (length.tdiv 4)then(if fits ((length.tdiv 4)*2)then(if fits (a2+((length.tdiv 4)*2))then(if fits ((a2+((length.tdiv 4)*2))+1)then(bif(decide (idx0<=((a2+((length.tdiv 4)*2))+1)))then
                 (Option.bind (k__slices_xorshift_Next_m N random) fun(r2:Int×Int)=>
                  (meet (fun(g:(List Y)×Int×Int×Int×Int×Int×Int)=>
                    match g with
                    |(data3,a3,length2,modulus2,idx02,other,random2)=>
                    (if fits (a3+other)then(if fits (a3+other)then swpG data3 idx02 (a3+other) fun d=>(if fits (idx02+1)then(go (d,a3,length2,modulus2,(idx02+1),random2))else none)else none)else none)) fun(J:((List Y)×Int×Int×Int×Int×Int×Int)->Option ((List Y)))=>
                   (bif(decide (length<=(IntKind.i64.wrap (bitsI .and .u64 r2.1 (IntKind.u64.wrap (modulus-1))))))then
                    (if fits ((IntKind.i64.wrap (bitsI .and .u64 r2.1 (IntKind.u64.wrap (modulus-1))))-length)then(J (data2,a2,length,modulus,idx0,((IntKind.i64.wrap (bitsI .and .u64 r2.1 (IntKind.u64.wrap (modulus-1))))-length),r2.2))else none)
                    else
                    (J (data2,a2,length,modulus,idx0,(IntKind.i64.wrap (bitsI .and .u64 r2.1 (IntKind.u64.wrap (modulus-1)))),r2.2)))))
                 else
                 (some data2))else none)else none)else none)else none)
            else none)) N (data,a,(b-a),r,((a+(((b-a).tdiv 4)*2))-1),(IntKind.u64.wrap (b-a))))else none)else none)else none)else none)
     else none))
   else
   (some data))else none)
def order2O (N:Nat) (data:List Y) (a:Int) (b:Int) (b2:Int):Option (Int×Int×(List Y)×Int):=
 cmpGO c data b a fun r=>(bif(r)then(if fits (b2+1)then(some (b,a,data,(b2+1)))else none)else(some (a,b,data,b2)))
def medianO (N:Nat) (data:List Y) (a:Int) (b:Int) (c0:Int) (b2:Int):Option (Int×(List Y)×Int):=
 (Option.bind (order2O c N data a b b2) fun(r:Int×Int×(List Y)×Int)=>
  (Option.bind (order2O c N r.2.2.1 r.2.1 c0 r.2.2.2) fun(r2:Int×Int×(List Y)×Int)=>
   (Option.bind (order2O c N r2.2.2.1 r.1 r2.1 r2.2.2.2) fun(r3:Int×Int×(List Y)×Int)=>
    (some (r3.2.1,r3.2.2.1,r3.2.2.2)))))
def medianAdjacentO (N:Nat) (data:List Y) (a:Int) (b:Int):Option (Int×(List Y)×Int):=
 (if fits (a-1)then(if fits (a+1)then(Option.bind (medianO c N data (a-1) a (a+1) b) fun(r:Int×(List Y)×Int)=>
    (some (r.1,r.2.1,r.2.2)))else none)else none)
def choosePivotO (N:Nat) (data:List Y) (a:Int) (b:Int):Option (Int×Int×(List Y)):=
 (if fits (b-a)then(if 4≠0 then
   (if fits ((b-a).tdiv 4)then(if fits (((b-a).tdiv 4)*1)then(if fits (a+(((b-a).tdiv 4)*1))then(if 4≠0 then
       (if fits ((b-a).tdiv 4)then(if fits (((b-a).tdiv 4)*2)then(if fits (a+(((b-a).tdiv 4)*2))then(if 4≠0 then
           (if fits ((b-a).tdiv 4)then(if fits (((b-a).tdiv 4)*3)then(if fits (a+(((b-a).tdiv 4)*3))then(meet (fun(g:(List Y)×Int×Int)=>
                match g with
                |(data3,j2,swaps2)=>
                (bif(decide (swaps2=0))then
                 (some (j2,1,data3))
                 else
                 (bif(decide (swaps2=12))then
                  (some (j2,2,data3))
                  else
                  (some (j2,0,data3))))) fun(J:((List Y)×Int×Int)->Option (Int×Int×(List Y)))=>
               (bif(decide ((8:Int)<=(b-a)))then
                (meet (fun(g:(List Y)×Int×Int×Int×Int)=>
                  match g with
                  |(data2,i,j,k,swaps)=>
                  (Option.bind (medianO c N data2 i j k swaps) fun(r4:Int×(List Y)×Int)=>
                   (J (r4.2.1,r4.1,r4.2.2)))) fun(J2:((List Y)×Int×Int×Int×Int)->Option (Int×Int×(List Y)))=>
                 (bif(decide ((50:Int)<=(b-a)))then
                  (Option.bind (medianAdjacentO c N data (a+(((b-a).tdiv 4)*1)) 0) fun(r:Int×(List Y)×Int)=>
                   (Option.bind (medianAdjacentO c N r.2.1 (a+(((b-a).tdiv 4)*2)) r.2.2) fun(r2:Int×(List Y)×Int)=>
                    (Option.bind (medianAdjacentO c N r2.2.1 (a+(((b-a).tdiv 4)*3)) r2.2.2) fun(r3:Int×(List Y)×Int)=>
                     (J2 (r3.2.1,r.1,r2.1,r3.1,r3.2.2)))))
                  else
                  (J2 (data,(a+(((b-a).tdiv 4)*1)),(a+(((b-a).tdiv 4)*2)),(a+(((b-a).tdiv 4)*3)),0))))
                else
                (J (data,(a+(((b-a).tdiv 4)*2)),0))))else none)else none)else none)
           else none)else none)else none)else none)
       else none)else none)else none)else none)
   else none)else none)
def reverseRangeO (N:Nat) (data:List Y) (a:Int) (b:Int):Option ((List Y)):=
 (if fits (b-1)then(iter (fun(go:((List Y)×Int×Int)->Option ((List Y))) (g:(List Y)×Int×Int)=>
    match g with
    |(data2,i,j)=>
    (bif(decide (i<j))then swpG data2 i j fun d=>(if fits (i+1)then(if fits (j-1)then(go (d,(i+1),(j-1)))else none)else none)
     else
     (some data2))) N (data,a,(b-1)))else none)
def shDownO (k:(List Y×Int×Int×Int×Int)->Option ρ) (N:Nat) (g:List Y×Int×Int×Int×Int×Int):Option ρ:=
 iter (fun(go3:((List Y)×Int×Int×Int×Int×Int)->Option ρ) (g:(List Y)×Int×Int×Int×Int×Int)=>
  match g with
  |(d,a,b,i,j,j4)=>
  bif decide ((1:Int)<=j4)then cmpPO c d j4 fun r=>bif !r then k (d,a,b,i,j)else swpP d j4 fun d'=>if fits (j4-1)then go3 (d',a,b,i,j,j4-1)else none
  else k (d,a,b,i,j)) N g
def shUpO (k:(List Y×Int×Int×Int×Int)->Option ρ) (N:Nat) (g:List Y×Int×Int×Int×Int×Int):Option ρ:=
 iter (fun(go4:((List Y)×Int×Int×Int×Int×Int)->Option ρ) (g:(List Y)×Int×Int×Int×Int×Int)=>
  match g with
  |(d,a,b,i,j,j4)=>
  bif decide (j4<b)then cmpPO c d j4 fun r=>bif !r then(if fits (j+1)then k (d,a,b,i,j+1)else none)else swpP d j4 fun d'=>if fits (j4+1)then go4 (d',a,b,i,j,j4+1)else none
  else if fits (j+1)then k (d,a,b,i,j+1)else none) N g
def pisXO (N:Nat) (go:(List Y×Int×Int×Int×Int)->Option (Bool×List Y)) (d:List Y) (a b:Int) (i j:Int):Option (Bool×List Y):=
 bif decide (i=b)then some (true,d)else if fits (b-a)then bif decide ((b-a)<50)then some (false,d)else
  swpP d i fun d'=>meet (fun(g:List Y×Int×Int×Int×Int)=>
   match g with
   |(d5,a5,b5,i4,j5)=>
   if fits (b5-i4)then bif decide ((2:Int)<=(b5-i4))then if fits (i4+1)then shUpO c go N (d5,a5,b5,i4,j5,i4+1)else none
    else(if fits (j5+1)then go (d5,a5,b5,i4,j5+1)else none)else none) fun(J:(List Y×Int×Int×Int×Int)->Option (Bool×List Y))=>
   if fits (i-a)then bif decide ((2:Int)<=(i-a))then if fits (i-1)then shDownO c J N (d',a,b,i,j,i-1)else none else J (d',a,b,i,j)else none
 else none
def pisO (N:Nat) (d:List Y) (a b:Int):Option (Bool×List Y):=
 if fits (a+1)then iter (fun(go:(List Y×Int×Int×Int×Int)->Option (Bool×List Y)) (g:List Y×Int×Int×Int×Int)=>
  match g with
  |(d2,a2,b2,i,j)=>
  bif decide (j<5)then
   iter (fun(go2:(List Y×Int×Int×Int×Int)->Option (Bool×List Y)) (g:List Y×Int×Int×Int×Int)=>
    match g with
    |(d3,a3,b3,i2,j2)=>
    bif decide (i2<b3)then cmpPO c d3 i2 fun r=>bif !r then(if fits (i2+1)then go2 (d3,a3,b3,i2+1,j2)else none)else pisXO c N go d3 a3 b3 i2 j2
    else pisXO c N go d3 a3 b3 i2 j2) N (d2,a2,b2,i,j)
  else some (false,d2)) N (d,a,b,a+1,0)else none
def partEO (go3:(List Y×Int×Int×Int)->Option (Int×Bool×List Y)) (fl:Bool) (g:List Y×Int×Int×Int):Option (Int×Bool×List Y):=
 match g with
 |(d,a,i,j)=>
 bif decide (j<i)then swpG d j a fun d'=>some (j,fl,d')else swpG d i j fun d'=>if fits (i+1)then if fits (j-1)then go3 (d',a,i+1,j-1)else none else none
def partDO (k:(List Y×Int×Int×Int)->Option ρ) (N:Nat) (g:List Y×Int×Int×Int):Option ρ:=
 iter (fun(go:(List Y×Int×Int×Int)->Option ρ) (g:List Y×Int×Int×Int)=>
  match g with
  |(d,a,i,j)=>
  bif decide (i<=j)then cmpGO c d j a fun r=>bif !r then(if fits (j-1)then go (d,a,i,j-1)else none)else k (d,a,i,j)
  else k (d,a,i,j)) N g
def partUO (k:(List Y×Int×Int×Int)->Option ρ) (N:Nat) (g:List Y×Int×Int×Int):Option ρ:=
 iter (fun(go:(List Y×Int×Int×Int)->Option ρ) (g:List Y×Int×Int×Int)=>
  match g with
  |(d,a,i,j)=>
  bif decide (i<=j)then cmpGO c d i a fun r=>bif r then(if fits (i+1)then go (d,a,i+1,j)else none)else k (d,a,i,j)
  else k (d,a,i,j)) N g
def partO (N:Nat) (d:List Y) (a b p:Int):Option (Int×Bool×List Y):=
 swpG d a p fun d=>if fits (a+1)then if fits (b-1)then
  partUO c (fun g=>partDO c (partEO (fun g=>iter (fun go3 g=>partUO c (fun g=>partDO c (partEO go3 false) N g) N g) N g) true) N g) N (d,a,a+1,b-1)
 else none else none
def peqEO (go:(List Y×Int×Int×Int)->Option (Int×List Y)) (g:List Y×Int×Int×Int):Option (Int×List Y):=
 match g with
 |(d,a,i,j)=>
 bif decide (j<i)then some (i,d)else swpG d i j fun d'=>if fits (i+1)then if fits (j-1)then go (d',a,i+1,j-1)else none else none
def peqDO (k:(List Y×Int×Int×Int)->Option ρ) (N:Nat) (g:List Y×Int×Int×Int):Option ρ:=
 iter (fun(go:(List Y×Int×Int×Int)->Option ρ) (g:List Y×Int×Int×Int)=>
  match g with
  |(d,a,i,j)=>
  bif decide (i<=j)then cmpGO c d a j fun r=>bif r then(if fits (j-1)then go (d,a,i,j-1)else none)else k (d,a,i,j)
  else k (d,a,i,j)) N g
def peqUO (k:(List Y×Int×Int×Int)->Option ρ) (N:Nat) (g:List Y×Int×Int×Int):Option ρ:=
 iter (fun(go:(List Y×Int×Int×Int)->Option ρ) (g:List Y×Int×Int×Int)=>
  match g with
  |(d,a,i,j)=>
  bif decide (i<=j)then cmpGO c d a i fun r=>bif !r then(if fits (i+1)then go (d,a,i+1,j)else none)else k (d,a,i,j)
  else k (d,a,i,j)) N g
def peqO (N:Nat) (d:List Y) (a b p:Int):Option (Int×List Y):=
 swpG d a p fun d=>if fits (a+1)then if fits (b-1)then iter (fun go g=>peqUO c (fun g=>peqDO c (peqEO go) N g) N g) N (d,a,a+1,b-1)else none else none
def pdqO (hs:List Y->Int->Int->Option (List Y)) (pe:List Y->Int->Int->Int->Option (Int×List Y)) (N:Nat):(D:Nat)->(List Y)->Int->Int->Int->Option ((List Y))
 |0,_,_,_,_=>none
 |D+1,data,a,b,limit=>
 (iter (fun(go:((List Y)×Int×Int×Int×Bool×Bool)->Option ((List Y))) (g:(List Y)×Int×Int×Int×Bool×Bool)=>
   match g with
   |(data2,a2,b2,limit2,wasBalanced,wasPartitioned)=>
   (if fits (b2-a2)then(bif(decide ((b2-a2)<=12))then
     (Option.bind (insO c N data2 a2 b2) fun(r:(List Y))=>
      (some r))
     else
     (bif(decide (limit2=0))then
      (Option.bind (hs data2 a2 b2) fun(r2:(List Y))=>
       (some r2))
      else
      (meet (fun(g:(List Y)×Int×Int×Int×Bool×Bool×Int)=>
        match g with
        |(data3,a3,b3,limit3,wasBalanced2,wasPartitioned2,length)=>
        (Option.bind (choosePivotO c N data3 a3 b3) fun(r4:Int×Int×(List Y))=>
         (meet (fun(g:(List Y)×Int×Int×Int×Bool×Bool×Int×Int×Int)=>
           match g with
           |(data4,a4,b4,limit4,wasBalanced3,wasPartitioned3,length2,pivot,hint)=>
           (meet (fun(g:(List Y)×Int×Int×Int×Bool×Bool×Int×Int)=>
             match g with
             |(data5,a5,b5,limit5,wasBalanced4,wasPartitioned4,length3,pivot2)=>
             (bif(decide ((0:Int)<a5))then
              (if fits (a5-1)then(if 0<=(a5-1)/\(a5-1)<(data5.length:Int)then
                (Option.bind (data5[(a5-1).toNat]?) fun(e:Y)=>
                 (if 0<=pivot2/\pivot2<(data5.length:Int)then
                  (Option.bind (data5[pivot2.toNat]?) fun(e2:Y)=>
                   (Option.bind (c e e2) fun(r7:Bool)=>
                    (bif(!(r7))then
                     (Option.bind (pe data5 a5 b5 pivot2) fun(r8:Int×(List Y))=>
                      (go (r8.2,r8.1,b5,limit5,wasBalanced4,wasPartitioned4)))
                     else
                     (Option.bind (partO c N data5 a5 b5 pivot2) fun(r9:Int×Bool×(List Y))=>
                      (if fits (r9.1-a5)then(if fits (b5-r9.1)then(if 8≠0 then
                         (if fits (length3.tdiv 8)then(bif(decide ((r9.1-a5)<(b5-r9.1)))then
                           (Option.bind (pdqO hs pe N D r9.2.2 a5 r9.1 limit5) fun(r10:(List Y))=>
                            (if fits (r9.1+1)then(go (r10,(r9.1+1),b5,limit5,(decide ((length3.tdiv 8)<=(r9.1-a5))),r9.2.1))else none))
                           else
                           (if fits (r9.1+1)then(Option.bind (pdqO hs pe N D r9.2.2 (r9.1+1) b5 limit5) fun(r11:(List Y))=>
                             (go (r11,a5,r9.1,limit5,(decide ((length3.tdiv 8)<=(b5-r9.1))),r9.2.1)))else none))else none)
                         else none)else none)else none)))))
                  else none))
                else none)else none)
              else
              (Option.bind (partO c N data5 a5 b5 pivot2) fun(r12:Int×Bool×(List Y))=>
               (if fits (r12.1-a5)then(if fits (b5-r12.1)then(if 8≠0 then
                  (if fits (length3.tdiv 8)then(bif(decide ((r12.1-a5)<(b5-r12.1)))then
                    (Option.bind (pdqO hs pe N D r12.2.2 a5 r12.1 limit5) fun(r13:(List Y))=>
                     (if fits (r12.1+1)then(go (r13,(r12.1+1),b5,limit5,(decide ((length3.tdiv 8)<=(r12.1-a5))),r12.2.1))else none))
                    else
                    (if fits (r12.1+1)then(Option.bind (pdqO hs pe N D r12.2.2 (r12.1+1) b5 limit5) fun(r14:(List Y))=>
                      (go (r14,a5,r12.1,limit5,(decide ((length3.tdiv 8)<=(b5-r12.1))),r12.2.1)))else none))else none)
                  else none)else none)else none)))) fun(J3:((List Y)×Int×Int×Int×Bool×Bool×Int×Int)->Option ((List Y)))=>
            (bif wasBalanced3 then
             (bif wasPartitioned3 then
              (bif(decide (hint=1))then
               (Option.bind (pisO c N data4 a4 b4) fun(r6:Bool×(List Y))=>
                (bif r6.1 then
                 (some r6.2)
                 else
                 (J3 (r6.2,a4,b4,limit4,wasBalanced3,wasPartitioned3,length2,pivot))))
               else
               (J3 (data4,a4,b4,limit4,wasBalanced3,wasPartitioned3,length2,pivot)))
              else
              (J3 (data4,a4,b4,limit4,wasBalanced3,wasPartitioned3,length2,pivot)))
             else
             (J3 (data4,a4,b4,limit4,wasBalanced3,wasPartitioned3,length2,pivot))))) fun(J2:((List Y)×Int×Int×Int×Bool×Bool×Int×Int×Int)->Option ((List Y)))=>
          (bif(decide (r4.2.1=2))then
           (Option.bind (reverseRangeO N r4.2.2 a3 b3) fun(r5:(List Y))=>
            (if fits (b3-1)then(if fits (r4.1-a3)then(if fits ((b3-1)-(r4.1-a3))then(J2 (r5,a3,b3,limit3,wasBalanced2,wasPartitioned2,length,((b3-1)-(r4.1-a3)),1))else none)else none)else none))
           else
           (J2 (r4.2.2,a3,b3,limit3,wasBalanced2,wasPartitioned2,length,r4.1,r4.2.1)))))) fun(J:((List Y)×Int×Int×Int×Bool×Bool×Int)->Option ((List Y)))=>
       (bif(!wasBalanced)then
        (Option.bind (breakO N data2 a2 b2) fun(r3:(List Y))=>
         (if fits (limit2-1)then(J (r3,a2,b2,(limit2-1),wasBalanced,wasPartitioned,(b2-a2)))else none))
        else
        (J (data2,a2,b2,limit2,wasBalanced,wasPartitioned,(b2-a2)))))))else none)) N (data,a,b,limit,true,true))
end
section
variable {Y ρ : Type} {c : Y -> Y -> Option Bool} {lt : Y -> Y -> Bool} 
structure WCompO (c:Y->Y->Option Bool) (lt:Y->Y->Bool) (d:List Y):Prop where
 cmp:∀x,x∈d->∀y,y∈d->Def (c x y) fun r=>r=lt x y
theorem WCompO.perm {d d':List Y} (h:WCompO c lt d) (hp:d'.Perm d):WCompO c lt d':=
 ⟨fun x hx y hy=>h.cmp x (hp.mem_iff.1 hx) y (hp.mem_iff.1 hy)⟩
theorem WCompO.other {d:List Y} (h:WCompO c lt d) {i j:Nat} (hi:i<d.length) (hj:j<d.length) (hij:i≠j) (hn:¬ltO lt d[i]? d[j]?):leO lt d[j]? d[i]? :=by
 rw[zc hi,zc hj]at*
 show lt d[i] d[j]=false
 cases e:lt d[i] d[j]
 .rfl
 .exact absurd e hn
theorem cmp2_defO {d:List Y} (hC:WCompO c lt d) {i j:Nat} (hi:i<d.length) (hj:j<d.length) {k:Bool->Option ρ} {P:ρ->Prop}
  (h1:ltO lt d[i]? d[j]? ->∀r,r=true->Def (k r) P) (h2:¬ltO lt d[i]? d[j]? ->∀r,r=false->Def (k r) P):Def (Option.bind (c d[i] d[j]) k) P:=by
 rw[zc hi,zc hj]at*
 refine Def.bind (hC.cmp _ (zr hi) _ (zr hj)) fun r hr=>?_
 by_cases e:lt d[i] d[j]=true
 .exact h1 e r (hr.trans e)
 .exact h2 e r (hr.trans (by simpa using e))
theorem cmpG_defO {d:List Y} (hC:WCompO c lt d) {i j:Nat} (hi:i<d.length) (hj:j<d.length) {k:Bool->Option ρ} {P:ρ->Prop}
  (h1:ltO lt d[i]? d[j]? ->∀r,r=true->Def (k r) P) (h2:¬ltO lt d[i]? d[j]? ->∀r,r=false->Def (k r) P):Def (cmpGO c d (i:Int) (j:Int) k) P:=by
 unfold cmpGO
 rw[zai,zai,zf ⟨by omega,by omega⟩,zc hi,za,zf ⟨by omega,by omega⟩,zc hj,za]
 exact cmp2_defO hC hi hj h1 h2
theorem cmpP_defO {d:List Y} (hC:WCompO c lt d) {j:Nat} (hj:j+1<d.length) (hl:d.length<=1099511627776) {k:Bool->Option ρ} {P:ρ->Prop}
  (h1:ltO lt d[j+1]? d[j]? ->∀r,r=true->Def (k r) P) (h2:¬ltO lt d[j+1]? d[j]? ->∀r,r=false->Def (k r) P):Def (cmpPO c d ((j+1:Nat):Int) k) P:=by
 have hj':j<d.length:=by omega
 unfold cmpPO
 rw[show(((j+1:Nat):Int)-1)=(j:Int)from by omega,zai,zai,zf ⟨by omega,by omega⟩,zc hj,za,zf (by unfold fits;omega),zf ⟨by omega,by omega⟩,zc hj',za]
 exact cmp2_defO hC hj hj' h1 h2
theorem ins_defO (ho:WOrd lt) (N:Nat) {d:List Y} {a b:Nat} (hC:WCompO c lt d) (hab:a<=b) (hb:b<=d.length) (hl:d.length<N) (hN:N<=1099511627776):
  Def (insO c N d (a:Int) (b:Int)) fun r=>Seg a b d r/\OrdS lt r a b:=by
 unfold insO
 refine Def.ite (fits_nat (n:=a) (by omega)) ?_
 refine Def.iter (fun g=>∃d':List Y,∃i:Nat,a+1<=i/\(i<=b\/i=a+1)/\Seg a b d d'/\OrdS lt d' a i/\g=(d',(a:Int),(b:Int),(i:Int))) (fun g=>b-g.2.2.2.toNat) ?_ N _
  ⟨d,a+1,zae _,.inr rfl,Seg.refl _ _ _,(fun m n h1 h2 h3=>by omega),by rw[cast_succ']⟩ (by show b-_<N;omega)
 rintro go _ ⟨d',i,h1,h2,hs,hA,rfl⟩ hgo
 dsimp only
 have hdl:=hs.len
 refine Def.dif (fun e=>?_) (fun e=>Def.ret ⟨hs,fun m n g1 g2 g3=>hA m n g1 g2 (by omega)⟩)
 refine Def.iter (fun g=>∃d':List Y,∃j:Nat,a<=j/\j<=i/\Seg a b d d'/\(∀m n,a<=m->m<n->n<=i->n≠j->leO lt d'[m]? d'[n]?)/\g=(d',(a:Int),(b:Int),(i:Int),(j:Int))) (fun g=>g.2.2.2.2.toNat) ?_ N _
  ⟨d',i,by omega,zae _,hs,(fun m n g1 g2 g3 g4=>hA m n g1 g2 (by omega)),rfl⟩ (by show((i:Int)).toNat<N;omega)
 rintro go2 _ ⟨d',j,j1,j2,hs,hA,rfl⟩ hgo2
 dsimp only
 have hdl:=hs.len
 have hC':=hC.perm hs.perm
 have stop:(∀m,a<=m->m<j->leO lt d'[m]? d'[j]?)->Def (if fits ((i:Int)+1)then go (d',(a:Int),(b:Int),(i:Int)+1)else none) fun r=>Seg a b d r/\OrdS lt r a b:=fun hj=>by
  refine Def.ite (fits_nat (n:=i) (by omega)) (hgo _ ⟨d',i+1,by omega,.inl (by omega),hs,fun m n g1 g2 g3=>?_,by rw[cast_succ']⟩ (by show b-((i:Int)+1).toNat<b-((i:Int)).toNat;omega))
  by_cases e:n=j
  .subst e;exact hj m g1 g2
  .exact hA m n g1 g2 (by omega) e
 refine Def.dif (fun e2=>?_) (fun e2=>stop fun m g1 g2=>by omega)
 obtain⟨k,rfl⟩:∃k,j=k+1:=⟨j-1,by omega⟩
 refine cmpP_defO hC' (by omega) (by omega) (fun hlt r hr=>?_) (fun hlt r hr=>?_)
 .rw [hr,zg]
  refine swpP_def (by omega) (by omega) fun d2 hw=>Def.ite (by unfold fits;omega) (hgo2 _ ⟨d2,k,by omega,by omega,hs.trans (hw.seg (by omega) (by omega) (by omega) (by omega)),fun m n g1 g2 g3 g4=>?_,by rw[show(((k+1:Nat):Int)-1)=(k:Int)from by omega]⟩ ?_)
  .rw [hw.at',hw.at']
   by_cases m1:m=k
   .subst m1
    rw[zf rfl,zu g4]
    by_cases n1:n=m+1
    .subst n1;rw[zf rfl];exact hlt.le ho
    .rw [zu n1];exact hA (m+1) n (by omega) (by omega) g3 n1
   .rw [zu m1,zu g4]
    by_cases m2:m=k+1
    .subst m2
     rw[zf rfl,zu (by omega)]
     exact hA k n (by omega) (by omega) g3 (by omega)
    .rw [zu m2]
     by_cases n1:n=k+1
     .subst n1;rw[zf rfl];exact hA m k g1 (by omega) (by omega) (by omega)
     .rw [zu n1];exact hA m n g1 g2 g3 n1
  .show (((k+1:Nat):Int)-1).toNat<((k+1:Nat):Int).toNat
   omega
 .rw [hr,ze]
  have h3:=hC'.other (by omega) (by omega) (by omega) hlt
  refine stop fun m g1 g2=>?_
  by_cases e3:m=k
  .subst e3;exact h3
  .exact (hA m k g1 (by omega) (by omega) (by omega)).trans ho h3
theorem partU_defO (ho:WOrd lt) (N:Nat) {d:List Y} {a b i j:Nat} (hC:WCompO c lt d) (h:Split lt a b d i j) (hl:d.length<N) (hN:N<=1099511627776) {k:(List Y×Int×Int×Int)->Option ρ} {P:ρ->Prop}
  (hk:∀i',i<=i'->Split lt a b d i' j->(i'<=j->¬ltO lt d[i']? d[a]?)->Def (k (d,(a:Int),(i':Int),(j:Int))) P):Def (partUO c k N (d,(a:Int),(i:Int),(j:Int))) P:=by
 unfold partUO
 have:=h.jb;have:=h.bl;have:=h.ij
 refine Def.iter (fun g=>∃i':Nat,i<=i'/\Split lt a b d i' j/\g=(d,(a:Int),(i':Int),(j:Int))) (fun g=>j+1-g.2.2.1.toNat) ?_ N _ ⟨i,zae _,h,rfl⟩ (by show j+1-((i:Int)).toNat<N;omega)
 rintro go _ ⟨i',hi,hs,rfl⟩ hgo
 dsimp only
 have hi1:=hs.i1
 refine Def.dif (fun e=>?_) (fun e=>hk i' hi hs (fun h=>by omega))
 refine cmpG_defO hC (by omega) (by omega) (fun hlt r hr=>?_) (fun hlt r hr=>?_)
 .rw [hr,zg]
  refine Def.ite (fits_nat (n:=i') (by omega)) (hgo _ ⟨i'+1,by omega,⟨by omega,by omega,hs.jb,hs.bl,fun m g1 g2=>?_,hs.high⟩,by rw[cast_succ']⟩ (by show j+1-((i':Int)+1).toNat<j+1-((i':Int)).toNat;omega))
  by_cases e2:m=i'
  .subst e2;exact hlt.le ho
  .exact hs.low m g1 (by omega)
 .rw [hr,ze]
  exact hk i' hi hs (fun _=>hlt)
theorem partD_defO (N:Nat) {d:List Y} {a b i j:Nat} (hC:WCompO c lt d) (h:Split lt a b d i j) (hl:d.length<N) (hN:N<=1099511627776) {k:(List Y×Int×Int×Int)->Option ρ} {P:ρ->Prop}
  (hk:∀j',j'<=j->Split lt a b d i j'->(i<=j'->ltO lt d[j']? d[a]?)->Def (k (d,(a:Int),(i:Int),(j':Int))) P):Def (partDO c k N (d,(a:Int),(i:Int),(j:Int))) P:=by
 unfold partDO
 have:=h.jb;have:=h.bl;have:=h.ij;have hi1:=h.i1
 refine Def.iter (fun g=>∃j':Nat,j'<=j/\Split lt a b d i j'/\g=(d,(a:Int),(i:Int),(j':Int))) (fun g=>g.2.2.2.toNat) ?_ N _ ⟨j,zae _,h,rfl⟩ (by show((j:Int)).toNat<N;omega)
 rintro go _ ⟨j',hj,hs,rfl⟩ hgo
 dsimp only
 refine Def.dif (fun e=>?_) (fun e=>hk j' hj hs (fun h=>by omega))
 refine cmpG_defO hC (by omega) (by omega) (fun hlt r hr=>?_) (fun hlt r hr=>?_)
 .rw [hr,zn,ze]
  exact hk j' hj hs (fun _=>hlt)
 .rw [hr,zaI,zg]
  obtain⟨q,rfl⟩:∃q,j'=q+1:=⟨j'-1,by omega⟩
  have h3:=hC.other (by omega) (by omega) (by omega) hlt
  refine Def.ite (by unfold fits;omega) (hgo _ ⟨q,by omega,⟨hs.i1,by omega,by omega,hs.bl,hs.low,fun m g1 g2=>?_⟩,by rw[show(((q+1:Nat):Int)-1)=(q:Int)from by omega]⟩ (by show(((q+1:Nat):Int)-1).toNat<((q+1:Nat):Int).toNat;omega))
  by_cases e2:m=q+1
  .subst e2;exact h3
  .exact hs.high m (by omega) g2
theorem partE_defO {d:List Y} {a b i j:Nat} (ho:WOrd lt) (hC:WCompO c lt d) (h:Split lt a b d i j) (h1:i<=j->¬ltO lt d[i]? d[a]?) (h2:i<=j->ltO lt d[j]? d[a]?) (hl:d.length<=1099511627776)
  {go3:(List Y×Int×Int×Int)->Option (Int×Bool×List Y)} {fl:Bool} {P:(Int×Bool×List Y)->Prop}
  (hend:∀d',Seg a b d d'->Cloven lt a b j d'->P ((j:Int),fl,d')) (hgo:∀d' j',j'+2<=j+1->i<j->Seg a b d d'->Split lt a b d' (i+1) j'->Def (go3 (d',(a:Int),((i+1:Nat):Int),(j':Int))) P):
  Def (partEO go3 fl (d,(a:Int),(i:Int),(j:Int))) P:=by
 unfold partEO
 dsimp only
 have hi1:=h.i1;have hij:=h.ij;have hjb:=h.jb;have hbl:=h.bl
 refine Def.dif (fun e=>?_) (fun e=>?_)
 .refine swp_def (by omega) (by omega) fun d' hw=>Def.ret (hend d' (hw.seg (by omega) (by omega) (by omega) (by omega)) ⟨by omega,hjb,fun m g1 g2=>?_,fun m g1 g2=>?_⟩)
  .rw [hw.at' m,hw.at' j]
   by_cases e1:m=a
   .subst e1
    rw[zf rfl,zu (by omega),zf rfl]
    exact h.low j (by omega) (by omega)
   .rw [zu e1,zu (by omega)]
    by_cases e2:j=a
    .omega
    .rw [zu e2,zf rfl];exact h.low m (by omega) (by omega)
  .rw [hw.at' m,zu (by omega:¬m=a),zu (by omega:¬m=j),hw.at' j]
   by_cases e2:j=a
   .subst e2;rw[zf rfl];exact h.high m g1 g2
   .rw [zu e2,zf rfl];exact h.high m g1 g2
 .have hij2:i<=j:=by omega
  have hne:i≠j:=by
   rintro rfl
   exact h1 hij2 (h2 hij2)
  obtain⟨q,rfl⟩:∃q,j=q+1:=⟨j-1,by omega⟩
  refine swp_def (by omega) (by omega) fun d' hw=>Def.ite (fits_nat (n:=i) (by omega)) (Def.ite (by unfold fits;omega) ?_)
  rw[<-cast_succ',show(((q+1:Nat):Int)-1)=(q:Int)from by omega]
  have hdl:=hw.perm.length_eq
  have ha:d'[a]? =d[a]? :=by rw[hw.at',zu (by omega),zu (by omega)]
  refine hgo d' q (by omega) (by omega) (hw.seg (by omega) (by omega) (by omega) (by omega)) ⟨by omega,by omega,by omega,by omega,fun m g1 g2=>?_,fun m g1 g2=>?_⟩
  .rw [ha,hw.at' m,zu (by omega)]
   by_cases e1:m=i
   .rw [zf e1];exact(h2 hij2).le ho
   .rw [zu e1];exact h.low m g1 (by omega)
  .rw [ha,hw.at' m]
   by_cases e1:m=q+1
   .rw [zf e1]
    exact hC.other (by omega) (by omega) (by omega) (h1 hij2)
   .rw [zu e1,zu (by omega)];exact h.high m (by omega) g2
theorem part_defO (ho:WOrd lt) (N:Nat) {d:List Y} {a b p:Nat} (hC:WCompO c lt d) (hap:a<=p) (hpb:p<b) (hb:b<=d.length) (hl:d.length<N) (hN:N<=1099511627776):
  Def (partO c N d (a:Int) (b:Int) (p:Int)) fun r=>∃k:Nat,r.1=(k:Int)/\Seg a b d r.2.2/\Cloven lt a b k r.2.2:=by
 unfold partO
 refine swp_def (by omega) (by omega) fun d1 hw1=>Def.ite (fits_nat (n:=a) (by omega)) (Def.ite (by unfold fits;omega) ?_)
 have hs1:=hw1.seg (a:=a) (b:=b) (by omega) (by omega) hap hpb
 have hC1:=hC.perm hs1.perm
 have hd1:=hs1.len
 obtain⟨q,rfl⟩:∃q,b=q+1:=⟨b-1,by omega⟩
 rw[<-cast_succ',show(((q+1:Nat):Int)-1)=(q:Int)from by omega]
 have h1:Split lt a (q+1) d1 (a+1) q:=⟨by omega,by omega,by omega,by omega,fun m g1 g2=>by omega,fun m g1 g2=>by omega⟩
 refine partU_defO ho N hC1 h1 (by omega) hN fun i hi hS hn=>?_
 refine partD_defO N hC1 hS (by omega) hN fun j hj hS2 hn2=>?_
 refine partE_defO ho hC1 hS2 (fun e=>hn (by omega)) hn2 (by omega) (fun d' g1 g2=>⟨j,rfl,hs1.trans g1,g2⟩) fun d2 j2 gj _ gs gS=>?_
 have hjb:=hS2.jb
 refine Def.iter (fun g=>∃d':List Y,∃i j:Nat,Seg a (q+1) d d'/\Split lt a (q+1) d' i j/\g=(d',(a:Int),(i:Int),(j:Int))) (fun g=>g.2.2.2.toNat) ?_ N _ ⟨d2,i+1,j2,hs1.trans gs,gS,rfl⟩ (by show((j2:Int)).toNat<N;omega)
 rintro go _ ⟨d',i,j,hs,hS,rfl⟩ hgo
 have hC':=hC.perm hs.perm
 have hdl:=hs.len
 refine partU_defO ho N hC' hS (by omega) hN fun i' hi' hS' hn'=>?_
 refine partD_defO N hC' hS' (by omega) hN fun j' hj' hS2' hn2'=>?_
 refine partE_defO ho hC' hS2' (fun e=>hn' (by omega)) hn2' (by omega) (fun d' g1 g2=>⟨j',rfl,hs.trans g1,g2⟩) fun d2 j2 gj gij gs gS=>?_
 exact hgo _ ⟨d2,i'+1,j2,hs.trans gs,gS,rfl⟩ (by show((j2:Int)).toNat<((j:Int)).toNat;omega)
theorem peqU_defO (N:Nat) {d:List Y} {a b i j:Nat} (hC:WCompO c lt d) (h:Alike lt a b d i j) (hl:d.length<N) (hN:N<=1099511627776) {k:(List Y×Int×Int×Int)->Option ρ} {P:ρ->Prop}
  (hk:∀i',i<=i'->Alike lt a b d i' j->(i'<=j->ltO lt d[a]? d[i']?)->Def (k (d,(a:Int),(i':Int),(j:Int))) P):Def (peqUO c k N (d,(a:Int),(i:Int),(j:Int))) P:=by
 unfold peqUO
 have:=h.jb;have:=h.bl;have:=h.ij
 refine Def.iter (fun g=>∃i':Nat,i<=i'/\Alike lt a b d i' j/\g=(d,(a:Int),(i':Int),(j:Int))) (fun g=>j+1-g.2.2.1.toNat) ?_ N _ ⟨i,zae _,h,rfl⟩ (by show j+1-((i:Int)).toNat<N;omega)
 rintro go _ ⟨i',hi,hs,rfl⟩ hgo
 dsimp only
 have hi1:=hs.i1
 refine Def.dif (fun e=>?_) (fun e=>hk i' hi hs (fun h=>by omega))
 refine cmpG_defO hC (by omega) (by omega) (fun hlt r hr=>?_) (fun hlt r hr=>?_)
 .rw [hr,zn,ze]
  exact hk i' hi hs (fun _=>hlt)
 .rw [hr,zaI,zg]
  have h3:=hC.other (by omega) (by omega) (by omega) hlt
  refine Def.ite (fits_nat (n:=i') (by omega)) (hgo _ ⟨i'+1,by omega,⟨by omega,by omega,hs.jb,hs.bl,fun m g1 g2=>?_⟩,by rw[cast_succ']⟩ (by show j+1-((i':Int)+1).toNat<j+1-((i':Int)).toNat;omega))
  by_cases e2:m=i'
  .subst e2;exact h3
  .exact hs.low m g1 (by omega)
theorem peqD_defO (N:Nat) {d:List Y} {a b i j:Nat} (hC:WCompO c lt d) (h:Alike lt a b d i j) (hl:d.length<N) (hN:N<=1099511627776) {k:(List Y×Int×Int×Int)->Option ρ} {P:ρ->Prop}
  (hk:∀j',j'<=j->Alike lt a b d i j'->(i<=j'->¬ltO lt d[a]? d[j']?)->Def (k (d,(a:Int),(i:Int),(j':Int))) P):Def (peqDO c k N (d,(a:Int),(i:Int),(j:Int))) P:=by
 unfold peqDO
 have:=h.jb;have:=h.bl;have:=h.ij;have hi1:=h.i1
 refine Def.iter (fun g=>∃j':Nat,j'<=j/\Alike lt a b d i j'/\g=(d,(a:Int),(i:Int),(j':Int))) (fun g=>g.2.2.2.toNat) ?_ N _ ⟨j,zae _,h,rfl⟩ (by show((j:Int)).toNat<N;omega)
 rintro go _ ⟨j',hj,hs,rfl⟩ hgo
 dsimp only
 refine Def.dif (fun e=>?_) (fun e=>hk j' hj hs (fun h=>by omega))
 refine cmpG_defO hC (by omega) (by omega) (fun hlt r hr=>?_) (fun hlt r hr=>?_)
 .rw [hr,zg]
  obtain⟨q,rfl⟩:∃q,j'=q+1:=⟨j'-1,by omega⟩
  refine Def.ite (by unfold fits;omega) (hgo _ ⟨q,by omega,⟨hs.i1,by omega,by omega,hs.bl,hs.low⟩,by rw[show(((q+1:Nat):Int)-1)=(q:Int)from by omega]⟩ (by show(((q+1:Nat):Int)-1).toNat<((q+1:Nat):Int).toNat;omega))
 .rw [hr,ze]
  exact hk j' hj hs (fun _=>hlt)
theorem peq_defO (N:Nat) {d:List Y} {a b p:Nat} (hC:WCompO c lt d) (hap:a<=p) (hpb:p<b) (hb:b<=d.length) (hl:d.length<N) (hN:N<=1099511627776):
  Def (peqO c N d (a:Int) (b:Int) (p:Int)) fun r=>∃k:Nat,r.1=(k:Int)/\a<k/\k<=b/\Seg a b d r.2/\r.2[a]? =d[p]? /\∀m,a<m->m<k->leO lt r.2[m]? d[p]? :=by
 unfold peqO
 refine swp_def (by omega) (by omega) fun d1 hw1=>Def.ite (fits_nat (n:=a) (by omega)) (Def.ite (by unfold fits;omega) ?_)
 have hs1:=hw1.seg (a:=a) (b:=b) (by omega) (by omega) hap hpb
 have hd1:=hs1.len
 have ha1:d1[a]? =d[p]? :=by
  rw[hw1.at']
  by_cases e:a=p
  .subst e;rw[zf rfl]
  .rw [zu e,zf rfl]
 obtain⟨q,rfl⟩:∃q,b=q+1:=⟨b-1,by omega⟩
 rw[<-cast_succ',show(((q+1:Nat):Int)-1)=(q:Int)from by omega]
 have h1:Alike lt a (q+1) d1 (a+1) q:=⟨by omega,by omega,by omega,by omega,fun m g1 g2=>by omega⟩
 refine Def.iter (fun g=>∃d':List Y,∃i j:Nat,Seg a (q+1) d d'/\d'[a]? =d[p]? /\Alike lt a (q+1) d' i j/\g=(d',(a:Int),(i:Int),(j:Int))) (fun g=>g.2.2.2.toNat) ?_ N _ ⟨d1,a+1,q,hs1,ha1,h1,rfl⟩ (by show((q:Int)).toNat<N;omega)
 rintro go _ ⟨d',i,j,hs,ha,hA,rfl⟩ hgo
 have hC':=hC.perm hs.perm
 have hdl:=hs.len
 refine peqU_defO N hC' hA (by omega) hN fun i' hi' hA' hn'=>?_
 refine peqD_defO N hC' hA' (by omega) hN fun j' hj' hA2 hn2=>?_
 unfold peqEO
 dsimp only
 have q1:=hA2.i1;have q2:=hA2.ij;have q3:=hA2.jb;have q4:=hA2.bl
 refine Def.dif (fun e=>Def.ret ⟨i',rfl,q1,by omega,hs,ha,fun m g1 g2=>ha▸hA2.low m g1 g2⟩) (fun e=>?_)
 have hij:i'<=j':=by omega
 have hne:i'≠j':=fun e=>by subst e;exact hn2 hij (hn' (by omega))
 obtain⟨t,rfl⟩:∃t,j'=t+1:=⟨j'-1,by omega⟩
 refine swp_def (by omega) (by omega) fun d2 hw=>Def.ite (fits_nat (n:=i') (by omega)) (Def.ite (by unfold fits;omega) ?_)
 rw[<-cast_succ',show(((t+1:Nat):Int)-1)=(t:Int)from by omega]
 have hd2:=hw.perm.length_eq
 have hat:d2[a]? =d'[a]? :=by rw[hw.at',zu (by omega),zu (by omega)]
 refine hgo _ ⟨d2,i'+1,t,hs.trans (hw.seg (by omega) (by omega) (by omega) (by omega)),hat.trans ha,⟨by omega,by omega,by omega,by omega,fun m g1 g2=>?_⟩,rfl⟩ (by show((t:Int)).toNat<((j:Int)).toNat;omega)
 rw[hat,hw.at' m,zu (by omega)]
 by_cases e1:m=i'
 .rw [zf e1];exact hC'.other (by omega) (by omega) (by omega) (hn2 hij)
 .rw [zu e1];exact hA2.low m g1 (by omega)
end
section
variable {Y ρ : Type} {c : Y -> Y -> Option Bool} {lt : Y -> Y -> Bool} 
theorem break_defO (N:Nat) {d:List Y} {a b:Nat} (hab:a<=b) (hb:b<=d.length) (hl:d.length<N) (hM:d.length<16777216):
  Def (breakO N d (a:Int) (b:Int)) fun r=>Seg a b d r:=by
 unfold breakO
 rw[show((b:Int)-(a:Int))=((b-a:Nat):Int)from by omega]
 generalize hn:b-a=n
 refine Def.ite (by unfold fits;omega) (Def.dif (fun e=>?_) (fun e=>Def.ret (Seg.refl _ _ _)))
 refine Def.bind (nextPow_def N n (by omega) (by omega)) fun r ⟨hr1,hr2⟩=>?_
 have t4:((n:Int)).tdiv 4=((n/4:Nat):Int):=rfl
 rw[t4]
 refine Def.ite (by omega) (Def.ite (by unfold fits;omega) (Def.ite (by unfold fits;omega) (Def.ite (by unfold fits;omega) (Def.ite (by unfold fits;omega) ?_))))
 refine Def.iter (fun g=>∃d':List Y,∃i:Nat,∃rnd:Int,Seg a b d d'/\a<=i/\g=(d',(a:Int),(n:Int),r,(i:Int),rnd)) (fun g=>b-g.2.2.2.2.1.toNat) ?_ N _ ⟨d,a+n/4*2-1,IntKind.u64.wrap (n:Int),Seg.refl _ _ _,by omega,?_⟩ (by show b-_<N;omega)
 .rintro go _ ⟨d',i,rnd,hs,hai,rfl⟩ hgo
  dsimp only
  rw[t4]
  have hdl:=hs.len
  refine Def.ite (by omega) (Def.ite (by unfold fits;omega) (Def.ite (by unfold fits;omega) (Def.ite (by unfold fits;omega) (Def.ite (by unfold fits;omega) (Def.dif (fun e2=>?_) (fun e2=>Def.ret hs))))))
  refine Def.bind (P:=fun _=>True) ?_ fun r2 _=>?_
  .unfold k__slices_xorshift_Next_m
   exact Def.ite (by omega) (Def.ite (by omega) (Def.ite (by omega) (Def.ret True.intro)))
  have hm:=and_le r2.1 (IntKind.u64.wrap (r-1)) (by rw[wrap_u64 (by omega) (by omega)];omega) (by rw[wrap_u64 (by omega) (by omega)];omega)
  have hw0:IntKind.u64.wrap (r-1)=r-1:=wrap_u64 (by omega) (by omega)
  rw[wrap_i64 hm.1 (by omega)]
  generalize bitsI .and .u64 r2.1 (IntKind.u64.wrap (r-1))=m at*
  refine Def.meet (fun g=>∃o:Nat,∃rnd:Int,o<n/\g=(d',(a:Int),(n:Int),r,(i:Int),(o:Int),rnd)) ?_ fun J hJ=>?_
  .rintro _ ⟨o,rnd,ho,rfl⟩
   dsimp only
   refine Def.ite (by unfold fits;omega) (Def.ite (by unfold fits;omega) ?_)
   rw[show((a:Int)+(o:Int))=((a+o:Nat):Int)from by omega]
   refine swp_def (by omega) (by omega) fun d2 hw=>Def.ite (fits_nat (n:=i) (by omega)) (hgo _ ⟨d2,i+1,rnd,hs.trans (hw.seg (by omega) (by omega) (by omega) (by omega)),by omega,by rw[cast_succ']⟩ (by show b-((i:Int)+1).toNat<b-((i:Int)).toNat;omega))
  .refine Def.dif (fun e3=>?_) (fun e3=>?_)
   .refine Def.ite (by unfold fits;omega) (hJ _ ⟨(m-n).toNat,r2.2,by omega,?_⟩)
    rw[zbU (by omega)]
   .refine hJ _ ⟨m.toNat,r2.2,by omega,?_⟩
    rw[zbU (by omega)]
 .rw [show(((a+n/4*2-1:Nat)):Int)=(a:Int)+((n/4:Nat):Int)*2-1 from by omega]
theorem reverse_defO (N:Nat) {d:List Y} {a b:Nat} (hab:a<b) (hb:b<=d.length) (hl:d.length<N) (hN:N<=1099511627776):
  Def (reverseRangeO N d (a:Int) (b:Int)) fun r=>Seg a b d r:=by
 unfold reverseRangeO
 refine Def.ite (by unfold fits;omega) ?_
 refine Def.iter (fun g=>∃d':List Y,∃i j:Nat,Seg a b d d'/\a<=i/\j<b/\g=(d',(i:Int),(j:Int))) (fun g=>g.2.2.toNat) ?_ N _ ⟨d,a,b-1,Seg.refl _ _ _,zae _,by omega,by rw[show((b-1:Nat):Int)=(b:Int)-1 from by omega]⟩ (by show((b:Int)-1).toNat<N;omega)
 rintro go _ ⟨d',i,j,hs,hi,hj,rfl⟩ hgo
 dsimp only
 have hdl:=hs.len
 refine Def.dif (fun e=>?_) (fun e=>Def.ret hs)
 refine swp_def (by omega) (by omega) fun d2 hw=>Def.ite (fits_nat (n:=i) (by omega)) (Def.ite (by unfold fits;omega) (hgo _ ⟨d2,i+1,j-1,hs.trans (hw.seg (by omega) (by omega) (by omega) (by omega)),by omega,by omega,by rw[cast_succ',show((j-1:Nat):Int)=(j:Int)-1 from by omega]⟩ (by show((j:Int)-1).toNat<((j:Int)).toNat;omega)))
theorem order2_defO (N:Nat) {d:List Y} {a b:Nat} (hC:WCompO c lt d) (hb:b<=d.length) {i j s:Int} (hi:In a b i) (hj:In a b j) (h0:0<=s) (h1:s<=1000):
  Def (order2O c N d i j s) fun r=>In a b r.1/\In a b r.2.1/\r.2.2.1=d/\s<=r.2.2.2/\r.2.2.2<=s+1:=by
 obtain⟨i,rfl,i1,i2⟩:=hi
 obtain⟨j,rfl,j1,j2⟩:=hj
 unfold order2O
 refine cmpG_defO hC (by omega) (by omega) (fun _ r hr=>?_) (fun _ r hr=>?_)
 .rw [hr,zg]
  exact Def.ite (by unfold fits;omega) (Def.ret ⟨⟨j,rfl,j1,j2⟩,⟨i,rfl,i1,i2⟩,rfl,by dsimp only;omega,by dsimp only;omega⟩)
 .rw [hr,ze]
  exact Def.ret ⟨⟨i,rfl,i1,i2⟩,⟨j,rfl,j1,j2⟩,rfl,by dsimp only;omega,by dsimp only;omega⟩
theorem median_defO (N:Nat) {d:List Y} {a b:Nat} (hC:WCompO c lt d) (hb:b<=d.length) {i j k s:Int} (hi:In a b i) (hj:In a b j) (hk:In a b k) (h0:0<=s) (h1:s<=900):
  Def (medianO c N d i j k s) fun r=>In a b r.1/\r.2.1=d/\s<=r.2.2/\r.2.2<=s+3:=by
 unfold medianO
 refine Def.bind (order2_defO N hC hb hi hj h0 (by omega)) fun r ⟨a1,a2,a3,a4,a5⟩=>?_
 rw[a3]
 refine Def.bind (order2_defO N hC hb a2 hk (by omega) (by omega)) fun r2 ⟨b1,b2,b3,b4,b5⟩=>?_
 rw[b3]
 refine Def.bind (order2_defO N hC hb a1 b1 (by omega) (by omega)) fun r3 ⟨c1,c2,c3,c4,c5⟩=>?_
 exact Def.ret ⟨c2,c3,by dsimp only;omega,by dsimp only;omega⟩
theorem medianAdj_defO (N:Nat) {d:List Y} {a b:Nat} (hC:WCompO c lt d) (hb:b<=d.length) (hM:d.length<=1099511627776) {i s:Int} (hi:(a:Int)+1<=i/\i+1<b) (h0:0<=s) (h1:s<=900):
  Def (medianAdjacentO c N d i s) fun r=>In a b r.1/\r.2.1=d/\s<=r.2.2/\r.2.2<=s+3:=by
 unfold medianAdjacentO
 refine Def.ite (by unfold fits;omega) (Def.ite (by unfold fits;omega) ?_)
 refine Def.bind (median_defO N hC hb ⟨(i-1).toNat,by omega,by omega,by omega⟩ ⟨i.toNat,by omega,by omega,by omega⟩ ⟨(i+1).toNat,by omega,by omega,by omega⟩ h0 h1) fun r hr=>Def.ret hr
theorem choose_defO (N:Nat) {d:List Y} {a b:Nat} (hC:WCompO c lt d) (hab:a<b) (hb:b<=d.length) (hM:d.length<=1099511627776):
  Def (choosePivotO c N d (a:Int) (b:Int)) fun r=>In a b r.1/\r.2.2=d:=by
 unfold choosePivotO
 rw[show((b:Int)-(a:Int))=((b-a:Nat):Int)from by omega]
 generalize hn:b-a=n
 have t4:((n:Int)).tdiv 4=((n/4:Nat):Int):=rfl
 rw[t4]
 refine Def.ite (by unfold fits;omega) (Def.ite (by omega) (Def.ite (by unfold fits;omega) (Def.ite (by unfold fits;omega) (Def.ite (by unfold fits;omega) (Def.ite (by omega)
  (Def.ite (by unfold fits;omega) (Def.ite (by unfold fits;omega) (Def.ite (by unfold fits;omega) (Def.ite (by omega) (Def.ite (by unfold fits;omega) (Def.ite (by unfold fits;omega) (Def.ite (by unfold fits;omega) ?_))))))))))))
 refine Def.meet (fun g=>∃j s,In a b j/\g=(d,j,s)) ?_ fun J hJ=>?_
 .rintro _ ⟨j,s,hj,rfl⟩
  dsimp only
  exact Def.dif (fun _=>Def.ret ⟨hj,rfl⟩) (fun _=>Def.dif (fun _=>Def.ret ⟨hj,rfl⟩) (fun _=>Def.ret ⟨hj,rfl⟩))
 .refine Def.dif (fun e=>?_) (fun e=>hJ _ ⟨_,_,⟨a+n/4*2,by omega,by omega,by omega⟩,rfl⟩)
  refine Def.meet (fun g=>∃i j k s,In a b i/\In a b j/\In a b k/\0<=s/\s<=900/\g=(d,i,j,k,s)) ?_ fun J2 hJ2=>?_
  .rintro _ ⟨i,j,k,s,hi,hj,hk,s0,s1,rfl⟩
   dsimp only
   refine Def.bind (median_defO N hC hb hi hj hk s0 s1) fun r ⟨h1,h2,_,_⟩=>hJ _ ⟨_,_,h1,by rw[h2]⟩
  .refine Def.dif (fun e2=>?_) (fun e2=>hJ2 _ ⟨_,_,_,_,⟨a+n/4*1,by omega,by omega,by omega⟩,⟨a+n/4*2,by omega,by omega,by omega⟩,⟨a+n/4*3,by omega,by omega,by omega⟩,Int.le_refl _,by omega,rfl⟩)
   refine Def.bind (medianAdj_defO (a:=a) (b:=b) N hC hb hM (by omega) (Int.le_refl _) (by omega)) fun r ⟨h1,h2,h3,h4⟩=>?_
   rw[h2]
   refine Def.bind (medianAdj_defO (a:=a) (b:=b) N hC hb hM (by omega) (by omega) (by omega)) fun r2 ⟨g1,g2,g3,g4⟩=>?_
   rw[g2]
   refine Def.bind (medianAdj_defO (a:=a) (b:=b) N hC hb hM (by omega) (by omega) (by omega)) fun r3 ⟨f1,f2,f3,f4⟩=>?_
   exact hJ2 _ ⟨r.1,r2.1,r3.1,r3.2.2,h1,g1,f1,by omega,by omega,by rw[f2]⟩
end
section
variable {Y ρ : Type} {c : Y -> Y -> Option Bool} {lt : Y -> Y -> Bool} 
theorem shDown_defO (ho:WOrd lt) (N:Nat) {d:List Y} {a b i:Nat} (j:Int) (hC:WCompO c lt d) (hL:Low lt d a b) (hai:a+2<=i) (hib:i<b) (hb:b<=d.length) (hl:d.length<N) (hN:N<=1099511627776)
  (hA:OrdS lt d a (i-1)) {k:(List Y×Int×Int×Int×Int)->Option ρ} {P:ρ->Prop} (hk:∀d',Seg a b d d'->OrdS lt d' a i->Def (k (d',(a:Int),(b:Int),(i:Int),j)) P):
  Def (shDownO c k N (d,(a:Int),(b:Int),(i:Int),j,(i:Int)-1)) P:=by
 unfold shDownO
 refine Def.iter (fun g=>∃d':List Y,∃q:Nat,a<=q/\q<i/\Seg a b d d'/\(∀m n,a<=m->m<n->n<i->n≠q->leO lt d'[m]? d'[n]?)/\g=(d',(a:Int),(b:Int),(i:Int),j,(q:Int))) (fun g=>g.2.2.2.2.2.toNat) ?_ N _
  ⟨d,i-1,by omega,by omega,Seg.refl _ _ _,fun m n g1 g2 g3 g4=>hA m n g1 g2 (by omega),by rw[show((i-1:Nat):Int)=(i:Int)-1 from by omega]⟩ (by show((i:Int)-1).toNat<N;omega)
 rintro go _ ⟨d',q,q1,q2,hs,hA',rfl⟩ hgo
 dsimp only
 have hdl:=hs.len
 have hC':=hC.perm hs.perm
 have stop:(∀m,a<=m->m<q->leO lt d'[m]? d'[q]?)->Def (k (d',(a:Int),(b:Int),(i:Int),j)) P:=fun hq=>hk d' hs fun m n g1 g2 g3=>by
  by_cases e:n=q
  .subst e;exact hq m g1 g2
  .exact hA' m n g1 g2 g3 e
 refine Def.dif (fun e=>?_) (fun e=>stop fun m g1 g2=>by omega)
 obtain⟨p,rfl⟩:∃p,q=p+1:=⟨q-1,by omega⟩
 refine cmpP_defO hC' (by omega) (by omega) (fun hlt r hr=>?_) (fun hlt r hr=>?_)
 .rw [hr,zn,ze]
  have hap:a<=p:=by
   by_cases e2:a<=p
   .exact e2
   .exfalso
    obtain rfl:a=p+1:=by omega
    exact hlt.not_le ((hL.seg hs) (by omega) (p+1) (by omega) (by omega))
  refine swpP_def (by omega) (by omega) fun d2 hw=>Def.ite (by unfold fits;omega) (hgo _ ⟨d2,p,by omega,by omega,hs.trans (hw.seg (by omega) (by omega) (by omega) (by omega)),fun m n g1 g2 g3 g4=>?_,by rw[show(((p+1:Nat):Int)-1)=(p:Int)from by omega]⟩ ?_)
  .rw [hw.at',hw.at']
   by_cases m1:m=p
   .subst m1
    rw[zf rfl,zu g4]
    by_cases n1:n=m+1
    .subst n1;rw[zf rfl];exact hlt.le ho
    .rw [zu n1];exact hA' (m+1) n (by omega) (by omega) g3 n1
   .rw [zu m1,zu g4]
    by_cases m2:m=p+1
    .subst m2
     rw[zf rfl,zu (by omega)]
     exact hA' p n (by omega) (by omega) g3 (by omega)
    .rw [zu m2]
     by_cases n1:n=p+1
     .subst n1;rw[zf rfl];exact hA' m p g1 (by omega) (by omega) (by omega)
     .rw [zu n1];exact hA' m n g1 g2 g3 n1
  .show (((p+1:Nat):Int)-1).toNat<((p+1:Nat):Int).toNat
   omega
 .rw [hr,zaI,zg]
  by_cases e2:a=p+1
  .exact stop fun m g1 g2=>by omega
  have h3:=hC'.other (by omega) (by omega) (by omega) hlt
  refine stop fun m g1 g2=>?_
  by_cases e3:m=p
  .subst e3;exact h3
  .exact (hA' m p g1 (by omega) (by omega) (by omega)).trans ho h3
theorem shUp_defO (N:Nat) {d:List Y} {a b i j:Nat} (hC:WCompO c lt d) (hai:a<=i) (hib:i<b) (hb:b<=d.length) (hl:d.length<N) (hN:N<=1099511627776) (hj:j<=1000)
  (hA:OrdS lt d a i) {k:(List Y×Int×Int×Int×Int)->Option ρ} {P:ρ->Prop} (hk:∀d',Seg a b d d'->OrdS lt d' a i->Def (k (d',(a:Int),(b:Int),(i:Int),((j+1:Nat):Int))) P):
  Def (shUpO c k N (d,(a:Int),(b:Int),(i:Int),(j:Int),(i:Int)+1)) P:=by
 unfold shUpO
 refine Def.iter (fun g=>∃d':List Y,∃q:Nat,i<=q/\Seg a b d d'/\OrdS lt d' a i/\g=(d',(a:Int),(b:Int),(i:Int),(j:Int),((q+1:Nat):Int))) (fun g=>b-g.2.2.2.2.2.toNat) ?_ N _
  ⟨d,i,zae _,Seg.refl _ _ _,hA,by rw[cast_succ']⟩ (by show b-_<N;omega)
 rintro go _ ⟨d',q,q1,hs,hA',rfl⟩ hgo
 dsimp only
 have hdl:=hs.len
 have hC':=hC.perm hs.perm
 have stop:Def (if fits ((j:Int)+1)then k (d',(a:Int),(b:Int),(i:Int),(j:Int)+1)else none) P:=by
  refine Def.ite (fits_nat (n:=j) (by omega)) ?_
  have:=hk d' hs hA'
  rw[cast_succ']at this
  exact this
 refine Def.dif (fun e=>?_) (fun e=>stop)
 refine cmpP_defO hC' (by omega) (by omega) (fun hlt r hr=>?_) (fun hlt r hr=>?_)
 .rw [hr,zn,ze]
  refine swpP_def (by omega) (by omega) fun d2 hw=>Def.ite (by unfold fits;omega) (hgo _ ⟨d2,q+1,by omega,hs.trans (hw.seg (by omega) (by omega) (by omega) (by omega)),fun m n g1 g2 g3=>?_,by rw[cast_succ' (q+1)]⟩ (by show b-(((q+1:Nat):Int)+1).toNat<b-((q+1:Nat):Int).toNat;omega))
  rw[hw.at',hw.at',zu (by omega),zu (by omega),zu (by omega),zu (by omega)]
  exact hA' m n g1 g2 g3
 .rw [hr,zaI,zg]
  exact stop
theorem pis_defO (ho:WOrd lt) (N:Nat) {d:List Y} {a b:Nat} (hC:WCompO c lt d) (hL:Low lt d a b) (hab:a<b) (hb:b<=d.length) (hl:d.length<N) (hN:N<=1099511627776) (h5:5<N):
  Def (pisO c N d (a:Int) (b:Int)) fun r=>Seg a b d r.2/\(r.1=true->OrdS lt r.2 a b):=by
 unfold pisO
 refine Def.ite (fits_nat (n:=a) (by omega)) ?_
 refine Def.iter (fun g=>∃d':List Y,∃i j:Nat,a+1<=i/\i<=b/\j<=5/\Seg a b d d'/\OrdS lt d' a i/\g=(d',(a:Int),(b:Int),(i:Int),(j:Int))) (fun g=>5-g.2.2.2.2.toNat) ?_ N _
  ⟨d,a+1,0,zae _,by omega,by omega,Seg.refl _ _ _,(fun m n h1 h2 h3=>by omega),by rw[cast_succ'];rfl⟩ (by show 5-_<N;omega)
 rintro go _ ⟨d',i,j,i1,i2,j1,hs,hA,rfl⟩ hgo
 dsimp only
 refine Def.dif (fun ej=>?_) (fun _=>Def.ret ⟨hs,fun h=>by cases h⟩)
 have hdl:=hs.len
 have hC':=hC.perm hs.perm
 refine Def.iter (fun g=>∃q:Nat,i<=q/\q<=b/\OrdS lt d' a q/\g=(d',(a:Int),(b:Int),(q:Int),(j:Int))) (fun g=>b-g.2.2.2.1.toNat) ?_ N _ ⟨i,zae _,i2,hA,rfl⟩ (by show b-_<N;omega)
 rintro go2 _ ⟨q,q1,q2,hQ,rfl⟩ hgo2
 dsimp only
 have back:∀d2,Seg a b d d2->OrdS lt d2 a q->Def (go (d2,(a:Int),(b:Int),(q:Int),((j+1:Nat):Int))) fun r=>Seg a b d r.2/\(r.1=true->OrdS lt r.2 a b):=fun d2 h1 h2=>
  hgo _ ⟨d2,q,j+1,by omega,q2,by omega,h1,h2,rfl⟩ (by show 5-(((j+1:Nat)):Int).toNat<5-((j:Int)).toNat;omega)
 have stop:Def (pisXO c N go d' (a:Int) (b:Int) (q:Int) (j:Int)) fun r=>Seg a b d r.2/\(r.1=true->OrdS lt r.2 a b):=by
  unfold pisXO
  refine Def.dif (fun e=>Def.ret ⟨hs,fun _ m n g1 g2 g3=>hQ m n g1 g2 (by omega)⟩) (fun e=>?_)
  refine Def.ite (by unfold fits;omega) (Def.dif (fun _=>Def.ret ⟨hs,fun h=>by cases h⟩) (fun _=>?_))
  obtain⟨p,rfl⟩:∃p,q=p+1:=⟨q-1,by omega⟩
  refine swpP_def (by omega) (by omega) fun d2 hw=>?_
  have hs2:=hs.trans (hw.seg (a:=a) (b:=b) (by omega) (by omega) (by omega) (by omega))
  have hd2:=hs2.len
  have hA2:OrdS lt d2 a p:=fun m n g1 g2 g3=>by
   rw[hw.at',hw.at',zu (by omega),zu (by omega),zu (by omega),zu (by omega)]
   exact hQ m n g1 g2 (by omega)
  refine Def.meet (fun g=>∃d3,Seg a b d d3/\OrdS lt d3 a (p+1)/\g=(d3,(a:Int),(b:Int),((p+1:Nat):Int),(j:Int))) ?_ fun J hJ=>?_
  .rintro _ ⟨d3,hs3,hA3,rfl⟩
   dsimp only
   have hd3:=hs3.len
   refine Def.ite (by unfold fits;omega) (Def.dif (fun e3=>?_) (fun e3=>?_))
   .refine Def.ite (by unfold fits;omega) ?_
    exact shUp_defO N (hC.perm hs3.perm) (by omega) (by omega) (by omega) (by omega) hN (by omega) hA3 fun d4 g1 g2=>back d4 (hs3.trans g1) g2
   .refine Def.ite (by unfold fits;omega) ?_
    have:=back d3 hs3 hA3
    rw[cast_succ' j]at this
    exact this
  .refine Def.ite (by unfold fits;omega) (Def.dif (fun e3=>?_) (fun e3=>?_))
   .refine Def.ite (by unfold fits;omega) ?_
    exact shDown_defO ho N (i:=p+1) (j:Int) (hC.perm hs2.perm) (hL.seg hs2) (by omega) (by omega) (by omega) (by omega) hN hA2 fun d4 g1 g2=>hJ _ ⟨d4,hs2.trans g1,g2,rfl⟩
   .exact hJ _ ⟨d2,hs2,fun m n g1 g2 g3=>by omega,rfl⟩
 refine Def.dif (fun e=>?_) (fun e=>stop)
 obtain⟨p,rfl⟩:∃p,q=p+1:=⟨q-1,by omega⟩
 refine cmpP_defO hC' (by omega) (by omega) (fun hlt r hr=>?_) (fun hlt r hr=>?_)
 .rw [hr,zn,ze]
  exact stop
 .rw [hr,zaI,zg]
  have h3:=hC'.other (by omega) (by omega) (by omega) hlt
  refine Def.ite (fits_nat (n:=p+1) (by omega)) (hgo2 _ ⟨p+2,by omega,by omega,fun m n g1 g2 g3=>?_,by rw[cast_succ' (p+1)]⟩ (by show b-(((p+1:Nat):Int)+1).toNat<b-((p+1:Nat):Int).toNat;omega))
  by_cases e2:n=p+1
  .subst e2
   by_cases e3:m=p
   .subst e3;exact h3
   .exact (hQ m p g1 (by omega) (by omega)).trans ho h3
  .exact hQ m n g1 g2 (by omega)
end
section
variable {Y ρ : Type} {c : Y -> Y -> Option Bool} {lt : Y -> Y -> Bool} 
def HeapOkO (c:Y->Y->Option Bool) (lt:Y->Y->Bool) (N:Nat) (hs:List Y->Int->Int->Option (List Y)):Prop:=
 ∀(d:List Y) (a b:Nat),WCompO c lt d->a<=b->b<=d.length->d.length<N->Def (hs d (a:Int) (b:Int)) fun r=>Seg a b d r/\OrdS lt r a b
def PeOkO (c:Y->Y->Option Bool) (lt:Y->Y->Bool) (N:Nat) (pe:List Y->Int->Int->Int->Option (Int×List Y)):Prop:=
 ∀(d:List Y) (a b p:Nat),WCompO c lt d->a<=p->p<b->b<=d.length->d.length<N->Def (pe d (a:Int) (b:Int) (p:Int)) fun r=>∃k:Nat,r.1=(k:Int)/\a<k/\k<=b/\Seg a b d r.2/\r.2[a]? =d[p]? /\∀m,a<m->m<k->leO lt r.2[m]? d[p]?
theorem pdq_defO (ho:WOrd lt) (N:Nat) (hN:N<=16777216) (h5:5<N) (hs:List Y->Int->Int->Option (List Y)) (pe:List Y->Int->Int->Int->Option (Int×List Y)) (hpe:PeOkO c lt N pe):
  ∀(D:Nat) (d:List Y) (a b limit:Nat),WCompO c lt d->Low lt d a b->a<=b->b<=d.length->d.length<N->b-a<D->limit<=1000->(HeapOkO c lt N hs\/b-a<=11+limit)->
   Def (pdqO c hs pe N D d (a:Int) (b:Int) (limit:Int)) fun r=>Seg a b d r/\OrdS lt r a b
 |0,_,_,_,_,_,_,_,_,_,h,_,_=>absurd h (Nat.not_lt_zero _)
 |D+1,d,a,b,limit,hC,hL,hab,hb,hl,hD,hlim,hH=>by
  unfold pdqO
  refine Def.iter (fun g=>∃d':List Y,∃a' b' l':Nat,∃wb wp:Bool,a<=a'/\a'<=b'/\b'<=b/\l'<=1000/\(HeapOkO c lt N hs\/b'-a'<=11+l')/\Seg a b d d'/\Done lt d' a b a' b'/\g=(d',(a':Int),(b':Int),(l':Int),wb,wp)) (fun g=>g.2.2.1.toNat-g.2.1.toNat) ?_ N _
   ⟨d,a,b,limit,true,true,zae _,hab,zae _,hlim,hH,Seg.refl _ _ _,(fun m n g1 g2 g3 g4=>by omega),rfl⟩ (by show((b:Int)).toNat-_<N;omega)
  rintro go _ ⟨d',a',b',l',wb,wp,a1,a2,a3,l1,hH',hS,hDn,rfl⟩ hgo
  dsimp only
  have hdl:=hS.len
  have hC':=hC.perm hS.perm
  have hL':Low lt d' a' b':=hDn.low a1 a3 (hL.seg hS)
  have fin:∀e,Seg a' b' d' e->OrdS lt e a' b'->Seg a b d e/\OrdS lt e a b:=fun e he hA=>⟨hS.trans (he.mono a1 a3),fun m n g1 g2 g3=>by
   by_cases x:m<a'\/b'<=n
   .exact hDn.seg a1 a3 he m n g1 g2 g3 x
   .exact hA m n (by omega) g2 (by omega)⟩
  refine Def.ite (by unfold fits;omega) (Def.dif (fun e12=>?_) (fun e12=>?_))
  .exact Def.bind (ins_defO ho N hC' a2 (by omega) (by omega) (by omega)) fun r ⟨h1,h2⟩=>Def.ret (fin r h1 h2)
  refine Def.dif (fun e0=>?_) (fun e0=>?_)
  .rcases hH' with hp|hp
   .exact Def.bind (hp d' a' b' hC' a2 (by omega) (by omega)) fun r ⟨h1,h2⟩=>Def.ret (fin r h1 h2)
   .omega
  refine Def.meet (fun g=>∃e:List Y,∃l2:Nat,∃wb wp:Bool,l2<=1000/\(HeapOkO c lt N hs\/b'-a'<=12+l2)/\Seg a' b' d' e/\g=(e,(a':Int),(b':Int),(l2:Int),wb,wp,(b':Int)-(a':Int))) ?_ fun J hJ=>?_
  .rintro _ ⟨e,l2,wb,wp,l2h,hH2,hSe,rfl⟩
   dsimp only
   have hel:=hSe.len
   have hCe:=hC'.perm hSe.perm
   refine Def.bind (choose_defO N hCe (by omega) (by omega) (by omega)) fun r4 ⟨hp4,hr4⟩=>?_
   rw[hr4]
   refine Def.meet (fun g=>∃e2:List Y,∃p h:Int,Seg a' b' d' e2/\In a' b' p/\g=(e2,(a':Int),(b':Int),(l2:Int),wb,wp,(b':Int)-(a':Int),p,h)) ?_ fun J2 hJ2=>?_
   .rintro _ ⟨e2,p,h,hS2,hp,rfl⟩
    dsimp only
    have hel2:=hS2.len
    have hC2:=hC'.perm hS2.perm
    refine Def.meet (fun g=>∃e3:List Y,Seg a' b' d' e3/\g=(e3,(a':Int),(b':Int),(l2:Int),wb,wp,(b':Int)-(a':Int),p)) ?_ fun J3 hJ3=>?_
    .rintro _ ⟨e3,hS3,rfl⟩
     dsimp only
     have hel3:=hS3.len
     have hC3:=hC'.perm hS3.perm
     obtain⟨p,rfl,p1,p2⟩:=hp
     have tail:∀X,X=Option.bind (partO c N e3 (a':Int) (b':Int) (p:Int)) (fun(r9:Int×Bool×(List Y))=>
                      (if fits (r9.1-(a':Int))then(if fits ((b':Int)-r9.1)then(if 8≠0 then
                         (if fits (((b':Int)-(a':Int)).tdiv 8)then(bif(decide ((r9.1-(a':Int))<((b':Int)-r9.1)))then
                           (Option.bind (pdqO c hs pe N D r9.2.2 (a':Int) r9.1 (l2:Int)) fun(r10:(List Y))=>
                            (if fits (r9.1+1)then(go (r10,(r9.1+1),(b':Int),(l2:Int),(decide ((((b':Int)-(a':Int)).tdiv 8)<=(r9.1-(a':Int)))),r9.2.1))else none))
                           else
                           (if fits (r9.1+1)then(Option.bind (pdqO c hs pe N D r9.2.2 (r9.1+1) (b':Int) (l2:Int)) fun(r11:(List Y))=>
                             (go (r11,(a':Int),r9.1,(l2:Int),(decide ((((b':Int)-(a':Int)).tdiv 8)<=((b':Int)-r9.1))),r9.2.1)))else none))else none)
                         else none)else none)else none))->Def X fun r=>Seg a b d r/\OrdS lt r a b:=by
      rintro _ rfl
      refine Def.bind (part_defO ho N hC3 p1 p2 (by omega) (by omega) (by omega)) fun r9 ⟨k,hk,hS9,hV⟩=>?_
      rw[hk]
      have k1:=hV.ak
      have k2:=hV.kb
      have hel9:=hS9.len
      have hS9':=hS3.trans hS9
      have hC9:=hC'.perm hS9'.perm
      have hDn9:=hDn.seg a1 a3 hS9'
      have t8:((b':Int)-(a':Int)).tdiv 8=(((b'-a')/8:Nat):Int):=by
       rw[show((b':Int)-(a':Int))=((b'-a':Nat):Int)from by omega];rfl
      refine Def.ite (by unfold fits;omega) (Def.ite (by unfold fits;omega) (Def.ite (by omega) (Def.ite (by rw[t8];unfold fits;omega) ?_)))
      refine Def.dif (fun _=>?_) (fun _=>?_)
      .refine Def.bind (pdq_defO ho N hN h5 hs pe hpe D r9.2.2 a' k l2 hC9 ?_ (by omega) (by omega) (by omega) (by omega) l2h (hH2.imp_right fun h=>by omega)) fun r10 ⟨h1,h2⟩=>?_
       .exact fun h0 m g1 g2=>(hDn9.low a1 a3 ((hL.seg hS).seg (hS9'.mono a1 a3))) h0 m g1 (by omega)
       refine Def.ite (fits_nat (n:=k) (by omega)) (hgo _ ⟨r10,k+1,b',l2,_,_,by omega,by omega,a3,l2h,hH2.imp_right fun h=>by omega,hS.trans ((hS9'.trans (h1.mono (zae _) (by omega))).mono a1 a3),fun m n g1 g2 g3 g4=>?_,by rw[cast_succ']⟩ (by show((b':Int)).toNat-((k:Int)+1).toNat<((b':Int)).toNat-((a':Int)).toNat;omega))
       by_cases x:m<a'\/b'<=n
       .exact hDn9.seg a1 a3 (h1.mono (zae _) (by omega)) m n g1 g2 g3 x
       .exact hV.left ho h1 h2 m n (by omega) (by omega) g2 (by omega)
      .refine Def.ite (fits_nat (n:=k) (by omega)) ?_
       rw[<-cast_succ']
       refine Def.bind (pdq_defO ho N hN h5 hs pe hpe D r9.2.2 (k+1) b' l2 hC9 ?_ (by omega) (by omega) (by omega) (by omega) l2h (hH2.imp_right fun h=>by omega)) fun r11 ⟨h1,h2⟩=>?_
       .exact fun h0 m g1 g2=>by
         rw[zbq];exact hV.high m (by omega) g2
       refine hgo _ ⟨r11,a',k,l2,_,_,a1,k1,by omega,l2h,hH2.imp_right fun h=>by omega,hS.trans ((hS9'.trans (h1.mono (by omega) (zae _))).mono a1 a3),fun m n g1 g2 g3 g4=>?_,rfl⟩ (by show((k:Int)).toNat-((a':Int)).toNat<((b':Int)).toNat-((a':Int)).toNat;omega)
       by_cases x:m<a'\/b'<=n
       .exact hDn9.seg a1 a3 (h1.mono (by omega) (zae _)) m n g1 g2 g3 x
       .exact hV.right ho h1 h2 m n (by omega) g2 (by omega) (by omega)
     refine Def.dif (fun ea=>?_) (fun ea=>tail _ rfl)
     have hL3:=hL'.seg hS3
     have ha0:0<a':=by omega
     refine Def.ite (by unfold fits;omega) ?_
     rw[show((a':Int)-1)=((a'-1:Nat):Int)from by omega]
     have hx:=hL3 ha0 p p1 p2
     refine cmpG_defO (i:=a'-1) (j:=p) hC3 (by omega) (by omega) (fun _ r hr=>?_) (fun hn r hr=>?_)
     .rw [hr,zn,ze]
      exact tail _ rfl
     .rw [hr,zaI,zg]
      refine Def.bind (hpe e3 a' b' p hC3 p1 p2 (by omega) (by omega)) fun r9 ⟨k,hk,k1,k2,hS9,hA0,hA9⟩=>?_
      rw[hk]
      have hel9:=hS9.len
      have hS9':=hS3.trans hS9
      have hC9:=hC'.perm hS9'.perm
      have hDn9:=hDn.seg a1 a3 hS9'
      have hL9:=hL'.seg hS9'
      have hpa:leO lt e3[p]? e3[a'-1]? :=hC3.other (by omega) (by omega) (by omega) hn
      refine hgo _ ⟨r9.2,k,b',l2,_,_,by omega,k2,a3,l2h,hH2.imp_right fun h=>by omega,hS.trans (hS9'.mono a1 a3),fun m n g1 g2 g3 g4=>?_,rfl⟩ (by show((b':Int)).toNat-((k:Int)).toNat<((b':Int)).toNat-((a':Int)).toNat;omega)
      by_cases x:m<a'\/b'<=n
      .exact hDn9 m n g1 g2 g3 x
      .have hout:r9.2[a'-1]? =e3[a'-1]? :=hS9.out _ (by omega)
       have hn9:=hL9 ha0 n (by omega) (by omega)
       rw[hout]at hn9
       have hpn:leO lt e3[p]? r9.2[n]? :=hpa.trans ho hn9
       by_cases em:m=a'
       .rw [em,hA0];exact hpn
       .exact (hA9 m (by omega) (by omega)).trans ho hpn
    .have go3:∀e3,Seg a' b' d' e3->Def (J3 (e3,(a':Int),(b':Int),(l2:Int),wb,wp,(b':Int)-(a':Int),p)) fun r=>Seg a b d r/\OrdS lt r a b:=fun e3 h=>hJ3 _ ⟨e3,h,rfl⟩
     refine Def.bif (fun _=>Def.bif (fun _=>Def.dif (fun _=>?_) (fun _=>go3 e2 hS2)) (fun _=>go3 e2 hS2)) (fun _=>go3 e2 hS2)
     refine Def.bind (pis_defO ho N hC2 (hL'.seg hS2) (by omega) (by omega) (by omega) (by omega) h5) fun r6 ⟨h1,h2⟩=>?_
     exact Def.bif (fun e=>Def.ret (fin _ (hS2.trans h1) (h2 e))) (fun _=>go3 _ (hS2.trans h1))
   .refine Def.dif (fun _=>?_) (fun _=>hJ2 _ ⟨e,r4.1,r4.2.1,hSe,hp4,rfl⟩)
    refine Def.bind (reverse_defO N (by omega) (by omega) (by omega) (by omega)) fun r5 h5=>?_
    obtain⟨q,hq,q1,q2⟩:=hp4
    rw[hq]
    refine Def.ite (by unfold fits;omega) (Def.ite (by unfold fits;omega) (Def.ite (by unfold fits;omega) (hJ2 _ ⟨r5,_,_,hSe.trans h5,⟨b'-1-(q-a'),by omega,by omega,by omega⟩,rfl⟩)))
  .refine Def.bif (fun _=>?_) (fun _=>hJ _ ⟨d',l',wb,wp,l1,hH'.imp_right fun h=>by omega,Seg.refl _ _ _,rfl⟩)
   refine Def.bind (break_defO N a2 (by omega) (by omega) (by omega)) fun r3 h3=>?_
   refine Def.ite (by unfold fits;omega) (hJ _ ⟨r3,l'-1,wb,wp,by omega,hH'.imp_right fun h=>by omega,h3,?_⟩)
   rw[show((l'-1:Nat):Int)=(l':Int)-1 from by omega]
end
section
variable {Y ρ : Type} {c : Y -> Y -> Option Bool} {lt : Y -> Y -> Bool} 
theorem sift_defO (ho:WOrd lt) (N:Nat) {d:List Y} {f lo hi:Nat} (hC:WCompO c lt d) (hb:f+hi<=d.length) (hl:d.length<N) (hN:N<=1099511627776) (hlo:lo<=d.length) (hH:Heap lt d f (lo+1) hi):
  Def (siftO c N d (lo:Int) (hi:Int) (f:Int)) fun r=>Seg f (f+hi) d r/\Heap lt r f lo hi/\∀m,m<lo->r[f+m]? =d[f+m]? :=by
 unfold siftO
 refine Def.iter (fun g=>∃d':List Y,∃r:Nat,lo<=r/\r<=d.length/\Seg f (f+hi) d d'/\(∀m,m<lo->d'[f+m]? =d[f+m]?)/\(∀p q,lo<=p->p≠r->(q=2*p+1\/q=2*p+2)->q<hi->leO lt d'[f+q]? d'[f+p]?)/\
  (∀p q,lo<=p->(r=2*p+1\/r=2*p+2)->(q=2*r+1\/q=2*r+2)->q<hi->leO lt d'[f+q]? d'[f+p]?)/\g=(d',(hi:Int),(f:Int),(r:Int))) (fun g=>hi-g.2.2.2.toNat) ?_ N _
  ⟨d,lo,zae _,hlo,Seg.refl _ _ _,fun _ _=>rfl,fun p q g1 g2 g3 g4=>hH p q (by omega) g3 g4,fun p q g1 g2 g3 g4=>by omega,rfl⟩ (by show hi-_<N;omega)
 rintro go _ ⟨d',r,r1,hbig,hs,hm,hA,hB,rfl⟩ hgo
 dsimp only
 have hdl:=hs.len
 have hC':=hC.perm hs.perm
 .refine Def.ite (by unfold fits;omega) (Def.ite (by unfold fits;omega) (Def.dif (fun e=>?_) (fun e=>?_)))
  .refine Def.ret ⟨hs,fun p q g1 g2 g3=>?_,hm⟩
   by_cases e2:p=r
   .subst e2;omega
   .exact hA p q g1 e2 g2 g3
  refine Def.meet (fun g=>∃ch:Nat,(ch=2*r+1\/ch=2*r+2)/\ch<hi/\(∀q,(q=2*r+1\/q=2*r+2)->q≠ch->q<hi->leO lt d'[f+q]? d'[f+ch]?)/\g=(d',(hi:Int),(f:Int),(r:Int),(ch:Int))) ?_ fun J hJ=>?_
  .rintro _ ⟨ch,c1,c2,c3,rfl⟩
   dsimp only
   rw[show((f:Int)+(r:Int))=((f+r:Nat):Int)from by omega,show((f:Int)+(ch:Int))=((f+ch:Nat):Int)from by omega]
   have lr:f+r<d'.length:=by omega
   have lc:f+ch<d'.length:=by omega
   refine Def.ite (by unfold fits;omega) (Def.ite (by omega) (Def.get1 lr (Def.ite (by unfold fits;omega) (Def.ite (by omega) (Def.get1 lc ?_)))))
   refine cmp2_defO hC' lr lc (fun hlt r2 hr=>?_) (fun hlt r2 hr=>?_)
   .rw [hr,zn,ze]
    refine Def.ite (by unfold fits;omega) (Def.ite (by unfold fits;omega) (Def.ite (by unfold fits;omega) (Def.ite (by omega) (Def.get1 lc (Def.ite (by unfold fits;omega) (Def.ite (by omega) (Def.get1 lr (Def.ite (by omega) (Def.get1 lr (Def.ite (by rw[zap];omega) ?_))))))))))
    have hw:=swp_mk (d:=d') lr lc
    rw[zai,zai,zc (by rw[zap];exact lc),za]
    generalize(d'.set (f+r) d'[f+ch]).set (f+ch) d'[f+r]=d2 at*
    refine hgo _ ⟨d2,ch,by omega,by omega,hs.trans (hw.seg (by omega) (by omega) (by omega) (by omega)),fun m h=>?_,fun p q g1 g2 g3 g4=>?_,fun p q g1 g2 g3 g4=>?_,rfl⟩ (by show hi-((ch:Int)).toNat<hi-((r:Int)).toNat;omega)
    .rw [hw.at',zu (by omega),zu (by omega)];exact hm m h
    .rw [hw.at',hw.at',zu (by omega:¬f+p=f+ch)]
     by_cases e1:p=r
     .subst e1
      rw[zf rfl]
      by_cases e2:q=ch
      .subst e2;rw[zf rfl];exact hlt.le ho
      .rw [zu (by omega),zu (by omega)];exact c3 q g3 e2 g4
     .rw [zu (by omega:¬f+p=f+r),zu (by omega)]
      by_cases e2:q=r
      .subst e2;rw[zf rfl];exact hB p ch g1 g3 c1 c2
      .rw [zu (by omega)];exact hA p q g1 e1 g3 g4
    .have e1:p=r:=by omega
     subst e1
     rw[hw.at',hw.at',zu (by omega),zu (by omega),zu (by omega),zf rfl]
     exact hA ch q (by omega) (by omega) g3 g4
   .rw [hr,zaI,zg]
    have h3:=hC'.other lr lc (by omega) hlt
    refine Def.ret ⟨hs,fun p q g1 g2 g3=>?_,hm⟩
    by_cases e2:p=r
    .subst e2
     by_cases e3:q=ch
     .subst e3;exact h3
     .exact (c3 q g2 e3 g3).trans ho h3
    .exact hA p q g1 e2 g2 g3
  .refine Def.ite (by unfold fits;omega) (Def.dif (fun e2=>?_) (fun e2=>?_))
   .rw [show((f:Int)+(2*(r:Int)+1))=((f+(2*r+1):Nat):Int)from by omega]
    have l1:f+(2*r+1)<d'.length:=by omega
    have l2:f+(2*r+1)+1<d'.length:=by omega
    refine Def.ite (by unfold fits;omega) (Def.ite (by omega) (Def.get1 l1 (Def.ite (by unfold fits;omega) (Def.ite (by unfold fits;omega) ?_))))
    rw[<-cast_succ']
    refine Def.ite (by omega) (Def.get1 l2 ?_)
    refine cmp2_defO hC' l1 l2 (fun hlt r2 hr=>?_) (fun hlt r2 hr=>?_)
    .rw [hr,zg]
     refine Def.ite (by unfold fits;omega) (hJ _ ⟨2*r+2,.inr rfl,by omega,fun q g1 g2 g3=>?_,by rw[show((2*r+2:Nat):Int)=2*(r:Int)+1+1 from by omega]⟩)
     rw[show q=2*r+1 from by omega];exact hlt.le ho
    .rw [hr,ze]
     have h3:=hC'.other l1 l2 (by omega) hlt
     refine hJ _ ⟨2*r+1,.inl rfl,by omega,fun q g1 g2 g3=>?_,by rw[show((2*r+1:Nat):Int)=2*(r:Int)+1 from by omega]⟩
     rw[show q=2*r+2 from by omega];exact h3
   .refine hJ _ ⟨2*r+1,.inl rfl,by omega,fun q g1 g2 g3=>by omega,by rw[show((2*r+1:Nat):Int)=2*(r:Int)+1 from by omega]⟩
theorem heap_okO (ho:WOrd lt) (N:Nat) (hN:N<=1099511627776) (h5:5<N):HeapOkO c lt N (fun d a b=>heapO c N d a b):=by
 intro d a b hC hab hb hl
 show Def (heapO c N d (a:Int) (b:Int)) _
 unfold heapO
 rw[show((b:Int)-(a:Int))=((b-a:Nat):Int)from by omega]
 generalize hn:b-a=n
 have hd2:(((n:Int))-1).tdiv 2=((n-1)/2:Nat):=by
  by_cases e:n=0
  .subst e;rfl
  .rw [show((n:Int))-1=((n-1:Nat):Int)from by omega];rfl
 refine Def.ite (by unfold fits;omega) (Def.ite (by unfold fits;omega) (Def.ite (by omega) (Def.ite (by rw[hd2];unfold fits;omega) ?_)))
 rw[hd2]
 refine Def.iter (fun g=>∃d':List Y,∃i:Nat,i<=n+1/\Seg a b d d'/\Heap lt d' a i n/\g=(d',(a:Int),0,(n:Int),(i:Int)-1)) (fun g=>(g.2.2.2.2+1).toNat) ?_ N _
  ⟨d,(n-1)/2+1,?_,Seg.refl _ _ _,fun p q g1 g2 g3=>by omega,?_⟩ (by show(((n-1)/2:Nat)+1:Int).toNat<N;omega)
 .rintro go _ ⟨d',i,hi,hs,hH,rfl⟩ hgo
  dsimp only
  have hdl:=hs.len
  refine Def.dif (fun e=>?_) (fun e=>?_)
  .obtain ⟨j,rfl⟩:∃j,i=j+1:=⟨i-1,by omega⟩
   rw[show(((j+1:Nat):Int)-1)=(j:Int)from by omega]
   refine Def.bind (sift_defO ho N (hC.perm hs.perm) (f:=a) (lo:=j) (hi:=n) (by omega) (by omega) hN (by omega) hH) fun r ⟨h1,h2,_⟩=>?_
   refine Def.ite (by unfold fits;omega) (hgo _ ⟨r,j,by omega,hs.trans (h1.mono (zae _) (by omega)),h2,rfl⟩ (by show((j:Int)-1+1).toNat<((((j+1:Nat):Int)-1)+1).toNat;omega))
  .obtain rfl:i=0:=by omega
   refine Def.ite (by unfold fits;omega) ?_
   refine Def.iter (fun g=>∃d':List Y,∃i:Nat,i<=n/\Seg a b d d'/\Heap lt d' a 0 i/\(∀m k,m<k->i<=k->k<n->leO lt d'[a+m]? d'[a+k]?)/\g=(d',(a:Int),0,(i:Int)-1)) (fun g=>(g.2.2.2+1).toNat) ?_ N _
    ⟨d',n,zae _,hs,hH,fun m k g1 g2 g3=>by omega,rfl⟩ (by show((n:Int)-1+1).toNat<N;omega)
   rintro go2 _ ⟨d',i,hi,hs,hH,hT,rfl⟩ hgo2
   dsimp only
   have hdl:=hs.len
   refine Def.dif (fun e=>?_) (fun e=>Def.ret ⟨hs,fun m k g1 g2 g3=>?_⟩)
   .obtain ⟨j,rfl⟩:∃j,i=j+1:=⟨i-1,by omega⟩
    rw[show(((j+1:Nat):Int)-1)=(j:Int)from by omega,show((a:Int)+(j:Int))=((a+j:Nat):Int)from by omega]
    refine Def.ite (by unfold fits;omega) (Def.ite (by unfold fits;omega) ?_)
    refine swp_def (by omega) (by omega) fun d2 hw=>?_
    have hs2:=hs.trans (hw.seg (a:=a) (b:=b) (by omega) (by omega) (by omega) (by omega))
    have hd2':=hs2.len
    have hH2:Heap lt d2 a (0+1) j:=fun p q g1 g2 g3=>by
     rw[hw.at',hw.at',zu (by omega),zu (by omega),zu (by omega),zu (by omega)]
     exact hH p q (by omega) g2 (by omega)
    have hT2:∀m k,m<k->j<=k->k<n->leO lt d2[a+m]? d2[a+k]? :=fun m k g1 g2 g3=>by
     rw[hw.at',hw.at']
     by_cases e1:k=j
     .subst e1
      rw[zf rfl,zu (by omega)]
      by_cases e2:m=0
      .subst e2
       rw[zf (by omega)]
       exact hH.top ho k (by omega) (by omega)
      .rw [zu (by omega)]
       exact hH.top ho m (by omega) (by omega)
     .rw [zu (by omega:¬a+k=a+j),zu (by omega:¬a+k=a)]
      by_cases e2:m=j
      .subst e2;rw[zf rfl];exact hT 0 k (by omega) (by omega) g3
      .rw [zu (by omega)]
       by_cases e3:m=0
       .subst e3;rw[zf (by omega)];exact hT j k (by omega) (by omega) g3
       .rw [zu (by omega)];exact hT m k g1 (by omega) g3
    refine Def.bind (sift_defO ho N (hC.perm hs2.perm) (f:=a) (lo:=0) (hi:=j) (by omega) (by omega) hN (by omega) hH2) fun r ⟨h1,h2,_⟩=>?_
    refine Def.ite (by unfold fits;omega) (hgo2 _ ⟨r,j,by omega,hs2.trans (h1.mono (zae _) (by omega)),h2,fun m k g1 g2 g3=>?_,rfl⟩ (by show((j:Int)-1+1).toNat<((((j+1:Nat):Int)-1)+1).toNat;omega))
    rw[h1.out (a+k) (by omega)]
    by_cases e1:m<j
    .obtain ⟨m',x1,x2,x3⟩:=h1.inn (a+m) (by omega) (by omega)
     rw[x3,show m'=a+(m'-a)from by omega]
     exact hT2 (m'-a) k (by omega) g2 g3
    .rw [h1.out (a+m) (by omega)]
     exact hT2 m k g1 g2 g3
   .have hi0:i=0:=by omega
    have:=hT (m-a) (k-a) (by omega) (by omega) (by omega)
    rw[show a+(m-a)=m from by omega,show a+(k-a)=k from by omega]at this
    exact this
 .omega
 .rw [show((((n-1)/2+1:Nat)):Int)-1=(((n-1)/2:Nat):Int)from by omega]
end
section
variable {Y : Type} {c : Y -> Y -> Option Bool} {lt : Y -> Y -> Bool}
def sortO (c:Y->Y->Option Bool) (N:Nat) (x:List Y):Option (List Y):=
 Option.bind (k_math_bits_Len_m N (IntKind.u64.wrap (x.length:Int))) fun r=>
  Option.bind (pdqO c (fun d a b=>heapO c N d a b) (fun d a b p=>peqO c N d a b p) N N x 0 (x.length:Int) r) fun r2=>some r2
theorem sortO_def (ho:WOrd lt) (N:Nat) (hN:N<=16777216) (h5:5<N) (d:List Y) (hC:WCompO c lt d) (hl:d.length<N):
  Def (sortO c N d) fun r=>r.Perm d/\r.Pairwise fun x y=>lt y x=false:=by
 have hH:HeapOkO c lt N (fun d a b=>heapO c N d a b):=heap_okO ho N (by omega) h5
 have hP:PeOkO c lt N (fun d a b p=>peqO c N d a b p):=fun d a b p h1 h2 h3 h4 h5=>peq_defO N h1 h2 h3 h4 h5 (by omega)
 unfold sortO
 by_cases h0:d.length=0
 .obtain rfl:d=[]:=List.length_eq_zero_iff.1 h0
  have e:IntKind.u64.wrap (([]:List Y).length:Int)=0:=by show IntKind.u64.wrap 0=0;decide
  refine Def.bind (P:=fun r=>r=0) ?_ fun r hr=>?_
  .rw [e];exact⟨0,rfl,rfl⟩
  .subst hr
   refine Def.bind (pdq_defO ho N hN h5 _ _ hP N [] 0 0 0 hC (fun h=>by omega) (zae _) (zae _) hl (by omega) (by omega) (.inl hH)) fun r ⟨h1,_⟩=>?_
   have:=List.perm_nil.1 h1.perm
   subst this
   exact Def.ret ⟨List.Perm.refl _,za4⟩
 refine Def.bind (len_bits N d.length (by omega) (by omega)) fun r ⟨n,hn,b1,b2,b3⟩=>?_
 subst hn
 refine Def.bind (pdq_defO ho N hN h5 _ _ hP N d 0 d.length n hC (fun h=>by omega) (zaf _) (zae _) hl (by omega) (by omega) (.inl hH)) fun r ⟨h1,h2⟩=>Def.ret ⟨h1.perm,?_⟩
 have hrl:=h1.len
 refine za2.2 fun i j hi hj hij=>?_
 have:=h2 i j (zaf _) hij (by omega)
 rw[zc hi,zc hj]at this
 exact this
end
def cmp287 (N:Nat):(Int)->(Int)->Option Bool:=(fun(e e2:Int)=>k_cmp_Less_67_m N e e2)
theorem pdqsort_287 (N:Nat):∀(D:Nat) (d:List Int) (a b l:Int),k_slices_pdqsortOrdered_440_m N D d a b l=pdqO (cmp287 N) (fun d a b=>heapO (cmp287 N) N d a b) (fun d a b p=>peqO (cmp287 N) N d a b p) N D d a b l
 |0,_,_,_,_=>rfl
 |D+1,d,a,b,l=>by
  have ih:k_slices_pdqsortOrdered_440_m N D=pdqO (cmp287 N) (fun d a b=>heapO (cmp287 N) N d a b) (fun d a b p=>peqO (cmp287 N) N d a b p) N D:=by funext d a b l;exact pdqsort_287 N D d a b l
  unfold k_slices_pdqsortOrdered_440_m pdqO
  rw[ih]
  rfl
theorem sortWk_287 (lt:(Int)->(Int)->Bool) (ho:WOrd lt) (N:Nat) (hN:N<=16777216) (h5:5<N) (d:List Int) (hC:WCompO (cmp287 N) lt d) (hl:d.length<N):
  Def (k_slices_Sort_287_m N d) fun r=>r.Perm d/\r.Pairwise fun x y=>lt y x=false:=by
 have e:k_slices_Sort_287_m N d=sortO (cmp287 N) N d:=by
  unfold k_slices_Sort_287_m sortO
  refine congrArg _ (funext fun r=>?_)
  rw[pdqsort_287]
 rw[e];exact sortO_def ho N hN h5 d hC hl
end Go.Proofs.YtibcadmdkehmhaaGreat
