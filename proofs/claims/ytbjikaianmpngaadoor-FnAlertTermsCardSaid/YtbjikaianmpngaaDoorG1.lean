import Derived.Test.YtbjikaianmpngaaDoorG1A
set_option linter.unusedVariables false
set_option linter.unusedSimpArgs false
namespace Go.Proofs.YtbjikaianmpngaaDoor
open Go.RowKit Go.Proofs.Tryd
variable (N : Nat)
open Option renaming bind -> oB
def jUk :Sh:=⟨.mtk 800000 .str 9 true::pI::dz 7 (pI::pI::dz 73 []),[]⟩
def jUy (i:List Z0) (h:Int) (y:Int) (m:Int):Option (Int×(List Z0)):=
 (if 0<=m/\m<(i.length:Int)then oB (i[m.toNat]?) fun t=>(if 0<=h/\h<(i.length:Int)then oB (i[h.toNat]?) fun T=>(if 0<=h/\h<(i.length:Int)then oB (i[h.toNat]?) fun af=>(if 0<=m/\m<((i.set h.toNat t).length:Int)then oB ((i.set h.toNat t)[m.toNat]?) fun ai=>(if fits (h+1)then if fits (y-1)then iter (fun q (P,V,E,D)=>iter (fun I (k,n,j,r)=>bif decide (j<=r)then if 0<=n/\n<(k.length:Int)then oB (k[n.toNat]?) fun C=>(if 0<=j/\j<(k.length:Int)then oB (k[j.toNat]?) fun L=>(oB (k_cmp_Less_571_m N C L) fun B=>bif !B then if fits (j+1)then I (k,n,(j+1),r)else none else iter (fun W (f,o,a,c)=>bif decide (a<=c)then if 0<=o/\o<(f.length:Int)then oB (f[o.toNat]?) fun R=>(if 0<=c/\c<(f.length:Int)then oB (f[c.toNat]?) fun X=>(oB (k_cmp_Less_571_m N R X) fun U=>bif U then if fits (c-1)then W (f,o,a,(c-1))else none else bif decide (c<a)then some (a,f)else if 0<=c/\c<(f.length:Int)then oB (f[c.toNat]?) fun w=>(if 0<=a/\a<(f.length:Int)then oB (f[a.toNat]?) fun O=>(if 0<=a/\a<(f.length:Int)then oB (f[a.toNat]?) fun ad=>(if 0<=c/\c<((f.set a.toNat w).length:Int)then oB ((f.set a.toNat w)[c.toNat]?) fun ac=>(if fits (a+1)then if fits (c-1)then q (((f.set a.toNat w).set c.toNat O),o,(a+1),(c-1))else none else none)else none)else none)else none)else none)else none)else none else bif decide (c<a)then some (a,f)else if 0<=c/\c<(f.length:Int)then oB (f[c.toNat]?) fun x=>(if 0<=a/\a<(f.length:Int)then oB (f[a.toNat]?) fun G=>(if 0<=a/\a<(f.length:Int)then oB (f[a.toNat]?) fun ag=>(if 0<=c/\c<((f.set a.toNat x).length:Int)then oB ((f.set a.toNat x)[c.toNat]?) fun ae=>(if fits (a+1)then if fits (c-1)then q (((f.set a.toNat x).set c.toNat G),o,(a+1),(c-1))else none else none)else none)else none)else none)else none) N (k,n,j,r))else none)else none else iter (fun Q (e,p,b,d)=>bif decide (b<=d)then if 0<=p/\p<(e.length:Int)then oB (e[p.toNat]?) fun H=>(if 0<=d/\d<(e.length:Int)then oB (e[d.toNat]?) fun K=>(oB (k_cmp_Less_571_m N H K) fun A=>bif A then if fits (d-1)then Q (e,p,b,(d-1))else none else bif decide (d<b)then some (b,e)else if 0<=d/\d<(e.length:Int)then oB (e[d.toNat]?) fun u=>(if 0<=b/\b<(e.length:Int)then oB (e[b.toNat]?) fun z=>(if 0<=b/\b<(e.length:Int)then oB (e[b.toNat]?) fun aa=>(if 0<=d/\d<((e.set b.toNat u).length:Int)then oB ((e.set b.toNat u)[d.toNat]?) fun aj=>(if fits (b+1)then if fits (d-1)then q (((e.set b.toNat u).set d.toNat z),p,(b+1),(d-1))else none else none)else none)else none)else none)else none)else none)else none else bif decide (d<b)then some (b,e)else if 0<=d/\d<(e.length:Int)then oB (e[d.toNat]?) fun v=>(if 0<=b/\b<(e.length:Int)then oB (e[b.toNat]?) fun S=>(if 0<=b/\b<(e.length:Int)then oB (e[b.toNat]?) fun ab=>(if 0<=d/\d<((e.set b.toNat v).length:Int)then oB ((e.set b.toNat v)[d.toNat]?) fun ah=>(if fits (b+1)then if fits (d-1)then q (((e.set b.toNat v).set d.toNat S),p,(b+1),(d-1))else none else none)else none)else none)else none)else none) N (k,n,j,r)) N (P,V,E,D)) N (((i.set h.toNat t).set m.toNat T),h,(h+1),(y-1))else none else none)else none)else none)else none)else none)
theorem jV2 :mK 74 (bX [.mtk 800000 .str 9 true,pI,pI,pI] [pI,.mtk 800000 .str 9 true] (c4A (jUy N))):=
 mO (fC (jTG N) ja) func74 rfl N (.seq .no (.seq .no (.seq .no (.seq (.block (.loop jUk (.block (.seq (.block (.loop jUk .no)) (.seq (.block (.loop jUk .no)) .no))))) .no)))) _ (rs:=[800000])
def jTO :Sh:=⟨.mtk 800000 .str 9 true::pI::dz 8 (pI::pI::dz 156 []),[]⟩
def jUe (data:List Z0) (a:Int) (b:Int) (pivot:Int):Option (Int×Bool×(List Z0)):=
 (if 0<=pivot/\pivot<(data.length:Int)then oB (data[pivot.toNat]?) fun e=>(if 0<=a/\a<(data.length:Int)then oB (data[a.toNat]?) fun e2=>(if 0<=a/\a<(data.length:Int)then oB (data[a.toNat]?) fun e3=>(if 0<=pivot/\pivot<((data.set a.toNat e).length:Int)then oB ((data.set a.toNat e)[pivot.toNat]?) fun e4=>(if fits (a+1)then if fits (b-1)then iter (fun go (data2,a2,i,j)=>bif decide (i<=j)then if 0<=i/\i<(data2.length:Int)then oB (data2[i.toNat]?) fun e5=>(if 0<=a2/\a2<(data2.length:Int)then oB (data2[a2.toNat]?) fun e6=>(oB (k_cmp_Less_571_m N e5 e6) fun r=>bif r then if fits (i+1)then go (data2,a2,(i+1),j)else none else iter (fun go2 (data3,a3,i2,j2)=>bif decide (i2<=j2)then if 0<=j2/\j2<(data3.length:Int)then oB (data3[j2.toNat]?) fun e7=>(if 0<=a3/\a3<(data3.length:Int)then oB (data3[a3.toNat]?) fun e8=>(oB (k_cmp_Less_571_m N e7 e8) fun r2=>bif !r2 then if fits (j2-1)then go2 (data3,a3,i2,(j2-1))else none else bif decide (j2<i2)then if 0<=a3/\a3<(data3.length:Int)then oB (data3[a3.toNat]?) fun e9=>(if 0<=j2/\j2<(data3.length:Int)then oB (data3[j2.toNat]?) fun e10=>(if 0<=j2/\j2<(data3.length:Int)then oB (data3[j2.toNat]?) fun e11=>(if 0<=a3/\a3<((data3.set j2.toNat e9).length:Int)then oB ((data3.set j2.toNat e9)[a3.toNat]?) fun e12=>(some (j2,true,((data3.set j2.toNat e9).set a3.toNat e10)))else none)else none)else none)else none else if 0<=j2/\j2<(data3.length:Int)then oB (data3[j2.toNat]?) fun e13=>(if 0<=i2/\i2<(data3.length:Int)then oB (data3[i2.toNat]?) fun e14=>(if 0<=i2/\i2<(data3.length:Int)then oB (data3[i2.toNat]?) fun e15=>(if 0<=j2/\j2<((data3.set i2.toNat e13).length:Int)then oB ((data3.set i2.toNat e13)[j2.toNat]?) fun e16=>(if fits (i2+1)then if fits (j2-1)then iter (fun go3 (data4,a4,i3,j3)=>iter (fun go4 (data5,a5,i4,j4)=>bif decide (i4<=j4)then if 0<=i4/\i4<(data5.length:Int)then oB (data5[i4.toNat]?) fun e17=>(if 0<=a5/\a5<(data5.length:Int)then oB (data5[a5.toNat]?) fun e18=>(oB (k_cmp_Less_571_m N e17 e18) fun r3=>bif r3 then if fits (i4+1)then go4 (data5,a5,(i4+1),j4)else none else iter (fun go5 (data6,a6,i5,j5)=>bif decide (i5<=j5)then if 0<=j5/\j5<(data6.length:Int)then oB (data6[j5.toNat]?) fun e19=>(if 0<=a6/\a6<(data6.length:Int)then oB (data6[a6.toNat]?) fun e20=>(oB (k_cmp_Less_571_m N e19 e20) fun r4=>bif !r4 then if fits (j5-1)then go5 (data6,a6,i5,(j5-1))else none else bif decide (j5<i5)then if 0<=a6/\a6<(data6.length:Int)then oB (data6[a6.toNat]?) fun e21=>(if 0<=j5/\j5<(data6.length:Int)then oB (data6[j5.toNat]?) fun e22=>(if 0<=j5/\j5<(data6.length:Int)then oB (data6[j5.toNat]?) fun e23=>(if 0<=a6/\a6<((data6.set j5.toNat e21).length:Int)then oB ((data6.set j5.toNat e21)[a6.toNat]?) fun e24=>(some (j5,false,((data6.set j5.toNat e21).set a6.toNat e22)))else none)else none)else none)else none else if 0<=j5/\j5<(data6.length:Int)then oB (data6[j5.toNat]?) fun e25=>(if 0<=i5/\i5<(data6.length:Int)then oB (data6[i5.toNat]?) fun e26=>(if 0<=i5/\i5<(data6.length:Int)then oB (data6[i5.toNat]?) fun e27=>(if 0<=j5/\j5<((data6.set i5.toNat e25).length:Int)then oB ((data6.set i5.toNat e25)[j5.toNat]?) fun e28=>(if fits (i5+1)then if fits (j5-1)then go3 (((data6.set i5.toNat e25).set j5.toNat e26),a6,(i5+1),(j5-1))else none else none)else none)else none)else none)else none)else none)else none else bif decide (j5<i5)then if 0<=a6/\a6<(data6.length:Int)then oB (data6[a6.toNat]?) fun e29=>(if 0<=j5/\j5<(data6.length:Int)then oB (data6[j5.toNat]?) fun e30=>(if 0<=j5/\j5<(data6.length:Int)then oB (data6[j5.toNat]?) fun e31=>(if 0<=a6/\a6<((data6.set j5.toNat e29).length:Int)then oB ((data6.set j5.toNat e29)[a6.toNat]?) fun e32=>(some (j5,false,((data6.set j5.toNat e29).set a6.toNat e30)))else none)else none)else none)else none else if 0<=j5/\j5<(data6.length:Int)then oB (data6[j5.toNat]?) fun e33=>(if 0<=i5/\i5<(data6.length:Int)then oB (data6[i5.toNat]?) fun e34=>(if 0<=i5/\i5<(data6.length:Int)then oB (data6[i5.toNat]?) fun e35=>(if 0<=j5/\j5<((data6.set i5.toNat e33).length:Int)then oB ((data6.set i5.toNat e33)[j5.toNat]?) fun e36=>(if fits (i5+1)then if fits (j5-1)then go3 (((data6.set i5.toNat e33).set j5.toNat e34),a6,(i5+1),(j5-1))else none else none)else none)else none)else none)else none) N (data5,a5,i4,j4))else none)else none else iter (fun go6 (data7,a7,i6,j6)=>bif decide (i6<=j6)then if 0<=j6/\j6<(data7.length:Int)then oB (data7[j6.toNat]?) fun e37=>(if 0<=a7/\a7<(data7.length:Int)then oB (data7[a7.toNat]?) fun e38=>(oB (k_cmp_Less_571_m N e37 e38) fun r5=>bif !r5 then if fits (j6-1)then go6 (data7,a7,i6,(j6-1))else none else bif decide (j6<i6)then if 0<=a7/\a7<(data7.length:Int)then oB (data7[a7.toNat]?) fun e39=>(if 0<=j6/\j6<(data7.length:Int)then oB (data7[j6.toNat]?) fun e40=>(if 0<=j6/\j6<(data7.length:Int)then oB (data7[j6.toNat]?) fun e41=>(if 0<=a7/\a7<((data7.set j6.toNat e39).length:Int)then oB ((data7.set j6.toNat e39)[a7.toNat]?) fun e42=>(some (j6,false,((data7.set j6.toNat e39).set a7.toNat e40)))else none)else none)else none)else none else if 0<=j6/\j6<(data7.length:Int)then oB (data7[j6.toNat]?) fun e43=>(if 0<=i6/\i6<(data7.length:Int)then oB (data7[i6.toNat]?) fun e44=>(if 0<=i6/\i6<(data7.length:Int)then oB (data7[i6.toNat]?) fun e45=>(if 0<=j6/\j6<((data7.set i6.toNat e43).length:Int)then oB ((data7.set i6.toNat e43)[j6.toNat]?) fun e46=>(if fits (i6+1)then if fits (j6-1)then go3 (((data7.set i6.toNat e43).set j6.toNat e44),a7,(i6+1),(j6-1))else none else none)else none)else none)else none)else none)else none)else none else bif decide (j6<i6)then if 0<=a7/\a7<(data7.length:Int)then oB (data7[a7.toNat]?) fun e47=>(if 0<=j6/\j6<(data7.length:Int)then oB (data7[j6.toNat]?) fun e48=>(if 0<=j6/\j6<(data7.length:Int)then oB (data7[j6.toNat]?) fun e49=>(if 0<=a7/\a7<((data7.set j6.toNat e47).length:Int)then oB ((data7.set j6.toNat e47)[a7.toNat]?) fun e50=>(some (j6,false,((data7.set j6.toNat e47).set a7.toNat e48)))else none)else none)else none)else none else if 0<=j6/\j6<(data7.length:Int)then oB (data7[j6.toNat]?) fun e51=>(if 0<=i6/\i6<(data7.length:Int)then oB (data7[i6.toNat]?) fun e52=>(if 0<=i6/\i6<(data7.length:Int)then oB (data7[i6.toNat]?) fun e53=>(if 0<=j6/\j6<((data7.set i6.toNat e51).length:Int)then oB ((data7.set i6.toNat e51)[j6.toNat]?) fun e54=>(if fits (i6+1)then if fits (j6-1)then go3 (((data7.set i6.toNat e51).set j6.toNat e52),a7,(i6+1),(j6-1))else none else none)else none)else none)else none)else none) N (data5,a5,i4,j4)) N (data4,a4,i3,j3)) N (((data3.set i2.toNat e13).set j2.toNat e14),a3,(i2+1),(j2-1))else none else none)else none)else none)else none)else none)else none)else none else bif decide (j2<i2)then if 0<=a3/\a3<(data3.length:Int)then oB (data3[a3.toNat]?) fun e55=>(if 0<=j2/\j2<(data3.length:Int)then oB (data3[j2.toNat]?) fun e56=>(if 0<=j2/\j2<(data3.length:Int)then oB (data3[j2.toNat]?) fun e57=>(if 0<=a3/\a3<((data3.set j2.toNat e55).length:Int)then oB ((data3.set j2.toNat e55)[a3.toNat]?) fun e58=>(some (j2,true,((data3.set j2.toNat e55).set a3.toNat e56)))else none)else none)else none)else none else if 0<=j2/\j2<(data3.length:Int)then oB (data3[j2.toNat]?) fun e59=>(if 0<=i2/\i2<(data3.length:Int)then oB (data3[i2.toNat]?) fun e60=>(if 0<=i2/\i2<(data3.length:Int)then oB (data3[i2.toNat]?) fun e61=>(if 0<=j2/\j2<((data3.set i2.toNat e59).length:Int)then oB ((data3.set i2.toNat e59)[j2.toNat]?) fun e62=>(if fits (i2+1)then if fits (j2-1)then iter (fun go7 (data8,a8,i7,j7)=>iter (fun go8 (data9,a9,i8,j8)=>bif decide (i8<=j8)then if 0<=i8/\i8<(data9.length:Int)then oB (data9[i8.toNat]?) fun e63=>(if 0<=a9/\a9<(data9.length:Int)then oB (data9[a9.toNat]?) fun e64=>(oB (k_cmp_Less_571_m N e63 e64) fun r6=>bif r6 then if fits (i8+1)then go8 (data9,a9,(i8+1),j8)else none else iter (fun go9 (data10,a10,i9,j9)=>bif decide (i9<=j9)then if 0<=j9/\j9<(data10.length:Int)then oB (data10[j9.toNat]?) fun e65=>(if 0<=a10/\a10<(data10.length:Int)then oB (data10[a10.toNat]?) fun e66=>(oB (k_cmp_Less_571_m N e65 e66) fun r7=>bif !r7 then if fits (j9-1)then go9 (data10,a10,i9,(j9-1))else none else bif decide (j9<i9)then if 0<=a10/\a10<(data10.length:Int)then oB (data10[a10.toNat]?) fun e67=>(if 0<=j9/\j9<(data10.length:Int)then oB (data10[j9.toNat]?) fun e68=>(if 0<=j9/\j9<(data10.length:Int)then oB (data10[j9.toNat]?) fun e69=>(if 0<=a10/\a10<((data10.set j9.toNat e67).length:Int)then oB ((data10.set j9.toNat e67)[a10.toNat]?) fun e70=>(some (j9,false,((data10.set j9.toNat e67).set a10.toNat e68)))else none)else none)else none)else none else if 0<=j9/\j9<(data10.length:Int)then oB (data10[j9.toNat]?) fun e71=>(if 0<=i9/\i9<(data10.length:Int)then oB (data10[i9.toNat]?) fun e72=>(if 0<=i9/\i9<(data10.length:Int)then oB (data10[i9.toNat]?) fun e73=>(if 0<=j9/\j9<((data10.set i9.toNat e71).length:Int)then oB ((data10.set i9.toNat e71)[j9.toNat]?) fun e74=>(if fits (i9+1)then if fits (j9-1)then go7 (((data10.set i9.toNat e71).set j9.toNat e72),a10,(i9+1),(j9-1))else none else none)else none)else none)else none)else none)else none)else none else bif decide (j9<i9)then if 0<=a10/\a10<(data10.length:Int)then oB (data10[a10.toNat]?) fun e75=>(if 0<=j9/\j9<(data10.length:Int)then oB (data10[j9.toNat]?) fun e76=>(if 0<=j9/\j9<(data10.length:Int)then oB (data10[j9.toNat]?) fun e77=>(if 0<=a10/\a10<((data10.set j9.toNat e75).length:Int)then oB ((data10.set j9.toNat e75)[a10.toNat]?) fun e78=>(some (j9,false,((data10.set j9.toNat e75).set a10.toNat e76)))else none)else none)else none)else none else if 0<=j9/\j9<(data10.length:Int)then oB (data10[j9.toNat]?) fun e79=>(if 0<=i9/\i9<(data10.length:Int)then oB (data10[i9.toNat]?) fun e80=>(if 0<=i9/\i9<(data10.length:Int)then oB (data10[i9.toNat]?) fun e81=>(if 0<=j9/\j9<((data10.set i9.toNat e79).length:Int)then oB ((data10.set i9.toNat e79)[j9.toNat]?) fun e82=>(if fits (i9+1)then if fits (j9-1)then go7 (((data10.set i9.toNat e79).set j9.toNat e80),a10,(i9+1),(j9-1))else none else none)else none)else none)else none)else none) N (data9,a9,i8,j8))else none)else none else iter (fun go10 (data11,a11,i10,j10)=>bif decide (i10<=j10)then if 0<=j10/\j10<(data11.length:Int)then oB (data11[j10.toNat]?) fun e83=>(if 0<=a11/\a11<(data11.length:Int)then oB (data11[a11.toNat]?) fun e84=>(oB (k_cmp_Less_571_m N e83 e84) fun r8=>bif !r8 then if fits (j10-1)then go10 (data11,a11,i10,(j10-1))else none else bif decide (j10<i10)then if 0<=a11/\a11<(data11.length:Int)then oB (data11[a11.toNat]?) fun e85=>(if 0<=j10/\j10<(data11.length:Int)then oB (data11[j10.toNat]?) fun e86=>(if 0<=j10/\j10<(data11.length:Int)then oB (data11[j10.toNat]?) fun e87=>(if 0<=a11/\a11<((data11.set j10.toNat e85).length:Int)then oB ((data11.set j10.toNat e85)[a11.toNat]?) fun e88=>(some (j10,false,((data11.set j10.toNat e85).set a11.toNat e86)))else none)else none)else none)else none else if 0<=j10/\j10<(data11.length:Int)then oB (data11[j10.toNat]?) fun e89=>(if 0<=i10/\i10<(data11.length:Int)then oB (data11[i10.toNat]?) fun e90=>(if 0<=i10/\i10<(data11.length:Int)then oB (data11[i10.toNat]?) fun e91=>(if 0<=j10/\j10<((data11.set i10.toNat e89).length:Int)then oB ((data11.set i10.toNat e89)[j10.toNat]?) fun e92=>(if fits (i10+1)then if fits (j10-1)then go7 (((data11.set i10.toNat e89).set j10.toNat e90),a11,(i10+1),(j10-1))else none else none)else none)else none)else none)else none)else none)else none else bif decide (j10<i10)then if 0<=a11/\a11<(data11.length:Int)then oB (data11[a11.toNat]?) fun e93=>(if 0<=j10/\j10<(data11.length:Int)then oB (data11[j10.toNat]?) fun e94=>(if 0<=j10/\j10<(data11.length:Int)then oB (data11[j10.toNat]?) fun e95=>(if 0<=a11/\a11<((data11.set j10.toNat e93).length:Int)then oB ((data11.set j10.toNat e93)[a11.toNat]?) fun e96=>(some (j10,false,((data11.set j10.toNat e93).set a11.toNat e94)))else none)else none)else none)else none else if 0<=j10/\j10<(data11.length:Int)then oB (data11[j10.toNat]?) fun e97=>(if 0<=i10/\i10<(data11.length:Int)then oB (data11[i10.toNat]?) fun e98=>(if 0<=i10/\i10<(data11.length:Int)then oB (data11[i10.toNat]?) fun e99=>(if 0<=j10/\j10<((data11.set i10.toNat e97).length:Int)then oB ((data11.set i10.toNat e97)[j10.toNat]?) fun e100=>(if fits (i10+1)then if fits (j10-1)then go7 (((data11.set i10.toNat e97).set j10.toNat e98),a11,(i10+1),(j10-1))else none else none)else none)else none)else none)else none) N (data9,a9,i8,j8)) N (data8,a8,i7,j7)) N (((data3.set i2.toNat e59).set j2.toNat e60),a3,(i2+1),(j2-1))else none else none)else none)else none)else none)else none) N (data2,a2,i,j))else none)else none else iter (fun go11 (data12,a12,i11,j11)=>bif decide (i11<=j11)then if 0<=j11/\j11<(data12.length:Int)then oB (data12[j11.toNat]?) fun e101=>(if 0<=a12/\a12<(data12.length:Int)then oB (data12[a12.toNat]?) fun e102=>(oB (k_cmp_Less_571_m N e101 e102) fun r9=>bif !r9 then if fits (j11-1)then go11 (data12,a12,i11,(j11-1))else none else bif decide (j11<i11)then if 0<=a12/\a12<(data12.length:Int)then oB (data12[a12.toNat]?) fun e103=>(if 0<=j11/\j11<(data12.length:Int)then oB (data12[j11.toNat]?) fun e104=>(if 0<=j11/\j11<(data12.length:Int)then oB (data12[j11.toNat]?) fun e105=>(if 0<=a12/\a12<((data12.set j11.toNat e103).length:Int)then oB ((data12.set j11.toNat e103)[a12.toNat]?) fun e106=>(some (j11,true,((data12.set j11.toNat e103).set a12.toNat e104)))else none)else none)else none)else none else if 0<=j11/\j11<(data12.length:Int)then oB (data12[j11.toNat]?) fun e107=>(if 0<=i11/\i11<(data12.length:Int)then oB (data12[i11.toNat]?) fun e108=>(if 0<=i11/\i11<(data12.length:Int)then oB (data12[i11.toNat]?) fun e109=>(if 0<=j11/\j11<((data12.set i11.toNat e107).length:Int)then oB ((data12.set i11.toNat e107)[j11.toNat]?) fun e110=>(if fits (i11+1)then if fits (j11-1)then iter (fun go12 (data13,a13,i12,j12)=>iter (fun go13 (data14,a14,i13,j13)=>bif decide (i13<=j13)then if 0<=i13/\i13<(data14.length:Int)then oB (data14[i13.toNat]?) fun e111=>(if 0<=a14/\a14<(data14.length:Int)then oB (data14[a14.toNat]?) fun e112=>(oB (k_cmp_Less_571_m N e111 e112) fun r10=>bif r10 then if fits (i13+1)then go13 (data14,a14,(i13+1),j13)else none else iter (fun go14 (data15,a15,i14,j14)=>bif decide (i14<=j14)then if 0<=j14/\j14<(data15.length:Int)then oB (data15[j14.toNat]?) fun e113=>(if 0<=a15/\a15<(data15.length:Int)then oB (data15[a15.toNat]?) fun e114=>(oB (k_cmp_Less_571_m N e113 e114) fun r11=>bif !r11 then if fits (j14-1)then go14 (data15,a15,i14,(j14-1))else none else bif decide (j14<i14)then if 0<=a15/\a15<(data15.length:Int)then oB (data15[a15.toNat]?) fun e115=>(if 0<=j14/\j14<(data15.length:Int)then oB (data15[j14.toNat]?) fun e116=>(if 0<=j14/\j14<(data15.length:Int)then oB (data15[j14.toNat]?) fun e117=>(if 0<=a15/\a15<((data15.set j14.toNat e115).length:Int)then oB ((data15.set j14.toNat e115)[a15.toNat]?) fun e118=>(some (j14,false,((data15.set j14.toNat e115).set a15.toNat e116)))else none)else none)else none)else none else if 0<=j14/\j14<(data15.length:Int)then oB (data15[j14.toNat]?) fun e119=>(if 0<=i14/\i14<(data15.length:Int)then oB (data15[i14.toNat]?) fun e120=>(if 0<=i14/\i14<(data15.length:Int)then oB (data15[i14.toNat]?) fun e121=>(if 0<=j14/\j14<((data15.set i14.toNat e119).length:Int)then oB ((data15.set i14.toNat e119)[j14.toNat]?) fun e122=>(if fits (i14+1)then if fits (j14-1)then go12 (((data15.set i14.toNat e119).set j14.toNat e120),a15,(i14+1),(j14-1))else none else none)else none)else none)else none)else none)else none)else none else bif decide (j14<i14)then if 0<=a15/\a15<(data15.length:Int)then oB (data15[a15.toNat]?) fun e123=>(if 0<=j14/\j14<(data15.length:Int)then oB (data15[j14.toNat]?) fun e124=>(if 0<=j14/\j14<(data15.length:Int)then oB (data15[j14.toNat]?) fun e125=>(if 0<=a15/\a15<((data15.set j14.toNat e123).length:Int)then oB ((data15.set j14.toNat e123)[a15.toNat]?) fun e126=>(some (j14,false,((data15.set j14.toNat e123).set a15.toNat e124)))else none)else none)else none)else none else if 0<=j14/\j14<(data15.length:Int)then oB (data15[j14.toNat]?) fun e127=>(if 0<=i14/\i14<(data15.length:Int)then oB (data15[i14.toNat]?) fun e128=>(if 0<=i14/\i14<(data15.length:Int)then oB (data15[i14.toNat]?) fun e129=>(if 0<=j14/\j14<((data15.set i14.toNat e127).length:Int)then oB ((data15.set i14.toNat e127)[j14.toNat]?) fun e130=>(if fits (i14+1)then if fits (j14-1)then go12 (((data15.set i14.toNat e127).set j14.toNat e128),a15,(i14+1),(j14-1))else none else none)else none)else none)else none)else none) N (data14,a14,i13,j13))else none)else none else iter (fun go15 (data16,a16,i15,j15)=>bif decide (i15<=j15)then if 0<=j15/\j15<(data16.length:Int)then oB (data16[j15.toNat]?) fun e131=>(if 0<=a16/\a16<(data16.length:Int)then oB (data16[a16.toNat]?) fun e132=>(oB (k_cmp_Less_571_m N e131 e132) fun r12=>bif !r12 then if fits (j15-1)then go15 (data16,a16,i15,(j15-1))else none else bif decide (j15<i15)then if 0<=a16/\a16<(data16.length:Int)then oB (data16[a16.toNat]?) fun e133=>(if 0<=j15/\j15<(data16.length:Int)then oB (data16[j15.toNat]?) fun e134=>(if 0<=j15/\j15<(data16.length:Int)then oB (data16[j15.toNat]?) fun e135=>(if 0<=a16/\a16<((data16.set j15.toNat e133).length:Int)then oB ((data16.set j15.toNat e133)[a16.toNat]?) fun e136=>(some (j15,false,((data16.set j15.toNat e133).set a16.toNat e134)))else none)else none)else none)else none else if 0<=j15/\j15<(data16.length:Int)then oB (data16[j15.toNat]?) fun e137=>(if 0<=i15/\i15<(data16.length:Int)then oB (data16[i15.toNat]?) fun e138=>(if 0<=i15/\i15<(data16.length:Int)then oB (data16[i15.toNat]?) fun e139=>(if 0<=j15/\j15<((data16.set i15.toNat e137).length:Int)then oB ((data16.set i15.toNat e137)[j15.toNat]?) fun e140=>(if fits (i15+1)then if fits (j15-1)then go12 (((data16.set i15.toNat e137).set j15.toNat e138),a16,(i15+1),(j15-1))else none else none)else none)else none)else none)else none)else none)else none else bif decide (j15<i15)then if 0<=a16/\a16<(data16.length:Int)then oB (data16[a16.toNat]?) fun e141=>(if 0<=j15/\j15<(data16.length:Int)then oB (data16[j15.toNat]?) fun e142=>(if 0<=j15/\j15<(data16.length:Int)then oB (data16[j15.toNat]?) fun e143=>(if 0<=a16/\a16<((data16.set j15.toNat e141).length:Int)then oB ((data16.set j15.toNat e141)[a16.toNat]?) fun e144=>(some (j15,false,((data16.set j15.toNat e141).set a16.toNat e142)))else none)else none)else none)else none else if 0<=j15/\j15<(data16.length:Int)then oB (data16[j15.toNat]?) fun e145=>(if 0<=i15/\i15<(data16.length:Int)then oB (data16[i15.toNat]?) fun e146=>(if 0<=i15/\i15<(data16.length:Int)then oB (data16[i15.toNat]?) fun e147=>(if 0<=j15/\j15<((data16.set i15.toNat e145).length:Int)then oB ((data16.set i15.toNat e145)[j15.toNat]?) fun e148=>(if fits (i15+1)then if fits (j15-1)then go12 (((data16.set i15.toNat e145).set j15.toNat e146),a16,(i15+1),(j15-1))else none else none)else none)else none)else none)else none) N (data14,a14,i13,j13)) N (data13,a13,i12,j12)) N (((data12.set i11.toNat e107).set j11.toNat e108),a12,(i11+1),(j11-1))else none else none)else none)else none)else none)else none)else none)else none else bif decide (j11<i11)then if 0<=a12/\a12<(data12.length:Int)then oB (data12[a12.toNat]?) fun e149=>(if 0<=j11/\j11<(data12.length:Int)then oB (data12[j11.toNat]?) fun e150=>(if 0<=j11/\j11<(data12.length:Int)then oB (data12[j11.toNat]?) fun e151=>(if 0<=a12/\a12<((data12.set j11.toNat e149).length:Int)then oB ((data12.set j11.toNat e149)[a12.toNat]?) fun e152=>(some (j11,true,((data12.set j11.toNat e149).set a12.toNat e150)))else none)else none)else none)else none else if 0<=j11/\j11<(data12.length:Int)then oB (data12[j11.toNat]?) fun e153=>(if 0<=i11/\i11<(data12.length:Int)then oB (data12[i11.toNat]?) fun e154=>(if 0<=i11/\i11<(data12.length:Int)then oB (data12[i11.toNat]?) fun e155=>(if 0<=j11/\j11<((data12.set i11.toNat e153).length:Int)then oB ((data12.set i11.toNat e153)[j11.toNat]?) fun e156=>(if fits (i11+1)then if fits (j11-1)then iter (fun go16 (data17,a17,i16,j16)=>iter (fun go17 (data18,a18,i17,j17)=>bif decide (i17<=j17)then if 0<=i17/\i17<(data18.length:Int)then oB (data18[i17.toNat]?) fun e157=>(if 0<=a18/\a18<(data18.length:Int)then oB (data18[a18.toNat]?) fun e158=>(oB (k_cmp_Less_571_m N e157 e158) fun r13=>bif r13 then if fits (i17+1)then go17 (data18,a18,(i17+1),j17)else none else iter (fun go18 (data19,a19,i18,j18)=>bif decide (i18<=j18)then if 0<=j18/\j18<(data19.length:Int)then oB (data19[j18.toNat]?) fun e159=>(if 0<=a19/\a19<(data19.length:Int)then oB (data19[a19.toNat]?) fun e160=>(oB (k_cmp_Less_571_m N e159 e160) fun r14=>bif !r14 then if fits (j18-1)then go18 (data19,a19,i18,(j18-1))else none else bif decide (j18<i18)then if 0<=a19/\a19<(data19.length:Int)then oB (data19[a19.toNat]?) fun e161=>(if 0<=j18/\j18<(data19.length:Int)then oB (data19[j18.toNat]?) fun e162=>(if 0<=j18/\j18<(data19.length:Int)then oB (data19[j18.toNat]?) fun e163=>(if 0<=a19/\a19<((data19.set j18.toNat e161).length:Int)then oB ((data19.set j18.toNat e161)[a19.toNat]?) fun e164=>(some (j18,false,((data19.set j18.toNat e161).set a19.toNat e162)))else none)else none)else none)else none else if 0<=j18/\j18<(data19.length:Int)then oB (data19[j18.toNat]?) fun e165=>(if 0<=i18/\i18<(data19.length:Int)then oB (data19[i18.toNat]?) fun e166=>(if 0<=i18/\i18<(data19.length:Int)then oB (data19[i18.toNat]?) fun e167=>(if 0<=j18/\j18<((data19.set i18.toNat e165).length:Int)then oB ((data19.set i18.toNat e165)[j18.toNat]?) fun e168=>(if fits (i18+1)then if fits (j18-1)then go16 (((data19.set i18.toNat e165).set j18.toNat e166),a19,(i18+1),(j18-1))else none else none)else none)else none)else none)else none)else none)else none else bif decide (j18<i18)then if 0<=a19/\a19<(data19.length:Int)then oB (data19[a19.toNat]?) fun e169=>(if 0<=j18/\j18<(data19.length:Int)then oB (data19[j18.toNat]?) fun e170=>(if 0<=j18/\j18<(data19.length:Int)then oB (data19[j18.toNat]?) fun e171=>(if 0<=a19/\a19<((data19.set j18.toNat e169).length:Int)then oB ((data19.set j18.toNat e169)[a19.toNat]?) fun e172=>(some (j18,false,((data19.set j18.toNat e169).set a19.toNat e170)))else none)else none)else none)else none else if 0<=j18/\j18<(data19.length:Int)then oB (data19[j18.toNat]?) fun e173=>(if 0<=i18/\i18<(data19.length:Int)then oB (data19[i18.toNat]?) fun e174=>(if 0<=i18/\i18<(data19.length:Int)then oB (data19[i18.toNat]?) fun e175=>(if 0<=j18/\j18<((data19.set i18.toNat e173).length:Int)then oB ((data19.set i18.toNat e173)[j18.toNat]?) fun e176=>(if fits (i18+1)then if fits (j18-1)then go16 (((data19.set i18.toNat e173).set j18.toNat e174),a19,(i18+1),(j18-1))else none else none)else none)else none)else none)else none) N (data18,a18,i17,j17))else none)else none else iter (fun go19 (data20,a20,i19,j19)=>bif decide (i19<=j19)then if 0<=j19/\j19<(data20.length:Int)then oB (data20[j19.toNat]?) fun e177=>(if 0<=a20/\a20<(data20.length:Int)then oB (data20[a20.toNat]?) fun e178=>(oB (k_cmp_Less_571_m N e177 e178) fun r15=>bif !r15 then if fits (j19-1)then go19 (data20,a20,i19,(j19-1))else none else bif decide (j19<i19)then if 0<=a20/\a20<(data20.length:Int)then oB (data20[a20.toNat]?) fun e179=>(if 0<=j19/\j19<(data20.length:Int)then oB (data20[j19.toNat]?) fun e180=>(if 0<=j19/\j19<(data20.length:Int)then oB (data20[j19.toNat]?) fun e181=>(if 0<=a20/\a20<((data20.set j19.toNat e179).length:Int)then oB ((data20.set j19.toNat e179)[a20.toNat]?) fun e182=>(some (j19,false,((data20.set j19.toNat e179).set a20.toNat e180)))else none)else none)else none)else none else if 0<=j19/\j19<(data20.length:Int)then oB (data20[j19.toNat]?) fun e183=>(if 0<=i19/\i19<(data20.length:Int)then oB (data20[i19.toNat]?) fun e184=>(if 0<=i19/\i19<(data20.length:Int)then oB (data20[i19.toNat]?) fun e185=>(if 0<=j19/\j19<((data20.set i19.toNat e183).length:Int)then oB ((data20.set i19.toNat e183)[j19.toNat]?) fun e186=>(if fits (i19+1)then if fits (j19-1)then go16 (((data20.set i19.toNat e183).set j19.toNat e184),a20,(i19+1),(j19-1))else none else none)else none)else none)else none)else none)else none)else none else bif decide (j19<i19)then if 0<=a20/\a20<(data20.length:Int)then oB (data20[a20.toNat]?) fun e187=>(if 0<=j19/\j19<(data20.length:Int)then oB (data20[j19.toNat]?) fun e188=>(if 0<=j19/\j19<(data20.length:Int)then oB (data20[j19.toNat]?) fun e189=>(if 0<=a20/\a20<((data20.set j19.toNat e187).length:Int)then oB ((data20.set j19.toNat e187)[a20.toNat]?) fun e190=>(some (j19,false,((data20.set j19.toNat e187).set a20.toNat e188)))else none)else none)else none)else none else if 0<=j19/\j19<(data20.length:Int)then oB (data20[j19.toNat]?) fun e191=>(if 0<=i19/\i19<(data20.length:Int)then oB (data20[i19.toNat]?) fun e192=>(if 0<=i19/\i19<(data20.length:Int)then oB (data20[i19.toNat]?) fun e193=>(if 0<=j19/\j19<((data20.set i19.toNat e191).length:Int)then oB ((data20.set i19.toNat e191)[j19.toNat]?) fun e194=>(if fits (i19+1)then if fits (j19-1)then go16 (((data20.set i19.toNat e191).set j19.toNat e192),a20,(i19+1),(j19-1))else none else none)else none)else none)else none)else none) N (data18,a18,i17,j17)) N (data17,a17,i16,j16)) N (((data12.set i11.toNat e153).set j11.toNat e154),a12,(i11+1),(j11-1))else none else none)else none)else none)else none)else none) N (data2,a2,i,j)) N (((data.set a.toNat e).set pivot.toNat e2),a,(a+1),(b-1))else none else none)else none)else none)else none)else none)
theorem jWe :mK 75 (bX [.mtk 800000 .str 9 true,pI,pI,pI] [.tup [pI,pB],.mtk 800000 .str 9 true] (c4A (jUe N))):=
 mO (fC (jTG N) ja) func75 rfl N (.seq .no (.seq .no (.seq .no (.seq (.block (.loop jTO .no)) (.seq (.block (.loop jTO .no)) (.seq .no (.seq .no (.seq .no (.seq .no (.seq (.block (.loop jTO (.block (.seq (.block (.loop jTO .no)) (.seq (.block (.loop jTO .no)) .no))))) .no)))))))))) _ (rs:=[800000])
def jVu :Sh:=⟨.mtk 800000 .str 9 true::pI::pI::pI::dz 4 (pB::pB::dz 124 []),[]⟩
def jVH :Sh:=⟨.mtk 800000 .str 9 true::pI::pI::pI::dz 4 (pB::pB::pI::pI::dz 122 []),[]⟩
def jVa :Sh:=⟨.mtk 800000 .str 9 true::pI::pI::pI::dz 4 (pB::pB::pI::pI::pI::dz 121 []),[]⟩
def jVj :Sh:=⟨.mtk 800000 .str 9 true::pI::pI::pI::dz 4 (pB::pB::pI::dz 123 []),[]⟩
def k_slices_pdqsortOrdered_289_m (N:Nat):(D:Nat)->(List Z0)->Int->Int->Int->Z8
 |0,_,_,_,_=>none
 |D+1,data,a,b,limit=>
 iter (fun go (g:(List Z0)×Int×Int×Int×Bool×Bool)=>
 match g with
 |(data2,a2,b2,limit2,wasBalanced,wasPartitioned)=>
 if fits (b2-a2)then bif decide ((b2-a2)<=12)then
 oB (jUB N data2 a2 b2) fun r=>
 (some r)
 else
 (bif decide (limit2=0)then
 oB (jUC N data2 a2 b2) fun r2=>
 (some r2)
 else
 meet (fun(g:(List Z0)×Int×Int×Int×Bool×Bool×Int)=>
 match g with
 |(data3,a3,b3,limit3,wasBalanced2,wasPartitioned2,length)=>
 oB (jUp N data3 a3 b3) fun r4=>
 meet (fun(g:(List Z0)×Int×Int×Int×Bool×Bool×Int×Int×Int)=>
 match g with
 |(data4,a4,b4,limit4,wasBalanced3,wasPartitioned3,length2,pivot,hint)=>
 meet (fun(g:(List Z0)×Int×Int×Int×Bool×Bool×Int×Int)=>
 match g with
 |(data5,a5,b5,limit5,wasBalanced4,wasPartitioned4,length3,pivot2)=>
 bif decide ((0:Int)<a5)then
 if fits (a5-1)then if 0<=(a5-1)/\(a5-1)<(data5.length:Int)then
 oB (data5[(a5-1).toNat]?) fun e=>
 (if 0<=pivot2/\pivot2<(data5.length:Int)then
 oB (data5[pivot2.toNat]?) fun e2=>
 (oB (k_cmp_Less_571_m N e e2) fun r7=>
 bif !r7 then
 oB (jUy N data5 a5 b5 pivot2) fun r8=>
 (go (r8.2,r8.1,b5,limit5,wasBalanced4,wasPartitioned4))
 else
 oB (jUe N data5 a5 b5 pivot2) fun r9=>
 if fits (r9.1-a5)then if fits (b5-r9.1)then if 8≠0 then
 if fits (length3.tdiv 8)then bif decide ((r9.1-a5)<(b5-r9.1))then
 oB (k_slices_pdqsortOrdered_289_m N D r9.2.2 a5 r9.1 limit5) fun r10=>
 (if fits (r9.1+1)then go (r10,(r9.1+1),b5,limit5,(decide ((length3.tdiv 8)<=(r9.1-a5))),r9.2.1)else none)
 else
 (if fits (r9.1+1)then oB (k_slices_pdqsortOrdered_289_m N D r9.2.2 (r9.1+1) b5 limit5) fun r11=>
 (go (r11,a5,r9.1,limit5,(decide ((length3.tdiv 8)<=(b5-r9.1))),r9.2.1))else none)else none
 else none else none else none)
 else none)
 else none else none
 else
 oB (jUe N data5 a5 b5 pivot2) fun r12=>
 if fits (r12.1-a5)then if fits (b5-r12.1)then if 8≠0 then
 if fits (length3.tdiv 8)then bif decide ((r12.1-a5)<(b5-r12.1))then
 oB (k_slices_pdqsortOrdered_289_m N D r12.2.2 a5 r12.1 limit5) fun r13=>
 (if fits (r12.1+1)then go (r13,(r12.1+1),b5,limit5,(decide ((length3.tdiv 8)<=(r12.1-a5))),r12.2.1)else none)
 else
 (if fits (r12.1+1)then oB (k_slices_pdqsortOrdered_289_m N D r12.2.2 (r12.1+1) b5 limit5) fun r14=>
 (go (r14,a5,r12.1,limit5,(decide ((length3.tdiv 8)<=(b5-r12.1))),r12.2.1))else none)else none
 else none else none else none) fun J3=>
 bif wasBalanced3 then
 bif wasPartitioned3 then
 bif decide (hint=1)then
 oB (jUI N data4 a4 b4) fun r6=>
 (bif r6.1 then
 some r6.2
 else
 J3 (r6.2,a4,b4,limit4,wasBalanced3,wasPartitioned3,length2,pivot))
 else
 (J3 (data4,a4,b4,limit4,wasBalanced3,wasPartitioned3,length2,pivot))
 else
 (J3 (data4,a4,b4,limit4,wasBalanced3,wasPartitioned3,length2,pivot))
 else
 J3 (data4,a4,b4,limit4,wasBalanced3,wasPartitioned3,length2,pivot)) fun J2=>
 bif decide (r4.2.1=2)then
 oB (jUO N r4.2.2 a3 b3) fun r5=>
 (if fits (b3-1)then if fits (r4.1-a3)then if fits ((b3-1)-(r4.1-a3))then J2 (r5,a3,b3,limit3,wasBalanced2,wasPartitioned2,length,((b3-1)-(r4.1-a3)),1)else none else none else none)
 else
 J2 (r4.2.2,a3,b3,limit3,wasBalanced2,wasPartitioned2,length,r4.1,r4.2.1)) fun J=>
 bif !wasBalanced then
 oB (jUA N data2 a2 b2) fun r3=>
 (if fits (limit2-1)then J (r3,a2,b2,(limit2-1),wasBalanced,wasPartitioned,(b2-a2))else none)
 else
 J (data2,a2,b2,limit2,wasBalanced,wasPartitioned,(b2-a2)))else none) N (data,a,b,limit,true,true)
def jT3 (N D:Nat):Model:=⟨⟨[.mtk 800000 .str 9 true,pI,pI,pI],[]⟩,⟨[.tup [],.mtk 800000 .str 9 true],[]⟩,c4A (k_slices_pdqsortOrdered_289_m N D)⟩
theorem jU2 (N D:Nat) (ih:mK 53 (jT3 N D)):mK 53 (jT3 N (D+1)):=
 mO (fC ih (fC (jV8 N) (fC (jVv N) (fC (jV9 N) (fC (jVy N) (fC (jWg N) (fC (jU6 N) (fC (jTG N) (fC (jV2 N) (fC (jWe N) ja)))))))))) func53 rfl N (.seq .no (.seq .no (.block (.loop jVu (.block (.seq .no (.seq .no (.seq .no (.meet jVj .no (.seq .no (.meet jVa .no (.meet jVH .no .no)))))))))))) (jT3 N (D+1)) (rs:=[800000])
theorem jUE (N:Nat):∀D,mK 53 (jT3 N D)
 |0=>modelOk_none ⟨_,func53,by decide,by kernel_rfl⟩ _ (fun a=>rfl)
 |D+1=>jU2 N D (jUE N D)
def k_slices_Sort_146_m (a:List Z0):Z8:=
 (oB (k_math_bits_Len_m N (IntKind.u64.wrap (a.length:Int))) fun c=>oB (k_slices_pdqsortOrdered_289_m N N a 0 (a.length:Int) c) fun b=>some b)
theorem jVJ :mK 33 (bX [.mtk 800000 .str 9 true] [.tup [],.mtk 800000 .str 9 true] (c1A (k_slices_Sort_146_m N))):=
 mO (fC (jda N) (fC (jUE N N) ja)) func33 rfl N .no _ (rs:=[800000])
def jVg :Sh:=⟨dz 3 (.mtk 600003 .str 9 true::dz 3 (.box 2000000007 0::dz 11 [])),[(1000900000,false,[.pv (.sl (.pair .str .bool))]),(2000000007,false,[.box 1000900000 0,pI,pI,pI])]⟩
noncomputable def jTU (f:List (Z0×Bool)):Option ((List Z0)×Z10):=
 (iter (fun i (c,a,d,e,l)=>if(a.length:Int)=d then bif(leftI a.length (Int.toNat e)).isEmpty then oB (k_slices_Sort_146_m N c) fun j=>(some (j,a))else(anyOf (leftI a.length (Int.toNat e)) fun b=>if 0<((b+1:Nat):Int)/\(a.length:Int)=d then oB (a[Int.toNat ((b+1:Nat):Int)-1]?) fun h=>(if room c.length ([h.1]:List Z0).length 16 then i ((c++([h.1]:List Z0)),a,d,((Int.toNat e|||2^b:Nat):Int),((b+1:Nat):Int))else none)else none)else none) N (([]:List Z0),f,(f.length:Int),(0:Int),(0:Int)))
theorem jU0 :mK 16 ⟨⟨[.box 1000900000 0],[(1000900000,false,[.pv (.sl (.pair .str .bool))])]⟩,⟨[.own 1 .str 9 true],[(1000900000,false,[.pv (.sl (.pair .str .bool))])]⟩,c1A (jTU N)⟩:=
 mO (fC (jVJ N) ja) func16 rfl N (.seq .no (.seq .no (.seq (.seq .no (.block (.loop jVg .no))) .no))) _ (wr:=[5,14,15]) (rs:=[1000900000])
def jV5 :Sh:=⟨dz 3 (.box 3 0:: .dead:: .box 1000000008 0::dz 9 (.pv (.sl (.pair .str .q))::pI::pI::dz 11 [])),[(3,false,[.pv (.sl .str),.pv Y2]),(1000000008,false,[.pv (.sl (.pair .str .bool))])]⟩
def jVE :Sh:=⟨dz 5 (.box 1000000008 0::dz 23 []),[(1000000008,false,[.pv (.sl (.pair .str .bool))])]⟩
noncomputable def jTK (d:List (Z0×DQ)) (f:List Z0) (i:List Z1):Z8:=
 (meet (fun(e:Z10)=>let b2:=e;(oB (jTU N b2) fun o=>some o.1)) fun c=>oB (jGU N d) fun q=>bif q then oB (jaj N f i) fun r=>(bif r then iter (fun n (k,h,b,m,j,l)=>bif decide (b<h)then oB (idx k b) fun a=>(oB (jTJ N N m j a.2.kind a.2.field a.2.words a.2.lo a.2.hi a.2.kids l) fun p=>if fits (b+1)then n (k,h,(b+1),m,j,p)else none)else c l) N (d,(d.length:Int),(0:Int),f,i,([]:List (Z0×Bool)))else c ([]:List (Z0×Bool)))else c ([]:List (Z0×Bool)))
theorem jVz :mK 5 (bX [.pv (.sl (.pair .str .q)),.agg [.pv (.sl .str),.pv Y2]] [.own 1 .str 9 true] (c3A (jTK N))):=
 mO (fC (jFt N) (fC (jdX N) (fC (jUV N N) (fC (jU0 N) ja)))) func5 rfl N (.seq .no (.seq .no (.meet jVE (.seq .no (.cond (.seq .no (.block (.loop jV5 .no))) .no)) .no))) _
def jt (N:Nat) (a:Int):Option (Int):=
 (bif decide ((65:Int)<=a)then bif decide (a<=90)then some (IntKind.u8.wrap (a+32))else(bif decide ((97:Int)<=a)then bif decide (a<=122)then some a else(bif decide ((48:Int)<=a)then bif decide (a<=57)then some a else(some 0)else some 0)else bif decide ((48:Int)<=a)then bif decide (a<=57)then some a else(some 0)else some 0)else bif decide ((97:Int)<=a)then bif decide (a<=122)then some a else(bif decide ((48:Int)<=a)then bif decide (a<=57)then some a else(some 0)else some 0)else bif decide ((48:Int)<=a)then bif decide (a<=57)then some a else(some 0)else some 0)
theorem jfG :mK 55 (bX [.pv (.int .u8)] [.pv (.int .u8)] (c1A (jt N))):=
 mO ja func55 rfl N .no _
def jJ (N:Nat) (a:Int) (b:Int) (c:Int):Z4:=
 (bif decide (b<=a)then some (decide (a<=c))else some false)
theorem jcL :mK 38 (bX [pI,pI,pI] [pB] (c3A (jJ N))):=
 mO ja func38 rfl N .no _
def jr5 :Sh:=⟨pS:: .dead:: .dead::pI::dz 23 [],[]⟩
def jT (f:List UInt8):Z4:=
 (iter (fun c (a,b)=>bif decide (b<(a.length:Int))then oB (idx a b) fun e=>(oB (jt N (e.toNat:Int)) fun d=>oB (idx a b) fun j=>bif !decide (d=(j.toNat:Int))then some false else oB (idx a b) fun h=>bif decide ((h.toNat:Int)=0)then some false else if fits (b+1)then c (a,(b+1))else none)else oB (jJ N (a.length:Int) 1 12) fun i=>some i) N (f,(0:Int)))
theorem jgp :mK 34 (bX [pS] [pB] (c1A (jT N))):=
 mO (fC (jfG N) (fC (jcL N) ja)) func34 rfl N (.seq .no (.seq (.seq .no (.block (.loop jr5 .no))) .no)) _
def jxz (N:Nat) (k:Int) (i:List UInt8) (f:List Z0) (c:Int) (d:Int) (b:List DQ) (j:Bool) (h:Bool) (e:Bool) (a:Bool):Z4:=
 (bif j then bif h then bif e then bif a then some true else(some (decide ((b.length:Int)=0)))else(bif decide (c=0)then bif decide (d=0)then bif a then some true else(some (decide ((b.length:Int)=0)))else(some false)else some false)else(bif decide ((f.length:Int)=0)then bif e then bif a then some true else(some (decide ((b.length:Int)=0)))else(bif decide (c=0)then bif decide (d=0)then bif a then some true else(some (decide ((b.length:Int)=0)))else(some false)else some false)else some false)else bif decide (i=([]:List UInt8))then bif h then bif e then bif a then some true else(some (decide ((b.length:Int)=0)))else(bif decide (c=0)then bif decide (d=0)then bif a then some true else(some (decide ((b.length:Int)=0)))else(some false)else some false)else(bif decide ((f.length:Int)=0)then bif e then bif a then some true else(some (decide ((b.length:Int)=0)))else(bif decide (c=0)then bif decide (d=0)then bif a then some true else(some (decide ((b.length:Int)=0)))else(some false)else some false)else some false)else some false)
theorem jDV :mK 90 (bX [.agg [pI,pS,.pv (.sl .str),pI,pI,.pv (.sl .q)],pB,pB,pB,pB] [pB] (c10A (jxz N))):=
 mO ja func90 rfl N .no _
def jDt :Sh:=⟨.pv (.sl .str)::pI::dz 3 (pI::dz 16 []),[]⟩
def jxL (i:List Z0) (j:Int):Z4:=
 (iter (fun d (a,c,b)=>bif decide (b<(a.length:Int))then oB (idx a b) fun f=>(oB (jT N f) fun e=>bif !e then some false else if fits (b+1)then d (a,c,(b+1))else none)else oB (jJ N (a.length:Int) 1 c) fun h=>some h) N (i,j,(0:Int)))
theorem jDs :mK 91 (bX [.pv (.sl .str),pI] [pB] (c2A (jxL N))):=
 mO (fC (jgp N) (fC (jcL N) ja)) func91 rfl N (.seq .no (.seq (.seq .no (.block (.loop jDt .no))) .no)) _
def jBL :Sh:=⟨pS:: .dead:: .dead::pI::dz 28 [],[]⟩
def jyk (i:List UInt8):Z4:=
 (iter (fun c (b,a)=>bif decide (a<(b.length:Int))then oB (idx b a) fun f=>(bif !decide ((f.toNat:Int)=42)then oB (idx b a) fun j=>(bif !decide ((j.toNat:Int)=63)then if fits (a+1)then oB (cut b a (a+1)) fun d=>(oB (jT N d) fun e=>bif !e then some false else if fits (a+1)then c (b,(a+1))else none)else none else if fits (a+1)then c (b,(a+1))else none)else if fits (a+1)then c (b,(a+1))else none)else oB (jJ N (b.length:Int) 1 12) fun h=>some h) N (i,(0:Int)))
theorem jC1 :mK 92 (bX [pS] [pB] (c1A (jyk N))):=
 mO (fC (jgp N) (fC (jcL N) ja)) func92 rfl N (.seq .no (.seq (.seq .no (.block (.loop jBL .no))) .no)) _
def jDP :Sh:=⟨.dead:: .box 1 0:: .dead::pI::dz 4 (pI::dz 123 (pB::dz 34 [])),[(1,false,[pI,pS,.pv (.sl .str),pI,pI,.pv (.sl .q)])]⟩
def jyq (a:Int) (c:List UInt8) (b:List Z0) (d:Int) (e:Int) (f:List DQ):Z4:=
 (bif decide (a=1)then oB (jxz N a c b d e f false false false false) fun C=>(some C)else bif decide (a=2)then oB (jxz N a c b d e f true true false false) fun W=>(bif W then oB (jT N c) fun y=>(bif y then oB (jxL N b 1) fun v=>(some v)else some false)else some false)else bif decide (a=3)then oB (jxz N a c b d e f true true true false) fun S=>(bif S then oB (jT N c) fun U=>(bif U then oB (jxL N b 4) fun L=>(bif L then bif decide ((1:Int)<b.length)then bif decide (e=0)then oB (jJ N d 0 5) fun G=>(some G)else(some false)else(some false)else some false)else some false)else some false)else bif decide (a=4)then oB (jxz N a c b d e f true true true false) fun D=>(bif D then oB (jT N c) fun I=>(bif I then oB (jxL N b 1) fun H=>(bif H then bif decide (e=0)then oB (jJ N d 1 2) fun T=>(some T)else(some false)else some false)else some false)else some false)else bif decide (a=5)then oB (jxz N a c b d e f true true false false) fun O=>(bif O then oB (jT N c) fun z=>(bif z then bif decide ((b.length:Int)=1)then oB (idx b 0) fun x=>(oB (jyk N x) fun V=>bif V then oB (idx b 0) fun X=>(oB (jT N X) fun P=>some (!P))else some false)else(some false)else some false)else some false)else bif decide (a=6)then oB (jxz N a c b d e f true false true false) fun r=>(bif r then oB (jT N c) fun q=>(bif q then oB (jJ N d 0 999999999) fun w=>(bif w then oB (jJ N e d 999999999) fun K=>(some K)else some false)else some false)else some false)else meet (fun(A:Int×Int×Bool×Int×Z0×(List Z0)×Int×Int×(List DQ))=>match A with|(j,p,B,k,l,n,h,i,m)=>bif B then oB (jxz N k l n h i m false false false true) fun Q=>(bif Q then oB (jJ N j 2 4) fun t=>(some t)else some false)else bif decide (p=9)then oB (jxz N k l n h i m false false false true) fun E=>(bif E then some (decide (j=2))else some false)else bif decide (p=10)then oB (jxz N k l n h i m false false true true) fun u=>(bif u then bif decide (j=1)then bif decide (i=0)then oB (jJ N h 2 9) fun R=>(some R)else(some false)else(some false)else some false)else some false) fun o=>bif decide (a=7)then o ((f.length:Int),a,true,a,c,b,d,e,f)else o ((f.length:Int),a,(decide (a=8)),a,c,b,d,e,f))
theorem jBO :mK 78 (bX [.agg [pI,pS,.pv (.sl .str),pI,pI,.pv (.sl .q)]] [pB] (c6A (jyq N))):=
 mO (fC (jDV N) (fC (jgp N) (fC (jDs N) (fC (jcL N) (fC (jC1 N) ja))))) func78 rfl N (.seq .no (.seq .no (.seq (.seq .no (.block (.seq .no (.cond .no (.seq .no (.cond .no (.seq .no (.cond .no (.seq .no (.cond .no (.seq .no (.cond .no (.seq .no (.cond .no (.meet jDP .no .no))))))))))))))) .no))) _
def jD7 :Sh:=⟨.dead::pI:: .box 2 0:: .dead:: .dead::pI::dz 23 [],[(2,false,[pI,pS,.pv (.sl .str),pI,pI,.pv (.sl .q)])]⟩
def jxO (N:Nat):(D:Nat)->Int->Z0->(List Z0)->Int->Int->(List DQ)->Int->Z4
 |0,_,_,_,_,_,_,_=>none
 |D+1,q,q2,q3,q4,q5,q6,deep=>
 bif decide (deep=0)then
 some false
 else
 oB (jyq N q q2 q3 q4 q5 q6) fun r=>
 bif !r then
 some false
 else
 iter (fun go (g:Int×Int×Int×Z0×(List Z0)×Int×Int×(List DQ))=>
 match g with
 |(deep2,i,q7,q8,q9,q10,q11,q12)=>
 bif decide (i<(q12.length:Int))then
 oB (idx q12 i) fun e=>
 (if fits (deep2-1)then oB (jxO N D e.kind e.field e.words e.lo e.hi e.kids (deep2-1)) fun r2=>
 (bif !r2 then
 some false
 else
 if fits (i+1)then go (deep2,(i+1),q7,q8,q9,q10,q11,q12)else none)else none)
 else
 some true) N (deep,0,q,q2,q3,q4,q5,q6)
def jx9 (N D:Nat):Model:=⟨⟨[.agg [pI,pS,.pv (.sl .str),pI,pI,.pv (.sl .q)],pI],[]⟩,⟨[pB],[]⟩,c7A (jxO N D)⟩
theorem jBT (N D:Nat) (ih:mK 56 (jx9 N D)):mK 56 (jx9 N (D+1)):=
 mO (fC ih (fC (jBO N) ja)) func56 rfl N (.seq .no (.seq .no (.seq (.seq .no (.block (.loop jD7 .no))) .no))) (jx9 N (D+1))
theorem jzV (N:Nat):∀D,mK 56 (jx9 N D)
 |0=>modelOk_none ⟨_,func56,by decide,by kernel_rfl⟩ _ (fun a=>rfl)
 |D+1=>jBT N D (jzV N D)
def jE5 (c:Int) (h:List UInt8) (b:List Z0) (a:Int) (d:Int) (f:List DQ):Z4:=
 (oB (jxO N N c h b a d f 4) fun e=>some e)
theorem jBX :mK 35 (bX [.agg [pI,pS,.pv (.sl .str),pI,pI,.pv (.sl .q)]] [pB] (c6A (jE5 N))):=
 mO (fC (jzV N N) ja) func35 rfl N .no _
def jGb :Sh:=⟨.pv (.sl (.pair .str .q)):: .dead:: .dead::pI::dz 43 [],[]⟩
def jE4 (k:List (Z0×DQ)):Z4:=
 (iter (fun d (b,a)=>bif decide (a<(b.length:Int))then oB (idx b a) fun i=>(oB (jT N i.1) fun h=>bif !h then some false else oB (idx b a) fun c=>oB (jE5 N c.2.kind c.2.field c.2.words c.2.lo c.2.hi c.2.kids) fun j=>bif !j then some false else bif decide ((0:Int)<a)then oB (idx b a) fun e=>(if fits (a-1)then oB (idx b (a-1)) fun f=>(bif Op.bytesLess e.1 f.1||decide (e.1=f.1)then some false else if fits (a+1)then d (b,(a+1))else none)else none)else if fits (a+1)then d (b,(a+1))else none)else some (decide ((b.length:Int)<=6))) N (k,(0:Int)))
theorem jFd :mK 17 (bX [.pv (.sl (.pair .str .q))] [pB] (c1A (jE4 N))):=
 mO (fC (jgp N) (fC (jBX N) ja)) func17 rfl N (.seq .no (.seq (.seq .no (.block (.loop jGb .no))) .no)) _
def jdI (N:Nat):Z8:=
 (some ([([105,110,103]:List UInt8),([101,100]:List UInt8),([101,115]:List UInt8),([108,121]:List UInt8),([115]:List UInt8)]:List Z0))
theorem jkj :mK 79 ⟨⟨[],[]⟩,⟨[.own 1 .str 9 true],[]⟩,fun a=>jdI N⟩:=
 mO ja func79 rfl N .no _
def jl2 :Sh:=⟨pS:: .dead:: .dead::pI::dz 30 [],[]⟩
def ja6 (i:List UInt8):Option (Z0):=
 (iter (fun d (a,b)=>oB (jdI N) fun h=>bif decide (b<(h.length:Int))then oB (jdI N) fun j=>(oB (idx j b) fun c=>if fits ((a.length:Int)-(c.length:Int))then bif decide ((3:Int)<=((a.length:Int)-(c.length:Int)))then oB (cut a ((a.length:Int)-(c.length:Int)) (a.length:Int)) fun f=>(bif decide (f=c)then oB (cut a 0 ((a.length:Int)-(c.length:Int))) fun e=>(some e)else if fits (b+1)then d (a,(b+1))else none)else(if fits (b+1)then d (a,(b+1))else none)else none)else some a) N (i,(0:Int)))
theorem jtL :mK 57 (bX [pS] [pS] (c1A (ja6 N))):=
 mO (fC (jkj N) ja) func57 rfl N (.seq .no (.seq (.seq .no (.block (.loop jl2 .no))) .no)) _
def jto :Sh:=⟨pS::dz 9 [],[]⟩
def jaq (e:List UInt8):Option (Z0):=
 (iter (fun b (d:Z0)=>let s2:=d;(oB (ja6 N s2) fun c=>bif !decide (c=s2)then oB (ja6 N s2) fun a=>(b a)else some s2)) N e)
theorem jfZ :mK 36 (bX [pS] [pS] (c1A (jaq N))):=
 mO (fC (jtL N) ja) func36 rfl N (.seq .no (.seq (.block (.loop jto .no)) .no)) _
def jlY :Sh:=⟨.pv (.sl .str)::pS::dz 3 (pI::dz 12 []),[]⟩
def jap (h:List Z0) (f:List UInt8):Z4:=
 (iter (fun d (b,c,a)=>bif decide (a<(b.length:Int))then oB (idx b a) fun e=>(bif decide (e=c)then some true else if fits (a+1)then d (b,c,(a+1))else none)else some false) N (h,f,(0:Int)))
theorem jhP :mK 37 (bX [.pv (.sl .str),pS] [pB] (c2A (jap N))):=
 mO ja func37 rfl N (.seq .no (.seq (.seq .no (.block (.loop jlY .no))) .no)) _
def jrs :Sh:=⟨.dead:: .box 1 0:: .dead::pI::dz 114 [],[(1,false,[.pv (.sl .str),.pv Y2])]⟩
def js0 :Sh:=⟨.dead:: .box 1 0:: .dead:: .dead::pI::dz 113 [],[(1,false,[.pv (.sl .str),.pv Y2])]⟩
def jrc :Sh:=⟨.dead:: .box 1 0:: .dead:: .dead::pI:: .box 5 0::pI::dz 111 [],[(1,false,[.pv (.sl .str),.pv Y2]),(5,false,[.pv (.sl .str),pS])]⟩
def jcw (v:List Z0) (z:List Z1):Z4:=
 (iter (fun m (a,d,k)=>bif decide (a<(d.length:Int))then oB (idx d a) fun w=>(oB (jT N w) fun C=>bif !C then some false else bif decide ((0:Int)<a)then oB (idx d a) fun q=>(if fits (a-1)then oB (idx d (a-1)) fun n=>(bif Op.bytesLess q n||decide (q=n)then some false else if fits (a+1)then m ((a+1),d,k)else none)else none)else if fits (a+1)then m ((a+1),d,k)else none)else iter (fun t (j,o,h)=>bif decide (j<(h.length:Int))then oB (idx h j) fun r=>(iter (fun I (l,c,i,p,b,f)=>bif decide (c<(b.length:Int))then oB (idx b c) fun D=>(oB (jT N D) fun G=>bif !G then some false else oB (idx b c) fun x=>oB (jaq N x) fun B=>oB (idx b c) fun A=>bif !decide (B=A)then some false else oB (idx b c) fun K=>oB (jap N i K) fun u=>bif u then some false else if fits (c+1)then I (l,(c+1),i,p,b,f)else none)else oB (jJ N (b.length:Int) 1 3) fun y=>bif !y then some false else oB (jT N f) fun E=>bif !E then some false else oB (jaq N f) fun H=>bif !decide (H=f)then some false else if fits (l+1)then t ((l+1),i,p)else none) N (j,(0:Int),o,h,r.1,r.2))else bif decide ((o.length:Int)<=6)then some (decide ((h.length:Int)<=4))else some false) N ((0:Int),d,k)) N ((0:Int),v,z))
theorem jtf :mK 18 (bX [.agg [.pv (.sl .str),.pv Y2]] [pB] (c2A (jcw N))):=
 mO (fC (jgp N) (fC (jfZ N) (fC (jhP N) (fC (jcL N) ja)))) func18 rfl N (.seq .no (.seq (.seq .no (.block (.loop jrs .no))) (.seq (.seq .no (.block (.loop js0 (.seq .no (.seq (.block (.seq .no (.seq (.seq .no (.block (.loop jrc .no))) .no))) .no))))) .no))) _
def jAu :Sh:=⟨.pv (.sl .str)::pS::dz 3 (pS::pI::dz 18 []),[]⟩
def jxS (o:List Z0) (n:List UInt8):Option (Z0):=
 (iter (fun l (d,a,b,c)=>bif decide (c<(d.length:Int))then meet (fun(f:(List Z0)×Z0×Z0×Int)=>match f with|(i,m,k,e)=>oB (idx i e) fun j=>if k.length+j.length<=9223372036854775807 then if fits (e+1)then l (i,m,(k++j),(e+1))else none else none) fun h=>(bif decide ((0:Int)<c)then if b.length+a.length<=9223372036854775807 then h (d,a,(b++a),c)else none else h (d,a,b,c))else some b) N (o,n,([]:List UInt8),(0:Int)))
theorem jAy :mK 40 (bX [.pv (.sl .str),pS] [pS] (c2A (jxS N))):=
 mO ja func40 rfl N (.seq .no (.seq .no (.seq (.seq .no (.block (.loop jAu (.seq .no (.seq (.block (.meet jAu .no .no)) .no))))) .no))) _
def jo3 :Sh:=⟨pS:: .dead:: .dead:: .own 600003 Y0 77 true::pI::dz 50 [],[]⟩
def jm6 :Sh:=⟨pS:: .dead:: .dead:: .own 600003 Y0 77 true::pI:: .own 600005 (.int .u8) 5 true::pI::dz 48 [],[]⟩
def jtK :Sh:=⟨pS:: .dead:: .dead:: .own 600003 Y0 77 true::pI:: .pv (.sl (.int .u8))::pI::dz 48 [],[]⟩
def jb3 (D:List UInt8):Option ((List Z3)):=
 (iter (fun l (u,q,o)=>bif decide (o<(u.length:Int))then iter (fun A (b,j,a,c,k)=>bif decide (a<(b.length:Int))then oB (idx b a) fun C=>(oB (jt N (C.toNat:Int)) fun G=>bif !decide (G=0)then oB (idx b a) fun E=>(oB (jt N (E.toNat:Int)) fun x=>if room c.length ([x]:List Int).length 1 then if fits (a+1)then A (b,j,(a+1),(c++([x]:List Int)),k)else none else none)else meet (fun(d:Z0×(List Z3)×Int×(List Int)×Int)=>match d with|(r,h,f,n,y)=>bif decide ((0:Int)<n.length)then if room h.length ([((bytesOf n),(h.length:Int),y,f)]:List Z3).length 40 then if fits (f+1)then l (r,(h++([((bytesOf n),(h.length:Int),y,f)]:List Z3)),(f+1))else none else none else if fits (f+1)then l (r,h,(f+1))else none) fun p=>bif decide ((12:Int)<c.length)then oB (cut c 0 12) fun B=>(p (b,j,a,B,k))else p (b,j,a,c,k))else meet (fun(d:Z0×(List Z3)×Int×(List Int)×Int)=>match d with|(t,i,e,m,w)=>bif decide ((0:Int)<m.length)then if room i.length ([((bytesOf m),(i.length:Int),w,e)]:List Z3).length 40 then if fits (e+1)then l (t,(i++([((bytesOf m),(i.length:Int),w,e)]:List Z3)),(e+1))else none else none else if fits (e+1)then l (t,i,(e+1))else none) fun v=>bif decide ((12:Int)<c.length)then oB (cut c 0 12) fun z=>(v (b,j,a,z,k))else v (b,j,a,c,k)) N (u,q,o,([]:List Int),o)else some q) N (D,([]:List Z3),(0:Int)))
theorem jsr :mK 80 (bX [pS] [.own 1 Y0 77 true] (c1A (jb3 N))):=
 mO (fC (jfG N) ja) func80 rfl N (.seq .no (.seq .no (.seq (.seq .no (.block (.loop jo3 (.seq .no (.seq (.block (.seq .no (.seq .no (.seq (.block (.loop jm6 .no)) (.meet jtK .no .no))))) .no))))) .no))) _
def jmf :Sh:=⟨.dead:: .dead:: .box 2 0:: .dead:: .dead:: .own 600005 Y3 66 true:: .own 600006 Y0 77 true::pI::dz 43 [],[(2,false,[.pv (.sl .str),.pv Y2])]⟩
def jbY (k:List Z0) (n:List Z1) (m:List UInt8):Option (Z5):=
 (oB (jb3 N m) fun q=>iter (fun e (c,b,a,d,f)=>bif decide (a<(b.length:Int))then oB (idx b a) fun l=>(oB (jaq N l.1) fun h=>oB (idx b a) fun r=>oB (jap N d r.1) fun o=>bif !o then oB (jap N d h) fun j=>(bif !j then oB (idx b a) fun i=>(if room c.length ([(h,i.2.1)]:Z6).length 24 then if fits (a+1)then e ((c++([(h,i.2.1)]:Z6)),b,(a+1),d,f)else none else none)else if fits (a+1)then e (c,b,(a+1),d,f)else none)else if fits (a+1)then e (c,b,(a+1),d,f)else none)else some c) N (([]:Z6),q,(0:Int),k,n))
theorem jrk :mK 58 (bX [.agg [.pv (.sl .str),.pv Y2],pS] [.own 1 Y3 66 true] (c3A (jbY N))):=
 mO (fC (jsr N) (fC (jfZ N) (fC (jhP N) ja))) func58 rfl N (.seq .no (.seq .no (.seq .no (.seq (.seq .no (.block (.loop jmf .no))) .no)))) _
def jrL :Sh:=⟨.pv (.sl Y3):: .pv (.sl .str)::dz 3 (pI::dz 36 []),[]⟩
def jcC (j:Z6) (k:List Z0):Z4:=
 (iter (fun e (b,c,a)=>bif decide (a<(c.length:Int))then bif decide ((b.length:Int)<=a)then some false else(oB (idx b a) fun h=>oB (idx c a) fun i=>bif !decide (h.1=i)then some false else oB (idx b a) fun f=>oB (idx b 0) fun d=>if fits (d.2+a)then bif !decide (f.2=(d.2+a))then some false else(if fits (a+1)then e (b,c,(a+1))else none)else none)else some true) N (j,k,(0:Int)))
theorem jtg :mK 81 (bX [.pv (.sl Y3),.pv (.sl .str)] [pB] (c2A (jcC N))):=
 mO ja func81 rfl N (.seq .no (.seq (.seq .no (.block (.loop jrL .no))) .no)) _
def jlL :Sh:=⟨.dead:: .pv (.sl Y3):: .box 2 0:: .dead:: .dead::pI::pI::dz 38 [],[(2,false,[.pv (.sl .str),.pv Y2])]⟩
def jcJ (j:List Z0) (n:List Z1) (m:Z6):Option (Int):=
 (iter (fun e (c,d,a,f,b)=>bif decide (a<(b.length:Int))then oB (idx b a) fun k=>(oB (jcC N c k.1) fun i=>bif i then bif decide (d<0)then if fits (a+1)then e (c,a,(a+1),f,b)else none else(oB (idx b a) fun l=>oB (idx b d) fun h=>bif decide ((h.1.length:Int)<(l.1.length:Int))then if fits (a+1)then e (c,a,(a+1),f,b)else none else if fits (a+1)then e (c,d,(a+1),f,b)else none)else if fits (a+1)then e (c,d,(a+1),f,b)else none)else some d) N (m,((-1):Int),(0:Int),j,n))
theorem jqp :mK 59 (bX [.agg [.pv (.sl .str),.pv Y2],.pv (.sl Y3)] [pI] (c3A (jcJ N))):=
 mO (fC (jtg N) ja) func59 rfl N (.seq .no (.seq .no (.seq (.seq .no (.block (.loop jlL .no))) .no))) _
def jnK :Sh:=⟨.dead:: .dead:: .box 2 0:: .dead:: .dead:: .own 600005 Y3 66 true:: .pv (.sl Y3)::dz 45 [],[(2,false,[.pv (.sl .str),.pv Y2])]⟩
def ja5 (h:List Z0) (j:List Z1) (o:List UInt8):Option (Z5):=
 (oB (jbY N h j o) fun q=>iter (fun f (b,a,e,c)=>bif decide ((0:Int)<a.length)then oB (jcJ N e c a) fun d=>(bif decide (d<0)then oB (idx a 0) fun i=>(if room b.length ([i]:Z6).length 24 then oB (cut a 1 (a.length:Int)) fun n=>(f ((b++([i]:Z6)),n,e,c))else none)else oB (idx c d) fun l=>oB (idx a 0) fun k=>if room b.length ([(l.2,k.2)]:Z6).length 24 then oB (idx c d) fun r=>(oB (cut a (r.1.length:Int) (a.length:Int)) fun m=>f ((b++([(l.2,k.2)]:Z6)),m,e,c))else none)else some b) N (([]:Z6),q,h,j))
theorem jiO :mK 39 (bX [.agg [.pv (.sl .str),.pv Y2],pS] [.own 1 Y3 66 true] (c3A (ja5 N))):=
 mO (fC (jrk N) (fC (jqp N) ja)) func39 rfl N (.seq .no (.seq .no (.seq .no (.seq (.block (.loop jnK .no)) .no)))) _
def jl5 :Sh:=⟨.pv (.sl .str)::pS::dz 3 (pI::dz 42 []),[]⟩
def jTD (p:List Z0) (o:List UInt8):Z8:=
 (iter (fun m (a,c,b)=>bif decide (b<(a.length:Int))then oB (idx a b) fun n=>(bif Op.bytesLess n c then if fits (b+1)then m (a,c,(b+1))else none else bif decide (b<(a.length:Int))then oB (idx a b) fun t=>(bif decide (t=c)then some a else oB (cut a 0 b) fun d=>if room ([]:List Z0).length d.length 16 then if room (([]:List Z0)++d).length ([c]:List Z0).length 16 then oB (cut a b (a.length:Int)) fun i=>(if room ((([]:List Z0)++d)++([c]:List Z0)).length i.length 16 then some (((([]:List Z0)++d)++([c]:List Z0))++i)else none)else none else none)else oB (cut a 0 b) fun f=>if room ([]:List Z0).length f.length 16 then if room (([]:List Z0)++f).length ([c]:List Z0).length 16 then oB (cut a b (a.length:Int)) fun l=>(if room ((([]:List Z0)++f)++([c]:List Z0)).length l.length 16 then some (((([]:List Z0)++f)++([c]:List Z0))++l)else none)else none else none)else bif decide (b<(a.length:Int))then oB (idx a b) fun r=>(bif decide (r=c)then some a else oB (cut a 0 b) fun h=>if room ([]:List Z0).length h.length 16 then if room (([]:List Z0)++h).length ([c]:List Z0).length 16 then oB (cut a b (a.length:Int)) fun j=>(if room ((([]:List Z0)++h)++([c]:List Z0)).length j.length 16 then some (((([]:List Z0)++h)++([c]:List Z0))++j)else none)else none else none)else oB (cut a 0 b) fun e=>if room ([]:List Z0).length e.length 16 then if room (([]:List Z0)++e).length ([c]:List Z0).length 16 then oB (cut a b (a.length:Int)) fun k=>(if room ((([]:List Z0)++e)++([c]:List Z0)).length k.length 16 then some (((([]:List Z0)++e)++([c]:List Z0))++k)else none)else none else none) N (p,o,(0:Int)))
theorem jgt :mK 20 (bX [.pv (.sl .str),pS] [.pv (.sl .str)] (c2A (jTD N))):=
 mO ja func20 rfl N (.seq .no (.seq .no (.seq (.block (.loop jl5 .no)) .no))) _
def jVp :Sh:=⟨dz 5 (.pv (.sl .str):: .own 600006 Y3 66 true::pI::dz 65 []),[]⟩
def jVr :Sh:=⟨.dead:: .dead:: .box 2 0:: .box 3 0:: .dead:: .pv (.sl .str):: .dead:: .dead::pI::dz 64 [],[(2,false,[.pv (.sl .str),.pv Y2]),(3,false,[pI,pS,.pv (.sl .str),pI,pI,.pv (.sl .q)])]⟩
def jVc :Sh:=⟨.dead:: .dead:: .box 2 0:: .box 3 0:: .dead:: .pv (.sl .str):: .dead:: .dead::pI:: .pv (.sl .str)::pI::dz 62 [],[(2,false,[.pv (.sl .str),.pv Y2]),(3,false,[pI,pS,.pv (.sl .str),pI,pI,.pv (.sl .q)])]⟩
def jTI (N:Nat):(D:Nat)->(List Z0)->(List Z1)->Int->Z0->(List Z0)->Int->Int->(List DQ)->Z8
 |0,_,_,_,_,_,_,_,_=>none
 |D+1,c,c2,q,q2,q3,q4,q5,q6=>
 bif decide (q=2)then
 oB (jxS N q3 ([32]:List UInt8)) fun r=>
 (oB (ja5 N c c2 r) fun r2=>
 iter (fun go (g:(List Z0)×Z5×Int)=>
 match g with
 |(out,list,i)=>
 bif decide (i<(list.length:Int))then
 oB (idx list i) fun e=>
 (oB (jTD N out e.1) fun r3=>
 if fits (i+1)then go (r3,list,(i+1))else none)
 else
 some out) N (([]:List Z0),r2,0))
 else
 bif decide (q=3)then
 oB (jxS N q3 ([32]:List UInt8)) fun r4=>
 (oB (ja5 N c c2 r4) fun r5=>
 iter (fun go2 (g:(List Z0)×Z5×Int)=>
 match g with
 |(out2,list2,i2)=>
 bif decide (i2<(list2.length:Int))then
 oB (idx list2 i2) fun e2=>
 (oB (jTD N out2 e2.1) fun r6=>
 if fits (i2+1)then go2 (r6,list2,(i2+1))else none)
 else
 some out2) N (([]:List Z0),r5,0))
 else
 iter (fun go3 (g:(List Z0)×Int×(List Z0)×(List Z1)×Int×Z0×(List Z0)×Int×Int×(List DQ))=>
 match g with
 |(out3,i3,c3,c4,q7,q8,q9,q10,q11,q12)=>
 bif decide (i3<(q12.length:Int))then
 bif decide (q7=9)then
 bif decide ((0:Int)<i3)then
 some out3
 else
 (oB (idx q12 i3) fun e3=>
 oB (jTI N D c3 c4 e3.kind e3.field e3.words e3.lo e3.hi e3.kids) fun r7=>
 iter (fun go4 (g:Z12)=>
 match g with
 |(out4,i4,more,k,c5,c6,q13,q14,q15,q16,q17,q18)=>
 bif decide (k<(more.length:Int))then
 oB (idx more k) fun e4=>
 (oB (jTD N out4 e4) fun r8=>
 if fits (k+1)then go4 (r8,i4,more,(k+1),c5,c6,q13,q14,q15,q16,q17,q18)else none)
 else
 if fits (i4+1)then go3 (out4,(i4+1),c5,c6,q13,q14,q15,q16,q17,q18)else none) N (out3,i3,r7,0,c3,c4,q7,q8,q9,q10,q11,q12))
 else
 (oB (idx q12 i3) fun e5=>
 oB (jTI N D c3 c4 e5.kind e5.field e5.words e5.lo e5.hi e5.kids) fun r9=>
 iter (fun go5 (g:Z12)=>
 match g with
 |(out5,i5,more2,k2,c7,c8,q19,q20,q21,q22,q23,q24)=>
 bif decide (k2<(more2.length:Int))then
 oB (idx more2 k2) fun e6=>
 (oB (jTD N out5 e6) fun r10=>
 if fits (k2+1)then go5 (r10,i5,more2,(k2+1),c7,c8,q19,q20,q21,q22,q23,q24)else none)
 else
 if fits (i5+1)then go3 (out5,(i5+1),c7,c8,q19,q20,q21,q22,q23,q24)else none) N (out3,i3,r9,0,c3,c4,q7,q8,q9,q10,q11,q12))
 else
 some out3) N (([]:List Z0),0,c,c2,q,q2,q3,q4,q5,q6)
def jT0 (N D:Nat):Model:=⟨⟨[.agg [.pv (.sl .str),.pv Y2],.agg [pI,pS,.pv (.sl .str),pI,pI,.pv (.sl .q)]],[]⟩,⟨[.pv (.sl .str)],[]⟩,c8A (jTI N D)⟩
theorem jU5 (N D:Nat) (ih:mK 19 (jT0 N D)):mK 19 (jT0 N (D+1)):=
 mO (fC ih (fC (jAy N) (fC (jiO N) (fC (jgt N) ja)))) func19 rfl N (.seq .no (.seq .no (.seq (.seq .no (.cond (.seq .no (.seq (.seq .no (.block (.loop jVp .no))) .no)) .no)) (.seq (.seq .no (.block (.loop jVr (.seq .no (.seq (.block (.seq .no (.seq .no (.seq .no (.block (.loop jVc .no)))))) .no))))) .no)))) (jT0 N (D+1))
theorem jUU (N:Nat):∀D,mK 19 (jT0 N D)
 |0=>modelOk_none ⟨_,func19,by decide,by kernel_rfl⟩ _ (fun a=>rfl)
 |D+1=>jU5 N D (jUU N D)
def jVk :Sh:=⟨.pv (.sl (.pair .str .q)):: .dead:: .dead:: .box 3 0:: .dead:: .pv (.sl .str)::pI::dz 37 [],[(3,false,[.pv (.sl .str),.pv Y2])]⟩
def jU8 :Sh:=⟨.pv (.sl (.pair .str .q)):: .dead:: .dead:: .box 3 0:: .dead:: .pv (.sl .str)::pI:: .pv (.sl .str)::pI::dz 35 [],[(3,false,[.pv (.sl .str),.pv Y2])]⟩
def jTY (k:List (Z0×DQ)) (j:List Z0) (l:List Z1):Z8:=
 (oB (jE4 N k) fun x=>bif !x then some ([]:List Z0)else oB (jcw N j l) fun y=>bif !y then some ([]:List Z0)else iter (fun t (c,i,f,q,m)=>bif decide (f<(c.length:Int))then oB (idx c f) fun a=>(oB (jTI N N q m a.2.kind a.2.field a.2.words a.2.lo a.2.hi a.2.kids) fun w=>iter (fun u (n,r,d,h,b,p,o)=>bif decide (b<(h.length:Int))then oB (idx h b) fun z=>(oB (jTD N r z) fun v=>if fits (b+1)then u (n,v,d,h,(b+1),p,o)else none)else if fits (d+1)then t (n,r,(d+1),p,o)else none) N (c,i,f,w,(0:Int),q,m))else some i) N (k,([]:List Z0),(0:Int),j,l))
theorem jV3 :mK 7 (bX [.pv (.sl (.pair .str .q)),.agg [.pv (.sl .str),.pv Y2]] [.pv (.sl .str)] (c3A (jTY N))):=
 mO (fC (jFd N) (fC (jtf N) (fC (jUU N N) (fC (jgt N) ja)))) func7 rfl N (.seq .no (.seq .no (.seq .no (.seq (.seq .no (.block (.loop jVk (.seq .no (.seq (.block (.seq .no (.seq .no (.block (.loop jU8 .no))))) .no))))) .no)))) _
def jve :Sh:=⟨.pv (.sl .str):: .pv (.sl .str)::dz 3 (pI::dz 20 []),[]⟩
def l_foTexts_m (d:List Z0) (c:List Z0):Z4:=
 (bif !decide ((d.length:Int)=(c.length:Int))then some false else iter (fun f (b,e,a)=>bif decide (a<(b.length:Int))then oB (idx b a) fun h=>(oB (idx e a) fun i=>bif !decide (h=i)then some false else if fits (a+1)then f (b,e,(a+1))else none)else some true) N (d,c,(0:Int)))
theorem juE :mK 6 (bX [.pv (.sl .str),.pv (.sl .str)] [pB] (c2A (l_foTexts_m N))):=
 mO ja func6 rfl N (.seq .no (.seq .no (.seq (.seq .no (.block (.loop jve .no))) .no))) _
def jWG :Sh:=⟨dz 5 (.box 1000000006 0::dz 13 []),[(1000000006,false,[.pv (.sl (.pair .str .bool))])]⟩
noncomputable def i_SnipTerms_m (i:List Z0) (k:List Z1) (e:Int) (j:List UInt8) (d:List Z0) (c:Int) (f:Int) (h:List DQ):Z8:=
 (meet (fun(p:Z10)=>let b:=p;(oB (jTU N b) fun m=>some m.1)) fun a=>oB (jaj N i k) fun l=>bif l then oB (jTV N e j d c f h) fun n=>(bif n then oB (jTJ N N i k e j d c f h ([]:List (Z0×Bool))) fun o=>(a o)else a ([]:List (Z0×Bool)))else a ([]:List (Z0×Bool)))
theorem jWv :mK 10 (bX [.agg [.pv (.sl .str),.pv Y2],.agg [pI,pS,.pv (.sl .str),pI,pI,.pv (.sl .q)]] [.own 1 .str 9 true] (c8A (i_SnipTerms_m N))):=
 mO (fC (jdX N) (fC (jCN N) (fC (jUV N N) (fC (jU0 N) ja)))) func10 rfl N (.seq .no (.seq .no (.meet jWG .no .no))) _
def l_foHas_m (h:List Z0) (f:List UInt8):Z4:=
 (iter (fun d (b,c,a)=>bif decide (a<(b.length:Int))then oB (idx b a) fun e=>(bif decide (e=c)then some true else if fits (a+1)then d (b,c,(a+1))else none)else some false) N (h,f,(0:Int)))
theorem ju4 :mK 11 (bX [.pv (.sl .str),pS] [pB] (c2A (l_foHas_m N))):=
 mO ja func11 rfl N (.seq .no (.seq (.seq .no (.block (.loop jlY .no))) .no)) _
def jWD :Sh:=⟨dz 3 (.own 600003 (.pair .str .q) 39 false:: .box 4 0:: .own 600005 .str 9 true::pI::pI::dz 85 []),[(4,false,[.own 700400 .str 9 true,.own 700401 Y4 54 true])]⟩
def jWB :Sh:=⟨dz 3 (.own 600003 (.pair .str .q) 39 false:: .box 4 0:: .own 600005 .str 9 true::pI::pI:: .own 600008 .str 9 true::pI::dz 83 []),[(4,false,[.own 700400 .str 9 true,.own 700401 Y4 54 true])]⟩
def jWI :Sh:=⟨dz 5 (.own 600005 .str 9 true::pI::dz 3 (pI::dz 82 [])),[]⟩
noncomputable def l_FnAlertTerms_m (y:List Int):Z4:=
 (bif decide ((1048576:Int)<y.length)then some true else oB (s_DrawAlertTerms_m N y) fun a=>oB (jTK N a.1 a.2.1 a.2.2) fun f=>oB (jTY N a.1 a.2.1 a.2.2) fun D=>oB (l_foTexts_m N f D) fun C=>bif !C then oB (jTY N a.1 a.2.1 a.2.2) fun P=>(oB (l_foTexts_m N f P) fun R=>some R)else oB (jGU N a.1) fun L=>bif !L then oB (jTY N a.1 a.2.1 a.2.2) fun H=>(oB (l_foTexts_m N f H) fun G=>some G)else oB (jaj N a.2.1 a.2.2) fun K=>bif !K then oB (jTY N a.1 a.2.1 a.2.2) fun I=>(oB (l_foTexts_m N f I) fun Q=>some Q)else iter (fun B (j,t,i,k,u,q)=>bif decide (k<(j.length:Int))then oB (idx j k) fun b=>(oB (i_SnipTerms_m N u q b.2.kind b.2.field b.2.words b.2.lo b.2.hi b.2.kids) fun l=>if fits (i+(l.length:Int))then iter (fun O (p,n,r,m,o,h,z,v)=>bif decide (h<(o.length:Int))then oB (idx o h) fun S=>(oB (l_foHas_m N n S) fun E=>bif !E then some false else if fits (h+1)then O (p,n,r,m,o,(h+1),z,v)else none)else if fits (m+1)then B (p,n,r,(m+1),z,v)else none) N (j,t,(i+(l.length:Int)),k,l,(0:Int),u,q)else none)else iter (fun T (e,A,c)=>bif decide (c<(e.length:Int))then oB (idx e c) fun w=>(if fits (c-1)then oB (idx e (c-1)) fun x=>(bif Op.bytesLess w x||decide (w=x)then some false else if fits (c+1)then T (e,A,(c+1))else none)else none)else some (decide ((e.length:Int)<=A))) N (t,i,(1:Int))) N (a.1,f,(0:Int),(0:Int),a.2.1,a.2.2))
noncomputable def jWr (N:Nat):Model:=⟨⟨[.pv (.sl (.int .u8))],[]⟩,⟨[pB],[]⟩,c1A (l_FnAlertTerms_m N)⟩
theorem jWJ :mK 3 (jWr N):=
 mO (fC (jWz N) (fC (jVz N) (fC (jV3 N) (fC (juE N) (fC (jFt N) (fC (jdX N) (fC (jWv N) (fC (ju4 N) ja)))))))) func3 rfl N (.seq .no (.seq .no (.seq .no (.seq .no (.seq .no (.seq .no (.seq (.seq .no (.block (.loop jWD (.seq .no (.seq (.block (.seq .no (.seq .no (.seq .no (.block (.loop jWB .no)))))) .no))))) (.seq (.seq .no (.block (.loop jWI .no))) .no)))))))) (jWr N)
end Go.Proofs.YtbjikaianmpngaaDoor
