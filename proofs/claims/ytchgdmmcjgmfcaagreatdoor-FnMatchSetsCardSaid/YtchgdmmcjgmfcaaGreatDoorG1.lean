import Derived.Test.YtchgdmmcjgmfcaaGreatDoorG1A
set_option linter.unusedVariables false
set_option linter.unusedSimpArgs false
namespace Go.Proofs.YtchgdmmcjgmfcaaGreatDoor
open Go.RowKit Go.Proofs.Tryz
variable (N : Nat)
open Option renaming bind -> oB
def jKk :Sh:=⟨.mtk 800000 tI 3 true::pI::pI::dz 4 (pI::pI::dz 124 []),[]⟩
def jMz :Sh:=⟨.mtk 800000 tI 3 true::pI::pI::dz 4 (pI::pI::pI::dz 123 []),[]⟩
def jMq :Sh:=⟨.mtk 800000 tI 3 true::pI::pI::dz 4 (pI::pI:: .dead::pI::dz 122 []),[]⟩
def jKt (data:List Int) (a:Int) (b:Int):Option (Bool×(List Int)):=
 (if fits (a+1)then iter (fun go (data2,a2,b2,i,j)=>bif decide (j<5)then iter (fun go2 (data3,a3,b3,i2,j2)=>bif decide (i2<b3)then if 0<=i2/\i2<(data3.length:Int)then oB (data3[i2.toNat]?) fun e=>(if fits (i2-1)then if 0<=(i2-1)/\(i2-1)<(data3.length:Int)then oB (data3[(i2-1).toNat]?) fun e2=>(oB (k_cmp_Less_67_m N e e2) fun r=>bif !r then if fits (i2+1)then go2 (data3,a3,b3,(i2+1),j2)else none else bif decide (i2=b3)then some (true,data3)else if fits (b3-a3)then bif decide ((b3-a3)<50)then some (false,data3)else(if fits (i2-1)then if fits (i2-1)then if 0<=(i2-1)/\(i2-1)<(data3.length:Int)then oB (data3[(i2-1).toNat]?) fun e3=>(if 0<=i2/\i2<(data3.length:Int)then oB (data3[i2.toNat]?) fun e4=>(if 0<=i2/\i2<(data3.length:Int)then oB (data3[i2.toNat]?) fun e5=>(if 0<=(i2-1)/\(i2-1)<((data3.set i2.toNat e3).length:Int)then oB ((data3.set i2.toNat e3)[(i2-1).toNat]?) fun e6=>(meet (fun(g:Z12)=>match g with|(data5,a5,b5,i4,j5)=>if fits (b5-i4)then bif decide ((2:Int)<=(b5-i4))then if fits (i4+1)then iter (fun go4 (data6,a6,b6,i5,j6,j7)=>bif decide (j7<b6)then if 0<=j7/\j7<(data6.length:Int)then oB (data6[j7.toNat]?) fun e13=>(if fits (j7-1)then if 0<=(j7-1)/\(j7-1)<(data6.length:Int)then oB (data6[(j7-1).toNat]?) fun e14=>(oB (k_cmp_Less_67_m N e13 e14) fun r3=>bif !r3 then if fits (j6+1)then go (data6,a6,b6,i5,(j6+1))else none else if fits (j7-1)then if fits (j7-1)then if 0<=(j7-1)/\(j7-1)<(data6.length:Int)then oB (data6[(j7-1).toNat]?) fun e15=>(if 0<=j7/\j7<(data6.length:Int)then oB (data6[j7.toNat]?) fun e16=>(if 0<=j7/\j7<(data6.length:Int)then oB (data6[j7.toNat]?) fun e17=>(if 0<=(j7-1)/\(j7-1)<((data6.set j7.toNat e15).length:Int)then oB ((data6.set j7.toNat e15)[(j7-1).toNat]?) fun e18=>(if fits (j7+1)then go4 (((data6.set j7.toNat e15).set (j7-1).toNat e16),a6,b6,i5,j6,(j7+1))else none)else none)else none)else none)else none else none else none)else none else none)else none else if fits (j6+1)then go (data6,a6,b6,i5,(j6+1))else none) N (data5,a5,b5,i4,j5,(i4+1))else none else(if fits (j5+1)then go (data5,a5,b5,i4,(j5+1))else none)else none) fun J=>if fits (i2-a3)then bif decide ((2:Int)<=(i2-a3))then if fits (i2-1)then iter (fun go3 (data4,a4,b4,i3,j3,j4)=>bif decide ((1:Int)<=j4)then if 0<=j4/\j4<(data4.length:Int)then oB (data4[j4.toNat]?) fun e7=>(if fits (j4-1)then if 0<=(j4-1)/\(j4-1)<(data4.length:Int)then oB (data4[(j4-1).toNat]?) fun e8=>(oB (k_cmp_Less_67_m N e7 e8) fun r2=>bif !r2 then J (data4,a4,b4,i3,j3)else if fits (j4-1)then if fits (j4-1)then if 0<=(j4-1)/\(j4-1)<(data4.length:Int)then oB (data4[(j4-1).toNat]?) fun e9=>(if 0<=j4/\j4<(data4.length:Int)then oB (data4[j4.toNat]?) fun e10=>(if 0<=j4/\j4<(data4.length:Int)then oB (data4[j4.toNat]?) fun e11=>(if 0<=(j4-1)/\(j4-1)<((data4.set j4.toNat e9).length:Int)then oB ((data4.set j4.toNat e9)[(j4-1).toNat]?) fun e12=>(if fits (j4-1)then go3 (((data4.set j4.toNat e9).set (j4-1).toNat e10),a4,b4,i3,j3,(j4-1))else none)else none)else none)else none)else none else none else none)else none else none)else none else J (data4,a4,b4,i3,j3)) N (((data3.set i2.toNat e3).set (i2-1).toNat e4),a3,b3,i2,j2,(i2-1))else none else(J (((data3.set i2.toNat e3).set (i2-1).toNat e4),a3,b3,i2,j2))else none)else none)else none)else none)else none else none else none)else none)else none else none)else none else bif decide (i2=b3)then some (true,data3)else if fits (b3-a3)then bif decide ((b3-a3)<50)then some (false,data3)else(if fits (i2-1)then if fits (i2-1)then if 0<=(i2-1)/\(i2-1)<(data3.length:Int)then oB (data3[(i2-1).toNat]?) fun e19=>(if 0<=i2/\i2<(data3.length:Int)then oB (data3[i2.toNat]?) fun e20=>(if 0<=i2/\i2<(data3.length:Int)then oB (data3[i2.toNat]?) fun e21=>(if 0<=(i2-1)/\(i2-1)<((data3.set i2.toNat e19).length:Int)then oB ((data3.set i2.toNat e19)[(i2-1).toNat]?) fun e22=>(meet (fun(g:Z12)=>match g with|(data8,a8,b8,i7,j10)=>if fits (b8-i7)then bif decide ((2:Int)<=(b8-i7))then if fits (i7+1)then iter (fun go6 (data9,a9,b9,i8,j11,j12)=>bif decide (j12<b9)then if 0<=j12/\j12<(data9.length:Int)then oB (data9[j12.toNat]?) fun e29=>(if fits (j12-1)then if 0<=(j12-1)/\(j12-1)<(data9.length:Int)then oB (data9[(j12-1).toNat]?) fun e30=>(oB (k_cmp_Less_67_m N e29 e30) fun r5=>bif !r5 then if fits (j11+1)then go (data9,a9,b9,i8,(j11+1))else none else if fits (j12-1)then if fits (j12-1)then if 0<=(j12-1)/\(j12-1)<(data9.length:Int)then oB (data9[(j12-1).toNat]?) fun e31=>(if 0<=j12/\j12<(data9.length:Int)then oB (data9[j12.toNat]?) fun e32=>(if 0<=j12/\j12<(data9.length:Int)then oB (data9[j12.toNat]?) fun e33=>(if 0<=(j12-1)/\(j12-1)<((data9.set j12.toNat e31).length:Int)then oB ((data9.set j12.toNat e31)[(j12-1).toNat]?) fun e34=>(if fits (j12+1)then go6 (((data9.set j12.toNat e31).set (j12-1).toNat e32),a9,b9,i8,j11,(j12+1))else none)else none)else none)else none)else none else none else none)else none else none)else none else if fits (j11+1)then go (data9,a9,b9,i8,(j11+1))else none) N (data8,a8,b8,i7,j10,(i7+1))else none else(if fits (j10+1)then go (data8,a8,b8,i7,(j10+1))else none)else none) fun J2=>if fits (i2-a3)then bif decide ((2:Int)<=(i2-a3))then if fits (i2-1)then iter (fun go5 (data7,a7,b7,i6,j8,j9)=>bif decide ((1:Int)<=j9)then if 0<=j9/\j9<(data7.length:Int)then oB (data7[j9.toNat]?) fun e23=>(if fits (j9-1)then if 0<=(j9-1)/\(j9-1)<(data7.length:Int)then oB (data7[(j9-1).toNat]?) fun e24=>(oB (k_cmp_Less_67_m N e23 e24) fun r4=>bif !r4 then J2 (data7,a7,b7,i6,j8)else if fits (j9-1)then if fits (j9-1)then if 0<=(j9-1)/\(j9-1)<(data7.length:Int)then oB (data7[(j9-1).toNat]?) fun e25=>(if 0<=j9/\j9<(data7.length:Int)then oB (data7[j9.toNat]?) fun e26=>(if 0<=j9/\j9<(data7.length:Int)then oB (data7[j9.toNat]?) fun e27=>(if 0<=(j9-1)/\(j9-1)<((data7.set j9.toNat e25).length:Int)then oB ((data7.set j9.toNat e25)[(j9-1).toNat]?) fun e28=>(if fits (j9-1)then go5 (((data7.set j9.toNat e25).set (j9-1).toNat e26),a7,b7,i6,j8,(j9-1))else none)else none)else none)else none)else none else none else none)else none else none)else none else J2 (data7,a7,b7,i6,j8)) N (((data3.set i2.toNat e19).set (i2-1).toNat e20),a3,b3,i2,j2,(i2-1))else none else(J2 (((data3.set i2.toNat e19).set (i2-1).toNat e20),a3,b3,i2,j2))else none)else none)else none)else none)else none else none else none)else none) N (data2,a2,b2,i,j)else some (false,data2)) N (data,a,b,(a+1),(0:Int))else none)
theorem jMH :mK 228 (bX [.mtk 800000 tI 3 true,pI,pI] [pB,.mtk 800000 tI 3 true] (c3A (jKt N))):=
 mO (fC (jA5 N) ja) func228 rfl N (.seq .no (.seq .no (.seq (.seq .no (.block (.loop jKk (.seq .no (.seq (.block (.seq (.block (.loop jKk .no)) (.seq .no (.seq .no (.seq .no (.meet jKk (.seq .no (.cond (.seq .no (.block (.loop jMz .no))) .no)) (.seq .no (.cond (.seq .no (.block (.loop jMq .no))) .no)))))))) .no))))) .no))) _ (rs:=[800000])
def jKf :Sh:=⟨.mtk 800000 tI 3 true::pI::dz 7 (pI::pI::dz 73 []),[]⟩
def jKu (i:List Int) (h:Int) (y:Int) (k:Int):Option (Int×(List Int)):=
 (if 0<=k/\k<(i.length:Int)then oB (i[k.toNat]?) fun x=>(if 0<=h/\h<(i.length:Int)then oB (i[h.toNat]?) fun E=>(if 0<=h/\h<(i.length:Int)then oB (i[h.toNat]?) fun aa=>(if 0<=k/\k<((i.set h.toNat x).length:Int)then oB ((i.set h.toNat x)[k.toNat]?) fun aj=>(if fits (h+1)then if fits (y-1)then iter (fun r (U,B,D,z)=>iter (fun C (l,n,j,q)=>bif decide (j<=q)then if 0<=n/\n<(l.length:Int)then oB (l[n.toNat]?) fun P=>(if 0<=j/\j<(l.length:Int)then oB (l[j.toNat]?) fun H=>(oB (k_cmp_Less_67_m N P H) fun K=>bif !K then if fits (j+1)then C (l,n,(j+1),q)else none else iter (fun Q (f,o,a,d)=>bif decide (a<=d)then if 0<=o/\o<(f.length:Int)then oB (f[o.toNat]?) fun L=>(if 0<=d/\d<(f.length:Int)then oB (f[d.toNat]?) fun A=>(oB (k_cmp_Less_67_m N L A) fun W=>bif W then if fits (d-1)then Q (f,o,a,(d-1))else none else bif decide (d<a)then some (a,f)else if 0<=d/\d<(f.length:Int)then oB (f[d.toNat]?) fun t=>(if 0<=a/\a<(f.length:Int)then oB (f[a.toNat]?) fun R=>(if 0<=a/\a<(f.length:Int)then oB (f[a.toNat]?) fun ac=>(if 0<=d/\d<((f.set a.toNat t).length:Int)then oB ((f.set a.toNat t)[d.toNat]?) fun ae=>(if fits (a+1)then if fits (d-1)then r (((f.set a.toNat t).set d.toNat R),o,(a+1),(d-1))else none else none)else none)else none)else none)else none)else none)else none else bif decide (d<a)then some (a,f)else if 0<=d/\d<(f.length:Int)then oB (f[d.toNat]?) fun u=>(if 0<=a/\a<(f.length:Int)then oB (f[a.toNat]?) fun V=>(if 0<=a/\a<(f.length:Int)then oB (f[a.toNat]?) fun ab=>(if 0<=d/\d<((f.set a.toNat u).length:Int)then oB ((f.set a.toNat u)[d.toNat]?) fun ad=>(if fits (a+1)then if fits (d-1)then r (((f.set a.toNat u).set d.toNat V),o,(a+1),(d-1))else none else none)else none)else none)else none)else none) N (l,n,j,q))else none)else none else iter (fun X (e,p,b,c)=>bif decide (b<=c)then if 0<=p/\p<(e.length:Int)then oB (e[p.toNat]?) fun I=>(if 0<=c/\c<(e.length:Int)then oB (e[c.toNat]?) fun S=>(oB (k_cmp_Less_67_m N I S) fun T=>bif T then if fits (c-1)then X (e,p,b,(c-1))else none else bif decide (c<b)then some (b,e)else if 0<=c/\c<(e.length:Int)then oB (e[c.toNat]?) fun v=>(if 0<=b/\b<(e.length:Int)then oB (e[b.toNat]?) fun O=>(if 0<=b/\b<(e.length:Int)then oB (e[b.toNat]?) fun ah=>(if 0<=c/\c<((e.set b.toNat v).length:Int)then oB ((e.set b.toNat v)[c.toNat]?) fun ag=>(if fits (b+1)then if fits (c-1)then r (((e.set b.toNat v).set c.toNat O),p,(b+1),(c-1))else none else none)else none)else none)else none)else none)else none)else none else bif decide (c<b)then some (b,e)else if 0<=c/\c<(e.length:Int)then oB (e[c.toNat]?) fun w=>(if 0<=b/\b<(e.length:Int)then oB (e[b.toNat]?) fun G=>(if 0<=b/\b<(e.length:Int)then oB (e[b.toNat]?) fun af=>(if 0<=c/\c<((e.set b.toNat w).length:Int)then oB ((e.set b.toNat w)[c.toNat]?) fun ai=>(if fits (b+1)then if fits (c-1)then r (((e.set b.toNat w).set c.toNat G),p,(b+1),(c-1))else none else none)else none)else none)else none)else none) N (l,n,j,q)) N (U,B,D,z)) N (((i.set h.toNat x).set k.toNat E),h,(h+1),(y-1))else none else none)else none)else none)else none)else none)
theorem jMs :mK 230 (bX [.mtk 800000 tI 3 true,pI,pI,pI] [pI,.mtk 800000 tI 3 true] (c4A (jKu N))):=
 mO (fC (jA5 N) ja) func230 rfl N (.seq .no (.seq .no (.seq .no (.seq (.block (.loop jKf (.block (.seq (.block (.loop jKf .no)) (.seq (.block (.loop jKf .no)) .no))))) .no)))) _ (rs:=[800000])
def jJV :Sh:=⟨.mtk 800000 tI 3 true::pI::dz 8 (pI::pI::dz 156 []),[]⟩
def jKo (data:List Int) (a:Int) (b:Int) (pivot:Int):Option (Int×Bool×(List Int)):=
 (if 0<=pivot/\pivot<(data.length:Int)then oB (data[pivot.toNat]?) fun e=>(if 0<=a/\a<(data.length:Int)then oB (data[a.toNat]?) fun e2=>(if 0<=a/\a<(data.length:Int)then oB (data[a.toNat]?) fun e3=>(if 0<=pivot/\pivot<((data.set a.toNat e).length:Int)then oB ((data.set a.toNat e)[pivot.toNat]?) fun e4=>(if fits (a+1)then if fits (b-1)then iter (fun go (data2,a2,i,j)=>bif decide (i<=j)then if 0<=i/\i<(data2.length:Int)then oB (data2[i.toNat]?) fun e5=>(if 0<=a2/\a2<(data2.length:Int)then oB (data2[a2.toNat]?) fun e6=>(oB (k_cmp_Less_67_m N e5 e6) fun r=>bif r then if fits (i+1)then go (data2,a2,(i+1),j)else none else iter (fun go2 (data3,a3,i2,j2)=>bif decide (i2<=j2)then if 0<=j2/\j2<(data3.length:Int)then oB (data3[j2.toNat]?) fun e7=>(if 0<=a3/\a3<(data3.length:Int)then oB (data3[a3.toNat]?) fun e8=>(oB (k_cmp_Less_67_m N e7 e8) fun r2=>bif !r2 then if fits (j2-1)then go2 (data3,a3,i2,(j2-1))else none else bif decide (j2<i2)then if 0<=a3/\a3<(data3.length:Int)then oB (data3[a3.toNat]?) fun e9=>(if 0<=j2/\j2<(data3.length:Int)then oB (data3[j2.toNat]?) fun e10=>(if 0<=j2/\j2<(data3.length:Int)then oB (data3[j2.toNat]?) fun e11=>(if 0<=a3/\a3<((data3.set j2.toNat e9).length:Int)then oB ((data3.set j2.toNat e9)[a3.toNat]?) fun e12=>(some (j2,true,((data3.set j2.toNat e9).set a3.toNat e10)))else none)else none)else none)else none else if 0<=j2/\j2<(data3.length:Int)then oB (data3[j2.toNat]?) fun e13=>(if 0<=i2/\i2<(data3.length:Int)then oB (data3[i2.toNat]?) fun e14=>(if 0<=i2/\i2<(data3.length:Int)then oB (data3[i2.toNat]?) fun e15=>(if 0<=j2/\j2<((data3.set i2.toNat e13).length:Int)then oB ((data3.set i2.toNat e13)[j2.toNat]?) fun e16=>(if fits (i2+1)then if fits (j2-1)then iter (fun go3 (data4,a4,i3,j3)=>iter (fun go4 (data5,a5,i4,j4)=>bif decide (i4<=j4)then if 0<=i4/\i4<(data5.length:Int)then oB (data5[i4.toNat]?) fun e17=>(if 0<=a5/\a5<(data5.length:Int)then oB (data5[a5.toNat]?) fun e18=>(oB (k_cmp_Less_67_m N e17 e18) fun r3=>bif r3 then if fits (i4+1)then go4 (data5,a5,(i4+1),j4)else none else iter (fun go5 (data6,a6,i5,j5)=>bif decide (i5<=j5)then if 0<=j5/\j5<(data6.length:Int)then oB (data6[j5.toNat]?) fun e19=>(if 0<=a6/\a6<(data6.length:Int)then oB (data6[a6.toNat]?) fun e20=>(oB (k_cmp_Less_67_m N e19 e20) fun r4=>bif !r4 then if fits (j5-1)then go5 (data6,a6,i5,(j5-1))else none else bif decide (j5<i5)then if 0<=a6/\a6<(data6.length:Int)then oB (data6[a6.toNat]?) fun e21=>(if 0<=j5/\j5<(data6.length:Int)then oB (data6[j5.toNat]?) fun e22=>(if 0<=j5/\j5<(data6.length:Int)then oB (data6[j5.toNat]?) fun e23=>(if 0<=a6/\a6<((data6.set j5.toNat e21).length:Int)then oB ((data6.set j5.toNat e21)[a6.toNat]?) fun e24=>(some (j5,false,((data6.set j5.toNat e21).set a6.toNat e22)))else none)else none)else none)else none else if 0<=j5/\j5<(data6.length:Int)then oB (data6[j5.toNat]?) fun e25=>(if 0<=i5/\i5<(data6.length:Int)then oB (data6[i5.toNat]?) fun e26=>(if 0<=i5/\i5<(data6.length:Int)then oB (data6[i5.toNat]?) fun e27=>(if 0<=j5/\j5<((data6.set i5.toNat e25).length:Int)then oB ((data6.set i5.toNat e25)[j5.toNat]?) fun e28=>(if fits (i5+1)then if fits (j5-1)then go3 (((data6.set i5.toNat e25).set j5.toNat e26),a6,(i5+1),(j5-1))else none else none)else none)else none)else none)else none)else none)else none else bif decide (j5<i5)then if 0<=a6/\a6<(data6.length:Int)then oB (data6[a6.toNat]?) fun e29=>(if 0<=j5/\j5<(data6.length:Int)then oB (data6[j5.toNat]?) fun e30=>(if 0<=j5/\j5<(data6.length:Int)then oB (data6[j5.toNat]?) fun e31=>(if 0<=a6/\a6<((data6.set j5.toNat e29).length:Int)then oB ((data6.set j5.toNat e29)[a6.toNat]?) fun e32=>(some (j5,false,((data6.set j5.toNat e29).set a6.toNat e30)))else none)else none)else none)else none else if 0<=j5/\j5<(data6.length:Int)then oB (data6[j5.toNat]?) fun e33=>(if 0<=i5/\i5<(data6.length:Int)then oB (data6[i5.toNat]?) fun e34=>(if 0<=i5/\i5<(data6.length:Int)then oB (data6[i5.toNat]?) fun e35=>(if 0<=j5/\j5<((data6.set i5.toNat e33).length:Int)then oB ((data6.set i5.toNat e33)[j5.toNat]?) fun e36=>(if fits (i5+1)then if fits (j5-1)then go3 (((data6.set i5.toNat e33).set j5.toNat e34),a6,(i5+1),(j5-1))else none else none)else none)else none)else none)else none) N (data5,a5,i4,j4))else none)else none else iter (fun go6 (data7,a7,i6,j6)=>bif decide (i6<=j6)then if 0<=j6/\j6<(data7.length:Int)then oB (data7[j6.toNat]?) fun e37=>(if 0<=a7/\a7<(data7.length:Int)then oB (data7[a7.toNat]?) fun e38=>(oB (k_cmp_Less_67_m N e37 e38) fun r5=>bif !r5 then if fits (j6-1)then go6 (data7,a7,i6,(j6-1))else none else bif decide (j6<i6)then if 0<=a7/\a7<(data7.length:Int)then oB (data7[a7.toNat]?) fun e39=>(if 0<=j6/\j6<(data7.length:Int)then oB (data7[j6.toNat]?) fun e40=>(if 0<=j6/\j6<(data7.length:Int)then oB (data7[j6.toNat]?) fun e41=>(if 0<=a7/\a7<((data7.set j6.toNat e39).length:Int)then oB ((data7.set j6.toNat e39)[a7.toNat]?) fun e42=>(some (j6,false,((data7.set j6.toNat e39).set a7.toNat e40)))else none)else none)else none)else none else if 0<=j6/\j6<(data7.length:Int)then oB (data7[j6.toNat]?) fun e43=>(if 0<=i6/\i6<(data7.length:Int)then oB (data7[i6.toNat]?) fun e44=>(if 0<=i6/\i6<(data7.length:Int)then oB (data7[i6.toNat]?) fun e45=>(if 0<=j6/\j6<((data7.set i6.toNat e43).length:Int)then oB ((data7.set i6.toNat e43)[j6.toNat]?) fun e46=>(if fits (i6+1)then if fits (j6-1)then go3 (((data7.set i6.toNat e43).set j6.toNat e44),a7,(i6+1),(j6-1))else none else none)else none)else none)else none)else none)else none)else none else bif decide (j6<i6)then if 0<=a7/\a7<(data7.length:Int)then oB (data7[a7.toNat]?) fun e47=>(if 0<=j6/\j6<(data7.length:Int)then oB (data7[j6.toNat]?) fun e48=>(if 0<=j6/\j6<(data7.length:Int)then oB (data7[j6.toNat]?) fun e49=>(if 0<=a7/\a7<((data7.set j6.toNat e47).length:Int)then oB ((data7.set j6.toNat e47)[a7.toNat]?) fun e50=>(some (j6,false,((data7.set j6.toNat e47).set a7.toNat e48)))else none)else none)else none)else none else if 0<=j6/\j6<(data7.length:Int)then oB (data7[j6.toNat]?) fun e51=>(if 0<=i6/\i6<(data7.length:Int)then oB (data7[i6.toNat]?) fun e52=>(if 0<=i6/\i6<(data7.length:Int)then oB (data7[i6.toNat]?) fun e53=>(if 0<=j6/\j6<((data7.set i6.toNat e51).length:Int)then oB ((data7.set i6.toNat e51)[j6.toNat]?) fun e54=>(if fits (i6+1)then if fits (j6-1)then go3 (((data7.set i6.toNat e51).set j6.toNat e52),a7,(i6+1),(j6-1))else none else none)else none)else none)else none)else none) N (data5,a5,i4,j4)) N (data4,a4,i3,j3)) N (((data3.set i2.toNat e13).set j2.toNat e14),a3,(i2+1),(j2-1))else none else none)else none)else none)else none)else none)else none)else none else bif decide (j2<i2)then if 0<=a3/\a3<(data3.length:Int)then oB (data3[a3.toNat]?) fun e55=>(if 0<=j2/\j2<(data3.length:Int)then oB (data3[j2.toNat]?) fun e56=>(if 0<=j2/\j2<(data3.length:Int)then oB (data3[j2.toNat]?) fun e57=>(if 0<=a3/\a3<((data3.set j2.toNat e55).length:Int)then oB ((data3.set j2.toNat e55)[a3.toNat]?) fun e58=>(some (j2,true,((data3.set j2.toNat e55).set a3.toNat e56)))else none)else none)else none)else none else if 0<=j2/\j2<(data3.length:Int)then oB (data3[j2.toNat]?) fun e59=>(if 0<=i2/\i2<(data3.length:Int)then oB (data3[i2.toNat]?) fun e60=>(if 0<=i2/\i2<(data3.length:Int)then oB (data3[i2.toNat]?) fun e61=>(if 0<=j2/\j2<((data3.set i2.toNat e59).length:Int)then oB ((data3.set i2.toNat e59)[j2.toNat]?) fun e62=>(if fits (i2+1)then if fits (j2-1)then iter (fun go7 (data8,a8,i7,j7)=>iter (fun go8 (data9,a9,i8,j8)=>bif decide (i8<=j8)then if 0<=i8/\i8<(data9.length:Int)then oB (data9[i8.toNat]?) fun e63=>(if 0<=a9/\a9<(data9.length:Int)then oB (data9[a9.toNat]?) fun e64=>(oB (k_cmp_Less_67_m N e63 e64) fun r6=>bif r6 then if fits (i8+1)then go8 (data9,a9,(i8+1),j8)else none else iter (fun go9 (data10,a10,i9,j9)=>bif decide (i9<=j9)then if 0<=j9/\j9<(data10.length:Int)then oB (data10[j9.toNat]?) fun e65=>(if 0<=a10/\a10<(data10.length:Int)then oB (data10[a10.toNat]?) fun e66=>(oB (k_cmp_Less_67_m N e65 e66) fun r7=>bif !r7 then if fits (j9-1)then go9 (data10,a10,i9,(j9-1))else none else bif decide (j9<i9)then if 0<=a10/\a10<(data10.length:Int)then oB (data10[a10.toNat]?) fun e67=>(if 0<=j9/\j9<(data10.length:Int)then oB (data10[j9.toNat]?) fun e68=>(if 0<=j9/\j9<(data10.length:Int)then oB (data10[j9.toNat]?) fun e69=>(if 0<=a10/\a10<((data10.set j9.toNat e67).length:Int)then oB ((data10.set j9.toNat e67)[a10.toNat]?) fun e70=>(some (j9,false,((data10.set j9.toNat e67).set a10.toNat e68)))else none)else none)else none)else none else if 0<=j9/\j9<(data10.length:Int)then oB (data10[j9.toNat]?) fun e71=>(if 0<=i9/\i9<(data10.length:Int)then oB (data10[i9.toNat]?) fun e72=>(if 0<=i9/\i9<(data10.length:Int)then oB (data10[i9.toNat]?) fun e73=>(if 0<=j9/\j9<((data10.set i9.toNat e71).length:Int)then oB ((data10.set i9.toNat e71)[j9.toNat]?) fun e74=>(if fits (i9+1)then if fits (j9-1)then go7 (((data10.set i9.toNat e71).set j9.toNat e72),a10,(i9+1),(j9-1))else none else none)else none)else none)else none)else none)else none)else none else bif decide (j9<i9)then if 0<=a10/\a10<(data10.length:Int)then oB (data10[a10.toNat]?) fun e75=>(if 0<=j9/\j9<(data10.length:Int)then oB (data10[j9.toNat]?) fun e76=>(if 0<=j9/\j9<(data10.length:Int)then oB (data10[j9.toNat]?) fun e77=>(if 0<=a10/\a10<((data10.set j9.toNat e75).length:Int)then oB ((data10.set j9.toNat e75)[a10.toNat]?) fun e78=>(some (j9,false,((data10.set j9.toNat e75).set a10.toNat e76)))else none)else none)else none)else none else if 0<=j9/\j9<(data10.length:Int)then oB (data10[j9.toNat]?) fun e79=>(if 0<=i9/\i9<(data10.length:Int)then oB (data10[i9.toNat]?) fun e80=>(if 0<=i9/\i9<(data10.length:Int)then oB (data10[i9.toNat]?) fun e81=>(if 0<=j9/\j9<((data10.set i9.toNat e79).length:Int)then oB ((data10.set i9.toNat e79)[j9.toNat]?) fun e82=>(if fits (i9+1)then if fits (j9-1)then go7 (((data10.set i9.toNat e79).set j9.toNat e80),a10,(i9+1),(j9-1))else none else none)else none)else none)else none)else none) N (data9,a9,i8,j8))else none)else none else iter (fun go10 (data11,a11,i10,j10)=>bif decide (i10<=j10)then if 0<=j10/\j10<(data11.length:Int)then oB (data11[j10.toNat]?) fun e83=>(if 0<=a11/\a11<(data11.length:Int)then oB (data11[a11.toNat]?) fun e84=>(oB (k_cmp_Less_67_m N e83 e84) fun r8=>bif !r8 then if fits (j10-1)then go10 (data11,a11,i10,(j10-1))else none else bif decide (j10<i10)then if 0<=a11/\a11<(data11.length:Int)then oB (data11[a11.toNat]?) fun e85=>(if 0<=j10/\j10<(data11.length:Int)then oB (data11[j10.toNat]?) fun e86=>(if 0<=j10/\j10<(data11.length:Int)then oB (data11[j10.toNat]?) fun e87=>(if 0<=a11/\a11<((data11.set j10.toNat e85).length:Int)then oB ((data11.set j10.toNat e85)[a11.toNat]?) fun e88=>(some (j10,false,((data11.set j10.toNat e85).set a11.toNat e86)))else none)else none)else none)else none else if 0<=j10/\j10<(data11.length:Int)then oB (data11[j10.toNat]?) fun e89=>(if 0<=i10/\i10<(data11.length:Int)then oB (data11[i10.toNat]?) fun e90=>(if 0<=i10/\i10<(data11.length:Int)then oB (data11[i10.toNat]?) fun e91=>(if 0<=j10/\j10<((data11.set i10.toNat e89).length:Int)then oB ((data11.set i10.toNat e89)[j10.toNat]?) fun e92=>(if fits (i10+1)then if fits (j10-1)then go7 (((data11.set i10.toNat e89).set j10.toNat e90),a11,(i10+1),(j10-1))else none else none)else none)else none)else none)else none)else none)else none else bif decide (j10<i10)then if 0<=a11/\a11<(data11.length:Int)then oB (data11[a11.toNat]?) fun e93=>(if 0<=j10/\j10<(data11.length:Int)then oB (data11[j10.toNat]?) fun e94=>(if 0<=j10/\j10<(data11.length:Int)then oB (data11[j10.toNat]?) fun e95=>(if 0<=a11/\a11<((data11.set j10.toNat e93).length:Int)then oB ((data11.set j10.toNat e93)[a11.toNat]?) fun e96=>(some (j10,false,((data11.set j10.toNat e93).set a11.toNat e94)))else none)else none)else none)else none else if 0<=j10/\j10<(data11.length:Int)then oB (data11[j10.toNat]?) fun e97=>(if 0<=i10/\i10<(data11.length:Int)then oB (data11[i10.toNat]?) fun e98=>(if 0<=i10/\i10<(data11.length:Int)then oB (data11[i10.toNat]?) fun e99=>(if 0<=j10/\j10<((data11.set i10.toNat e97).length:Int)then oB ((data11.set i10.toNat e97)[j10.toNat]?) fun e100=>(if fits (i10+1)then if fits (j10-1)then go7 (((data11.set i10.toNat e97).set j10.toNat e98),a11,(i10+1),(j10-1))else none else none)else none)else none)else none)else none) N (data9,a9,i8,j8)) N (data8,a8,i7,j7)) N (((data3.set i2.toNat e59).set j2.toNat e60),a3,(i2+1),(j2-1))else none else none)else none)else none)else none)else none) N (data2,a2,i,j))else none)else none else iter (fun go11 (data12,a12,i11,j11)=>bif decide (i11<=j11)then if 0<=j11/\j11<(data12.length:Int)then oB (data12[j11.toNat]?) fun e101=>(if 0<=a12/\a12<(data12.length:Int)then oB (data12[a12.toNat]?) fun e102=>(oB (k_cmp_Less_67_m N e101 e102) fun r9=>bif !r9 then if fits (j11-1)then go11 (data12,a12,i11,(j11-1))else none else bif decide (j11<i11)then if 0<=a12/\a12<(data12.length:Int)then oB (data12[a12.toNat]?) fun e103=>(if 0<=j11/\j11<(data12.length:Int)then oB (data12[j11.toNat]?) fun e104=>(if 0<=j11/\j11<(data12.length:Int)then oB (data12[j11.toNat]?) fun e105=>(if 0<=a12/\a12<((data12.set j11.toNat e103).length:Int)then oB ((data12.set j11.toNat e103)[a12.toNat]?) fun e106=>(some (j11,true,((data12.set j11.toNat e103).set a12.toNat e104)))else none)else none)else none)else none else if 0<=j11/\j11<(data12.length:Int)then oB (data12[j11.toNat]?) fun e107=>(if 0<=i11/\i11<(data12.length:Int)then oB (data12[i11.toNat]?) fun e108=>(if 0<=i11/\i11<(data12.length:Int)then oB (data12[i11.toNat]?) fun e109=>(if 0<=j11/\j11<((data12.set i11.toNat e107).length:Int)then oB ((data12.set i11.toNat e107)[j11.toNat]?) fun e110=>(if fits (i11+1)then if fits (j11-1)then iter (fun go12 (data13,a13,i12,j12)=>iter (fun go13 (data14,a14,i13,j13)=>bif decide (i13<=j13)then if 0<=i13/\i13<(data14.length:Int)then oB (data14[i13.toNat]?) fun e111=>(if 0<=a14/\a14<(data14.length:Int)then oB (data14[a14.toNat]?) fun e112=>(oB (k_cmp_Less_67_m N e111 e112) fun r10=>bif r10 then if fits (i13+1)then go13 (data14,a14,(i13+1),j13)else none else iter (fun go14 (data15,a15,i14,j14)=>bif decide (i14<=j14)then if 0<=j14/\j14<(data15.length:Int)then oB (data15[j14.toNat]?) fun e113=>(if 0<=a15/\a15<(data15.length:Int)then oB (data15[a15.toNat]?) fun e114=>(oB (k_cmp_Less_67_m N e113 e114) fun r11=>bif !r11 then if fits (j14-1)then go14 (data15,a15,i14,(j14-1))else none else bif decide (j14<i14)then if 0<=a15/\a15<(data15.length:Int)then oB (data15[a15.toNat]?) fun e115=>(if 0<=j14/\j14<(data15.length:Int)then oB (data15[j14.toNat]?) fun e116=>(if 0<=j14/\j14<(data15.length:Int)then oB (data15[j14.toNat]?) fun e117=>(if 0<=a15/\a15<((data15.set j14.toNat e115).length:Int)then oB ((data15.set j14.toNat e115)[a15.toNat]?) fun e118=>(some (j14,false,((data15.set j14.toNat e115).set a15.toNat e116)))else none)else none)else none)else none else if 0<=j14/\j14<(data15.length:Int)then oB (data15[j14.toNat]?) fun e119=>(if 0<=i14/\i14<(data15.length:Int)then oB (data15[i14.toNat]?) fun e120=>(if 0<=i14/\i14<(data15.length:Int)then oB (data15[i14.toNat]?) fun e121=>(if 0<=j14/\j14<((data15.set i14.toNat e119).length:Int)then oB ((data15.set i14.toNat e119)[j14.toNat]?) fun e122=>(if fits (i14+1)then if fits (j14-1)then go12 (((data15.set i14.toNat e119).set j14.toNat e120),a15,(i14+1),(j14-1))else none else none)else none)else none)else none)else none)else none)else none else bif decide (j14<i14)then if 0<=a15/\a15<(data15.length:Int)then oB (data15[a15.toNat]?) fun e123=>(if 0<=j14/\j14<(data15.length:Int)then oB (data15[j14.toNat]?) fun e124=>(if 0<=j14/\j14<(data15.length:Int)then oB (data15[j14.toNat]?) fun e125=>(if 0<=a15/\a15<((data15.set j14.toNat e123).length:Int)then oB ((data15.set j14.toNat e123)[a15.toNat]?) fun e126=>(some (j14,false,((data15.set j14.toNat e123).set a15.toNat e124)))else none)else none)else none)else none else if 0<=j14/\j14<(data15.length:Int)then oB (data15[j14.toNat]?) fun e127=>(if 0<=i14/\i14<(data15.length:Int)then oB (data15[i14.toNat]?) fun e128=>(if 0<=i14/\i14<(data15.length:Int)then oB (data15[i14.toNat]?) fun e129=>(if 0<=j14/\j14<((data15.set i14.toNat e127).length:Int)then oB ((data15.set i14.toNat e127)[j14.toNat]?) fun e130=>(if fits (i14+1)then if fits (j14-1)then go12 (((data15.set i14.toNat e127).set j14.toNat e128),a15,(i14+1),(j14-1))else none else none)else none)else none)else none)else none) N (data14,a14,i13,j13))else none)else none else iter (fun go15 (data16,a16,i15,j15)=>bif decide (i15<=j15)then if 0<=j15/\j15<(data16.length:Int)then oB (data16[j15.toNat]?) fun e131=>(if 0<=a16/\a16<(data16.length:Int)then oB (data16[a16.toNat]?) fun e132=>(oB (k_cmp_Less_67_m N e131 e132) fun r12=>bif !r12 then if fits (j15-1)then go15 (data16,a16,i15,(j15-1))else none else bif decide (j15<i15)then if 0<=a16/\a16<(data16.length:Int)then oB (data16[a16.toNat]?) fun e133=>(if 0<=j15/\j15<(data16.length:Int)then oB (data16[j15.toNat]?) fun e134=>(if 0<=j15/\j15<(data16.length:Int)then oB (data16[j15.toNat]?) fun e135=>(if 0<=a16/\a16<((data16.set j15.toNat e133).length:Int)then oB ((data16.set j15.toNat e133)[a16.toNat]?) fun e136=>(some (j15,false,((data16.set j15.toNat e133).set a16.toNat e134)))else none)else none)else none)else none else if 0<=j15/\j15<(data16.length:Int)then oB (data16[j15.toNat]?) fun e137=>(if 0<=i15/\i15<(data16.length:Int)then oB (data16[i15.toNat]?) fun e138=>(if 0<=i15/\i15<(data16.length:Int)then oB (data16[i15.toNat]?) fun e139=>(if 0<=j15/\j15<((data16.set i15.toNat e137).length:Int)then oB ((data16.set i15.toNat e137)[j15.toNat]?) fun e140=>(if fits (i15+1)then if fits (j15-1)then go12 (((data16.set i15.toNat e137).set j15.toNat e138),a16,(i15+1),(j15-1))else none else none)else none)else none)else none)else none)else none)else none else bif decide (j15<i15)then if 0<=a16/\a16<(data16.length:Int)then oB (data16[a16.toNat]?) fun e141=>(if 0<=j15/\j15<(data16.length:Int)then oB (data16[j15.toNat]?) fun e142=>(if 0<=j15/\j15<(data16.length:Int)then oB (data16[j15.toNat]?) fun e143=>(if 0<=a16/\a16<((data16.set j15.toNat e141).length:Int)then oB ((data16.set j15.toNat e141)[a16.toNat]?) fun e144=>(some (j15,false,((data16.set j15.toNat e141).set a16.toNat e142)))else none)else none)else none)else none else if 0<=j15/\j15<(data16.length:Int)then oB (data16[j15.toNat]?) fun e145=>(if 0<=i15/\i15<(data16.length:Int)then oB (data16[i15.toNat]?) fun e146=>(if 0<=i15/\i15<(data16.length:Int)then oB (data16[i15.toNat]?) fun e147=>(if 0<=j15/\j15<((data16.set i15.toNat e145).length:Int)then oB ((data16.set i15.toNat e145)[j15.toNat]?) fun e148=>(if fits (i15+1)then if fits (j15-1)then go12 (((data16.set i15.toNat e145).set j15.toNat e146),a16,(i15+1),(j15-1))else none else none)else none)else none)else none)else none) N (data14,a14,i13,j13)) N (data13,a13,i12,j12)) N (((data12.set i11.toNat e107).set j11.toNat e108),a12,(i11+1),(j11-1))else none else none)else none)else none)else none)else none)else none)else none else bif decide (j11<i11)then if 0<=a12/\a12<(data12.length:Int)then oB (data12[a12.toNat]?) fun e149=>(if 0<=j11/\j11<(data12.length:Int)then oB (data12[j11.toNat]?) fun e150=>(if 0<=j11/\j11<(data12.length:Int)then oB (data12[j11.toNat]?) fun e151=>(if 0<=a12/\a12<((data12.set j11.toNat e149).length:Int)then oB ((data12.set j11.toNat e149)[a12.toNat]?) fun e152=>(some (j11,true,((data12.set j11.toNat e149).set a12.toNat e150)))else none)else none)else none)else none else if 0<=j11/\j11<(data12.length:Int)then oB (data12[j11.toNat]?) fun e153=>(if 0<=i11/\i11<(data12.length:Int)then oB (data12[i11.toNat]?) fun e154=>(if 0<=i11/\i11<(data12.length:Int)then oB (data12[i11.toNat]?) fun e155=>(if 0<=j11/\j11<((data12.set i11.toNat e153).length:Int)then oB ((data12.set i11.toNat e153)[j11.toNat]?) fun e156=>(if fits (i11+1)then if fits (j11-1)then iter (fun go16 (data17,a17,i16,j16)=>iter (fun go17 (data18,a18,i17,j17)=>bif decide (i17<=j17)then if 0<=i17/\i17<(data18.length:Int)then oB (data18[i17.toNat]?) fun e157=>(if 0<=a18/\a18<(data18.length:Int)then oB (data18[a18.toNat]?) fun e158=>(oB (k_cmp_Less_67_m N e157 e158) fun r13=>bif r13 then if fits (i17+1)then go17 (data18,a18,(i17+1),j17)else none else iter (fun go18 (data19,a19,i18,j18)=>bif decide (i18<=j18)then if 0<=j18/\j18<(data19.length:Int)then oB (data19[j18.toNat]?) fun e159=>(if 0<=a19/\a19<(data19.length:Int)then oB (data19[a19.toNat]?) fun e160=>(oB (k_cmp_Less_67_m N e159 e160) fun r14=>bif !r14 then if fits (j18-1)then go18 (data19,a19,i18,(j18-1))else none else bif decide (j18<i18)then if 0<=a19/\a19<(data19.length:Int)then oB (data19[a19.toNat]?) fun e161=>(if 0<=j18/\j18<(data19.length:Int)then oB (data19[j18.toNat]?) fun e162=>(if 0<=j18/\j18<(data19.length:Int)then oB (data19[j18.toNat]?) fun e163=>(if 0<=a19/\a19<((data19.set j18.toNat e161).length:Int)then oB ((data19.set j18.toNat e161)[a19.toNat]?) fun e164=>(some (j18,false,((data19.set j18.toNat e161).set a19.toNat e162)))else none)else none)else none)else none else if 0<=j18/\j18<(data19.length:Int)then oB (data19[j18.toNat]?) fun e165=>(if 0<=i18/\i18<(data19.length:Int)then oB (data19[i18.toNat]?) fun e166=>(if 0<=i18/\i18<(data19.length:Int)then oB (data19[i18.toNat]?) fun e167=>(if 0<=j18/\j18<((data19.set i18.toNat e165).length:Int)then oB ((data19.set i18.toNat e165)[j18.toNat]?) fun e168=>(if fits (i18+1)then if fits (j18-1)then go16 (((data19.set i18.toNat e165).set j18.toNat e166),a19,(i18+1),(j18-1))else none else none)else none)else none)else none)else none)else none)else none else bif decide (j18<i18)then if 0<=a19/\a19<(data19.length:Int)then oB (data19[a19.toNat]?) fun e169=>(if 0<=j18/\j18<(data19.length:Int)then oB (data19[j18.toNat]?) fun e170=>(if 0<=j18/\j18<(data19.length:Int)then oB (data19[j18.toNat]?) fun e171=>(if 0<=a19/\a19<((data19.set j18.toNat e169).length:Int)then oB ((data19.set j18.toNat e169)[a19.toNat]?) fun e172=>(some (j18,false,((data19.set j18.toNat e169).set a19.toNat e170)))else none)else none)else none)else none else if 0<=j18/\j18<(data19.length:Int)then oB (data19[j18.toNat]?) fun e173=>(if 0<=i18/\i18<(data19.length:Int)then oB (data19[i18.toNat]?) fun e174=>(if 0<=i18/\i18<(data19.length:Int)then oB (data19[i18.toNat]?) fun e175=>(if 0<=j18/\j18<((data19.set i18.toNat e173).length:Int)then oB ((data19.set i18.toNat e173)[j18.toNat]?) fun e176=>(if fits (i18+1)then if fits (j18-1)then go16 (((data19.set i18.toNat e173).set j18.toNat e174),a19,(i18+1),(j18-1))else none else none)else none)else none)else none)else none) N (data18,a18,i17,j17))else none)else none else iter (fun go19 (data20,a20,i19,j19)=>bif decide (i19<=j19)then if 0<=j19/\j19<(data20.length:Int)then oB (data20[j19.toNat]?) fun e177=>(if 0<=a20/\a20<(data20.length:Int)then oB (data20[a20.toNat]?) fun e178=>(oB (k_cmp_Less_67_m N e177 e178) fun r15=>bif !r15 then if fits (j19-1)then go19 (data20,a20,i19,(j19-1))else none else bif decide (j19<i19)then if 0<=a20/\a20<(data20.length:Int)then oB (data20[a20.toNat]?) fun e179=>(if 0<=j19/\j19<(data20.length:Int)then oB (data20[j19.toNat]?) fun e180=>(if 0<=j19/\j19<(data20.length:Int)then oB (data20[j19.toNat]?) fun e181=>(if 0<=a20/\a20<((data20.set j19.toNat e179).length:Int)then oB ((data20.set j19.toNat e179)[a20.toNat]?) fun e182=>(some (j19,false,((data20.set j19.toNat e179).set a20.toNat e180)))else none)else none)else none)else none else if 0<=j19/\j19<(data20.length:Int)then oB (data20[j19.toNat]?) fun e183=>(if 0<=i19/\i19<(data20.length:Int)then oB (data20[i19.toNat]?) fun e184=>(if 0<=i19/\i19<(data20.length:Int)then oB (data20[i19.toNat]?) fun e185=>(if 0<=j19/\j19<((data20.set i19.toNat e183).length:Int)then oB ((data20.set i19.toNat e183)[j19.toNat]?) fun e186=>(if fits (i19+1)then if fits (j19-1)then go16 (((data20.set i19.toNat e183).set j19.toNat e184),a20,(i19+1),(j19-1))else none else none)else none)else none)else none)else none)else none)else none else bif decide (j19<i19)then if 0<=a20/\a20<(data20.length:Int)then oB (data20[a20.toNat]?) fun e187=>(if 0<=j19/\j19<(data20.length:Int)then oB (data20[j19.toNat]?) fun e188=>(if 0<=j19/\j19<(data20.length:Int)then oB (data20[j19.toNat]?) fun e189=>(if 0<=a20/\a20<((data20.set j19.toNat e187).length:Int)then oB ((data20.set j19.toNat e187)[a20.toNat]?) fun e190=>(some (j19,false,((data20.set j19.toNat e187).set a20.toNat e188)))else none)else none)else none)else none else if 0<=j19/\j19<(data20.length:Int)then oB (data20[j19.toNat]?) fun e191=>(if 0<=i19/\i19<(data20.length:Int)then oB (data20[i19.toNat]?) fun e192=>(if 0<=i19/\i19<(data20.length:Int)then oB (data20[i19.toNat]?) fun e193=>(if 0<=j19/\j19<((data20.set i19.toNat e191).length:Int)then oB ((data20.set i19.toNat e191)[j19.toNat]?) fun e194=>(if fits (i19+1)then if fits (j19-1)then go16 (((data20.set i19.toNat e191).set j19.toNat e192),a20,(i19+1),(j19-1))else none else none)else none)else none)else none)else none) N (data18,a18,i17,j17)) N (data17,a17,i16,j16)) N (((data12.set i11.toNat e153).set j11.toNat e154),a12,(i11+1),(j11-1))else none else none)else none)else none)else none)else none) N (data2,a2,i,j)) N (((data.set a.toNat e).set pivot.toNat e2),a,(a+1),(b-1))else none else none)else none)else none)else none)else none)
theorem jL5 :mK 231 (bX [.mtk 800000 tI 3 true,pI,pI,pI] [.tup [pI,pB],.mtk 800000 tI 3 true] (c4A (jKo N))):=
 mO (fC (jA5 N) ja) func231 rfl N (.seq .no (.seq .no (.seq .no (.seq (.block (.loop jJV .no)) (.seq (.block (.loop jJV .no)) (.seq .no (.seq .no (.seq .no (.seq .no (.seq (.block (.loop jJV (.block (.seq (.block (.loop jJV .no)) (.seq (.block (.loop jJV .no)) .no))))) .no)))))))))) _ (rs:=[800000])
def jM4 :Sh:=⟨.mtk 800000 tI 3 true::pI::pI::pI::dz 4 (pB::pB::dz 124 []),[]⟩
def jLX :Sh:=⟨.mtk 800000 tI 3 true::pI::pI::pI::dz 4 (pB::pB::pI::pI::dz 122 []),[]⟩
def jK8 :Sh:=⟨.mtk 800000 tI 3 true::pI::pI::pI::dz 4 (pB::pB::pI::pI::pI::dz 121 []),[]⟩
def jLk :Sh:=⟨.mtk 800000 tI 3 true::pI::pI::pI::dz 4 (pB::pB::pI::dz 123 []),[]⟩
def k_slices_pdqsortOrdered_440_m (N:Nat):(D:Nat)->(List Int)->Int->Int->Int->Z15
 |0,_,_,_,_=>none
 |D+1,data,a,b,limit=>
 iter (fun go (g:(List Int)×Int×Int×Int×Bool×Bool)=>
 match g with
 |(data2,a2,b2,limit2,wasBalanced,wasPartitioned)=>
 if fits (b2-a2)then bif decide ((b2-a2)<=12)then
 oB (jKD N data2 a2 b2) fun r=>
 (some r)
 else
 (bif decide (limit2=0)then
 oB (jKw N data2 a2 b2) fun r2=>
 (some r2)
 else
 meet (fun(g:(List Int)×Int×Int×Int×Bool×Bool×Int)=>
 match g with
 |(data3,a3,b3,limit3,wasBalanced2,wasPartitioned2,length)=>
 oB (jKT N data3 a3 b3) fun r4=>
 meet (fun(g:(List Int)×Int×Int×Int×Bool×Bool×Int×Int×Int)=>
 match g with
 |(data4,a4,b4,limit4,wasBalanced3,wasPartitioned3,length2,pivot,hint)=>
 meet (fun(g:(List Int)×Int×Int×Int×Bool×Bool×Int×Int)=>
 match g with
 |(data5,a5,b5,limit5,wasBalanced4,wasPartitioned4,length3,pivot2)=>
 bif decide ((0:Int)<a5)then
 if fits (a5-1)then if 0<=(a5-1)/\(a5-1)<(data5.length:Int)then
 oB (data5[(a5-1).toNat]?) fun e=>
 (if 0<=pivot2/\pivot2<(data5.length:Int)then
 oB (data5[pivot2.toNat]?) fun e2=>
 (oB (k_cmp_Less_67_m N e e2) fun r7=>
 bif !r7 then
 oB (jKu N data5 a5 b5 pivot2) fun r8=>
 (go (r8.2,r8.1,b5,limit5,wasBalanced4,wasPartitioned4))
 else
 oB (jKo N data5 a5 b5 pivot2) fun r9=>
 if fits (r9.1-a5)then if fits (b5-r9.1)then if 8≠0 then
 if fits (length3.tdiv 8)then bif decide ((r9.1-a5)<(b5-r9.1))then
 oB (k_slices_pdqsortOrdered_440_m N D r9.2.2 a5 r9.1 limit5) fun r10=>
 (if fits (r9.1+1)then go (r10,(r9.1+1),b5,limit5,(decide ((length3.tdiv 8)<=(r9.1-a5))),r9.2.1)else none)
 else
 (if fits (r9.1+1)then oB (k_slices_pdqsortOrdered_440_m N D r9.2.2 (r9.1+1) b5 limit5) fun r11=>
 (go (r11,a5,r9.1,limit5,(decide ((length3.tdiv 8)<=(b5-r9.1))),r9.2.1))else none)else none
 else none else none else none)
 else none)
 else none else none
 else
 oB (jKo N data5 a5 b5 pivot2) fun r12=>
 if fits (r12.1-a5)then if fits (b5-r12.1)then if 8≠0 then
 if fits (length3.tdiv 8)then bif decide ((r12.1-a5)<(b5-r12.1))then
 oB (k_slices_pdqsortOrdered_440_m N D r12.2.2 a5 r12.1 limit5) fun r13=>
 (if fits (r12.1+1)then go (r13,(r12.1+1),b5,limit5,(decide ((length3.tdiv 8)<=(r12.1-a5))),r12.2.1)else none)
 else
 (if fits (r12.1+1)then oB (k_slices_pdqsortOrdered_440_m N D r12.2.2 (r12.1+1) b5 limit5) fun r14=>
 (go (r14,a5,r12.1,limit5,(decide ((length3.tdiv 8)<=(b5-r12.1))),r12.2.1))else none)else none
 else none else none else none) fun J3=>
 bif wasBalanced3 then
 bif wasPartitioned3 then
 bif decide (hint=1)then
 oB (jKt N data4 a4 b4) fun r6=>
 (bif r6.1 then
 some r6.2
 else
 J3 (r6.2,a4,b4,limit4,wasBalanced3,wasPartitioned3,length2,pivot))
 else
 (J3 (data4,a4,b4,limit4,wasBalanced3,wasPartitioned3,length2,pivot))
 else
 (J3 (data4,a4,b4,limit4,wasBalanced3,wasPartitioned3,length2,pivot))
 else
 J3 (data4,a4,b4,limit4,wasBalanced3,wasPartitioned3,length2,pivot)) fun J2=>
 bif decide (r4.2.1=2)then
 oB (jKC N r4.2.2 a3 b3) fun r5=>
 (if fits (b3-1)then if fits (r4.1-a3)then if fits ((b3-1)-(r4.1-a3))then J2 (r5,a3,b3,limit3,wasBalanced2,wasPartitioned2,length,((b3-1)-(r4.1-a3)),1)else none else none else none)
 else
 J2 (r4.2.2,a3,b3,limit3,wasBalanced2,wasPartitioned2,length,r4.1,r4.2.1)) fun J=>
 bif !wasBalanced then
 oB (jKH N data2 a2 b2) fun r3=>
 (if fits (limit2-1)then J (r3,a2,b2,(limit2-1),wasBalanced,wasPartitioned,(b2-a2))else none)
 else
 J (data2,a2,b2,limit2,wasBalanced,wasPartitioned,(b2-a2)))else none) N (data,a,b,limit,true,true)
def jJ9 (N D:Nat):Model:=⟨⟨[.mtk 800000 tI 3 true,pI,pI,pI],[]⟩,⟨[.tup [],.mtk 800000 tI 3 true],[]⟩,c4A (k_slices_pdqsortOrdered_440_m N D)⟩
theorem jK0 (N D:Nat) (ih:mK 169 (jJ9 N D)):mK 169 (jJ9 N (D+1)):=
 mO (fC ih (fC (jMr N) (fC (jLI N) (fC (jMF N) (fC (jMB N) (fC (jLn N) (fC (jMH N) (fC (jA5 N) (fC (jMs N) (fC (jL5 N) ja)))))))))) func169 rfl N (.seq .no (.seq .no (.block (.loop jM4 (.block (.seq .no (.seq .no (.seq .no (.meet jLk .no (.seq .no (.meet jK8 .no (.meet jLX .no .no)))))))))))) (jJ9 N (D+1)) (rs:=[800000])
theorem jKz (N:Nat):∀D,mK 169 (jJ9 N D)
 |0=>modelOk_none ⟨_,func169,by decide,by kernel_rfl⟩ _ (fun a=>rfl)
 |D+1=>jK0 N D (jKz N D)
def k_slices_Sort_287_m (a:List Int):Z15:=
 (oB (k_math_bits_Len_m N (IntKind.u64.wrap (a.length:Int))) fun b=>oB (k_slices_pdqsortOrdered_440_m N N a 0 (a.length:Int) b) fun c=>some c)
theorem jMQ :mK 106 (bX [.mtk 800000 tI 3 true] [.tup [],.mtk 800000 tI 3 true] (c1A (k_slices_Sort_287_m N))):=
 mO (fC (jda N) (fC (jKz N N) ja)) func106 rfl N .no _ (rs:=[800000])
def l_foInts_m (c:List Int) (d:List Int):Z8:=
 (bif !decide ((c.length:Int)=(d.length:Int))then some false else iter (fun i (b,e,a)=>bif decide (a<(b.length:Int))then oB (idx b a) fun h=>(oB (idx e a) fun j=>bif !decide (h=j)then some false else if fits (a+1)then i (b,e,(a+1))else none)else some true) N (c,d,(0:Int)))
theorem jQS :mK 38 (bX [.pv Y20,.pv Y20] [pB] (c2A (l_foInts_m N))):=
 mO ja func38 rfl N (.seq .no (.seq .no (.seq (.seq .no (.block (.loop jnI .no))) .no))) _
def jDx :Sh:=⟨pS::dz 4 (pI::pI::dz 23 []),[]⟩
def jxV (e:List UInt8):Z8:=
 (iter (fun d (b,c,a)=>bif decide (a<c)then oB (idx b a) fun i=>(oB (jaw N (i.toNat:Int)) fun h=>bif !h then oB (idx b a) fun k=>(bif !decide ((k.toNat:Int)=42)then oB (idx b a) fun f=>(bif !decide ((f.toNat:Int)=63)then some false else if fits (a+1)then d (b,c,(a+1))else none)else if fits (a+1)then d (b,c,(a+1))else none)else if fits (a+1)then d (b,c,(a+1))else none)else oB (jm N (b.length:Int) 1 12) fun j=>some j) N (e,(e.length:Int),(0:Int)))
theorem jz9 :mK 167 (bX [pS] [pB] (c1A (jxV N))):=
 mO (fC (jeK N) (fC (jY N) ja)) func167 rfl N (.seq .no (.seq (.seq .no (.block (.loop jDx .no))) .no)) _
def jBs :Sh:=⟨.dead::pI:: .box 2 0::dz 90 (.pv (.sl .str)::pI::pI::dz 39 []),[(2,false,[pI,pS,.pv (.sl .str),pI,pI,.pv (.sl .q)])]⟩
def jC6 :Sh:=⟨.dead::pI::dz 121 (.pv (.sl .q)::pI::pI::dz 9 []),[]⟩
def jDY :Sh:=⟨.dead::pI:: .box 2 0::dz 132 [],[(2,false,[pI,pS,.pv (.sl .str),pI,pI,.pv (.sl .q)])]⟩
def jzZ :Sh:=⟨.dead::pI:: .box 2 0:: .dead:: .dead:: .box 5 0::dz 129 [],[(2,false,[pI,pS,.pv (.sl .str),pI,pI,.pv (.sl .q)]),(5,false,[pB,pI,pI,pI,pI,pB,pI,pI])]⟩
def jxE (N:Nat):(D:Nat)->Int->Z0->(List Z0)->Int->Int->(List DQ)->Int->Z8
 |0,_,_,_,_,_,_,_=>none
 |D+1,q,q2,q3,q4,q5,q6,deep=>
 meet (fun(g:Z20)=>
 match g with
 |(deep2,q7,q8,q9,q10,q11,q12,x,x2,x3,x4,x5,x6,x7,x8)=>
 meet (fun(g:Z20)=>
 match g with
 |(deep3,q13,q14,q15,q16,q17,q18,x9,x10,x11,x12,x13,x14,x15,x16)=>
 meet (fun(g:Int×Int×Z0×(List Z0)×Int×Int×(List DQ))=>
 match g with
 |(deep4,q19,q20,q21,q22,q23,q24)=>
 iter (fun go (g:Int×(List Z0)×Int×Int×Int×Z0×(List Z0)×Int×Int×(List DQ))=>
 match g with
 |(deep5,t93,t94,t95,q25,q26,q27,q28,q29,q30)=>
 bif decide (t95<t94)then
 oB (idx t93 t95) fun e=>
 (bif decide (q25=5)then
 oB (jxV N e) fun r6=>
 (bif !r6 then
 some false
 else
 oB (jO N e) fun r7=>
 bif r7 then
 some false
 else
 bif !decide (q25=5)then
 oB (jO N e) fun r8=>
 (bif !r8 then
 some false
 else
 if fits (t95+1)then go (deep5,t93,t94,(t95+1),q25,q26,q27,q28,q29,q30)else none)
 else
 if fits (t95+1)then go (deep5,t93,t94,(t95+1),q25,q26,q27,q28,q29,q30)else none)
 else
 bif !decide (q25=5)then
 oB (jO N e) fun r9=>
 (bif !r9 then
 some false
 else
 if fits (t95+1)then go (deep5,t93,t94,(t95+1),q25,q26,q27,q28,q29,q30)else none)
 else
 if fits (t95+1)then go (deep5,t93,t94,(t95+1),q25,q26,q27,q28,q29,q30)else none)
 else
 iter (fun go2 (g:Int×(List DQ)×Int×Int)=>
 match g with
 |(deep6,t123,t124,t125)=>
 bif decide (t125<t124)then
 oB (idx t123 t125) fun e2=>
 (if fits (deep6-1)then oB (jxE N D e2.kind e2.field e2.words e2.lo e2.hi e2.kids (deep6-1)) fun r10=>
 (bif !r10 then
 some false
 else
 if fits (t125+1)then go2 (deep6,t123,t124,(t125+1))else none)else none)
 else
 some true) N (deep5,q30,(q30.length:Int),0)) N (deep4,q21,(q21.length:Int),0,q19,q20,q21,q22,q23,q24)) fun J3=>
 bif x14 then
 oB (jm N q17 q16 999999999) fun r5=>
 (bif !r5 then
 some false
 else
 bif !x14 then
 bif !decide (q17=0)then
 some false
 else
 (J3 (deep3,q13,q14,q15,q16,q17,q18))
 else
 J3 (deep3,q13,q14,q15,q16,q17,q18))
 else
 bif !x14 then
 bif !decide (q17=0)then
 some false
 else
 (J3 (deep3,q13,q14,q15,q16,q17,q18))
 else
 J3 (deep3,q13,q14,q15,q16,q17,q18)) fun J2=>
 oB (jm N (q9.length:Int) x2 x3) fun r2=>
 bif !r2 then
 some false
 else
 oB (jm N (q12.length:Int) x7 x8) fun r3=>
 bif !r3 then
 some false
 else
 oB (jm N q10 x4 x5) fun r4=>
 bif !r4 then
 some false
 else
 J2 (deep2,q7,q8,q9,q10,q11,q12,x,x2,x3,x4,x5,x6,x7,x8)) fun J=>
 bif !((mget tI (.pair .bool (.pair tI (.pair tI (.pair tI (.pair tI (.pair .bool Y13)))))) gm_shapes q).isSome)then
 some false
 else
 bif decide (deep<1)then
 some false
 else
 bif !((((mget tI (.pair .bool (.pair tI (.pair tI (.pair tI (.pair tI (.pair .bool Y13)))))) gm_shapes q).getD (false,(0,(0,(0,(0,(false,(0,0)))))))).1)==(!decide (q2=([]:List UInt8))))then
 some false
 else
 bif((mget tI (.pair .bool (.pair tI (.pair tI (.pair tI (.pair tI (.pair .bool Y13)))))) gm_shapes q).getD (false,(0,(0,(0,(0,(false,(0,0)))))))).1 then
 oB (jO N q2) fun r=>
 (bif !r then
 some false
 else
 J (deep,q,q2,q3,q4,q5,q6,((mget tI (.pair .bool (.pair tI (.pair tI (.pair tI (.pair tI (.pair .bool Y13)))))) gm_shapes q).getD (false,(0,(0,(0,(0,(false,(0,0)))))))).1,(((mget tI (.pair .bool (.pair tI (.pair tI (.pair tI (.pair tI (.pair .bool Y13)))))) gm_shapes q).getD (false,(0,(0,(0,(0,(false,(0,0)))))))).2).1,((((mget tI (.pair .bool (.pair tI (.pair tI (.pair tI (.pair tI (.pair .bool Y13)))))) gm_shapes q).getD (false,(0,(0,(0,(0,(false,(0,0)))))))).2).2).1,(((((mget tI (.pair .bool (.pair tI (.pair tI (.pair tI (.pair tI (.pair .bool Y13)))))) gm_shapes q).getD (false,(0,(0,(0,(0,(false,(0,0)))))))).2).2).2).1,((((((mget tI (.pair .bool (.pair tI (.pair tI (.pair tI (.pair tI (.pair .bool Y13)))))) gm_shapes q).getD (false,(0,(0,(0,(0,(false,(0,0)))))))).2).2).2).2).1,(((((((mget tI (.pair .bool (.pair tI (.pair tI (.pair tI (.pair tI (.pair .bool Y13)))))) gm_shapes q).getD (false,(0,(0,(0,(0,(false,(0,0)))))))).2).2).2).2).2).1,((((((((mget tI (.pair .bool (.pair tI (.pair tI (.pair tI (.pair tI (.pair .bool Y13)))))) gm_shapes q).getD (false,(0,(0,(0,(0,(false,(0,0)))))))).2).2).2).2).2).2).1,((((((((mget tI (.pair .bool (.pair tI (.pair tI (.pair tI (.pair tI (.pair .bool Y13)))))) gm_shapes q).getD (false,(0,(0,(0,(0,(false,(0,0)))))))).2).2).2).2).2).2).2))
 else
 J (deep,q,q2,q3,q4,q5,q6,((mget tI (.pair .bool (.pair tI (.pair tI (.pair tI (.pair tI (.pair .bool Y13)))))) gm_shapes q).getD (false,(0,(0,(0,(0,(false,(0,0)))))))).1,(((mget tI (.pair .bool (.pair tI (.pair tI (.pair tI (.pair tI (.pair .bool Y13)))))) gm_shapes q).getD (false,(0,(0,(0,(0,(false,(0,0)))))))).2).1,((((mget tI (.pair .bool (.pair tI (.pair tI (.pair tI (.pair tI (.pair .bool Y13)))))) gm_shapes q).getD (false,(0,(0,(0,(0,(false,(0,0)))))))).2).2).1,(((((mget tI (.pair .bool (.pair tI (.pair tI (.pair tI (.pair tI (.pair .bool Y13)))))) gm_shapes q).getD (false,(0,(0,(0,(0,(false,(0,0)))))))).2).2).2).1,((((((mget tI (.pair .bool (.pair tI (.pair tI (.pair tI (.pair tI (.pair .bool Y13)))))) gm_shapes q).getD (false,(0,(0,(0,(0,(false,(0,0)))))))).2).2).2).2).1,(((((((mget tI (.pair .bool (.pair tI (.pair tI (.pair tI (.pair tI (.pair .bool Y13)))))) gm_shapes q).getD (false,(0,(0,(0,(0,(false,(0,0)))))))).2).2).2).2).2).1,((((((((mget tI (.pair .bool (.pair tI (.pair tI (.pair tI (.pair tI (.pair .bool Y13)))))) gm_shapes q).getD (false,(0,(0,(0,(0,(false,(0,0)))))))).2).2).2).2).2).2).1,((((((((mget tI (.pair .bool (.pair tI (.pair tI (.pair tI (.pair tI (.pair .bool Y13)))))) gm_shapes q).getD (false,(0,(0,(0,(0,(false,(0,0)))))))).2).2).2).2).2).2).2)
def jyl (N D:Nat):Model:=⟨⟨[.agg [pI,pS,.pv (.sl .str),pI,pI,.pv (.sl .q)],pI],[]⟩,⟨[pB],[]⟩,c7A (jxE N D)⟩
theorem jAF (N D:Nat) (ih:mK 103 (jyl N D)):mK 103 (jyl N (D+1)):=
 mO (fC ih (fC (jcM N) (fC (jY N) (fC (jz9 N) ja)))) func103 rfl N (.seq .no (.seq .no (.meet jzZ .no (.meet jzZ .no (.meet jDY .no (.seq (.seq .no (.block (.loop jBs .no))) (.seq (.seq .no (.block (.loop jC6 .no))) .no))))))) (jyl N (D+1))
theorem jzh (N:Nat):∀D,mK 103 (jyl N D)
 |0=>modelOk_none ⟨_,func103,by decide,by kernel_rfl⟩ _ (fun a=>rfl)
 |D+1=>jAF N D (jzh N D)
def i_QueryOk_m (a:Int) (f:List UInt8) (h:List Z0) (d:Int) (e:Int) (c:List DQ):Z8:=
 (oB (jxE N N a f h d e c 4) fun b=>some b)
theorem jCN :mK 41 (bX [.agg [pI,pS,.pv (.sl .str),pI,pI,.pv (.sl .q)]] [pB] (c6A (i_QueryOk_m N))):=
 mO (fC (jzh N N) ja) func41 rfl N .no _
def jyc (f:List Z0) (c:List Z4) (a:List UInt8):Option (Z0):=
 (oB (jO N a) fun e=>bif !e then some ([]:List UInt8)else oB (jbw N f c a) fun b=>bif decide ((b.length:Int)=0)then some ([]:List UInt8)else oB (idx b 0) fun d=>some d.1)
theorem jBn :mK 191 (bX [.agg [.pv (.sl .str),.pv Y15],pS] [pS] (c3A (jyc N))):=
 mO (fC (jcM N) (fC (jgO N) ja)) func191 rfl N .no _
def jnu :Sh:=⟨.dead::pS::pS::dz 9 (.pv Y4::pI::pI::dz 16 []),[]⟩
def i_Seg_posts_m (h:(List Z2)×(List Z1)) (j:List UInt8) (k:List UInt8):Option (Z16):=
 (iter (fun i (b,e,d,c,a)=>bif decide (a<c)then oB (idx d a) fun f=>(bif decide (f.1=b)then bif decide (f.2.1=e)then some f.2.2 else(if fits (a+1)then i (b,e,d,c,(a+1))else none)else if fits (a+1)then i (b,e,d,c,(a+1))else none)else some ([]:Z3)) N (j,k,h.2,(h.2.length:Int),(0:Int)))
theorem jcq :mK 259 (bX [.ptr Y1,pS,pS] [.pv Y11] (c3A (i_Seg_posts_m N))):=
 mO ja func259 rfl N (.seq .no (.seq (.seq .no (.block (.loop jnu .no))) .no)) _
def jni :Sh:=⟨dz 3 (pI::dz 12 (.pv Y11::pI::pI::dz 10 [])),[]⟩
def i_scorer_places_m (k:((List Z0)×(List Z4))×(List Z2)×(List Z1)) (h:List UInt8) (i:List UInt8) (j:Int):Z15:=
 (oB (i_Seg_posts_m N k.2 h i) fun c=>iter (fun m (d,e,b,a)=>bif decide (a<b)then oB (idx e a) fun f=>(bif decide (f.1=d)then some f.2 else if fits (a+1)then m (d,e,b,(a+1))else none)else some ([]:List Int)) N (j,c,(c.length:Int),(0:Int)))
theorem jrB :mK 196 (bX [.ptr Y0,pS,pS,pI] [.pv Y20] (c4A (i_scorer_places_m N))):=
 mO (fC (jcq N) ja) func196 rfl N (.seq .no (.seq (.seq .no (.block (.loop jni .no))) .no)) _
def jmV :Sh:=⟨.dead::pS::dz 8 (.pv Y18::pI::pI::dz 10 []),[]⟩
def i_DocField_m (i:Int) (b:Z14) (m:Z7) (j:List UInt8):Option (Z0):=
 (oB (jbx N i b m) fun h=>bif h then iter (fun l (e,c,f,a)=>bif decide (a<f)then oB (idx c a) fun d=>(bif decide (d.1=e)then some d.2 else if fits (a+1)then l (e,c,f,(a+1))else none)else some ([]:List UInt8)) N (j,b,(b.length:Int),(0:Int))else some ([]:List UInt8))
theorem jqd :mK 294 (bX [.agg [pI,.pv Y18,.pv Y14],pS] [pS] (c4A (i_DocField_m N))):=
 mO (fC (jh0 N) ja) func294 rfl N (.seq .no (.seq (.seq .no (.cond (.seq .no (.block (.loop jmV .no))) .no)) .no)) _
def i_Seg_long_m (e:(List Z2)×(List Z1)) (d:List Z0) (h:List Z4) (b:List UInt8) (c:Int):Z13:=
 (oB (i_Seg_doc_m N e c) fun a=>bif !a.2.2.2 then some 0 else oB (i_DocField_m N a.1 a.2.1 a.2.2.1 b) fun f=>oB (jbw N d h f) fun i=>some (i.length:Int))
theorem jhs :mK 257 (bX [.ptr Y1,.agg [.pv (.sl .str),.pv Y15],pS,pI] [pI] (c5A (i_Seg_long_m N))):=
 mO (fC (jlU N) (fC (jqd N) (fC (jgO N) ja))) func257 rfl N .no _
def joq :Sh:=⟨pI::pI::dz 13 [],[]⟩
def ja2 (d:Int) (c:Int):Z13:=
 (iter (fun f (a,b)=>bif !decide (b=0)then if b≠0 then f (b,(a.tmod b))else none else if fits (0-a)then some (if(0-a)>a then 0-a else a)else none) N (d,c))
theorem jiQ :mK 311 (bX [pI,pI] [pI] (c2A (ja2 N))):=
 mO ja func311 rfl N (.seq .no (.seq (.block (.loop joq .no)) .no)) _
def jbk (b:Int) (a:Int):Z8:=
 (oB (jm N b (-1000000000) 1000000000) fun c=>bif c then oB (jm N a 1 1000000000) fun d=>(bif d then oB (ja2 N b a) fun e=>(some (decide (e=1)))else some false)else some false)
theorem jhS :mK 296 (bX [.agg [pI,pI]] [pB] (c2A (jbk N))):=
 mO (fC (jY N) (fC (jiQ N) ja)) func296 rfl N .no _
def jk5 :Sh:=⟨pI::pI:: .dead:: .dead:: .box 4 0::dz 24 [],[(4,false,[pI,pI])]⟩
def jcl (e:Int) (d:Int):Option (Int×Int×Bool):=
 (meet (fun(i:Int×Int×Int×Int)=>match i with|(b,c,j,k)=>oB (ja2 N b c) fun a=>if a≠0 then if fits (b.tdiv a)then if a≠0 then if fits (c.tdiv a)then oB (jbk N (b.tdiv a) (c.tdiv a)) fun h=>(bif !h then some (0,1,false)else some ((b.tdiv a),(c.tdiv a),true))else none else none else none else none) fun f=>bif decide (d<0)then if fits (0-e)then if fits (0-d)then f ((0-e),(0-d),0,0)else none else none else f (e,d,0,0))
theorem jlG :mK 310 (bX [pI,pI] [.tup [.agg [pI,pI],pB]] (c2A (jcl N))):=
 mO (fC (jiQ N) (fC (jhS N) ja)) func310 rfl N (.seq .no (.meet jk5 .no .no)) _
def jb7 (c:Int) (a:Int):Option (Int×Int×Bool):=
 (oB (jm N c (-1000000000) 1000000000) fun d=>bif !d then some (0,1,false)else oB (jm N a (-1000000000) 1000000000) fun e=>bif !e then some (0,1,false)else bif decide (a=0)then some (0,1,false)else oB (jcl N c a) fun b=>some (b.1,b.2.1,b.2.2))
theorem jpX :mK 295 (bX [pI,pI] [.tup [.agg [pI,pI],pB]] (c2A (jb7 N))):=
 mO (fC (jY N) (fC (jlG N) ja)) func295 rfl N .no _
def jtO :Sh:=⟨pI::pI::pI::pI::pI::dz 5 (.box 10 0:: .dead::pI::dz 53 []),[(10,false,[pI,pI])]⟩
def i_TermScore_m (f:Int) (h:Int) (l:Int) (k:Int) (m:Int):Option (Int×Int×Bool):=
 (oB (jm N f 1 80) fun t=>bif !t then some (0,1,false)else oB (jm N h f 80) fun u=>bif !u then some (0,1,false)else oB (jm N k 1 16) fun o=>bif !o then some (0,1,false)else oB (jm N m 1 k) fun n=>bif !n then some (0,1,false)else oB (jm N l h 1280) fun w=>bif !w then some (0,1,false)else iter (fun r (b,d,e,c,i,a,v,p)=>if fits (a+1)then if 0<=(a+1)then if fits (i*2^(min (a+1).toNat (IntKind.bits .i64)))then bif decide ((i*2^(min (a+1).toNat (IntKind.bits .i64)))<=c)then if fits (a+1)then r (b,d,e,c,i,(a+1),v,p)else none else(if fits (22*b)then if fits (a+1)then if fits ((22*b)*(a+1))then if fits (10*b)then if fits ((10*b)+3)then if fits (9*d)then if fits ((9*d)*c)then if e≠0 then if fits (((9*d)*c).tdiv e)then if fits (((10*b)+3)+(((9*d)*c).tdiv e))then oB (jb7 N ((22*b)*(a+1)) (((10*b)+3)+(((9*d)*c).tdiv e))) fun j=>(some (j.1,j.2.1,j.2.2))else none else none else none else none else none else none else none else none else none else none)else none else none else none) N (f,h,l,k,m,(0:Int),(0:Int),(0:Int)))
theorem jgE :mK 258 (bX [pI,pI,pI,pI,pI] [.tup [.agg [pI,pI],pB]] (c5A (i_TermScore_m N))):=
 mO (fC (jY N) (fC (jpX N) ja)) func258 rfl N (.seq .no (.seq .no (.seq .no (.seq (.block (.loop jtO .no)) .no)))) _
def i_RatFloor_m (c:Int) (a:Int) (b:Int):Z13:=
 (oB (jbk N c a) fun d=>bif !d then some 0 else oB (jm N b 1 1000) fun e=>bif !e then some 0 else if fits (c*b)then bif decide ((0:Int)<=(c*b))then if a≠0 then if fits ((c*b).tdiv a)then some ((c*b).tdiv a)else none else none else(if fits (0-(c*b))then if fits ((0-(c*b))+a)then if fits (((0-(c*b))+a)-1)then if a≠0 then if fits ((((0-(c*b))+a)-1).tdiv a)then if fits (0-((((0-(c*b))+a)-1).tdiv a))then some (0-((((0-(c*b))+a)-1).tdiv a))else none else none else none else none else none else none)else none)
theorem jiY :mK 260 (bX [.agg [pI,pI],pI] [pI] (c3A (i_RatFloor_m N))):=
 mO (fC (jhS N) (fC (jY N) ja)) func260 rfl N .no _
def jlZ :Sh:=⟨.ptr Y0::pS::pS::pI::dz 5 (.pv Y20::pI::dz 16 (.pv Y2::pI::pI::dz 49 [])),[]⟩
def i_scorer_points_m (d:((List Z0)×(List Z4))×(List Z2)×(List Z1)) (k:List UInt8) (l:List UInt8) (f:Int):Z13:=
 (oB (i_scorer_places_m N d k l f) fun n=>bif decide ((n.length:Int)=0)then some 0 else iter (fun v (a,c,i,o,h,e,m,j,b)=>bif decide (b<j)then oB (idx m b) fun x=>(oB (i_Seg_long_m N a.2 a.1.1 a.1.2 c x.1) fun p=>if fits (e+p)then if fits (b+1)then v (a,c,i,o,h,(e+p),m,j,(b+1))else none else none)else oB (i_Seg_long_m N a.2 a.1.1 a.1.2 c o) fun t=>oB (i_Seg_posts_m N a.2 c i) fun r=>oB (i_TermScore_m N (h.length:Int) t e (a.2.1.length:Int) (r.length:Int)) fun q=>oB (i_RatFloor_m N q.1 q.2.1 1000) fun w=>some w) N (d,k,l,f,n,(0:Int),d.2.1,(d.2.1.length:Int),(0:Int)))
theorem jsD :mK 190 (bX [.ptr Y0,pS,pS,pI] [pI] (c4A (i_scorer_points_m N))):=
 mO (fC (jrB N) (fC (jhs N) (fC (jcq N) (fC (jgE N) (fC (jiY N) ja))))) func190 rfl N (.seq .no (.seq .no (.seq .no (.seq .no (.seq (.seq .no (.block (.loop jlZ .no))) .no))))) _
def jyu (N:Nat) (a:List Z0) (b:List UInt8):Option (Z0):=jxR a b
 
def jBB (N:Nat):Model:=⟨⟨[.pv (.sl .str),pS],[]⟩,⟨[pS],[]⟩,c2A (jyu N)⟩
theorem jBE :mK 261 (jBB N):=jBz
def jBY :Sh:=⟨.pv (.sl Y20)::dz 4 (.pv (.sl Y20)::pI::pI::dz 10 []),[]⟩
def jyD (b:List (List Int)):Z8:=
 (iter (fun j (d,c,e,a)=>bif decide (a<e)then oB (idx c a) fun h=>(oB (jx1 N h) fun f=>bif !f then some false else if fits (a+1)then j (d,c,e,(a+1))else none)else some (decide ((d.length:Int)<=6))) N (b,b,(b.length:Int),(0:Int)))
theorem jD9 :mK 314 (bX [.pv (.sl Y20)] [pB] (c1A (jyD N))):=
 mO (fC (jAN N) ja) func314 rfl N (.seq .no (.seq (.seq .no (.block (.loop jBY .no))) .no)) _
def jyK (a:List (List Int)):Z8:=
 (bif decide ((0:Int)<a.length)then oB (jyD N a) fun b=>(some b)else some false)
theorem jD6 :mK 300 (bX [.pv (.sl Y20)] [pB] (c1A (jyK N))):=
 mO (fC (jD9 N) ja) func300 rfl N .no _
def jxW (N:Nat) (a:Int):Z8:=
 (some (!decide (a=a)))
theorem jCp :mK 319 (bX [pI] [pB] (c1A (jxW N))):=
 mO ja func319 rfl N .no _
def jB3 :Sh:=⟨.pv Y20::pI::dz 4 (pI::pI::pI::dz 45 []),[]⟩
def jyA (e:List Int) (i:Int):Option (Int×Bool):=
 (iter (fun h (c,d,f,a,b)=>bif decide (a<b)then if fits (a+b)then if 0<=(1:Int)then oB (idx c (IntKind.i64.wrap ((IntKind.u64.wrap (a+b)).fdiv (2^(min (1:Int).toNat (IntKind.bits .u64)))))) fun o=>(oB (k_cmp_Less_67_m N o d) fun k=>bif k then if fits ((IntKind.i64.wrap ((IntKind.u64.wrap (a+b)).fdiv (2^(min (1:Int).toNat (IntKind.bits .u64)))))+1)then h (c,d,f,((IntKind.i64.wrap ((IntKind.u64.wrap (a+b)).fdiv (2^(min (1:Int).toNat (IntKind.bits .u64)))))+1),b)else none else h (c,d,f,a,(IntKind.i64.wrap ((IntKind.u64.wrap (a+b)).fdiv (2^(min (1:Int).toNat (IntKind.bits .u64)))))))else none else none else bif decide (a<f)then oB (idx c a) fun j=>(bif decide (j=d)then some (a,true)else oB (idx c a) fun m=>oB (jxW N m) fun l=>bif l then oB (jxW N d) fun n=>(some (a,n))else some (a,false))else some (a,false)) N (e,i,(e.length:Int),(0:Int),(e.length:Int)))
theorem jDL :mK 315 (bX [.pv Y20,pI] [.tup [pI,pB]] (c2A (jyA N))):=
 mO (fC (jA5 N) (fC (jCp N) ja)) func315 rfl N (.seq .no (.seq .no (.seq .no (.seq (.block (.loop jB3 .no)) .no)))) _
def jys (a:List Int) (d:Int):Option (Int×Bool):=
 (oB (jyA N a d) fun b=>bif decide (b.1=(a.length:Int))then some (0,false)else oB (idx a b.1) fun c=>some (c,true))
theorem jAO :mK 301 (bX [.pv Y20,pI] [.tup [pI,pB]] (c2A (jys N))):=
 mO (fC (jDL N) ja) func301 rfl N .no _
def jBS :Sh:=⟨.pv (.sl Y20)::pI::dz 3 (.own 600005 tI 3 true::dz 20 (.pv Y20::pI::pI::dz 42 [])),[]⟩
def jDv :Sh:=⟨.pv (.sl Y20)::pI::dz 3 (.own 600005 tI 3 true:: .dead::pI::pI::pB::dz 16 (.pv Y20::pI::pI::dz 5 (.pv (.sl Y20)::pI::pI::dz 34 []))),[]⟩
def jyw (p:List (List Int)) (t:Int):Z15:=
 (oB (jyK N p) fun D=>bif !D then some ([]:List Int)else oB (jm N t 0 5) fun E=>bif !E then some ([]:List Int)else oB (idx p 0) fun A=>iter (fun o (q,G,u,w,z,m)=>bif decide (m<z)then oB (idx w m) fun x=>(oB (cut q 1 (q.length:Int)) fun y=>iter (fun v (a,d,e,b,j,B,h,i,c,k,r,f)=>bif decide (f<r)then oB (idx k f) fun C=>(if fits (j+1)then oB (jys N C (j+1)) fun l=>(bif B then if fits (f+1)then v (a,d,e,b,l.1,l.2,h,i,c,k,r,(f+1))else none else if fits (f+1)then v (a,d,e,b,l.1,false,h,i,c,k,r,(f+1))else none)else none)else bif B then if fits (b+(a.length:Int))then if fits ((b+(a.length:Int))-1)then if fits (((b+(a.length:Int))-1)+d)then bif decide (j<=(((b+(a.length:Int))-1)+d))then if room e.length ([b]:List Int).length 8 then if fits (c+1)then o (a,d,(e++([b]:List Int)),h,i,(c+1))else none else none else(if fits (c+1)then o (a,d,e,h,i,(c+1))else none)else none else none else none else if fits (c+1)then o (a,d,e,h,i,(c+1))else none) N (q,G,u,x,x,true,w,z,m,y,(y.length:Int),(0:Int)))else some u) N (p,t,([]:List Int),A,(A.length:Int),(0:Int)))
theorem jCX :mK 262 (bX [.pv (.sl Y20),pI] [.own 1 tI 3 true] (c2A (jyw N))):=
 mO (fC (jD6 N) (fC (jY N) (fC (jAO N) ja))) func262 rfl N (.seq .no (.seq .no (.seq .no (.seq (.seq .no (.block (.loop jBS (.seq .no (.seq .no (.seq (.block (.seq .no (.seq .no (.seq (.seq .no (.block (.loop jDv .no))) .no)))) .no)))))) .no)))) _
def jCk :Sh:=⟨.ptr Y0::dz 3 (.box 4 0:: .box 5 0:: .dead:: .own 600007 Y16 126 true:: .own 600008 Y20 75 true::pI::dz 18 (.pv Y14::pI::pI::dz 59 [])),[(4,false,[pI,pS,.pv (.sl .str),pI,pI,.pv (.sl .q)]),(5,false,[pI,.pv Y18,.pv Y14])]⟩
def jDK :Sh:=⟨.ptr Y0::dz 3 (.box 4 0:: .box 5 0:: .dead:: .own 600007 Y16 126 true:: .own 600008 Y20 75 true::pI::pI:: .box 11 0:: .own 600012 tI 3 true::dz 15 (.pv Y14::pI::pI::dz 12 (.pv Y20::pI::pI::dz 44 []))),[(4,false,[pI,pS,.pv (.sl .str),pI,pI,.pv (.sl .q)]),(5,false,[pI,.pv Y18,.pv Y14]),(11,false,[pS,pI])]⟩
def jyB (x:((List Z0)×(List Z4))×(List Z2)×(List Z1)) (q:Int) (q2:List UInt8) (q3:List Z0) (q4:Int) (q5:Int) (q6:List DQ) (d:Int) (d2:Z14) (d3:Z7):Z13:=
 (oB (jyu N q3 ([32]:List UInt8)) fun r=>oB (jbw N x.1.1 x.1.2 r) fun r2=>bif decide ((r2.length:Int)=0)then some 0 else iter (fun go (x2,terms,lists,all,t28,t29,t30,q7,q8,q9,q10,q11,q12,d4,d5,d6)=>bif decide (t30<t29)then oB (idx t28 t30) fun e=>(oB (i_scorer_places_m N x2 q8 e.1 d4) fun r3=>iter (fun go2 (x3,terms2,lists2,all2,i,list,t282,t292,t302,t43,t44,t45,q13,q14,q15,q16,q17,q18,d7,d8,d9,t,t2)=>bif decide (t45<t44)then oB (idx t43 t45) fun e2=>(oB (idx terms2 0) fun e3=>if fits (t2-e3.2)then if fits ((t2-e3.2)-i)then if fits (e2-((t2-e3.2)-i))then bif decide ((0:Int)<=(e2-((t2-e3.2)-i)))then if room list.length ([(e2-((t2-e3.2)-i))]:List Int).length 8 then if fits (t45+1)then go2 (x3,terms2,lists2,all2,i,(list++([(e2-((t2-e3.2)-i))]:List Int)),t282,t292,t302,t43,t44,(t45+1),q13,q14,q15,q16,q17,q18,d7,d8,d9,t,t2)else none else none else(if fits (t45+1)then go2 (x3,terms2,lists2,all2,i,list,t282,t292,t302,t43,t44,(t45+1),q13,q14,q15,q16,q17,q18,d7,d8,d9,t,t2)else none)else none else none else none)else if room lists2.length ([list]:List (List Int)).length 24 then oB (i_scorer_points_m N x3 q14 t d7) fun r4=>(if fits (all2+r4)then if fits (t302+1)then go (x3,terms2,(lists2++([list]:List (List Int))),(all2+r4),t282,t292,(t302+1),q13,q14,q15,q16,q17,q18,d7,d8,d9)else none else none)else none) N (x2,terms,lists,all,t30,([]:List Int),t28,t29,t30,r3,(r3.length:Int),(0:Int),q7,q8,q9,q10,q11,q12,d4,d5,d6,e.1,e.2))else oB (jyw N lists q10) fun r5=>if fits ((if(r5.length:Int)<3 then(r5.length:Int)else 3)*all)then some ((if(r5.length:Int)<3 then(r5.length:Int)else 3)*all)else none) N (x,r2,([]:List (List Int)),(0:Int),r2,(r2.length:Int),(0:Int),q,q2,q3,q4,q5,q6,d,d2,d3))
theorem jDC :mK 192 (bX [.ptr Y0,.agg [pI,pS,.pv (.sl .str),pI,pI,.pv (.sl .q)],.agg [pI,.pv Y18,.pv Y14]] [pI] (c10A (jyB N))):=
 mO (fC (jBE N) (fC (jgO N) (fC (jrB N) (fC (jsD N) (fC (jCX N) ja))))) func192 rfl N (.seq .no (.seq .no (.seq .no (.seq .no (.seq .no (.seq (.seq .no (.block (.loop jCk (.seq .no (.seq .no (.seq (.block (.seq .no (.seq .no (.seq (.seq .no (.block (.loop jDK .no))) .no)))) .no)))))) .no)))))) _
def jtE :Sh:=⟨.dead::pS::dz 3 (.own 600005 .str 9 true::dz 6 (.pv Y4::pI::pI::dz 14 [])),[]⟩
def i_Seg_terms_m (h:(List Z2)×(List Z1)) (j:List UInt8):Option ((List Z0)):=
 (iter (fun i (c,b,e,d,a)=>bif decide (a<d)then oB (idx e a) fun f=>(bif decide (f.1=c)then if room b.length ([f.2.1]:List Z0).length 16 then if fits (a+1)then i (c,(b++([f.2.1]:List Z0)),e,d,(a+1))else none else none else if fits (a+1)then i (c,b,e,d,(a+1))else none)else some b) N (j,([]:List Z0),h.2,(h.2.length:Int),(0:Int)))
theorem jln :mK 193 (bX [.ptr Y1,pS] [.own 1 .str 9 true] (c2A (i_Seg_terms_m N))):=
 mO ja func193 rfl N (.seq .no (.seq .no (.seq (.seq .no (.block (.loop jtE .no))) .no))) _
def jDE :Sh:=⟨pS::pS::dz 3 (.mtk 600005 tI 3 true::dz 18 (pI::pI::dz 62 [])),[]⟩
def jBC :Sh:=⟨pS::pS::dz 3 (.mtk 600005 tI 3 true:: .dead::pI::dz 80 []),[]⟩
def jCv :Sh:=⟨pS::pS::dz 3 (.mtk 600005 tI 3 true:: .dead::pI::pI::pI::dz 78 []),[]⟩
def jAI :Sh:=⟨pS::pS::dz 3 (.mtk 600005 tI 3 true:: .dead::pI:: .dead::pI::pI::dz 77 []),[]⟩
def jAQ :Sh:=⟨pS::pS::dz 3 (.mtk 22 tI 3 true::dz 82 []),[]⟩
def jDZ :Sh:=⟨pS::pS::dz 86 [],[]⟩
def i_NearFar_m (a:List UInt8) (b:List UInt8):Z13:=
 (meet (fun(g:Z0×Z0)=>match g with|(a2,b2)=>meet (fun(g:Z0×Z0×(List Int))=>match g with|(a3,b3,row)=>iter (fun go (a4,b4,row2,t24,t25)=>bif decide (t25<t24)then if 0<=t25/\t25<(row2.length:Int)then oB (row2[t25.toNat]?) fun e=>(if fits (t25+1)then go (a4,b4,(row2.set t25.toNat t25),t24,(t25+1))else none)else none else iter (fun go2 (a5,b5,row3,i)=>bif decide (i<=(a5.length:Int))then if 0<=(0:Int)/\(0:Int)<row3.length then oB (row3[(0:Int).toNat]?) fun e2=>(if 0<=(0:Int)/\(0:Int)<row3.length then oB (row3[(0:Int).toNat]?) fun e3=>(iter (fun go3 (a6,b6,row4,i2,corner,j)=>bif decide (j<=(b6.length:Int))then meet (fun(g:Z19)=>match g with|(a7,b7,row5,i3,j2,cost)=>if 0<=j2/\j2<(row5.length:Int)then oB (row5[j2.toNat]?) fun e4=>(if 0<=j2/\j2<(row5.length:Int)then oB (row5[j2.toNat]?) fun e5=>(if fits (e5+1)then if fits (j2-1)then if 0<=(j2-1)/\(j2-1)<(row5.length:Int)then oB (row5[(j2-1).toNat]?) fun e6=>(if fits (e6+1)then if 0<=j2/\j2<(row5.length:Int)then oB (row5[j2.toNat]?) fun e7=>(if fits (j2+1)then go3 (a7,b7,(row5.set j2.toNat (if(e6+1)<(if(e5+1)<cost then e5+1 else cost)then e6+1 else if(e5+1)<cost then e5+1 else cost)),i3,e4,(j2+1))else none)else none else none)else none else none else none)else none)else none) fun J3=>(if fits (i2-1)then oB (idx a6 (i2-1)) fun c=>(if fits (j-1)then oB (idx b6 (j-1)) fun c2=>(bif !decide ((c.toNat:Int)=(c2.toNat:Int))then if fits (corner+1)then J3 (a6,b6,row4,i2,j,(corner+1))else none else J3 (a6,b6,row4,i2,j,corner))else none)else none)else if fits (i2+1)then go2 (a6,b6,row4,(i2+1))else none) N (a5,b5,(row3.set (0:Int).toNat i),i,e2,(1:Int)))else none)else none else if 0<=(b5.length:Int)/\(b5.length:Int)<(row3.length:Int)then oB (row3[(b5.length:Int).toNat]?) fun e8=>(some e8)else none) N (a4,b4,row2,(1:Int))) N (a3,b3,row,(row.length:Int),(0:Int))) fun J2=>if fits ((b2.length:Int)+1)then if((b2.length:Int)+1)=((b2.length:Int)+1)/\0<=((b2.length:Int)+1)/\((b2.length:Int)+1)*8<=140737488355328/\((b2.length:Int)+1)<=140737488355328 then J2 (a2,b2,(List.replicate ((b2.length:Int)+1).toNat 0))else none else none) fun J=>oB (jO N a) fun r=>bif !r then some (-1)else oB (jO N b) fun r2=>bif !r2 then some (-1)else J (a,b))
theorem jDu :mK 194 (bX [pS,pS] [pI] (c2A (i_NearFar_m N))):=
 mO (fC (jcM N) ja) func194 rfl N (.seq .no (.meet jDZ .no (.meet jAQ .no (.seq (.seq .no (.block (.loop jDE .no))) (.seq (.seq .no (.block (.loop jBC (.seq .no (.seq (.block (.seq .no (.seq .no (.seq .no (.block (.loop jCv (.seq .no (.seq (.block (.seq .no (.meet jAI .no .no))) .no)))))))) .no))))) .no))))) _ (wr:=[22])
def jxG (N:Nat):(D:Nat)->Z0->Z0->Z8
 |0,_,_=>none
 |D+1,p,s=>
 bif decide (p=([]:List UInt8))then
 some (decide (s=([]:List UInt8)))
 else
 oB (idx p 0) fun c=>
 bif decide ((c.toNat:Int)=42)then
 oB (cut p 1 (p.length:Int)) fun y=>
 (oB (jxG N D y s) fun r=>
 bif r then
 some true
 else
 bif !decide (s=([]:List UInt8))then
 oB (cut s 1 (s.length:Int)) fun y2=>
 (oB (jxG N D p y2) fun r2=>
 some r2)
 else
 some false)
 else
 bif decide (s=([]:List UInt8))then
 some false
 else
 oB (idx p 0) fun c2=>
 bif decide ((c2.toNat:Int)=63)then
 oB (cut p 1 (p.length:Int)) fun y3=>
 (oB (cut s 1 (s.length:Int)) fun y4=>
 oB (jxG N D y3 y4) fun r3=>
 some r3)
 else
 oB (idx p 0) fun c3=>
 oB (idx s 0) fun c4=>
 bif decide ((c3.toNat:Int)=(c4.toNat:Int))then
 oB (cut p 1 (p.length:Int)) fun y5=>
 (oB (cut s 1 (s.length:Int)) fun y6=>
 oB (jxG N D y5 y6) fun r4=>
 some r4)
 else
 some false
def jyg (N D:Nat):Model:=⟨⟨[pS,pS],[]⟩,⟨[pB],[]⟩,c2A (jxG N D)⟩
theorem jBG (N D:Nat) (ih:mK 263 (jyg N D)):mK 263 (jyg N (D+1)):=
 mO (fC ih ja) func263 rfl N .no (jyg N (D+1))
theorem jAz (N:Nat):∀D,mK 263 (jyg N D)
 |0=>modelOk_none ⟨_,func263,by decide,by kernel_rfl⟩ _ (fun a=>rfl)
 |D+1=>jBG N D (jAz N D)
def jx0 (a:List UInt8) (b:List UInt8):Z8:=
 (oB (jxV N a) fun d=>bif d then oB (jO N b) fun e=>(bif e then oB (jxG N N a b) fun c=>(some c)else some false)else some false)
theorem jDd :mK 195 (bX [pS,pS] [pB] (c2A (jx0 N))):=
 mO (fC (jz9 N) (fC (jcM N) (fC (jAz N N) ja))) func195 rfl N .no _
def jD5 :Sh:=⟨.dead::pS::dz 8 (.pv Y14::pI::pI::dz 10 []),[]⟩
def jyp (i:Int) (j:Z14) (b:Z7) (k:List UInt8):Z13:=
 (oB (jbx N i j b) fun h=>bif h then iter (fun m (e,c,f,a)=>bif decide (a<f)then oB (idx c a) fun d=>(bif decide (d.1=e)then some d.2 else if fits (a+1)then m (e,c,f,(a+1))else none)else some (-1)) N (k,b,(b.length:Int),(0:Int))else some (-1))
theorem jBQ :mK 48 (bX [.agg [pI,.pv Y18,.pv Y14],pS] [pI] (c4A (jyp N))):=
 mO (fC (jh0 N) ja) func48 rfl N (.seq .no (.seq (.seq .no (.cond (.seq .no (.block (.loop jD5 .no))) .no)) .no)) _
def jDa :Sh:=⟨.ptr Y0::dz 3 (.box 4 0:: .box 5 0:: .dead::pI::dz 43 (.own 600051 .str 9 true::pI::pI::dz 122 [])),[(4,false,[pI,pS,.pv (.sl .str),pI,pI,.pv (.sl .q)]),(5,false,[pI,.pv Y18,.pv Y14])]⟩
def jCO :Sh:=⟨.ptr Y0::dz 3 (.box 4 0:: .box 5 0::dz 83 (.own 600089 .str 9 true::pI::pI::dz 84 [])),[(4,false,[pI,pS,.pv (.sl .str),pI,pI,.pv (.sl .q)]),(5,false,[pI,.pv Y18,.pv Y14])]⟩
def jDp :Sh:=⟨.ptr Y0::dz 3 (.box 4 0:: .box 5 0::dz 7 (pI::dz 140 (.pv (.sl .q)::pI::pI::dz 19 []))),[(4,false,[pI,pS,.pv (.sl .str),pI,pI,.pv (.sl .q)]),(5,false,[pI,.pv Y18,.pv Y14])]⟩
def i_scorer_score_m (N:Nat):(D:Nat)->Z10->Int->Z0->(List Z0)->Int->Int->(List DQ)->Int->Z11->Z6->Z13
 |0,_,_,_,_,_,_,_,_,_,_=>none
 |D+1,x,q,q2,q3,q4,q5,q6,d,d2,d3=>
 bif decide (q=1)then
 some 100
 else
 bif decide (q=2)then
 oB (idx q3 0) fun e=>
 (oB (jyc N x.1.1 x.1.2 e) fun r=>
 oB (i_scorer_points_m N x q2 r d) fun r2=>
 some r2)
 else
 bif decide (q=3)then
 oB (jyB N x q q2 q3 q4 q5 q6 d d2 d3) fun r3=>
 (some r3)
 else
 bif decide (q=4)then
 oB (i_Seg_terms_m N x.2 q2) fun r4=>
 (iter (fun go (g:Z10×Int×(List Z0)×Int×Int×Int×Z0×(List Z0)×Int×Int×(List DQ)×Int×Z11×Z6)=>
 match g with
 |(x2,best,t51,t52,t53,q7,q8,q9,q10,q11,q12,d4,d5,d6)=>
 bif decide (t53<t52)then
 oB (idx t51 t53) fun e2=>
 (oB (idx q9 0) fun e3=>
 oB (i_NearFar_m N e2 e3) fun r5=>
 oB (jm N r5 0 q10) fun r6=>
 bif r6 then
 oB (i_scorer_points_m N x2 q8 e2 d4) fun r7=>
 (if fits (3-r5)then if fits (r7*(3-r5))then if 3≠0 then
 if fits ((r7*(3-r5)).tdiv 3)then if fits (t53+1)then go (x2,(if((r7*(3-r5)).tdiv 3)>best then(r7*(3-r5)).tdiv 3 else best),t51,t52,(t53+1),q7,q8,q9,q10,q11,q12,d4,d5,d6)else none else none
 else none else none else none)
 else
 if fits (t53+1)then go (x2,best,t51,t52,(t53+1),q7,q8,q9,q10,q11,q12,d4,d5,d6)else none)
 else
 some best) N (x,0,r4,(r4.length:Int),0,q,q2,q3,q4,q5,q6,d,d2,d3))
 else
 bif decide (q=5)then
 oB (i_Seg_terms_m N x.2 q2) fun r8=>
 (iter (fun go2 (g:Z10×(List Z0)×Int×Int×Int×Z0×(List Z0)×Int×Int×(List DQ)×Int×Z11×Z6)=>
 match g with
 |(x3,t89,t90,t91,q13,q14,q15,q16,q17,q18,d7,d8,d9)=>
 bif decide (t91<t90)then
 oB (idx t89 t91) fun e4=>
 (oB (idx q15 0) fun e5=>
 oB (jx0 N e5 e4) fun r9=>
 bif r9 then
 oB (i_scorer_places_m N x3 q14 e4 d7) fun r10=>
 (bif decide ((0:Int)<r10.length)then
 some 100
 else
 if fits (t91+1)then go2 (x3,t89,t90,(t91+1),q13,q14,q15,q16,q17,q18,d7,d8,d9)else none)
 else
 if fits (t91+1)then go2 (x3,t89,t90,(t91+1),q13,q14,q15,q16,q17,q18,d7,d8,d9)else none)
 else
 some 0) N (x,r8,(r8.length:Int),0,q,q2,q3,q4,q5,q6,d,d2,d3))
 else
 bif decide (q=6)then
 oB (jyp N d d2 d3 q2) fun r11=>
 (oB (jm N r11 q4 q5) fun r12=>
 bif r12 then
 some 100
 else
 some 0)
 else
 bif decide (q=10)then
 oB (idx q6 0) fun e6=>
 (oB (i_scorer_score_m N D x e6.kind e6.field e6.words e6.lo e6.hi e6.kids d d2 d3) fun r13=>
 if fits (q4*r13)then some (q4*r13)else none)
 else
 bif decide (q=9)then
 oB (idx q6 1) fun e7=>
 (oB (i_scorer_score_m N D x e7.kind e7.field e7.words e7.lo e7.hi e7.kids d d2 d3) fun r14=>
 bif decide ((0:Int)<r14)then
 some 0
 else
 oB (idx q6 0) fun e8=>
 oB (i_scorer_score_m N D x e8.kind e8.field e8.words e8.lo e8.hi e8.kids d d2 d3) fun r15=>
 some r15)
 else
 iter (fun go3 (g:Z10×Int×(List DQ)×Int×Int×Int×Z0×(List Z0)×Int×Int×(List DQ)×Int×Z11×Z6)=>
 match g with
 |(x4,all,t154,t155,t156,q19,q20,q21,q22,q23,q24,d10,d11,d12)=>
 bif decide (t156<t155)then
 oB (idx t154 t156) fun e9=>
 (oB (i_scorer_score_m N D x4 e9.kind e9.field e9.words e9.lo e9.hi e9.kids d10 d11 d12) fun r16=>
 bif decide (r16=0)then
 bif decide (q19=7)then
 some 0
 else
 (if fits (all+r16)then if fits (t156+1)then go3 (x4,(all+r16),t154,t155,(t156+1),q19,q20,q21,q22,q23,q24,d10,d11,d12)else none else none)
 else
 if fits (all+r16)then if fits (t156+1)then go3 (x4,(all+r16),t154,t155,(t156+1),q19,q20,q21,q22,q23,q24,d10,d11,d12)else none else none)
 else
 some all) N (x,0,q6,(q6.length:Int),0,q,q2,q3,q4,q5,q6,d,d2,d3)
def jx6 (N D:Nat):Model:=⟨⟨[.ptr Y0,.agg [pI,pS,.pv (.sl .str),pI,pI,.pv (.sl .q)],.agg [pI,.pv Y18,.pv Y14]],[]⟩,⟨[pI],[]⟩,c10A (i_scorer_score_m N D)⟩
theorem jBq (N D:Nat) (ih:mK 140 (jx6 N D)):mK 140 (jx6 N (D+1)):=
 mO (fC ih (fC (jBn N) (fC (jsD N) (fC (jDC N) (fC (jln N) (fC (jDu N) (fC (jY N) (fC (jDd N) (fC (jrB N) (fC (jBQ N) ja)))))))))) func140 rfl N (.seq .no (.seq (.seq .no (.block (.seq .no (.cond .no (.seq .no (.cond .no (.seq .no (.cond .no (.seq .no (.cond (.seq .no (.seq (.seq .no (.block (.loop jDa .no))) .no)) (.seq .no (.cond (.seq (.seq .no (.block (.loop jCO .no))) .no) .no)))))))))))) (.seq .no (.seq (.seq .no (.block (.loop jDp .no))) .no)))) (jx6 N (D+1))
theorem jzy (N:Nat):∀D,mK 140 (jx6 N D)
 |0=>modelOk_none ⟨_,func140,by decide,by kernel_rfl⟩ _ (fun a=>rfl)
 |D+1=>jBq N D (jzy N D)
def jBM :Sh:=⟨dz 5 (.box 5 0:: .dead:: .own 600007 Y13 90 true:: .box 26 0::dz 19 (.pv Y2::pI::pI::dz 18 [])),[(5,false,[pI,pS,.pv (.sl .str),pI,pI,.pv (.sl .q)]),(26,true,[.pv (.sl .str),.pv Y15,.pv Y2,.pv Y4])]⟩
def i_scores_m (t:List Z0) (u:List Z4) (d:List Z2) (z:List Z1) (y:Int) (B:List UInt8) (C:List Z0) (A:Int) (w:Int) (v:List DQ):Option ((List (Int×Int))):=
 (oB (i_SegOk_m N t u d z) fun E=>bif !E then some ([]:List (Int×Int))else oB (i_QueryOk_m N y B C A w v) fun G=>bif !G then some ([]:List (Int×Int))else iter (fun x (c,j,m,a,o,l,r,k,f,e,p,i,q,n)=>bif decide (a<m)then oB (idx j a) fun b=>(oB (i_scorer_score_m N N ((p,i),q,n) o l r k f e b.1 b.2.1 b.2.2) fun h=>bif decide ((0:Int)<h)then if room c.length ([(b.1,h)]:List (Int×Int)).length 16 then if fits (a+1)then x ((c++([(b.1,h)]:List (Int×Int))),j,m,(a+1),o,l,r,k,f,e,p,i,q,n)else none else none else if fits (a+1)then x (c,j,m,(a+1),o,l,r,k,f,e,p,i,q,n)else none)else some c) N (([]:List (Int×Int)),d,(d.length:Int),(0:Int),y,B,C,A,w,v,t,u,d,z))
theorem jBc :mK 96 (bX [.agg [.pv (.sl .str),.pv Y15],.agg [.pv Y2,.pv Y4],.agg [pI,pS,.pv (.sl .str),pI,pI,.pv (.sl .q)]] [.own 1 Y13 90 true] (c10A (i_scores_m N))):=
 mO (fC (joa N) (fC (jCN N) (fC (jzy N N) ja))) func96 rfl N (.seq .no (.seq .no (.seq .no (.seq .no (.seq (.seq .no (.block (.loop jBM .no))) .no))))) _
def s_l30Known_m (N:Nat):Option ((List Z0)):=
 (some ([([99,97,116]:List UInt8),([99,97,116,115]:List UInt8),([100,111,103]:List UInt8),([100,111,103,115]:List UInt8),([114,117,110]:List UInt8),([114,117,110,110,105,110,103]:List UInt8),([116,104,101]:List UInt8),([114,101,100]:List UInt8),([98,105,103]:List UInt8),([110,101,119]:List UInt8),([121,111,114,107]:List UInt8),([110,121]:List UInt8),([102,111,120]:List UInt8)]:List Z0))
theorem jGd :mK 186 ⟨⟨[],[]⟩,⟨[.own 1 .str 9 true],[]⟩,fun a=>s_l30Known_m N⟩:=
 mO ja func186 rfl N .no _
def s_l30Leaf_m (n:List Int) (p:Int):Option (Int×Z0×(List Z0)×Int×Int×(List Int)×Int):=
 (oB (s_l30Rd_of_m N ([([98,111,100,121]:List UInt8),([98,111,100,121]:List UInt8),([116,105,116,108,101]:List UInt8)]:List Z0) n p) fun b=>oB (jtW N 9 b.2.1 b.2.2) fun a=>bif decide (a.1=0)then some (1,([]:List UInt8),([]:List Z0),0,0,a.2.1,a.2.2)else bif decide (a.1=1)then oB (s_l30Known_m N) fun o=>(oB (s_l30Rd_of_m N o a.2.1 a.2.2) fun i=>oB (s_l30Known_m N) fun q=>oB (s_l30Rd_of_m N q i.2.1 i.2.2) fun f=>oB (jtW N 3 f.2.1 f.2.2) fun h=>some (3,b.1,([i.1,f.1]:List Z0),h.1,0,h.2.1,h.2.2))else bif decide (a.1=2)then oB (s_l30Rd_of_m N ([([99,111,116]:List UInt8),([100,117,103]:List UInt8),([114,110]:List UInt8),([102,111,103]:List UInt8)]:List Z0) a.2.1 a.2.2) fun l=>(oB (jtW N 2 l.2.1 l.2.2) fun d=>if fits (1+d.1)then some (4,b.1,([l.1]:List Z0),(1+d.1),0,d.2.1,d.2.2)else none)else bif decide (a.1=3)then oB (s_l30Rd_of_m N ([([99,42]:List UInt8),([63,111,63]:List UInt8),([42,110]:List UInt8),([42]:List UInt8)]:List Z0) a.2.1 a.2.2) fun j=>(some (5,b.1,([j.1]:List Z0),0,0,j.2.1,j.2.2))else bif decide (a.1=4)then oB (jtW N 4 a.2.1 a.2.2) fun c=>(oB (jtW N 3 c.2.1 c.2.2) fun e=>if fits (c.1+e.1)then some (6,([114,97,116,101]:List UInt8),([]:List Z0),c.1,(c.1+e.1),e.2.1,e.2.2)else none)else oB (s_l30Known_m N) fun m=>oB (s_l30Rd_of_m N m a.2.1 a.2.2) fun k=>some (2,b.1,([k.1]:List Z0),0,0,k.2.1,k.2.2))
theorem jGD :mK 132 ⟨⟨[.box 900000 0],[(900000,false,[.pv (.sl (.int .u8)),pI])]⟩,⟨[.agg [pI,pS,.own 1 .str 9 true,pI,pI,.nils]],[(900000,false,[.pv (.sl (.int .u8)),pI])]⟩,c2A (s_l30Leaf_m N)⟩:=
 mO (fC (jt3 N) (fC (jtX N) (fC (jGd N) ja))) func132 rfl N .no _ (rs:=[900000])
def jFT :Sh:=⟨.box 900000 0::pI:: .dead:: .dead:: .box 4 0::dz 36 (pB::dz 30 []),[(4,false,[pI,pS,.nils,pI,pI,.nils]),(900000,false,[.pv (.sl (.int .u8)),pI])]⟩
def jFQ :Sh:=⟨.box 900000 0::pI:: .dead:: .dead:: .box 4 0:: .box 5 0::pI::dz 65 [],[(4,false,[pI,pS,.nils,pI,pI,.nils]),(5,false,[pI,pS,.nils,pI,pI,.own 700505 .q 38 true]),(900000,false,[.pv (.sl (.int .u8)),pI])]⟩
def s_l30Query_m (N:Nat):(D:Nat)->Int->(List Int)->Int->Option (Int×Z0×(List Z0)×Int×Int×(List DQ)×(List Int)×Int)
 |0,_,_,_=>none
 |D+1,deep,b,b2=>
 bif decide (deep<=1)then
 oB (s_l30Leaf_m N b b2) fun r=>
 (some (r.1,r.2.1,r.2.2.1,r.2.2.2.1,r.2.2.2.2.1,([]:List DQ),r.2.2.2.2.2.1,r.2.2.2.2.2.2))
 else
 oB (jtW N 3 b b2) fun r2=>
 bif decide (r2.1=0)then
 oB (s_l30Leaf_m N r2.2.1 r2.2.2) fun r3=>
 (some (r3.1,r3.2.1,r3.2.2.1,r3.2.2.2.1,r3.2.2.2.2.1,([]:List DQ),r3.2.2.2.2.2.1,r3.2.2.2.2.2.2))
 else
 oB (jtW N 6 r2.2.1 r2.2.2) fun r4=>
 bif decide (r4.1=0)then
 if fits (deep-1)then oB (s_l30Query_m N D (deep-1) r4.2.1 r4.2.2) fun r5=>
 (if fits (deep-1)then oB (s_l30Query_m N D (deep-1) r5.2.2.2.2.2.2.1 r5.2.2.2.2.2.2.2) fun r6=>
 (some (9,([]:List UInt8),([]:List Z0),0,0,([(DQ.mk r5.1 r5.2.1 r5.2.2.1 r5.2.2.2.1 r5.2.2.2.2.1 r5.2.2.2.2.2.1),(DQ.mk r6.1 r6.2.1 r6.2.2.1 r6.2.2.2.1 r6.2.2.2.2.1 r6.2.2.2.2.2.1)]:List DQ),r6.2.2.2.2.2.2.1,r6.2.2.2.2.2.2.2))else none)else none
 else
 bif decide (r4.1=1)then
 oB (jtW N 4 r4.2.1 r4.2.2) fun r7=>
 (if fits (2+r7.1)then if fits (deep-1)then oB (s_l30Query_m N D (deep-1) r7.2.1 r7.2.2) fun r8=>
 (some (10,([]:List UInt8),([]:List Z0),(2+r7.1),0,([(DQ.mk r8.1 r8.2.1 r8.2.2.1 r8.2.2.2.1 r8.2.2.2.2.1 r8.2.2.2.2.2.1)]:List DQ),r8.2.2.2.2.2.2.1,r8.2.2.2.2.2.2.2))else none else none)
 else
 meet (fun(g:Int×Bool×Int×Z0×Int×Int×(List Int)×Int)=>
 match g with
 |(deep2,t41,b3,b4,b5,b6,b7,b8)=>
 bif t41 then
 if fits (deep2-1)then oB (s_l30Query_m N D (deep2-1) b7 b8) fun r9=>
 (if fits (deep2-1)then oB (s_l30Query_m N D (deep2-1) r9.2.2.2.2.2.2.1 r9.2.2.2.2.2.2.2) fun r10=>
 (some (7,([]:List UInt8),([]:List Z0),0,0,([(DQ.mk r9.1 r9.2.1 r9.2.2.1 r9.2.2.2.1 r9.2.2.2.2.1 r9.2.2.2.2.2.1),(DQ.mk r10.1 r10.2.1 r10.2.2.1 r10.2.2.2.1 r10.2.2.2.2.1 r10.2.2.2.2.2.1)]:List DQ),r10.2.2.2.2.2.2.1,r10.2.2.2.2.2.2.2))else none)else none
 else
 oB (jtW N 2 b7 b8) fun r11=>
 if fits (2+r11.1)then iter (fun go (g:Int×Int×Int×Z0×Int×Int×Int×Z0×Int×Int×(List DQ)×(List Int)×Int)=>
 match g with
 |(deep3,n,b9,b10,b11,b12,q,q2,q3,q4,q5,b13,b14)=>
 bif decide ((0:Int)<n)then
 if fits (deep3-1)then oB (s_l30Query_m N D (deep3-1) b13 b14) fun r12=>
 (if room q5.length ([(DQ.mk r12.1 r12.2.1 r12.2.2.1 r12.2.2.2.1 r12.2.2.2.2.1 r12.2.2.2.2.2.1)]:List DQ).length 88 then
 if fits (n-1)then go (deep3,(n-1),b9,b10,b11,b12,q,q2,q3,q4,(q5++([(DQ.mk r12.1 r12.2.1 r12.2.2.1 r12.2.2.2.1 r12.2.2.2.2.1 r12.2.2.2.2.2.1)]:List DQ)),r12.2.2.2.2.2.2.1,r12.2.2.2.2.2.2.2)else none
 else none)else none
 else
 some (q,q2,([]:List Z0),q3,q4,q5,b13,b14)) N (deep2,(2+r11.1),b3,b4,b5,b6,8,([]:List UInt8),0,0,([]:List DQ),r11.2.1,r11.2.2)else none) fun J=>
 bif decide (r4.1=2)then
 J (deep,true,0,([]:List UInt8),0,0,r4.2.1,r4.2.2)
 else
 J (deep,(decide (r4.1=3)),0,([]:List UInt8),0,0,r4.2.1,r4.2.2)
def jE6 (N D:Nat):Model:=⟨⟨[.box 900000 0,pI],[(900000,false,[.pv (.sl (.int .u8)),pI])]⟩,⟨[.agg [pI,pS,.own 1 .str 9 true,pI,pI,.own 2 .q 38 true]],[(900000,false,[.pv (.sl (.int .u8)),pI])]⟩,c3A (s_l30Query_m N D)⟩
theorem jGF (N D:Nat) (ih:mK 68 (jE6 N D)):mK 68 (jE6 N (D+1)):=
 mO (fC ih (fC (jGD N) (fC (jtX N) ja))) func68 rfl N (.seq .no (.seq .no (.seq (.seq .no (.block (.seq .no (.cond .no (.seq .no (.cond .no (.meet jFT .no .no))))))) (.seq .no (.seq (.seq .no (.block (.loop jFQ .no))) .no))))) (jE6 N (D+1)) (rs:=[900000])
theorem jE7 (N:Nat):∀D,mK 68 (jE6 N D)
 |0=>modelOk_none ⟨_,func68,by decide,by kernel_rfl⟩ _ (fun a=>rfl)
 |D+1=>jGF N D (jE7 N D)
def jxz (N:Nat) (k:Int) (j:List UInt8) (h:List Z0) (d:Int) (e:Int) (b:List DQ) (i:Bool) (f:Bool) (c:Bool) (a:Bool):Z8:=
 (bif i then bif f then bif c then bif a then some true else(some (decide ((b.length:Int)=0)))else(bif decide (d=0)then bif decide (e=0)then bif a then some true else(some (decide ((b.length:Int)=0)))else(some false)else some false)else(bif decide ((h.length:Int)=0)then bif c then bif a then some true else(some (decide ((b.length:Int)=0)))else(bif decide (d=0)then bif decide (e=0)then bif a then some true else(some (decide ((b.length:Int)=0)))else(some false)else some false)else some false)else bif decide (j=([]:List UInt8))then bif f then bif c then bif a then some true else(some (decide ((b.length:Int)=0)))else(bif decide (d=0)then bif decide (e=0)then bif a then some true else(some (decide ((b.length:Int)=0)))else(some false)else some false)else(bif decide ((h.length:Int)=0)then bif c then bif a then some true else(some (decide ((b.length:Int)=0)))else(bif decide (d=0)then bif decide (e=0)then bif a then some true else(some (decide ((b.length:Int)=0)))else(some false)else some false)else some false)else some false)
theorem jDV :mK 253 (bX [.agg [pI,pS,.pv (.sl .str),pI,pI,.pv (.sl .q)],pB,pB,pB,pB] [pB] (c10A (jxz N))):=
 mO ja func253 rfl N .no _
def jDt :Sh:=⟨.pv (.sl .str)::pI::dz 3 (pI::dz 16 []),[]⟩
def jxL (h:List Z0) (e:Int):Z8:=
 (iter (fun k (b,c,a)=>bif decide (a<(b.length:Int))then oB (idx b a) fun i=>(oB (jT N i) fun d=>bif !d then some false else if fits (a+1)then k (b,c,(a+1))else none)else oB (jJ N (b.length:Int) 1 c) fun f=>some f) N (h,e,(0:Int)))
theorem jDs :mK 254 (bX [.pv (.sl .str),pI] [pB] (c2A (jxL N))):=
 mO (fC (jgp N) (fC (jcL N) ja)) func254 rfl N (.seq .no (.seq (.seq .no (.block (.loop jDt .no))) .no)) _
def jBL :Sh:=⟨pS:: .dead:: .dead::pI::dz 28 [],[]⟩
def jyk (j:List UInt8):Z8:=
 (iter (fun c (b,a)=>bif decide (a<(b.length:Int))then oB (idx b a) fun f=>(bif !decide ((f.toNat:Int)=42)then oB (idx b a) fun i=>(bif !decide ((i.toNat:Int)=63)then if fits (a+1)then oB (cut b a (a+1)) fun d=>(oB (jT N d) fun e=>bif !e then some false else if fits (a+1)then c (b,(a+1))else none)else none else if fits (a+1)then c (b,(a+1))else none)else if fits (a+1)then c (b,(a+1))else none)else oB (jJ N (b.length:Int) 1 12) fun h=>some h) N (j,(0:Int)))
theorem jC1 :mK 255 (bX [pS] [pB] (c1A (jyk N))):=
 mO (fC (jgp N) (fC (jcL N) ja)) func255 rfl N (.seq .no (.seq (.seq .no (.block (.loop jBL .no))) .no)) _
def jDP :Sh:=⟨.dead:: .box 1 0:: .dead::pI::dz 4 (pI::dz 123 (pB::dz 34 [])),[(1,false,[pI,pS,.pv (.sl .str),pI,pI,.pv (.sl .q)])]⟩
def jyq (a:Int) (c:List UInt8) (b:List Z0) (d:Int) (e:Int) (f:List DQ):Z8:=
 (bif decide (a=1)then oB (jxz N a c b d e f false false false false) fun x=>(some x)else bif decide (a=2)then oB (jxz N a c b d e f true true false false) fun T=>(bif T then oB (jT N c) fun K=>(bif K then oB (jxL N b 1) fun E=>(some E)else some false)else some false)else bif decide (a=3)then oB (jxz N a c b d e f true true true false) fun D=>(bif D then oB (jT N c) fun u=>(bif u then oB (jxL N b 4) fun v=>(bif v then bif decide ((1:Int)<b.length)then bif decide (e=0)then oB (jJ N d 0 5) fun B=>(some B)else(some false)else(some false)else some false)else some false)else some false)else bif decide (a=4)then oB (jxz N a c b d e f true true true false) fun z=>(bif z then oB (jT N c) fun q=>(bif q then oB (jxL N b 1) fun U=>(bif U then bif decide (e=0)then oB (jJ N d 1 2) fun Q=>(some Q)else(some false)else some false)else some false)else some false)else bif decide (a=5)then oB (jxz N a c b d e f true true false false) fun S=>(bif S then oB (jT N c) fun X=>(bif X then bif decide ((b.length:Int)=1)then oB (idx b 0) fun W=>(oB (jyk N W) fun V=>bif V then oB (idx b 0) fun t=>(oB (jT N t) fun G=>some (!G))else some false)else(some false)else some false)else some false)else bif decide (a=6)then oB (jxz N a c b d e f true false true false) fun L=>(bif L then oB (jT N c) fun w=>(bif w then oB (jJ N d 0 999999999) fun H=>(bif H then oB (jJ N e d 999999999) fun R=>(some R)else some false)else some false)else some false)else meet (fun(P:Int×Int×Bool×Int×Z0×(List Z0)×Int×Int×(List DQ))=>match P with|(l,p,I,k,j,n,h,i,m)=>bif I then oB (jxz N k j n h i m false false false true) fun r=>(bif r then oB (jJ N l 2 4) fun C=>(some C)else some false)else bif decide (p=9)then oB (jxz N k j n h i m false false false true) fun y=>(bif y then some (decide (l=2))else some false)else bif decide (p=10)then oB (jxz N k j n h i m false false true true) fun O=>(bif O then bif decide (l=1)then bif decide (i=0)then oB (jJ N h 2 9) fun A=>(some A)else(some false)else(some false)else some false)else some false) fun o=>bif decide (a=7)then o ((f.length:Int),a,true,a,c,b,d,e,f)else o ((f.length:Int),a,(decide (a=8)),a,c,b,d,e,f))
theorem jBO :mK 187 (bX [.agg [pI,pS,.pv (.sl .str),pI,pI,.pv (.sl .q)]] [pB] (c6A (jyq N))):=
 mO (fC (jDV N) (fC (jgp N) (fC (jDs N) (fC (jcL N) (fC (jC1 N) ja))))) func187 rfl N (.seq .no (.seq .no (.seq (.seq .no (.block (.seq .no (.cond .no (.seq .no (.cond .no (.seq .no (.cond .no (.seq .no (.cond .no (.seq .no (.cond .no (.seq .no (.cond .no (.meet jDP .no .no))))))))))))))) .no))) _
def jD7 :Sh:=⟨.dead::pI:: .box 2 0:: .dead:: .dead::pI::dz 23 [],[(2,false,[pI,pS,.pv (.sl .str),pI,pI,.pv (.sl .q)])]⟩
def jxO (N:Nat):(D:Nat)->Int->Z0->(List Z0)->Int->Int->(List DQ)->Int->Z8
 |0,_,_,_,_,_,_,_=>none
 |D+1,q,q2,q3,q4,q5,q6,deep=>
 bif decide (deep=0)then
 some false
 else
 oB (jyq N q q2 q3 q4 q5 q6) fun r=>
 bif !r then
 some false
 else
 iter (fun go (g:Int×Int×Int×Z0×(List Z0)×Int×Int×(List DQ))=>
 match g with
 |(deep2,i,q7,q8,q9,q10,q11,q12)=>
 bif decide (i<(q12.length:Int))then
 oB (idx q12 i) fun e=>
 (if fits (deep2-1)then oB (jxO N D e.kind e.field e.words e.lo e.hi e.kids (deep2-1)) fun r2=>
 (bif !r2 then
 some false
 else
 if fits (i+1)then go (deep2,(i+1),q7,q8,q9,q10,q11,q12)else none)else none)
 else
 some true) N (deep,0,q,q2,q3,q4,q5,q6)
def jx9 (N D:Nat):Model:=⟨⟨[.agg [pI,pS,.pv (.sl .str),pI,pI,.pv (.sl .q)],pI],[]⟩,⟨[pB],[]⟩,c7A (jxO N D)⟩
theorem jBT (N D:Nat) (ih:mK 133 (jx9 N D)):mK 133 (jx9 N (D+1)):=
 mO (fC ih (fC (jBO N) ja)) func133 rfl N (.seq .no (.seq .no (.seq (.seq .no (.block (.loop jD7 .no))) .no))) (jx9 N (D+1))
theorem jzV (N:Nat):∀D,mK 133 (jx9 N D)
 |0=>modelOk_none ⟨_,func133,by decide,by kernel_rfl⟩ _ (fun a=>rfl)
 |D+1=>jBT N D (jzV N D)
def s_l11Ok_m (a:Int) (f:List UInt8) (h:List Z0) (d:Int) (e:Int) (c:List DQ):Z8:=
 (oB (jxO N N a f h d e c 4) fun b=>some b)
theorem jBX :mK 70 (bX [.agg [pI,pS,.pv (.sl .str),pI,pI,.pv (.sl .q)]] [pB] (c6A (s_l11Ok_m N))):=
 mO (fC (jzV N N) ja) func70 rfl N .no _
def jyC (a:List Z0) (c:List Z4) (b:List UInt8):Option (Z0):=
 (oB (jcw N a c) fun e=>bif !e then some ([]:List UInt8)else oB (jT N b) fun f=>bif !f then some ([]:List UInt8)else oB (ja5 N a c b) fun d=>bif decide ((d.length:Int)=0)then some ([]:List UInt8)else oB (idx d 0) fun h=>some h.1)
theorem jCy :mK 147 (bX [.agg [.pv (.sl .str),.pv Y15],pS] [pS] (c3A (jyC N))):=
 mO (fC (jtf N) (fC (jgp N) (fC (jiO N) ja))) func147 rfl N .no _
def jtm :Sh:=⟨.dead::pS::pS:: .box 3 0::dz 3 (pI::dz 31 []),[(3,false,[.pv Y2,.pv Y4])]⟩
def s_l7Posts_m (k:List Z2) (l:List Z1) (i:List UInt8) (j:List UInt8):Option (Z16):=
 (iter (fun f (c,d,a,e,b)=>bif decide (a<(b.length:Int))then oB (idx b a) fun h=>(bif decide (h.1=c)then oB (idx b a) fun n=>(bif decide (n.2.1=d)then oB (idx b a) fun m=>(some m.2.2)else if fits (a+1)then f (c,d,(a+1),e,b)else none)else if fits (a+1)then f (c,d,(a+1),e,b)else none)else some ([]:Z3)) N (i,j,(0:Int),k,l))
theorem jh6 :mK 203 (bX [.agg [.pv Y2,.pv Y4],pS,pS] [.pv Y11] (c4A (s_l7Posts_m N))):=
 mO ja func203 rfl N (.seq .no (.seq (.seq .no (.block (.loop jtm .no))) .no)) _
def jst :Sh:=⟨dz 3 (pI::dz 5 (.pv Y11::pI::dz 22 [])),[]⟩
def s_l12At_m (j:List Z2) (k:List Z1) (e:List UInt8) (f:List UInt8) (i:Int):Z15:=
 (oB (s_l7Posts_m N j k e f) fun h=>iter (fun n (c,b,a)=>bif decide (a<(b.length:Int))then oB (idx b a) fun d=>(bif decide (d.1=c)then oB (idx b a) fun l=>(some l.2)else if fits (a+1)then n (c,b,(a+1))else none)else some ([]:List Int)) N (i,h,(0:Int)))
theorem jn1 :mK 199 (bX [.agg [.pv Y2,.pv Y4],pS,pS,pI] [.pv Y20] (c5A (s_l12At_m N))):=
 mO (fC (jh6 N) ja) func199 rfl N (.seq .no (.seq .no (.seq (.seq .no (.block (.loop jst .no))) .no))) _
def jqS :Sh:=⟨.dead::pS::pI:: .box 3 0::dz 3 (pI::pI::dz 55 []),[(3,false,[.pv Y2,.pv Y4])]⟩
def jm7 :Sh:=⟨.dead::pS::pI:: .box 3 0::dz 3 (pI::pI::pI::dz 54 []),[(3,false,[.pv Y2,.pv Y4])]⟩
def s_l7Long_m (y:List Z2) (z:List Z1) (v:List UInt8) (q:Int):Z13:=
 (iter (fun l (w,x,o,k,t,n)=>bif decide (k<(n.length:Int))then iter (fun j (e,d,f,a,c,h,b)=>oB (idx b a) fun A=>bif decide (c<(A.2.2.length:Int))then oB (idx b a) fun u=>(bif decide (u.1=e)then oB (idx b a) fun r=>(oB (idx r.2.2 c) fun B=>bif decide (B.1=d)then oB (idx b a) fun p=>(oB (idx p.2.2 c) fun m=>if fits (f+(m.2.length:Int))then if fits (c+1)then j (e,d,(f+(m.2.length:Int)),a,(c+1),h,b)else none else none)else if fits (c+1)then j (e,d,f,a,(c+1),h,b)else none)else if fits (a+1)then l (e,d,f,(a+1),h,b)else none)else if fits (a+1)then l (e,d,f,(a+1),h,b)else none) N (w,x,o,k,(0:Int),t,n)else some o) N (v,q,(0:Int),(0:Int),y,z))
theorem jrY :mK 201 (bX [.agg [.pv Y2,.pv Y4],pS,pI] [pI] (c4A (s_l7Long_m N))):=
 mO ja func201 rfl N (.seq .no (.seq .no (.seq (.seq .no (.block (.loop jqS (.seq .no (.seq (.block (.seq .no (.block (.loop jm7 .no)))) .no))))) .no))) _
def jsB :Sh:=⟨.dead::pS:: .box 2 0:: .dead:: .dead::pI::pI::dz 43 [],[(2,false,[.pv Y2,.pv Y4])]⟩
def jnl :Sh:=⟨.dead::pS:: .box 2 0:: .dead:: .dead::pI::pI::pI::dz 42 [],[(2,false,[.pv Y2,.pv Y4])]⟩
def s_l12Total_m (u:List Z2) (v:List Z1) (r:List UInt8):Z13:=
 (iter (fun j (t,m,i,p,k)=>bif decide (i<(k.length:Int))then iter (fun o (c,d,a,e,h,b)=>oB (idx b a) fun w=>bif decide (e<(w.2.2.length:Int))then oB (idx b a) fun q=>(bif decide (q.1=c)then oB (idx b a) fun n=>(oB (idx n.2.2 e) fun l=>if fits (d+(l.2.length:Int))then if fits (e+1)then o (c,(d+(l.2.length:Int)),a,(e+1),h,b)else none else none)else if fits (a+1)then j (c,d,(a+1),h,b)else none)else if fits (a+1)then j (c,d,(a+1),h,b)else none) N (t,m,i,(0:Int),p,k)else some m) N (r,(0:Int),(0:Int),u,v))
theorem jn2 :mK 202 (bX [.agg [.pv Y2,.pv Y4],pS] [pI] (c3A (s_l12Total_m N))):=
 mO ja func202 rfl N (.seq .no (.seq .no (.seq (.seq .no (.block (.loop jsB (.seq .no (.seq (.block (.seq .no (.block (.loop jnl .no)))) .no))))) .no))) _
def jsx :Sh:=⟨pI::pI::dz 3 (pI::dz 13 []),[]⟩
def jbz (d:Int) (e:Int):Z13:=
 (iter (fun h (a,c,b)=>bif decide ((0:Int)<a)then if fits (a*2)then bif decide ((a*2)<=c)then if fits (a*2)then if fits (b+1)then h ((a*2),c,(b+1))else none else none else(some b)else none else some b) N (d,e,(0:Int)))
theorem jkd :mK 266 (bX [pI,pI] [pI] (c2A (jbz N))):=
 mO ja func266 rfl N (.seq .no (.seq .no (.seq (.block (.loop jsx .no)) .no))) _
def jkC :Sh:=⟨pI::pI::dz 15 [],[]⟩
def jaY (N:Nat):(D:Nat)->Int->Int->Z13
 |0,_,_=>none
 |D+1,a,b=>
 meet (fun(g:Int×Int)=>
 match g with
 |(a2,b2)=>
 bif decide (b2=0)then
 some a2
 else
 if b2≠0 then
 oB (jaY N D b2 (a2.tmod b2)) fun r=>
 (some r)
 else none) fun J=>
 bif decide (a<0)then
 if fits (0-a)then J ((0-a),b)else none
 else
 J (a,b)
def jcQ (N D:Nat):Model:=⟨⟨[pI,pI],[]⟩,⟨[pI],[]⟩,c2A (jaY N D)⟩
theorem jlI (N D:Nat) (ih:mK 302 (jcQ N D)):mK 302 (jcQ N (D+1)):=
 mO (fC ih ja) func302 rfl N (.seq .no (.meet jkC .no .no)) (jcQ N (D+1))
theorem jeF (N:Nat):∀D,mK 302 (jcQ N D)
 |0=>modelOk_none ⟨_,func302,by decide,by kernel_rfl⟩ _ (fun a=>rfl)
 |D+1=>jlI N D (jeF N D)
def jlg :Sh:=⟨pI::pI:: .dead:: .dead:: .box 4 0::dz 17 [],[(4,false,[pI,pI])]⟩
def jcf (c:Int) (b:Int):Option (Int×Int):=
 (meet (fun(h:Int×Int×Int×Int)=>match h with|(d,e,i,j)=>oB (jaY N N d e) fun a=>if a≠0 then if fits (d.tdiv a)then if a≠0 then if fits (e.tdiv a)then some ((d.tdiv a),(e.tdiv a))else none else none else none else none) fun f=>bif decide (b<0)then if fits (0-c)then if fits (0-b)then f ((0-c),(0-b),0,0)else none else none else f (c,b,0,0))
theorem jn4 :mK 265 (bX [pI,pI] [.agg [pI,pI]] (c2A (jcf N))):=
 mO (fC (jeF N N) ja) func265 rfl N (.seq .no (.meet jlg .no .no)) _
def jqT :Sh:=⟨pI:: .dead:: .dead::pI::pI::dz 5 (.box 10 0::pI::dz 21 []),[(10,false,[pI,pI])]⟩
def s_l12Term_m (h:Int) (d:Int) (c:Int) (b:Int) (j:Int):Option (Int×Int):=
 (meet (fun(n:Int×Int×Int×Int×Int×Int)=>match n with|(a,m,l,f,o,p)=>oB (jbz N l m) fun e=>if fits (1+e)then if fits ((1+e)*22)then if fits (((1+e)*22)*a)then if fits (10*a)then if fits ((10*a)+3)then if fits (((10*a)+3)+f)then oB (jcf N (((1+e)*22)*a) (((10*a)+3)+f)) fun k=>(some (k.1,k.2))else none else none else none else none else none else none) fun i=>bif decide ((0:Int)<c)then if fits (d*b)then if fits ((d*b)*9)then if c≠0 then if fits (((d*b)*9).tdiv c)then i (h,b,j,(((d*b)*9).tdiv c),0,0)else none else none else none else none else i (h,b,j,1,0,0))
theorem jtF :mK 200 (bX [pI,pI,pI,pI,pI] [.agg [pI,pI]] (c5A (s_l12Term_m N))):=
 mO (fC (jkd N) (fC (jn4 N) ja)) func200 rfl N (.seq .no (.seq .no (.meet jqT .no .no))) _
def s_l12Points_m (b:List Z2) (d:List Z1) (c:List UInt8) (e:List UInt8) (h:Int):Z13:=
 (oB (s_l12At_m N b d c e h) fun f=>bif decide ((f.length:Int)=0)then some 0 else oB (s_l7Long_m N b d c h) fun j=>oB (s_l12Total_m N b d c) fun k=>oB (s_l7Posts_m N b d c e) fun i=>oB (s_l12Term_m N (f.length:Int) j k (b.length:Int) (i.length:Int)) fun a=>if fits (a.1*1000)then if a.2≠0 then if fits ((a.1*1000).tdiv a.2)then some ((a.1*1000).tdiv a.2)else none else none else none)
theorem jrZ :mK 146 (bX [.agg [.pv Y2,.pv Y4],pS,pS,pI] [pI] (c5A (s_l12Points_m N))):=
 mO (fC (jn1 N) (fC (jrY N) (fC (jn2 N) (fC (jh6 N) (fC (jtF N) ja))))) func146 rfl N .no _
def jAu :Sh:=⟨.pv (.sl .str)::pS::dz 3 (pS::pI::dz 18 []),[]⟩
def jxS (m:List Z0) (n:List UInt8):Option (Z0):=
 (iter (fun o (f,b,a,c)=>bif decide (c<(f.length:Int))then meet (fun(e:(List Z0)×Z0×Z0×Int)=>match e with|(k,l,h,d)=>oB (idx k d) fun j=>if h.length+j.length<=9223372036854775807 then if fits (d+1)then o (k,l,(h++j),(d+1))else none else none) fun i=>(bif decide ((0:Int)<c)then if a.length+b.length<=9223372036854775807 then i (f,b,(a++b),c)else none else i (f,b,a,c))else some a) N (m,n,([]:List UInt8),(0:Int)))
theorem jAy :mK 206 (bX [.pv (.sl .str),pS] [pS] (c2A (jxS N))):=
 mO ja func206 rfl N (.seq .no (.seq .no (.seq (.seq .no (.block (.loop jAu (.seq .no (.seq (.block (.meet jAu .no .no)) .no))))) .no))) _
def jB2 :Sh:=⟨dz 3 (pI:: .dead:: .box 5 0:: .box 6 0:: .dead:: .dead:: .own 600009 Y20 75 true:: .own 600010 Y16 126 true::pI::dz 65 []),[(5,false,[.pv Y2,.pv Y4]),(6,false,[pI,pS,.pv (.sl .str),pI,pI,.pv (.sl .q)])]⟩
def jCf :Sh:=⟨dz 3 (pI:: .dead:: .box 5 0:: .box 6 0:: .dead:: .dead:: .own 600009 Y20 75 true:: .own 600010 Y16 126 true::pI::pI:: .pv Y20:: .own 600014 tI 3 true::pI::dz 61 []),[(5,false,[.pv Y2,.pv Y4]),(6,false,[pI,pS,.pv (.sl .str),pI,pI,.pv (.sl .q)])]⟩
def jyf (G:List Z0) (I:List Z4) (s:List Z2) (R:List Z1) (O:Int) (S:List UInt8) (E:List Z0) (ad:Int) (K:Int) (W:List DQ) (U:Int):Option (Z17):=
 (oB (jxS N E ([32]:List UInt8)) fun Q=>oB (ja5 N G I Q) fun ac=>iter (fun aa (D,C,e,b,z,B,P,A,ae,L,V,T)=>bif decide (b<(e.length:Int))then oB (idx e b) fun r=>(oB (idx e 0) fun l=>if fits (r.2-l.2)then if fits ((r.2-l.2)-b)then oB (idx e b) fun H=>(oB (s_l12At_m N z B A H.1 D) fun X=>iter (fun y (m,h,n,i,c,f,d,a,u,j,k,p,x,v,o,w)=>bif decide (a<(f.length:Int))then oB (idx f a) fun af=>(bif decide (c<=af)then oB (idx f a) fun q=>(if fits (q-c)then if room d.length ([(q-c)]:List Int).length 8 then if fits (a+1)then y (m,h,n,i,c,f,(d++([(q-c)]:List Int)),(a+1),u,j,k,p,x,v,o,w)else none else none else none)else if fits (a+1)then y (m,h,n,i,c,f,d,(a+1),u,j,k,p,x,v,o,w)else none)else if room h.length ([d]:List (List Int)).length 24 then if fits (i+1)then aa (m,(h++([d]:List (List Int))),n,(i+1),u,j,k,p,x,v,o,w)else none else none) N (D,C,e,b,((r.2-l.2)-b),X,([]:List Int),(0:Int),z,B,P,A,ae,L,V,T))else none else none)else some C) N (U,([]:List (List Int)),ac,(0:Int),s,R,O,S,E,ad,K,W))
theorem jCm :mK 204 (bX [.agg [.pv (.sl .str),.pv Y15],.agg [.pv Y2,.pv Y4],.agg [pI,pS,.pv (.sl .str),pI,pI,.pv (.sl .q)],pI] [.own 1 Y20 75 true] (c11A (jyf N))):=
 mO (fC (jAy N) (fC (jiO N) (fC (jn1 N) ja))) func204 rfl N (.seq .no (.seq .no (.seq .no (.seq (.seq .no (.block (.loop jB2 (.seq .no (.seq (.block (.seq .no (.seq .no (.seq .no (.seq (.seq .no (.block (.loop jCf .no))) .no))))) .no))))) .no)))) _
def jBI :Sh:=⟨.pv (.sl Y20)::pI::pI::pI::pI::dz 6 (pI::dz 46 []),[]⟩
def jxJ (N:Nat):(D:Nat)->Z17->Int->Int->Int->Int->Z8
 |0,_,_,_,_,_=>none
 |D+1,lists,k,last,start,slop=>
 bif decide (k=(lists.length:Int))then
 if fits (last-start)then if fits ((lists.length:Int)-1)then if fits ((last-start)-((lists.length:Int)-1))then some (decide (((last-start)-((lists.length:Int)-1))<=slop))else none else none else none
 else
 iter (fun go (g:Z17×Int×Int×Int×Int×Int)=>
 match g with
 |(lists2,k2,last2,start2,slop2,i)=>
 oB (idx lists2 k2) fun e=>
 bif decide (i<(e.length:Int))then
 oB (idx lists2 k2) fun e2=>
 (oB (idx e2 i) fun e3=>
 bif decide (last2<e3)then
 if fits (k2+1)then oB (idx lists2 k2) fun e4=>
 (oB (idx e4 i) fun e5=>
 oB (jxJ N D lists2 (k2+1) e5 start2 slop2) fun r=>
 bif r then
 some true
 else
 if fits (i+1)then go (lists2,k2,last2,start2,slop2,(i+1))else none)else none
 else
 if fits (i+1)then go (lists2,k2,last2,start2,slop2,(i+1))else none)
 else
 some false) N (lists,k,last,start,slop,0)
def jyj (N D:Nat):Model:=⟨⟨[.pv (.sl Y20),pI,pI,pI,pI],[]⟩,⟨[pB],[]⟩,c5A (jxJ N D)⟩
theorem jD8 (N D:Nat) (ih:mK 267 (jyj N D)):mK 267 (jyj N (D+1)):=
 mO (fC ih ja) func267 rfl N (.seq .no (.seq .no (.seq (.seq .no (.block (.loop jBI .no))) .no))) (jyj N (D+1))
theorem jzt (N:Nat):∀D,mK 267 (jyj N D)
 |0=>modelOk_none ⟨_,func267,by decide,by kernel_rfl⟩ _ (fun a=>rfl)
 |D+1=>jD8 N D (jzt N D)
def jCF :Sh:=⟨.pv (.sl Y20)::pI::dz 3 (.own 600005 tI 3 true::pI::dz 56 []),[]⟩
def jBd :Sh:=⟨.pv (.sl Y20)::pI::dz 3 (.own 600005 tI 3 true:: .dead::pI::dz 55 []),[]⟩
def jyb (u:List (List Int)) (n:Int):Z15:=
 (iter (fun t (c,h,j,e)=>bif decide (e<(c.length:Int))then oB (idx c e) fun z=>(oB (jx3 N z) fun w=>bif !w then some ([]:List Int)else if fits (e+1)then t (c,h,j,(e+1))else none)else oB (jJ N (c.length:Int) 1 6) fun x=>bif !x then some ([]:List Int)else oB (jJ N h 0 5) fun q=>bif !q then some ([]:List Int)else iter (fun l (b,i,d,a)=>oB (idx b 0) fun r=>bif decide (a<(r.length:Int))then oB (idx b 0) fun p=>(oB (idx p a) fun A=>oB (idx b 0) fun m=>oB (idx m a) fun v=>oB (jxJ N N b 1 A v i) fun o=>bif o then oB (idx b 0) fun y=>(oB (idx y a) fun k=>if room d.length ([k]:List Int).length 8 then if fits (a+1)then l (b,i,(d++([k]:List Int)),(a+1))else none else none)else if fits (a+1)then l (b,i,d,(a+1))else none)else some d) N (c,h,j,(0:Int))) N (u,n,([]:List Int),(0:Int)))
theorem jAW :mK 205 (bX [.pv (.sl Y20),pI] [.own 1 tI 3 true] (c2A (jyb N))):=
 mO (fC (jC9 N) (fC (jcL N) (fC (jzt N N) ja))) func205 rfl N (.seq .no (.seq .no (.seq (.seq .no (.block (.loop jCF .no))) (.seq .no (.seq (.seq .no (.block (.loop jBd .no))) .no))))) _
def jCQ :Sh:=⟨dz 3 (pI:: .dead:: .box 5 0:: .box 6 0::dz 3 (pI::pI:: .own 600012 Y16 126 true::pI::dz 41 [])),[(5,false,[.pv Y2,.pv Y4]),(6,false,[pI,pS,.pv (.sl .str),pI,pI,.pv (.sl .q)])]⟩
def jCS :Sh:=⟨dz 3 (pI:: .box 4 0:: .box 5 0:: .box 6 0::dz 3 (pI::dz 44 [])),[(4,false,[.pv (.sl .str),.pv Y15]),(5,false,[.pv Y2,.pv Y4]),(6,false,[pI,pS,.pv (.sl .str),pI,pI,.pv (.sl .q)])]⟩
def jx2 (e:List Z0) (f:List Z4) (p:List Z2) (j:List Z1) (i:Int) (l:List UInt8) (q:List Z0) (c:Int) (h:Int) (n:List DQ) (m:Int):Z13:=
 (oB (jyf N e f p j i l q c h n m) fun v=>bif decide ((v.length:Int)=0)then some 0 else oB (jyb N v c) fun z=>meet (fun(o:Int×Int×(List Z0)×(List Z4)×(List Z2)×(List Z1)×Int×Z0×(List Z0)×Int×Int×(List DQ))=>match o with|(W,aa,D,C,E,L,I,H,A,G,R,P)=>oB (jxS N A ([32]:List UInt8)) fun S=>oB (ja5 N D C S) fun Q=>iter (fun T (u,d,b,k,a,y,r,B,w,X,U,K,V)=>bif decide (a<(k.length:Int))then oB (idx k a) fun O=>(oB (s_l12Points_m N y r w O.1 u) fun x=>if fits (b+x)then if fits (a+1)then T (u,d,(b+x),k,(a+1),y,r,B,w,X,U,K,V)else none else none)else if fits (b*d)then some (b*d)else none) N (W,aa,(0:Int),Q,(0:Int),E,L,I,H,A,G,R,P)) fun t=>bif decide ((3:Int)<z.length)then t (m,3,e,f,p,j,i,l,q,c,h,n)else t (m,(z.length:Int),e,f,p,j,i,l,q,c,h,n))
theorem jAL :mK 148 (bX [.agg [.pv (.sl .str),.pv Y15],.agg [.pv Y2,.pv Y4],.agg [pI,pS,.pv (.sl .str),pI,pI,.pv (.sl .q)],pI] [pI] (c11A (jx2 N))):=
 mO (fC (jCm N) (fC (jAW N) (fC (jAy N) (fC (jiO N) (fC (jrZ N) ja))))) func148 rfl N (.seq .no (.seq .no (.seq .no (.seq .no (.meet jCS .no (.seq .no (.seq .no (.seq (.seq .no (.block (.loop jCQ .no))) .no)))))))) _
def s_l5Min_m (N:Nat) (b:Int) (a:Int):Z13:=
 (bif decide (b<a)then some b else some a)
theorem jDQ :mK 268 (bX [pI,pI] [pI] (c2A (s_l5Min_m N))):=
 mO ja func268 rfl N .no _
def jCw :Sh:=⟨pS::pS::dz 3 (.mtk 600005 tI 3 true::pI::dz 74 []),[]⟩
def jDJ :Sh:=⟨pS::pS::dz 3 (.mtk 600005 tI 3 true:: .dead::pI::dz 73 []),[]⟩
def jDM :Sh:=⟨pS::pS::dz 3 (.mtk 600005 tI 3 true:: .dead::pI::pI::pI::dz 71 []),[]⟩
def jBZ :Sh:=⟨pS::pS::dz 3 (.mtk 600005 tI 3 true:: .dead::pI:: .dead::pI::pI::dz 70 []),[]⟩
def s_l5Far_m (H:List UInt8) (d:List UInt8):Z13:=
 (if fits ((d.length:Int)+1)then if((d.length:Int)+1)=((d.length:Int)+1)/\0<=((d.length:Int)+1)/\((d.length:Int)+1)*8<=140737488355328/\((d.length:Int)+1)<=140737488355328 then iter (fun K (t,o,k,c)=>bif decide (c<=(o.length:Int))then if 0<=c/\c<(k.length:Int)then oB (k[c.toNat]?) fun S=>(if fits (c+1)then K (t,o,(k.set c.toNat c),(c+1))else none)else none else iter (fun z (v,m,f,j)=>bif decide (j<(v.length:Int))then if 0<=(0:Int)/\(0:Int)<f.length then oB (f[(0:Int).toNat]?) fun A=>(if fits (j+1)then if 0<=(0:Int)/\(0:Int)<f.length then oB (f[(0:Int).toNat]?) fun Q=>(iter (fun I (l,h,p,i,q,n)=>bif decide (n<(h.length:Int))then meet (fun(e:Z19)=>match e with|(O,L,b,C,a,D)=>if fits (a+1)then if 0<=(a+1)/\(a+1)<(b.length:Int)then oB (b[(a+1).toNat]?) fun G=>(if fits (a+1)then if 0<=a/\a<(b.length:Int)then oB (b[a.toNat]?) fun E=>(if fits (a+1)then if 0<=(a+1)/\(a+1)<(b.length:Int)then oB (b[(a+1).toNat]?) fun B=>(oB (s_l5Min_m N E B) fun u=>if fits (u+1)then oB (s_l5Min_m N D (u+1)) fun P=>(if 0<=(a+1)/\(a+1)<(b.length:Int)then oB (b[(a+1).toNat]?) fun R=>(if fits (a+1)then I (O,L,(b.set (a+1).toNat P),C,G,(a+1))else none)else none)else none)else none else none)else none else none)else none else none) fun r=>(oB (idx l i) fun w=>oB (idx h n) fun y=>bif !decide ((w.toNat:Int)=(y.toNat:Int))then if fits (q+1)then r (l,h,p,i,n,(q+1))else none else r (l,h,p,i,n,q))else if fits (i+1)then z (l,h,p,(i+1))else none) N (v,m,(f.set (0:Int).toNat (j+1)),j,A,(0:Int)))else none else none)else none else if 0<=(m.length:Int)/\(m.length:Int)<(f.length:Int)then oB (f[(m.length:Int).toNat]?) fun x=>(some x)else none) N (t,o,k,(0:Int))) N (H,d,(List.replicate ((d.length:Int)+1).toNat 0),(0:Int))else none else none)
theorem jBt :mK 207 (bX [pS,pS] [pI] (c2A (s_l5Far_m N))):=
 mO (fC (jDQ N) ja) func207 rfl N (.seq .no (.seq .no (.seq (.seq .no (.block (.loop jCw .no))) (.seq (.seq .no (.block (.loop jDJ (.seq .no (.seq (.block (.seq .no (.seq .no (.seq .no (.block (.loop jDM (.seq .no (.seq (.block (.seq .no (.meet jBZ .no .no))) .no)))))))) .no))))) .no)))) _ (wr:=[14])
def jC5 :Sh:=⟨.dead:: .dead::pI:: .box 3 0:: .box 4 0:: .dead:: .dead::pI::pI::dz 49 [],[(3,false,[.pv Y2,.pv Y4]),(4,false,[pI,pS,.pv (.sl .str),pI,pI,.pv (.sl .q)])]⟩
def jx5 (x:List Z2) (y:List Z1) (w:Int) (A:List UInt8) (B:List Z0) (z:Int) (t:Int) (r:List DQ) (q:Int):Z13:=
 (iter (fun m (h,i,a,e,b,n,c,j,f,l,k)=>bif decide (a<(b.length:Int))then oB (idx b a) fun p=>(oB (idx j 0) fun u=>oB (s_l5Far_m N p.2.1 u) fun d=>bif !decide (p.1=c)then if fits (a+1)then m (h,i,(a+1),e,b,n,c,j,f,l,k)else none else bif decide (f<d)then if fits (a+1)then m (h,i,(a+1),e,b,n,c,j,f,l,k)else none else oB (s_l12Points_m N e b c p.2.1 h) fun o=>if fits (3-d)then if fits (o*(3-d))then if 3≠0 then if fits ((o*(3-d)).tdiv 3)then bif decide (i<((o*(3-d)).tdiv 3))then if fits (a+1)then m (h,((o*(3-d)).tdiv 3),(a+1),e,b,n,c,j,f,l,k)else none else(if fits (a+1)then m (h,i,(a+1),e,b,n,c,j,f,l,k)else none)else none else none else none else none)else some i) N (q,(0:Int),(0:Int),x,y,w,A,B,z,t,r))
theorem jCb :mK 149 (bX [.agg [.pv Y2,.pv Y4],.agg [pI,pS,.pv (.sl .str),pI,pI,.pv (.sl .q)],pI] [pI] (c9A (jx5 N))):=
 mO (fC (jBt N) (fC (jrZ N) ja)) func149 rfl N (.seq .no (.seq .no (.seq (.seq .no (.block (.loop jC5 .no))) .no))) _
def jxB (N:Nat):(D:Nat)->Z0->Z0->Z8
 |0,_,_=>none
 |D+1,p,s=>
 bif decide (p=([]:List UInt8))then
 some (decide (s=([]:List UInt8)))
 else
 oB (idx p 0) fun c=>
 bif decide ((c.toNat:Int)=42)then
 oB (cut p 1 (p.length:Int)) fun y=>
 (oB (jxB N D y s) fun r=>
 bif r then
 some true
 else
 bif !decide (s=([]:List UInt8))then
 oB (cut s 1 (s.length:Int)) fun y2=>
 (oB (jxB N D p y2) fun r2=>
 some r2)
 else
 some false)
 else
 bif !decide (s=([]:List UInt8))then
 oB (idx p 0) fun c2=>
 (bif decide ((c2.toNat:Int)=63)then
 oB (cut p 1 (p.length:Int)) fun y3=>
 (oB (cut s 1 (s.length:Int)) fun y4=>
 oB (jxB N D y3 y4) fun r3=>
 some r3)
 else
 oB (idx p 0) fun c3=>
 oB (idx s 0) fun c4=>
 bif decide ((c3.toNat:Int)=(c4.toNat:Int))then
 oB (cut p 1 (p.length:Int)) fun y5=>
 (oB (cut s 1 (s.length:Int)) fun y6=>
 oB (jxB N D y5 y6) fun r4=>
 some r4)
 else
 some false)
 else
 some false
def jyr (N D:Nat):Model:=⟨⟨[pS,pS],[]⟩,⟨[pB],[]⟩,c2A (jxB N D)⟩
theorem jDg (N D:Nat) (ih:mK 208 (jyr N D)):mK 208 (jyr N (D+1)):=
 mO (fC ih ja) func208 rfl N .no (jyr N (D+1))
theorem jzM (N:Nat):∀D,mK 208 (jyr N D)
 |0=>modelOk_none ⟨_,func208,by decide,by kernel_rfl⟩ _ (fun a=>rfl)
 |D+1=>jDg N D (jzM N D)
def jBi :Sh:=⟨.dead:: .dead::pI:: .box 3 0:: .box 4 0:: .dead:: .dead::pI::dz 38 [],[(3,false,[.pv Y2,.pv Y4]),(4,false,[pI,pS,.pv (.sl .str),pI,pI,.pv (.sl .q)])]⟩
def jyd (v:List Z2) (x:List Z1) (t:Int) (z:List UInt8) (A:List Z0) (y:Int) (p:Int) (o:List DQ) (n:Int):Z8:=
 (iter (fun k (e,a,d,b,l,c,f,j,i,h)=>bif decide (a<(b.length:Int))then oB (idx b a) fun m=>(bif decide (m.1=c)then oB (idx f 0) fun q=>(oB (jxB N N q m.2.1) fun u=>bif u then oB (s_l12At_m N d b c m.2.1 e) fun w=>(bif decide ((0:Int)<w.length)then some true else if fits (a+1)then k (e,(a+1),d,b,l,c,f,j,i,h)else none)else if fits (a+1)then k (e,(a+1),d,b,l,c,f,j,i,h)else none)else if fits (a+1)then k (e,(a+1),d,b,l,c,f,j,i,h)else none)else some false) N (n,(0:Int),v,x,t,z,A,y,p,o))
theorem jCi :mK 151 (bX [.agg [.pv Y2,.pv Y4],.agg [pI,pS,.pv (.sl .str),pI,pI,.pv (.sl .q)],pI] [pB] (c9A (jyd N))):=
 mO (fC (jzM N N) (fC (jn1 N) ja)) func151 rfl N (.seq .no (.seq (.seq .no (.block (.loop jBi .no))) .no)) _
def jyV (N:Nat) (a:Bool):Z13:=
 (bif a then some 100 else some 0)
theorem jCo :mK 150 (bX [pB] [pI] (c1A (jyV N))):=
 mO ja func150 rfl N .no _
def jym (f:Int) (h:Z14) (n:Z7) (i:List UInt8):Z13:=
 (iter (fun m (c,a,k,l,b)=>bif decide (a<(b.length:Int))then oB (idx b a) fun d=>(bif decide (d.1=c)then oB (idx b a) fun j=>(some j.2)else if fits (a+1)then m (c,(a+1),k,l,b)else none)else some (-1)) N (i,(0:Int),f,h,n))
theorem jDS :mK 152 (bX [.agg [pI,.pv Y18,.pv Y14],pS] [pI] (c4A (jym N))):=
 mO ja func152 rfl N (.seq .no (.seq (.seq .no (.block (.loop jl8 .no))) .no)) _
def jDX :Sh:=⟨dz 3 (pI:: .box 4 0:: .box 5 0:: .box 6 0:: .dead:: .dead::pI::pI::dz 111 []),[(4,false,[.pv (.sl .str),.pv Y15]),(5,false,[.pv Y2,.pv Y4]),(6,false,[pI,pS,.pv (.sl .str),pI,pI,.pv (.sl .q)])]⟩
def s_l12Score_m (N:Nat):(D:Nat)->(List Z0)->(List Z4)->(List Z2)->(List Z1)->Int->Z0->(List Z0)->Int->Int->(List DQ)->Int->Z13
 |0,_,_,_,_,_,_,_,_,_,_,_=>none
 |D+1,c,c2,s,s2,q,q2,q3,q4,q5,q6,id=>
 bif decide (q=1)then
 some 100
 else
 bif decide (q=2)then
 oB (idx q3 0) fun e=>
 (oB (jyC N c c2 e) fun r=>
 oB (s_l12Points_m N s s2 q2 r id) fun r2=>
 some r2)
 else
 bif decide (q=3)then
 oB (jx2 N c c2 s s2 q q2 q3 q4 q5 q6 id) fun r3=>
 (some r3)
 else
 bif decide (q=4)then
 oB (jx5 N s s2 q q2 q3 q4 q5 q6 id) fun r4=>
 (some r4)
 else
 bif decide (q=5)then
 oB (jyd N s s2 q q2 q3 q4 q5 q6 id) fun r5=>
 (oB (jyV N r5) fun r6=>
 some r6)
 else
 bif decide (q=6)then
 oB (jyv N s s2 id) fun r7=>
 (oB (jym N r7.1 r7.2.1 r7.2.2 q2) fun r8=>
 oB (jJ N r8 q4 q5) fun r9=>
 oB (jyV N r9) fun r10=>
 some r10)
 else
 bif decide (q=10)then
 oB (idx q6 0) fun e2=>
 (oB (s_l12Score_m N D c c2 s s2 e2.kind e2.field e2.words e2.lo e2.hi e2.kids id) fun r11=>
 if fits (q4*r11)then some (q4*r11)else none)
 else
 bif decide (q=9)then
 oB (idx q6 1) fun e3=>
 (oB (s_l12Score_m N D c c2 s s2 e3.kind e3.field e3.words e3.lo e3.hi e3.kids id) fun r12=>
 bif decide ((0:Int)<r12)then
 some 0
 else
 oB (idx q6 0) fun e4=>
 oB (s_l12Score_m N D c c2 s s2 e4.kind e4.field e4.words e4.lo e4.hi e4.kids id) fun r13=>
 some r13)
 else
 iter (fun go (g:Int×Int×Int×(List Z0)×(List Z4)×(List Z2)×(List Z1)×Int×Z0×(List Z0)×Int×Int×(List DQ))=>
 match g with
 |(id2,sum,i,c3,c4,s3,s4,q7,q8,q9,q10,q11,q12)=>
 bif decide (i<(q12.length:Int))then
 oB (idx q12 i) fun e5=>
 (oB (s_l12Score_m N D c3 c4 s3 s4 e5.kind e5.field e5.words e5.lo e5.hi e5.kids id2) fun r14=>
 bif decide (r14=0)then
 bif decide (q7=7)then
 some 0
 else
 (if fits (sum+r14)then if fits (i+1)then go (id2,(sum+r14),(i+1),c3,c4,s3,s4,q7,q8,q9,q10,q11,q12)else none else none)
 else
 if fits (sum+r14)then if fits (i+1)then go (id2,(sum+r14),(i+1),c3,c4,s3,s4,q7,q8,q9,q10,q11,q12)else none else none)
 else
 some sum) N (id,0,0,c,c2,s,s2,q,q2,q3,q4,q5,q6)
def jyz (N D:Nat):Model:=⟨⟨[.agg [.pv (.sl .str),.pv Y15],.agg [.pv Y2,.pv Y4],.agg [pI,pS,.pv (.sl .str),pI,pI,.pv (.sl .q)],pI],[]⟩,⟨[pI],[]⟩,c11A (s_l12Score_m N D)⟩
theorem jBH (N D:Nat) (ih:mK 84 (jyz N D)):mK 84 (jyz N (D+1)):=
 mO (fC ih (fC (jCy N) (fC (jrZ N) (fC (jAL N) (fC (jCb N) (fC (jCi N) (fC (jCo N) (fC (jDn N) (fC (jDS N) (fC (jcL N) ja)))))))))) func84 rfl N (.seq .no (.seq .no (.seq .no (.seq (.seq .no (.block (.loop jDX .no))) .no)))) (jyz N (D+1))
theorem jz7 (N:Nat):∀D,mK 84 (jyz N D)
 |0=>modelOk_none ⟨_,func84,by decide,by kernel_rfl⟩ _ (fun a=>rfl)
 |D+1=>jBH N D (jz7 N D)
def s_l30AnyQuery_m (e:List Int) (f:Int):Option (Int×Z0×(List Z0)×Int×Int×(List DQ)×(List Int)×Int):=
 (oB (s_l30Query_m N N 3 e f) fun a=>oB (jtW N 16 a.2.2.2.2.2.2.1 a.2.2.2.2.2.2.2) fun b=>bif decide (b.1=0)then oB (s_l30Rd_one_m N ([0,11,7]:List Int) b.2.1 b.2.2) fun c=>(some (c.1,a.2.1,a.2.2.1,a.2.2.2.1,a.2.2.2.2.1,a.2.2.2.2.2.1,c.2.1,c.2.2))else bif decide (b.1=1)then oB (s_l30Rd_one_m N ([(-1),10,1]:List Int) b.2.1 b.2.2) fun d=>(some (a.1,a.2.1,a.2.2.1,d.1,a.2.2.2.2.1,a.2.2.2.2.2.1,d.2.1,d.2.2))else bif decide (b.1=2)then if room a.2.2.1.length ([([66,97,100]:List UInt8)]:List Z0).length 16 then some (a.1,a.2.1,(a.2.2.1++([([66,97,100]:List UInt8)]:List Z0)),a.2.2.2.1,a.2.2.2.2.1,a.2.2.2.2.2.1,b.2.1,b.2.2)else none else bif decide (b.1=3)then if room ([(DQ.mk a.1 a.2.1 a.2.2.1 a.2.2.2.1 a.2.2.2.2.1 a.2.2.2.2.2.1)]:List DQ).length a.2.2.2.2.2.1.length 88 then some (a.1,a.2.1,a.2.2.1,a.2.2.2.1,a.2.2.2.2.1,(([(DQ.mk a.1 a.2.1 a.2.2.1 a.2.2.2.1 a.2.2.2.2.1 a.2.2.2.2.2.1)]:List DQ)++a.2.2.2.2.2.1),b.2.1,b.2.2)else none else some (a.1,a.2.1,a.2.2.1,a.2.2.2.1,a.2.2.2.2.1,a.2.2.2.2.2.1,b.2.1,b.2.2))
theorem jGf :mK 99 ⟨⟨[.box 900000 0],[(900000,false,[.pv (.sl (.int .u8)),pI])]⟩,⟨[.agg [pI,pS,.pv (.sl .str),pI,pI,.own 1 .q 38 false]],[(900000,false,[.pv (.sl (.int .u8)),pI])]⟩,c2A (s_l30AnyQuery_m N)⟩:=
 mO (fC (jE7 N N) (fC (jtX N) (fC (juA N) ja))) func99 rfl N .no _ (rs:=[900000])
def jEp :Sh:=⟨dz 7 (.own 600007 tI 3 true::dz 6 (.own 600014 Y13 90 true::pI::pI::dz 10 [])),[]⟩
def i_MatchOf_m (h:List Z0) (i:List Z4) (o:List Z2) (p:List Z1) (n:Int) (r:List UInt8) (t:List Z0) (q:Int) (k:Int) (j:List DQ):Z15:=
 (oB (i_scores_m N h i o p n r t q k j) fun e=>iter (fun l (b,d,c,a)=>bif decide (a<c)then oB (idx d a) fun f=>(if room b.length ([f.1]:List Int).length 8 then if fits (a+1)then l ((b++([f.1]:List Int)),d,c,(a+1))else none else none)else some b) N (([]:List Int),e,(e.length:Int),(0:Int)))
theorem jEl :mK 35 (bX [.agg [.pv (.sl .str),.pv Y15],.agg [.pv Y2,.pv Y4],.agg [pI,pS,.pv (.sl .str),pI,pI,.pv (.sl .q)]] [.own 1 tI 3 true] (c10A (i_MatchOf_m N))):=
 mO (fC (jBc N) ja) func35 rfl N (.seq .no (.seq .no (.seq (.seq .no (.block (.loop jEp .no))) .no))) _
def s_l30Seg_m (d:List Int) (e:Int):Option ((List Z0)×(List Z4)×(List Z2)×(List Z1)×(List Int)×Int):=
 (oB (s_l30Conf_m N d e) fun a=>oB (s_l30Docs_m N a.2.2.1 a.2.2.2) fun b=>oB (s_l7Of_m N a.1 a.2.1 b.1) fun c=>some (a.1,a.2.1,c.1,c.2,b.2.1,b.2.2))
theorem jvc :mK 163 ⟨⟨[.box 900000 0],[(900000,false,[.pv (.sl (.int .u8)),pI])]⟩,⟨[.tup [.agg [.own 1 .str 9 true,.own 2 Y17 117 true],.agg [.tre 3 Y3 51,.tre 4 Y5 131]]],[(900000,false,[.pv (.sl (.int .u8)),pI])]⟩,c2A (s_l30Seg_m N)⟩:=
 mO (fC (jva N) (fC (juO N) (fC (jmU N) ja))) func163 rfl N .no _ (rs:=[900000]) (dw:=[11])
def s_l30AnySeg_m (h:List Int) (i:Int):Option ((List Z0)×(List Z4)×(List Z2)×(List Z1)×(List Int)×Int):=
 (oB (s_l30Seg_m N h i) fun a=>bif decide ((0:Int)<a.2.2.2.1.length)then oB (jtW N (a.2.2.2.1.length:Int) a.2.2.2.2.1 a.2.2.2.2.2) fun c=>(oB (jtW N 16 c.2.1 c.2.2) fun b=>bif decide (b.1=0)then if 0<=c.1/\c.1<(a.2.2.2.1.length:Int)then oB (a.2.2.2.1[c.1.toNat]?) fun d=>(some (a.1,a.2.1,a.2.2.1,(a.2.2.2.1.set c.1.toNat (d.1,([122,122,122]:List UInt8),d.2.2)),b.2.1,b.2.2))else none else bif decide (b.1=1)then if 0<=c.1/\c.1<(a.2.2.2.1.length:Int)then oB (a.2.2.2.1[c.1.toNat]?) fun e=>(if room a.2.2.2.1.length ([e]:List Z1).length 56 then some (a.1,a.2.1,a.2.2.1,(a.2.2.2.1++([e]:List Z1)),b.2.1,b.2.2)else none)else none else bif decide (b.1=2)then oB (cut a.2.2.1 1 (a.2.2.1.length:Int)) fun f=>(some (a.1,a.2.1,f,a.2.2.2.1,b.2.1,b.2.2))else some (a.1,a.2.1,a.2.2.1,a.2.2.2.1,b.2.1,b.2.2))else some (a.1,a.2.1,a.2.2.1,a.2.2.2.1,a.2.2.2.2.1,a.2.2.2.2.2))
theorem juW :mK 97 ⟨⟨[.box 900000 0],[(900000,false,[.pv (.sl (.int .u8)),pI])]⟩,⟨[.tup [.agg [.own 1 .str 9 true,.own 2 Y17 117 true],.agg [.pv Y2,.own 3 Y5 131 false]]],[(900000,false,[.pv (.sl (.int .u8)),pI])]⟩,c2A (s_l30AnySeg_m N)⟩:=
 mO (fC (jvc N) (fC (jtX N) ja)) func97 rfl N (.seq .no (.seq .no (.seq (.seq (.touch [.thaw 5 0,.thaw 5 1]) .no) .no))) _ (wr:=[39,40,46]) (rs:=[900000])
def s_DrawMatchOf_m (f:List Int):Option ((List Z0)×(List Z4)×(List Z2)×(List Z1)×Int×Z0×(List Z0)×Int×Int×(List DQ)):=
 (oB (jt0 N f) fun e=>oB (s_l30AnySeg_m N e.1 e.2) fun a=>oB (jtW N 10 a.2.2.2.2.1 a.2.2.2.2.2) fun d=>bif decide (d.1=0)then oB (s_l30AnyQuery_m N d.2.1 d.2.2) fun c=>(some (a.1,a.2.1,a.2.2.1,a.2.2.2.1,c.1,c.2.1,c.2.2.1,c.2.2.2.1,c.2.2.2.2.1,c.2.2.2.2.2.1))else oB (s_l30Query_m N N 3 d.2.1 d.2.2) fun b=>some (a.1,a.2.1,a.2.2.1,a.2.2.2.1,b.1,b.2.1,b.2.2.1,b.2.2.2.1,b.2.2.2.2.1,b.2.2.2.2.2.1))
theorem jSk :mK 37 (bX [.pv (.sl (.int .u8))] [.tup [.agg [.own 1 .str 9 true,.own 2 Y17 117 true],.agg [.pv Y2,.own 3 Y5 131 false],.agg [pI,pS,.pv (.sl .str),pI,pI,.own 4 .q 38 false]]] (c1A (s_DrawMatchOf_m N))):=
 mO (fC (juQ N) (fC (juW N) (fC (jtX N) (fC (jGf N) (fC (jE7 N N) ja))))) func37 rfl N .no _
def jEo :Sh:=⟨dz 3 (.box 3 0:: .box 4 0:: .box 5 0:: .dead:: .own 600007 tI 3 true::pI::dz 39 []),[(3,false,[.pv (.sl .str),.pv Y15]),(4,false,[.pv Y2,.pv Y4]),(5,false,[pI,pS,.pv (.sl .str),pI,pI,.pv (.sl .q)])]⟩
def s_MatchOf_m (n:List Z0) (o:List Z4) (v:List Z2) (w:List Z1) (u:Int) (y:List UInt8) (z:List Z0) (x:Int) (q:Int) (p:List DQ):Z15:=
 (oB (s_l7Ok_m N n o v w) fun C=>bif !C then some ([]:List Int)else oB (s_l11Ok_m N u y z x q p) fun D=>bif !D then some ([]:List Int)else iter (fun t (c,a,f,e,b,l,k,j,m,i,h,d)=>bif decide (a<(b.length:Int))then oB (idx b a) fun E=>(oB (s_l12Score_m N N f e b l k j m i h d E.1) fun A=>bif decide ((0:Int)<A)then oB (idx b a) fun r=>(if room c.length ([r.1]:List Int).length 8 then if fits (a+1)then t ((c++([r.1]:List Int)),(a+1),f,e,b,l,k,j,m,i,h,d)else none else none)else if fits (a+1)then t (c,(a+1),f,e,b,l,k,j,m,i,h,d)else none)else some c) N (([]:List Int),(0:Int),n,o,v,w,u,y,z,x,q,p))
theorem jEs :mK 39 (bX [.agg [.pv (.sl .str),.pv Y15],.agg [.pv Y2,.pv Y4],.agg [pI,pS,.pv (.sl .str),pI,pI,.pv (.sl .q)]] [.own 1 tI 3 true] (c10A (s_MatchOf_m N))):=
 mO (fC (jpm N) (fC (jBX N) (fC (jz7 N N) ja))) func39 rfl N (.seq .no (.seq .no (.seq .no (.seq (.seq .no (.block (.loop jEo .no))) .no)))) _
def jSi :Sh:=⟨.dead:: .pv Y20::dz 3 (.own 600005 tI 3 true::dz 12 (.pv Y20::pI::pI::dz 12 [])),[]⟩
def i_SetAnd_m (c:List Int) (i:List Int):Z15:=
 (oB (jx1 N c) fun k=>bif !k then some ([]:List Int)else oB (jx1 N i) fun l=>bif !l then some ([]:List Int)else iter (fun j (f,b,d,e,a)=>bif decide (a<e)then oB (idx d a) fun h=>(oB (jHG N f h) fun m=>bif m then if room b.length ([h]:List Int).length 8 then if fits (a+1)then j (f,(b++([h]:List Int)),d,e,(a+1))else none else none else if fits (a+1)then j (f,b,d,e,(a+1))else none)else some b) N (i,([]:List Int),c,(c.length:Int),(0:Int)))
theorem jSe :mK 42 (bX [.pv Y20,.pv Y20] [.own 1 tI 3 true] (c2A (i_SetAnd_m N))):=
 mO (fC (jAN N) (fC (jIT N) ja)) func42 rfl N (.seq .no (.seq .no (.seq .no (.seq (.seq .no (.block (.loop jSi .no))) .no)))) _
def jR8 (N:Nat) (a:List Int):Option (List Int):=jR7 a
 
def jSj (N:Nat):Model:=⟨⟨[.mtk 800000 tI 3 false],[]⟩,⟨[.mtk 1 tI 3 false],[]⟩,c1A (jR8 N)⟩
theorem jSq :mK 107 (jSj N):=jSd
def i_SetOr_m (a:List Int) (b:List Int):Z15:=
 (oB (jx1 N a) fun e=>bif !e then some ([]:List Int)else oB (jx1 N b) fun f=>bif !f then some ([]:List Int)else if room ([]:List Int).length a.length 8 then if room (([]:List Int)++a).length b.length 8 then oB (k_slices_Sort_287_m N ((([]:List Int)++a)++b)) fun d=>(oB (jR8 N d) fun c=>if room ([]:List Int).length c.length 8 then some (([]:List Int)++c)else none)else none else none)
theorem jSb :mK 43 (bX [.pv Y20,.pv Y20] [.own 1 tI 3 true] (c2A (i_SetOr_m N))):=
 mO (fC (jAN N) (fC (jMQ N) (fC (jSq N) ja))) func43 rfl N .no _ (wr:=[14,15,17,19,22,25])
def jSm :Sh:=⟨.dead:: .pv Y20::dz 3 (.own 600005 tI 3 true::dz 12 (.pv Y20::pI::pI::dz 13 [])),[]⟩
def i_SetLess_m (c:List Int) (i:List Int):Z15:=
 (oB (jx1 N c) fun k=>bif !k then some ([]:List Int)else oB (jx1 N i) fun l=>bif !l then some ([]:List Int)else iter (fun j (f,b,d,e,a)=>bif decide (a<e)then oB (idx d a) fun h=>(oB (jHG N f h) fun m=>bif !m then if room b.length ([h]:List Int).length 8 then if fits (a+1)then j (f,(b++([h]:List Int)),d,e,(a+1))else none else none else if fits (a+1)then j (f,b,d,e,(a+1))else none)else some b) N (i,([]:List Int),c,(c.length:Int),(0:Int)))
theorem jSh :mK 44 (bX [.pv Y20,.pv Y20] [.own 1 tI 3 true] (c2A (i_SetLess_m N))):=
 mO (fC (jAN N) (fC (jIT N) ja)) func44 rfl N (.seq .no (.seq .no (.seq .no (.seq (.seq .no (.block (.loop jSm .no))) .no)))) _
def l_FnMatchSets_m (f:List Int) (e:List Int):Z8:=
 (bif decide ((1048576:Int)<f.length)then some true else bif decide ((1048576:Int)<e.length)then some true else oB (s_DrawMatchOf_m N f) fun a=>oB (s_DrawMatchOf_m N e) fun b=>oB (i_MatchOf_m N a.1 a.2.1 a.2.2.1 a.2.2.2.1 a.2.2.2.2.1 a.2.2.2.2.2.1 a.2.2.2.2.2.2.1 a.2.2.2.2.2.2.2.1 a.2.2.2.2.2.2.2.2.1 a.2.2.2.2.2.2.2.2.2) fun c=>oB (s_MatchOf_m N a.1 a.2.1 a.2.2.1 a.2.2.2.1 a.2.2.2.2.1 a.2.2.2.2.2.1 a.2.2.2.2.2.2.1 a.2.2.2.2.2.2.2.1 a.2.2.2.2.2.2.2.2.1 a.2.2.2.2.2.2.2.2.2) fun h=>oB (l_foInts_m N c h) fun A=>bif !A then oB (s_MatchOf_m N a.1 a.2.1 a.2.2.1 a.2.2.2.1 a.2.2.2.2.1 a.2.2.2.2.2.1 a.2.2.2.2.2.2.1 a.2.2.2.2.2.2.2.1 a.2.2.2.2.2.2.2.2.1 a.2.2.2.2.2.2.2.2.2) fun p=>(oB (l_foInts_m N c p) fun q=>some q)else oB (i_SegOk_m N a.1 a.2.1 a.2.2.1 a.2.2.2.1) fun z=>bif !z then oB (s_MatchOf_m N a.1 a.2.1 a.2.2.1 a.2.2.2.1 a.2.2.2.2.1 a.2.2.2.2.2.1 a.2.2.2.2.2.2.1 a.2.2.2.2.2.2.2.1 a.2.2.2.2.2.2.2.2.1 a.2.2.2.2.2.2.2.2.2) fun w=>(oB (l_foInts_m N c w) fun i=>some i)else oB (i_QueryOk_m N 7 ([]:List UInt8) ([]:List Z0) 0 0 ([(DQ.mk a.2.2.2.2.1 a.2.2.2.2.2.1 a.2.2.2.2.2.2.1 a.2.2.2.2.2.2.2.1 a.2.2.2.2.2.2.2.2.1 a.2.2.2.2.2.2.2.2.2),(DQ.mk b.2.2.2.2.1 b.2.2.2.2.2.1 b.2.2.2.2.2.2.1 b.2.2.2.2.2.2.2.1 b.2.2.2.2.2.2.2.2.1 b.2.2.2.2.2.2.2.2.2)]:List DQ)) fun x=>bif !x then oB (s_MatchOf_m N a.1 a.2.1 a.2.2.1 a.2.2.2.1 a.2.2.2.2.1 a.2.2.2.2.2.1 a.2.2.2.2.2.2.1 a.2.2.2.2.2.2.2.1 a.2.2.2.2.2.2.2.2.1 a.2.2.2.2.2.2.2.2.2) fun o=>(oB (l_foInts_m N c o) fun u=>some u)else oB (i_MatchOf_m N a.1 a.2.1 a.2.2.1 a.2.2.2.1 b.2.2.2.2.1 b.2.2.2.2.2.1 b.2.2.2.2.2.2.1 b.2.2.2.2.2.2.2.1 b.2.2.2.2.2.2.2.2.1 b.2.2.2.2.2.2.2.2.2) fun d=>oB (i_MatchOf_m N a.1 a.2.1 a.2.2.1 a.2.2.2.1 7 ([]:List UInt8) ([]:List Z0) 0 0 ([(DQ.mk a.2.2.2.2.1 a.2.2.2.2.2.1 a.2.2.2.2.2.2.1 a.2.2.2.2.2.2.2.1 a.2.2.2.2.2.2.2.2.1 a.2.2.2.2.2.2.2.2.2),(DQ.mk b.2.2.2.2.1 b.2.2.2.2.2.1 b.2.2.2.2.2.2.1 b.2.2.2.2.2.2.2.1 b.2.2.2.2.2.2.2.2.1 b.2.2.2.2.2.2.2.2.2)]:List DQ)) fun y=>oB (i_SetAnd_m N c d) fun l=>oB (l_foInts_m N y l) fun n=>bif n then oB (i_MatchOf_m N a.1 a.2.1 a.2.2.1 a.2.2.2.1 8 ([]:List UInt8) ([]:List Z0) 0 0 ([(DQ.mk a.2.2.2.2.1 a.2.2.2.2.2.1 a.2.2.2.2.2.2.1 a.2.2.2.2.2.2.2.1 a.2.2.2.2.2.2.2.2.1 a.2.2.2.2.2.2.2.2.2),(DQ.mk b.2.2.2.2.1 b.2.2.2.2.2.1 b.2.2.2.2.2.2.1 b.2.2.2.2.2.2.2.1 b.2.2.2.2.2.2.2.2.1 b.2.2.2.2.2.2.2.2.2)]:List DQ)) fun r=>(oB (i_SetOr_m N c d) fun m=>oB (l_foInts_m N r m) fun t=>bif t then oB (i_MatchOf_m N a.1 a.2.1 a.2.2.1 a.2.2.2.1 9 ([]:List UInt8) ([]:List Z0) 0 0 ([(DQ.mk a.2.2.2.2.1 a.2.2.2.2.2.1 a.2.2.2.2.2.2.1 a.2.2.2.2.2.2.2.1 a.2.2.2.2.2.2.2.2.1 a.2.2.2.2.2.2.2.2.2),(DQ.mk b.2.2.2.2.1 b.2.2.2.2.2.1 b.2.2.2.2.2.2.1 b.2.2.2.2.2.2.2.1 b.2.2.2.2.2.2.2.2.1 b.2.2.2.2.2.2.2.2.2)]:List DQ)) fun j=>(oB (i_SetLess_m N c d) fun k=>oB (l_foInts_m N j k) fun v=>some v)else some false)else some false)
def jR5 (N:Nat):Model:=⟨⟨[.pv (.sl (.int .u8)),.pv (.sl (.int .u8))],[]⟩,⟨[pB],[]⟩,c2A (l_FnMatchSets_m N)⟩
theorem jSo :mK 7 (jR5 N):=
 mO (fC (jSk N) (fC (jEl N) (fC (jEs N) (fC (jQS N) (fC (joa N) (fC (jCN N) (fC (jSe N) (fC (jSb N) (fC (jSh N) ja))))))))) func7 rfl N .no (jR5 N)
end Go.Proofs.YtchgdmmcjgmfcaaGreatDoor
