/- SlLaysF0.n6 at this program, by name. -/
import Derived.Test.YtcinmmojlcchfaaGreatDoorKTab
import Derived.Test.YtcinmmojlcchfaaGreatDoorKZ
import Derived.Deep.RegionHeld3
import Derived.KernelRfl
set_option linter.unusedSimpArgs false
set_option linter.unusedVariables false
namespace Go.Proofs.YtcinmmojlcchfaaGreatDoor
open Go.RowKit Go.Shelf
def jW0 :Ren where
 f:=fun x=>match x with
  |6=>123
  |15=>203
  |14=>202
  |28=>255
  |29=>256
  |20=>247
  |21=>248
  |22=>249
  |23=>250
  |24=>251
  |25=>252
  |26=>253
  |27=>254
  |46=>307
  |47=>308
  |48=>309
  |49=>310
  |50=>311
  |57=>337
  |n=>n
 t:=fun x=>match x with
  |22=>28
  |24=>167
  |25=>170
  |3=>3
  |39=>200
  |0=>0
  |53=>199
  |55=>271
  |4=>4
  |46=>279
  |45=>278
  |50=>283
  |5=>5
  |9=>9
  |66=>318
  |70=>322
  |76=>354
  |77=>355
  |n=>n
 g:=fun n=>n
set_option maxRecDepth 100000 in
theorem jWZ :SlLaysF0.n6 Tryz.prog jW0 where
 mixed:=by kernel_rfl
 f6:=Exists.intro "slices.SortFunc[[]loop.example/fossick/impl.Entry,loop.example/fossick/impl.Entry]" ⟨by decide,(Tryz.func123).trans (congrArg some (by kernel_rfl))⟩
 f14:=Exists.intro "slices.pdqsortCmpFunc[loop.example/fossick/impl.Entry]" ⟨by decide,(Tryz.func202).trans (congrArg some (by kernel_rfl))⟩
 f15:=(Tryz.func203).trans (congrArg some (by kernel_rfl))
 f20:=Exists.intro "slices.insertionSortCmpFunc[loop.example/fossick/impl.Entry]" ⟨by decide,(Tryz.func247).trans (congrArg some (by kernel_rfl))⟩
 f21:=Exists.intro "slices.heapSortCmpFunc[loop.example/fossick/impl.Entry]" ⟨by decide,(Tryz.func248).trans (congrArg some (by kernel_rfl))⟩
 f22:=Exists.intro "slices.breakPatternsCmpFunc[loop.example/fossick/impl.Entry]" ⟨by decide,(Tryz.func249).trans (congrArg some (by kernel_rfl))⟩
 f23:=Exists.intro "slices.choosePivotCmpFunc[loop.example/fossick/impl.Entry]" ⟨by decide,(Tryz.func250).trans (congrArg some (by kernel_rfl))⟩
 f24:=Exists.intro "slices.reverseRangeCmpFunc[loop.example/fossick/impl.Entry]" ⟨by decide,(Tryz.func251).trans (congrArg some (by kernel_rfl))⟩
 f25:=Exists.intro "slices.partialInsertionSortCmpFunc[loop.example/fossick/impl.Entry]" ⟨by decide,(Tryz.func252).trans (congrArg some (by kernel_rfl))⟩
 f26:=Exists.intro "slices.partitionEqualCmpFunc[loop.example/fossick/impl.Entry]" ⟨by decide,(Tryz.func253).trans (congrArg some (by kernel_rfl))⟩
 f27:=Exists.intro "slices.partitionCmpFunc[loop.example/fossick/impl.Entry]" ⟨by decide,(Tryz.func254).trans (congrArg some (by kernel_rfl))⟩
 f28:=(Tryz.func255).trans (congrArg some (by kernel_rfl))
 f29:=(Tryz.func256).trans (congrArg some (by kernel_rfl))
 f46:=Exists.intro "slices.siftDownCmpFunc[loop.example/fossick/impl.Entry]" ⟨by decide,(Tryz.func307).trans (congrArg some (by kernel_rfl))⟩
 f47:=(Tryz.func308).trans (congrArg some (by kernel_rfl))
 f48:=(Tryz.func309).trans (congrArg some (by kernel_rfl))
 f49:=Exists.intro "slices.medianAdjacentCmpFunc[loop.example/fossick/impl.Entry]" ⟨by decide,(Tryz.func310).trans (congrArg some (by kernel_rfl))⟩
 f50:=Exists.intro "slices.medianCmpFunc[loop.example/fossick/impl.Entry]" ⟨by decide,(Tryz.func311).trans (congrArg some (by kernel_rfl))⟩
 f57:=Exists.intro "slices.order2CmpFunc[loop.example/fossick/impl.Entry]" ⟨by decide,(Tryz.func337).trans (congrArg some (by kernel_rfl))⟩
 t0:=Tryz.underlying0
 a0:=Tryz.isAgg0
 z0:=Tryz.sizeOf0
 v0:=Tryz.zeroValue0
 t3:=Tryz.underlying3
 a3:=Tryz.isAgg3
 z3:=Tryz.sizeOf3
 v3:=Tryz.zeroValue3
 t4:=Tryz.underlying4
 a4:=Tryz.isAgg4
 z4:=Tryz.sizeOf4
 v4:=Tryz.zeroValue4
 t5:=Tryz.underlying5
 a5:=Tryz.isAgg5
 z5:=Tryz.sizeOf5
 v5:=Tryz.zeroValue5
 t9:=Tryz.underlying9
 a9:=Tryz.isAgg9
 z9:=Tryz.sizeOf9
 v9:=Tryz.zeroValue9
 t22:=Tryz.underlying28
 a22:=Tryz.isAgg28
 z22:=Tryz.sizeOf28
 v22:=Tryz.zeroValue28
 t25:=Tryz.underlying170
 a25:=Tryz.isAgg170
 z25:=Tryz.sizeOf170
 v25:=Tryz.zeroValue170
 t39:=Tryz.underlying200
 a39:=Tryz.isAgg200
 z39:=Tryz.sizeOf200
 v39:=Tryz.zeroValue200
 t45:=Tryz.underlying278
 a45:=Tryz.isAgg278
 z45:=Tryz.sizeOf278
 v45:=Tryz.zeroValue278
 t46:=Tryz.underlying279
 a46:=Tryz.isAgg279
 z46:=Tryz.sizeOf279
 v46:=Tryz.zeroValue279
 t50:=Tryz.underlying283
 a50:=Tryz.isAgg283
 z50:=Tryz.sizeOf283
 v50:=Tryz.zeroValue283
 t53:=Tryz.underlying199
 a53:=Tryz.isAgg199
 z53:=Tryz.sizeOf199
 v53:=Tryz.zeroValue199
 t55:=Tryz.underlying271
 a55:=Tryz.isAgg271
 z55:=Tryz.sizeOf271
 v55:=Tryz.zeroValue271
 t66:=Tryz.underlying318
 a66:=Tryz.isAgg318
 z66:=Tryz.sizeOf318
 v66:=Tryz.zeroValue318
 t70:=Tryz.underlying322
 a70:=Tryz.isAgg322
 z70:=Tryz.sizeOf322
 v70:=Tryz.zeroValue322
 t76:=Tryz.underlying354
 a76:=Tryz.isAgg354
 z76:=Tryz.sizeOf354
 v76:=Tryz.zeroValue354
 t77:=Tryz.underlying355
 a77:=Tryz.isAgg355
 z77:=Tryz.sizeOf355
 v77:=Tryz.zeroValue355
theorem jWR :∀(x y:List UInt8),(Op.bytesLess x y||decide (x=y))= !Op.bytesLess y x
 | [],[]=>by simp[Op.bytesLess]
 |_::_,[]=>by simp[Op.bytesLess]
 | [],_::_=>by simp[Op.bytesLess]
 |a::x,b::y=>by
  have ih:=jWR x y
  simp only[Op.bytesLess]
  rcases zbl a.toNat b.toNat with h|h|h
  .have h1:a<b:=UInt8.lt_iff_toNat_lt.2 h
   have h2:¬b<a:=fun e=>by have:=UInt8.lt_iff_toNat_lt.1 e;omega
   have h3:¬b=a:=fun e=>by rw[e]at h;omega
   simp[h1,h2,h3]
  .have h1:a=b:=UInt8.toNat_inj.1 h
   subst h1
   have h2:¬a<a:=fun e=>by have:=UInt8.lt_iff_toNat_lt.1 e;omega
   simpa[h2]using ih
  .have h1:b<a:=UInt8.lt_iff_toNat_lt.2 h
   have h2:¬a<b:=fun e=>by have:=UInt8.lt_iff_toNat_lt.1 e;omega
   have h3:¬a=b:=fun e=>by rw[e]at h;omega
   simp[h1,h2,h3]
theorem jWP (x:List UInt8):Op.bytesLess x x=false:=by
 have:=jWR x x
 cases h:Op.bytesLess x x with
 |false=>rfl
 |true=>rw[h]at this;cases this
theorem jWU {x y:List UInt8} (h:Op.bytesLess x y=false) (hne:x≠y):Op.bytesLess y x=true:=by
 have:=jWR x y
 rw[h,zd hne]at this
 cases hh:Op.bytesLess y x with
 |true=>rfl
 |false=>rw[hh]at this;cases this
theorem jWT :∀ {x y z:List UInt8},Op.bytesLess x y=true->Op.bytesLess y z=true->Op.bytesLess x z=true
 | [],[],_,h,_=>by simp[Op.bytesLess]at h
 |_::_,[],_,h,_=>by simp[Op.bytesLess]at h
 | [],_::_,[],_,h=>by simp[Op.bytesLess]at h
 | [],_::_,_::_,_,_=>by simp[Op.bytesLess]
 |_::_,_::_,[],_,h=>by simp[Op.bytesLess]at h
 |a::x,b::y,c::z,h1,h2=>by
  simp only[Op.bytesLess]at h1 h2⊢
  have ih:= @jWT x y z
  simp only[za1,zj,zw,beq_iff_eq,UInt8.lt_iff_toNat_lt]at h1 h2⊢
  rcases h1 with h1|⟨e1,h1⟩<;>rcases h2 with h2|⟨e2,h2⟩
  .exact .inl (by omega)
  .exact .inl (by rw[<-e2];exact h1)
  .exact .inl (by rw[e1];exact h2)
  .exact .inr ⟨e1.trans e2,ih h1 h2⟩
def cmpS (x y:List UInt8):Int:=if Op.bytesLess x y=true then-1 else if Op.bytesLess y x=true then 1 else 0
def orI (a b:Int):Int:=if a=0 then b else a
def cfE (a b:EK):Int:=orI (cmpS a.1 b.1) (cmpS a.2 b.2)
def ltS (a b:EK):Bool:=Op.bytesLess a.1 b.1||(decide (a.1=b.1)&&Op.bytesLess a.2 b.2)
theorem jWS (a b:EK):ltOf cfE a b=ltS a b:=by
 unfold ltOf cfE orI cmpS ltS
 cases h1:Op.bytesLess a.1 b.1
 .cases h2:Op.bytesLess b.1 a.1
  .have he:a.1=b.1:=by
    have:=jWR a.1 b.1
    rw[h1,h2]at this
    simpa using this
   cases h3:Op.bytesLess a.2 b.2
   .cases h4:Op.bytesLess b.2 a.2<;>simp[he]
   .simp [he]
  .have he:a.1≠b.1:=by
    rintro e
    rw[e,jWP]at h2
    cases h2
   simp[he]
 .simp
theorem jXf (a:EK):ltS a a=false:=by unfold ltS;rw[jWP,jWP,Bool.and_false];rfl
theorem jWW {a b c:EK} (h:ltS a b=true) (k:ltS b c=true):ltS a c=true:=by
 unfold ltS at h k⊢
 simp only[za1,zj,zw]at h k⊢
 rcases h with h|⟨h1,h2⟩<;>rcases k with k|⟨k1,k2⟩
 .exact .inl (jWT h k)
 .exact .inl (by rw[<-k1];exact h)
 .exact .inl (by rw[h1];exact k)
 .exact .inr ⟨h1.trans k1,jWT h2 k2⟩
theorem jW4 {a b:EK} (h:ltS a b=false) (hne:a≠b):ltS b a=true:=by
 unfold ltS at h⊢
 rw[Bool.or_eq_false_iff]at h
 rw[za1]
 by_cases e:a.1=b.1
 .refine .inr ?_
  rw[zb e,zaj]at h
  rw[zb e.symm,zaj]
  exact jWU h.2 fun e2=>hne (Prod.ext e e2)
 .exact .inl (jWU h.1 e)
theorem jWN :Go.Sort.SWO (ltOf cfE) where
 irrefl x:=by rw[jWS];exact jXf x
 trans x y z h1 h2:=by rw[jWS]at*;exact jWW h1 h2
 ntrans x y z h1 h2:=by
  rw[jWS]at*
  cases h3:ltS x z with
  |false=>rfl
  |true=>
   by_cases e:x=y
   .rw [e,h2]at h3;cases h3
   .have:=jWW (jW4 h1 e) h3
    rw[h2]at this;cases this
theorem jWM (a:List UInt8):(bytes a).toList=a:=by rw[ByteArray.toList_eq];rfl
set_option maxHeartbeats 400000 in
theorem jXj (a:ByteArray) (w:World):
  Calls Tryz.prog 204 #[.string a] w fun e w'=>e= .returned (.bool false)/\w=w':=by
 go_enter Tryz.func204,Tryz.ntmps204
 go_wp2
 go_ret
 exact⟨by simp,rfl⟩
set_option maxHeartbeats 400000 in
theorem jXi (a b:List UInt8) (r:Int) (hr:r=cmpS a b) (w:World):
  Calls Tryz.prog 126 #[.string (bytes a),.string (bytes b)] w fun e w'=>e= .returned (.int .i64 r)/\w=w':=by
 have HR:=Lib.hid hr
 clear hr
 go_enter Tryz.func126,Tryz.ntmps126
 go_wp2_with (go_at_call 204;refine(jXj _ _).mono ?_;rintro e w' ⟨rfl,rfl⟩)
 .rename_i h
  rw[jWM,jWM]at h
  go_ret
  exact⟨ret_int (by rw[HR.out,cmpS,zf h]),rfl⟩
 .rename_i h1 K hK h2
  rw[jWM,jWM]at h1 h2
  have hne:a≠b:=fun e=>by rw[e]at h2;simp at h2
  go_ret
  exact⟨ret_int (by rw[HR.out,cmpS,zu (by rw[h1];decide),zf (jWU h1 hne)]),rfl⟩
 .rename_i h1 h2
  rw[jWM,jWM]at h1 h2
  have he:a=b:=by simpa using h2
  go_ret
  exact⟨ret_int (by rw[HR.out,cmpS,zu (by rw[h1];decide),zu (by rw[<-he,jWP];decide)]),rfl⟩
set_option maxHeartbeats 400000 in
theorem jXl (a b:Int) (k c:Nat) (r:Int) (hr:r=orI a b) (w:World) (h0:w.cell? ⟨k,0,none⟩=some (.int .i64 a)) (h1:w.cell? ⟨k,1,none⟩=some (.int .i64 b)):
  Calls Tryz.prog 125 #[.slice (some ⟨k,0,none⟩) 2 c] w fun e w'=>e= .returned (.int .i64 r)/\w=w':=by
 have HR:=Lib.hid hr
 clear hr
 by_cases ha:a=0
 .by_cases hb:b=0
  .have da:(a !=0)=false:=by simp[ha]
   have db:(b !=0)=false:=by simp[hb]
   have H:Hid (r=0):=by show r=0;rw[HR.out,orI,zf ha,hb]
   clear ha hb
   go_enter Tryz.func125,Tryz.ntmps125
   go_wp2
   go_rounds 3
   all_goals(go_ret;exact⟨ret_int H.out.symm,rfl⟩)
  .have da:(a !=0)=false:=by simp[ha]
   have db:(b !=0)=true:=by simp[hb]
   have H:Hid (r=b):=by show r=b;rw[HR.out,orI,zf ha]
   clear ha hb
   go_enter Tryz.func125,Tryz.ntmps125
   go_wp2
   go_rounds 3
   all_goals(go_ret;exact⟨ret_int H.out.symm,rfl⟩)
 .have da:(a !=0)=true:=by simp[ha]
  have H:Hid (r=a):=by show r=a;rw[HR.out,orI,zu ha]
  clear ha
  go_enter Tryz.func125,Tryz.ntmps125
  go_wp2
  go_rounds 3
  all_goals(go_ret;exact⟨ret_int H.out.symm,rfl⟩)
set_option maxHeartbeats 400000 in
theorem jXg (f0 t0 f1 t1:List UInt8) (u v:Value) (r:Int) (hr:r=cfE (f0,t0) (f1,t1)) (w:World):
  Calls Tryz.prog 124 #[.agg #[.string (bytes f0),.string (bytes t0),u],.agg #[.string (bytes f1),.string (bytes t1),v]] w fun e w'=>e= .returned (.int .i64 r)/\∃q os',w'=Go.Sort.grow (w.drewN q) os':=by
 have HR:=Lib.hid hr
 clear hr
 go_enter Tryz.func124,Tryz.ntmps124
 go_wp2
 go_region_held3 (fun w'=>w'.cell? ⟨w.heap.size,0,none⟩=some (.string (bytes f0))/\w'.cell? ⟨w.heap.size,1,none⟩=some (.string (bytes t0))/\w'.cell? ⟨w.heap.size+1,0,none⟩=some (.string (bytes f1))/\w'.cell? ⟨w.heap.size+1,1,none⟩=some (.string (bytes t1))) (go_keep) (first|(go_at_call 126;refine(jXi _ _ _ rfl _).mono ?_;rintro e w' ⟨rfl,rfl⟩)|(go_at_call 125;refine(jXl (cmpS f0 f1) (cmpS t0 t1) _ _ _ rfl _ (by go_simp) (by go_simp)).mono ?_;rintro e w' ⟨rfl,rfl⟩))
 go_wp2
 go_ret
 exact⟨ret_int (by rw[HR.out];rfl),1,_,by rw[Go.Sort.alloc_eq_grow,Go.Sort.alloc_eq_grow,Go.Sort.alloc_eq_grow,Go.Sort.grow_grow,Go.Sort.grow_grow];rfl⟩
set_option maxHeartbeats 400000 in
theorem jXa (w:World):Calls Tryz.prog 247 #[.slice none 0 0,.int .i64 0,.int .i64 0,.func (.func 124) #[] #[]] w fun e w'=>e= .returned (.tuple #[])/\Below w.heap.size w w':=by
 go_enter Tryz.func247,Tryz.ntmps247
 go_wp2
 go_rounds 1
 go_end0
 exact⟨rfl,Below.refl _ _⟩
set_option maxHeartbeats 400000 in
theorem jXd (l:Int) (w:World):Calls Tryz.prog 202 #[.slice none 0 0,.int .i64 0,.int .i64 0,.int .i64 l,.func (.func 124) #[] #[]] w fun e w'=>e= .returned (.tuple #[])/\Below w.heap.size w w':=by
 go_enter Tryz.func202,Tryz.ntmps202
 go_wp2
 refine wp_loop_rounds 1 ?_
 rw[rounds_succ]
 go_wp2_with (go_at_call 247;refine(jXa _).mono ?_;rintro e w' ⟨rfl,hw⟩)
 (try simp only[Exit.inBlock,Exit.then])
 refine bodyPost_ret (results_none rfl _ _ _) rfl ?_
 exact⟨rfl,hw⟩
theorem lenB (w:World):Calls Tryz.prog 203 #[.int .u64 0] w fun e w'=>e= .returned (.int .i64 (Lib.bitLen 0:Nat))/\w'=w:=by
 have h:=Any.bits_Len (SlLaysF0.n15.bits (P:=Tryz.prog) (ρ:=jW0) {jWZ with}) (0:Int) w (by omega) (by omega)
 exact h
set_option maxHeartbeats 400000 in
theorem jXe (w:World):Calls Tryz.prog 123 #[.slice none 0 0,.func (.func 124) #[] #[]] w fun e w'=>e= .returned (.tuple #[])/\Below w.heap.size w w':=by
 go_enter Tryz.func123,Tryz.ntmps123
 have wr:IntKind.u64.wrap (0:Int)=0:=by decide
 go_wp2_with (first|(go_at_call 203;refine(lenB _).mono ?_;rintro e w' ⟨rfl,rfl⟩)|(go_at_call 202;refine(jXd _ _).mono ?_;rintro e w' ⟨rfl,hw⟩))
 go_end0
 exact⟨rfl,hw⟩
open Classical in
noncomputable def jWO (xs:List (List UInt8×List UInt8×List (Int×List Int))):Option (List (List UInt8×List UInt8×List (Int×List Int))):=if xs.length<=1000000000 then sortE (.pair (.int .i64) (.sl (.int .i64))) cfE xs else none
theorem jW9 :ModelOk Tryz.prog 123 ⟨⟨[.tre 800000 (.pair .str (.pair .str (.sl (.pair (.int .i64) (.sl (.int .i64)))))) 167,.clo 124 []],[]⟩,⟨[.tup [],.tre 800000 (.pair .str (.pair .str (.sl (.pair (.int .i64) (.sl (.int .i64)))))) 167],[]⟩,fun a=>jWO a.1⟩:=by
 refine modelOk_sortTree (r:=.pair (.int .i64) (.sl (.int .i64))) ⟨_,Tryz.func123,by decide,by kernel_rfl⟩ _ cfE jWN (fun b cap d w hH hb hz=>?_) jXe jWO (fun xs ys h=>?_)
 .refine AnyQ.slices_SortFunc jWZ 3 Tryz.isAgg167 Tryz.sizeOf167 encE (fun _=>rfl) (fun x v hv=>?_) (fun x y:RawE=>cfE x.k y.k) ⟨fun x=>jWN.irrefl x.k,fun x y z=>jWN.trans x.k y.k z.k,fun x y z=>jWN.ntrans x.k y.k z.k⟩ 124 #[] b 0 cap d w (enters_of Tryz.func124 (by kernel_rfl) rfl) (fun m os dk hs x y=>?_) hH hb hz
  .have hv:v∈ [Value.string (bytes x.k.1),.string (bytes x.k.2),x.u]:=hv
   simp only[zp,List.mem_nil_iff,or_false]at hv
   rcases hv with rfl|rfl|rfl
   .rfl
   .rfl
   .exact x.one
  .exact jXg x.k.1 x.k.2 y.k.1 y.k.2 x.u y.u _ rfl _
 .unfold jWO at h
  split at h
  .exact ⟨‹_›,h⟩
  .cases h
end Go.Proofs.YtcinmmojlcchfaaGreatDoor
