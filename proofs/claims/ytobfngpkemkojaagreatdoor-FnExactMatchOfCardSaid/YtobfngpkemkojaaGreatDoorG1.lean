import Derived.Test.YtobfngpkemkojaaGreatDoorG1A
set_option linter.unusedVariables false
set_option linter.unusedSimpArgs false
namespace Go.Proofs.YtobfngpkemkojaaGreatDoor
open Go.RowKit
open Option renaming bind → oB
def jl0 : Sh := ⟨.pv (.int .u64) :: .dead :: pI :: dz 22 [], []⟩
def k_math_bits_Len64_m (N : Nat) (f : Int) : Z9 :=
 (meet (fun (a : Int × Int) => match a with | (d, c) => meet (fun (a : Int × Int) => match a with | (b, e) => meet (fun (a : Int × Int) => match a with | (m, i) => oB (idx ([0, 1, 2, 2, 3, 3, 3, 3, 4, 4, 4, 4, 4, 4, 4, 4, 5, 5, 5, 5, 5, 5, 5, 5, 5, 5, 5, 5, 5, 5, 5, 5, 6, 6, 6, 6, 6, 6, 6, 6, 6, 6, 6, 6, 6, 6, 6, 6, 6, 6, 6, 6, 6, 6, 6, 6, 6, 6, 6, 6, 6, 6, 6, 6, 7, 7, 7, 7, 7, 7, 7, 7, 7, 7, 7, 7, 7, 7, 7, 7, 7, 7, 7, 7, 7, 7, 7, 7, 7, 7, 7, 7, 7, 7, 7, 7, 7, 7, 7, 7, 7, 7, 7, 7, 7, 7, 7, 7, 7, 7, 7, 7, 7, 7, 7, 7, 7, 7, 7, 7, 7, 7, 7, 7, 7, 7, 7, 7, 8, 8, 8, 8, 8, 8, 8, 8, 8, 8, 8, 8, 8, 8, 8, 8, 8, 8, 8, 8, 8, 8, 8, 8, 8, 8, 8, 8, 8, 8, 8, 8, 8, 8, 8, 8, 8, 8, 8, 8, 8, 8, 8, 8, 8, 8, 8, 8, 8, 8, 8, 8, 8, 8, 8, 8, 8, 8, 8, 8, 8, 8, 8, 8, 8, 8, 8, 8, 8, 8, 8, 8, 8, 8, 8, 8, 8, 8, 8, 8, 8, 8, 8, 8, 8, 8, 8, 8, 8, 8, 8, 8, 8, 8, 8, 8, 8, 8, 8, 8, 8, 8, 8, 8, 8, 8, 8, 8, 8, 8, 8, 8, 8, 8, 8, 8, 8, 8, 8, 8, 8, 8, 8, 8, 8, 8, 8, 8] : List UInt8) (IntKind.u8.wrap m)) fun k => if fits (i + (IntKind.i64.wrap (k.toNat : Int))) then some (i + (IntKind.i64.wrap (k.toNat : Int))) else none) fun l => bif decide ((256 : Int) ≤ b) then if 0 ≤ (8 : Int) then if fits (e + 8) then l ((b.fdiv (2 ^ (min (8 : Int).toNat (IntKind.bits .u64)))), (e + 8)) else none else none else l (b, e)) fun h => bif decide ((65536 : Int) ≤ d) then if 0 ≤ (16 : Int) then if fits (c + 16) then h ((d.fdiv (2 ^ (min (16 : Int).toNat (IntKind.bits .u64)))), (c + 16)) else none else none else h (d, c)) fun j => bif decide ((4294967296 : Int) ≤ f) then if 0 ≤ (32 : Int) then j ((f.fdiv (2 ^ (min (32 : Int).toNat (IntKind.bits .u64)))), 32) else none else j (f, 0))
theorem jrK (N : Nat) : mK 231 ⟨⟨[.pv (.int .u64)], []⟩, ⟨[pI], []⟩, c1A (k_math_bits_Len64_m N)⟩ :=
 mO ja Tryz.func231 rfl N (.seq .no (.meet jl0 .no (.meet jl0 .no (.meet jl0 .no .no)))) _
def k_math_bits_Len_m (N : Nat) (a : Int) : Z9 :=
 (oB (k_math_bits_Len64_m N a) fun b => some b)
theorem jda (N : Nat) : mK 176 ⟨⟨[.pv (.int .u64)], []⟩, ⟨[pI], []⟩, c1A (k_math_bits_Len_m N)⟩ :=
 mO (fC (jrK N) ja) Tryz.func176 rfl N .no _
def jbn (N : Nat) (a : List UInt8) : Z6 :=
 (some (!decide (a = a)))
theorem jkt (N : Nat) : mK 209 ⟨⟨[pS], []⟩, ⟨[pB], []⟩, c1A (jbn N)⟩ :=
 mO ja Tryz.func209 rfl N .no _
def jam (N : Nat) (a : List UInt8) (b : List UInt8) : Z9 :=
 (oB (jbn N a) fun d => oB (jbn N b) fun c => bif d then bif c then some 0 else (some (-1)) else bif c then some 1 else bif Op.bytesLess a b then some (-1) else bif !(Op.bytesLess a b || decide (a = b)) then some 1 else some 0)
theorem ji2 (N : Nat) : mK 161 ⟨⟨[pS, pS], []⟩, ⟨[pI], []⟩, c2A (jam N)⟩ :=
 mO (fC (jkt N) ja) Tryz.func161 rfl N .no _
def jlp : Sh := ⟨dz 3 (pI :: .dead :: .dead :: .pv Y20 :: pI :: pI :: dz 9 []), []⟩
def jbe (N : Nat) (c : List Int) : Z9 :=
 (iter (fun i (b, e, d, a) => bif decide (a < d) then oB (idx e a) fun f => (bif !decide (f = b) then some f else if fits (a + 1) then i (b, e, d, (a + 1)) else none) else some b) N ((0 : Int), c, (c.length : Int), (0 : Int)))
theorem jhC (N : Nat) : mK 122 ⟨⟨[.pv Y20], []⟩, ⟨[pI], []⟩, c1A (jbe N)⟩ :=
 mO ja Tryz.func122 rfl N (.seq .no (.seq .no (.seq (.seq .no (.block (.loop jlp .no))) .no))) _
def je (N : Nat) (h : List UInt8) (c : List UInt8) (j : Z3) (a : List UInt8) (b : List UInt8) (i : Z3) : Z9 :=
 (oB (jam N h a) fun f => oB (jam N c b) fun e => oB (jbe N ([f, e] : List Int)) fun d => some d)
theorem jaf (N : Nat) : mK 160 ⟨⟨[.agg [pS, pS, .pv Y11], .agg [pS, pS, .pv Y11]], []⟩, ⟨[pI], []⟩, c6A (je N)⟩ :=
 mO (fC (ji2 N) (fC (jhC N) ja)) Tryz.func160 rfl N .no _
def k_slices_nextPowerOfTwo_m (N : Nat) (b : Int) : Z9 :=
 (oB (k_math_bits_Len_m N (IntKind.u64.wrap b)) fun a => if 0 ≤ a then some (IntKind.u64.wrap ((1 : Int) * 2 ^ (min a.toNat (IntKind.bits .u64)))) else none)
theorem jhv (N : Nat) : mK 255 ⟨⟨[pI], []⟩, ⟨[.pv (.int .u64)], []⟩, c1A (k_slices_nextPowerOfTwo_m N)⟩ :=
 mO (fC (jda N) ja) Tryz.func255 rfl N .no _
def k__slices_xorshift_Next_m (N : Nat) (a : Int) : Option (Int × Int) :=
 (if 0 ≤ (13 : Int) then if 0 ≤ (7 : Int) then if 0 ≤ (17 : Int) then some ((bitsI .xor .u64 (bitsI .xor .u64 (bitsI .xor .u64 a (IntKind.u64.wrap (a * 2 ^ (min (13 : Int).toNat (IntKind.bits .u64))))) ((bitsI .xor .u64 a (IntKind.u64.wrap (a * 2 ^ (min (13 : Int).toNat (IntKind.bits .u64))))).fdiv (2 ^ (min (7 : Int).toNat (IntKind.bits .u64))))) (IntKind.u64.wrap ((bitsI .xor .u64 (bitsI .xor .u64 a (IntKind.u64.wrap (a * 2 ^ (min (13 : Int).toNat (IntKind.bits .u64))))) ((bitsI .xor .u64 a (IntKind.u64.wrap (a * 2 ^ (min (13 : Int).toNat (IntKind.bits .u64))))).fdiv (2 ^ (min (7 : Int).toNat (IntKind.bits .u64))))) * 2 ^ (min (17 : Int).toNat (IntKind.bits .u64))))), (bitsI .xor .u64 (bitsI .xor .u64 (bitsI .xor .u64 a (IntKind.u64.wrap (a * 2 ^ (min (13 : Int).toNat (IntKind.bits .u64))))) ((bitsI .xor .u64 a (IntKind.u64.wrap (a * 2 ^ (min (13 : Int).toNat (IntKind.bits .u64))))).fdiv (2 ^ (min (7 : Int).toNat (IntKind.bits .u64))))) (IntKind.u64.wrap ((bitsI .xor .u64 (bitsI .xor .u64 a (IntKind.u64.wrap (a * 2 ^ (min (13 : Int).toNat (IntKind.bits .u64))))) ((bitsI .xor .u64 a (IntKind.u64.wrap (a * 2 ^ (min (13 : Int).toNat (IntKind.bits .u64))))).fdiv (2 ^ (min (7 : Int).toNat (IntKind.bits .u64))))) * 2 ^ (min (17 : Int).toNat (IntKind.bits .u64)))))) else none else none else none)
theorem jet (N : Nat) : mK 256 ⟨⟨[.box 900000 0], [(900000, false, [.pv (.int .u64)])]⟩, ⟨[.pv (.int .u64)], [(900000, false, [.pv (.int .u64)])]⟩, c1A (k__slices_xorshift_Next_m N)⟩ :=
 mO ja Tryz.func256 rfl N .no _ (rs := [900000])
section
variable {α γ ρ : Type} (c : γ → α → α → Option Int)
def swpG (d : List α) (i j : Int) (k : List α → Option ρ) : Option ρ :=
 if 0 ≤ j ∧ j < (d.length : Int) then oB (d[j.toNat]?) fun e => if 0 ≤ i ∧ i < (d.length : Int) then oB (d[i.toNat]?) fun e2 =>
  if 0 ≤ i ∧ i < (d.length : Int) then oB (d[i.toNat]?) fun e3 => if 0 ≤ j ∧ j < ((d.set i.toNat e).length : Int) then oB ((d.set i.toNat e)[j.toNat]?) fun e4 => k ((d.set i.toNat e).set j.toNat e2)
  else none else none else none else none
def cmpG (ks : γ) (d : List α) (i j : Int) (k : Int → Option ρ) : Option ρ :=
 if 0 ≤ i ∧ i < (d.length : Int) then oB (d[i.toNat]?) fun e => if 0 ≤ j ∧ j < (d.length : Int) then oB (d[j.toNat]?) fun e2 => oB (c ks e e2) k else none else none
def cmpP (ks : γ) (d : List α) (j : Int) (k : Int → Option ρ) : Option ρ :=
 if 0 ≤ j ∧ j < (d.length : Int) then oB (d[j.toNat]?) fun e => if fits (j - 1) then if 0 ≤ (j - 1) ∧ (j - 1) < (d.length : Int) then oB (d[(j - 1).toNat]?) fun e2 => oB (c ks e e2) k else none else none else none
def swpP (d : List α) (j : Int) (k : List α → Option ρ) : Option ρ := if fits (j - 1) then if fits (j - 1) then swpG d j (j - 1) k else none else none
def insG (N : Nat) (d : List α) (a b : Int) (ks : γ) : Option (List α) :=
 if fits (a + 1) then iter (fun go (g : List α × Int × Int × γ × Int) =>
  match g with
  | (d2, a2, b2, ks2, i) =>
  bif decide (i < b2) then
   iter (fun go2 (g : List α × Int × Int × γ × Int × Int) =>
    match g with
    | (d3, a3, b3, ks3, i2, j) =>
    bif decide (a3 < j) then cmpP c ks3 d3 j fun r => bif decide (r < 0) then swpP d3 j fun d => if fits (j - 1) then go2 (d, a3, b3, ks3, i2, j - 1) else none
     else if fits (i2 + 1) then go (d3, a3, b3, ks3, i2 + 1) else none
    else if fits (i2 + 1) then go (d3, a3, b3, ks3, i2 + 1) else none) N (d2, a2, b2, ks2, i, i)
  else some d2) N (d, a, b, ks, a + 1) else none
def siftG (N : Nat) (data : List α) (lo : Int) (hi : Int) (first : Int) (cmp : γ) : Option ((List α)) :=
 (iter (fun go (g : (List α) × Int × Int × γ × Int) => 
   match g with
   | (data2, hi2, first2, cmp2, root) =>
   (if fits (2 * root) then (if fits ((2 * root) + 1) then (bif (decide (hi2 ≤ ((2 * root) + 1))) then
      (some data2)
      else
      (meet (fun (g : (List α) × Int × Int × γ × Int × Int) => 
        match g with
        | (data3, hi3, first3, cmp3, root2, child) =>
        (if fits (first3 + root2) then (if 0 ≤ (first3 + root2) ∧ (first3 + root2) < (data3.length : Int) then
          (oB (data3[(first3 + root2).toNat]?) fun e3 =>
           (if fits (first3 + child) then (if 0 ≤ (first3 + child) ∧ (first3 + child) < (data3.length : Int) then
             (oB (data3[(first3 + child).toNat]?) fun e4 =>
              (oB (c cmp3 e3 e4) fun r2 =>
               (bif (!(decide (r2 < 0))) then
                (some data3)
                else
                (if fits (first3 + root2) then (if fits (first3 + child) then (if fits (first3 + child) then (if 0 ≤ (first3 + child) ∧ (first3 + child) < (data3.length : Int) then
                    (oB (data3[(first3 + child).toNat]?) fun e5 =>
                     (if fits (first3 + root2) then (if 0 ≤ (first3 + root2) ∧ (first3 + root2) < (data3.length : Int) then
                       (oB (data3[(first3 + root2).toNat]?) fun e6 =>
                        (if 0 ≤ (first3 + root2) ∧ (first3 + root2) < (data3.length : Int) then
                         (oB (data3[(first3 + root2).toNat]?) fun e7 =>
                          (if 0 ≤ (first3 + child) ∧ (first3 + child) < ((data3.set (first3 + root2).toNat e5).length : Int) then
                           (oB ((data3.set (first3 + root2).toNat e5)[(first3 + child).toNat]?) fun e8 =>
                            (go (((data3.set (first3 + root2).toNat e5).set (first3 + child).toNat e6), hi3, first3, cmp3, child)))
                           else none))
                         else none))
                       else none) else none))
                    else none) else none) else none) else none))))
             else none) else none))
          else none) else none)) fun J =>
       (if fits (((2 * root) + 1) + 1) then (bif (decide ((((2 * root) + 1) + 1) < hi2)) then
         (if fits (first2 + ((2 * root) + 1)) then (if 0 ≤ (first2 + ((2 * root) + 1)) ∧ (first2 + ((2 * root) + 1)) < (data2.length : Int) then
           (oB (data2[(first2 + ((2 * root) + 1)).toNat]?) fun e =>
            (if fits (first2 + ((2 * root) + 1)) then (if fits ((first2 + ((2 * root) + 1)) + 1) then (if 0 ≤ ((first2 + ((2 * root) + 1)) + 1) ∧ ((first2 + ((2 * root) + 1)) + 1) < (data2.length : Int) then
               (oB (data2[((first2 + ((2 * root) + 1)) + 1).toNat]?) fun e2 =>
                (oB (c cmp2 e e2) fun r =>
                 (bif (decide (r < 0)) then
                  (if fits (((2 * root) + 1) + 1) then (J (data2, hi2, first2, cmp2, root, (((2 * root) + 1) + 1))) else none)
                  else
                  (J (data2, hi2, first2, cmp2, root, ((2 * root) + 1))))))
               else none) else none) else none))
           else none) else none)
         else
         (J (data2, hi2, first2, cmp2, root, ((2 * root) + 1)))) else none))) else none) else none)) N (data, hi, first, cmp, lo))
def heapG (N : Nat) (data : List α) (a : Int) (b : Int) (cmp : γ) : Option ((List α)) :=
 (if fits (b - a) then (if fits ((b - a) - 1) then (if 2 ≠ 0 then
    (if fits (((b - a) - 1).tdiv 2) then (iter (fun go (g : (List α) × γ × Int × Int × Int × Int) => 
       match g with
       | (data2, cmp2, first, lo, hi, i) =>
       (bif (decide ((0 : Int) ≤ i)) then
        (oB (siftG c N data2 i hi first cmp2) fun r =>
         (if fits (i - 1) then (go (r, cmp2, first, lo, hi, (i - 1))) else none))
        else
        (if fits (hi - 1) then (iter (fun go2 (g : (List α) × γ × Int × Int × Int) => 
           match g with
           | (data3, cmp3, first2, lo2, i2) =>
           (bif (decide ((0 : Int) ≤ i2)) then
            (if fits (first2 + i2) then (if fits (first2 + i2) then swpG data3 first2 (first2 + i2) fun d => (oB (siftG c N d lo2 i2 first2 cmp3) fun r2 =>
                       (if fits (i2 - 1) then (go2 (r2, cmp3, first2, lo2, (i2 - 1))) else none)) else none) else none)
            else
            (some data3))) N (data2, cmp2, first, lo, (hi - 1))) else none))) N (data, cmp, a, 0, (b - a), (((b - a) - 1).tdiv 2))) else none)
    else none) else none) else none)
def breakG (N : Nat) (data : List α) (a : Int) (b : Int) (cmp : γ) : Option (List α) :=
 (if fits (b - a) then (bif (decide ((8 : Int) ≤ (b - a))) then
   (oB (k_slices_nextPowerOfTwo_m N (b - a)) fun r =>
    (if 4 ≠ 0 then
     (if fits ((b - a).tdiv 4) then (if fits (((b - a).tdiv 4) * 2) then (if fits (a + (((b - a).tdiv 4) * 2)) then (if fits ((a + (((b - a).tdiv 4) * 2)) - 1) then (iter (fun go (g : (List α) × Int × Int × Int × Int × Int) => 
           match g with
           | (data2, a2, length, modulus, idx0, random) =>
           (if 4 ≠ 0 then
            (if fits (length.tdiv 4) then (if fits ((length.tdiv 4) * 2) then (if fits (a2 + ((length.tdiv 4) * 2)) then (if fits ((a2 + ((length.tdiv 4) * 2)) + 1) then (bif (decide (idx0 ≤ ((a2 + ((length.tdiv 4) * 2)) + 1))) then
                 (oB (k__slices_xorshift_Next_m N random) fun r2 =>
                  (meet (fun (g : (List α) × Int × Int × Int × Int × Int × Int) => 
                    match g with
                    | (data3, a3, length2, modulus2, idx02, other, random2) =>
                    (if fits (a3 + other) then (if fits (a3 + other) then swpG data3 idx02 (a3 + other) fun d => (if fits (idx02 + 1) then (go (d, a3, length2, modulus2, (idx02 + 1), random2)) else none) else none) else none)) fun J =>
                   (bif (decide (length ≤ (IntKind.i64.wrap (bitsI .and .u64 r2.1 (IntKind.u64.wrap (modulus - 1)))))) then
                    (if fits ((IntKind.i64.wrap (bitsI .and .u64 r2.1 (IntKind.u64.wrap (modulus - 1)))) - length) then (J (data2, a2, length, modulus, idx0, ((IntKind.i64.wrap (bitsI .and .u64 r2.1 (IntKind.u64.wrap (modulus - 1)))) - length), r2.2)) else none)
                    else
                    (J (data2, a2, length, modulus, idx0, (IntKind.i64.wrap (bitsI .and .u64 r2.1 (IntKind.u64.wrap (modulus - 1)))), r2.2)))))
                 else
                 (some data2)) else none) else none) else none) else none)
            else none)) N (data, a, (b - a), r, ((a + (((b - a).tdiv 4) * 2)) - 1), (IntKind.u64.wrap (b - a)))) else none) else none) else none) else none)
     else none))
   else
   (some data)) else none)
def order2G (N : Nat) (data : List α) (a : Int) (b : Int) (cmp : γ) (b2 : Int) : Option (Int × Int × (List α) × Int) :=
 cmpG c cmp data b a fun r => (bif (decide (r < 0)) then (if fits (b2 + 1) then (some (b, a, data, (b2 + 1))) else none) else (some (a, b, data, b2)))
def medianG (N : Nat) (data : List α) (a : Int) (b : Int) (c0 : Int) (cmp : γ) (b2 : Int) : Option (Int × (List α) × Int) :=
 (oB (order2G c N data a b cmp b2) fun r =>
  (oB (order2G c N r.2.2.1 r.2.1 c0 cmp r.2.2.2) fun r2 =>
   (oB (order2G c N r2.2.2.1 r.1 r2.1 cmp r2.2.2.2) fun r3 =>
    (some (r3.2.1, r3.2.2.1, r3.2.2.2)))))
def medianAdjacentG (N : Nat) (data : List α) (a : Int) (cmp : γ) (b : Int) : Option (Int × (List α) × Int) :=
 (if fits (a - 1) then (if fits (a + 1) then (oB (medianG c N data (a - 1) a (a + 1) cmp b) fun r =>
    (some (r.1, r.2.1, r.2.2))) else none) else none)
def choosePivotG (N : Nat) (data : List α) (a : Int) (b : Int) (cmp : γ) : Option (Int × Int × (List α)) :=
 (if fits (b - a) then (if 4 ≠ 0 then
   (if fits ((b - a).tdiv 4) then (if fits (((b - a).tdiv 4) * 1) then (if fits (a + (((b - a).tdiv 4) * 1)) then (if 4 ≠ 0 then
       (if fits ((b - a).tdiv 4) then (if fits (((b - a).tdiv 4) * 2) then (if fits (a + (((b - a).tdiv 4) * 2)) then (if 4 ≠ 0 then
           (if fits ((b - a).tdiv 4) then (if fits (((b - a).tdiv 4) * 3) then (if fits (a + (((b - a).tdiv 4) * 3)) then (meet (fun (g : (List α) × Int × Int) => 
                match g with
                | (data3, j2, swaps2) =>
                (bif (decide (swaps2 = 0)) then
                 (some (j2, 1, data3))
                 else
                 (bif (decide (swaps2 = 12)) then
                  (some (j2, 2, data3))
                  else
                  (some (j2, 0, data3))))) fun J =>
               (bif (decide ((8 : Int) ≤ (b - a))) then
                (meet (fun (g : (List α) × γ × Int × Int × Int × Int) => 
                  match g with
                  | (data2, cmp2, i, j, k, swaps) =>
                  (oB (medianG c N data2 i j k cmp2 swaps) fun r4 =>
                   (J (r4.2.1, r4.1, r4.2.2)))) fun J2 =>
                 (bif (decide ((50 : Int) ≤ (b - a))) then
                  (oB (medianAdjacentG c N data (a + (((b - a).tdiv 4) * 1)) cmp 0) fun r =>
                   (oB (medianAdjacentG c N r.2.1 (a + (((b - a).tdiv 4) * 2)) cmp r.2.2) fun r2 =>
                    (oB (medianAdjacentG c N r2.2.1 (a + (((b - a).tdiv 4) * 3)) cmp r2.2.2) fun r3 =>
                     (J2 (r3.2.1, cmp, r.1, r2.1, r3.1, r3.2.2)))))
                  else
                  (J2 (data, cmp, (a + (((b - a).tdiv 4) * 1)), (a + (((b - a).tdiv 4) * 2)), (a + (((b - a).tdiv 4) * 3)), 0))))
                else
                (J (data, (a + (((b - a).tdiv 4) * 2)), 0)))) else none) else none) else none)
           else none) else none) else none) else none)
       else none) else none) else none) else none)
   else none) else none)
def reverseRangeG (N : Nat) (data : List α) (a : Int) (b : Int) (cmp : γ) : Option ((List α)) :=
 (if fits (b - 1) then (iter (fun go (g : (List α) × Int × Int) => 
    match g with
    | (data2, i, j) =>
    (bif (decide (i < j)) then swpG data2 i j fun d => (if fits (i + 1) then (if fits (j - 1) then (go (d, (i + 1), (j - 1))) else none) else none)
     else
     (some data2))) N (data, a, (b - 1))) else none)
def shDown (k : (List α × Int × Int × γ × Int × Int) → Option ρ) (N : Nat) (g : List α × Int × Int × γ × Int × Int × Int) : Option ρ :=
 iter (fun go3 (g : (List α) × Int × Int × γ × Int × Int × Int) =>
  match g with
  | (d, a, b, ks, i, j, j4) =>
  bif decide ((1 : Int) ≤ j4) then cmpP c ks d j4 fun r => bif !decide (r < 0) then k (d, a, b, ks, i, j) else swpP d j4 fun d' => if fits (j4 - 1) then go3 (d', a, b, ks, i, j, j4 - 1) else none
  else k (d, a, b, ks, i, j)) N g
def shUp (k : (List α × Int × Int × γ × Int × Int) → Option ρ) (N : Nat) (g : List α × Int × Int × γ × Int × Int × Int) : Option ρ :=
 iter (fun go4 (g : (List α) × Int × Int × γ × Int × Int × Int) =>
  match g with
  | (d, a, b, ks, i, j, j4) =>
  bif decide (j4 < b) then cmpP c ks d j4 fun r => bif !decide (r < 0) then (if fits (j + 1) then k (d, a, b, ks, i, j + 1) else none) else swpP d j4 fun d' => if fits (j4 + 1) then go4 (d', a, b, ks, i, j, j4 + 1) else none
  else if fits (j + 1) then k (d, a, b, ks, i, j + 1) else none) N g
def pisX (N : Nat) (go : (List α × Int × Int × γ × Int × Int) → Option (Bool × List α)) (d : List α) (a b : Int) (ks : γ) (i j : Int) : Option (Bool × List α) :=
 bif decide (i = b) then some (true, d) else if fits (b - a) then bif decide ((b - a) < 50) then some (false, d) else
  swpP d i fun d' => meet (fun (g : List α × Int × Int × γ × Int × Int) =>
   match g with
   | (d5, a5, b5, ks5, i4, j5) =>
   if fits (b5 - i4) then bif decide ((2 : Int) ≤ (b5 - i4)) then if fits (i4 + 1) then shUp c go N (d5, a5, b5, ks5, i4, j5, i4 + 1) else none
    else (if fits (j5 + 1) then go (d5, a5, b5, ks5, i4, j5 + 1) else none) else none) fun J =>
   if fits (i - a) then bif decide ((2 : Int) ≤ (i - a)) then if fits (i - 1) then shDown c J N (d', a, b, ks, i, j, i - 1) else none else J (d', a, b, ks, i, j) else none
 else none
def pisG (N : Nat) (d : List α) (a b : Int) (ks : γ) : Option (Bool × List α) :=
 if fits (a + 1) then iter (fun go (g : List α × Int × Int × γ × Int × Int) =>
  match g with
  | (d2, a2, b2, ks2, i, j) =>
  bif decide (j < 5) then
   iter (fun go2 (g : List α × Int × Int × γ × Int × Int) =>
    match g with
    | (d3, a3, b3, ks3, i2, j2) =>
    bif decide (i2 < b3) then cmpP c ks3 d3 i2 fun r => bif !decide (r < 0) then (if fits (i2 + 1) then go2 (d3, a3, b3, ks3, i2 + 1, j2) else none) else pisX c N go d3 a3 b3 ks3 i2 j2
    else pisX c N go d3 a3 b3 ks3 i2 j2) N (d2, a2, b2, ks2, i, j)
  else some (false, d2)) N (d, a, b, ks, a + 1, 0) else none
def partE (go3 : (List α × Int × γ × Int × Int) → Option (Int × Bool × List α)) (fl : Bool) (g : List α × Int × γ × Int × Int) : Option (Int × Bool × List α) :=
 match g with
 | (d, a, ks, i, j) =>
 bif decide (j < i) then swpG d j a fun d' => some (j, fl, d') else swpG d i j fun d' => if fits (i + 1) then if fits (j - 1) then go3 (d', a, ks, i + 1, j - 1) else none else none
def partD (k : (List α × Int × γ × Int × Int) → Option ρ) (N : Nat) (g : List α × Int × γ × Int × Int) : Option ρ :=
 iter (fun go (g : List α × Int × γ × Int × Int) =>
  match g with
  | (d, a, ks, i, j) =>
  bif decide (i ≤ j) then cmpG c ks d j a fun r => bif !decide (r < 0) then (if fits (j - 1) then go (d, a, ks, i, j - 1) else none) else k (d, a, ks, i, j)
  else k (d, a, ks, i, j)) N g
def partU (k : (List α × Int × γ × Int × Int) → Option ρ) (N : Nat) (g : List α × Int × γ × Int × Int) : Option ρ :=
 iter (fun go (g : List α × Int × γ × Int × Int) =>
  match g with
  | (d, a, ks, i, j) =>
  bif decide (i ≤ j) then cmpG c ks d i a fun r => bif decide (r < 0) then (if fits (i + 1) then go (d, a, ks, i + 1, j) else none) else k (d, a, ks, i, j)
  else k (d, a, ks, i, j)) N g
def partG (N : Nat) (d : List α) (a b p : Int) (ks : γ) : Option (Int × Bool × List α) :=
 swpG d a p fun d => if fits (a + 1) then if fits (b - 1) then
  partU c (fun g => partD c (partE (fun g => iter (fun go3 g => partU c (fun g => partD c (partE go3 false) N g) N g) N g) true) N g) N (d, a, ks, a + 1, b - 1)
 else none else none
def peqE (go : (List α × Int × γ × Int × Int) → Option (Int × List α)) (g : List α × Int × γ × Int × Int) : Option (Int × List α) :=
 match g with
 | (d, a, ks, i, j) =>
 bif decide (j < i) then some (i, d) else swpG d i j fun d' => if fits (i + 1) then if fits (j - 1) then go (d', a, ks, i + 1, j - 1) else none else none
def peqD (k : (List α × Int × γ × Int × Int) → Option ρ) (N : Nat) (g : List α × Int × γ × Int × Int) : Option ρ :=
 iter (fun go (g : List α × Int × γ × Int × Int) =>
  match g with
  | (d, a, ks, i, j) =>
  bif decide (i ≤ j) then cmpG c ks d a j fun r => bif decide (r < 0) then (if fits (j - 1) then go (d, a, ks, i, j - 1) else none) else k (d, a, ks, i, j)
  else k (d, a, ks, i, j)) N g
def peqU (k : (List α × Int × γ × Int × Int) → Option ρ) (N : Nat) (g : List α × Int × γ × Int × Int) : Option ρ :=
 iter (fun go (g : List α × Int × γ × Int × Int) =>
  match g with
  | (d, a, ks, i, j) =>
  bif decide (i ≤ j) then cmpG c ks d a i fun r => bif !decide (r < 0) then (if fits (i + 1) then go (d, a, ks, i + 1, j) else none) else k (d, a, ks, i, j)
  else k (d, a, ks, i, j)) N g
def peqG (N : Nat) (d : List α) (a b p : Int) (ks : γ) : Option (Int × List α) :=
 swpG d a p fun d => if fits (a + 1) then if fits (b - 1) then iter (fun go g => peqU c (fun g => peqD c (peqE go) N g) N g) N (d, a, ks, a + 1, b - 1) else none else none
def pdqG (hs : List α → Int → Int → γ → Option (List α)) (pe : List α → Int → Int → Int → γ → Option (Int × List α)) (N : Nat) : (D : Nat) → (List α) → Int → Int → Int → γ → Option ((List α))
 | 0, _, _, _, _, _ => none
 | D + 1, data, a, b, limit, cmp =>
 (iter (fun go (g : (List α) × Int × Int × Int × γ × Bool × Bool) => 
   match g with
   | (data2, a2, b2, limit2, cmp2, wasBalanced, wasPartitioned) =>
   (if fits (b2 - a2) then (bif (decide ((b2 - a2) ≤ 12)) then
     (oB (insG c N data2 a2 b2 cmp2) fun r =>
      (some r))
     else
     (bif (decide (limit2 = 0)) then
      (oB (hs data2 a2 b2 cmp2) fun r2 =>
       (some r2))
      else
      (meet (fun (g : (List α) × Int × Int × Int × γ × Bool × Bool × Int) => 
        match g with
        | (data3, a3, b3, limit3, cmp3, wasBalanced2, wasPartitioned2, length) =>
        (oB (choosePivotG c N data3 a3 b3 cmp3) fun r4 =>
         (meet (fun (g : (List α) × Int × Int × Int × γ × Bool × Bool × Int × Int × Int) => 
           match g with
           | (data4, a4, b4, limit4, cmp4, wasBalanced3, wasPartitioned3, length2, pivot, hint) =>
           (meet (fun (g : (List α) × Int × Int × Int × γ × Bool × Bool × Int × Int) => 
             match g with
             | (data5, a5, b5, limit5, cmp5, wasBalanced4, wasPartitioned4, length3, pivot2) =>
             (bif (decide ((0 : Int) < a5)) then
              (if fits (a5 - 1) then (if 0 ≤ (a5 - 1) ∧ (a5 - 1) < (data5.length : Int) then
                (oB (data5[(a5 - 1).toNat]?) fun e =>
                 (if 0 ≤ pivot2 ∧ pivot2 < (data5.length : Int) then
                  (oB (data5[pivot2.toNat]?) fun e2 =>
                   (oB (c cmp5 e e2) fun r7 =>
                    (bif (!(decide (r7 < 0))) then
                     (oB (pe data5 a5 b5 pivot2 cmp5) fun r8 =>
                      (go (r8.2, r8.1, b5, limit5, cmp5, wasBalanced4, wasPartitioned4)))
                     else
                     (oB (partG c N data5 a5 b5 pivot2 cmp5) fun r9 =>
                      (if fits (r9.1 - a5) then (if fits (b5 - r9.1) then (if 8 ≠ 0 then
                         (if fits (length3.tdiv 8) then (bif (decide ((r9.1 - a5) < (b5 - r9.1))) then
                           (oB (pdqG hs pe N D r9.2.2 a5 r9.1 limit5 cmp5) fun r10 =>
                            (if fits (r9.1 + 1) then (go (r10, (r9.1 + 1), b5, limit5, cmp5, (decide ((length3.tdiv 8) ≤ (r9.1 - a5))), r9.2.1)) else none))
                           else
                           (if fits (r9.1 + 1) then (oB (pdqG hs pe N D r9.2.2 (r9.1 + 1) b5 limit5 cmp5) fun r11 =>
                             (go (r11, a5, r9.1, limit5, cmp5, (decide ((length3.tdiv 8) ≤ (b5 - r9.1))), r9.2.1))) else none)) else none)
                         else none) else none) else none)))))
                  else none))
                else none) else none)
              else
              (oB (partG c N data5 a5 b5 pivot2 cmp5) fun r12 =>
               (if fits (r12.1 - a5) then (if fits (b5 - r12.1) then (if 8 ≠ 0 then
                  (if fits (length3.tdiv 8) then (bif (decide ((r12.1 - a5) < (b5 - r12.1))) then
                    (oB (pdqG hs pe N D r12.2.2 a5 r12.1 limit5 cmp5) fun r13 =>
                     (if fits (r12.1 + 1) then (go (r13, (r12.1 + 1), b5, limit5, cmp5, (decide ((length3.tdiv 8) ≤ (r12.1 - a5))), r12.2.1)) else none))
                    else
                    (if fits (r12.1 + 1) then (oB (pdqG hs pe N D r12.2.2 (r12.1 + 1) b5 limit5 cmp5) fun r14 =>
                      (go (r14, a5, r12.1, limit5, cmp5, (decide ((length3.tdiv 8) ≤ (b5 - r12.1))), r12.2.1))) else none)) else none)
                  else none) else none) else none)))) fun J3 =>
            (bif wasBalanced3 then
             (bif wasPartitioned3 then
              (bif (decide (hint = 1)) then
               (oB (pisG c N data4 a4 b4 cmp4) fun r6 =>
                (bif r6.1 then
                 (some r6.2)
                 else
                 (J3 (r6.2, a4, b4, limit4, cmp4, wasBalanced3, wasPartitioned3, length2, pivot))))
               else
               (J3 (data4, a4, b4, limit4, cmp4, wasBalanced3, wasPartitioned3, length2, pivot)))
              else
              (J3 (data4, a4, b4, limit4, cmp4, wasBalanced3, wasPartitioned3, length2, pivot)))
             else
             (J3 (data4, a4, b4, limit4, cmp4, wasBalanced3, wasPartitioned3, length2, pivot))))) fun J2 =>
          (bif (decide (r4.2.1 = 2)) then
           (oB (reverseRangeG N r4.2.2 a3 b3 cmp3) fun r5 =>
            (if fits (b3 - 1) then (if fits (r4.1 - a3) then (if fits ((b3 - 1) - (r4.1 - a3)) then (J2 (r5, a3, b3, limit3, cmp3, wasBalanced2, wasPartitioned2, length, ((b3 - 1) - (r4.1 - a3)), 1)) else none) else none) else none))
           else
           (J2 (r4.2.2, a3, b3, limit3, cmp3, wasBalanced2, wasPartitioned2, length, r4.1, r4.2.1)))))) fun J =>
       (bif (!wasBalanced) then
        (oB (breakG N data2 a2 b2 cmp2) fun r3 =>
         (if fits (limit2 - 1) then (J (r3, a2, b2, (limit2 - 1), cmp2, wasBalanced, wasPartitioned, (b2 - a2))) else none))
        else
        (J (data2, a2, b2, limit2, cmp2, wasBalanced, wasPartitioned, (b2 - a2))))))) else none)) N (data, a, b, limit, cmp, true, true))
end
def cmp105 (N : Nat) : (Unit) → Z1 → Z1 → Option Int := (fun (cmp : Unit) (e e2 : Z0 × Z0 × Z10) => je N e.1 e.2.1 e.2.2 e2.1 e2.2.1 e2.2.2)
def jny : Sh := ⟨.mtk 800000 Y5 136 false :: pI :: pI :: .clo 160 [] :: dz 4 (pI :: dz 44 []), []⟩
def jll : Sh := ⟨.mtk 800000 Y5 136 false :: pI :: pI :: .clo 160 [] :: dz 4 (pI :: pI :: dz 43 []), []⟩
def jeC (N : Nat) (a : List Z1) (d : Int) (c : Int) (b : Unit) : Option ((List Z1)) := insG (cmp105 N) N a d c b
 
theorem jqw (N : Nat) : mK 240 ⟨⟨[.mtk 800000 Y5 136 false, pI, pI, .clo 160 []], []⟩, ⟨[.tup [], .mtk 800000 Y5 136 false], []⟩, c4A (jeC N)⟩ :=
 mO (fC (jaf N) ja) Tryz.func240 rfl N (.seq .no (.block (.loop jny (.seq .no (.seq (.block (.seq .no (.block (.loop jll .no)))) .no))))) _ (rs := [800000])
def jnV : Sh := ⟨.mtk 800000 Y5 136 false :: .dead :: pI :: pI :: .clo 160 [] :: dz 5 (pI :: dz 71 []), []⟩
def jmo : Sh := ⟨.mtk 800000 Y5 136 false :: .dead :: pI :: pI :: .clo 160 [] :: dz 5 (pI :: pI :: dz 70 []), []⟩
def jdy (N : Nat) (a : List Z1) (e : Int) (b : Int) (c : Int) (d : Unit) : Option ((List Z1)) := siftG (cmp105 N) N a e b c d
 
theorem jqE (N : Nat) : mK 259 ⟨⟨[.mtk 800000 Y5 136 false, pI, pI, pI, .clo 160 []], []⟩, ⟨[.tup [], .mtk 800000 Y5 136 false], []⟩, c5A (jdy N)⟩ :=
 mO (fC (jaf N) ja) Tryz.func259 rfl N (.seq .no (.block (.loop jnV (.block (.seq .no (.seq .no (.meet jmo .no .no))))))) _ (rs := [800000])
def jmY : Sh := ⟨.mtk 800000 Y5 136 false :: .dead :: .dead :: .clo 160 [] :: dz 4 (pI :: pI :: pI :: pI :: dz 48 []), []⟩
def jq3 : Sh := ⟨.mtk 800000 Y5 136 false :: .dead :: .dead :: .clo 160 [] :: dz 4 (pI :: pI :: .dead :: .dead :: pI :: dz 47 []), []⟩
def jaC (N : Nat) (a : List Z1) (d : Int) (c : Int) (b : Unit) : Option ((List Z1)) := heapG (cmp105 N) N a d c b
 
theorem jqz (N : Nat) : mK 241 ⟨⟨[.mtk 800000 Y5 136 false, pI, pI, .clo 160 []], []⟩, ⟨[.tup [], .mtk 800000 Y5 136 false], []⟩, c4A (jaC N)⟩ :=
 mO (fC (jqE N) ja) Tryz.func241 rfl N (.seq .no (.seq .no (.seq .no (.seq (.seq .no (.block (.loop jmY .no))) (.seq .no (.block (.loop jq3 .no))))))) _ (rs := [800000])
def jkH : Sh := ⟨.mtk 800000 Y5 136 false :: pI :: dz 6 (pI :: .box 9 0 :: .pv (.int .u64) :: pI :: dz 55 []), [(9, false, [.pv (.int .u64)])]⟩
def jmx : Sh := ⟨.mtk 800000 Y5 136 false :: pI :: dz 6 (pI :: .box 9 0 :: .pv (.int .u64) :: pI :: pI :: dz 54 []), [(9, false, [.pv (.int .u64)])]⟩
def jez (N : Nat) (a : List Z1) (d : Int) (c : Int) (b : Unit) : Option ((List Z1)) := breakG N a d c b
 
theorem jlO (N : Nat) : mK 242 ⟨⟨[.mtk 800000 Y5 136 false, pI, pI, .clo 160 []], []⟩, ⟨[.tup [], .mtk 800000 Y5 136 false], []⟩, c4A (jez N)⟩ :=
 mO (fC (jhv N) (fC (jet N) ja)) Tryz.func242 rfl N (.seq .no (.seq .no (.cond (.seq .no (.seq .no (.seq .no (.block (.loop jkH (.seq .no (.seq (.block (.seq .no (.meet jmx .no .no))) .no))))))) .no))) _ (rs := [800000])
def jcG (N : Nat) (a : List Z1) (d : Int) (c : Int) (b : Unit) (e : Int) : Option (Int × Int × (List Z1) × Int) := order2G (cmp105 N) N a d c b e
 
theorem jrN (N : Nat) : mK 268 ⟨⟨[.mtk 800000 Y5 136 false, pI, pI, .box 900003 0, .clo 160 []], [(900003, false, [pI])]⟩, ⟨[.tup [pI, pI], .mtk 800000 Y5 136 false], [(900003, false, [pI])]⟩, c5A (jcG N)⟩ :=
 mO (fC (jaf N) ja) Tryz.func268 rfl N .no _ (rs := [900003, 800000])
def jdE (N : Nat) (a : List Z1) (b : Int) (c : Int) (d : Int) (e : Unit) (f : Int) : Option (Int × (List Z1) × Int) := medianG (cmp105 N) N a b c d e f
 
theorem jfr (N : Nat) : mK 261 ⟨⟨[.mtk 800000 Y5 136 false, pI, pI, pI, .box 900004 0, .clo 160 []], [(900004, false, [pI])]⟩, ⟨[pI, .mtk 800000 Y5 136 false], [(900004, false, [pI])]⟩, c6A (jdE N)⟩ :=
 mO (fC (jrN N) ja) Tryz.func261 rfl N .no _ (rs := [900004, 800000])
def jca (N : Nat) (a : List Z1) (d : Int) (b : Unit) (c : Int) : Option (Int × (List Z1) × Int) := medianAdjacentG (cmp105 N) N a d b c
 
theorem jko (N : Nat) : mK 260 ⟨⟨[.mtk 800000 Y5 136 false, pI, .box 900002 0, .clo 160 []], [(900002, false, [pI])]⟩, ⟨[pI, .mtk 800000 Y5 136 false], [(900002, false, [pI])]⟩, c4A (jca N)⟩ :=
 mO (fC (jfr N) ja) Tryz.func260 rfl N .no _ (rs := [900002, 800000])
def jnR : Sh := ⟨.mtk 800000 Y5 136 false :: .dead :: .dead :: .clo 160 [] :: dz 7 (.box 11 0 :: pI :: pI :: pI :: dz 48 []), [(11, false, [pI])]⟩
def jrt : Sh := ⟨.mtk 800000 Y5 136 false :: dz 10 (.box 11 0 :: .dead :: pI :: dz 49 []), [(11, false, [pI])]⟩
def jjM (N : Nat) (a : List Z1) (d : Int) (c : Int) (b : Unit) : Option (Int × Int × (List Z1)) := choosePivotG (cmp105 N) N a d c b
 
theorem joO (N : Nat) : mK 243 ⟨⟨[.mtk 800000 Y5 136 false, pI, pI, .clo 160 []], []⟩, ⟨[.tup [pI, pI], .mtk 800000 Y5 136 false], []⟩, c4A (jjM N)⟩ :=
 mO (fC (jko N) (fC (jfr N) ja)) Tryz.func243 rfl N (.seq .no (.seq .no (.seq .no (.seq .no (.seq .no (.seq .no (.meet jrt (.seq .no (.cond (.meet jnR .no .no) .no)) .no))))))) _ (rs := [800000])
def jpl : Sh := ⟨.mtk 800000 Y5 136 false :: dz 7 (pI :: pI :: dz 24 []), []⟩
def jeV (N : Nat) (a : List Z1) (d : Int) (c : Int) (b : Unit) : Option ((List Z1)) := reverseRangeG N a d c b
 
theorem jma (N : Nat) : mK 244 ⟨⟨[.mtk 800000 Y5 136 false, pI, pI, .clo 160 []], []⟩, ⟨[.tup [], .mtk 800000 Y5 136 false], []⟩, c4A (jeV N)⟩ :=
 mO ja Tryz.func244 rfl N (.seq .no (.seq .no (.block (.loop jpl .no)))) _ (rs := [800000])
def jn3 : Sh := ⟨.mtk 800000 Y5 136 false :: pI :: pI :: .clo 160 [] :: dz 5 (pI :: pI :: dz 130 []), []⟩
def jsj : Sh := ⟨.mtk 800000 Y5 136 false :: pI :: pI :: .clo 160 [] :: dz 5 (pI :: pI :: pI :: dz 129 []), []⟩
def jnQ : Sh := ⟨.mtk 800000 Y5 136 false :: pI :: pI :: .clo 160 [] :: dz 5 (pI :: pI :: .dead :: pI :: dz 128 []), []⟩
def jhb (N : Nat) (a : List Z1) (d : Int) (c : Int) (b : Unit) : Option (Bool × (List Z1)) := pisG (cmp105 N) N a d c b
 
theorem jnw (N : Nat) : mK 245 ⟨⟨[.mtk 800000 Y5 136 false, pI, pI, .clo 160 []], []⟩, ⟨[pB, .mtk 800000 Y5 136 false], []⟩, c4A (jhb N)⟩ :=
 mO (fC (jaf N) ja) Tryz.func245 rfl N (.seq .no (.seq .no (.seq (.seq .no (.block (.loop jn3 (.seq .no (.seq (.block (.seq (.block (.loop jn3 .no)) (.seq .no (.seq .no (.seq .no (.meet jn3 (.seq .no (.cond (.seq .no (.block (.loop jsj .no))) .no)) (.seq .no (.cond (.seq .no (.block (.loop jnQ .no))) .no)))))))) .no))))) .no))) _ (rs := [800000])
def jnv : Sh := ⟨.mtk 800000 Y5 136 false :: pI :: .dead :: .dead :: .clo 160 [] :: dz 6 (pI :: pI :: dz 77 []), []⟩
def jbG (N : Nat) (a : List Z1) (b : Int) (c : Int) (e : Int) (d : Unit) : Option (Int × (List Z1)) := peqG (cmp105 N) N a b c e d
 
theorem jp1 (N : Nat) : mK 246 ⟨⟨[.mtk 800000 Y5 136 false, pI, pI, pI, .clo 160 []], []⟩, ⟨[pI, .mtk 800000 Y5 136 false], []⟩, c5A (jbG N)⟩ :=
 mO (fC (jaf N) ja) Tryz.func246 rfl N (.seq .no (.seq .no (.seq .no (.seq (.block (.loop jnv (.block (.seq (.block (.loop jnv .no)) (.seq (.block (.loop jnv .no)) .no))))) .no)))) _ (rs := [800000])
def jru : Sh := ⟨.mtk 800000 Y5 136 false :: pI :: .dead :: .dead :: .clo 160 [] :: dz 7 (pI :: pI :: dz 164 []), []⟩
def jcT (N : Nat) (a : List Z1) (b : Int) (c : Int) (e : Int) (d : Unit) : Option (Int × Bool × (List Z1)) := partG (cmp105 N) N a b c e d
 
theorem jrO (N : Nat) : mK 247 ⟨⟨[.mtk 800000 Y5 136 false, pI, pI, pI, .clo 160 []], []⟩, ⟨[.tup [pI, pB], .mtk 800000 Y5 136 false], []⟩, c5A (jcT N)⟩ :=
 mO (fC (jaf N) ja) Tryz.func247 rfl N (.seq .no (.seq .no (.seq .no (.seq (.block (.loop jru .no)) (.seq (.block (.loop jru .no)) (.seq .no (.seq .no (.seq .no (.seq .no (.seq (.block (.loop jru (.block (.seq (.block (.loop jru .no)) (.seq (.block (.loop jru .no)) .no))))) .no)))))))))) _ (rs := [800000])
def jmM : Sh := ⟨.mtk 800000 Y5 136 false :: pI :: pI :: pI :: .clo 160 [] :: dz 5 (pB :: pB :: dz 136 []), []⟩
def jnd : Sh := ⟨.mtk 800000 Y5 136 false :: pI :: pI :: pI :: .clo 160 [] :: dz 5 (pB :: pB :: pI :: pI :: dz 134 []), []⟩
def jmi : Sh := ⟨.mtk 800000 Y5 136 false :: pI :: pI :: pI :: .clo 160 [] :: dz 5 (pB :: pB :: pI :: pI :: pI :: dz 133 []), []⟩
def js7 : Sh := ⟨.mtk 800000 Y5 136 false :: pI :: pI :: pI :: .clo 160 [] :: dz 5 (pB :: pB :: pI :: dz 135 []), []⟩
def jK (N D : Nat) (h : List Z1) (b a limit : Int) (f : Unit) : Option ((List Z1)) := pdqG (cmp105 N) (fun c b a d => heapG (cmp105 N) N c b a d) (fun c b a e d => peqG (cmp105 N) N c b a e d) N D h b a limit f
 
def jcj (N D : Nat) : Model := ⟨⟨[.mtk 800000 Y5 136 false, pI, pI, pI, .clo 160 []], []⟩, ⟨[.tup [], .mtk 800000 Y5 136 false], []⟩, c5A (jK N D)⟩
theorem jrm (N D : Nat) (ih : mK 208 (jcj N D)) : mK 208 (jcj N (D + 1)) :=
 mO (fC ih (fC (jqw N) (fC (jqz N) (fC (jlO N) (fC (joO N) (fC (jma N) (fC (jnw N) (fC (jaf N) (fC (jp1 N) (fC (jrO N) ja)))))))))) Tryz.func208 rfl N (.seq .no (.seq .no (.block (.loop jmM (.block (.seq .no (.seq .no (.seq .no (.meet js7 .no (.seq .no (.meet jmi .no (.meet jnd .no .no)))))))))))) (jcj N (D + 1)) (rs := [800000])
theorem jix (N : Nat) : ∀ D, mK 208 (jcj N D)
 | 0 => modelOk_none ⟨_, Tryz.func208, by decide, by kernel_rfl⟩ _ (fun a => rfl)
 | D + 1 => jrm N D (jix N D)
def k_slices_SortFunc_105_m (N : Nat) (a : List Z1) (d : Unit) : Option ((List Z1)) :=
 (oB (k_math_bits_Len_m N (IntKind.u64.wrap (a.length : Int))) fun c => oB (jK N N a 0 (a.length : Int) c ()) fun b => some b)
theorem jtu (N : Nat) : mK 159 ⟨⟨[.mtk 800000 Y5 136 false, .clo 160 []], []⟩, ⟨[.tup [], .mtk 800000 Y5 136 false], []⟩, c2A (k_slices_SortFunc_105_m N)⟩ :=
 mO (fC (jda N) (fC (jix N N) ja)) Tryz.func159 rfl N .no _ (rs := [800000])
def jmK : Sh := ⟨.dead :: .dead :: .box 2 0 :: .dead :: .box 4 0 :: .box 5 0 :: dz 19 (.pv Y2 :: pI :: pI :: dz 32 []), [(2, false, [.pv (.sl .str), .pv Y15]), (4, false, [.nils, .nils]), (5, false, [.pv Y2, .tre 700501 Y5 136])]⟩
def jor : Sh := ⟨.dead :: .dead :: .box 2 0 :: .dead :: .box 4 0 :: .box 5 0 :: .dead :: .box 7 0 :: dz 17 (.pv Y2 :: pI :: pI :: dz 4 (.pv Y18 :: pI :: pI :: dz 25 [])), [(2, false, [.pv (.sl .str), .pv Y15]), (4, false, [.nils, .nils]), (5, false, [.pv Y2, .tre 700501 Y5 136]), (7, false, [pI, .pv Y18, .pv Y14])]⟩
def jnj : Sh := ⟨.dead :: .dead :: .box 2 0 :: .dead :: .box 4 0 :: .box 5 0 :: .dead :: .box 7 0 :: .dead :: .box 9 0 :: dz 15 (.pv Y2 :: pI :: pI :: dz 4 (.pv Y18 :: pI :: pI :: dz 6 (.own 600041 Y16 186 true :: pI :: pI :: dz 16 []))), [(2, false, [.pv (.sl .str), .pv Y15]), (4, false, [.nils, .nils]), (5, false, [.pv Y2, .tre 700501 Y5 136]), (7, false, [pI, .pv Y18, .pv Y14]), (9, false, [pS, pS])]⟩
def jbT (N : Nat) (c : List Z0) (c2 : List Z4) (docs : List Z2) : Option ((List Z2) × (List Z1)) :=
 (oB (jaj N c c2) fun r => bif !r then some (([] : List Z2), ([] : List Z1)) else oB (jbf N docs) fun r2 => bif !r2 then some (([] : List Z2), ([] : List Z1)) else oB (jbV N docs) fun r3 => iter (fun go (t25, t26, t27, c3, c4, s, s2) => bif decide (t27 < t26) then oB (idx t25 t27) fun e => (iter (fun go2 (t252, t262, t272, t32, t33, t34, c5, c6, s3, s4, d, d2, d3) => bif decide (t34 < t33) then oB (idx t32 t34) fun e2 => (oB (jbw N c5 c6 e2.2) fun r4 => iter (fun go3 (t253, t263, t273, t322, t332, t342, t41, t42, t43, c7, c8, s5, s6, d4, d5, d6, f, f2) => bif decide (t43 < t42) then oB (idx t41 t43) fun e3 => (oB (i_Seg_put_m N f e3.1 e3.2 d4 s5 s6) fun r5 => if fits (t43 + 1) then go3 (t253, t263, t273, t322, t332, t342, t41, t42, (t43 + 1), c7, c8, r5.1, r5.2, d4, d5, d6, f, f2) else none) else if fits (t342 + 1) then go2 (t253, t263, t273, t322, t332, (t342 + 1), c7, c8, s5, s6, d4, d5, d6) else none) N (t252, t262, t272, t32, t33, t34, r4, (r4.length : Int), (0 : Int), c5, c6, s3, s4, d, d2, d3, e2.1, e2.2)) else if fits (t272 + 1) then go (t252, t262, (t272 + 1), c5, c6, s3, s4) else none) N (t25, t26, t27, e.2.1, (e.2.1.length : Int), (0 : Int), c3, c4, s, s2, e.1, e.2.1, e.2.2)) else oB (k_slices_SortFunc_105_m N s2 ()) fun r6 => some (s, r6)) N (docs, (docs.length : Int), (0 : Int), c, c2, r3, ([] : List Z1)))
theorem jqC (N : Nat) : mK 103 ⟨⟨[.agg [.pv (.sl .str), .pv Y15], .pv Y2], []⟩, ⟨[.agg [.pv Y2, .own 1 Y5 136 false]], []⟩, c3A (jbT N)⟩ :=
 mO (fC (jdX N) (fC (jjU N) (fC (joC N) (fC (jgO N) (fC (jky N) (fC (jtu N) ja)))))) Tryz.func103 rfl N (.seq .no (.seq .no (.seq .no (.seq (.seq .no (.block (.loop jmK (.seq .no (.seq .no (.seq (.block (.seq .no (.seq .no (.block (.loop jor (.seq .no (.seq .no (.seq (.block (.seq .no (.seq .no (.block (.loop jnj .no))))) .no)))))))) .no)))))) .no)))) _ (wr := [23]) (dw := [23, 57])
def jtB : Sh := ⟨.pv Y20 :: .pv Y20 :: dz 10 (pI :: pI :: dz 12 []), []⟩
def jbX (N : Nat) (b : List Int) (d : List Int) : Z6 :=
 (bif !decide ((b.length : Int) = (d.length : Int)) then some false else iter (fun i (e, f, c, a) => bif decide (a < c) then oB (idx e a) fun k => (oB (idx f a) fun h => bif !decide (k = h) then some false else if fits (a + 1) then i (e, f, c, (a + 1)) else none) else some true) N (b, d, (b.length : Int), (0 : Int)))
theorem jqi (N : Nat) : mK 210 ⟨⟨[.pv Y20, .pv Y20], []⟩, ⟨[pB], []⟩, c2A (jbX N)⟩ :=
 mO ja Tryz.func210 rfl N (.seq .no (.seq .no (.seq (.seq .no (.block (.loop jtB .no))) .no))) _
def jcp (N : Nat) (c : Int) (e : List Int) (b : Int) (d : List Int) : Z6 :=
 (bif decide (c = b) then oB (jbX N e d) fun a => (some a) else some false)
theorem jth (N : Nat) : mK 163 ⟨⟨[.agg [pI, .pv Y20], .agg [pI, .pv Y20]], []⟩, ⟨[pB], []⟩, c4A (jcp N)⟩ :=
 mO (fC (jqi N) ja) Tryz.func163 rfl N .no _
def jlX : Sh := ⟨.dead :: .pv Y11 :: .clo 163 [] :: dz 12 (.pv Y11 :: pI :: pI :: dz 14 []), []⟩
def jb6 (N : Nat) (b : Z3) (f : Z3) (m : Unit) : Z6 :=
 (bif !decide ((b.length : Int) = (f.length : Int)) then some false else iter (fun j (h, n, c, e, a) => bif decide (a < e) then oB (idx c a) fun i => (oB (idx h a) fun d => oB (jcp N i.1 i.2 d.1 d.2) fun l => bif !l then some false else if fits (a + 1) then j (h, (), c, e, (a + 1)) else none) else some true) N (f, (), b, (b.length : Int), (0 : Int)))
theorem jnG (N : Nat) : mK 162 ⟨⟨[.pv Y11, .pv Y11, .clo 163 []], []⟩, ⟨[pB], []⟩, c3A (jb6 N)⟩ :=
 mO (fC (jth N) ja) Tryz.func162 rfl N (.seq .no (.seq .no (.seq (.seq .no (.block (.loop jlX .no))) .no))) _
def jcz (N : Nat) (h : List UInt8) (e : List UInt8) (c : Z3) (b : List UInt8) (d : List UInt8) (a : Z3) : Z6 :=
 (bif decide (h = b) then bif decide (e = d) then oB (jb6 N c a ()) fun f => (some f) else (some false) else some false)
theorem jp4 (N : Nat) : mK 104 ⟨⟨[.agg [pS, pS, .pv Y11], .agg [pS, pS, .pv Y11]], []⟩, ⟨[pB], []⟩, c6A (jcz N)⟩ :=
 mO (fC (jnG N) ja) Tryz.func104 rfl N .no _
def jlD : Sh := ⟨.dead :: .pv Y4 :: .clo 104 [] :: dz 12 (.pv Y4 :: pI :: pI :: dz 14 []), []⟩
def jcn (N : Nat) (b : List Z1) (h : List Z1) (m : Unit) : Z6 :=
 (bif !decide ((b.length : Int) = (h.length : Int)) then some false else iter (fun j (i, n, e, f, a) => bif decide (a < f) then oB (idx e a) fun d => (oB (idx i a) fun c => oB (jcz N d.1 d.2.1 d.2.2 c.1 c.2.1 c.2.2) fun l => bif !l then some false else if fits (a + 1) then j (i, (), e, f, (a + 1)) else none) else some true) N (h, (), b, (b.length : Int), (0 : Int)))
theorem jsa (N : Nat) : mK 102 ⟨⟨[.pv Y4, .pv Y4, .clo 104 []], []⟩, ⟨[pB], []⟩, c3A (jcn N)⟩ :=
 mO (fC (jp4 N) ja) Tryz.func102 rfl N (.seq .no (.seq .no (.seq (.seq .no (.block (.loop jlD .no))) .no))) _
def i_SegOk_m (N : Nat) (b : List Z0) (a : List Z4) (c : List Z2) (i : List Z1) : Z6 :=
 (oB (jaj N b a) fun h => bif !h then some false else oB (jbf N c) fun f => bif !f then some false else oB (jbT N b a c) fun e => oB (jcn N e.2 i ()) fun d => some d)
theorem joa (N : Nat) : mK 58 ⟨⟨[.agg [.pv (.sl .str), .pv Y15], .agg [.pv Y2, .pv Y4]], []⟩, ⟨[pB], []⟩, c4A (i_SegOk_m N)⟩ :=
 mO (fC (jdX N) (fC (jjU N) (fC (jqC N) (fC (jsa N) ja)))) Tryz.func58 rfl N .no _
def jDx : Sh := ⟨pS :: dz 4 (pI :: pI :: dz 23 []), []⟩
def jxV (N : Nat) (e : List UInt8) : Z6 :=
 (iter (fun d (b, c, a) => bif decide (a < c) then oB (idx b a) fun l => (oB (jaw N (l.toNat : Int)) fun j => bif !j then oB (idx b a) fun h => (bif !decide ((h.toNat : Int) = 42) then oB (idx b a) fun k => (bif !decide ((k.toNat : Int) = 63) then some false else if fits (a + 1) then d (b, c, (a + 1)) else none) else if fits (a + 1) then d (b, c, (a + 1)) else none) else if fits (a + 1) then d (b, c, (a + 1)) else none) else oB (jm N (b.length : Int) 1 12) fun i => some i) N (e, (e.length : Int), (0 : Int)))
theorem jz9 (N : Nat) : mK 164 ⟨⟨[pS], []⟩, ⟨[pB], []⟩, c1A (jxV N)⟩ :=
 mO (fC (jeK N) (fC (jY N) ja)) Tryz.func164 rfl N (.seq .no (.seq (.seq .no (.block (.loop jDx .no))) .no)) _
def jBs : Sh := ⟨.dead :: pI :: .box 2 0 :: dz 90 (.pv (.sl .str) :: pI :: pI :: dz 39 []), [(2, false, [pI, pS, .pv (.sl .str), pI, pI, .pv (.sl .q)])]⟩
def jC6 : Sh := ⟨.dead :: pI :: dz 121 (.pv (.sl .q) :: pI :: pI :: dz 9 []), []⟩
def jDY : Sh := ⟨.dead :: pI :: .box 2 0 :: dz 132 [], [(2, false, [pI, pS, .pv (.sl .str), pI, pI, .pv (.sl .q)])]⟩
def jzZ : Sh := ⟨.dead :: pI :: .box 2 0 :: .dead :: .dead :: .box 5 0 :: dz 129 [], [(2, false, [pI, pS, .pv (.sl .str), pI, pI, .pv (.sl .q)]), (5, false, [pB, pI, pI, pI, pI, pB, pI, pI])]⟩
def jxE (N : Nat) : (D : Nat) → Int → Z0 → (List Z0) → Int → Int → (List DQ) → Int → Z6
 | 0, _, _, _, _, _, _, _ => none
 | D + 1, q, q2, q3, q4, q5, q6, deep =>
 meet (fun (g : Z18) =>
 match g with
 | (deep2, q7, q8, q9, q10, q11, q12, x, x2, x3, x4, x5, x6, x7, x8) =>
 meet (fun (g : Z18) =>
 match g with
 | (deep3, q13, q14, q15, q16, q17, q18, x9, x10, x11, x12, x13, x14, x15, x16) =>
 meet (fun (g : Int × Int × Z0 × (List Z0) × Int × Int × (List DQ)) =>
 match g with
 | (deep4, q19, q20, q21, q22, q23, q24) =>
 iter (fun go (g : Int × (List Z0) × Int × Int × Int × Z0 × (List Z0) × Int × Int × (List DQ)) =>
 match g with
 | (deep5, t93, t94, t95, q25, q26, q27, q28, q29, q30) =>
 bif decide (t95 < t94) then
 oB (idx t93 t95) fun e =>
 (bif decide (q25 = 5) then
 oB (jxV N e) fun r6 =>
 (bif !r6 then
 some false
 else
 oB (jO N e) fun r7 =>
 bif r7 then
 some false
 else
 bif !decide (q25 = 5) then
 oB (jO N e) fun r8 =>
 (bif !r8 then
 some false
 else
 if fits (t95 + 1) then go (deep5, t93, t94, (t95 + 1), q25, q26, q27, q28, q29, q30) else none)
 else
 if fits (t95 + 1) then go (deep5, t93, t94, (t95 + 1), q25, q26, q27, q28, q29, q30) else none)
 else
 bif !decide (q25 = 5) then
 oB (jO N e) fun r9 =>
 (bif !r9 then
 some false
 else
 if fits (t95 + 1) then go (deep5, t93, t94, (t95 + 1), q25, q26, q27, q28, q29, q30) else none)
 else
 if fits (t95 + 1) then go (deep5, t93, t94, (t95 + 1), q25, q26, q27, q28, q29, q30) else none)
 else
 iter (fun go2 (g : Int × (List DQ) × Int × Int) =>
 match g with
 | (deep6, t123, t124, t125) =>
 bif decide (t125 < t124) then
 oB (idx t123 t125) fun e2 =>
 (if fits (deep6 - 1) then oB (jxE N D e2.kind e2.field e2.words e2.lo e2.hi e2.kids (deep6 - 1)) fun r10 =>
 (bif !r10 then
 some false
 else
 if fits (t125 + 1) then go2 (deep6, t123, t124, (t125 + 1)) else none) else none)
 else
 some true) N (deep5, q30, (q30.length : Int), 0)) N (deep4, q21, (q21.length : Int), 0, q19, q20, q21, q22, q23, q24)) fun J3 =>
 bif x14 then
 oB (jm N q17 q16 999999999) fun r5 =>
 (bif !r5 then
 some false
 else
 bif !x14 then
 bif !decide (q17 = 0) then
 some false
 else
 (J3 (deep3, q13, q14, q15, q16, q17, q18))
 else
 J3 (deep3, q13, q14, q15, q16, q17, q18))
 else
 bif !x14 then
 bif !decide (q17 = 0) then
 some false
 else
 (J3 (deep3, q13, q14, q15, q16, q17, q18))
 else
 J3 (deep3, q13, q14, q15, q16, q17, q18)) fun J2 =>
 oB (jm N (q9.length : Int) x2 x3) fun r2 =>
 bif !r2 then
 some false
 else
 oB (jm N (q12.length : Int) x7 x8) fun r3 =>
 bif !r3 then
 some false
 else
 oB (jm N q10 x4 x5) fun r4 =>
 bif !r4 then
 some false
 else
 J2 (deep2, q7, q8, q9, q10, q11, q12, x, x2, x3, x4, x5, x6, x7, x8)) fun J =>
 bif !((mget tI (.pair .bool (.pair tI (.pair tI (.pair tI (.pair tI (.pair .bool Y13)))))) gm_shapes q).isSome) then
 some false
 else
 bif decide (deep < 1) then
 some false
 else
 bif !((((mget tI (.pair .bool (.pair tI (.pair tI (.pair tI (.pair tI (.pair .bool Y13)))))) gm_shapes q).getD (false, (0, (0, (0, (0, (false, (0, 0)))))))).1) == (!decide (q2 = ([] : List UInt8)))) then
 some false
 else
 bif ((mget tI (.pair .bool (.pair tI (.pair tI (.pair tI (.pair tI (.pair .bool Y13)))))) gm_shapes q).getD (false, (0, (0, (0, (0, (false, (0, 0)))))))).1 then
 oB (jO N q2) fun r =>
 (bif !r then
 some false
 else
 J (deep, q, q2, q3, q4, q5, q6, ((mget tI (.pair .bool (.pair tI (.pair tI (.pair tI (.pair tI (.pair .bool Y13)))))) gm_shapes q).getD (false, (0, (0, (0, (0, (false, (0, 0)))))))).1, (((mget tI (.pair .bool (.pair tI (.pair tI (.pair tI (.pair tI (.pair .bool Y13)))))) gm_shapes q).getD (false, (0, (0, (0, (0, (false, (0, 0)))))))).2).1, ((((mget tI (.pair .bool (.pair tI (.pair tI (.pair tI (.pair tI (.pair .bool Y13)))))) gm_shapes q).getD (false, (0, (0, (0, (0, (false, (0, 0)))))))).2).2).1, (((((mget tI (.pair .bool (.pair tI (.pair tI (.pair tI (.pair tI (.pair .bool Y13)))))) gm_shapes q).getD (false, (0, (0, (0, (0, (false, (0, 0)))))))).2).2).2).1, ((((((mget tI (.pair .bool (.pair tI (.pair tI (.pair tI (.pair tI (.pair .bool Y13)))))) gm_shapes q).getD (false, (0, (0, (0, (0, (false, (0, 0)))))))).2).2).2).2).1, (((((((mget tI (.pair .bool (.pair tI (.pair tI (.pair tI (.pair tI (.pair .bool Y13)))))) gm_shapes q).getD (false, (0, (0, (0, (0, (false, (0, 0)))))))).2).2).2).2).2).1, ((((((((mget tI (.pair .bool (.pair tI (.pair tI (.pair tI (.pair tI (.pair .bool Y13)))))) gm_shapes q).getD (false, (0, (0, (0, (0, (false, (0, 0)))))))).2).2).2).2).2).2).1, ((((((((mget tI (.pair .bool (.pair tI (.pair tI (.pair tI (.pair tI (.pair .bool Y13)))))) gm_shapes q).getD (false, (0, (0, (0, (0, (false, (0, 0)))))))).2).2).2).2).2).2).2))
 else
 J (deep, q, q2, q3, q4, q5, q6, ((mget tI (.pair .bool (.pair tI (.pair tI (.pair tI (.pair tI (.pair .bool Y13)))))) gm_shapes q).getD (false, (0, (0, (0, (0, (false, (0, 0)))))))).1, (((mget tI (.pair .bool (.pair tI (.pair tI (.pair tI (.pair tI (.pair .bool Y13)))))) gm_shapes q).getD (false, (0, (0, (0, (0, (false, (0, 0)))))))).2).1, ((((mget tI (.pair .bool (.pair tI (.pair tI (.pair tI (.pair tI (.pair .bool Y13)))))) gm_shapes q).getD (false, (0, (0, (0, (0, (false, (0, 0)))))))).2).2).1, (((((mget tI (.pair .bool (.pair tI (.pair tI (.pair tI (.pair tI (.pair .bool Y13)))))) gm_shapes q).getD (false, (0, (0, (0, (0, (false, (0, 0)))))))).2).2).2).1, ((((((mget tI (.pair .bool (.pair tI (.pair tI (.pair tI (.pair tI (.pair .bool Y13)))))) gm_shapes q).getD (false, (0, (0, (0, (0, (false, (0, 0)))))))).2).2).2).2).1, (((((((mget tI (.pair .bool (.pair tI (.pair tI (.pair tI (.pair tI (.pair .bool Y13)))))) gm_shapes q).getD (false, (0, (0, (0, (0, (false, (0, 0)))))))).2).2).2).2).2).1, ((((((((mget tI (.pair .bool (.pair tI (.pair tI (.pair tI (.pair tI (.pair .bool Y13)))))) gm_shapes q).getD (false, (0, (0, (0, (0, (false, (0, 0)))))))).2).2).2).2).2).2).1, ((((((((mget tI (.pair .bool (.pair tI (.pair tI (.pair tI (.pair tI (.pair .bool Y13)))))) gm_shapes q).getD (false, (0, (0, (0, (0, (false, (0, 0)))))))).2).2).2).2).2).2).2)
def jyl (N D : Nat) : Model := ⟨⟨[.agg [pI, pS, .pv (.sl .str), pI, pI, .pv (.sl .q)], pI], []⟩, ⟨[pB], []⟩, c7A (jxE N D)⟩
theorem jAF (N D : Nat) (ih : mK 105 (jyl N D)) : mK 105 (jyl N (D + 1)) :=
 mO (fC ih (fC (jcM N) (fC (jY N) (fC (jz9 N) ja)))) Tryz.func105 rfl N (.seq .no (.seq .no (.meet jzZ .no (.meet jzZ .no (.meet jDY .no (.seq (.seq .no (.block (.loop jBs .no))) (.seq (.seq .no (.block (.loop jC6 .no))) .no))))))) (jyl N (D + 1))
theorem jzh (N : Nat) : ∀ D, mK 105 (jyl N D)
 | 0 => modelOk_none ⟨_, Tryz.func105, by decide, by kernel_rfl⟩ _ (fun a => rfl)
 | D + 1 => jAF N D (jzh N D)
def i_QueryOk_m (N : Nat) (a : Int) (e : List UInt8) (h : List Z0) (c : Int) (f : Int) (b : List DQ) : Z6 :=
 (oB (jxE N N a e h c f b 4) fun d => some d)
theorem jCN (N : Nat) : mK 59 ⟨⟨[.agg [pI, pS, .pv (.sl .str), pI, pI, .pv (.sl .q)]], []⟩, ⟨[pB], []⟩, c6A (i_QueryOk_m N)⟩ :=
 mO (fC (jzh N N) ja) Tryz.func59 rfl N .no _
def jyc (N : Nat) (e : List Z0) (c : List Z4) (b : List UInt8) : Option (Z0) :=
 (oB (jO N b) fun d => bif !d then some ([] : List UInt8) else oB (jbw N e c b) fun a => bif decide ((a.length : Int) = 0) then some ([] : List UInt8) else oB (idx a 0) fun f => some f.1)
theorem jBn (N : Nat) : mK 107 ⟨⟨[.agg [.pv (.sl .str), .pv Y15], pS], []⟩, ⟨[pS], []⟩, c3A (jyc N)⟩ :=
 mO (fC (jcM N) (fC (jgO N) ja)) Tryz.func107 rfl N .no _
def jnu : Sh := ⟨.dead :: pS :: pS :: dz 9 (.pv Y4 :: pI :: pI :: dz 16 []), []⟩
def i_Seg_posts_m (N : Nat) (i : (List Z2) × (List Z1)) (l : List UInt8) (k : List UInt8) : Option (Z10) :=
 (iter (fun h (d, e, c, b, a) => bif decide (a < b) then oB (idx c a) fun f => (bif decide (f.1 = d) then bif decide (f.2.1 = e) then some f.2.2 else (if fits (a + 1) then h (d, e, c, b, (a + 1)) else none) else if fits (a + 1) then h (d, e, c, b, (a + 1)) else none) else some ([] : Z3)) N (l, k, i.2, (i.2.length : Int), (0 : Int)))
theorem jcq (N : Nat) : mK 167 ⟨⟨[.ptr Y1, pS, pS], []⟩, ⟨[.pv Y11], []⟩, c3A (i_Seg_posts_m N)⟩ :=
 mO ja Tryz.func167 rfl N (.seq .no (.seq (.seq .no (.block (.loop jnu .no))) .no)) _
def jni : Sh := ⟨dz 3 (pI :: dz 12 (.pv Y11 :: pI :: pI :: dz 10 [])), []⟩
def i_scorer_places_m (N : Nat) (m : ((List Z0) × (List Z4)) × (List Z2) × (List Z1)) (l : List UInt8) (k : List UInt8) (j : Int) : Option ((List Int)) :=
 (oB (i_Seg_posts_m N m.2 l k) fun d => iter (fun h (c, b, e, a) => bif decide (a < e) then oB (idx b a) fun f => (bif decide (f.1 = c) then some f.2 else if fits (a + 1) then h (c, b, e, (a + 1)) else none) else some ([] : List Int)) N (j, d, (d.length : Int), (0 : Int)))
theorem jrB (N : Nat) : mK 112 ⟨⟨[.ptr Y0, pS, pS, pI], []⟩, ⟨[.pv Y20], []⟩, c4A (i_scorer_places_m N)⟩ :=
 mO (fC (jcq N) ja) Tryz.func112 rfl N (.seq .no (.seq (.seq .no (.block (.loop jni .no))) .no)) _
def jmV : Sh := ⟨.dead :: pS :: dz 8 (.pv Y18 :: pI :: pI :: dz 10 []), []⟩
def i_DocField_m (N : Nat) (m : Int) (b : Z14) (j : Z7) (k : List UInt8) : Option (Z0) :=
 (oB (jbx N m b j) fun l => bif l then iter (fun i (e, d, c, a) => bif decide (a < c) then oB (idx d a) fun f => (bif decide (f.1 = e) then some f.2 else if fits (a + 1) then i (e, d, c, (a + 1)) else none) else some ([] : List UInt8)) N (k, b, (b.length : Int), (0 : Int)) else some ([] : List UInt8))
theorem jqd (N : Nat) : mK 211 ⟨⟨[.agg [pI, .pv Y18, .pv Y14], pS], []⟩, ⟨[pS], []⟩, c4A (i_DocField_m N)⟩ :=
 mO (fC (jh0 N) ja) Tryz.func211 rfl N (.seq .no (.seq (.seq .no (.cond (.seq .no (.block (.loop jmV .no))) .no)) .no)) _
def i_Seg_long_m (N : Nat) (f : (List Z2) × (List Z1)) (i : List Z0) (d : List Z4) (h : List UInt8) (b : Int) : Z9 :=
 (oB (i_Seg_doc_m N f b) fun a => bif !a.2.2.2 then some 0 else oB (i_DocField_m N a.1 a.2.1 a.2.2.1 h) fun e => oB (jbw N i d e) fun c => some (c.length : Int))
theorem jhs (N : Nat) : mK 165 ⟨⟨[.ptr Y1, .agg [.pv (.sl .str), .pv Y15], pS, pI], []⟩, ⟨[pI], []⟩, c5A (i_Seg_long_m N)⟩ :=
 mO (fC (jlU N) (fC (jqd N) (fC (jgO N) ja))) Tryz.func165 rfl N .no _
def joq : Sh := ⟨pI :: pI :: dz 13 [], []⟩
def ja2 (N : Nat) (f : Int) (e : Int) : Z9 :=
 (iter (fun d (a, b) => bif !decide (b = 0) then if b ≠ 0 then d (b, (a.tmod b)) else none else if fits (0 - a) then some (if (0 - a) > a then 0 - a else a) else none) N (f, e))
theorem jiQ (N : Nat) : mK 249 ⟨⟨[pI, pI], []⟩, ⟨[pI], []⟩, c2A (ja2 N)⟩ :=
 mO ja Tryz.func249 rfl N (.seq .no (.seq (.block (.loop joq .no)) .no)) _
def jbk (N : Nat) (b : Int) (a : Int) : Z6 :=
 (oB (jm N b (-1000000000) 1000000000) fun c => bif c then oB (jm N a 1 1000000000) fun e => (bif e then oB (ja2 N b a) fun d => (some (decide (d = 1))) else some false) else some false)
theorem jhS (N : Nat) : mK 213 ⟨⟨[.agg [pI, pI]], []⟩, ⟨[pB], []⟩, c2A (jbk N)⟩ :=
 mO (fC (jY N) (fC (jiQ N) ja)) Tryz.func213 rfl N .no _
def jk5 : Sh := ⟨pI :: pI :: .dead :: .dead :: .box 4 0 :: dz 24 [], [(4, false, [pI, pI])]⟩
def jcl (N : Nat) (e : Int) (d : Int) : Option (Int × Int × Bool) :=
 (meet (fun (h : Int × Int × Int × Int) => match h with | (b, c, j, k) => oB (ja2 N b c) fun a => if a ≠ 0 then if fits (b.tdiv a) then if a ≠ 0 then if fits (c.tdiv a) then oB (jbk N (b.tdiv a) (c.tdiv a)) fun i => (bif !i then some (0, 1, false) else some ((b.tdiv a), (c.tdiv a), true)) else none else none else none else none) fun f => bif decide (d < 0) then if fits (0 - e) then if fits (0 - d) then f ((0 - e), (0 - d), 0, 0) else none else none else f (e, d, 0, 0))
theorem jlG (N : Nat) : mK 248 ⟨⟨[pI, pI], []⟩, ⟨[.tup [.agg [pI, pI], pB]], []⟩, c2A (jcl N)⟩ :=
 mO (fC (jiQ N) (fC (jhS N) ja)) Tryz.func248 rfl N (.seq .no (.meet jk5 .no .no)) _
def jb7 (N : Nat) (c : Int) (b : Int) : Option (Int × Int × Bool) :=
 (oB (jm N c (-1000000000) 1000000000) fun e => bif !e then some (0, 1, false) else oB (jm N b (-1000000000) 1000000000) fun d => bif !d then some (0, 1, false) else bif decide (b = 0) then some (0, 1, false) else oB (jcl N c b) fun a => some (a.1, a.2.1, a.2.2))
theorem jpX (N : Nat) : mK 212 ⟨⟨[pI, pI], []⟩, ⟨[.tup [.agg [pI, pI], pB]], []⟩, c2A (jb7 N)⟩ :=
 mO (fC (jY N) (fC (jlG N) ja)) Tryz.func212 rfl N .no _
def jtO : Sh := ⟨pI :: pI :: pI :: pI :: pI :: dz 5 (.box 10 0 :: .dead :: pI :: dz 53 []), [(10, false, [pI, pI])]⟩
def i_TermScore_m (N : Nat) (f : Int) (k : Int) (m : Int) (h : Int) (l : Int) : Option (Int × Int × Bool) :=
 (oB (jm N f 1 80) fun w => bif !w then some (0, 1, false) else oB (jm N k f 80) fun o => bif !o then some (0, 1, false) else oB (jm N h 1 16) fun u => bif !u then some (0, 1, false) else oB (jm N l 1 h) fun q => bif !q then some (0, 1, false) else oB (jm N m k 1280) fun v => bif !v then some (0, 1, false) else iter (fun r (b, d, e, c, j, a, t, n) => if fits (a + 1) then if 0 ≤ (a + 1) then if fits (j * 2 ^ (min (a + 1).toNat (IntKind.bits .i64))) then bif decide ((j * 2 ^ (min (a + 1).toNat (IntKind.bits .i64))) ≤ c) then if fits (a + 1) then r (b, d, e, c, j, (a + 1), t, n) else none else (if fits (22 * b) then if fits (a + 1) then if fits ((22 * b) * (a + 1)) then if fits (10 * b) then if fits ((10 * b) + 3) then if fits (9 * d) then if fits ((9 * d) * c) then if e ≠ 0 then if fits (((9 * d) * c).tdiv e) then if fits (((10 * b) + 3) + (((9 * d) * c).tdiv e)) then oB (jb7 N ((22 * b) * (a + 1)) (((10 * b) + 3) + (((9 * d) * c).tdiv e))) fun i => (some (i.1, i.2.1, i.2.2)) else none else none else none else none else none else none else none else none else none else none) else none else none else none) N (f, k, m, h, l, (0 : Int), (0 : Int), (0 : Int)))
theorem jgE (N : Nat) : mK 166 ⟨⟨[pI, pI, pI, pI, pI], []⟩, ⟨[.tup [.agg [pI, pI], pB]], []⟩, c5A (i_TermScore_m N)⟩ :=
 mO (fC (jY N) (fC (jpX N) ja)) Tryz.func166 rfl N (.seq .no (.seq .no (.seq .no (.seq (.block (.loop jtO .no)) .no)))) _
def i_RatFloor_m (N : Nat) (b : Int) (a : Int) (c : Int) : Z9 :=
 (oB (jbk N b a) fun d => bif !d then some 0 else oB (jm N c 1 1000) fun e => bif !e then some 0 else if fits (b * c) then bif decide ((0 : Int) ≤ (b * c)) then if a ≠ 0 then if fits ((b * c).tdiv a) then some ((b * c).tdiv a) else none else none else (if fits (0 - (b * c)) then if fits ((0 - (b * c)) + a) then if fits (((0 - (b * c)) + a) - 1) then if a ≠ 0 then if fits ((((0 - (b * c)) + a) - 1).tdiv a) then if fits (0 - ((((0 - (b * c)) + a) - 1).tdiv a)) then some (0 - ((((0 - (b * c)) + a) - 1).tdiv a)) else none else none else none else none else none else none) else none)
theorem jiY (N : Nat) : mK 168 ⟨⟨[.agg [pI, pI], pI], []⟩, ⟨[pI], []⟩, c3A (i_RatFloor_m N)⟩ :=
 mO (fC (jhS N) (fC (jY N) ja)) Tryz.func168 rfl N .no _
def jlZ : Sh := ⟨.ptr Y0 :: pS :: pS :: pI :: dz 5 (.pv Y20 :: pI :: dz 16 (.pv Y2 :: pI :: pI :: dz 49 [])), []⟩
def i_scorer_points_m (N : Nat) (b : ((List Z0) × (List Z4)) × (List Z2) × (List Z1)) (m : List UInt8) (l : List UInt8) (h : Int) : Z9 :=
 (oB (i_scorer_places_m N b m l h) fun q => bif decide ((q.length : Int) = 0) then some 0 else iter (fun u (a, d, n, j, o, e, i, f, c) => bif decide (c < f) then oB (idx i c) fun x => (oB (i_Seg_long_m N a.2 a.1.1 a.1.2 d x.1) fun k => if fits (e + k) then if fits (c + 1) then u (a, d, n, j, o, (e + k), i, f, (c + 1)) else none else none) else oB (i_Seg_long_m N a.2 a.1.1 a.1.2 d j) fun w => oB (i_Seg_posts_m N a.2 d n) fun t => oB (i_TermScore_m N (o.length : Int) w e (a.2.1.length : Int) (t.length : Int)) fun p => oB (i_RatFloor_m N p.1 p.2.1 1000) fun v => some v) N (b, m, l, h, q, (0 : Int), b.2.1, (b.2.1.length : Int), (0 : Int)))
theorem jsD (N : Nat) : mK 106 ⟨⟨[.ptr Y0, pS, pS, pI], []⟩, ⟨[pI], []⟩, c4A (i_scorer_points_m N)⟩ :=
 mO (fC (jrB N) (fC (jhs N) (fC (jcq N) (fC (jgE N) (fC (jiY N) ja))))) Tryz.func106 rfl N (.seq .no (.seq .no (.seq .no (.seq .no (.seq (.seq .no (.block (.loop jlZ .no))) .no))))) _
def jyu (N : Nat) (a : List Z0) (b : List UInt8) : Option (Z0) := jxR a b
 
def jBB (N : Nat) : Model := ⟨⟨[.pv (.sl .str), pS], []⟩, ⟨[pS], []⟩, c2A (jyu N)⟩
theorem jBE (N : Nat) : mK 169 (jBB N) := jBz
def jDT : Sh := ⟨.pv Y20 :: dz 4 (.pv Y20 :: pI :: pI :: dz 24 []), []⟩
def jx1 (N : Nat) (d : List Int) : Z6 :=
 (iter (fun f (b, e, c, a) => bif decide (a < c) then oB (idx e a) fun h => (oB (jm N h 0 999999999) fun k => bif !k then some false else bif decide ((0 : Int) < a) then if fits (a - 1) then oB (idx b (a - 1)) fun i => (bif decide (h ≤ i) then some false else if fits (a + 1) then f (b, e, c, (a + 1)) else none) else none else if fits (a + 1) then f (b, e, c, (a + 1)) else none) else some (decide ((b.length : Int) ≤ 60))) N (d, d, (d.length : Int), (0 : Int)))
theorem jAN (N : Nat) : mK 264 ⟨⟨[.pv Y20], []⟩, ⟨[pB], []⟩, c1A (jx1 N)⟩ :=
 mO (fC (jY N) ja) Tryz.func264 rfl N (.seq .no (.seq (.seq .no (.block (.loop jDT .no))) .no)) _
def jBY : Sh := ⟨.pv (.sl Y20) :: dz 4 (.pv (.sl Y20) :: pI :: pI :: dz 10 []), []⟩
def jyD (N : Nat) (b : List (List Int)) : Z6 :=
 (iter (fun h (d, e, c, a) => bif decide (a < c) then oB (idx e a) fun j => (oB (jx1 N j) fun i => bif !i then some false else if fits (a + 1) then h (d, e, c, (a + 1)) else none) else some (decide ((d.length : Int) ≤ 6))) N (b, b, (b.length : Int), (0 : Int)))
theorem jD9 (N : Nat) : mK 252 ⟨⟨[.pv (.sl Y20)], []⟩, ⟨[pB], []⟩, c1A (jyD N)⟩ :=
 mO (fC (jAN N) ja) Tryz.func252 rfl N (.seq .no (.seq (.seq .no (.block (.loop jBY .no))) .no)) _
def jyK (N : Nat) (a : List (List Int)) : Z6 :=
 (bif decide ((0 : Int) < (a.length : Int)) then oB (jyD N a) fun b => (some b) else some false)
theorem jD6 (N : Nat) : mK 217 ⟨⟨[.pv (.sl Y20)], []⟩, ⟨[pB], []⟩, c1A (jyK N)⟩ :=
 mO (fC (jD9 N) ja) Tryz.func217 rfl N .no _
def jxH (N : Nat) (a : Int) : Z6 :=
 (some (!decide (a = a)))
theorem joK (N : Nat) : mK 177 ⟨⟨[pI], []⟩, ⟨[pB], []⟩, c1A (jxH N)⟩ :=
 mO ja Tryz.func177 rfl N .no _
def jye (N : Nat) (a : Int) (b : Int) : Z6 :=
 (oB (jxH N a) fun d => bif d then oB (jxH N b) fun c => (bif !c then some true else some (decide (a < b))) else some (decide (a < b)))
theorem jA5 (N : Nat) : mK 265 ⟨⟨[pI, pI], []⟩, ⟨[pB], []⟩, c2A (jye N)⟩ :=
 mO (fC (joK N) ja) Tryz.func265 rfl N .no _
def jxW (N : Nat) (a : Int) : Z6 :=
 (some (!decide (a = a)))
theorem jCp (N : Nat) : mK 266 ⟨⟨[pI], []⟩, ⟨[pB], []⟩, c1A (jxW N)⟩ :=
 mO ja Tryz.func266 rfl N .no _
def jB3 : Sh := ⟨.pv Y20 :: pI :: dz 4 (pI :: pI :: pI :: dz 45 []), []⟩
def jyA (N : Nat) (f : List Int) (o : Int) : Option (Int × Bool) :=
 (iter (fun h (d, c, e, a, b) => bif decide (a < b) then if fits (a + b) then if 0 ≤ (1 : Int) then oB (idx d (IntKind.i64.wrap ((IntKind.u64.wrap (a + b)).fdiv (2 ^ (min (1 : Int).toNat (IntKind.bits .u64)))))) fun p => (oB (jye N p c) fun n => bif n then if fits ((IntKind.i64.wrap ((IntKind.u64.wrap (a + b)).fdiv (2 ^ (min (1 : Int).toNat (IntKind.bits .u64))))) + 1) then h (d, c, e, ((IntKind.i64.wrap ((IntKind.u64.wrap (a + b)).fdiv (2 ^ (min (1 : Int).toNat (IntKind.bits .u64))))) + 1), b) else none else h (d, c, e, a, (IntKind.i64.wrap ((IntKind.u64.wrap (a + b)).fdiv (2 ^ (min (1 : Int).toNat (IntKind.bits .u64))))))) else none else none else bif decide (a < e) then oB (idx d a) fun i => (bif decide (i = c) then some (a, true) else oB (idx d a) fun k => oB (jxW N k) fun m => bif m then oB (jxW N c) fun l => (some (a, l)) else some (a, false)) else some (a, false)) N (f, o, (f.length : Int), (0 : Int), (f.length : Int)))
theorem jDL (N : Nat) : mK 253 ⟨⟨[.pv Y20, pI], []⟩, ⟨[.tup [pI, pB]], []⟩, c2A (jyA N)⟩ :=
 mO (fC (jA5 N) (fC (jCp N) ja)) Tryz.func253 rfl N (.seq .no (.seq .no (.seq .no (.seq (.block (.loop jB3 .no)) .no)))) _
def jys (N : Nat) (a : List Int) (c : Int) : Option (Int × Bool) :=
 (oB (jyA N a c) fun b => bif decide (b.1 = (a.length : Int)) then some (0, false) else oB (idx a b.1) fun d => some (d, true))
theorem jAO (N : Nat) : mK 218 ⟨⟨[.pv Y20, pI], []⟩, ⟨[.tup [pI, pB]], []⟩, c2A (jys N)⟩ :=
 mO (fC (jDL N) ja) Tryz.func218 rfl N .no _
def jBS : Sh := ⟨.pv (.sl Y20) :: pI :: dz 3 (.own 600005 tI 3 true :: dz 20 (.pv Y20 :: pI :: pI :: dz 42 [])), []⟩
def jDv : Sh := ⟨.pv (.sl Y20) :: pI :: dz 3 (.own 600005 tI 3 true :: .dead :: pI :: pI :: pB :: dz 16 (.pv Y20 :: pI :: pI :: dz 5 (.pv (.sl Y20) :: pI :: pI :: dz 34 []))), []⟩
def jyw (N : Nat) (m : List (List Int)) (A : Int) : Option ((List Int)) :=
 (oB (jyK N m) fun G => bif !G then some ([] : List Int) else oB (jm N A 0 5) fun D => bif !D then some ([] : List Int) else oB (idx m 0) fun B => iter (fun p (r, E, z, w, u, k) => bif decide (k < u) then oB (idx w k) fun t => (oB (cut r 1 (r.length : Int)) fun v => iter (fun y (a, d, f, b, n, x, i, h, c, j, l, e) => bif decide (e < l) then oB (idx j e) fun C => (if fits (n + 1) then oB (jys N C (n + 1)) fun q => (bif x then if fits (e + 1) then y (a, d, f, b, q.1, q.2, i, h, c, j, l, (e + 1)) else none else if fits (e + 1) then y (a, d, f, b, q.1, false, i, h, c, j, l, (e + 1)) else none) else none) else bif x then if fits (b + (a.length : Int)) then if fits ((b + (a.length : Int)) - 1) then if fits (((b + (a.length : Int)) - 1) + d) then bif decide (n ≤ (((b + (a.length : Int)) - 1) + d)) then if room f.length ([b] : List Int).length 8 then if fits (c + 1) then p (a, d, (f ++ ([b] : List Int)), i, h, (c + 1)) else none else none else (if fits (c + 1) then p (a, d, f, i, h, (c + 1)) else none) else none else none else none else if fits (c + 1) then p (a, d, f, i, h, (c + 1)) else none) N (r, E, z, t, t, true, w, u, k, v, (v.length : Int), (0 : Int))) else some z) N (m, A, ([] : List Int), B, (B.length : Int), (0 : Int)))
theorem jCX (N : Nat) : mK 170 ⟨⟨[.pv (.sl Y20), pI], []⟩, ⟨[.own 1 tI 3 true], []⟩, c2A (jyw N)⟩ :=
 mO (fC (jD6 N) (fC (jY N) (fC (jAO N) ja))) Tryz.func170 rfl N (.seq .no (.seq .no (.seq .no (.seq (.seq .no (.block (.loop jBS (.seq .no (.seq .no (.seq (.block (.seq .no (.seq .no (.seq (.seq .no (.block (.loop jDv .no))) .no)))) .no)))))) .no)))) _
def jCk : Sh := ⟨.ptr Y0 :: dz 3 (.box 4 0 :: .box 5 0 :: .dead :: .own 600007 Y16 186 true :: .own 600008 Y20 54 true :: pI :: dz 18 (.pv Y14 :: pI :: pI :: dz 59 [])), [(4, false, [pI, pS, .pv (.sl .str), pI, pI, .pv (.sl .q)]), (5, false, [pI, .pv Y18, .pv Y14])]⟩
def jDK : Sh := ⟨.ptr Y0 :: dz 3 (.box 4 0 :: .box 5 0 :: .dead :: .own 600007 Y16 186 true :: .own 600008 Y20 54 true :: pI :: pI :: .box 11 0 :: .own 600012 tI 3 true :: dz 15 (.pv Y14 :: pI :: pI :: dz 12 (.pv Y20 :: pI :: pI :: dz 44 []))), [(4, false, [pI, pS, .pv (.sl .str), pI, pI, .pv (.sl .q)]), (5, false, [pI, .pv Y18, .pv Y14]), (11, false, [pS, pI])]⟩
def jyB (N : Nat) (x : ((List Z0) × (List Z4)) × (List Z2) × (List Z1)) (q : Int) (q2 : List UInt8) (q3 : List Z0) (q4 : Int) (q5 : Int) (q6 : List DQ) (d : Int) (d2 : Z14) (d3 : Z7) : Z9 :=
 (oB (jyu N q3 ([32] : List UInt8)) fun r => oB (jbw N x.1.1 x.1.2 r) fun r2 => bif decide ((r2.length : Int) = 0) then some 0 else iter (fun go (x2, terms, lists, all, t28, t29, t30, q7, q8, q9, q10, q11, q12, d4, d5, d6) => bif decide (t30 < t29) then oB (idx t28 t30) fun e => (oB (i_scorer_places_m N x2 q8 e.1 d4) fun r3 => iter (fun go2 (x3, terms2, lists2, all2, i, list, t282, t292, t302, t43, t44, t45, q13, q14, q15, q16, q17, q18, d7, d8, d9, t, t2) => bif decide (t45 < t44) then oB (idx t43 t45) fun e2 => (oB (idx terms2 0) fun e3 => if fits (t2 - e3.2) then if fits ((t2 - e3.2) - i) then if fits (e2 - ((t2 - e3.2) - i)) then bif decide ((0 : Int) ≤ (e2 - ((t2 - e3.2) - i))) then if room list.length ([(e2 - ((t2 - e3.2) - i))] : List Int).length 8 then if fits (t45 + 1) then go2 (x3, terms2, lists2, all2, i, (list ++ ([(e2 - ((t2 - e3.2) - i))] : List Int)), t282, t292, t302, t43, t44, (t45 + 1), q13, q14, q15, q16, q17, q18, d7, d8, d9, t, t2) else none else none else (if fits (t45 + 1) then go2 (x3, terms2, lists2, all2, i, list, t282, t292, t302, t43, t44, (t45 + 1), q13, q14, q15, q16, q17, q18, d7, d8, d9, t, t2) else none) else none else none else none) else if room lists2.length ([list] : List (List Int)).length 24 then oB (i_scorer_points_m N x3 q14 t d7) fun r4 => (if fits (all2 + r4) then if fits (t302 + 1) then go (x3, terms2, (lists2 ++ ([list] : List (List Int))), (all2 + r4), t282, t292, (t302 + 1), q13, q14, q15, q16, q17, q18, d7, d8, d9) else none else none) else none) N (x2, terms, lists, all, t30, ([] : List Int), t28, t29, t30, r3, (r3.length : Int), (0 : Int), q7, q8, q9, q10, q11, q12, d4, d5, d6, e.1, e.2)) else oB (jyw N lists q10) fun r5 => if fits ((if (r5.length : Int) < 3 then (r5.length : Int) else 3) * all) then some ((if (r5.length : Int) < 3 then (r5.length : Int) else 3) * all) else none) N (x, r2, ([] : List (List Int)), (0 : Int), r2, (r2.length : Int), (0 : Int), q, q2, q3, q4, q5, q6, d, d2, d3))
theorem jDC (N : Nat) : mK 108 ⟨⟨[.ptr Y0, .agg [pI, pS, .pv (.sl .str), pI, pI, .pv (.sl .q)], .agg [pI, .pv Y18, .pv Y14]], []⟩, ⟨[pI], []⟩, c10A (jyB N)⟩ :=
 mO (fC (jBE N) (fC (jgO N) (fC (jrB N) (fC (jsD N) (fC (jCX N) ja))))) Tryz.func108 rfl N (.seq .no (.seq .no (.seq .no (.seq .no (.seq .no (.seq (.seq .no (.block (.loop jCk (.seq .no (.seq .no (.seq (.block (.seq .no (.seq .no (.seq (.seq .no (.block (.loop jDK .no))) .no)))) .no)))))) .no)))))) _
def jtE : Sh := ⟨.dead :: pS :: dz 3 (.own 600005 .str 9 true :: dz 6 (.pv Y4 :: pI :: pI :: dz 14 [])), []⟩
def i_Seg_terms_m (N : Nat) (i : (List Z2) × (List Z1)) (k : List UInt8) : Option ((List Z0)) :=
 (iter (fun h (e, b, d, c, a) => bif decide (a < c) then oB (idx d a) fun f => (bif decide (f.1 = e) then if room b.length ([f.2.1] : List Z0).length 16 then if fits (a + 1) then h (e, (b ++ ([f.2.1] : List Z0)), d, c, (a + 1)) else none else none else if fits (a + 1) then h (e, b, d, c, (a + 1)) else none) else some b) N (k, ([] : List Z0), i.2, (i.2.length : Int), (0 : Int)))
theorem jln (N : Nat) : mK 109 ⟨⟨[.ptr Y1, pS], []⟩, ⟨[.own 1 .str 9 true], []⟩, c2A (i_Seg_terms_m N)⟩ :=
 mO ja Tryz.func109 rfl N (.seq .no (.seq .no (.seq (.seq .no (.block (.loop jtE .no))) .no))) _
def jDE : Sh := ⟨pS :: pS :: dz 3 (.mtk 600005 tI 3 true :: dz 18 (pI :: pI :: dz 62 [])), []⟩
def jBC : Sh := ⟨pS :: pS :: dz 3 (.mtk 600005 tI 3 true :: .dead :: pI :: dz 80 []), []⟩
def jCv : Sh := ⟨pS :: pS :: dz 3 (.mtk 600005 tI 3 true :: .dead :: pI :: pI :: pI :: dz 78 []), []⟩
def jAI : Sh := ⟨pS :: pS :: dz 3 (.mtk 600005 tI 3 true :: .dead :: pI :: .dead :: pI :: pI :: dz 77 []), []⟩
def jAQ : Sh := ⟨pS :: pS :: dz 3 (.mtk 22 tI 3 true :: dz 82 []), []⟩
def jDZ : Sh := ⟨pS :: pS :: dz 86 [], []⟩
def i_NearFar_m (N : Nat) (a : List UInt8) (b : List UInt8) : Z9 :=
 (meet (fun (g : Z0 × Z0) => match g with | (a2, b2) => meet (fun (g : Z0 × Z0 × (List Int)) => match g with | (a3, b3, row) => iter (fun go (a4, b4, row2, t24, t25) => bif decide (t25 < t24) then if 0 ≤ t25 ∧ t25 < (row2.length : Int) then oB (row2[t25.toNat]?) fun e => (if fits (t25 + 1) then go (a4, b4, (row2.set t25.toNat t25), t24, (t25 + 1)) else none) else none else iter (fun go2 (a5, b5, row3, i) => bif decide (i ≤ (a5.length : Int)) then if 0 ≤ (0 : Int) ∧ (0 : Int) < (row3.length : Int) then oB (row3[(0 : Int).toNat]?) fun e2 => (if 0 ≤ (0 : Int) ∧ (0 : Int) < (row3.length : Int) then oB (row3[(0 : Int).toNat]?) fun e3 => (iter (fun go3 (a6, b6, row4, i2, corner, j) => bif decide (j ≤ (b6.length : Int)) then meet (fun (g : Z17) => match g with | (a7, b7, row5, i3, j2, cost) => if 0 ≤ j2 ∧ j2 < (row5.length : Int) then oB (row5[j2.toNat]?) fun e4 => (if 0 ≤ j2 ∧ j2 < (row5.length : Int) then oB (row5[j2.toNat]?) fun e5 => (if fits (e5 + 1) then if fits (j2 - 1) then if 0 ≤ (j2 - 1) ∧ (j2 - 1) < (row5.length : Int) then oB (row5[(j2 - 1).toNat]?) fun e6 => (if fits (e6 + 1) then if 0 ≤ j2 ∧ j2 < (row5.length : Int) then oB (row5[j2.toNat]?) fun e7 => (if fits (j2 + 1) then go3 (a7, b7, (row5.set j2.toNat (if (e6 + 1) < (if (e5 + 1) < cost then e5 + 1 else cost) then e6 + 1 else if (e5 + 1) < cost then e5 + 1 else cost)), i3, e4, (j2 + 1)) else none) else none else none) else none else none else none) else none) else none) fun J3 => (if fits (i2 - 1) then oB (idx a6 (i2 - 1)) fun c => (if fits (j - 1) then oB (idx b6 (j - 1)) fun c2 => (bif !decide ((c.toNat : Int) = (c2.toNat : Int)) then if fits (corner + 1) then J3 (a6, b6, row4, i2, j, (corner + 1)) else none else J3 (a6, b6, row4, i2, j, corner)) else none) else none) else if fits (i2 + 1) then go2 (a6, b6, row4, (i2 + 1)) else none) N (a5, b5, (row3.set (0 : Int).toNat i), i, e2, (1 : Int))) else none) else none else if 0 ≤ (b5.length : Int) ∧ (b5.length : Int) < (row3.length : Int) then oB (row3[(b5.length : Int).toNat]?) fun e8 => (some e8) else none) N (a4, b4, row2, (1 : Int))) N (a3, b3, row, (row.length : Int), (0 : Int))) fun J2 => if fits ((b2.length : Int) + 1) then if ((b2.length : Int) + 1) = ((b2.length : Int) + 1) ∧ 0 ≤ ((b2.length : Int) + 1) ∧ ((b2.length : Int) + 1) * 8 ≤ 140737488355328 ∧ ((b2.length : Int) + 1) ≤ 140737488355328 then J2 (a2, b2, (List.replicate ((b2.length : Int) + 1).toNat 0)) else none else none) fun J => oB (jO N a) fun r => bif !r then some (-1) else oB (jO N b) fun r2 => bif !r2 then some (-1) else J (a, b))
theorem jDu (N : Nat) : mK 110 ⟨⟨[pS, pS], []⟩, ⟨[pI], []⟩, c2A (i_NearFar_m N)⟩ :=
 mO (fC (jcM N) ja) Tryz.func110 rfl N (.seq .no (.meet jDZ .no (.meet jAQ .no (.seq (.seq .no (.block (.loop jDE .no))) (.seq (.seq .no (.block (.loop jBC (.seq .no (.seq (.block (.seq .no (.seq .no (.seq .no (.block (.loop jCv (.seq .no (.seq (.block (.seq .no (.meet jAI .no .no))) .no)))))))) .no))))) .no))))) _ (wr := [22])
def jxG (N : Nat) : (D : Nat) → Z0 → Z0 → Z6
 | 0, _, _ => none
 | D + 1, p, s =>
 bif decide (p = ([] : List UInt8)) then
 some (decide (s = ([] : List UInt8)))
 else
 oB (idx p 0) fun c =>
 bif decide ((c.toNat : Int) = 42) then
 oB (cut p 1 (p.length : Int)) fun y =>
 (oB (jxG N D y s) fun r =>
 bif r then
 some true
 else
 bif !decide (s = ([] : List UInt8)) then
 oB (cut s 1 (s.length : Int)) fun y2 =>
 (oB (jxG N D p y2) fun r2 =>
 some r2)
 else
 some false)
 else
 bif decide (s = ([] : List UInt8)) then
 some false
 else
 oB (idx p 0) fun c2 =>
 bif decide ((c2.toNat : Int) = 63) then
 oB (cut p 1 (p.length : Int)) fun y3 =>
 (oB (cut s 1 (s.length : Int)) fun y4 =>
 oB (jxG N D y3 y4) fun r3 =>
 some r3)
 else
 oB (idx p 0) fun c3 =>
 oB (idx s 0) fun c4 =>
 bif decide ((c3.toNat : Int) = (c4.toNat : Int)) then
 oB (cut p 1 (p.length : Int)) fun y5 =>
 (oB (cut s 1 (s.length : Int)) fun y6 =>
 oB (jxG N D y5 y6) fun r4 =>
 some r4)
 else
 some false
def jyg (N D : Nat) : Model := ⟨⟨[pS, pS], []⟩, ⟨[pB], []⟩, c2A (jxG N D)⟩
theorem jBG (N D : Nat) (ih : mK 171 (jyg N D)) : mK 171 (jyg N (D + 1)) :=
 mO (fC ih ja) Tryz.func171 rfl N .no (jyg N (D + 1))
theorem jAz (N : Nat) : ∀ D, mK 171 (jyg N D)
 | 0 => modelOk_none ⟨_, Tryz.func171, by decide, by kernel_rfl⟩ _ (fun a => rfl)
 | D + 1 => jBG N D (jAz N D)
def jx0 (N : Nat) (a : List UInt8) (b : List UInt8) : Z6 :=
 (oB (jxV N a) fun e => bif e then oB (jO N b) fun d => (bif d then oB (jxG N N a b) fun c => (some c) else some false) else some false)
theorem jDd (N : Nat) : mK 111 ⟨⟨[pS, pS], []⟩, ⟨[pB], []⟩, c2A (jx0 N)⟩ :=
 mO (fC (jz9 N) (fC (jcM N) (fC (jAz N N) ja))) Tryz.func111 rfl N .no _
def jD5 : Sh := ⟨.dead :: pS :: dz 8 (.pv Y14 :: pI :: pI :: dz 10 []), []⟩
def jyp (N : Nat) (m : Int) (k : Z14) (b : Z7) (j : List UInt8) : Z9 :=
 (oB (jbx N m k b) fun l => bif l then iter (fun i (e, d, c, a) => bif decide (a < c) then oB (idx d a) fun f => (bif decide (f.1 = e) then some f.2 else if fits (a + 1) then i (e, d, c, (a + 1)) else none) else some (-1)) N (j, b, (b.length : Int), (0 : Int)) else some (-1))
theorem jBQ (N : Nat) : mK 113 ⟨⟨[.agg [pI, .pv Y18, .pv Y14], pS], []⟩, ⟨[pI], []⟩, c4A (jyp N)⟩ :=
 mO (fC (jh0 N) ja) Tryz.func113 rfl N (.seq .no (.seq (.seq .no (.cond (.seq .no (.block (.loop jD5 .no))) .no)) .no)) _
def jDa : Sh := ⟨.ptr Y0 :: dz 3 (.box 4 0 :: .box 5 0 :: .dead :: pI :: dz 43 (.own 600051 .str 9 true :: pI :: pI :: dz 122 [])), [(4, false, [pI, pS, .pv (.sl .str), pI, pI, .pv (.sl .q)]), (5, false, [pI, .pv Y18, .pv Y14])]⟩
def jCO : Sh := ⟨.ptr Y0 :: dz 3 (.box 4 0 :: .box 5 0 :: dz 83 (.own 600089 .str 9 true :: pI :: pI :: dz 84 [])), [(4, false, [pI, pS, .pv (.sl .str), pI, pI, .pv (.sl .q)]), (5, false, [pI, .pv Y18, .pv Y14])]⟩
def jDp : Sh := ⟨.ptr Y0 :: dz 3 (.box 4 0 :: .box 5 0 :: dz 7 (pI :: dz 140 (.pv (.sl .q) :: pI :: pI :: dz 19 []))), [(4, false, [pI, pS, .pv (.sl .str), pI, pI, .pv (.sl .q)]), (5, false, [pI, .pv Y18, .pv Y14])]⟩
def i_scorer_score_m (N : Nat) : (D : Nat) → Z12 → Int → Z0 → (List Z0) → Int → Int → (List DQ) → Int → Z11 → Z5 → Z9
 | 0, _, _, _, _, _, _, _, _, _, _ => none
 | D + 1, x, q, q2, q3, q4, q5, q6, d, d2, d3 =>
 bif decide (q = 1) then
 some 100
 else
 bif decide (q = 2) then
 oB (idx q3 0) fun e =>
 (oB (jyc N x.1.1 x.1.2 e) fun r =>
 oB (i_scorer_points_m N x q2 r d) fun r2 =>
 some r2)
 else
 bif decide (q = 3) then
 oB (jyB N x q q2 q3 q4 q5 q6 d d2 d3) fun r3 =>
 (some r3)
 else
 bif decide (q = 4) then
 oB (i_Seg_terms_m N x.2 q2) fun r4 =>
 (iter (fun go (g : Z12 × Int × (List Z0) × Int × Int × Int × Z0 × (List Z0) × Int × Int × (List DQ) × Int × Z11 × Z5) =>
 match g with
 | (x2, best, t51, t52, t53, q7, q8, q9, q10, q11, q12, d4, d5, d6) =>
 bif decide (t53 < t52) then
 oB (idx t51 t53) fun e2 =>
 (oB (idx q9 0) fun e3 =>
 oB (i_NearFar_m N e2 e3) fun r5 =>
 oB (jm N r5 0 q10) fun r6 =>
 bif r6 then
 oB (i_scorer_points_m N x2 q8 e2 d4) fun r7 =>
 (if fits (3 - r5) then if fits (r7 * (3 - r5)) then if 3 ≠ 0 then
 if fits ((r7 * (3 - r5)).tdiv 3) then if fits (t53 + 1) then go (x2, (if ((r7 * (3 - r5)).tdiv 3) > best then (r7 * (3 - r5)).tdiv 3 else best), t51, t52, (t53 + 1), q7, q8, q9, q10, q11, q12, d4, d5, d6) else none else none
 else none else none else none)
 else
 if fits (t53 + 1) then go (x2, best, t51, t52, (t53 + 1), q7, q8, q9, q10, q11, q12, d4, d5, d6) else none)
 else
 some best) N (x, 0, r4, (r4.length : Int), 0, q, q2, q3, q4, q5, q6, d, d2, d3))
 else
 bif decide (q = 5) then
 oB (i_Seg_terms_m N x.2 q2) fun r8 =>
 (iter (fun go2 (g : Z12 × (List Z0) × Int × Int × Int × Z0 × (List Z0) × Int × Int × (List DQ) × Int × Z11 × Z5) =>
 match g with
 | (x3, t89, t90, t91, q13, q14, q15, q16, q17, q18, d7, d8, d9) =>
 bif decide (t91 < t90) then
 oB (idx t89 t91) fun e4 =>
 (oB (idx q15 0) fun e5 =>
 oB (jx0 N e5 e4) fun r9 =>
 bif r9 then
 oB (i_scorer_places_m N x3 q14 e4 d7) fun r10 =>
 (bif decide ((0 : Int) < (r10.length : Int)) then
 some 100
 else
 if fits (t91 + 1) then go2 (x3, t89, t90, (t91 + 1), q13, q14, q15, q16, q17, q18, d7, d8, d9) else none)
 else
 if fits (t91 + 1) then go2 (x3, t89, t90, (t91 + 1), q13, q14, q15, q16, q17, q18, d7, d8, d9) else none)
 else
 some 0) N (x, r8, (r8.length : Int), 0, q, q2, q3, q4, q5, q6, d, d2, d3))
 else
 bif decide (q = 6) then
 oB (jyp N d d2 d3 q2) fun r11 =>
 (oB (jm N r11 q4 q5) fun r12 =>
 bif r12 then
 some 100
 else
 some 0)
 else
 bif decide (q = 10) then
 oB (idx q6 0) fun e6 =>
 (oB (i_scorer_score_m N D x e6.kind e6.field e6.words e6.lo e6.hi e6.kids d d2 d3) fun r13 =>
 if fits (q4 * r13) then some (q4 * r13) else none)
 else
 bif decide (q = 9) then
 oB (idx q6 1) fun e7 =>
 (oB (i_scorer_score_m N D x e7.kind e7.field e7.words e7.lo e7.hi e7.kids d d2 d3) fun r14 =>
 bif decide ((0 : Int) < r14) then
 some 0
 else
 oB (idx q6 0) fun e8 =>
 oB (i_scorer_score_m N D x e8.kind e8.field e8.words e8.lo e8.hi e8.kids d d2 d3) fun r15 =>
 some r15)
 else
 iter (fun go3 (g : Z12 × Int × (List DQ) × Int × Int × Int × Z0 × (List Z0) × Int × Int × (List DQ) × Int × Z11 × Z5) =>
 match g with
 | (x4, all, t154, t155, t156, q19, q20, q21, q22, q23, q24, d10, d11, d12) =>
 bif decide (t156 < t155) then
 oB (idx t154 t156) fun e9 =>
 (oB (i_scorer_score_m N D x4 e9.kind e9.field e9.words e9.lo e9.hi e9.kids d10 d11 d12) fun r16 =>
 bif decide (r16 = 0) then
 bif decide (q19 = 7) then
 some 0
 else
 (if fits (all + r16) then if fits (t156 + 1) then go3 (x4, (all + r16), t154, t155, (t156 + 1), q19, q20, q21, q22, q23, q24, d10, d11, d12) else none else none)
 else
 if fits (all + r16) then if fits (t156 + 1) then go3 (x4, (all + r16), t154, t155, (t156 + 1), q19, q20, q21, q22, q23, q24, d10, d11, d12) else none else none)
 else
 some all) N (x, 0, q6, (q6.length : Int), 0, q, q2, q3, q4, q5, q6, d, d2, d3)
def jx6 (N D : Nat) : Model := ⟨⟨[.ptr Y0, .agg [pI, pS, .pv (.sl .str), pI, pI, .pv (.sl .q)], .agg [pI, .pv Y18, .pv Y14]], []⟩, ⟨[pI], []⟩, c10A (i_scorer_score_m N D)⟩
theorem jBq (N D : Nat) (ih : mK 60 (jx6 N D)) : mK 60 (jx6 N (D + 1)) :=
 mO (fC ih (fC (jBn N) (fC (jsD N) (fC (jDC N) (fC (jln N) (fC (jDu N) (fC (jY N) (fC (jDd N) (fC (jrB N) (fC (jBQ N) ja)))))))))) Tryz.func60 rfl N (.seq .no (.seq (.seq .no (.block (.seq .no (.cond .no (.seq .no (.cond .no (.seq .no (.cond .no (.seq .no (.cond (.seq .no (.seq (.seq .no (.block (.loop jDa .no))) .no)) (.seq .no (.cond (.seq (.seq .no (.block (.loop jCO .no))) .no) .no)))))))))))) (.seq .no (.seq (.seq .no (.block (.loop jDp .no))) .no)))) (jx6 N (D + 1))
theorem jzy (N : Nat) : ∀ D, mK 60 (jx6 N D)
 | 0 => modelOk_none ⟨_, Tryz.func60, by decide, by kernel_rfl⟩ _ (fun a => rfl)
 | D + 1 => jBq N D (jzy N D)
def jo5 : Sh := ⟨.pv (.sl .str) :: .pv (.sl .str) :: dz 3 (pI :: dz 20 []), []⟩
def j0 (N : Nat) (e : List Z0) (c : List Z0) : Z6 :=
 (bif !decide ((e.length : Int) = (c.length : Int)) then some false else iter (fun i (b, d, a) => bif decide (a < (b.length : Int)) then oB (idx b a) fun j => (oB (idx d a) fun f => bif !decide (j = f) then some false else if fits (a + 1) then i (b, d, (a + 1)) else none) else some true) N (e, c, (0 : Int)))
theorem jd6 (N : Nat) : mK 61 ⟨⟨[.pv (.sl .str), .pv (.sl .str)], []⟩, ⟨[pB], []⟩, c2A (j0 N)⟩ :=
 mO ja Tryz.func61 rfl N (.seq .no (.seq .no (.seq (.seq .no (.block (.loop jo5 .no))) .no))) _
def jaR (N : Nat) (c : List Z0) (e : List UInt8) (b : List Z0) (d : List UInt8) : Z6 :=
 (oB (j0 N c b) fun a => bif !a then some false else bif !decide (e = d) then some false else some true)
theorem jqb (N : Nat) : mK 114 ⟨⟨[.agg [.pv (.sl .str), pS], .agg [.pv (.sl .str), pS]], []⟩, ⟨[pB], []⟩, c4A (jaR N)⟩ :=
 mO (fC (jd6 N) ja) Tryz.func114 rfl N .no _
def jp9 : Sh := ⟨.pv Y15 :: .pv Y15 :: dz 3 (pI :: dz 21 []), []⟩
def jdJ (N : Nat) (f : List Z4) (d : List Z4) : Z6 :=
 (bif !decide ((f.length : Int) = (d.length : Int)) then some false else iter (fun j (b, e, a) => bif decide (a < (b.length : Int)) then oB (idx b a) fun h => (oB (idx e a) fun c => oB (jaR N h.1 h.2 c.1 c.2) fun k => bif !k then some false else if fits (a + 1) then j (b, e, (a + 1)) else none) else some true) N (f, d, (0 : Int)))
theorem jkU (N : Nat) : mK 62 ⟨⟨[.pv Y15, .pv Y15], []⟩, ⟨[pB], []⟩, c2A (jdJ N)⟩ :=
 mO (fC (jqb N) ja) Tryz.func62 rfl N (.seq .no (.seq .no (.seq (.seq .no (.block (.loop jp9 .no))) .no))) _
def jcO (N : Nat) (d : List Z0) (f : List Z4) (c : List Z0) (e : List Z4) : Z6 :=
 (oB (j0 N d c) fun b => bif !b then some false else oB (jdJ N f e) fun a => bif !a then some false else some true)
theorem jr8 (N : Nat) : mK 17 ⟨⟨[.agg [.pv (.sl .str), .pv Y15], .agg [.pv (.sl .str), .pv Y15]], []⟩, ⟨[pB], []⟩, c4A (jcO N)⟩ :=
 mO (fC (jd6 N) (fC (jkU N) ja)) Tryz.func17 rfl N .no _
def jbd (N : Nat) (b : List UInt8) (d : List UInt8) (a : List UInt8) (c : List UInt8) : Z6 :=
 (bif !decide (b = a) then some false else bif !decide (d = c) then some false else some true)
theorem jmy (N : Nat) : mK 219 ⟨⟨[.agg [pS, pS], .agg [pS, pS]], []⟩, ⟨[pB], []⟩, c4A (jbd N)⟩ :=
 mO ja Tryz.func219 rfl N .no _
def jqq : Sh := ⟨.pv Y18 :: .pv Y18 :: dz 3 (pI :: dz 21 []), []⟩
def jdj (N : Nat) (f : Z14) (d : Z14) : Z6 :=
 (bif !decide ((f.length : Int) = (d.length : Int)) then some false else iter (fun j (b, e, a) => bif decide (a < (b.length : Int)) then oB (idx b a) fun h => (oB (idx e a) fun c => oB (jbd N h.1 h.2 c.1 c.2) fun k => bif !k then some false else if fits (a + 1) then j (b, e, (a + 1)) else none) else some true) N (f, d, (0 : Int)))
theorem jmD (N : Nat) : mK 172 ⟨⟨[.pv Y18, .pv Y18], []⟩, ⟨[pB], []⟩, c2A (jdj N)⟩ :=
 mO (fC (jmy N) ja) Tryz.func172 rfl N (.seq .no (.seq .no (.seq (.seq .no (.block (.loop jqq .no))) .no))) _
def jbo (N : Nat) (b : List UInt8) (d : Int) (a : List UInt8) (c : Int) : Z6 :=
 (bif !decide (b = a) then some false else bif !decide (d = c) then some false else some true)
theorem jtn (N : Nat) : mK 220 ⟨⟨[.agg [pS, pI], .agg [pS, pI]], []⟩, ⟨[pB], []⟩, c4A (jbo N)⟩ :=
 mO ja Tryz.func220 rfl N .no _
def jtU : Sh := ⟨.pv Y14 :: .pv Y14 :: dz 3 (pI :: dz 21 []), []⟩
def jdN (N : Nat) (f : Z7) (d : Z7) : Z6 :=
 (bif !decide ((f.length : Int) = (d.length : Int)) then some false else iter (fun j (b, e, a) => bif decide (a < (b.length : Int)) then oB (idx b a) fun h => (oB (idx e a) fun c => oB (jbo N h.1 h.2 c.1 c.2) fun k => bif !k then some false else if fits (a + 1) then j (b, e, (a + 1)) else none) else some true) N (f, d, (0 : Int)))
theorem jkL (N : Nat) : mK 173 ⟨⟨[.pv Y14, .pv Y14], []⟩, ⟨[pB], []⟩, c2A (jdN N)⟩ :=
 mO (fC (jtn N) ja) Tryz.func173 rfl N (.seq .no (.seq .no (.seq (.seq .no (.block (.loop jtU .no))) .no))) _
def jbi (N : Nat) (i : Int) (e : Z14) (c : Z7) (b : Int) (d : Z14) (a : Z7) : Z6 :=
 (bif !decide (i = b) then some false else oB (jdj N e d) fun h => bif !h then some false else oB (jdN N c a) fun f => bif !f then some false else some true)
theorem jta (N : Nat) : mK 115 ⟨⟨[.agg [pI, .pv Y18, .pv Y14], .agg [pI, .pv Y18, .pv Y14]], []⟩, ⟨[pB], []⟩, c6A (jbi N)⟩ :=
 mO (fC (jmD N) (fC (jkL N) ja)) Tryz.func115 rfl N .no _
def jqZ : Sh := ⟨.pv Y2 :: .pv Y2 :: dz 3 (pI :: dz 21 []), []⟩
def jdZ (N : Nat) (h : List Z2) (e : List Z2) : Z6 :=
 (bif !decide ((h.length : Int) = (e.length : Int)) then some false else iter (fun j (c, f, a) => bif decide (a < (c.length : Int)) then oB (idx c a) fun d => (oB (idx f a) fun b => oB (jbi N d.1 d.2.1 d.2.2 b.1 b.2.1 b.2.2) fun k => bif !k then some false else if fits (a + 1) then j (c, f, (a + 1)) else none) else some true) N (h, e, (0 : Int)))
theorem jmb (N : Nat) : mK 63 ⟨⟨[.pv Y2, .pv Y2], []⟩, ⟨[pB], []⟩, c2A (jdZ N)⟩ :=
 mO (fC (jta N) ja) Tryz.func63 rfl N (.seq .no (.seq .no (.seq (.seq .no (.block (.loop jqZ .no))) .no))) _
def jea (N : Nat) (e : List Int) (c : List Int) : Z6 :=
 (bif !decide ((e.length : Int) = (c.length : Int)) then some false else iter (fun i (b, d, a) => bif decide (a < (b.length : Int)) then oB (idx b a) fun j => (oB (idx d a) fun f => bif !decide (j = f) then some false else if fits (a + 1) then i (b, d, (a + 1)) else none) else some true) N (e, c, (0 : Int)))
theorem jmk (N : Nat) : mK 22 ⟨⟨[.pv Y20, .pv Y20], []⟩, ⟨[pB], []⟩, c2A (jea N)⟩ :=
 mO ja Tryz.func22 rfl N (.seq .no (.seq .no (.seq (.seq .no (.block (.loop jnI .no))) .no))) _
def jbl (N : Nat) (c : Int) (e : List Int) (b : Int) (d : List Int) : Z6 :=
 (bif !decide (c = b) then some false else oB (jea N e d) fun a => bif !a then some false else some true)
theorem jrv (N : Nat) : mK 221 ⟨⟨[.agg [pI, .pv Y20], .agg [pI, .pv Y20]], []⟩, ⟨[pB], []⟩, c4A (jbl N)⟩ :=
 mO (fC (jmk N) ja) Tryz.func221 rfl N .no _
def jna : Sh := ⟨.pv Y11 :: .pv Y11 :: dz 3 (pI :: dz 21 []), []⟩
def jdt (N : Nat) (f : Z3) (d : Z3) : Z6 :=
 (bif !decide ((f.length : Int) = (d.length : Int)) then some false else iter (fun j (b, e, a) => bif decide (a < (b.length : Int)) then oB (idx b a) fun h => (oB (idx e a) fun c => oB (jbl N h.1 h.2 c.1 c.2) fun k => bif !k then some false else if fits (a + 1) then j (b, e, (a + 1)) else none) else some true) N (f, d, (0 : Int)))
theorem jrb (N : Nat) : mK 174 ⟨⟨[.pv Y11, .pv Y11], []⟩, ⟨[pB], []⟩, c2A (jdt N)⟩ :=
 mO (fC (jrv N) ja) Tryz.func174 rfl N (.seq .no (.seq .no (.seq (.seq .no (.block (.loop jna .no))) .no))) _
def jaU (N : Nat) (h : List UInt8) (e : List UInt8) (c : Z3) (b : List UInt8) (d : List UInt8) (a : Z3) : Z6 :=
 (bif !decide (h = b) then some false else bif !decide (e = d) then some false else oB (jdt N c a) fun f => bif !f then some false else some true)
theorem jmZ (N : Nat) : mK 116 ⟨⟨[.agg [pS, pS, .pv Y11], .agg [pS, pS, .pv Y11]], []⟩, ⟨[pB], []⟩, c6A (jaU N)⟩ :=
 mO (fC (jrb N) ja) Tryz.func116 rfl N .no _
def jkD : Sh := ⟨.pv Y4 :: .pv Y4 :: dz 3 (pI :: dz 21 []), []⟩
def jdU (N : Nat) (h : List Z1) (e : List Z1) : Z6 :=
 (bif !decide ((h.length : Int) = (e.length : Int)) then some false else iter (fun j (c, f, a) => bif decide (a < (c.length : Int)) then oB (idx c a) fun d => (oB (idx f a) fun b => oB (jaU N d.1 d.2.1 d.2.2 b.1 b.2.1 b.2.2) fun k => bif !k then some false else if fits (a + 1) then j (c, f, (a + 1)) else none) else some true) N (h, e, (0 : Int)))
theorem jkg (N : Nat) : mK 64 ⟨⟨[.pv Y4, .pv Y4], []⟩, ⟨[pB], []⟩, c2A (jdU N)⟩ :=
 mO (fC (jmZ N) ja) Tryz.func64 rfl N (.seq .no (.seq .no (.seq (.seq .no (.block (.loop jkD .no))) .no))) _
def jbJ (N : Nat) (d : List Z2) (f : List Z1) (c : List Z2) (e : List Z1) : Z6 :=
 (oB (jdZ N d c) fun b => bif !b then some false else oB (jdU N f e) fun a => bif !a then some false else some true)
theorem jnM (N : Nat) : mK 18 ⟨⟨[.agg [.pv Y2, .pv Y4], .agg [.pv Y2, .pv Y4]], []⟩, ⟨[pB], []⟩, c4A (jbJ N)⟩ :=
 mO (fC (jmb N) (fC (jkg N) ja)) Tryz.func18 rfl N .no _
def jyZ : Sh := ⟨[.agg [pI, pS, .pv (.sl .str), pI, pI, .pv (.sl .q)], .agg [pI, pS, .pv (.sl .str), pI, pI, .pv (.sl .q)]], []⟩
def jAc : Sh := ⟨[pB], []⟩
def jCx : Sh := ⟨[.pv (.sl .q), .pv (.sl .q)], []⟩
def jCz : Sh := ⟨[pB], []⟩
def jC3 : Sh := ⟨.pv (.sl .q) :: .pv (.sl .q) :: dz 3 (pI :: dz 21 []), []⟩
def jyS (N : Nat) (i : Z15 → Option Bool) (h : List DQ) (e : List DQ) : Z6 :=
 (bif !decide ((h.length : Int) = (e.length : Int)) then some false else iter (fun j (d, f, c) => bif decide (c < (d.length : Int)) then oB (idx d c) fun b => (oB (idx f c) fun a => oB (i (b.kind, b.field, b.words, b.lo, b.hi, b.kids, a.kind, a.field, a.words, a.lo, a.hi, a.kids)) fun l => bif !l then some false else if fits (c + 1) then j (d, f, (c + 1)) else none) else some true) N (h, e, (0 : Int)))
def jzD (N : Nat) (F : Z15 → Option Bool) : Model := ⟨jCx, jCz, fun a => jyS N F a.1 a.2⟩
theorem jCt (N : Nat) (F : Z15 → Option Bool) (hF : mK 19 ⟨jyZ, jAc, F⟩) : mK 65 (jzD N F) :=
 mO (fC hF ja) Tryz.func65 rfl N (.seq .no (.seq .no (.seq (.seq .no (.block (.loop jC3 .no))) .no))) (jzD N F)
def jxK (N : Nat) : (D : Nat) → Int → Z0 → (List Z0) → Int → Int → (List DQ) → Int → Z0 → (List Z0) → Int → Int → (List DQ) → Z6
 | 0, _, _, _, _, _, _, _, _, _, _, _, _ => none
 | D + 1, a, a2, a3, a4, a5, a6, b, b2, b3, b4, b5, b6 =>
 bif !decide (a = b) then
 some false
 else
 bif !decide (a2 = b2) then
 some false
 else
 oB (j0 N a3 b3) fun r =>
 bif !r then
 some false
 else
 bif !decide (a4 = b4) then
 some false
 else
 bif !decide (a5 = b5) then
 some false
 else
 oB (jyS N (fun a => jxK N D a.1 a.2.1 a.2.2.1 a.2.2.2.1 a.2.2.2.2.1 a.2.2.2.2.2.1 a.2.2.2.2.2.2.1 a.2.2.2.2.2.2.2.1 a.2.2.2.2.2.2.2.2.1 a.2.2.2.2.2.2.2.2.2.1 a.2.2.2.2.2.2.2.2.2.2.1 a.2.2.2.2.2.2.2.2.2.2.2) a6 b6) fun r2 =>
 bif !r2 then
 some false
 else
 some true
def jyy (N D : Nat) : Model := ⟨jyZ, jAc, c12A (jxK N D)⟩
theorem jDy (N D : Nat) (ih : mK 19 (jyy N D)) : mK 19 (jyy N (D + 1)) :=
 mO (fC ih (fC (jd6 N) (fC (jCt N _ ih) ja))) Tryz.func19 rfl N .no (jyy N (D + 1))
theorem jAA (N : Nat) : ∀ D, mK 19 (jyy N D)
 | 0 => modelOk_none ⟨_, Tryz.func19, by decide, by kernel_rfl⟩ _ (fun a => rfl)
 | D + 1 => jDy N D (jAA N D)
def jEo : Sh := ⟨dz 3 (.box 3 0 :: .box 4 0 :: .box 5 0 :: .dead :: .own 600007 tI 3 true :: pI :: dz 39 []), [(3, false, [.pv (.sl .str), .pv Y15]), (4, false, [.pv Y2, .pv Y4]), (5, false, [pI, pS, .pv (.sl .str), pI, pI, .pv (.sl .q)])]⟩
def s_MatchOf_m (N : Nat) (u : List Z0) (q : List Z4) (y : List Z2) (r : List Z1) (o : Int) (x : List UInt8) (v : List Z0) (t : Int) (z : Int) (p : List DQ) : Option ((List Int)) :=
 (oB (s_l7Ok_m N u q y r) fun D => bif !D then some ([] : List Int) else oB (s_l11Ok_m N o x v t z p) fun A => bif !A then some ([] : List Int) else iter (fun w (c, a, f, h, b, e, i, m, d, j, k, l) => bif decide (a < (b.length : Int)) then oB (idx b a) fun E => (oB (s_l12Score_m N N f h b e i m d j k l E.1) fun C => bif decide ((0 : Int) < C) then oB (idx b a) fun n => (if room c.length ([n.1] : List Int).length 8 then if fits (a + 1) then w ((c ++ ([n.1] : List Int)), (a + 1), f, h, b, e, i, m, d, j, k, l) else none else none) else if fits (a + 1) then w (c, (a + 1), f, h, b, e, i, m, d, j, k, l) else none) else some c) N (([] : List Int), (0 : Int), u, q, y, r, o, x, v, t, z, p))
theorem jEs (N : Nat) : mK 20 ⟨⟨[.agg [.pv (.sl .str), .pv Y15], .agg [.pv Y2, .pv Y4], .agg [pI, pS, .pv (.sl .str), pI, pI, .pv (.sl .q)]], []⟩, ⟨[.own 1 tI 3 true], []⟩, c10A (s_MatchOf_m N)⟩ :=
 mO (fC (jpm N) (fC (jBX N) (fC (jz7 N N) ja))) Tryz.func20 rfl N (.seq .no (.seq .no (.seq .no (.seq (.seq .no (.block (.loop jEo .no))) .no)))) _
def jBM : Sh := ⟨dz 5 (.box 5 0 :: .dead :: .own 600007 Y13 69 true :: .box 26 0 :: dz 19 (.pv Y2 :: pI :: pI :: dz 18 [])), [(5, false, [pI, pS, .pv (.sl .str), pI, pI, .pv (.sl .q)]), (26, true, [.pv (.sl .str), .pv Y15, .pv Y2, .pv Y4])]⟩
def i_scores_m (N : Nat) (y : List Z0) (v : List Z4) (d : List Z2) (w : List Z1) (t : Int) (B : List UInt8) (z : List Z0) (x : Int) (C : Int) (u : List DQ) : Option ((List (Int × Int))) :=
 (oB (i_SegOk_m N y v d w) fun G => bif !G then some ([] : List (Int × Int)) else oB (i_QueryOk_m N t B z x C u) fun D => bif !D then some ([] : List (Int × Int)) else iter (fun A (c, f, m, a, k, r, i, l, o, p, n, h, j, e) => bif decide (a < m) then oB (idx f a) fun b => (oB (i_scorer_score_m N N ((n, h), j, e) k r i l o p b.1 b.2.1 b.2.2) fun q => bif decide ((0 : Int) < q) then if room c.length ([(b.1, q)] : List (Int × Int)).length 16 then if fits (a + 1) then A ((c ++ ([(b.1, q)] : List (Int × Int))), f, m, (a + 1), k, r, i, l, o, p, n, h, j, e) else none else none else if fits (a + 1) then A (c, f, m, (a + 1), k, r, i, l, o, p, n, h, j, e) else none) else some c) N (([] : List (Int × Int)), d, (d.length : Int), (0 : Int), t, B, z, x, C, u, y, v, d, w))
theorem jBc (N : Nat) : mK 66 ⟨⟨[.agg [.pv (.sl .str), .pv Y15], .agg [.pv Y2, .pv Y4], .agg [pI, pS, .pv (.sl .str), pI, pI, .pv (.sl .q)]], []⟩, ⟨[.own 1 Y13 69 true], []⟩, c10A (i_scores_m N)⟩ :=
 mO (fC (joa N) (fC (jCN N) (fC (jzy N N) ja))) Tryz.func66 rfl N (.seq .no (.seq .no (.seq .no (.seq .no (.seq (.seq .no (.block (.loop jBM .no))) .no))))) _
def jEp : Sh := ⟨dz 7 (.own 600007 tI 3 true :: dz 6 (.own 600014 Y13 69 true :: pI :: pI :: dz 10 [])), []⟩
def i_MatchOf_m (N : Nat) (m : List Z0) (j : List Z4) (r : List Z2) (l : List Z1) (h : Int) (q : List UInt8) (n : List Z0) (k : Int) (t : Int) (i : List DQ) : Option ((List Int)) :=
 (oB (i_scores_m N m j r l h q n k t i) fun e => iter (fun p (b, d, c, a) => bif decide (a < c) then oB (idx d a) fun f => (if room b.length ([f.1] : List Int).length 8 then if fits (a + 1) then p ((b ++ ([f.1] : List Int)), d, c, (a + 1)) else none else none) else some b) N (([] : List Int), e, (e.length : Int), (0 : Int)))
theorem jEl (N : Nat) : mK 21 ⟨⟨[.agg [.pv (.sl .str), .pv Y15], .agg [.pv Y2, .pv Y4], .agg [pI, pS, .pv (.sl .str), pI, pI, .pv (.sl .q)]], []⟩, ⟨[.own 1 tI 3 true], []⟩, c10A (i_MatchOf_m N)⟩ :=
 mO (fC (jBc N) ja) Tryz.func21 rfl N (.seq .no (.seq .no (.seq (.seq .no (.block (.loop jEp .no))) .no))) _
def jnU : Sh := ⟨pI :: .dead :: .dead :: pS :: dz 16 [], []⟩
def jr (N : Nat) (c : Int) : Option (Z0) :=
 (bif decide (c ≤ 0) then some ([109, 48] : List UInt8) else iter (fun e (a, b) => bif decide ((0 : Int) < a) then if 10 ≠ 0 then if fits (48 + (a.tmod 10)) then if (bytesOf ([(IntKind.u8.wrap (48 + (a.tmod 10)))] : List Int)).length + b.length ≤ 9223372036854775807 then if 10 ≠ 0 then if fits (a.tdiv 10) then e ((a.tdiv 10), ((bytesOf ([(IntKind.u8.wrap (48 + (a.tmod 10)))] : List Int)) ++ b)) else none else none else none else none else none else if ([109] : List UInt8).length + b.length ≤ 9223372036854775807 then some (([109] : List UInt8) ++ b) else none) N (c, ([] : List UInt8)))
theorem jaz (N : Nat) : mK 117 ⟨⟨[pI], []⟩, ⟨[pS], []⟩, c1A (jr N)⟩ :=
 mO ja Tryz.func117 rfl N (.seq .no (.seq .no (.seq .no (.seq (.block (.loop jnU .no)) .no)))) _
def jol : Sh := ⟨.mtk 800000 .str 9 true :: pI :: dz 3 (pI :: dz 14 []), []⟩
def jas (N : Nat) (i : List Z0) (d : Int) : Option (Int × (List Z0)) :=
 (iter (fun f (b, c, a) => bif decide (a < (b.length : Int)) then oB (jr N c) fun h => (if 0 ≤ a ∧ a < (b.length : Int) then oB (b[a.toNat]?) fun j => (if fits (c + 1) then if fits (a + 1) then f ((b.set a.toNat h), (c + 1), (a + 1)) else none else none) else none) else some (c, b)) N (i, d, (0 : Int)))
theorem jdf (N : Nat) : mK 67 ⟨⟨[.mtk 800000 .str 9 true, pI], []⟩, ⟨[pI, .mtk 800000 .str 9 true], []⟩, c2A (jas N)⟩ :=
 mO (fC (jaz N) ja) Tryz.func67 rfl N (.seq .no (.seq (.seq .no (.block (.loop jol .no))) .no)) _ (rs := [800000])
def jq1 : Sh := ⟨.tre 800000 Y17 144 :: pI :: dz 3 (pI :: dz 22 []), []⟩
def jbZ (N : Nat) (k : List Z4) (f : Int) : Option (Int × (List Z4)) :=
 (iter (fun h (b, d, a) => bif decide (a < (b.length : Int)) then if 0 ≤ a ∧ a < (b.length : Int) then oB (b[a.toNat]?) fun m => (oB (jas N m.1 d) fun c => oB (jr N c.1) fun j => if 0 ≤ a ∧ a < (b.length : Int) then oB (b[a.toNat]?) fun e => (if fits (c.1 + 1) then if fits (a + 1) then h (((b.set a.toNat (e.1, j)).modify a.toNat fun l => (c.2, l.2)), (c.1 + 1), (a + 1)) else none else none) else none) else none else some (d, b)) N (k, f, (0 : Int)))
theorem jqK (N : Nat) : mK 68 ⟨⟨[.tre 800000 Y17 144, pI], []⟩, ⟨[pI, .tre 800000 Y17 144], []⟩, c2A (jbZ N)⟩ :=
 mO (fC (jdf N) (fC (jaz N) ja)) Tryz.func68 rfl N (.seq .no (.seq (.seq .no (.block (.loop jq1 .no))) .no)) _ (rs := [800000])
def jb0 (N : Nat) (d : List Z0) (e : List Z4) (c : Int) : Option (Int × (List Z0) × (List Z4)) :=
 (oB (jas N d c) fun b => oB (jbZ N e b.1) fun a => some (a.1, b.2, a.2))
theorem jrd (N : Nat) : mK 23 ⟨⟨[.agg [.mtk 800000 .str 9 true, .tre 800001 Y17 144], pI], []⟩, ⟨[pI, .mtk 800000 .str 9 true, .tre 800001 Y17 144], []⟩, c3A (jb0 N)⟩ :=
 mO (fC (jdf N) (fC (jqK N) ja)) Tryz.func23 rfl N .no _ (rs := [800000, 800001])
def jrq : Sh := ⟨.mtk 800000 Y19 199 true :: pI :: dz 3 (pI :: dz 23 []), []⟩
def jbW (N : Nat) (l : Z14) (h : Int) : Option (Int × Z11) :=
 (iter (fun i (b, c, a) => bif decide (a < (b.length : Int)) then oB (jr N c) fun d => (if 0 ≤ a ∧ a < (b.length : Int) then oB (b[a.toNat]?) fun e => (if fits (c + 1) then oB (jr N (c + 1)) fun k => (if 0 ≤ a ∧ a < ((b.set a.toNat (d, e.2)).length : Int) then oB ((b.set a.toNat (d, e.2))[a.toNat]?) fun f => (if fits ((c + 1) + 1) then if fits (a + 1) then i (((b.set a.toNat (d, e.2)).set a.toNat (f.1, k)), ((c + 1) + 1), (a + 1)) else none else none) else none) else none) else none) else some (c, b)) N (l, h, (0 : Int)))
theorem jo0 (N : Nat) : mK 118 ⟨⟨[.mtk 800000 Y19 199 true, pI], []⟩, ⟨[pI, .mtk 800000 Y19 199 true], []⟩, c2A (jbW N)⟩ :=
 mO (fC (jaz N) ja) Tryz.func118 rfl N (.seq .no (.seq (.seq .no (.block (.loop jrq .no))) .no)) _ (rs := [800000])
def js9 : Sh := ⟨.mtk 800000 Y16 192 true :: pI :: dz 3 (pI :: dz 22 []), []⟩
def jbP (N : Nat) (k : Z7) (h : Int) : Option (Int × Z5) :=
 (iter (fun i (b, c, a) => bif decide (a < (b.length : Int)) then oB (jr N c) fun d => (if 0 ≤ a ∧ a < (b.length : Int) then oB (b[a.toNat]?) fun e => (if fits (c + 1) then if 0 ≤ a ∧ a < ((b.set a.toNat (d, e.2)).length : Int) then oB ((b.set a.toNat (d, e.2))[a.toNat]?) fun f => (if fits ((c + 1) + 1) then if fits (a + 1) then i (((b.set a.toNat (d, e.2)).set a.toNat (f.1, (c + 1))), ((c + 1) + 1), (a + 1)) else none else none) else none else none) else none) else some (c, b)) N (k, h, (0 : Int)))
theorem js2 (N : Nat) : mK 119 ⟨⟨[.mtk 800000 Y16 192 true, pI], []⟩, ⟨[pI, .mtk 800000 Y16 192 true], []⟩, c2A (jbP N)⟩ :=
 mO (fC (jaz N) ja) Tryz.func119 rfl N (.seq .no (.seq (.seq .no (.block (.loop js9 .no))) .no)) _ (rs := [800000])
def jml : Sh := ⟨.tre 800000 Y3 88 :: pI :: dz 3 (pI :: dz 28 []), []⟩
def jb4 (N : Nat) (o : List Z2) (k : Int) : Option (Int × (List Z2)) :=
 (iter (fun l (b, c, a) => bif decide (a < (b.length : Int)) then if 0 ≤ a ∧ a < (b.length : Int) then oB (b[a.toNat]?) fun d => (if fits (c + 1) then if 0 ≤ a ∧ a < ((b.set a.toNat (c, d.2)).length : Int) then oB ((b.set a.toNat (c, d.2))[a.toNat]?) fun j => (oB (jbW N j.2.1 (c + 1)) fun i => if 0 ≤ a ∧ a < ((b.set a.toNat (c, d.2)).length : Int) then oB ((b.set a.toNat (c, d.2))[a.toNat]?) fun n => (oB (jbP N n.2.2 i.1) fun h => if fits (a + 1) then l ((((b.set a.toNat (c, d.2)).modify a.toNat fun f => (f.1, f.2.1, h.2)).modify a.toNat fun e => (e.1, i.2, e.2.2)), h.1, (a + 1)) else none) else none) else none else none) else none else some (c, b)) N (o, k, (0 : Int)))
theorem jnb (N : Nat) : mK 69 ⟨⟨[.tre 800000 Y3 88, pI], []⟩, ⟨[pI, .tre 800000 Y3 88], []⟩, c2A (jb4 N)⟩ :=
 mO (fC (jo0 N) (fC (js2 N) ja)) Tryz.func69 rfl N (.seq .no (.seq (.seq .no (.block (.loop jml .no))) .no)) _ (rs := [800000])
def jl9 : Sh := ⟨.mtk 800000 tI 3 true :: pI :: dz 3 (pI :: dz 13 []), []⟩
def jco (N : Nat) (h : List Int) (d : Int) : Option (Int × (List Int)) :=
 (iter (fun f (b, c, a) => bif decide (a < (b.length : Int)) then if 0 ≤ a ∧ a < (b.length : Int) then oB (b[a.toNat]?) fun i => (if fits (c + 1) then if fits (a + 1) then f ((b.set a.toNat c), (c + 1), (a + 1)) else none else none) else none else some (c, b)) N (h, d, (0 : Int)))
theorem jr1 (N : Nat) : mK 26 ⟨⟨[.mtk 800000 tI 3 true, pI], []⟩, ⟨[pI, .mtk 800000 tI 3 true], []⟩, c2A (jco N)⟩ :=
 mO ja Tryz.func26 rfl N (.seq .no (.seq (.seq .no (.block (.loop jl9 .no))) .no)) _ (rs := [800000])
def jnn : Sh := ⟨.tre 800000 Y12 175 :: pI :: dz 3 (pI :: dz 21 []), []⟩
def jcm (N : Nat) (k : Z3) (h : Int) : Option (Int × Z10) :=
 (iter (fun i (b, c, a) => bif decide (a < (b.length : Int)) then if 0 ≤ a ∧ a < (b.length : Int) then oB (b[a.toNat]?) fun d => (if fits (c + 1) then if 0 ≤ a ∧ a < ((b.set a.toNat (c, d.2)).length : Int) then oB ((b.set a.toNat (c, d.2))[a.toNat]?) fun f => (oB (jco N f.2 (c + 1)) fun e => if fits (a + 1) then i (((b.set a.toNat (c, d.2)).modify a.toNat fun l => (l.1, e.2)), e.1, (a + 1)) else none) else none else none) else none else some (c, b)) N (k, h, (0 : Int)))
theorem jrg (N : Nat) : mK 120 ⟨⟨[.tre 800000 Y12 175, pI], []⟩, ⟨[pI, .tre 800000 Y12 175], []⟩, c2A (jcm N)⟩ :=
 mO (fC (jr1 N) ja) Tryz.func120 rfl N (.seq .no (.seq (.seq .no (.block (.loop jnn .no))) .no)) _ (rs := [800000])
def jkI : Sh := ⟨.tre 800000 Y5 136 :: pI :: dz 3 (pI :: dz 30 []), []⟩
def jcD (N : Nat) (o : List Z1) (k : Int) : Option (Int × (List Z1)) :=
 (iter (fun l (b, d, a) => bif decide (a < (b.length : Int)) then oB (jr N d) fun e => (if 0 ≤ a ∧ a < (b.length : Int) then oB (b[a.toNat]?) fun f => (if fits (d + 1) then oB (jr N (d + 1)) fun h => (if 0 ≤ a ∧ a < ((b.set a.toNat (e, f.2)).length : Int) then oB ((b.set a.toNat (e, f.2))[a.toNat]?) fun c => (if fits ((d + 1) + 1) then if 0 ≤ a ∧ a < (((b.set a.toNat (e, f.2)).set a.toNat (c.1, h, c.2.2)).length : Int) then oB (((b.set a.toNat (e, f.2)).set a.toNat (c.1, h, c.2.2))[a.toNat]?) fun n => (oB (jcm N n.2.2 ((d + 1) + 1)) fun i => if fits (a + 1) then l ((((b.set a.toNat (e, f.2)).set a.toNat (c.1, h, c.2.2)).modify a.toNat fun j => (j.1, j.2.1, i.2)), i.1, (a + 1)) else none) else none else none) else none) else none) else none) else some (d, b)) N (o, k, (0 : Int)))
theorem jlr (N : Nat) : mK 70 ⟨⟨[.tre 800000 Y5 136, pI], []⟩, ⟨[pI, .tre 800000 Y5 136], []⟩, c2A (jcD N)⟩ :=
 mO (fC (jaz N) (fC (jrg N) ja)) Tryz.func70 rfl N (.seq .no (.seq (.seq .no (.block (.loop jkI .no))) .no)) _ (rs := [800000])
def jbM (N : Nat) (d : List Z2) (e : List Z1) (c : Int) : Option (Int × (List Z2) × (List Z1)) :=
 (oB (jb4 N d c) fun b => oB (jcD N e b.1) fun a => some (a.1, b.2, a.2))
theorem jnS (N : Nat) : mK 24 ⟨⟨[.agg [.tre 800000 Y3 88, .tre 800001 Y5 136], pI], []⟩, ⟨[pI, .tre 800000 Y3 88, .tre 800001 Y5 136], []⟩, c3A (jbM N)⟩ :=
 mO (fC (jnb N) (fC (jlr N) ja)) Tryz.func24 rfl N .no _ (rs := [800000, 800001])
def jCg : Sh := ⟨.tre 800000 .q 48 :: pI :: dz 3 (pI :: dz 50 []), []⟩
def jxQ (N : Nat) : (D : Nat) → (List DQ) → Int → Option (Int × (List DQ))
 | 0, _, _ => none
 | D + 1, a, k =>
 iter (fun go (g : (List DQ) × Int × Int) =>
 match g with
 | (a2, k2, i) =>
 bif decide (i < (a2.length : Int)) then
 if 0 ≤ i ∧ i < (a2.length : Int) then
 oB (a2[i.toNat]?) fun e =>
 (if fits (k2 + 1) then oB (jr N (k2 + 1)) fun r =>
 (if 0 ≤ i ∧ i < ((a2.set i.toNat (DQ.mk k2 e.field e.words e.lo e.hi e.kids)).length : Int) then
 oB ((a2.set i.toNat (DQ.mk k2 e.field e.words e.lo e.hi e.kids))[i.toNat]?) fun e2 =>
 (if fits ((k2 + 1) + 1) then if 0 ≤ i ∧ i < (((a2.set i.toNat (DQ.mk k2 e.field e.words e.lo e.hi e.kids)).set i.toNat (DQ.mk e2.kind r e2.words e2.lo e2.hi e2.kids)).length : Int) then
 oB (((a2.set i.toNat (DQ.mk k2 e.field e.words e.lo e.hi e.kids)).set i.toNat (DQ.mk e2.kind r e2.words e2.lo e2.hi e2.kids))[i.toNat]?) fun e3 =>
 (oB (jas N e3.words ((k2 + 1) + 1)) fun r2 =>
 if 0 ≤ i ∧ i < (((a2.set i.toNat (DQ.mk k2 e.field e.words e.lo e.hi e.kids)).set i.toNat (DQ.mk e2.kind r e2.words e2.lo e2.hi e2.kids)).length : Int) then
 oB (((a2.set i.toNat (DQ.mk k2 e.field e.words e.lo e.hi e.kids)).set i.toNat (DQ.mk e2.kind r e2.words e2.lo e2.hi e2.kids))[i.toNat]?) fun e4 =>
 (if fits (r2.1 + 1) then if 0 ≤ i ∧ i < ((((a2.set i.toNat (DQ.mk k2 e.field e.words e.lo e.hi e.kids)).set i.toNat (DQ.mk e2.kind r e2.words e2.lo e2.hi e2.kids)).set i.toNat (DQ.mk e4.kind e4.field e4.words r2.1 e4.hi e4.kids)).length : Int) then
 oB ((((a2.set i.toNat (DQ.mk k2 e.field e.words e.lo e.hi e.kids)).set i.toNat (DQ.mk e2.kind r e2.words e2.lo e2.hi e2.kids)).set i.toNat (DQ.mk e4.kind e4.field e4.words r2.1 e4.hi e4.kids))[i.toNat]?) fun e5 =>
 (if fits ((r2.1 + 1) + 1) then if 0 ≤ i ∧ i < (((((a2.set i.toNat (DQ.mk k2 e.field e.words e.lo e.hi e.kids)).set i.toNat (DQ.mk e2.kind r e2.words e2.lo e2.hi e2.kids)).set i.toNat (DQ.mk e4.kind e4.field e4.words r2.1 e4.hi e4.kids)).set i.toNat (DQ.mk e5.kind e5.field e5.words e5.lo (r2.1 + 1) e5.kids)).length : Int) then
 oB (((((a2.set i.toNat (DQ.mk k2 e.field e.words e.lo e.hi e.kids)).set i.toNat (DQ.mk e2.kind r e2.words e2.lo e2.hi e2.kids)).set i.toNat (DQ.mk e4.kind e4.field e4.words r2.1 e4.hi e4.kids)).set i.toNat (DQ.mk e5.kind e5.field e5.words e5.lo (r2.1 + 1) e5.kids))[i.toNat]?) fun e6 =>
 (oB (jxQ N D e6.kids ((r2.1 + 1) + 1)) fun r3 =>
 if fits (i + 1) then go (((((((a2.set i.toNat (DQ.mk k2 e.field e.words e.lo e.hi e.kids)).set i.toNat (DQ.mk e2.kind r e2.words e2.lo e2.hi e2.kids)).set i.toNat (DQ.mk e4.kind e4.field e4.words r2.1 e4.hi e4.kids)).set i.toNat (DQ.mk e5.kind e5.field e5.words e5.lo (r2.1 + 1) e5.kids)).modify i.toNat fun y3 => DQ.mk y3.kind y3.field y3.words y3.lo y3.hi r3.2).modify i.toNat fun y4 => DQ.mk y4.kind y4.field r2.2 y4.lo y4.hi y4.kids), r3.1, (i + 1)) else none)
 else none else none)
 else none else none)
 else none)
 else none else none)
 else none) else none)
 else none
 else
 some (k2, a2)) N (a, k, 0)
def jyx (N D : Nat) : Model := ⟨⟨[.tre 800000 .q 48, pI], []⟩, ⟨[pI, .tre 800000 .q 48], []⟩, c2A (jxQ N D)⟩
theorem jDO (N D : Nat) (ih : mK 71 (jyx N D)) : mK 71 (jyx N (D + 1)) :=
 mO (fC ih (fC (jaz N) (fC (jdf N) ja))) Tryz.func71 rfl N (.seq .no (.seq (.seq .no (.block (.loop jCg .no))) .no)) (jyx N (D + 1)) (rs := [800000])
theorem jy0 (N : Nat) : ∀ D, mK 71 (jyx N D)
 | 0 => modelOk_none ⟨_, Tryz.func71, by decide, by kernel_rfl⟩ _ (fun a => rfl)
 | D + 1 => jDO N D (jy0 N D)
def l_markQuery_m (N : Nat) (j : Int) (i : List UInt8) (d : List Z0) (h : Int) (f : Int) (e : List DQ) (c : Int) : Option (Int × (List Z0) × (List DQ)) :=
 (oB (jas N d c) fun b => oB (jxQ N N e b.1) fun a => some (a.1, b.2, a.2))
theorem jBD (N : Nat) : mK 25 ⟨⟨[.agg [pI, pS, .mtk 800002 .str 9 true, pI, pI, .tre 800005 .q 48], pI], []⟩, ⟨[pI, .mtk 800002 .str 9 true, .tre 800005 .q 48], []⟩, c7A (l_markQuery_m N)⟩ :=
 mO (fC (jdf N) (fC (jy0 N N) ja)) Tryz.func25 rfl N .no _ (rs := [800002, 800005])
def jEr : Sh := ⟨.pv Y20 :: pI :: dz 3 (pI :: dz 15 []), []⟩
def jEi (N : Nat) (h : List Int) (d : Int) : Z9 :=
 (iter (fun f (c, a, b) => bif decide (b < (c.length : Int)) then oB (idx c b) fun i => (bif !decide (i = a) then some (-1) else if fits (a + 1) then if fits (b + 1) then f (c, (a + 1), (b + 1)) else none else none) else some a) N (h, d, (0 : Int)))
theorem jEn (N : Nat) : mK 27 ⟨⟨[.pv Y20, pI], []⟩, ⟨[pI], []⟩, c2A (jEi N)⟩ :=
 mO ja Tryz.func27 rfl N (.seq .no (.seq (.seq .no (.block (.loop jEr .no))) .no)) _
def l_FnExactMatchOf_m (N : Nat) (q : List Z0) (n : List Z4) (o : List Z2) (p : List Z1) (l : Int) (k : List UInt8) (j : List Z0) (i : Int) (h : Int) (m : List DQ) : Z6 :=
 (oB (l_szConf_m N q n 1048576) fun E => bif decide (E < 0) then some true else oB (l_szSeg_m N o p E) fun x => bif decide (x < 0) then some true else oB (l_szQuery_m N N l k j i h m x) fun K => bif decide (K < 0) then some true else oB (jad N q n) fun C => oB (jZ N o p) fun D => oB (jxF N N l k j i h m) fun e => oB (s_MatchOf_m N C.1 C.2 D.1 D.2 e.1 e.2.1 e.2.2.1 e.2.2.2.1 e.2.2.2.2.1 e.2.2.2.2.2) fun u => oB (jad N q n) fun d => oB (jZ N o p) fun b => oB (jxF N N l k j i h m) fun a => oB (i_MatchOf_m N d.1 d.2 b.1 b.2 a.1 a.2.1 a.2.2.1 a.2.2.2.1 a.2.2.2.2.1 a.2.2.2.2.2) fun t => oB (jea N t u) fun O => bif !O then some false else oB (jad N q n) fun z => oB (jcO N d.1 d.2 z.1 z.2) fun S => bif !S then some false else oB (jZ N o p) fun B => oB (jbJ N b.1 b.2 B.1 B.2) fun I => bif !I then some false else oB (jxF N N l k j i h m) fun c => oB (jxK N N a.1 a.2.1 a.2.2.1 a.2.2.2.1 a.2.2.2.2.1 a.2.2.2.2.2 c.1 c.2.1 c.2.2.1 c.2.2.2.1 c.2.2.2.2.1 c.2.2.2.2.2) fun P => bif !P then some false else oB (jb0 N d.1 d.2 1) fun Q => oB (jbM N b.1 b.2 Q.1) fun G => oB (l_markQuery_m N a.1 a.2.1 a.2.2.1 a.2.2.2.1 a.2.2.2.2.1 a.2.2.2.2.2 G.1) fun L => bif decide (L.1 < 0) then some false else oB (jea N t u) fun H => bif !H then some false else oB (jco N t 1) fun r => oB (jEi N r.2 1) fun w => bif decide (w < 0) then some false else bif !decide (w = r.1) then some false else oB (jad N q n) fun y => oB (jZ N o p) fun A => oB (jxF N N l k j i h m) fun f => oB (i_MatchOf_m N y.1 y.2 A.1 A.2 f.1 f.2.1 f.2.2.1 f.2.2.2.1 f.2.2.2.2.1 f.2.2.2.2.2) fun T => oB (jea N T u) fun R => bif !R then some false else oB (jEi N r.2 1) fun v => bif decide (v < 0) then some false else bif !decide (v = r.1) then some false else some true)
def jEj (N : Nat) : Model := ⟨⟨[.agg [.pv (.sl .str), .pv Y15], .agg [.pv Y2, .pv Y4], .agg [pI, pS, .pv (.sl .str), pI, pI, .pv (.sl .q)]], []⟩, ⟨[pB], []⟩, c10A (l_FnExactMatchOf_m N)⟩
theorem jEk (N : Nat) : mK 4 (jEj N) :=
 mO (fC (jm8 N) (fC (jpO N) (fC (jzH N N) (fC (jtJ N) (fC (jqs N) (fC (jy9 N N) (fC (jEs N) (fC (jEl N) (fC (jmk N) (fC (jr8 N) (fC (jnM N) (fC (jAA N N) (fC (jrd N) (fC (jnS N) (fC (jBD N) (fC (jr1 N) (fC (jEn N) ja))))))))))))))))) Tryz.func4 rfl N .no (jEj N) (dw := [33, 35, 37, 40, 42, 44, 48, 51, 55, 56, 60, 61, 65, 66, 82, 90, 97, 99, 101, 102, 105, 109])
end Go.Proofs.YtobfngpkemkojaaGreatDoor
