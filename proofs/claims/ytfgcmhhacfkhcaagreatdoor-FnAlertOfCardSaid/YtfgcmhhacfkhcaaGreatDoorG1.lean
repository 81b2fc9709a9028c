import Derived.Test.YtfgcmhhacfkhcaaGreatDoorG1A
set_option linter.unusedVariables false
set_option linter.unusedSimpArgs false
namespace Go.Proofs.YtfgcmhhacfkhcaaGreatDoor
open Go.RowKit
open Option renaming bind → oB
def jlp : Sh := ⟨dz 3 (pI :: .dead :: .dead :: .pv Y20 :: pI :: pI :: dz 9 []), []⟩
def jbe (N : Nat) (c : List Int) : Z12 :=
 (iter (fun h (b, d, e, a) => bif decide (a < e) then oB (idx d a) fun f => (bif !decide (f = b) then some f else if fits (a + 1) then h (b, d, e, (a + 1)) else none) else some b) N ((0 : Int), c, (c.length : Int), (0 : Int)))
theorem jhC (N : Nat) : mK 101 ⟨⟨[.pv Y20], []⟩, ⟨[pI], []⟩, c1A (jbe N)⟩ :=
 mO ja Tryz.func101 rfl N (.seq .no (.seq .no (.seq (.seq .no (.block (.loop jlp .no))) .no))) _
def je (N : Nat) (a : List UInt8) (d : List UInt8) (i : Z4) (f : List UInt8) (b : List UInt8) (j : Z4) : Z12 :=
 (oB (jam N a f) fun e => oB (jam N d b) fun h => oB (jbe N ([e, h] : List Int)) fun c => some c)
theorem jaf (N : Nat) : mK 100 ⟨⟨[.agg [pS, pS, .pv Y11], .agg [pS, pS, .pv Y11]], []⟩, ⟨[pI], []⟩, c6A (je N)⟩ :=
 mO (fC (ji2 N) (fC (jhC N) ja)) Tryz.func100 rfl N .no _
def k_slices_nextPowerOfTwo_m (N : Nat) (b : Int) : Z12 :=
 (oB (k_math_bits_Len_m N (IntKind.u64.wrap b)) fun a => if 0 ≤ a then some (IntKind.u64.wrap ((1 : Int) * 2 ^ (min a.toNat (IntKind.bits .u64)))) else none)
theorem jhv (N : Nat) : mK 287 ⟨⟨[pI], []⟩, ⟨[.pv (.int .u64)], []⟩, c1A (k_slices_nextPowerOfTwo_m N)⟩ :=
 mO (fC (jda N) ja) Tryz.func287 rfl N .no _
def k__slices_xorshift_Next_m (N : Nat) (a : Int) : Option (Int × Int) :=
 (if 0 ≤ (13 : Int) then if 0 ≤ (7 : Int) then if 0 ≤ (17 : Int) then some ((bitsI .xor .u64 (bitsI .xor .u64 (bitsI .xor .u64 a (IntKind.u64.wrap (a * 2 ^ (min (13 : Int).toNat (IntKind.bits .u64))))) ((bitsI .xor .u64 a (IntKind.u64.wrap (a * 2 ^ (min (13 : Int).toNat (IntKind.bits .u64))))).fdiv (2 ^ (min (7 : Int).toNat (IntKind.bits .u64))))) (IntKind.u64.wrap ((bitsI .xor .u64 (bitsI .xor .u64 a (IntKind.u64.wrap (a * 2 ^ (min (13 : Int).toNat (IntKind.bits .u64))))) ((bitsI .xor .u64 a (IntKind.u64.wrap (a * 2 ^ (min (13 : Int).toNat (IntKind.bits .u64))))).fdiv (2 ^ (min (7 : Int).toNat (IntKind.bits .u64))))) * 2 ^ (min (17 : Int).toNat (IntKind.bits .u64))))), (bitsI .xor .u64 (bitsI .xor .u64 (bitsI .xor .u64 a (IntKind.u64.wrap (a * 2 ^ (min (13 : Int).toNat (IntKind.bits .u64))))) ((bitsI .xor .u64 a (IntKind.u64.wrap (a * 2 ^ (min (13 : Int).toNat (IntKind.bits .u64))))).fdiv (2 ^ (min (7 : Int).toNat (IntKind.bits .u64))))) (IntKind.u64.wrap ((bitsI .xor .u64 (bitsI .xor .u64 a (IntKind.u64.wrap (a * 2 ^ (min (13 : Int).toNat (IntKind.bits .u64))))) ((bitsI .xor .u64 a (IntKind.u64.wrap (a * 2 ^ (min (13 : Int).toNat (IntKind.bits .u64))))).fdiv (2 ^ (min (7 : Int).toNat (IntKind.bits .u64))))) * 2 ^ (min (17 : Int).toNat (IntKind.bits .u64)))))) else none else none else none)
theorem jet (N : Nat) : mK 288 ⟨⟨[.box 900000 0], [(900000, false, [.pv (.int .u64)])]⟩, ⟨[.pv (.int .u64)], [(900000, false, [.pv (.int .u64)])]⟩, c1A (k__slices_xorshift_Next_m N)⟩ :=
 mO ja Tryz.func288 rfl N .no _ (rs := [900000])
section
variable {α γ ρ : Type} (c : γ → α → α → Option Int)
def swpG (d : List α) (i j : Int) (k : List α → Option ρ) : Option ρ :=
 if 0 ≤ j ∧ j < (d.length : Int) then oB (d[j.toNat]?) fun e => if 0 ≤ i ∧ i < (d.length : Int) then oB (d[i.toNat]?) fun e2 =>
  if 0 ≤ i ∧ i < (d.length : Int) then oB (d[i.toNat]?) fun e3 => if 0 ≤ j ∧ j < ((d.set i.toNat e).length : Int) then oB ((d.set i.toNat e)[j.toNat]?) fun e4 => k ((d.set i.toNat e).set j.toNat e2)
  else none else none else none else none
def cmpG (ks : γ) (d : List α) (i j : Int) (k : Int → Option ρ) : Option ρ :=
 if 0 ≤ i ∧ i < (d.length : Int) then oB (d[i.toNat]?) fun e => if 0 ≤ j ∧ j < (d.length : Int) then oB (d[j.toNat]?) fun e2 => oB (c ks e e2) k else none else none
def cmpP (ks : γ) (d : List α) (j : Int) (k : Int → Option ρ) : Option ρ :=
 if 0 ≤ j ∧ j < (d.length : Int) then oB (d[j.toNat]?) fun e => if fits (j - 1) then if 0 ≤ (j - 1) ∧ (j - 1) < (d.length : Int) then oB (d[(j - 1).toNat]?) fun e2 => oB (c ks e e2) k else none else none else none
def swpP (d : List α) (j : Int) (k : List α → Option ρ) : Option ρ := if fits (j - 1) then if fits (j - 1) then swpG d j (j - 1) k else none else none
def insG (N : Nat) (d : List α) (a b : Int) (ks : γ) : Option (List α) :=
 if fits (a + 1) then iter (fun go (g : List α × Int × Int × γ × Int) =>
  match g with
  | (d2, a2, b2, ks2, i) =>
  bif decide (i < b2) then
   iter (fun go2 (g : List α × Int × Int × γ × Int × Int) =>
    match g with
    | (d3, a3, b3, ks3, i2, j) =>
    bif decide (a3 < j) then cmpP c ks3 d3 j fun r => bif decide (r < 0) then swpP d3 j fun d => if fits (j - 1) then go2 (d, a3, b3, ks3, i2, j - 1) else none
     else if fits (i2 + 1) then go (d3, a3, b3, ks3, i2 + 1) else none
    else if fits (i2 + 1) then go (d3, a3, b3, ks3, i2 + 1) else none) N (d2, a2, b2, ks2, i, i)
  else some d2) N (d, a, b, ks, a + 1) else none
def siftG (N : Nat) (data : List α) (lo : Int) (hi : Int) (first : Int) (cmp : γ) : Option ((List α)) :=
 (iter (fun go (g : (List α) × Int × Int × γ × Int) => 
   match g with
   | (data2, hi2, first2, cmp2, root) =>
   (if fits (2 * root) then (if fits ((2 * root) + 1) then (bif (decide (hi2 ≤ ((2 * root) + 1))) then
      (some data2)
      else
      (meet (fun (g : (List α) × Int × Int × γ × Int × Int) => 
        match g with
        | (data3, hi3, first3, cmp3, root2, child) =>
        (if fits (first3 + root2) then (if 0 ≤ (first3 + root2) ∧ (first3 + root2) < (data3.length : Int) then
          (oB (data3[(first3 + root2).toNat]?) fun e3 =>
           (if fits (first3 + child) then (if 0 ≤ (first3 + child) ∧ (first3 + child) < (data3.length : Int) then
             (oB (data3[(first3 + child).toNat]?) fun e4 =>
              (oB (c cmp3 e3 e4) fun r2 =>
               (bif (!(decide (r2 < 0))) then
                (some data3)
                else
                (if fits (first3 + root2) then (if fits (first3 + child) then (if fits (first3 + child) then (if 0 ≤ (first3 + child) ∧ (first3 + child) < (data3.length : Int) then
                    (oB (data3[(first3 + child).toNat]?) fun e5 =>
                     (if fits (first3 + root2) then (if 0 ≤ (first3 + root2) ∧ (first3 + root2) < (data3.length : Int) then
                       (oB (data3[(first3 + root2).toNat]?) fun e6 =>
                        (if 0 ≤ (first3 + root2) ∧ (first3 + root2) < (data3.length : Int) then
                         (oB (data3[(first3 + root2).toNat]?) fun e7 =>
                          (if 0 ≤ (first3 + child) ∧ (first3 + child) < ((data3.set (first3 + root2).toNat e5).length : Int) then
                           (oB ((data3.set (first3 + root2).toNat e5)[(first3 + child).toNat]?) fun e8 =>
                            (go (((data3.set (first3 + root2).toNat e5).set (first3 + child).toNat e6), hi3, first3, cmp3, child)))
                           else none))
                         else none))
                       else none) else none))
                    else none) else none) else none) else none))))
             else none) else none))
          else none) else none)) fun J =>
       (if fits (((2 * root) + 1) + 1) then (bif (decide ((((2 * root) + 1) + 1) < hi2)) then
         (if fits (first2 + ((2 * root) + 1)) then (if 0 ≤ (first2 + ((2 * root) + 1)) ∧ (first2 + ((2 * root) + 1)) < (data2.length : Int) then
           (oB (data2[(first2 + ((2 * root) + 1)).toNat]?) fun e =>
            (if fits (first2 + ((2 * root) + 1)) then (if fits ((first2 + ((2 * root) + 1)) + 1) then (if 0 ≤ ((first2 + ((2 * root) + 1)) + 1) ∧ ((first2 + ((2 * root) + 1)) + 1) < (data2.length : Int) then
               (oB (data2[((first2 + ((2 * root) + 1)) + 1).toNat]?) fun e2 =>
                (oB (c cmp2 e e2) fun r =>
                 (bif (decide (r < 0)) then
                  (if fits (((2 * root) + 1) + 1) then (J (data2, hi2, first2, cmp2, root, (((2 * root) + 1) + 1))) else none)
                  else
                  (J (data2, hi2, first2, cmp2, root, ((2 * root) + 1))))))
               else none) else none) else none))
           else none) else none)
         else
         (J (data2, hi2, first2, cmp2, root, ((2 * root) + 1)))) else none))) else none) else none)) N (data, hi, first, cmp, lo))
def heapG (N : Nat) (data : List α) (a : Int) (b : Int) (cmp : γ) : Option ((List α)) :=
 (if fits (b - a) then (if fits ((b - a) - 1) then (if 2 ≠ 0 then
    (if fits (((b - a) - 1).tdiv 2) then (iter (fun go (g : (List α) × γ × Int × Int × Int × Int) => 
       match g with
       | (data2, cmp2, first, lo, hi, i) =>
       (bif (decide ((0 : Int) ≤ i)) then
        (oB (siftG c N data2 i hi first cmp2) fun r =>
         (if fits (i - 1) then (go (r, cmp2, first, lo, hi, (i - 1))) else none))
        else
        (if fits (hi - 1) then (iter (fun go2 (g : (List α) × γ × Int × Int × Int) => 
           match g with
           | (data3, cmp3, first2, lo2, i2) =>
           (bif (decide ((0 : Int) ≤ i2)) then
            (if fits (first2 + i2) then (if fits (first2 + i2) then swpG data3 first2 (first2 + i2) fun d => (oB (siftG c N d lo2 i2 first2 cmp3) fun r2 =>
                       (if fits (i2 - 1) then (go2 (r2, cmp3, first2, lo2, (i2 - 1))) else none)) else none) else none)
            else
            (some data3))) N (data2, cmp2, first, lo, (hi - 1))) else none))) N (data, cmp, a, 0, (b - a), (((b - a) - 1).tdiv 2))) else none)
    else none) else none) else none)
def breakG (N : Nat) (data : List α) (a : Int) (b : Int) (cmp : γ) : Option (List α) :=
 (if fits (b - a) then (bif (decide ((8 : Int) ≤ (b - a))) then
   (oB (k_slices_nextPowerOfTwo_m N (b - a)) fun r =>
    (if 4 ≠ 0 then
     (if fits ((b - a).tdiv 4) then (if fits (((b - a).tdiv 4) * 2) then (if fits (a + (((b - a).tdiv 4) * 2)) then (if fits ((a + (((b - a).tdiv 4) * 2)) - 1) then (iter (fun go (g : (List α) × Int × Int × Int × Int × Int) => 
           match g with
           | (data2, a2, length, modulus, idx0, random) =>
           (if 4 ≠ 0 then
            (if fits (length.tdiv 4) then (if fits ((length.tdiv 4) * 2) then (if fits (a2 + ((length.tdiv 4) * 2)) then (if fits ((a2 + ((length.tdiv 4) * 2)) + 1) then (bif (decide (idx0 ≤ ((a2 + ((length.tdiv 4) * 2)) + 1))) then
                 (oB (k__slices_xorshift_Next_m N random) fun r2 =>
                  (meet (fun (g : (List α) × Int × Int × Int × Int × Int × Int) => 
                    match g with
                    | (data3, a3, length2, modulus2, idx02, other, random2) =>
                    (if fits (a3 + other) then (if fits (a3 + other) then swpG data3 idx02 (a3 + other) fun d => (if fits (idx02 + 1) then (go (d, a3, length2, modulus2, (idx02 + 1), random2)) else none) else none) else none)) fun J =>
                   (bif (decide (length ≤ (IntKind.i64.wrap (bitsI .and .u64 r2.1 (IntKind.u64.wrap (modulus - 1)))))) then
                    (if fits ((IntKind.i64.wrap (bitsI .and .u64 r2.1 (IntKind.u64.wrap (modulus - 1)))) - length) then (J (data2, a2, length, modulus, idx0, ((IntKind.i64.wrap (bitsI .and .u64 r2.1 (IntKind.u64.wrap (modulus - 1)))) - length), r2.2)) else none)
                    else
                    (J (data2, a2, length, modulus, idx0, (IntKind.i64.wrap (bitsI .and .u64 r2.1 (IntKind.u64.wrap (modulus - 1)))), r2.2)))))
                 else
                 (some data2)) else none) else none) else none) else none)
            else none)) N (data, a, (b - a), r, ((a + (((b - a).tdiv 4) * 2)) - 1), (IntKind.u64.wrap (b - a)))) else none) else none) else none) else none)
     else none))
   else
   (some data)) else none)
def order2G (N : Nat) (data : List α) (a : Int) (b : Int) (cmp : γ) (b2 : Int) : Option (Int × Int × (List α) × Int) :=
 cmpG c cmp data b a fun r => (bif (decide (r < 0)) then (if fits (b2 + 1) then (some (b, a, data, (b2 + 1))) else none) else (some (a, b, data, b2)))
def medianG (N : Nat) (data : List α) (a : Int) (b : Int) (c0 : Int) (cmp : γ) (b2 : Int) : Option (Int × (List α) × Int) :=
 (oB (order2G c N data a b cmp b2) fun r =>
  (oB (order2G c N r.2.2.1 r.2.1 c0 cmp r.2.2.2) fun r2 =>
   (oB (order2G c N r2.2.2.1 r.1 r2.1 cmp r2.2.2.2) fun r3 =>
    (some (r3.2.1, r3.2.2.1, r3.2.2.2)))))
def medianAdjacentG (N : Nat) (data : List α) (a : Int) (cmp : γ) (b : Int) : Option (Int × (List α) × Int) :=
 (if fits (a - 1) then (if fits (a + 1) then (oB (medianG c N data (a - 1) a (a + 1) cmp b) fun r =>
    (some (r.1, r.2.1, r.2.2))) else none) else none)
def choosePivotG (N : Nat) (data : List α) (a : Int) (b : Int) (cmp : γ) : Option (Int × Int × (List α)) :=
 (if fits (b - a) then (if 4 ≠ 0 then
   (if fits ((b - a).tdiv 4) then (if fits (((b - a).tdiv 4) * 1) then (if fits (a + (((b - a).tdiv 4) * 1)) then (if 4 ≠ 0 then
       (if fits ((b - a).tdiv 4) then (if fits (((b - a).tdiv 4) * 2) then (if fits (a + (((b - a).tdiv 4) * 2)) then (if 4 ≠ 0 then
           (if fits ((b - a).tdiv 4) then (if fits (((b - a).tdiv 4) * 3) then (if fits (a + (((b - a).tdiv 4) * 3)) then (meet (fun (g : (List α) × Int × Int) => 
                match g with
                | (data3, j2, swaps2) =>
                (bif (decide (swaps2 = 0)) then
                 (some (j2, 1, data3))
                 else
                 (bif (decide (swaps2 = 12)) then
                  (some (j2, 2, data3))
                  else
                  (some (j2, 0, data3))))) fun J =>
               (bif (decide ((8 : Int) ≤ (b - a))) then
                (meet (fun (g : (List α) × γ × Int × Int × Int × Int) => 
                  match g with
                  | (data2, cmp2, i, j, k, swaps) =>
                  (oB (medianG c N data2 i j k cmp2 swaps) fun r4 =>
                   (J (r4.2.1, r4.1, r4.2.2)))) fun J2 =>
                 (bif (decide ((50 : Int) ≤ (b - a))) then
                  (oB (medianAdjacentG c N data (a + (((b - a).tdiv 4) * 1)) cmp 0) fun r =>
                   (oB (medianAdjacentG c N r.2.1 (a + (((b - a).tdiv 4) * 2)) cmp r.2.2) fun r2 =>
                    (oB (medianAdjacentG c N r2.2.1 (a + (((b - a).tdiv 4) * 3)) cmp r2.2.2) fun r3 =>
                     (J2 (r3.2.1, cmp, r.1, r2.1, r3.1, r3.2.2)))))
                  else
                  (J2 (data, cmp, (a + (((b - a).tdiv 4) * 1)), (a + (((b - a).tdiv 4) * 2)), (a + (((b - a).tdiv 4) * 3)), 0))))
                else
                (J (data, (a + (((b - a).tdiv 4) * 2)), 0)))) else none) else none) else none)
           else none) else none) else none) else none)
       else none) else none) else none) else none)
   else none) else none)
def reverseRangeG (N : Nat) (data : List α) (a : Int) (b : Int) (cmp : γ) : Option ((List α)) :=
 (if fits (b - 1) then (iter (fun go (g : (List α) × Int × Int) => 
    match g with
    | (data2, i, j) =>
    (bif (decide (i < j)) then swpG data2 i j fun d => (if fits (i + 1) then (if fits (j - 1) then (go (d, (i + 1), (j - 1))) else none) else none)
     else
     (some data2))) N (data, a, (b - 1))) else none)
def shDown (k : (List α × Int × Int × γ × Int × Int) → Option ρ) (N : Nat) (g : List α × Int × Int × γ × Int × Int × Int) : Option ρ :=
 iter (fun go3 (g : (List α) × Int × Int × γ × Int × Int × Int) =>
  match g with
  | (d, a, b, ks, i, j, j4) =>
  bif decide ((1 : Int) ≤ j4) then cmpP c ks d j4 fun r => bif !decide (r < 0) then k (d, a, b, ks, i, j) else swpP d j4 fun d' => if fits (j4 - 1) then go3 (d', a, b, ks, i, j, j4 - 1) else none
  else k (d, a, b, ks, i, j)) N g
def shUp (k : (List α × Int × Int × γ × Int × Int) → Option ρ) (N : Nat) (g : List α × Int × Int × γ × Int × Int × Int) : Option ρ :=
 iter (fun go4 (g : (List α) × Int × Int × γ × Int × Int × Int) =>
  match g with
  | (d, a, b, ks, i, j, j4) =>
  bif decide (j4 < b) then cmpP c ks d j4 fun r => bif !decide (r < 0) then (if fits (j + 1) then k (d, a, b, ks, i, j + 1) else none) else swpP d j4 fun d' => if fits (j4 + 1) then go4 (d', a, b, ks, i, j, j4 + 1) else none
  else if fits (j + 1) then k (d, a, b, ks, i, j + 1) else none) N g
def pisX (N : Nat) (go : (List α × Int × Int × γ × Int × Int) → Option (Bool × List α)) (d : List α) (a b : Int) (ks : γ) (i j : Int) : Option (Bool × List α) :=
 bif decide (i = b) then some (true, d) else if fits (b - a) then bif decide ((b - a) < 50) then some (false, d) else
  swpP d i fun d' => meet (fun (g : List α × Int × Int × γ × Int × Int) =>
   match g with
   | (d5, a5, b5, ks5, i4, j5) =>
   if fits (b5 - i4) then bif decide ((2 : Int) ≤ (b5 - i4)) then if fits (i4 + 1) then shUp c go N (d5, a5, b5, ks5, i4, j5, i4 + 1) else none
    else (if fits (j5 + 1) then go (d5, a5, b5, ks5, i4, j5 + 1) else none) else none) fun J =>
   if fits (i - a) then bif decide ((2 : Int) ≤ (i - a)) then if fits (i - 1) then shDown c J N (d', a, b, ks, i, j, i - 1) else none else J (d', a, b, ks, i, j) else none
 else none
def pisG (N : Nat) (d : List α) (a b : Int) (ks : γ) : Option (Bool × List α) :=
 if fits (a + 1) then iter (fun go (g : List α × Int × Int × γ × Int × Int) =>
  match g with
  | (d2, a2, b2, ks2, i, j) =>
  bif decide (j < 5) then
   iter (fun go2 (g : List α × Int × Int × γ × Int × Int) =>
    match g with
    | (d3, a3, b3, ks3, i2, j2) =>
    bif decide (i2 < b3) then cmpP c ks3 d3 i2 fun r => bif !decide (r < 0) then (if fits (i2 + 1) then go2 (d3, a3, b3, ks3, i2 + 1, j2) else none) else pisX c N go d3 a3 b3 ks3 i2 j2
    else pisX c N go d3 a3 b3 ks3 i2 j2) N (d2, a2, b2, ks2, i, j)
  else some (false, d2)) N (d, a, b, ks, a + 1, 0) else none
def partE (go3 : (List α × Int × γ × Int × Int) → Option (Int × Bool × List α)) (fl : Bool) (g : List α × Int × γ × Int × Int) : Option (Int × Bool × List α) :=
 match g with
 | (d, a, ks, i, j) =>
 bif decide (j < i) then swpG d j a fun d' => some (j, fl, d') else swpG d i j fun d' => if fits (i + 1) then if fits (j - 1) then go3 (d', a, ks, i + 1, j - 1) else none else none
def partD (k : (List α × Int × γ × Int × Int) → Option ρ) (N : Nat) (g : List α × Int × γ × Int × Int) : Option ρ :=
 iter (fun go (g : List α × Int × γ × Int × Int) =>
  match g with
  | (d, a, ks, i, j) =>
  bif decide (i ≤ j) then cmpG c ks d j a fun r => bif !decide (r < 0) then (if fits (j - 1) then go (d, a, ks, i, j - 1) else none) else k (d, a, ks, i, j)
  else k (d, a, ks, i, j)) N g
def partU (k : (List α × Int × γ × Int × Int) → Option ρ) (N : Nat) (g : List α × Int × γ × Int × Int) : Option ρ :=
 iter (fun go (g : List α × Int × γ × Int × Int) =>
  match g with
  | (d, a, ks, i, j) =>
  bif decide (i ≤ j) then cmpG c ks d i a fun r => bif decide (r < 0) then (if fits (i + 1) then go (d, a, ks, i + 1, j) else none) else k (d, a, ks, i, j)
  else k (d, a, ks, i, j)) N g
def partG (N : Nat) (d : List α) (a b p : Int) (ks : γ) : Option (Int × Bool × List α) :=
 swpG d a p fun d => if fits (a + 1) then if fits (b - 1) then
  partU c (fun g => partD c (partE (fun g => iter (fun go3 g => partU c (fun g => partD c (partE go3 false) N g) N g) N g) true) N g) N (d, a, ks, a + 1, b - 1)
 else none else none
def peqE (go : (List α × Int × γ × Int × Int) → Option (Int × List α)) (g : List α × Int × γ × Int × Int) : Option (Int × List α) :=
 match g with
 | (d, a, ks, i, j) =>
 bif decide (j < i) then some (i, d) else swpG d i j fun d' => if fits (i + 1) then if fits (j - 1) then go (d', a, ks, i + 1, j - 1) else none else none
def peqD (k : (List α × Int × γ × Int × Int) → Option ρ) (N : Nat) (g : List α × Int × γ × Int × Int) : Option ρ :=
 iter (fun go (g : List α × Int × γ × Int × Int) =>
  match g with
  | (d, a, ks, i, j) =>
  bif decide (i ≤ j) then cmpG c ks d a j fun r => bif decide (r < 0) then (if fits (j - 1) then go (d, a, ks, i, j - 1) else none) else k (d, a, ks, i, j)
  else k (d, a, ks, i, j)) N g
def peqU (k : (List α × Int × γ × Int × Int) → Option ρ) (N : Nat) (g : List α × Int × γ × Int × Int) : Option ρ :=
 iter (fun go (g : List α × Int × γ × Int × Int) =>
  match g with
  | (d, a, ks, i, j) =>
  bif decide (i ≤ j) then cmpG c ks d a i fun r => bif !decide (r < 0) then (if fits (i + 1) then go (d, a, ks, i + 1, j) else none) else k (d, a, ks, i, j)
  else k (d, a, ks, i, j)) N g
def peqG (N : Nat) (d : List α) (a b p : Int) (ks : γ) : Option (Int × List α) :=
 swpG d a p fun d => if fits (a + 1) then if fits (b - 1) then iter (fun go g => peqU c (fun g => peqD c (peqE go) N g) N g) N (d, a, ks, a + 1, b - 1) else none else none
def pdqG (hs : List α → Int → Int → γ → Option (List α)) (pe : List α → Int → Int → Int → γ → Option (Int × List α)) (N : Nat) : (D : Nat) → (List α) → Int → Int → Int → γ → Option ((List α))
 | 0, _, _, _, _, _ => none
 | D + 1, data, a, b, limit, cmp =>
 (iter (fun go (g : (List α) × Int × Int × Int × γ × Bool × Bool) => 
   match g with
   | (data2, a2, b2, limit2, cmp2, wasBalanced, wasPartitioned) =>
   (if fits (b2 - a2) then (bif (decide ((b2 - a2) ≤ 12)) then
     (oB (insG c N data2 a2 b2 cmp2) fun r =>
      (some r))
     else
     (bif (decide (limit2 = 0)) then
      (oB (hs data2 a2 b2 cmp2) fun r2 =>
       (some r2))
      else
      (meet (fun (g : (List α) × Int × Int × Int × γ × Bool × Bool × Int) => 
        match g with
        | (data3, a3, b3, limit3, cmp3, wasBalanced2, wasPartitioned2, length) =>
        (oB (choosePivotG c N data3 a3 b3 cmp3) fun r4 =>
         (meet (fun (g : (List α) × Int × Int × Int × γ × Bool × Bool × Int × Int × Int) => 
           match g with
           | (data4, a4, b4, limit4, cmp4, wasBalanced3, wasPartitioned3, length2, pivot, hint) =>
           (meet (fun (g : (List α) × Int × Int × Int × γ × Bool × Bool × Int × Int) => 
             match g with
             | (data5, a5, b5, limit5, cmp5, wasBalanced4, wasPartitioned4, length3, pivot2) =>
             (bif (decide ((0 : Int) < a5)) then
              (if fits (a5 - 1) then (if 0 ≤ (a5 - 1) ∧ (a5 - 1) < (data5.length : Int) then
                (oB (data5[(a5 - 1).toNat]?) fun e =>
                 (if 0 ≤ pivot2 ∧ pivot2 < (data5.length : Int) then
                  (oB (data5[pivot2.toNat]?) fun e2 =>
                   (oB (c cmp5 e e2) fun r7 =>
                    (bif (!(decide (r7 < 0))) then
                     (oB (pe data5 a5 b5 pivot2 cmp5) fun r8 =>
                      (go (r8.2, r8.1, b5, limit5, cmp5, wasBalanced4, wasPartitioned4)))
                     else
                     (oB (partG c N data5 a5 b5 pivot2 cmp5) fun r9 =>
                      (if fits (r9.1 - a5) then (if fits (b5 - r9.1) then (if 8 ≠ 0 then
                         (if fits (length3.tdiv 8) then (bif (decide ((r9.1 - a5) < (b5 - r9.1))) then
                           (oB (pdqG hs pe N D r9.2.2 a5 r9.1 limit5 cmp5) fun r10 =>
                            (if fits (r9.1 + 1) then (go (r10, (r9.1 + 1), b5, limit5, cmp5, (decide ((length3.tdiv 8) ≤ (r9.1 - a5))), r9.2.1)) else none))
                           else
                           (if fits (r9.1 + 1) then (oB (pdqG hs pe N D r9.2.2 (r9.1 + 1) b5 limit5 cmp5) fun r11 =>
                             (go (r11, a5, r9.1, limit5, cmp5, (decide ((length3.tdiv 8) ≤ (b5 - r9.1))), r9.2.1))) else none)) else none)
                         else none) else none) else none)))))
                  else none))
                else none) else none)
              else
              (oB (partG c N data5 a5 b5 pivot2 cmp5) fun r12 =>
               (if fits (r12.1 - a5) then (if fits (b5 - r12.1) then (if 8 ≠ 0 then
                  (if fits (length3.tdiv 8) then (bif (decide ((r12.1 - a5) < (b5 - r12.1))) then
                    (oB (pdqG hs pe N D r12.2.2 a5 r12.1 limit5 cmp5) fun r13 =>
                     (if fits (r12.1 + 1) then (go (r13, (r12.1 + 1), b5, limit5, cmp5, (decide ((length3.tdiv 8) ≤ (r12.1 - a5))), r12.2.1)) else none))
                    else
                    (if fits (r12.1 + 1) then (oB (pdqG hs pe N D r12.2.2 (r12.1 + 1) b5 limit5 cmp5) fun r14 =>
                      (go (r14, a5, r12.1, limit5, cmp5, (decide ((length3.tdiv 8) ≤ (b5 - r12.1))), r12.2.1))) else none)) else none)
                  else none) else none) else none)))) fun J3 =>
            (bif wasBalanced3 then
             (bif wasPartitioned3 then
              (bif (decide (hint = 1)) then
               (oB (pisG c N data4 a4 b4 cmp4) fun r6 =>
                (bif r6.1 then
                 (some r6.2)
                 else
                 (J3 (r6.2, a4, b4, limit4, cmp4, wasBalanced3, wasPartitioned3, length2, pivot))))
               else
               (J3 (data4, a4, b4, limit4, cmp4, wasBalanced3, wasPartitioned3, length2, pivot)))
              else
              (J3 (data4, a4, b4, limit4, cmp4, wasBalanced3, wasPartitioned3, length2, pivot)))
             else
             (J3 (data4, a4, b4, limit4, cmp4, wasBalanced3, wasPartitioned3, length2, pivot))))) fun J2 =>
          (bif (decide (r4.2.1 = 2)) then
           (oB (reverseRangeG N r4.2.2 a3 b3 cmp3) fun r5 =>
            (if fits (b3 - 1) then (if fits (r4.1 - a3) then (if fits ((b3 - 1) - (r4.1 - a3)) then (J2 (r5, a3, b3, limit3, cmp3, wasBalanced2, wasPartitioned2, length, ((b3 - 1) - (r4.1 - a3)), 1)) else none) else none) else none))
           else
           (J2 (r4.2.2, a3, b3, limit3, cmp3, wasBalanced2, wasPartitioned2, length, r4.1, r4.2.1)))))) fun J =>
       (bif (!wasBalanced) then
        (oB (breakG N data2 a2 b2 cmp2) fun r3 =>
         (if fits (limit2 - 1) then (J (r3, a2, b2, (limit2 - 1), cmp2, wasBalanced, wasPartitioned, (b2 - a2))) else none))
        else
        (J (data2, a2, b2, limit2, cmp2, wasBalanced, wasPartitioned, (b2 - a2))))))) else none)) N (data, a, b, limit, cmp, true, true))
end
def cmp105 (N : Nat) : (Unit) → Z1 → Z1 → Option Int := (fun (cmp : Unit) (e e2 : Z0 × Z0 × Z14) => je N e.1 e.2.1 e.2.2 e2.1 e2.2.1 e2.2.2)
def jny : Sh := ⟨.mtk 800000 Y5 156 false :: pI :: pI :: .clo 100 [] :: dz 4 (pI :: dz 44 []), []⟩
def jll : Sh := ⟨.mtk 800000 Y5 156 false :: pI :: pI :: .clo 100 [] :: dz 4 (pI :: pI :: dz 43 []), []⟩
def jeC (N : Nat) (d : List Z1) (c : Int) (a : Int) (b : Unit) : Option ((List Z1)) := insG (cmp105 N) N d c a b
 
theorem jqw (N : Nat) : mK 235 ⟨⟨[.mtk 800000 Y5 156 false, pI, pI, .clo 100 []], []⟩, ⟨[.tup [], .mtk 800000 Y5 156 false], []⟩, c4A (jeC N)⟩ :=
 mO (fC (jaf N) ja) Tryz.func235 rfl N (.seq .no (.block (.loop jny (.seq .no (.seq (.block (.seq .no (.block (.loop jll .no)))) .no))))) _ (rs := [800000])
def jnV : Sh := ⟨.mtk 800000 Y5 156 false :: .dead :: pI :: pI :: .clo 100 [] :: dz 5 (pI :: dz 71 []), []⟩
def jmo : Sh := ⟨.mtk 800000 Y5 156 false :: .dead :: pI :: pI :: .clo 100 [] :: dz 5 (pI :: pI :: dz 70 []), []⟩
def jdy (N : Nat) (b : List Z1) (c : Int) (d : Int) (e : Int) (a : Unit) : Option ((List Z1)) := siftG (cmp105 N) N b c d e a
 
theorem jqE (N : Nat) : mK 286 ⟨⟨[.mtk 800000 Y5 156 false, pI, pI, pI, .clo 100 []], []⟩, ⟨[.tup [], .mtk 800000 Y5 156 false], []⟩, c5A (jdy N)⟩ :=
 mO (fC (jaf N) ja) Tryz.func286 rfl N (.seq .no (.block (.loop jnV (.block (.seq .no (.seq .no (.meet jmo .no .no))))))) _ (rs := [800000])
def jmY : Sh := ⟨.mtk 800000 Y5 156 false :: .dead :: .dead :: .clo 100 [] :: dz 4 (pI :: pI :: pI :: pI :: dz 48 []), []⟩
def jq3 : Sh := ⟨.mtk 800000 Y5 156 false :: .dead :: .dead :: .clo 100 [] :: dz 4 (pI :: pI :: .dead :: .dead :: pI :: dz 47 []), []⟩
def jaC (N : Nat) (d : List Z1) (c : Int) (a : Int) (b : Unit) : Option ((List Z1)) := heapG (cmp105 N) N d c a b
 
theorem jqz (N : Nat) : mK 236 ⟨⟨[.mtk 800000 Y5 156 false, pI, pI, .clo 100 []], []⟩, ⟨[.tup [], .mtk 800000 Y5 156 false], []⟩, c4A (jaC N)⟩ :=
 mO (fC (jqE N) ja) Tryz.func236 rfl N (.seq .no (.seq .no (.seq .no (.seq (.seq .no (.block (.loop jmY .no))) (.seq .no (.block (.loop jq3 .no))))))) _ (rs := [800000])
def jkH : Sh := ⟨.mtk 800000 Y5 156 false :: pI :: dz 6 (pI :: .box 9 0 :: .pv (.int .u64) :: pI :: dz 55 []), [(9, false, [.pv (.int .u64)])]⟩
def jmx : Sh := ⟨.mtk 800000 Y5 156 false :: pI :: dz 6 (pI :: .box 9 0 :: .pv (.int .u64) :: pI :: pI :: dz 54 []), [(9, false, [.pv (.int .u64)])]⟩
def jez (N : Nat) (d : List Z1) (c : Int) (a : Int) (b : Unit) : Option ((List Z1)) := breakG N d c a b
 
theorem jlO (N : Nat) : mK 237 ⟨⟨[.mtk 800000 Y5 156 false, pI, pI, .clo 100 []], []⟩, ⟨[.tup [], .mtk 800000 Y5 156 false], []⟩, c4A (jez N)⟩ :=
 mO (fC (jhv N) (fC (jet N) ja)) Tryz.func237 rfl N (.seq .no (.seq .no (.cond (.seq .no (.seq .no (.seq .no (.block (.loop jkH (.seq .no (.seq (.block (.seq .no (.meet jmx .no .no))) .no))))))) .no))) _ (rs := [800000])
def jcG (N : Nat) (e : List Z1) (d : Int) (a : Int) (b : Unit) (c : Int) : Option (Int × Int × (List Z1) × Int) := order2G (cmp105 N) N e d a b c
 
theorem jrN (N : Nat) : mK 330 ⟨⟨[.mtk 800000 Y5 156 false, pI, pI, .box 900003 0, .clo 100 []], [(900003, false, [pI])]⟩, ⟨[.tup [pI, pI], .mtk 800000 Y5 156 false], [(900003, false, [pI])]⟩, c5A (jcG N)⟩ :=
 mO (fC (jaf N) ja) Tryz.func330 rfl N .no _ (rs := [900003, 800000])
def jdE (N : Nat) (f : List Z1) (d : Int) (a : Int) (e : Int) (b : Unit) (c : Int) : Option (Int × (List Z1) × Int) := medianG (cmp105 N) N f d a e b c
 
theorem jfr (N : Nat) : mK 290 ⟨⟨[.mtk 800000 Y5 156 false, pI, pI, pI, .box 900004 0, .clo 100 []], [(900004, false, [pI])]⟩, ⟨[pI, .mtk 800000 Y5 156 false], [(900004, false, [pI])]⟩, c6A (jdE N)⟩ :=
 mO (fC (jrN N) ja) Tryz.func290 rfl N .no _ (rs := [900004, 800000])
def jca (N : Nat) (d : List Z1) (c : Int) (b : Unit) (a : Int) : Option (Int × (List Z1) × Int) := medianAdjacentG (cmp105 N) N d c b a
 
theorem jko (N : Nat) : mK 289 ⟨⟨[.mtk 800000 Y5 156 false, pI, .box 900002 0, .clo 100 []], [(900002, false, [pI])]⟩, ⟨[pI, .mtk 800000 Y5 156 false], [(900002, false, [pI])]⟩, c4A (jca N)⟩ :=
 mO (fC (jfr N) ja) Tryz.func289 rfl N .no _ (rs := [900002, 800000])
def jnR : Sh := ⟨.mtk 800000 Y5 156 false :: .dead :: .dead :: .clo 100 [] :: dz 7 (.box 11 0 :: pI :: pI :: pI :: dz 48 []), [(11, false, [pI])]⟩
def jrt : Sh := ⟨.mtk 800000 Y5 156 false :: dz 10 (.box 11 0 :: .dead :: pI :: dz 49 []), [(11, false, [pI])]⟩
def jjM (N : Nat) (d : List Z1) (c : Int) (a : Int) (b : Unit) : Option (Int × Int × (List Z1)) := choosePivotG (cmp105 N) N d c a b
 
theorem joO (N : Nat) : mK 238 ⟨⟨[.mtk 800000 Y5 156 false, pI, pI, .clo 100 []], []⟩, ⟨[.tup [pI, pI], .mtk 800000 Y5 156 false], []⟩, c4A (jjM N)⟩ :=
 mO (fC (jko N) (fC (jfr N) ja)) Tryz.func238 rfl N (.seq .no (.seq .no (.seq .no (.seq .no (.seq .no (.seq .no (.meet jrt (.seq .no (.cond (.meet jnR .no .no) .no)) .no))))))) _ (rs := [800000])
def jpl : Sh := ⟨.mtk 800000 Y5 156 false :: dz 7 (pI :: pI :: dz 24 []), []⟩
def jeV (N : Nat) (d : List Z1) (c : Int) (a : Int) (b : Unit) : Option ((List Z1)) := reverseRangeG N d c a b
 
theorem jma (N : Nat) : mK 239 ⟨⟨[.mtk 800000 Y5 156 false, pI, pI, .clo 100 []], []⟩, ⟨[.tup [], .mtk 800000 Y5 156 false], []⟩, c4A (jeV N)⟩ :=
 mO ja Tryz.func239 rfl N (.seq .no (.seq .no (.block (.loop jpl .no)))) _ (rs := [800000])
def jn3 : Sh := ⟨.mtk 800000 Y5 156 false :: pI :: pI :: .clo 100 [] :: dz 5 (pI :: pI :: dz 130 []), []⟩
def jsj : Sh := ⟨.mtk 800000 Y5 156 false :: pI :: pI :: .clo 100 [] :: dz 5 (pI :: pI :: pI :: dz 129 []), []⟩
def jnQ : Sh := ⟨.mtk 800000 Y5 156 false :: pI :: pI :: .clo 100 [] :: dz 5 (pI :: pI :: .dead :: pI :: dz 128 []), []⟩
def jhb (N : Nat) (d : List Z1) (c : Int) (a : Int) (b : Unit) : Option (Bool × (List Z1)) := pisG (cmp105 N) N d c a b
 
theorem jnw (N : Nat) : mK 240 ⟨⟨[.mtk 800000 Y5 156 false, pI, pI, .clo 100 []], []⟩, ⟨[pB, .mtk 800000 Y5 156 false], []⟩, c4A (jhb N)⟩ :=
 mO (fC (jaf N) ja) Tryz.func240 rfl N (.seq .no (.seq .no (.seq (.seq .no (.block (.loop jn3 (.seq .no (.seq (.block (.seq (.block (.loop jn3 .no)) (.seq .no (.seq .no (.seq .no (.meet jn3 (.seq .no (.cond (.seq .no (.block (.loop jsj .no))) .no)) (.seq .no (.cond (.seq .no (.block (.loop jnQ .no))) .no)))))))) .no))))) .no))) _ (rs := [800000])
def jnv : Sh := ⟨.mtk 800000 Y5 156 false :: pI :: .dead :: .dead :: .clo 100 [] :: dz 6 (pI :: pI :: dz 77 []), []⟩
def jbG (N : Nat) (d : List Z1) (c : Int) (a : Int) (e : Int) (b : Unit) : Option (Int × (List Z1)) := peqG (cmp105 N) N d c a e b
 
theorem jp1 (N : Nat) : mK 241 ⟨⟨[.mtk 800000 Y5 156 false, pI, pI, pI, .clo 100 []], []⟩, ⟨[pI, .mtk 800000 Y5 156 false], []⟩, c5A (jbG N)⟩ :=
 mO (fC (jaf N) ja) Tryz.func241 rfl N (.seq .no (.seq .no (.seq .no (.seq (.block (.loop jnv (.block (.seq (.block (.loop jnv .no)) (.seq (.block (.loop jnv .no)) .no))))) .no)))) _ (rs := [800000])
def jru : Sh := ⟨.mtk 800000 Y5 156 false :: pI :: .dead :: .dead :: .clo 100 [] :: dz 7 (pI :: pI :: dz 164 []), []⟩
def jcT (N : Nat) (d : List Z1) (c : Int) (a : Int) (e : Int) (b : Unit) : Option (Int × Bool × (List Z1)) := partG (cmp105 N) N d c a e b
 
theorem jrO (N : Nat) : mK 242 ⟨⟨[.mtk 800000 Y5 156 false, pI, pI, pI, .clo 100 []], []⟩, ⟨[.tup [pI, pB], .mtk 800000 Y5 156 false], []⟩, c5A (jcT N)⟩ :=
 mO (fC (jaf N) ja) Tryz.func242 rfl N (.seq .no (.seq .no (.seq .no (.seq (.block (.loop jru .no)) (.seq (.block (.loop jru .no)) (.seq .no (.seq .no (.seq .no (.seq .no (.seq (.block (.loop jru (.block (.seq (.block (.loop jru .no)) (.seq (.block (.loop jru .no)) .no))))) .no)))))))))) _ (rs := [800000])
def jmM : Sh := ⟨.mtk 800000 Y5 156 false :: pI :: pI :: pI :: .clo 100 [] :: dz 5 (pB :: pB :: dz 136 []), []⟩
def jnd : Sh := ⟨.mtk 800000 Y5 156 false :: pI :: pI :: pI :: .clo 100 [] :: dz 5 (pB :: pB :: pI :: pI :: dz 134 []), []⟩
def jmi : Sh := ⟨.mtk 800000 Y5 156 false :: pI :: pI :: pI :: .clo 100 [] :: dz 5 (pB :: pB :: pI :: pI :: pI :: dz 133 []), []⟩
def js7 : Sh := ⟨.mtk 800000 Y5 156 false :: pI :: pI :: pI :: .clo 100 [] :: dz 5 (pB :: pB :: pI :: dz 135 []), []⟩
def jK (N D : Nat) (e : List Z1) (a b limit : Int) (h : Unit) : Option ((List Z1)) := pdqG (cmp105 N) (fun c a b d => heapG (cmp105 N) N c a b d) (fun c a b f d => peqG (cmp105 N) N c a b f d) N D e a b limit h
 
def jcj (N D : Nat) : Model := ⟨⟨[.mtk 800000 Y5 156 false, pI, pI, pI, .clo 100 []], []⟩, ⟨[.tup [], .mtk 800000 Y5 156 false], []⟩, c5A (jK N D)⟩
theorem jrm (N D : Nat) (ih : mK 175 (jcj N D)) : mK 175 (jcj N (D + 1)) :=
 mO (fC ih (fC (jqw N) (fC (jqz N) (fC (jlO N) (fC (joO N) (fC (jma N) (fC (jnw N) (fC (jaf N) (fC (jp1 N) (fC (jrO N) ja)))))))))) Tryz.func175 rfl N (.seq .no (.seq .no (.block (.loop jmM (.block (.seq .no (.seq .no (.seq .no (.meet js7 .no (.seq .no (.meet jmi .no (.meet jnd .no .no)))))))))))) (jcj N (D + 1)) (rs := [800000])
theorem jix (N : Nat) : ∀ D, mK 175 (jcj N D)
 | 0 => modelOk_none ⟨_, Tryz.func175, by decide, by kernel_rfl⟩ _ (fun a => rfl)
 | D + 1 => jrm N D (jix N D)
def k_slices_SortFunc_105_m (N : Nat) (a : List Z1) (d : Unit) : Option ((List Z1)) :=
 (oB (k_math_bits_Len_m N (IntKind.u64.wrap (a.length : Int))) fun b => oB (jK N N a 0 (a.length : Int) b ()) fun c => some c)
theorem jtu (N : Nat) : mK 99 ⟨⟨[.mtk 800000 Y5 156 false, .clo 100 []], []⟩, ⟨[.tup [], .mtk 800000 Y5 156 false], []⟩, c2A (k_slices_SortFunc_105_m N)⟩ :=
 mO (fC (jda N) (fC (jix N N) ja)) Tryz.func99 rfl N .no _ (rs := [800000])
def jmK : Sh := ⟨.dead :: .dead :: .box 2 0 :: .dead :: .box 4 0 :: .box 5 0 :: dz 19 (.pv Y2 :: pI :: pI :: dz 32 []), [(2, false, [.pv (.sl .str), .pv Y15]), (4, false, [.nils, .nils]), (5, false, [.pv Y2, .tre 700501 Y5 156])]⟩
def jor : Sh := ⟨.dead :: .dead :: .box 2 0 :: .dead :: .box 4 0 :: .box 5 0 :: .dead :: .box 7 0 :: dz 17 (.pv Y2 :: pI :: pI :: dz 4 (.pv Y18 :: pI :: pI :: dz 25 [])), [(2, false, [.pv (.sl .str), .pv Y15]), (4, false, [.nils, .nils]), (5, false, [.pv Y2, .tre 700501 Y5 156]), (7, false, [pI, .pv Y18, .pv Y14])]⟩
def jnj : Sh := ⟨.dead :: .dead :: .box 2 0 :: .dead :: .box 4 0 :: .box 5 0 :: .dead :: .box 7 0 :: .dead :: .box 9 0 :: dz 15 (.pv Y2 :: pI :: pI :: dz 4 (.pv Y18 :: pI :: pI :: dz 6 (.own 600041 Y16 151 true :: pI :: pI :: dz 16 []))), [(2, false, [.pv (.sl .str), .pv Y15]), (4, false, [.nils, .nils]), (5, false, [.pv Y2, .tre 700501 Y5 156]), (7, false, [pI, .pv Y18, .pv Y14]), (9, false, [pS, pS])]⟩
def i_SegOf_m (N : Nat) (c : List Z0) (c2 : List Z3) (docs : List Z2) : Option ((List Z2) × (List Z1)) :=
 (oB (jaj N c c2) fun r => bif !r then some (([] : List Z2), ([] : List Z1)) else oB (jbf N docs) fun r2 => bif !r2 then some (([] : List Z2), ([] : List Z1)) else oB (jbV N docs) fun r3 => iter (fun go (t25, t26, t27, c3, c4, s, s2) => bif decide (t27 < t26) then oB (idx t25 t27) fun e => (iter (fun go2 (t252, t262, t272, t32, t33, t34, c5, c6, s3, s4, d, d2, d3) => bif decide (t34 < t33) then oB (idx t32 t34) fun e2 => (oB (jbw N c5 c6 e2.2) fun r4 => iter (fun go3 (t253, t263, t273, t322, t332, t342, t41, t42, t43, c7, c8, s5, s6, d4, d5, d6, f, f2) => bif decide (t43 < t42) then oB (idx t41 t43) fun e3 => (oB (i_Seg_put_m N f e3.1 e3.2 d4 s5 s6) fun r5 => if fits (t43 + 1) then go3 (t253, t263, t273, t322, t332, t342, t41, t42, (t43 + 1), c7, c8, r5.1, r5.2, d4, d5, d6, f, f2) else none) else if fits (t342 + 1) then go2 (t253, t263, t273, t322, t332, (t342 + 1), c7, c8, s5, s6, d4, d5, d6) else none) N (t252, t262, t272, t32, t33, t34, r4, (r4.length : Int), (0 : Int), c5, c6, s3, s4, d, d2, d3, e2.1, e2.2)) else if fits (t272 + 1) then go (t252, t262, (t272 + 1), c5, c6, s3, s4) else none) N (t25, t26, t27, e.2.1, (e.2.1.length : Int), (0 : Int), c3, c4, s, s2, e.1, e.2.1, e.2.2)) else oB (k_slices_SortFunc_105_m N s2 ()) fun r6 => some (s, r6)) N (docs, (docs.length : Int), (0 : Int), c, c2, r3, ([] : List Z1)))
theorem jqC (N : Nat) : mK 31 ⟨⟨[.agg [.pv (.sl .str), .pv Y15], .pv Y2], []⟩, ⟨[.agg [.pv Y2, .own 1 Y5 156 false]], []⟩, c3A (i_SegOf_m N)⟩ :=
 mO (fC (jdX N) (fC (jjU N) (fC (joC N) (fC (jgO N) (fC (jky N) (fC (jtu N) ja)))))) Tryz.func31 rfl N (.seq .no (.seq .no (.seq .no (.seq (.seq .no (.block (.loop jmK (.seq .no (.seq .no (.seq (.block (.seq .no (.seq .no (.block (.loop jor (.seq .no (.seq .no (.seq (.block (.seq .no (.seq .no (.block (.loop jnj .no))))) .no)))))))) .no)))))) .no)))) _ (wr := [23]) (dw := [23, 57])
def jqv : Sh := ⟨.dead :: pI :: .dead :: .dead :: .box 4 0 :: dz 6 (.pv Y2 :: pI :: pI :: dz 10 []), [(4, false, [pI, .nils, .nils])]⟩
def i_Seg_doc_m (N : Nat) (f : (List Z2) × (List Z1)) (k : Int) : Option (Int × Z9 × Z5 × Bool) :=
 (iter (fun h (d, e, c, b, i) => bif decide (b < c) then oB (idx e b) fun a => (bif decide (a.1 = d) then some (a.1, a.2.1, a.2.2, true) else if fits (b + 1) then h (d, e, c, (b + 1), i) else none) else some (0, ([] : Z10), ([] : Z6), false)) N (k, f.1, (f.1.length : Int), (0 : Int), (0 : Int)))
theorem jlU (N : Nat) : mK 159 ⟨⟨[.ptr Y1, pI], []⟩, ⟨[.tup [.agg [pI, .pv Y18, .pv Y14], pB]], []⟩, c2A (i_Seg_doc_m N)⟩ :=
 mO ja Tryz.func159 rfl N (.seq .no (.seq (.seq .no (.block (.loop jqv .no))) .no)) _
def jtB : Sh := ⟨.pv Y20 :: .pv Y20 :: dz 10 (pI :: pI :: dz 12 []), []⟩
def jbX (N : Nat) (b : List Int) (f : List Int) : Z7 :=
 (bif !decide ((b.length : Int) = (f.length : Int)) then some false else iter (fun h (e, c, d, a) => bif decide (a < d) then oB (idx e a) fun j => (oB (idx c a) fun k => bif !decide (j = k) then some false else if fits (a + 1) then h (e, c, d, (a + 1)) else none) else some true) N (b, f, (b.length : Int), (0 : Int)))
theorem jqi (N : Nat) : mK 250 ⟨⟨[.pv Y20, .pv Y20], []⟩, ⟨[pB], []⟩, c2A (jbX N)⟩ :=
 mO ja Tryz.func250 rfl N (.seq .no (.seq .no (.seq (.seq .no (.block (.loop jtB .no))) .no))) _
def jcp (N : Nat) (d : Int) (e : List Int) (b : Int) (c : List Int) : Z7 :=
 (bif decide (d = b) then oB (jbX N e c) fun a => (some a) else some false)
theorem jth (N : Nat) : mK 187 ⟨⟨[.agg [pI, .pv Y20], .agg [pI, .pv Y20]], []⟩, ⟨[pB], []⟩, c4A (jcp N)⟩ :=
 mO (fC (jqi N) ja) Tryz.func187 rfl N .no _
def jlX : Sh := ⟨.dead :: .pv Y11 :: .clo 187 [] :: dz 12 (.pv Y11 :: pI :: pI :: dz 14 []), []⟩
def jb6 (N : Nat) (b : Z4) (h : Z4) (n : Unit) : Z7 :=
 (bif !decide ((b.length : Int) = (h.length : Int)) then some false else iter (fun j (c, m, d, e, a) => bif decide (a < e) then oB (idx d a) fun f => (oB (idx c a) fun i => oB (jcp N f.1 f.2 i.1 i.2) fun k => bif !k then some false else if fits (a + 1) then j (c, (), d, e, (a + 1)) else none) else some true) N (h, (), b, (b.length : Int), (0 : Int)))
theorem jnG (N : Nat) : mK 186 ⟨⟨[.pv Y11, .pv Y11, .clo 187 []], []⟩, ⟨[pB], []⟩, c3A (jb6 N)⟩ :=
 mO (fC (jth N) ja) Tryz.func186 rfl N (.seq .no (.seq .no (.seq (.seq .no (.block (.loop jlX .no))) .no))) _
def jcz (N : Nat) (b : List UInt8) (d : List UInt8) (a : Z4) (f : List UInt8) (c : List UInt8) (h : Z4) : Z7 :=
 (bif decide (b = f) then bif decide (d = c) then oB (jb6 N a h ()) fun e => (some e) else (some false) else some false)
theorem jp4 (N : Nat) : mK 115 ⟨⟨[.agg [pS, pS, .pv Y11], .agg [pS, pS, .pv Y11]], []⟩, ⟨[pB], []⟩, c6A (jcz N)⟩ :=
 mO (fC (jnG N) ja) Tryz.func115 rfl N .no _
def jlD : Sh := ⟨.dead :: .pv Y4 :: .clo 115 [] :: dz 12 (.pv Y4 :: pI :: pI :: dz 14 []), []⟩
def jcn (N : Nat) (b : List Z1) (i : List Z1) (n : Unit) : Z7 :=
 (bif !decide ((b.length : Int) = (i.length : Int)) then some false else iter (fun j (e, m, f, h, a) => bif decide (a < h) then oB (idx f a) fun c => (oB (idx e a) fun d => oB (jcz N c.1 c.2.1 c.2.2 d.1 d.2.1 d.2.2) fun k => bif !k then some false else if fits (a + 1) then j (e, (), f, h, (a + 1)) else none) else some true) N (i, (), b, (b.length : Int), (0 : Int)))
theorem jsa (N : Nat) : mK 114 ⟨⟨[.pv Y4, .pv Y4, .clo 115 []], []⟩, ⟨[pB], []⟩, c3A (jcn N)⟩ :=
 mO (fC (jp4 N) ja) Tryz.func114 rfl N (.seq .no (.seq .no (.seq (.seq .no (.block (.loop jlD .no))) .no))) _
def i_SegOk_m (N : Nat) (a : List Z0) (c : List Z3) (b : List Z2) (i : List Z1) : Z7 :=
 (oB (jaj N a c) fun f => bif !f then some false else oB (jbf N b) fun h => bif !h then some false else oB (i_SegOf_m N a c b) fun d => oB (jcn N d.2 i ()) fun e => some e)
theorem joa (N : Nat) : mK 37 ⟨⟨[.agg [.pv (.sl .str), .pv Y15], .agg [.pv Y2, .pv Y4]], []⟩, ⟨[pB], []⟩, c4A (i_SegOk_m N)⟩ :=
 mO (fC (jdX N) (fC (jjU N) (fC (jqC N) (fC (jsa N) ja)))) Tryz.func37 rfl N .no _
def jyc (N : Nat) (d : List Z0) (e : List Z3) (b : List UInt8) : Option (Z0) :=
 (oB (jO N b) fun c => bif !c then some ([] : List UInt8) else oB (jbw N d e b) fun a => bif decide ((a.length : Int) = 0) then some ([] : List UInt8) else oB (idx a 0) fun f => some f.1)
theorem jBn (N : Nat) : mK 224 ⟨⟨[.agg [.pv (.sl .str), .pv Y15], pS], []⟩, ⟨[pS], []⟩, c3A (jyc N)⟩ :=
 mO (fC (jcM N) (fC (jgO N) ja)) Tryz.func224 rfl N .no _
def jnu : Sh := ⟨.dead :: pS :: pS :: dz 9 (.pv Y4 :: pI :: pI :: dz 16 []), []⟩
def i_Seg_posts_m (N : Nat) (i : (List Z2) × (List Z1)) (j : List UInt8) (l : List UInt8) : Option (Z14) :=
 (iter (fun h (c, f, b, e, a) => bif decide (a < e) then oB (idx b a) fun d => (bif decide (d.1 = c) then bif decide (d.2.1 = f) then some d.2.2 else (if fits (a + 1) then h (c, f, b, e, (a + 1)) else none) else if fits (a + 1) then h (c, f, b, e, (a + 1)) else none) else some ([] : Z4)) N (j, l, i.2, (i.2.length : Int), (0 : Int)))
theorem jcq (N : Nat) : mK 280 ⟨⟨[.ptr Y1, pS, pS], []⟩, ⟨[.pv Y11], []⟩, c3A (i_Seg_posts_m N)⟩ :=
 mO ja Tryz.func280 rfl N (.seq .no (.seq (.seq .no (.block (.loop jnu .no))) .no)) _
def jni : Sh := ⟨dz 3 (pI :: dz 12 (.pv Y11 :: pI :: pI :: dz 10 [])), []⟩
def i_scorer_places_m (N : Nat) (j : ((List Z0) × (List Z3)) × (List Z2) × (List Z1)) (h : List UInt8) (l : List UInt8) (m : Int) : Option ((List Int)) :=
 (oB (i_Seg_posts_m N j.2 h l) fun c => iter (fun i (b, d, e, a) => bif decide (a < e) then oB (idx d a) fun f => (bif decide (f.1 = b) then some f.2 else if fits (a + 1) then i (b, d, e, (a + 1)) else none) else some ([] : List Int)) N (m, c, (c.length : Int), (0 : Int)))
theorem jrB (N : Nat) : mK 229 ⟨⟨[.ptr Y0, pS, pS, pI], []⟩, ⟨[.pv Y20], []⟩, c4A (i_scorer_places_m N)⟩ :=
 mO (fC (jcq N) ja) Tryz.func229 rfl N (.seq .no (.seq (.seq .no (.block (.loop jni .no))) .no)) _
def jmV : Sh := ⟨.dead :: pS :: dz 8 (.pv Y18 :: pI :: pI :: dz 10 []), []⟩
def i_DocField_m (N : Nat) (k : Int) (b : Z10) (i : Z6) (m : List UInt8) : Option (Z0) :=
 (oB (jbx N k b i) fun j => bif j then iter (fun h (f, c, d, a) => bif decide (a < d) then oB (idx c a) fun e => (bif decide (e.1 = f) then some e.2 else if fits (a + 1) then h (f, c, d, (a + 1)) else none) else some ([] : List UInt8)) N (m, b, (b.length : Int), (0 : Int)) else some ([] : List UInt8))
theorem jqd (N : Nat) : mK 322 ⟨⟨[.agg [pI, .pv Y18, .pv Y14], pS], []⟩, ⟨[pS], []⟩, c4A (i_DocField_m N)⟩ :=
 mO (fC (jh0 N) ja) Tryz.func322 rfl N (.seq .no (.seq (.seq .no (.cond (.seq .no (.block (.loop jmV .no))) .no)) .no)) _
def i_Seg_long_m (N : Nat) (f : (List Z2) × (List Z1)) (c : List Z0) (h : List Z3) (b : List UInt8) (i : Int) : Z12 :=
 (oB (i_Seg_doc_m N f i) fun a => bif !a.2.2.2 then some 0 else oB (i_DocField_m N a.1 a.2.1 a.2.2.1 b) fun e => oB (jbw N c h e) fun d => some (d.length : Int))
theorem jhs (N : Nat) : mK 278 ⟨⟨[.ptr Y1, .agg [.pv (.sl .str), .pv Y15], pS, pI], []⟩, ⟨[pI], []⟩, c5A (i_Seg_long_m N)⟩ :=
 mO (fC (jlU N) (fC (jqd N) (fC (jgO N) ja))) Tryz.func278 rfl N .no _
def joq : Sh := ⟨pI :: pI :: dz 13 [], []⟩
def ja2 (N : Nat) (e : Int) (c : Int) : Z12 :=
 (iter (fun f (a, b) => bif !decide (b = 0) then if b ≠ 0 then f (b, (a.tmod b)) else none else if fits (0 - a) then some (if (0 - a) > a then 0 - a else a) else none) N (e, c))
theorem jiQ (N : Nat) : mK 342 ⟨⟨[pI, pI], []⟩, ⟨[pI], []⟩, c2A (ja2 N)⟩ :=
 mO ja Tryz.func342 rfl N (.seq .no (.seq (.block (.loop joq .no)) .no)) _
def jbk (N : Nat) (a : Int) (b : Int) : Z7 :=
 (oB (jm N a (-1000000000) 1000000000) fun d => bif d then oB (jm N b 1 1000000000) fun e => (bif e then oB (ja2 N a b) fun c => (some (decide (c = 1))) else some false) else some false)
theorem jhS (N : Nat) : mK 324 ⟨⟨[.agg [pI, pI]], []⟩, ⟨[pB], []⟩, c2A (jbk N)⟩ :=
 mO (fC (jY N) (fC (jiQ N) ja)) Tryz.func324 rfl N .no _
def jk5 : Sh := ⟨pI :: pI :: .dead :: .dead :: .box 4 0 :: dz 24 [], [(4, false, [pI, pI])]⟩
def jcl (N : Nat) (e : Int) (d : Int) : Option (Int × Int × Bool) :=
 (meet (fun (h : Int × Int × Int × Int) => match h with | (c, b, k, j) => oB (ja2 N c b) fun a => if a ≠ 0 then if fits (c.tdiv a) then if a ≠ 0 then if fits (b.tdiv a) then oB (jbk N (c.tdiv a) (b.tdiv a)) fun i => (bif !i then some (0, 1, false) else some ((c.tdiv a), (b.tdiv a), true)) else none else none else none else none) fun f => bif decide (d < 0) then if fits (0 - e) then if fits (0 - d) then f ((0 - e), (0 - d), 0, 0) else none else none else f (e, d, 0, 0))
theorem jlG (N : Nat) : mK 341 ⟨⟨[pI, pI], []⟩, ⟨[.tup [.agg [pI, pI], pB]], []⟩, c2A (jcl N)⟩ :=
 mO (fC (jiQ N) (fC (jhS N) ja)) Tryz.func341 rfl N (.seq .no (.meet jk5 .no .no)) _
def jb7 (N : Nat) (c : Int) (a : Int) : Option (Int × Int × Bool) :=
 (oB (jm N c (-1000000000) 1000000000) fun d => bif !d then some (0, 1, false) else oB (jm N a (-1000000000) 1000000000) fun e => bif !e then some (0, 1, false) else bif decide (a = 0) then some (0, 1, false) else oB (jcl N c a) fun b => some (b.1, b.2.1, b.2.2))
theorem jpX (N : Nat) : mK 323 ⟨⟨[pI, pI], []⟩, ⟨[.tup [.agg [pI, pI], pB]], []⟩, c2A (jb7 N)⟩ :=
 mO (fC (jY N) (fC (jlG N) ja)) Tryz.func323 rfl N .no _
def jtO : Sh := ⟨pI :: pI :: pI :: pI :: pI :: dz 5 (.box 10 0 :: .dead :: pI :: dz 53 []), [(10, false, [pI, pI])]⟩
def i_TermScore_m (N : Nat) (h : Int) (j : Int) (m : Int) (k : Int) (l : Int) : Option (Int × Int × Bool) :=
 (oB (jm N h 1 80) fun o => bif !o then some (0, 1, false) else oB (jm N j h 80) fun p => bif !p then some (0, 1, false) else oB (jm N k 1 16) fun n => bif !n then some (0, 1, false) else oB (jm N l 1 k) fun t => bif !t then some (0, 1, false) else oB (jm N m j 1280) fun w => bif !w then some (0, 1, false) else iter (fun r (b, d, e, c, f, a, u, q) => if fits (a + 1) then if 0 ≤ (a + 1) then if fits (f * 2 ^ (min (a + 1).toNat (IntKind.bits .i64))) then bif decide ((f * 2 ^ (min (a + 1).toNat (IntKind.bits .i64))) ≤ c) then if fits (a + 1) then r (b, d, e, c, f, (a + 1), u, q) else none else (if fits (22 * b) then if fits (a + 1) then if fits ((22 * b) * (a + 1)) then if fits (10 * b) then if fits ((10 * b) + 3) then if fits (9 * d) then if fits ((9 * d) * c) then if e ≠ 0 then if fits (((9 * d) * c).tdiv e) then if fits (((10 * b) + 3) + (((9 * d) * c).tdiv e)) then oB (jb7 N ((22 * b) * (a + 1)) (((10 * b) + 3) + (((9 * d) * c).tdiv e))) fun i => (some (i.1, i.2.1, i.2.2)) else none else none else none else none else none else none else none else none else none else none) else none else none else none) N (h, j, m, k, l, (0 : Int), (0 : Int), (0 : Int)))
theorem jgE (N : Nat) : mK 279 ⟨⟨[pI, pI, pI, pI, pI], []⟩, ⟨[.tup [.agg [pI, pI], pB]], []⟩, c5A (i_TermScore_m N)⟩ :=
 mO (fC (jY N) (fC (jpX N) ja)) Tryz.func279 rfl N (.seq .no (.seq .no (.seq .no (.seq (.block (.loop jtO .no)) .no)))) _
def i_RatFloor_m (N : Nat) (b : Int) (a : Int) (c : Int) : Z12 :=
 (oB (jbk N b a) fun d => bif !d then some 0 else oB (jm N c 1 1000) fun e => bif !e then some 0 else if fits (b * c) then bif decide ((0 : Int) ≤ (b * c)) then if a ≠ 0 then if fits ((b * c).tdiv a) then some ((b * c).tdiv a) else none else none else (if fits (0 - (b * c)) then if fits ((0 - (b * c)) + a) then if fits (((0 - (b * c)) + a) - 1) then if a ≠ 0 then if fits ((((0 - (b * c)) + a) - 1).tdiv a) then if fits (0 - ((((0 - (b * c)) + a) - 1).tdiv a)) then some (0 - ((((0 - (b * c)) + a) - 1).tdiv a)) else none else none else none else none else none else none) else none)
theorem jiY (N : Nat) : mK 281 ⟨⟨[.agg [pI, pI], pI], []⟩, ⟨[pI], []⟩, c3A (i_RatFloor_m N)⟩ :=
 mO (fC (jhS N) (fC (jY N) ja)) Tryz.func281 rfl N .no _
def jlZ : Sh := ⟨.ptr Y0 :: pS :: pS :: pI :: dz 5 (.pv Y20 :: pI :: dz 16 (.pv Y2 :: pI :: pI :: dz 49 [])), []⟩
def i_scorer_points_m (N : Nat) (d : ((List Z0) × (List Z3)) × (List Z2) × (List Z1)) (f : List UInt8) (n : List UInt8) (q : Int) : Z12 :=
 (oB (i_scorer_places_m N d f n q) fun k => bif decide ((k.length : Int) = 0) then some 0 else iter (fun v (a, c, m, j, p, e, i, h, b) => bif decide (b < h) then oB (idx i b) fun u => (oB (i_Seg_long_m N a.2 a.1.1 a.1.2 c u.1) fun l => if fits (e + l) then if fits (b + 1) then v (a, c, m, j, p, (e + l), i, h, (b + 1)) else none else none) else oB (i_Seg_long_m N a.2 a.1.1 a.1.2 c j) fun r => oB (i_Seg_posts_m N a.2 c m) fun w => oB (i_TermScore_m N (p.length : Int) r e (a.2.1.length : Int) (w.length : Int)) fun o => oB (i_RatFloor_m N o.1 o.2.1 1000) fun t => some t) N (d, f, n, q, k, (0 : Int), d.2.1, (d.2.1.length : Int), (0 : Int)))
theorem jsD (N : Nat) : mK 223 ⟨⟨[.ptr Y0, pS, pS, pI], []⟩, ⟨[pI], []⟩, c4A (i_scorer_points_m N)⟩ :=
 mO (fC (jrB N) (fC (jhs N) (fC (jcq N) (fC (jgE N) (fC (jiY N) ja))))) Tryz.func223 rfl N (.seq .no (.seq .no (.seq .no (.seq .no (.seq (.seq .no (.block (.loop jlZ .no))) .no))))) _
def jyu (N : Nat) (a : List Z0) (b : List UInt8) : Option (Z0) := jxR a b
 
def jBB (N : Nat) : Model := ⟨⟨[.pv (.sl .str), pS], []⟩, ⟨[pS], []⟩, c2A (jyu N)⟩
theorem jBE (N : Nat) : mK 282 (jBB N) := jBz
def jDT : Sh := ⟨.pv Y20 :: dz 4 (.pv Y20 :: pI :: pI :: dz 24 []), []⟩
def jx1 (N : Nat) (d : List Int) : Z7 :=
 (iter (fun f (b, e, c, a) => bif decide (a < c) then oB (idx e a) fun h => (oB (jm N h 0 999999999) fun i => bif !i then some false else bif decide ((0 : Int) < a) then if fits (a - 1) then oB (idx b (a - 1)) fun k => (bif decide (h ≤ k) then some false else if fits (a + 1) then f (b, e, c, (a + 1)) else none) else none else if fits (a + 1) then f (b, e, c, (a + 1)) else none) else some (decide ((b.length : Int) ≤ 60))) N (d, d, (d.length : Int), (0 : Int)))
theorem jAN (N : Nat) : mK 120 ⟨⟨[.pv Y20], []⟩, ⟨[pB], []⟩, c1A (jx1 N)⟩ :=
 mO (fC (jY N) ja) Tryz.func120 rfl N (.seq .no (.seq (.seq .no (.block (.loop jDT .no))) .no)) _
def jBY : Sh := ⟨.pv (.sl Y20) :: dz 4 (.pv (.sl Y20) :: pI :: pI :: dz 10 []), []⟩
def jyD (N : Nat) (b : List (List Int)) : Z7 :=
 (iter (fun f (d, e, c, a) => bif decide (a < c) then oB (idx e a) fun j => (oB (jx1 N j) fun h => bif !h then some false else if fits (a + 1) then f (d, e, c, (a + 1)) else none) else some (decide ((d.length : Int) ≤ 6))) N (b, b, (b.length : Int), (0 : Int)))
theorem jD9 (N : Nat) : mK 345 ⟨⟨[.pv (.sl Y20)], []⟩, ⟨[pB], []⟩, c1A (jyD N)⟩ :=
 mO (fC (jAN N) ja) Tryz.func345 rfl N (.seq .no (.seq (.seq .no (.block (.loop jBY .no))) .no)) _
def jyK (N : Nat) (a : List (List Int)) : Z7 :=
 (bif decide ((0 : Int) < (a.length : Int)) then oB (jyD N a) fun b => (some b) else some false)
theorem jD6 (N : Nat) : mK 328 ⟨⟨[.pv (.sl Y20)], []⟩, ⟨[pB], []⟩, c1A (jyK N)⟩ :=
 mO (fC (jD9 N) ja) Tryz.func328 rfl N .no _
def jxH (N : Nat) (a : Int) : Z7 :=
 (some (!decide (a = a)))
theorem joK (N : Nat) : mK 267 ⟨⟨[pI], []⟩, ⟨[pB], []⟩, c1A (jxH N)⟩ :=
 mO ja Tryz.func267 rfl N .no _
def jye (N : Nat) (b : Int) (a : Int) : Z7 :=
 (oB (jxH N b) fun c => bif c then oB (jxH N a) fun d => (bif !d then some true else some (decide (b < a))) else some (decide (b < a)))
theorem jA5 (N : Nat) : mK 258 ⟨⟨[pI, pI], []⟩, ⟨[pB], []⟩, c2A (jye N)⟩ :=
 mO (fC (joK N) ja) Tryz.func258 rfl N .no _
def jxW (N : Nat) (a : Int) : Z7 :=
 (some (!decide (a = a)))
theorem jCp (N : Nat) : mK 354 ⟨⟨[pI], []⟩, ⟨[pB], []⟩, c1A (jxW N)⟩ :=
 mO ja Tryz.func354 rfl N .no _
def jB3 : Sh := ⟨.pv Y20 :: pI :: dz 4 (pI :: pI :: pI :: dz 45 []), []⟩
def jyA (N : Nat) (f : List Int) (n : Int) : Option (Int × Bool) :=
 (iter (fun h (c, d, e, a, b) => bif decide (a < b) then if fits (a + b) then if 0 ≤ (1 : Int) then oB (idx c (IntKind.i64.wrap ((IntKind.u64.wrap (a + b)).fdiv (2 ^ (min (1 : Int).toNat (IntKind.bits .u64)))))) fun o => (oB (jye N o d) fun j => bif j then if fits ((IntKind.i64.wrap ((IntKind.u64.wrap (a + b)).fdiv (2 ^ (min (1 : Int).toNat (IntKind.bits .u64))))) + 1) then h (c, d, e, ((IntKind.i64.wrap ((IntKind.u64.wrap (a + b)).fdiv (2 ^ (min (1 : Int).toNat (IntKind.bits .u64))))) + 1), b) else none else h (c, d, e, a, (IntKind.i64.wrap ((IntKind.u64.wrap (a + b)).fdiv (2 ^ (min (1 : Int).toNat (IntKind.bits .u64))))))) else none else none else bif decide (a < e) then oB (idx c a) fun p => (bif decide (p = d) then some (a, true) else oB (idx c a) fun k => oB (jxW N k) fun l => bif l then oB (jxW N d) fun i => (some (a, i)) else some (a, false)) else some (a, false)) N (f, n, (f.length : Int), (0 : Int), (f.length : Int)))
theorem jDL (N : Nat) : mK 346 ⟨⟨[.pv Y20, pI], []⟩, ⟨[.tup [pI, pB]], []⟩, c2A (jyA N)⟩ :=
 mO (fC (jA5 N) (fC (jCp N) ja)) Tryz.func346 rfl N (.seq .no (.seq .no (.seq .no (.seq (.block (.loop jB3 .no)) .no)))) _
def jys (N : Nat) (a : List Int) (c : Int) : Option (Int × Bool) :=
 (oB (jyA N a c) fun b => bif decide (b.1 = (a.length : Int)) then some (0, false) else oB (idx a b.1) fun d => some (d, true))
theorem jAO (N : Nat) : mK 329 ⟨⟨[.pv Y20, pI], []⟩, ⟨[.tup [pI, pB]], []⟩, c2A (jys N)⟩ :=
 mO (fC (jDL N) ja) Tryz.func329 rfl N .no _
def jBS : Sh := ⟨.pv (.sl Y20) :: pI :: dz 3 (.own 600005 tI 3 true :: dz 20 (.pv Y20 :: pI :: pI :: dz 42 [])), []⟩
def jDv : Sh := ⟨.pv (.sl Y20) :: pI :: dz 3 (.own 600005 tI 3 true :: .dead :: pI :: pI :: pB :: dz 16 (.pv Y20 :: pI :: pI :: dz 5 (.pv (.sl Y20) :: pI :: pI :: dz 34 []))), []⟩
def jyw (N : Nat) (l : List (List Int)) (x : Int) : Option ((List Int)) :=
 (oB (jyK N l) fun C => bif !C then some ([] : List Int) else oB (jm N x 0 5) fun E => bif !E then some ([] : List Int) else oB (idx l 0) fun w => iter (fun o (r, G, y, v, t, j) => bif decide (j < t) then oB (idx v j) fun B => (oB (cut r 1 (r.length : Int)) fun A => iter (fun z (a, d, f, b, p, u, i, h, c, m, n, e) => bif decide (e < n) then oB (idx m e) fun D => (if fits (p + 1) then oB (jys N D (p + 1)) fun k => (bif u then if fits (e + 1) then z (a, d, f, b, k.1, k.2, i, h, c, m, n, (e + 1)) else none else if fits (e + 1) then z (a, d, f, b, k.1, false, i, h, c, m, n, (e + 1)) else none) else none) else bif u then if fits (b + (a.length : Int)) then if fits ((b + (a.length : Int)) - 1) then if fits (((b + (a.length : Int)) - 1) + d) then bif decide (p ≤ (((b + (a.length : Int)) - 1) + d)) then if room f.length ([b] : List Int).length 8 then if fits (c + 1) then o (a, d, (f ++ ([b] : List Int)), i, h, (c + 1)) else none else none else (if fits (c + 1) then o (a, d, f, i, h, (c + 1)) else none) else none else none else none else if fits (c + 1) then o (a, d, f, i, h, (c + 1)) else none) N (r, G, y, B, B, true, v, t, j, A, (A.length : Int), (0 : Int))) else some y) N (l, x, ([] : List Int), w, (w.length : Int), (0 : Int)))
theorem jCX (N : Nat) : mK 283 ⟨⟨[.pv (.sl Y20), pI], []⟩, ⟨[.own 1 tI 3 true], []⟩, c2A (jyw N)⟩ :=
 mO (fC (jD6 N) (fC (jY N) (fC (jAO N) ja))) Tryz.func283 rfl N (.seq .no (.seq .no (.seq .no (.seq (.seq .no (.block (.loop jBS (.seq .no (.seq .no (.seq (.block (.seq .no (.seq .no (.seq (.seq .no (.block (.loop jDv .no))) .no)))) .no)))))) .no)))) _
def jCk : Sh := ⟨.ptr Y0 :: dz 3 (.box 4 0 :: .box 5 0 :: .dead :: .own 600007 Y16 151 true :: .own 600008 Y20 66 true :: pI :: dz 18 (.pv Y14 :: pI :: pI :: dz 59 [])), [(4, false, [pI, pS, .pv (.sl .str), pI, pI, .pv (.sl .q)]), (5, false, [pI, .pv Y18, .pv Y14])]⟩
def jDK : Sh := ⟨.ptr Y0 :: dz 3 (.box 4 0 :: .box 5 0 :: .dead :: .own 600007 Y16 151 true :: .own 600008 Y20 66 true :: pI :: pI :: .box 11 0 :: .own 600012 tI 3 true :: dz 15 (.pv Y14 :: pI :: pI :: dz 12 (.pv Y20 :: pI :: pI :: dz 44 []))), [(4, false, [pI, pS, .pv (.sl .str), pI, pI, .pv (.sl .q)]), (5, false, [pI, .pv Y18, .pv Y14]), (11, false, [pS, pI])]⟩
def jyB (N : Nat) (x : ((List Z0) × (List Z3)) × (List Z2) × (List Z1)) (q : Int) (q2 : List UInt8) (q3 : List Z0) (q4 : Int) (q5 : Int) (q6 : List DQ) (d : Int) (d2 : Z10) (d3 : Z6) : Z12 :=
 (oB (jyu N q3 ([32] : List UInt8)) fun r => oB (jbw N x.1.1 x.1.2 r) fun r2 => bif decide ((r2.length : Int) = 0) then some 0 else iter (fun go (x2, terms, lists, all, t28, t29, t30, q7, q8, q9, q10, q11, q12, d4, d5, d6) => bif decide (t30 < t29) then oB (idx t28 t30) fun e => (oB (i_scorer_places_m N x2 q8 e.1 d4) fun r3 => iter (fun go2 (x3, terms2, lists2, all2, i, list, t282, t292, t302, t43, t44, t45, q13, q14, q15, q16, q17, q18, d7, d8, d9, t, t2) => bif decide (t45 < t44) then oB (idx t43 t45) fun e2 => (oB (idx terms2 0) fun e3 => if fits (t2 - e3.2) then if fits ((t2 - e3.2) - i) then if fits (e2 - ((t2 - e3.2) - i)) then bif decide ((0 : Int) ≤ (e2 - ((t2 - e3.2) - i))) then if room list.length ([(e2 - ((t2 - e3.2) - i))] : List Int).length 8 then if fits (t45 + 1) then go2 (x3, terms2, lists2, all2, i, (list ++ ([(e2 - ((t2 - e3.2) - i))] : List Int)), t282, t292, t302, t43, t44, (t45 + 1), q13, q14, q15, q16, q17, q18, d7, d8, d9, t, t2) else none else none else (if fits (t45 + 1) then go2 (x3, terms2, lists2, all2, i, list, t282, t292, t302, t43, t44, (t45 + 1), q13, q14, q15, q16, q17, q18, d7, d8, d9, t, t2) else none) else none else none else none) else if room lists2.length ([list] : List (List Int)).length 24 then oB (i_scorer_points_m N x3 q14 t d7) fun r4 => (if fits (all2 + r4) then if fits (t302 + 1) then go (x3, terms2, (lists2 ++ ([list] : List (List Int))), (all2 + r4), t282, t292, (t302 + 1), q13, q14, q15, q16, q17, q18, d7, d8, d9) else none else none) else none) N (x2, terms, lists, all, t30, ([] : List Int), t28, t29, t30, r3, (r3.length : Int), (0 : Int), q7, q8, q9, q10, q11, q12, d4, d5, d6, e.1, e.2)) else oB (jyw N lists q10) fun r5 => if fits ((if (r5.length : Int) < 3 then (r5.length : Int) else 3) * all) then some ((if (r5.length : Int) < 3 then (r5.length : Int) else 3) * all) else none) N (x, r2, ([] : List (List Int)), (0 : Int), r2, (r2.length : Int), (0 : Int), q, q2, q3, q4, q5, q6, d, d2, d3))
theorem jDC (N : Nat) : mK 225 ⟨⟨[.ptr Y0, .agg [pI, pS, .pv (.sl .str), pI, pI, .pv (.sl .q)], .agg [pI, .pv Y18, .pv Y14]], []⟩, ⟨[pI], []⟩, c10A (jyB N)⟩ :=
 mO (fC (jBE N) (fC (jgO N) (fC (jrB N) (fC (jsD N) (fC (jCX N) ja))))) Tryz.func225 rfl N (.seq .no (.seq .no (.seq .no (.seq .no (.seq .no (.seq (.seq .no (.block (.loop jCk (.seq .no (.seq .no (.seq (.block (.seq .no (.seq .no (.seq (.seq .no (.block (.loop jDK .no))) .no)))) .no)))))) .no)))))) _
def jtE : Sh := ⟨.dead :: pS :: dz 3 (.own 600005 .str 9 true :: dz 6 (.pv Y4 :: pI :: pI :: dz 14 [])), []⟩
def i_Seg_terms_m (N : Nat) (i : (List Z2) × (List Z1)) (j : List UInt8) : Option ((List Z0)) :=
 (iter (fun h (d, b, c, f, a) => bif decide (a < f) then oB (idx c a) fun e => (bif decide (e.1 = d) then if room b.length ([e.2.1] : List Z0).length 16 then if fits (a + 1) then h (d, (b ++ ([e.2.1] : List Z0)), c, f, (a + 1)) else none else none else if fits (a + 1) then h (d, b, c, f, (a + 1)) else none) else some b) N (j, ([] : List Z0), i.2, (i.2.length : Int), (0 : Int)))
theorem jln (N : Nat) : mK 226 ⟨⟨[.ptr Y1, pS], []⟩, ⟨[.own 1 .str 9 true], []⟩, c2A (i_Seg_terms_m N)⟩ :=
 mO ja Tryz.func226 rfl N (.seq .no (.seq .no (.seq (.seq .no (.block (.loop jtE .no))) .no))) _
def jDE : Sh := ⟨pS :: pS :: dz 3 (.mtk 600005 tI 3 true :: dz 18 (pI :: pI :: dz 62 [])), []⟩
def jBC : Sh := ⟨pS :: pS :: dz 3 (.mtk 600005 tI 3 true :: .dead :: pI :: dz 80 []), []⟩
def jCv : Sh := ⟨pS :: pS :: dz 3 (.mtk 600005 tI 3 true :: .dead :: pI :: pI :: pI :: dz 78 []), []⟩
def jAI : Sh := ⟨pS :: pS :: dz 3 (.mtk 600005 tI 3 true :: .dead :: pI :: .dead :: pI :: pI :: dz 77 []), []⟩
def jAQ : Sh := ⟨pS :: pS :: dz 3 (.mtk 22 tI 3 true :: dz 82 []), []⟩
def jDZ : Sh := ⟨pS :: pS :: dz 86 [], []⟩
def i_NearFar_m (N : Nat) (a : List UInt8) (b : List UInt8) : Z12 :=
 (meet (fun (g : Z0 × Z0) => match g with | (a2, b2) => meet (fun (g : Z0 × Z0 × (List Int)) => match g with | (a3, b3, row) => iter (fun go (a4, b4, row2, t24, t25) => bif decide (t25 < t24) then if 0 ≤ t25 ∧ t25 < (row2.length : Int) then oB (row2[t25.toNat]?) fun e => (if fits (t25 + 1) then go (a4, b4, (row2.set t25.toNat t25), t24, (t25 + 1)) else none) else none else iter (fun go2 (a5, b5, row3, i) => bif decide (i ≤ (a5.length : Int)) then if 0 ≤ (0 : Int) ∧ (0 : Int) < (row3.length : Int) then oB (row3[(0 : Int).toNat]?) fun e2 => (if 0 ≤ (0 : Int) ∧ (0 : Int) < (row3.length : Int) then oB (row3[(0 : Int).toNat]?) fun e3 => (iter (fun go3 (a6, b6, row4, i2, corner, j) => bif decide (j ≤ (b6.length : Int)) then meet (fun (g : Z15) => match g with | (a7, b7, row5, i3, j2, cost) => if 0 ≤ j2 ∧ j2 < (row5.length : Int) then oB (row5[j2.toNat]?) fun e4 => (if 0 ≤ j2 ∧ j2 < (row5.length : Int) then oB (row5[j2.toNat]?) fun e5 => (if fits (e5 + 1) then if fits (j2 - 1) then if 0 ≤ (j2 - 1) ∧ (j2 - 1) < (row5.length : Int) then oB (row5[(j2 - 1).toNat]?) fun e6 => (if fits (e6 + 1) then if 0 ≤ j2 ∧ j2 < (row5.length : Int) then oB (row5[j2.toNat]?) fun e7 => (if fits (j2 + 1) then go3 (a7, b7, (row5.set j2.toNat (if (e6 + 1) < (if (e5 + 1) < cost then e5 + 1 else cost) then e6 + 1 else if (e5 + 1) < cost then e5 + 1 else cost)), i3, e4, (j2 + 1)) else none) else none else none) else none else none else none) else none) else none) fun J3 => (if fits (i2 - 1) then oB (idx a6 (i2 - 1)) fun c => (if fits (j - 1) then oB (idx b6 (j - 1)) fun c2 => (bif !decide ((c.toNat : Int) = (c2.toNat : Int)) then if fits (corner + 1) then J3 (a6, b6, row4, i2, j, (corner + 1)) else none else J3 (a6, b6, row4, i2, j, corner)) else none) else none) else if fits (i2 + 1) then go2 (a6, b6, row4, (i2 + 1)) else none) N (a5, b5, (row3.set (0 : Int).toNat i), i, e2, (1 : Int))) else none) else none else if 0 ≤ (b5.length : Int) ∧ (b5.length : Int) < (row3.length : Int) then oB (row3[(b5.length : Int).toNat]?) fun e8 => (some e8) else none) N (a4, b4, row2, (1 : Int))) N (a3, b3, row, (row.length : Int), (0 : Int))) fun J2 => if fits ((b2.length : Int) + 1) then if ((b2.length : Int) + 1) = ((b2.length : Int) + 1) ∧ 0 ≤ ((b2.length : Int) + 1) ∧ ((b2.length : Int) + 1) * 8 ≤ 140737488355328 ∧ ((b2.length : Int) + 1) ≤ 140737488355328 then J2 (a2, b2, (List.replicate ((b2.length : Int) + 1).toNat 0)) else none else none) fun J => oB (jO N a) fun r => bif !r then some (-1) else oB (jO N b) fun r2 => bif !r2 then some (-1) else J (a, b))
theorem jDu (N : Nat) : mK 227 ⟨⟨[pS, pS], []⟩, ⟨[pI], []⟩, c2A (i_NearFar_m N)⟩ :=
 mO (fC (jcM N) ja) Tryz.func227 rfl N (.seq .no (.meet jDZ .no (.meet jAQ .no (.seq (.seq .no (.block (.loop jDE .no))) (.seq (.seq .no (.block (.loop jBC (.seq .no (.seq (.block (.seq .no (.seq .no (.seq .no (.block (.loop jCv (.seq .no (.seq (.block (.seq .no (.meet jAI .no .no))) .no)))))))) .no))))) .no))))) _ (wr := [22])
def jxG (N : Nat) : (D : Nat) → Z0 → Z0 → Z7
 | 0, _, _ => none
 | D + 1, p, s =>
 bif decide (p = ([] : List UInt8)) then
 some (decide (s = ([] : List UInt8)))
 else
 oB (idx p 0) fun c =>
 bif decide ((c.toNat : Int) = 42) then
 oB (cut p 1 (p.length : Int)) fun y =>
 (oB (jxG N D y s) fun r =>
 bif r then
 some true
 else
 bif !decide (s = ([] : List UInt8)) then
 oB (cut s 1 (s.length : Int)) fun y2 =>
 (oB (jxG N D p y2) fun r2 =>
 some r2)
 else
 some false)
 else
 bif decide (s = ([] : List UInt8)) then
 some false
 else
 oB (idx p 0) fun c2 =>
 bif decide ((c2.toNat : Int) = 63) then
 oB (cut p 1 (p.length : Int)) fun y3 =>
 (oB (cut s 1 (s.length : Int)) fun y4 =>
 oB (jxG N D y3 y4) fun r3 =>
 some r3)
 else
 oB (idx p 0) fun c3 =>
 oB (idx s 0) fun c4 =>
 bif decide ((c3.toNat : Int) = (c4.toNat : Int)) then
 oB (cut p 1 (p.length : Int)) fun y5 =>
 (oB (cut s 1 (s.length : Int)) fun y6 =>
 oB (jxG N D y5 y6) fun r4 =>
 some r4)
 else
 some false
def jyg (N D : Nat) : Model := ⟨⟨[pS, pS], []⟩, ⟨[pB], []⟩, c2A (jxG N D)⟩
theorem jBG (N D : Nat) (ih : mK 284 (jyg N D)) : mK 284 (jyg N (D + 1)) :=
 mO (fC ih ja) Tryz.func284 rfl N .no (jyg N (D + 1))
theorem jAz (N : Nat) : ∀ D, mK 284 (jyg N D)
 | 0 => modelOk_none ⟨_, Tryz.func284, by decide, by kernel_rfl⟩ _ (fun a => rfl)
 | D + 1 => jBG N D (jAz N D)
def jx0 (N : Nat) (b : List UInt8) (a : List UInt8) : Z7 :=
 (oB (jxV N b) fun c => bif c then oB (jO N a) fun d => (bif d then oB (jxG N N b a) fun e => (some e) else some false) else some false)
theorem jDd (N : Nat) : mK 228 ⟨⟨[pS, pS], []⟩, ⟨[pB], []⟩, c2A (jx0 N)⟩ :=
 mO (fC (jz9 N) (fC (jcM N) (fC (jAz N N) ja))) Tryz.func228 rfl N .no _
def jD5 : Sh := ⟨.dead :: pS :: dz 8 (.pv Y14 :: pI :: pI :: dz 10 []), []⟩
def jyp (N : Nat) (k : Int) (h : Z10) (b : Z6) (m : List UInt8) : Z12 :=
 (oB (jbx N k h b) fun j => bif j then iter (fun i (f, c, d, a) => bif decide (a < d) then oB (idx c a) fun e => (bif decide (e.1 = f) then some e.2 else if fits (a + 1) then i (f, c, d, (a + 1)) else none) else some (-1)) N (m, b, (b.length : Int), (0 : Int)) else some (-1))
theorem jBQ (N : Nat) : mK 230 ⟨⟨[.agg [pI, .pv Y18, .pv Y14], pS], []⟩, ⟨[pI], []⟩, c4A (jyp N)⟩ :=
 mO (fC (jh0 N) ja) Tryz.func230 rfl N (.seq .no (.seq (.seq .no (.cond (.seq .no (.block (.loop jD5 .no))) .no)) .no)) _
def jDa : Sh := ⟨.ptr Y0 :: dz 3 (.box 4 0 :: .box 5 0 :: .dead :: pI :: dz 43 (.own 600051 .str 9 true :: pI :: pI :: dz 122 [])), [(4, false, [pI, pS, .pv (.sl .str), pI, pI, .pv (.sl .q)]), (5, false, [pI, .pv Y18, .pv Y14])]⟩
def jCO : Sh := ⟨.ptr Y0 :: dz 3 (.box 4 0 :: .box 5 0 :: dz 83 (.own 600089 .str 9 true :: pI :: pI :: dz 84 [])), [(4, false, [pI, pS, .pv (.sl .str), pI, pI, .pv (.sl .q)]), (5, false, [pI, .pv Y18, .pv Y14])]⟩
def jDp : Sh := ⟨.ptr Y0 :: dz 3 (.box 4 0 :: .box 5 0 :: dz 7 (pI :: dz 140 (.pv (.sl .q) :: pI :: pI :: dz 19 []))), [(4, false, [pI, pS, .pv (.sl .str), pI, pI, .pv (.sl .q)]), (5, false, [pI, .pv Y18, .pv Y14])]⟩
def i_scorer_score_m (N : Nat) : (D : Nat) → Z11 → Int → Z0 → (List Z0) → Int → Int → (List DQ) → Int → Z9 → Z5 → Z12
 | 0, _, _, _, _, _, _, _, _, _, _ => none
 | D + 1, x, q, q2, q3, q4, q5, q6, d, d2, d3 =>
 bif decide (q = 1) then
 some 100
 else
 bif decide (q = 2) then
 oB (idx q3 0) fun e =>
 (oB (jyc N x.1.1 x.1.2 e) fun r =>
 oB (i_scorer_points_m N x q2 r d) fun r2 =>
 some r2)
 else
 bif decide (q = 3) then
 oB (jyB N x q q2 q3 q4 q5 q6 d d2 d3) fun r3 =>
 (some r3)
 else
 bif decide (q = 4) then
 oB (i_Seg_terms_m N x.2 q2) fun r4 =>
 (iter (fun go (g : Z11 × Int × (List Z0) × Int × Int × Int × Z0 × (List Z0) × Int × Int × (List DQ) × Int × Z9 × Z5) =>
 match g with
 | (x2, best, t51, t52, t53, q7, q8, q9, q10, q11, q12, d4, d5, d6) =>
 bif decide (t53 < t52) then
 oB (idx t51 t53) fun e2 =>
 (oB (idx q9 0) fun e3 =>
 oB (i_NearFar_m N e2 e3) fun r5 =>
 oB (jm N r5 0 q10) fun r6 =>
 bif r6 then
 oB (i_scorer_points_m N x2 q8 e2 d4) fun r7 =>
 (if fits (3 - r5) then if fits (r7 * (3 - r5)) then if 3 ≠ 0 then
 if fits ((r7 * (3 - r5)).tdiv 3) then if fits (t53 + 1) then go (x2, (if ((r7 * (3 - r5)).tdiv 3) > best then (r7 * (3 - r5)).tdiv 3 else best), t51, t52, (t53 + 1), q7, q8, q9, q10, q11, q12, d4, d5, d6) else none else none
 else none else none else none)
 else
 if fits (t53 + 1) then go (x2, best, t51, t52, (t53 + 1), q7, q8, q9, q10, q11, q12, d4, d5, d6) else none)
 else
 some best) N (x, 0, r4, (r4.length : Int), 0, q, q2, q3, q4, q5, q6, d, d2, d3))
 else
 bif decide (q = 5) then
 oB (i_Seg_terms_m N x.2 q2) fun r8 =>
 (iter (fun go2 (g : Z11 × (List Z0) × Int × Int × Int × Z0 × (List Z0) × Int × Int × (List DQ) × Int × Z9 × Z5) =>
 match g with
 | (x3, t89, t90, t91, q13, q14, q15, q16, q17, q18, d7, d8, d9) =>
 bif decide (t91 < t90) then
 oB (idx t89 t91) fun e4 =>
 (oB (idx q15 0) fun e5 =>
 oB (jx0 N e5 e4) fun r9 =>
 bif r9 then
 oB (i_scorer_places_m N x3 q14 e4 d7) fun r10 =>
 (bif decide ((0 : Int) < (r10.length : Int)) then
 some 100
 else
 if fits (t91 + 1) then go2 (x3, t89, t90, (t91 + 1), q13, q14, q15, q16, q17, q18, d7, d8, d9) else none)
 else
 if fits (t91 + 1) then go2 (x3, t89, t90, (t91 + 1), q13, q14, q15, q16, q17, q18, d7, d8, d9) else none)
 else
 some 0) N (x, r8, (r8.length : Int), 0, q, q2, q3, q4, q5, q6, d, d2, d3))
 else
 bif decide (q = 6) then
 oB (jyp N d d2 d3 q2) fun r11 =>
 (oB (jm N r11 q4 q5) fun r12 =>
 bif r12 then
 some 100
 else
 some 0)
 else
 bif decide (q = 10) then
 oB (idx q6 0) fun e6 =>
 (oB (i_scorer_score_m N D x e6.kind e6.field e6.words e6.lo e6.hi e6.kids d d2 d3) fun r13 =>
 if fits (q4 * r13) then some (q4 * r13) else none)
 else
 bif decide (q = 9) then
 oB (idx q6 1) fun e7 =>
 (oB (i_scorer_score_m N D x e7.kind e7.field e7.words e7.lo e7.hi e7.kids d d2 d3) fun r14 =>
 bif decide ((0 : Int) < r14) then
 some 0
 else
 oB (idx q6 0) fun e8 =>
 oB (i_scorer_score_m N D x e8.kind e8.field e8.words e8.lo e8.hi e8.kids d d2 d3) fun r15 =>
 some r15)
 else
 iter (fun go3 (g : Z11 × Int × (List DQ) × Int × Int × Int × Z0 × (List Z0) × Int × Int × (List DQ) × Int × Z9 × Z5) =>
 match g with
 | (x4, all, t154, t155, t156, q19, q20, q21, q22, q23, q24, d10, d11, d12) =>
 bif decide (t156 < t155) then
 oB (idx t154 t156) fun e9 =>
 (oB (i_scorer_score_m N D x4 e9.kind e9.field e9.words e9.lo e9.hi e9.kids d10 d11 d12) fun r16 =>
 bif decide (r16 = 0) then
 bif decide (q19 = 7) then
 some 0
 else
 (if fits (all + r16) then if fits (t156 + 1) then go3 (x4, (all + r16), t154, t155, (t156 + 1), q19, q20, q21, q22, q23, q24, d10, d11, d12) else none else none)
 else
 if fits (all + r16) then if fits (t156 + 1) then go3 (x4, (all + r16), t154, t155, (t156 + 1), q19, q20, q21, q22, q23, q24, d10, d11, d12) else none else none)
 else
 some all) N (x, 0, q6, (q6.length : Int), 0, q, q2, q3, q4, q5, q6, d, d2, d3)
def jx6 (N D : Nat) : Model := ⟨⟨[.ptr Y0, .agg [pI, pS, .pv (.sl .str), pI, pI, .pv (.sl .q)], .agg [pI, .pv Y18, .pv Y14]], []⟩, ⟨[pI], []⟩, c10A (i_scorer_score_m N D)⟩
theorem jBq (N D : Nat) (ih : mK 160 (jx6 N D)) : mK 160 (jx6 N (D + 1)) :=
 mO (fC ih (fC (jBn N) (fC (jsD N) (fC (jDC N) (fC (jln N) (fC (jDu N) (fC (jY N) (fC (jDd N) (fC (jrB N) (fC (jBQ N) ja)))))))))) Tryz.func160 rfl N (.seq .no (.seq (.seq .no (.block (.seq .no (.cond .no (.seq .no (.cond .no (.seq .no (.cond .no (.seq .no (.cond (.seq .no (.seq (.seq .no (.block (.loop jDa .no))) .no)) (.seq .no (.cond (.seq (.seq .no (.block (.loop jCO .no))) .no) .no)))))))))))) (.seq .no (.seq (.seq .no (.block (.loop jDp .no))) .no)))) (jx6 N (D + 1))
theorem jzy (N : Nat) : ∀ D, mK 160 (jx6 N D)
 | 0 => modelOk_none ⟨_, Tryz.func160, by decide, by kernel_rfl⟩ _ (fun a => rfl)
 | D + 1 => jBq N D (jzy N D)
def i_ScoreOf_m (N : Nat) (f : List Z0) (k : List Z3) (b : List Z2) (c : List Z1) (e : Int) (d : List UInt8) (i : List Z0) (l : Int) (h : Int) (j : List DQ) (p : Int) : Z12 :=
 (oB (i_Seg_doc_m N (b, c) p) fun a => oB (i_SegOk_m N f k b c) fun n => bif !n then some 0 else oB (i_QueryOk_m N e d i l h j) fun m => bif !m then some 0 else bif !a.2.2.2 then some 0 else oB (i_scorer_score_m N N ((f, k), b, c) e d i l h j a.1 a.2.1 a.2.2.1) fun o => some o)
theorem jEf (N : Nat) : mK 75 ⟨⟨[.agg [.pv (.sl .str), .pv Y15], .agg [.pv Y2, .pv Y4], .agg [pI, pS, .pv (.sl .str), pI, pI, .pv (.sl .q)], pI], []⟩, ⟨[pI], []⟩, c11A (i_ScoreOf_m N)⟩ :=
 mO (fC (jlU N) (fC (joa N) (fC (jCN N) (fC (jzy N N) ja)))) Tryz.func75 rfl N .no _
def jGe : Sh := ⟨dz 4 (.box 4 0 :: .box 5 0 :: .dead :: .own 600007 .str 9 true :: .box 8 0 :: dz 21 (.pv (.sl (.pair .str .q)) :: pI :: pI :: dz 18 [])), [(4, false, [.pv (.sl .str), .pv Y15]), (5, false, [pI, .pv Y18, .pv Y14]), (8, false, [.pv Y2, .own 700801 Y5 156 false])]⟩
def i_AlertOf_m (N : Nat) (f : List (Z0 × DQ)) (n : List Z0) (q : List Z3) (p : Int) (d : Z10) (o : Z6) : Option ((List Z0)) :=
 (oB (i_AlertsOk_m N f) fun x => bif !x then some ([] : List Z0) else oB (jaj N n q) fun y => bif !y then some ([] : List Z0) else oB (jbx N p d o) fun w => bif !w then some ([] : List Z0) else oB (i_SegOf_m N n q ([(p, d, o)] : List Z2)) fun u => iter (fun t (c, i, k, b, h, e, m, r, v, j, l) => bif decide (b < k) then oB (idx i b) fun a => (oB (i_ScoreOf_m N h e j l a.2.kind a.2.field a.2.words a.2.lo a.2.hi a.2.kids m) fun A => bif decide ((0 : Int) < A) then if room c.length ([a.1] : List Z0).length 16 then if fits (b + 1) then t ((c ++ ([a.1] : List Z0)), i, k, (b + 1), h, e, m, r, v, j, l) else none else none else if fits (b + 1) then t (c, i, k, (b + 1), h, e, m, r, v, j, l) else none) else some c) N (([] : List Z0), f, (f.length : Int), (0 : Int), n, q, p, d, o, u.1, u.2))
theorem jGA (N : Nat) : mK 15 ⟨⟨[.pv (.sl (.pair .str .q)), .agg [.pv (.sl .str), .pv Y15], .agg [pI, .pv Y18, .pv Y14]], []⟩, ⟨[.own 1 .str 9 true], []⟩, c6A (i_AlertOf_m N)⟩ :=
 mO (fC (jFt N) (fC (jdX N) (fC (jh0 N) (fC (jqC N) (fC (jEf N) ja))))) Tryz.func15 rfl N (.seq .no (.seq .no (.seq .no (.seq .no (.seq (.seq .no (.block (.loop jGe .no))) .no))))) _
def s_l30Open_m (N : Nat) (a : List Int) : Option ((List Int) × Int) :=
 (bif decide ((2000 : Int) < (a.length : Int)) then oB (cut a 0 2000) fun b => (some (b, 0)) else some (a, 0))
theorem juQ (N : Nat) : mK 85 ⟨⟨[.pv (.sl (.int .u8))], []⟩, ⟨[.box 10 0], [(10, false, [.pv (.sl (.int .u8)), pI])]⟩, c1A (s_l30Open_m N)⟩ :=
 mO ja Tryz.func85 rfl N .no _
def s_l30Rd_pick_m (N : Nat) (e : Int) (b : List Int) (a : Int) : Option (Int × (List Int) × Int) :=
 (if fits (a + 1) then bif decide (e < 1) then some (0, b, (a + 1)) else (bif decide ((b.length : Int) = 0) then some (0, b, (a + 1)) else if fits ((a + 1) - 1) then bif decide (((a + 1) - 1) < (b.length : Int)) then oB (idx b ((a + 1) - 1)) fun f => (if e ≠ 0 then some (((IntKind.i64.wrap f).tmod e), b, (a + 1)) else none) else (if (b.length : Int) ≠ 0 then oB (idx b (((a + 1) - 1).tmod (b.length : Int))) fun d => (if fits ((IntKind.i64.wrap d) * 131) then if fits (((a + 1) - 1) * 7) then if fits ((((a + 1) - 1) * 7) + 3) then if (b.length : Int) ≠ 0 then oB (idx b (((((a + 1) - 1) * 7) + 3).tmod (b.length : Int))) fun c => (if fits ((IntKind.i64.wrap c) * 1117) then if fits (((IntKind.i64.wrap d) * 131) + ((IntKind.i64.wrap c) * 1117)) then if fits (((a + 1) - 1) * 29) then if fits ((((IntKind.i64.wrap d) * 131) + ((IntKind.i64.wrap c) * 1117)) + (((a + 1) - 1) * 29)) then if (b.length : Int) ≠ 0 then if fits (((a + 1) - 1).tdiv (b.length : Int)) then if fits ((((a + 1) - 1).tdiv (b.length : Int)) * 53) then if fits (((((IntKind.i64.wrap d) * 131) + ((IntKind.i64.wrap c) * 1117)) + (((a + 1) - 1) * 29)) + ((((a + 1) - 1).tdiv (b.length : Int)) * 53)) then if 64 ≠ 0 then if fits ((((((IntKind.i64.wrap d) * 131) + ((IntKind.i64.wrap c) * 1117)) + (((a + 1) - 1) * 29)) + ((((a + 1) - 1).tdiv (b.length : Int)) * 53)).tdiv 64) then if e ≠ 0 then some (((bitsI .xor .i64 (((((IntKind.i64.wrap d) * 131) + ((IntKind.i64.wrap c) * 1117)) + (((a + 1) - 1) * 29)) + ((((a + 1) - 1).tdiv (b.length : Int)) * 53)) ((((((IntKind.i64.wrap d) * 131) + ((IntKind.i64.wrap c) * 1117)) + (((a + 1) - 1) * 29)) + ((((a + 1) - 1).tdiv (b.length : Int)) * 53)).tdiv 64)).tmod e), b, (a + 1)) else none else none else none else none else none else none else none else none else none else none else none) else none else none else none else none) else none) else none) else none)
theorem jtX (N : Nat) : mK 106 ⟨⟨[.box 900000 0, pI], [(900000, false, [.pv (.sl (.int .u8)), pI])]⟩, ⟨[pI], [(900000, false, [.pv (.sl (.int .u8)), pI])]⟩, c3A (s_l30Rd_pick_m N)⟩ :=
 mO ja Tryz.func106 rfl N .no _ (rs := [900000])
def s_l30Rd_of_m (N : Nat) (b : List Z0) (c : List Int) (d : Int) : Option (Z0 × (List Int) × Int) :=
 (oB (s_l30Rd_pick_m N (b.length : Int) c d) fun a => oB (idx b a.1) fun e => some (e, a.2.1, a.2.2))
theorem jt3 (N : Nat) : mK 232 ⟨⟨[.box 900000 0, .pv (.sl .str)], [(900000, false, [.pv (.sl (.int .u8)), pI])]⟩, ⟨[pS], [(900000, false, [.pv (.sl (.int .u8)), pI])]⟩, c3A (s_l30Rd_of_m N)⟩ :=
 mO (fC (jtX N) ja) Tryz.func232 rfl N .no _ (rs := [900000])
def s_l30Known_m (N : Nat) : Option ((List Z0)) :=
 (some ([([99, 97, 116] : List UInt8), ([99, 97, 116, 115] : List UInt8), ([100, 111, 103] : List UInt8), ([100, 111, 103, 115] : List UInt8), ([114, 117, 110] : List UInt8), ([114, 117, 110, 110, 105, 110, 103] : List UInt8), ([116, 104, 101] : List UInt8), ([114, 101, 100] : List UInt8), ([98, 105, 103] : List UInt8), ([110, 101, 119] : List UInt8), ([121, 111, 114, 107] : List UInt8), ([110, 121] : List UInt8), ([102, 111, 120] : List UInt8)] : List Z0))
theorem jGd (N : Nat) : mK 246 ⟨⟨[], []⟩, ⟨[.own 1 .str 9 true], []⟩, fun a => s_l30Known_m N ⟩ :=
 mO ja Tryz.func246 rfl N .no _
def s_l30Leaf_m (N : Nat) (o : List Int) (m : Int) : Option (Int × Z0 × (List Z0) × Int × Int × (List Int) × Int) :=
 (oB (s_l30Rd_of_m N ([([98, 111, 100, 121] : List UInt8), ([98, 111, 100, 121] : List UInt8), ([116, 105, 116, 108, 101] : List UInt8)] : List Z0) o m) fun b => oB (s_l30Rd_pick_m N 9 b.2.1 b.2.2) fun a => bif decide (a.1 = 0) then some (1, ([] : List UInt8), ([] : List Z0), 0, 0, a.2.1, a.2.2) else bif decide (a.1 = 1) then oB (s_l30Known_m N) fun n => (oB (s_l30Rd_of_m N n a.2.1 a.2.2) fun f => oB (s_l30Known_m N) fun p => oB (s_l30Rd_of_m N p f.2.1 f.2.2) fun i => oB (s_l30Rd_pick_m N 3 i.2.1 i.2.2) fun j => some (3, b.1, ([f.1, i.1] : List Z0), j.1, 0, j.2.1, j.2.2)) else bif decide (a.1 = 2) then oB (s_l30Rd_of_m N ([([99, 111, 116] : List UInt8), ([100, 117, 103] : List UInt8), ([114, 110] : List UInt8), ([102, 111, 103] : List UInt8)] : List Z0) a.2.1 a.2.2) fun l => (oB (s_l30Rd_pick_m N 2 l.2.1 l.2.2) fun d => if fits (1 + d.1) then some (4, b.1, ([l.1] : List Z0), (1 + d.1), 0, d.2.1, d.2.2) else none) else bif decide (a.1 = 3) then oB (s_l30Rd_of_m N ([([99, 42] : List UInt8), ([63, 111, 63] : List UInt8), ([42, 110] : List UInt8), ([42] : List UInt8)] : List Z0) a.2.1 a.2.2) fun h => (some (5, b.1, ([h.1] : List Z0), 0, 0, h.2.1, h.2.2)) else bif decide (a.1 = 4) then oB (s_l30Rd_pick_m N 4 a.2.1 a.2.2) fun c => (oB (s_l30Rd_pick_m N 3 c.2.1 c.2.2) fun e => if fits (c.1 + e.1) then some (6, ([114, 97, 116, 101] : List UInt8), ([] : List Z0), c.1, (c.1 + e.1), e.2.1, e.2.2) else none) else oB (s_l30Known_m N) fun q => oB (s_l30Rd_of_m N q a.2.1 a.2.2) fun k => some (2, b.1, ([k.1] : List Z0), 0, 0, k.2.1, k.2.2))
theorem jGD (N : Nat) : mK 179 ⟨⟨[.box 900000 0], [(900000, false, [.pv (.sl (.int .u8)), pI])]⟩, ⟨[.agg [pI, pS, .own 1 .str 9 true, pI, pI, .nils]], [(900000, false, [.pv (.sl (.int .u8)), pI])]⟩, c2A (s_l30Leaf_m N)⟩ :=
 mO (fC (jt3 N) (fC (jtX N) (fC (jGd N) ja))) Tryz.func179 rfl N .no _ (rs := [900000])
def jFT : Sh := ⟨.box 900000 0 :: pI :: .dead :: .dead :: .box 4 0 :: dz 36 (pB :: dz 30 []), [(4, false, [pI, pS, .nils, pI, pI, .nils]), (900000, false, [.pv (.sl (.int .u8)), pI])]⟩
def jFQ : Sh := ⟨.box 900000 0 :: pI :: .dead :: .dead :: .box 4 0 :: .box 5 0 :: pI :: dz 65 [], [(4, false, [pI, pS, .nils, pI, pI, .nils]), (5, false, [pI, pS, .nils, pI, pI, .own 700505 .q 70 true]), (900000, false, [.pv (.sl (.int .u8)), pI])]⟩
def s_l30Query_m (N : Nat) : (D : Nat) → Int → (List Int) → Int → Option (Int × Z0 × (List Z0) × Int × Int × (List DQ) × (List Int) × Int)
 | 0, _, _, _ => none
 | D + 1, deep, b, b2 =>
 bif decide (deep ≤ 1) then
 oB (s_l30Leaf_m N b b2) fun r =>
 (some (r.1, r.2.1, r.2.2.1, r.2.2.2.1, r.2.2.2.2.1, ([] : List DQ), r.2.2.2.2.2.1, r.2.2.2.2.2.2))
 else
 oB (s_l30Rd_pick_m N 3 b b2) fun r2 =>
 bif decide (r2.1 = 0) then
 oB (s_l30Leaf_m N r2.2.1 r2.2.2) fun r3 =>
 (some (r3.1, r3.2.1, r3.2.2.1, r3.2.2.2.1, r3.2.2.2.2.1, ([] : List DQ), r3.2.2.2.2.2.1, r3.2.2.2.2.2.2))
 else
 oB (s_l30Rd_pick_m N 6 r2.2.1 r2.2.2) fun r4 =>
 bif decide (r4.1 = 0) then
 if fits (deep - 1) then oB (s_l30Query_m N D (deep - 1) r4.2.1 r4.2.2) fun r5 =>
 (if fits (deep - 1) then oB (s_l30Query_m N D (deep - 1) r5.2.2.2.2.2.2.1 r5.2.2.2.2.2.2.2) fun r6 =>
 (some (9, ([] : List UInt8), ([] : List Z0), 0, 0, ([(DQ.mk r5.1 r5.2.1 r5.2.2.1 r5.2.2.2.1 r5.2.2.2.2.1 r5.2.2.2.2.2.1), (DQ.mk r6.1 r6.2.1 r6.2.2.1 r6.2.2.2.1 r6.2.2.2.2.1 r6.2.2.2.2.2.1)] : List DQ), r6.2.2.2.2.2.2.1, r6.2.2.2.2.2.2.2)) else none) else none
 else
 bif decide (r4.1 = 1) then
 oB (s_l30Rd_pick_m N 4 r4.2.1 r4.2.2) fun r7 =>
 (if fits (2 + r7.1) then if fits (deep - 1) then oB (s_l30Query_m N D (deep - 1) r7.2.1 r7.2.2) fun r8 =>
 (some (10, ([] : List UInt8), ([] : List Z0), (2 + r7.1), 0, ([(DQ.mk r8.1 r8.2.1 r8.2.2.1 r8.2.2.2.1 r8.2.2.2.2.1 r8.2.2.2.2.2.1)] : List DQ), r8.2.2.2.2.2.2.1, r8.2.2.2.2.2.2.2)) else none else none)
 else
 meet (fun (g : Int × Bool × Int × Z0 × Int × Int × (List Int) × Int) =>
 match g with
 | (deep2, t41, b3, b4, b5, b6, b7, b8) =>
 bif t41 then
 if fits (deep2 - 1) then oB (s_l30Query_m N D (deep2 - 1) b7 b8) fun r9 =>
 (if fits (deep2 - 1) then oB (s_l30Query_m N D (deep2 - 1) r9.2.2.2.2.2.2.1 r9.2.2.2.2.2.2.2) fun r10 =>
 (some (7, ([] : List UInt8), ([] : List Z0), 0, 0, ([(DQ.mk r9.1 r9.2.1 r9.2.2.1 r9.2.2.2.1 r9.2.2.2.2.1 r9.2.2.2.2.2.1), (DQ.mk r10.1 r10.2.1 r10.2.2.1 r10.2.2.2.1 r10.2.2.2.2.1 r10.2.2.2.2.2.1)] : List DQ), r10.2.2.2.2.2.2.1, r10.2.2.2.2.2.2.2)) else none) else none
 else
 oB (s_l30Rd_pick_m N 2 b7 b8) fun r11 =>
 if fits (2 + r11.1) then iter (fun go (g : Int × Int × Int × Z0 × Int × Int × Int × Z0 × Int × Int × (List DQ) × (List Int) × Int) =>
 match g with
 | (deep3, n, b9, b10, b11, b12, q, q2, q3, q4, q5, b13, b14) =>
 bif decide ((0 : Int) < n) then
 if fits (deep3 - 1) then oB (s_l30Query_m N D (deep3 - 1) b13 b14) fun r12 =>
 (if room q5.length ([(DQ.mk r12.1 r12.2.1 r12.2.2.1 r12.2.2.2.1 r12.2.2.2.2.1 r12.2.2.2.2.2.1)] : List DQ).length 88 then
 if fits (n - 1) then go (deep3, (n - 1), b9, b10, b11, b12, q, q2, q3, q4, (q5 ++ ([(DQ.mk r12.1 r12.2.1 r12.2.2.1 r12.2.2.2.1 r12.2.2.2.2.1 r12.2.2.2.2.2.1)] : List DQ)), r12.2.2.2.2.2.2.1, r12.2.2.2.2.2.2.2) else none
 else none) else none
 else
 some (q, q2, ([] : List Z0), q3, q4, q5, b13, b14)) N (deep2, (2 + r11.1), b3, b4, b5, b6, 8, ([] : List UInt8), 0, 0, ([] : List DQ), r11.2.1, r11.2.2) else none) fun J =>
 bif decide (r4.1 = 2) then
 J (deep, true, 0, ([] : List UInt8), 0, 0, r4.2.1, r4.2.2)
 else
 J (deep, (decide (r4.1 = 3)), 0, ([] : List UInt8), 0, 0, r4.2.1, r4.2.2)
def jE6 (N D : Nat) : Model := ⟨⟨[.box 900000 0, pI], [(900000, false, [.pv (.sl (.int .u8)), pI])]⟩, ⟨[.agg [pI, pS, .own 1 .str 9 true, pI, pI, .own 2 .q 70 true]], [(900000, false, [.pv (.sl (.int .u8)), pI])]⟩, c3A (s_l30Query_m N D)⟩
theorem jGF (N D : Nat) (ih : mK 105 (jE6 N D)) : mK 105 (jE6 N (D + 1)) :=
 mO (fC ih (fC (jGD N) (fC (jtX N) ja))) Tryz.func105 rfl N (.seq .no (.seq .no (.seq (.seq .no (.block (.seq .no (.cond .no (.seq .no (.cond .no (.meet jFT .no .no))))))) (.seq .no (.seq (.seq .no (.block (.loop jFQ .no))) .no))))) (jE6 N (D + 1)) (rs := [900000])
theorem jE7 (N : Nat) : ∀ D, mK 105 (jE6 N D)
 | 0 => modelOk_none ⟨_, Tryz.func105, by decide, by kernel_rfl⟩ _ (fun a => rfl)
 | D + 1 => jGF N D (jE7 N D)
def s_l30Rd_one_m (N : Nat) (b : List Int) (c : List Int) (d : Int) : Option (Int × (List Int) × Int) :=
 (oB (s_l30Rd_pick_m N (b.length : Int) c d) fun a => oB (idx b a.1) fun e => some (e, a.2.1, a.2.2))
theorem juA (N : Nat) : mK 107 ⟨⟨[.box 900000 0, .pv Y20], [(900000, false, [.pv (.sl (.int .u8)), pI])]⟩, ⟨[pI], [(900000, false, [.pv (.sl (.int .u8)), pI])]⟩, c3A (s_l30Rd_one_m N)⟩ :=
 mO (fC (jtX N) ja) Tryz.func107 rfl N .no _ (rs := [900000])
def s_l30AnyQuery_m (N : Nat) (e : List Int) (f : Int) : Option (Int × Z0 × (List Z0) × Int × Int × (List DQ) × (List Int) × Int) :=
 (oB (s_l30Query_m N N 3 e f) fun a => oB (s_l30Rd_pick_m N 16 a.2.2.2.2.2.2.1 a.2.2.2.2.2.2.2) fun b => bif decide (b.1 = 0) then oB (s_l30Rd_one_m N ([0, 11, 7] : List Int) b.2.1 b.2.2) fun c => (some (c.1, a.2.1, a.2.2.1, a.2.2.2.1, a.2.2.2.2.1, a.2.2.2.2.2.1, c.2.1, c.2.2)) else bif decide (b.1 = 1) then oB (s_l30Rd_one_m N ([(-1), 10, 1] : List Int) b.2.1 b.2.2) fun d => (some (a.1, a.2.1, a.2.2.1, d.1, a.2.2.2.2.1, a.2.2.2.2.2.1, d.2.1, d.2.2)) else bif decide (b.1 = 2) then if room a.2.2.1.length ([([66, 97, 100] : List UInt8)] : List Z0).length 16 then some (a.1, a.2.1, (a.2.2.1 ++ ([([66, 97, 100] : List UInt8)] : List Z0)), a.2.2.2.1, a.2.2.2.2.1, a.2.2.2.2.2.1, b.2.1, b.2.2) else none else bif decide (b.1 = 3) then if room ([(DQ.mk a.1 a.2.1 a.2.2.1 a.2.2.2.1 a.2.2.2.2.1 a.2.2.2.2.2.1)] : List DQ).length a.2.2.2.2.2.1.length 88 then some (a.1, a.2.1, a.2.2.1, a.2.2.2.1, a.2.2.2.2.1, (([(DQ.mk a.1 a.2.1 a.2.2.1 a.2.2.2.1 a.2.2.2.2.1 a.2.2.2.2.2.1)] : List DQ) ++ a.2.2.2.2.2.1), b.2.1, b.2.2) else none else some (a.1, a.2.1, a.2.2.1, a.2.2.2.1, a.2.2.2.2.1, a.2.2.2.2.2.1, b.2.1, b.2.2))
theorem jGf (N : Nat) : mK 118 ⟨⟨[.box 900000 0], [(900000, false, [.pv (.sl (.int .u8)), pI])]⟩, ⟨[.agg [pI, pS, .pv (.sl .str), pI, pI, .own 1 .q 70 false]], [(900000, false, [.pv (.sl (.int .u8)), pI])]⟩, c2A (s_l30AnyQuery_m N)⟩ :=
 mO (fC (jE7 N N) (fC (jtX N) (fC (juA N) ja))) Tryz.func118 rfl N .no _ (rs := [900000])
def jGC : Sh := ⟨.box 900000 0 :: .dead :: .dead :: .own 600003 (.pair .str .q) 72 true :: .own 600004 .str 9 true :: pI :: dz 29 [], [(900000, false, [.pv (.sl (.int .u8)), pI])]⟩
def s_l30Alerts_m (N : Nat) (n : List Int) (l : Int) : Option ((List (Z0 × DQ)) × (List Int) × Int) :=
 (oB (s_l30Rd_pick_m N 5 n l) fun f => iter (fun m (c, i, e, h, k) => bif decide ((0 : Int) < e) then oB (idx i (c.length : Int)) fun j => (oB (s_l30Query_m N N 3 h k) fun b => if room c.length ([(j, (DQ.mk b.1 b.2.1 b.2.2.1 b.2.2.2.1 b.2.2.2.2.1 b.2.2.2.2.2.1))] : List (Z0 × DQ)).length 104 then if fits (e - 1) then m ((c ++ ([(j, (DQ.mk b.1 b.2.1 b.2.2.1 b.2.2.2.1 b.2.2.2.2.1 b.2.2.2.2.2.1))] : List (Z0 × DQ))), i, (e - 1), b.2.2.2.2.2.2.1, b.2.2.2.2.2.2.2) else none else none) else oB (s_l30Rd_pick_m N 12 h k) fun d => bif decide (d.1 = 0) then oB (s_l30AnyQuery_m N d.2.1 d.2.2) fun a => (if room c.length ([(([97] : List UInt8), (DQ.mk a.1 a.2.1 a.2.2.1 a.2.2.2.1 a.2.2.2.2.1 a.2.2.2.2.2.1))] : List (Z0 × DQ)).length 104 then some ((c ++ ([(([97] : List UInt8), (DQ.mk a.1 a.2.1 a.2.2.1 a.2.2.2.1 a.2.2.2.2.1 a.2.2.2.2.2.1))] : List (Z0 × DQ))), a.2.2.2.2.2.2.1, a.2.2.2.2.2.2.2) else none) else some (c, d.2.1, d.2.2)) N (([] : List (Z0 × DQ)), ([([97] : List UInt8), ([98] : List UInt8), ([99] : List UInt8), ([100] : List UInt8)] : List Z0), f.1, f.2.1, f.2.2))
theorem jGI (N : Nat) : mK 86 ⟨⟨[.box 900000 0], [(900000, false, [.pv (.sl (.int .u8)), pI])]⟩, ⟨[.own 1 (.pair .str .q) 72 false], [(900000, false, [.pv (.sl (.int .u8)), pI])]⟩, c2A (s_l30Alerts_m N)⟩ :=
 mO (fC (jtX N) (fC (jE7 N N) (fC (jGf N) ja))) Tryz.func86 rfl N (.seq .no (.seq .no (.seq .no (.seq (.seq .no (.block (.loop jGC .no))) .no)))) _ (rs := [900000])
def juL : Sh := ⟨.box 900000 0 :: .dead :: .box 2 0 :: .box 3 0 :: dz 30 [], [(2, false, [.nils, .nils]), (3, false, [.own 13 .str 9 true, .nils]), (900000, false, [.pv (.sl (.int .u8)), pI])]⟩
def juw : Sh := ⟨.box 900000 0 :: .dead :: .box 2 0 :: .box 3 0 :: dz 30 [], [(2, false, [.nils, .nils]), (3, false, [.own 8 .str 9 true, .nils]), (900000, false, [.pv (.sl (.int .u8)), pI])]⟩
def s_l30Conf_m (N : Nat) (m : List Int) (i : Int) : Option ((List Z0) × (List Z3) × (List Int) × Int) :=
 (meet (fun (d : (List Z0) × (List Int) × Int) => match d with | (j, n, o) => meet (fun (d : (List Z0) × (List Int) × Int) => match d with | (e, k, l) => oB (s_l30Rd_pick_m N 4 k l) fun a => bif decide (a.1 = 0) then some (e, ([(([([110, 101, 119] : List UInt8), ([121, 111, 114, 107] : List UInt8)] : List Z0), ([110, 121] : List UInt8))] : List Z3), a.2.1, a.2.2) else bif decide (a.1 = 1) then some (e, ([(([([98, 105, 103] : List UInt8)] : List Z0), ([108, 97, 114, 103] : List UInt8)), (([([98, 105, 103] : List UInt8), ([114, 101, 100] : List UInt8), ([102, 111, 120] : List UInt8)] : List Z0), ([102, 111, 120] : List UInt8)), (([([110, 101, 119] : List UInt8), ([121, 111, 114, 107] : List UInt8)] : List Z0), ([110, 121] : List UInt8))] : List Z3), a.2.1, a.2.2) else some (e, ([] : List Z3), a.2.1, a.2.2)) fun f => oB (s_l30Rd_pick_m N 4 n o) fun c => bif decide (c.1 = 0) then f (([([100, 111, 103] : List UInt8), ([116, 104, 101] : List UInt8)] : List Z0), c.2.1, c.2.2) else f (j, c.2.1, c.2.2)) fun h => oB (s_l30Rd_pick_m N 3 m i) fun b => bif decide ((0 : Int) < b.1) then h (([([116, 104, 101] : List UInt8)] : List Z0), b.2.1, b.2.2) else h (([] : List Z0), b.2.1, b.2.2))
theorem jva (N : Nat) : mK 164 ⟨⟨[.box 900000 0], [(900000, false, [.pv (.sl (.int .u8)), pI])]⟩, ⟨[.agg [.own 1 .str 9 true, .own 2 Y17 138 true]], [(900000, false, [.pv (.sl (.int .u8)), pI])]⟩, c2A (s_l30Conf_m N)⟩ :=
 mO (fC (jtX N) ja) Tryz.func164 rfl N (.seq .no (.seq .no (.meet juw .no (.meet juL .no .no)))) _ (rs := [900000])
def s_l30AnyConf_m (N : Nat) (c : List Int) (d : Int) : Option ((List Z0) × (List Z3) × (List Int) × Int) :=
 (oB (s_l30Conf_m N c d) fun a => oB (s_l30Rd_pick_m N 14 a.2.2.1 a.2.2.2) fun b => bif decide (b.1 = 0) then some (([([116, 104, 101] : List UInt8), ([97] : List UInt8)] : List Z0), a.2.1, b.2.1, b.2.2) else bif decide (b.1 = 1) then if room a.2.1.length ([(([([99, 97, 116, 115] : List UInt8)] : List Z0), ([99, 97, 116] : List UInt8))] : List Z3).length 40 then some (a.1, (a.2.1 ++ ([(([([99, 97, 116, 115] : List UInt8)] : List Z0), ([99, 97, 116] : List UInt8))] : List Z3)), b.2.1, b.2.2) else none else bif decide (b.1 = 2) then if room a.2.1.length ([(([] : List Z0), ([99, 97, 116] : List UInt8))] : List Z3).length 40 then some (a.1, (a.2.1 ++ ([(([] : List Z0), ([99, 97, 116] : List UInt8))] : List Z3)), b.2.1, b.2.2) else none else bif decide (b.1 = 3) then if room a.2.1.length ([(([([116, 104, 101] : List UInt8), ([99, 97, 116] : List UInt8)] : List Z0), ([99, 97, 116] : List UInt8))] : List Z3).length 40 then some (a.1, (a.2.1 ++ ([(([([116, 104, 101] : List UInt8), ([99, 97, 116] : List UInt8)] : List Z0), ([99, 97, 116] : List UInt8))] : List Z3)), b.2.1, b.2.2) else none else some (a.1, a.2.1, b.2.1, b.2.2))
theorem jF3 (N : Nat) : mK 87 ⟨⟨[.box 900000 0], [(900000, false, [.pv (.sl (.int .u8)), pI])]⟩, ⟨[.agg [.own 1 .str 9 true, .own 2 Y17 138 true]], [(900000, false, [.pv (.sl (.int .u8)), pI])]⟩, c2A (s_l30AnyConf_m N)⟩ :=
 mO (fC (jva N) (fC (jtX N) ja)) Tryz.func87 rfl N .no _ (rs := [900000])
def s_l30Raw_m (N : Nat) (b : List Int) (c : Int) : Option (Z0 × (List Int) × Int) :=
 (oB (s_l30Rd_of_m N ([([99, 97, 116] : List UInt8), ([67, 97, 116, 115] : List UInt8), ([100, 111, 103] : List UInt8), ([100, 111, 103, 115] : List UInt8), ([114, 117, 110] : List UInt8), ([82, 85, 78, 78, 73, 78, 71] : List UInt8), ([116, 104, 101] : List UInt8), ([114, 101, 100] : List UInt8), ([98, 105, 103] : List UInt8), ([110, 101, 119, 32, 121, 111, 114, 107] : List UInt8), ([78, 101, 119, 32, 32, 89, 111, 114, 107] : List UInt8), ([110, 121] : List UInt8), ([102, 111, 120] : List UInt8), ([112, 97, 115, 115, 101, 100] : List UInt8), ([120, 49] : List UInt8), ([97, 118, 101, 114, 121, 118, 101, 114, 121, 108, 111, 110, 103, 119, 111, 114, 100] : List UInt8)] : List Z0) b c) fun a => some (a.1, a.2.1, a.2.2))
theorem jvg (N : Nat) : mK 285 ⟨⟨[.box 900000 0], [(900000, false, [.pv (.sl (.int .u8)), pI])]⟩, ⟨[pS], [(900000, false, [.pv (.sl (.int .u8)), pI])]⟩, c2A (s_l30Raw_m N)⟩ :=
 mO (fC (jt3 N) ja) Tryz.func285 rfl N .no _ (rs := [900000])
def juP : Sh := ⟨.box 900000 0 :: .dead :: .dead :: pS :: pI :: dz 15 [], [(900000, false, [.pv (.sl (.int .u8)), pI])]⟩
def s_l30Text_m (N : Nat) (k : List Int) (i : Int) : Option (Z0 × (List Int) × Int) :=
 (oB (s_l30Rd_pick_m N 9 k i) fun e => iter (fun j (c, d, f, h) => bif decide ((0 : Int) < d) then oB (s_l30Raw_m N f h) fun a => (if c.length + a.1.length ≤ 9223372036854775807 then oB (s_l30Rd_of_m N ([([32] : List UInt8), ([32] : List UInt8), ([44, 32] : List UInt8), ([45] : List UInt8), ([46, 32] : List UInt8)] : List Z0) a.2.1 a.2.2) fun b => (if (c ++ a.1).length + b.1.length ≤ 9223372036854775807 then if fits (d - 1) then j (((c ++ a.1) ++ b.1), (d - 1), b.2.1, b.2.2) else none else none) else none) else some (c, f, h)) N (([] : List UInt8), e.1, e.2.1, e.2.2))
theorem juT (N : Nat) : mK 231 ⟨⟨[.box 900000 0], [(900000, false, [.pv (.sl (.int .u8)), pI])]⟩, ⟨[pS], [(900000, false, [.pv (.sl (.int .u8)), pI])]⟩, c2A (s_l30Text_m N)⟩ :=
 mO (fC (jtX N) (fC (jvg N) (fC (jt3 N) ja))) Tryz.func231 rfl N (.seq .no (.seq .no (.seq (.seq .no (.block (.loop juP .no))) .no))) _ (rs := [900000])
def juy : Sh := ⟨.box 900000 0 :: dz 3 (.box 4 0 :: .box 5 0 :: dz 48 []), [(4, false, [pI, .nils, .nils]), (5, false, [pI, .own 28 Y19 143 true, .own 39 Y16 145 true]), (900000, false, [.pv (.sl (.int .u8)), pI])]⟩
def juX : Sh := ⟨.box 900000 0 :: dz 3 (.box 4 0 :: .box 5 0 :: dz 48 []), [(4, false, [pI, .nils, .nils]), (5, false, [pI, .own 28 Y19 143 true, .nils]), (900000, false, [.pv (.sl (.int .u8)), pI])]⟩
def jvb : Sh := ⟨.box 900000 0 :: dz 3 (.box 4 0 :: .box 5 0 :: dz 48 []), [(4, false, [pI, .nils, .nils]), (5, false, [pI, .own 17 Y19 143 true, .nils]), (900000, false, [.pv (.sl (.int .u8)), pI])]⟩
def s_l30Doc_m (N : Nat) (x : Int) (D : List Int) (z : Int) : Option (Int × Z9 × Z5 × (List Int) × Int) :=
 (meet (fun (c : Int × Int × Z9 × (List Int) × Int) => match c with | (w, v, k, y, A) => meet (fun (c : Int × Int × Z9 × (List Int) × Int) => match c with | (t, r, q, B, E) => meet (fun (c : Int × Int × Z9 × Z5 × (List Int) × Int) => match c with | (H, p, u, l, G, C) => oB (s_l30Rd_pick_m N 3 G C) fun e => bif decide (e.1 = 0) then oB (s_l30Rd_pick_m N 30 e.2.1 e.2.2) fun f => (if fits (2000 + f.1) then if room l.length ([(([121, 101, 97, 114] : List UInt8), (2000 + f.1))] : Z6).length 24 then some (p, u, (l ++ ([(([121, 101, 97, 114] : List UInt8), (2000 + f.1))] : Z6)), f.2.1, f.2.2) else none else none) else some (p, u, l, e.2.1, e.2.2)) fun o => oB (s_l30Rd_pick_m N 3 B E) fun d => bif decide ((0 : Int) < d.1) then oB (s_l30Rd_pick_m N 4 d.2.1 d.2.2) fun i => (if room ([] : Z6).length ([(([114, 97, 116, 101] : List UInt8), i.1)] : Z6).length 24 then o (t, r, q, (([] : Z6) ++ ([(([114, 97, 116, 101] : List UInt8), i.1)] : Z6)), i.2.1, i.2.2) else none) else o (t, r, q, ([] : Z6), d.2.1, d.2.2)) fun m => oB (s_l30Rd_pick_m N 3 y A) fun a => bif decide (a.1 = 0) then oB (s_l30Text_m N a.2.1 a.2.2) fun j => (if room k.length ([(([116, 105, 116, 108, 101] : List UInt8), j.1)] : Z10).length 32 then m (w, v, (k ++ ([(([116, 105, 116, 108, 101] : List UInt8), j.1)] : Z10)), j.2.1, j.2.2) else none) else m (w, v, k, a.2.1, a.2.2)) fun n => oB (s_l30Rd_pick_m N 6 D z) fun b => bif decide ((0 : Int) < b.1) then oB (s_l30Text_m N b.2.1 b.2.2) fun h => (if room ([] : Z10).length ([(([98, 111, 100, 121] : List UInt8), h.1)] : Z10).length 32 then n (0, x, (([] : Z10) ++ ([(([98, 111, 100, 121] : List UInt8), h.1)] : Z10)), h.2.1, h.2.2) else none) else n (0, x, ([] : Z10), b.2.1, b.2.2))
theorem jvf (N : Nat) : mK 165 ⟨⟨[.box 900000 0, pI], [(900000, false, [.pv (.sl (.int .u8)), pI])]⟩, ⟨[.agg [pI, .own 1 Y19 143 true, .own 2 Y16 145 true]], [(900000, false, [.pv (.sl (.int .u8)), pI])]⟩, c3A (s_l30Doc_m N)⟩ :=
 mO (fC (jtX N) (fC (juT N) ja)) Tryz.func165 rfl N (.seq .no (.seq .no (.meet jvb .no (.meet juX .no (.meet juy .no .no))))) _ (rs := [900000])
def s_l30AnyText_m (N : Nat) (d : List Int) (e : Int) : Option (Z0 × (List Int) × Int) :=
 (oB (s_l30Text_m N d e) fun a => oB (s_l30Rd_pick_m N 12 a.2.1 a.2.2) fun b => bif decide (b.1 = 0) then oB (s_l30Rd_of_m N ([([10] : List UInt8), ([255] : List UInt8), ([48, 49, 50, 51, 52, 53, 54, 55, 56, 57, 32, 48, 49, 50, 51, 52, 53, 54, 55, 56, 57, 32, 48, 49, 50, 51, 52, 53, 54, 55, 56, 57, 32, 48, 49, 50, 51, 52, 53, 54, 55, 56, 57, 32, 48, 49, 50, 51, 52, 53, 54, 55, 56, 57, 32, 48, 49, 50, 51, 52, 53, 54, 55, 56, 57, 32, 48, 49, 50, 51, 52, 53, 54, 55, 56, 57, 32, 48, 49, 50, 51, 52, 53, 54, 55, 56, 57, 32, 48, 49, 50, 51, 52, 53, 54, 55, 56, 57, 32, 48, 49, 50, 51, 52, 53, 54, 55, 56, 57, 32, 48, 49, 50, 51, 52, 53, 54, 55, 56, 57, 32, 48, 49, 50, 51, 52, 53, 54, 55, 56, 57, 32, 48, 49, 50, 51, 52, 53, 54, 55, 56, 57, 32, 48, 49, 50, 51, 52, 53, 54, 55, 56, 57, 32, 48, 49, 50, 51, 52, 53, 54, 55] : List UInt8)] : List Z0) b.2.1 b.2.2) fun c => (if a.1.length + c.1.length ≤ 9223372036854775807 then some ((a.1 ++ c.1), c.2.1, c.2.2) else none) else some (a.1, b.2.1, b.2.2))
theorem jGK (N : Nat) : mK 166 ⟨⟨[.box 900000 0], [(900000, false, [.pv (.sl (.int .u8)), pI])]⟩, ⟨[pS], [(900000, false, [.pv (.sl (.int .u8)), pI])]⟩, c2A (s_l30AnyText_m N)⟩ :=
 mO (fC (juT N) (fC (jtX N) (fC (jt3 N) ja))) Tryz.func166 rfl N .no _ (rs := [900000])
def s_l30AnyDoc_m (N : Nat) (i : List Int) (h : Int) : Option (Int × Z9 × Z5 × (List Int) × Int) :=
 (oB (s_l30Rd_pick_m N 9 i h) fun c => if fits (1 + c.1) then oB (s_l30Doc_m N (1 + c.1) c.2.1 c.2.2) fun a => (oB (s_l30Rd_pick_m N 14 a.2.2.2.1 a.2.2.2.2) fun b => bif decide (b.1 = 0) then oB (s_l30Rd_one_m N ([0, 10000, 9999] : List Int) b.2.1 b.2.2) fun f => (some (f.1, a.2.1, a.2.2.1, f.2.1, f.2.2)) else bif decide (b.1 = 1) then if room a.2.1.length ([(([98, 111, 100, 121] : List UInt8), ([97, 103, 97, 105, 110] : List UInt8))] : Z10).length 32 then some (a.1, (a.2.1 ++ ([(([98, 111, 100, 121] : List UInt8), ([97, 103, 97, 105, 110] : List UInt8))] : Z10)), a.2.2.1, b.2.1, b.2.2) else none else bif decide (b.1 = 2) then oB (s_l30Rd_one_m N ([(-1), 1000000000] : List Int) b.2.1 b.2.2) fun d => (if room a.2.2.1.length ([(([122, 122] : List UInt8), d.1)] : Z6).length 24 then some (a.1, a.2.1, (a.2.2.1 ++ ([(([122, 122] : List UInt8), d.1)] : Z6)), d.2.1, d.2.2) else none) else bif decide (b.1 = 3) then oB (s_l30AnyText_m N b.2.1 b.2.2) fun e => (if room a.2.1.length ([(([122, 101, 100] : List UInt8), e.1)] : Z10).length 32 then some (a.1, (a.2.1 ++ ([(([122, 101, 100] : List UInt8), e.1)] : Z10)), a.2.2.1, e.2.1, e.2.2) else none) else some (a.1, a.2.1, a.2.2.1, b.2.1, b.2.2)) else none)
theorem jGG (N : Nat) : mK 88 ⟨⟨[.box 900000 0], [(900000, false, [.pv (.sl (.int .u8)), pI])]⟩, ⟨[.agg [pI, .own 1 Y19 143 true, .own 2 Y16 145 true]], [(900000, false, [.pv (.sl (.int .u8)), pI])]⟩, c2A (s_l30AnyDoc_m N)⟩ :=
 mO (fC (jtX N) (fC (jvf N) (fC (juA N) (fC (jGK N) ja)))) Tryz.func88 rfl N .no _ (rs := [900000])
def s_DrawAlertOf_m (N : Nat) (e : List Int) : Option ((List (Z0 × DQ)) × (List Z0) × (List Z3) × Int × Z9 × Z5) :=
 (oB (s_l30Open_m N e) fun d => oB (s_l30Alerts_m N d.1 d.2) fun b => oB (s_l30AnyConf_m N b.2.1 b.2.2) fun a => oB (s_l30AnyDoc_m N a.2.2.1 a.2.2.2) fun c => some (b.1, a.1, a.2.1, c.1, c.2.1, c.2.2.1))
theorem jGt (N : Nat) : mK 25 ⟨⟨[.pv (.sl (.int .u8))], []⟩, ⟨[.tup [.own 1 (.pair .str .q) 72 false, .agg [.own 2 .str 9 true, .own 3 Y17 138 true], .agg [pI, .own 4 Y19 143 true, .own 5 Y16 145 true]]], []⟩, c1A (s_DrawAlertOf_m N)⟩ :=
 mO (fC (juQ N) (fC (jGI N) (fC (jF3 N) (fC (jGG N) ja)))) Tryz.func25 rfl N .no _
def jve : Sh := ⟨.pv (.sl .str) :: .pv (.sl .str) :: dz 3 (pI :: dz 20 []), []⟩
def l_foTexts_m (N : Nat) (c : List Z0) (e : List Z0) : Z7 :=
 (bif !decide ((c.length : Int) = (e.length : Int)) then some false else iter (fun f (b, d, a) => bif decide (a < (b.length : Int)) then oB (idx b a) fun i => (oB (idx d a) fun j => bif !decide (i = j) then some false else if fits (a + 1) then f (b, d, (a + 1)) else none) else some true) N (c, e, (0 : Int)))
theorem juE (N : Nat) : mK 26 ⟨⟨[.pv (.sl .str), .pv (.sl .str)], []⟩, ⟨[pB], []⟩, c2A (l_foTexts_m N)⟩ :=
 mO ja Tryz.func26 rfl N (.seq .no (.seq .no (.seq (.seq .no (.block (.loop jve .no))) .no))) _
def s_AlertsOk_m (N : Nat) (b : List (Z0 × DQ)) : Z7 :=
 (oB (jE4 N b) fun a => some a)
theorem jGw (N : Nat) : mK 28 ⟨⟨[.pv (.sl (.pair .str .q))], []⟩, ⟨[pB], []⟩, c1A (s_AlertsOk_m N)⟩ :=
 mO (fC (jFd N) ja) Tryz.func28 rfl N .no _
def jBM : Sh := ⟨dz 5 (.box 5 0 :: .dead :: .own 600007 Y13 162 true :: .box 26 0 :: dz 19 (.pv Y2 :: pI :: pI :: dz 18 [])), [(5, false, [pI, pS, .pv (.sl .str), pI, pI, .pv (.sl .q)]), (26, true, [.pv (.sl .str), .pv Y15, .pv Y2, .pv Y4])]⟩
def i_scores_m (N : Nat) (w : List Z0) (B : List Z3) (c : List Z2) (u : List Z1) (v : Int) (t : List UInt8) (z : List Z0) (C : Int) (y : Int) (A : List DQ) : Option ((List (Int × Int))) :=
 (oB (i_SegOk_m N w B c u) fun D => bif !D then some ([] : List (Int × Int)) else oB (i_QueryOk_m N v t z C y A) fun E => bif !E then some ([] : List (Int × Int)) else iter (fun x (d, e, r, a, q, k, i, h, m, n, o, l, p, j) => bif decide (a < r) then oB (idx e a) fun b => (oB (i_scorer_score_m N N ((o, l), p, j) q k i h m n b.1 b.2.1 b.2.2) fun f => bif decide ((0 : Int) < f) then if room d.length ([(b.1, f)] : List (Int × Int)).length 16 then if fits (a + 1) then x ((d ++ ([(b.1, f)] : List (Int × Int))), e, r, (a + 1), q, k, i, h, m, n, o, l, p, j) else none else none else if fits (a + 1) then x (d, e, r, (a + 1), q, k, i, h, m, n, o, l, p, j) else none) else some d) N (([] : List (Int × Int)), c, (c.length : Int), (0 : Int), v, t, z, C, y, A, w, B, c, u))
theorem jBc (N : Nat) : mK 103 ⟨⟨[.agg [.pv (.sl .str), .pv Y15], .agg [.pv Y2, .pv Y4], .agg [pI, pS, .pv (.sl .str), pI, pI, .pv (.sl .q)]], []⟩, ⟨[.own 1 Y13 162 true], []⟩, c10A (i_scores_m N)⟩ :=
 mO (fC (joa N) (fC (jCN N) (fC (jzy N N) ja))) Tryz.func103 rfl N (.seq .no (.seq .no (.seq .no (.seq .no (.seq (.seq .no (.block (.loop jBM .no))) .no))))) _
def jEp : Sh := ⟨dz 7 (.own 600007 tI 3 true :: dz 6 (.own 600014 Y13 162 true :: pI :: pI :: dz 10 [])), []⟩
def i_MatchOf_m (N : Nat) (l : List Z0) (r : List Z3) (i : List Z2) (j : List Z1) (k : Int) (h : List UInt8) (o : List Z0) (t : Int) (n : Int) (q : List DQ) : Option ((List Int)) :=
 (oB (i_scores_m N l r i j k h o t n q) fun c => iter (fun m (b, f, e, a) => bif decide (a < e) then oB (idx f a) fun d => (if room b.length ([d.1] : List Int).length 8 then if fits (a + 1) then m ((b ++ ([d.1] : List Int)), f, e, (a + 1)) else none else none) else some b) N (([] : List Int), c, (c.length : Int), (0 : Int)))
theorem jEl (N : Nat) : mK 32 ⟨⟨[.agg [.pv (.sl .str), .pv Y15], .agg [.pv Y2, .pv Y4], .agg [pI, pS, .pv (.sl .str), pI, pI, .pv (.sl .q)]], []⟩, ⟨[.own 1 tI 3 true], []⟩, c10A (i_MatchOf_m N)⟩ :=
 mO (fC (jBc N) ja) Tryz.func32 rfl N (.seq .no (.seq .no (.seq (.seq .no (.block (.loop jEp .no))) .no))) _
def jFK : Sh := ⟨dz 3 (.own 600003 (.pair .str .q) 72 false :: .box 4 0 :: .dead :: .own 600006 .str 9 true :: .box 7 0 :: .own 600008 .str 9 true :: pI :: dz 87 []), [(4, false, [.own 700400 .str 9 true, .own 700401 Y17 138 true]), (7, false, [.pv Y2, .own 700701 Y5 156 false])]⟩
def l_FnAlertOf_m (N : Nat) (p : List Int) : Z7 :=
 (bif decide ((1048576 : Int) < (p.length : Int)) then some true else oB (s_DrawAlertOf_m N p) fun a => oB (i_AlertOf_m N a.1 a.2.1 a.2.2.1 a.2.2.2.1 a.2.2.2.2.1 a.2.2.2.2.2) fun c => oB (s_AlertOf_m N a.1 a.2.1 a.2.2.1 a.2.2.2.1 a.2.2.2.2.1 a.2.2.2.2.2) fun G => oB (l_foTexts_m N c G) fun S => bif !S then oB (s_AlertOf_m N a.1 a.2.1 a.2.2.1 a.2.2.2.1 a.2.2.2.2.1 a.2.2.2.2.2) fun C => (oB (l_foTexts_m N c C) fun O => bif O then oB (i_AlertsOk_m N a.1) fun V => (oB (s_AlertsOk_m N a.1) fun aa => some (V == aa)) else some false) else oB (i_AlertsOk_m N a.1) fun q => oB (s_AlertsOk_m N a.1) fun L => bif !(q == L) then oB (s_AlertOf_m N a.1 a.2.1 a.2.2.1 a.2.2.2.1 a.2.2.2.2.1 a.2.2.2.2.2) fun H => (oB (l_foTexts_m N c H) fun I => bif I then oB (i_AlertsOk_m N a.1) fun w => (oB (s_AlertsOk_m N a.1) fun Q => some (w == Q)) else some false) else oB (i_AlertsOk_m N a.1) fun P => bif !P then oB (s_AlertOf_m N a.1 a.2.1 a.2.2.1 a.2.2.2.1 a.2.2.2.2.1 a.2.2.2.2.2) fun X => (oB (l_foTexts_m N c X) fun A => bif A then oB (i_AlertsOk_m N a.1) fun R => (oB (s_AlertsOk_m N a.1) fun z => some (R == z)) else some false) else oB (jaj N a.2.1 a.2.2.1) fun t => bif !t then oB (s_AlertOf_m N a.1 a.2.1 a.2.2.1 a.2.2.2.1 a.2.2.2.2.1 a.2.2.2.2.2) fun r => (oB (l_foTexts_m N c r) fun v => bif v then oB (i_AlertsOk_m N a.1) fun K => (oB (s_AlertsOk_m N a.1) fun W => some (K == W)) else some false) else oB (jbx N a.2.2.2.1 a.2.2.2.2.1 a.2.2.2.2.2) fun x => bif !x then oB (s_AlertOf_m N a.1 a.2.1 a.2.2.1 a.2.2.2.1 a.2.2.2.2.1 a.2.2.2.2.2) fun y => (oB (l_foTexts_m N c y) fun T => bif T then oB (i_AlertsOk_m N a.1) fun E => (oB (s_AlertsOk_m N a.1) fun U => some (E == U)) else some false) else oB (i_SegOf_m N a.2.1 a.2.2.1 ([a.2.2.2] : List Z2)) fun n => iter (fun m (e, l, f, b, k, i, h, j) => bif decide (b < (e.length : Int)) then oB (idx e b) fun d => (oB (i_MatchOf_m N k i h j d.2.kind d.2.field d.2.words d.2.lo d.2.hi d.2.kids) fun D => bif decide ((0 : Int) < (D.length : Int)) then oB (idx e b) fun o => (if room f.length ([o.1] : List Z0).length 16 then if fits (b + 1) then m (e, l, (f ++ ([o.1] : List Z0)), (b + 1), k, i, h, j) else none else none) else if fits (b + 1) then m (e, l, f, (b + 1), k, i, h, j) else none) else oB (l_foTexts_m N l f) fun u => some u) N (a.1, c, ([] : List Z0), (0 : Int), a.2.1, a.2.2.1, n.1, n.2))
def jFE (N : Nat) : Model := ⟨⟨[.pv (.sl (.int .u8))], []⟩, ⟨[pB], []⟩, c1A (l_FnAlertOf_m N)⟩
theorem jGl (N : Nat) : mK 4 (jFE N) :=
 mO (fC (jGt N) (fC (jGA N) (fC (jFZ N) (fC (juE N) (fC (jFt N) (fC (jGw N) (fC (jdX N) (fC (jh0 N) (fC (jqC N) (fC (jEl N) ja)))))))))) Tryz.func4 rfl N (.seq .no (.seq .no (.seq .no (.seq .no (.seq .no (.seq .no (.seq .no (.seq (.seq .no (.block (.loop jFK .no))) .no)))))))) (jFE N)
end Go.Proofs.YtfgcmhhacfkhcaaGreatDoor
