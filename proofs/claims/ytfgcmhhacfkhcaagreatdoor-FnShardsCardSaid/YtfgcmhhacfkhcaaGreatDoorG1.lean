import Derived.Test.YtfgcmhhacfkhcaaGreatDoorG1A
set_option linter.unusedVariables false
set_option linter.unusedSimpArgs false
namespace Go.Proofs.YtfgcmhhacfkhcaaGreatDoor
open Go.RowKit
open Option renaming bind → oB
def k__slices_xorshift_Next_m (N : Nat) (a : Int) : Option (Int × Int) :=
 (if 0 ≤ (13 : Int) then if 0 ≤ (7 : Int) then if 0 ≤ (17 : Int) then some ((bitsI .xor .u64 (bitsI .xor .u64 (bitsI .xor .u64 a (IntKind.u64.wrap (a * 2 ^ (min (13 : Int).toNat (IntKind.bits .u64))))) ((bitsI .xor .u64 a (IntKind.u64.wrap (a * 2 ^ (min (13 : Int).toNat (IntKind.bits .u64))))).fdiv (2 ^ (min (7 : Int).toNat (IntKind.bits .u64))))) (IntKind.u64.wrap ((bitsI .xor .u64 (bitsI .xor .u64 a (IntKind.u64.wrap (a * 2 ^ (min (13 : Int).toNat (IntKind.bits .u64))))) ((bitsI .xor .u64 a (IntKind.u64.wrap (a * 2 ^ (min (13 : Int).toNat (IntKind.bits .u64))))).fdiv (2 ^ (min (7 : Int).toNat (IntKind.bits .u64))))) * 2 ^ (min (17 : Int).toNat (IntKind.bits .u64))))), (bitsI .xor .u64 (bitsI .xor .u64 (bitsI .xor .u64 a (IntKind.u64.wrap (a * 2 ^ (min (13 : Int).toNat (IntKind.bits .u64))))) ((bitsI .xor .u64 a (IntKind.u64.wrap (a * 2 ^ (min (13 : Int).toNat (IntKind.bits .u64))))).fdiv (2 ^ (min (7 : Int).toNat (IntKind.bits .u64))))) (IntKind.u64.wrap ((bitsI .xor .u64 (bitsI .xor .u64 a (IntKind.u64.wrap (a * 2 ^ (min (13 : Int).toNat (IntKind.bits .u64))))) ((bitsI .xor .u64 a (IntKind.u64.wrap (a * 2 ^ (min (13 : Int).toNat (IntKind.bits .u64))))).fdiv (2 ^ (min (7 : Int).toNat (IntKind.bits .u64))))) * 2 ^ (min (17 : Int).toNat (IntKind.bits .u64)))))) else none else none else none)
theorem jet (N : Nat) : mK 288 ⟨⟨[.box 900000 0], [(900000, false, [.pv (.int .u64)])]⟩, ⟨[.pv (.int .u64)], [(900000, false, [.pv (.int .u64)])]⟩, c1A (k__slices_xorshift_Next_m N)⟩ :=
 mO ja Tryz.func288 rfl N .no _ (rs := [900000])
section
variable {α γ ρ : Type} (c : γ → α → α → Option Int)
def swpG (d : List α) (i j : Int) (k : List α → Option ρ) : Option ρ :=
 if 0 ≤ j ∧ j < (d.length : Int) then oB (d[j.toNat]?) fun e => if 0 ≤ i ∧ i < (d.length : Int) then oB (d[i.toNat]?) fun e2 =>
  if 0 ≤ i ∧ i < (d.length : Int) then oB (d[i.toNat]?) fun e3 => if 0 ≤ j ∧ j < ((d.set i.toNat e).length : Int) then oB ((d.set i.toNat e)[j.toNat]?) fun e4 => k ((d.set i.toNat e).set j.toNat e2)
  else none else none else none else none
def cmpG (ks : γ) (d : List α) (i j : Int) (k : Int → Option ρ) : Option ρ :=
 if 0 ≤ i ∧ i < (d.length : Int) then oB (d[i.toNat]?) fun e => if 0 ≤ j ∧ j < (d.length : Int) then oB (d[j.toNat]?) fun e2 => oB (c ks e e2) k else none else none
def cmpP (ks : γ) (d : List α) (j : Int) (k : Int → Option ρ) : Option ρ :=
 if 0 ≤ j ∧ j < (d.length : Int) then oB (d[j.toNat]?) fun e => if fits (j - 1) then if 0 ≤ (j - 1) ∧ (j - 1) < (d.length : Int) then oB (d[(j - 1).toNat]?) fun e2 => oB (c ks e e2) k else none else none else none
def swpP (d : List α) (j : Int) (k : List α → Option ρ) : Option ρ := if fits (j - 1) then if fits (j - 1) then swpG d j (j - 1) k else none else none
def insG (N : Nat) (d : List α) (a b : Int) (ks : γ) : Option (List α) :=
 if fits (a + 1) then iter (fun go (g : List α × Int × Int × γ × Int) =>
  match g with
  | (d2, a2, b2, ks2, i) =>
  bif decide (i < b2) then
   iter (fun go2 (g : List α × Int × Int × γ × Int × Int) =>
    match g with
    | (d3, a3, b3, ks3, i2, j) =>
    bif decide (a3 < j) then cmpP c ks3 d3 j fun r => bif decide (r < 0) then swpP d3 j fun d => if fits (j - 1) then go2 (d, a3, b3, ks3, i2, j - 1) else none
     else if fits (i2 + 1) then go (d3, a3, b3, ks3, i2 + 1) else none
    else if fits (i2 + 1) then go (d3, a3, b3, ks3, i2 + 1) else none) N (d2, a2, b2, ks2, i, i)
  else some d2) N (d, a, b, ks, a + 1) else none
def siftG (N : Nat) (data : List α) (lo : Int) (hi : Int) (first : Int) (cmp : γ) : Option ((List α)) :=
 (iter (fun go (g : (List α) × Int × Int × γ × Int) => 
   match g with
   | (data2, hi2, first2, cmp2, root) =>
   (if fits (2 * root) then (if fits ((2 * root) + 1) then (bif (decide (hi2 ≤ ((2 * root) + 1))) then
      (some data2)
      else
      (meet (fun (g : (List α) × Int × Int × γ × Int × Int) => 
        match g with
        | (data3, hi3, first3, cmp3, root2, child) =>
        (if fits (first3 + root2) then (if 0 ≤ (first3 + root2) ∧ (first3 + root2) < (data3.length : Int) then
          (oB (data3[(first3 + root2).toNat]?) fun e3 =>
           (if fits (first3 + child) then (if 0 ≤ (first3 + child) ∧ (first3 + child) < (data3.length : Int) then
             (oB (data3[(first3 + child).toNat]?) fun e4 =>
              (oB (c cmp3 e3 e4) fun r2 =>
               (bif (!(decide (r2 < 0))) then
                (some data3)
                else
                (if fits (first3 + root2) then (if fits (first3 + child) then (if fits (first3 + child) then (if 0 ≤ (first3 + child) ∧ (first3 + child) < (data3.length : Int) then
                    (oB (data3[(first3 + child).toNat]?) fun e5 =>
                     (if fits (first3 + root2) then (if 0 ≤ (first3 + root2) ∧ (first3 + root2) < (data3.length : Int) then
                       (oB (data3[(first3 + root2).toNat]?) fun e6 =>
                        (if 0 ≤ (first3 + root2) ∧ (first3 + root2) < (data3.length : Int) then
                         (oB (data3[(first3 + root2).toNat]?) fun e7 =>
                          (if 0 ≤ (first3 + child) ∧ (first3 + child) < ((data3.set (first3 + root2).toNat e5).length : Int) then
                           (oB ((data3.set (first3 + root2).toNat e5)[(first3 + child).toNat]?) fun e8 =>
                            (go (((data3.set (first3 + root2).toNat e5).set (first3 + child).toNat e6), hi3, first3, cmp3, child)))
                           else none))
                         else none))
                       else none) else none))
                    else none) else none) else none) else none))))
             else none) else none))
          else none) else none)) fun J =>
       (if fits (((2 * root) + 1) + 1) then (bif (decide ((((2 * root) + 1) + 1) < hi2)) then
         (if fits (first2 + ((2 * root) + 1)) then (if 0 ≤ (first2 + ((2 * root) + 1)) ∧ (first2 + ((2 * root) + 1)) < (data2.length : Int) then
           (oB (data2[(first2 + ((2 * root) + 1)).toNat]?) fun e =>
            (if fits (first2 + ((2 * root) + 1)) then (if fits ((first2 + ((2 * root) + 1)) + 1) then (if 0 ≤ ((first2 + ((2 * root) + 1)) + 1) ∧ ((first2 + ((2 * root) + 1)) + 1) < (data2.length : Int) then
               (oB (data2[((first2 + ((2 * root) + 1)) + 1).toNat]?) fun e2 =>
                (oB (c cmp2 e e2) fun r =>
                 (bif (decide (r < 0)) then
                  (if fits (((2 * root) + 1) + 1) then (J (data2, hi2, first2, cmp2, root, (((2 * root) + 1) + 1))) else none)
                  else
                  (J (data2, hi2, first2, cmp2, root, ((2 * root) + 1))))))
               else none) else none) else none))
           else none) else none)
         else
         (J (data2, hi2, first2, cmp2, root, ((2 * root) + 1)))) else none))) else none) else none)) N (data, hi, first, cmp, lo))
def heapG (N : Nat) (data : List α) (a : Int) (b : Int) (cmp : γ) : Option ((List α)) :=
 (if fits (b - a) then (if fits ((b - a) - 1) then (if 2 ≠ 0 then
    (if fits (((b - a) - 1).tdiv 2) then (iter (fun go (g : (List α) × γ × Int × Int × Int × Int) => 
       match g with
       | (data2, cmp2, first, lo, hi, i) =>
       (bif (decide ((0 : Int) ≤ i)) then
        (oB (siftG c N data2 i hi first cmp2) fun r =>
         (if fits (i - 1) then (go (r, cmp2, first, lo, hi, (i - 1))) else none))
        else
        (if fits (hi - 1) then (iter (fun go2 (g : (List α) × γ × Int × Int × Int) => 
           match g with
           | (data3, cmp3, first2, lo2, i2) =>
           (bif (decide ((0 : Int) ≤ i2)) then
            (if fits (first2 + i2) then (if fits (first2 + i2) then swpG data3 first2 (first2 + i2) fun d => (oB (siftG c N d lo2 i2 first2 cmp3) fun r2 =>
                       (if fits (i2 - 1) then (go2 (r2, cmp3, first2, lo2, (i2 - 1))) else none)) else none) else none)
            else
            (some data3))) N (data2, cmp2, first, lo, (hi - 1))) else none))) N (data, cmp, a, 0, (b - a), (((b - a) - 1).tdiv 2))) else none)
    else none) else none) else none)
def breakG (N : Nat) (data : List α) (a : Int) (b : Int) (cmp : γ) : Option (List α) :=
 (if fits (b - a) then (bif (decide ((8 : Int) ≤ (b - a))) then
   (oB (k_slices_nextPowerOfTwo_m N (b - a)) fun r =>
    (if 4 ≠ 0 then
     (if fits ((b - a).tdiv 4) then (if fits (((b - a).tdiv 4) * 2) then (if fits (a + (((b - a).tdiv 4) * 2)) then (if fits ((a + (((b - a).tdiv 4) * 2)) - 1) then (iter (fun go (g : (List α) × Int × Int × Int × Int × Int) => 
           match g with
           | (data2, a2, length, modulus, idx0, random) =>
           (if 4 ≠ 0 then
            (if fits (length.tdiv 4) then (if fits ((length.tdiv 4) * 2) then (if fits (a2 + ((length.tdiv 4) * 2)) then (if fits ((a2 + ((length.tdiv 4) * 2)) + 1) then (bif (decide (idx0 ≤ ((a2 + ((length.tdiv 4) * 2)) + 1))) then
                 (oB (k__slices_xorshift_Next_m N random) fun r2 =>
                  (meet (fun (g : (List α) × Int × Int × Int × Int × Int × Int) => 
                    match g with
                    | (data3, a3, length2, modulus2, idx02, other, random2) =>
                    (if fits (a3 + other) then (if fits (a3 + other) then swpG data3 idx02 (a3 + other) fun d => (if fits (idx02 + 1) then (go (d, a3, length2, modulus2, (idx02 + 1), random2)) else none) else none) else none)) fun J =>
                   (bif (decide (length ≤ (IntKind.i64.wrap (bitsI .and .u64 r2.1 (IntKind.u64.wrap (modulus - 1)))))) then
                    (if fits ((IntKind.i64.wrap (bitsI .and .u64 r2.1 (IntKind.u64.wrap (modulus - 1)))) - length) then (J (data2, a2, length, modulus, idx0, ((IntKind.i64.wrap (bitsI .and .u64 r2.1 (IntKind.u64.wrap (modulus - 1)))) - length), r2.2)) else none)
                    else
                    (J (data2, a2, length, modulus, idx0, (IntKind.i64.wrap (bitsI .and .u64 r2.1 (IntKind.u64.wrap (modulus - 1)))), r2.2)))))
                 else
                 (some data2)) else none) else none) else none) else none)
            else none)) N (data, a, (b - a), r, ((a + (((b - a).tdiv 4) * 2)) - 1), (IntKind.u64.wrap (b - a)))) else none) else none) else none) else none)
     else none))
   else
   (some data)) else none)
def order2G (N : Nat) (data : List α) (a : Int) (b : Int) (cmp : γ) (b2 : Int) : Option (Int × Int × (List α) × Int) :=
 cmpG c cmp data b a fun r => (bif (decide (r < 0)) then (if fits (b2 + 1) then (some (b, a, data, (b2 + 1))) else none) else (some (a, b, data, b2)))
def medianG (N : Nat) (data : List α) (a : Int) (b : Int) (c0 : Int) (cmp : γ) (b2 : Int) : Option (Int × (List α) × Int) :=
 (oB (order2G c N data a b cmp b2) fun r =>
  (oB (order2G c N r.2.2.1 r.2.1 c0 cmp r.2.2.2) fun r2 =>
   (oB (order2G c N r2.2.2.1 r.1 r2.1 cmp r2.2.2.2) fun r3 =>
    (some (r3.2.1, r3.2.2.1, r3.2.2.2)))))
def medianAdjacentG (N : Nat) (data : List α) (a : Int) (cmp : γ) (b : Int) : Option (Int × (List α) × Int) :=
 (if fits (a - 1) then (if fits (a + 1) then (oB (medianG c N data (a - 1) a (a + 1) cmp b) fun r =>
    (some (r.1, r.2.1, r.2.2))) else none) else none)
def choosePivotG (N : Nat) (data : List α) (a : Int) (b : Int) (cmp : γ) : Option (Int × Int × (List α)) :=
 (if fits (b - a) then (if 4 ≠ 0 then
   (if fits ((b - a).tdiv 4) then (if fits (((b - a).tdiv 4) * 1) then (if fits (a + (((b - a).tdiv 4) * 1)) then (if 4 ≠ 0 then
       (if fits ((b - a).tdiv 4) then (if fits (((b - a).tdiv 4) * 2) then (if fits (a + (((b - a).tdiv 4) * 2)) then (if 4 ≠ 0 then
           (if fits ((b - a).tdiv 4) then (if fits (((b - a).tdiv 4) * 3) then (if fits (a + (((b - a).tdiv 4) * 3)) then (meet (fun (g : (List α) × Int × Int) => 
                match g with
                | (data3, j2, swaps2) =>
                (bif (decide (swaps2 = 0)) then
                 (some (j2, 1, data3))
                 else
                 (bif (decide (swaps2 = 12)) then
                  (some (j2, 2, data3))
                  else
                  (some (j2, 0, data3))))) fun J =>
               (bif (decide ((8 : Int) ≤ (b - a))) then
                (meet (fun (g : (List α) × γ × Int × Int × Int × Int) => 
                  match g with
                  | (data2, cmp2, i, j, k, swaps) =>
                  (oB (medianG c N data2 i j k cmp2 swaps) fun r4 =>
                   (J (r4.2.1, r4.1, r4.2.2)))) fun J2 =>
                 (bif (decide ((50 : Int) ≤ (b - a))) then
                  (oB (medianAdjacentG c N data (a + (((b - a).tdiv 4) * 1)) cmp 0) fun r =>
                   (oB (medianAdjacentG c N r.2.1 (a + (((b - a).tdiv 4) * 2)) cmp r.2.2) fun r2 =>
                    (oB (medianAdjacentG c N r2.2.1 (a + (((b - a).tdiv 4) * 3)) cmp r2.2.2) fun r3 =>
                     (J2 (r3.2.1, cmp, r.1, r2.1, r3.1, r3.2.2)))))
                  else
                  (J2 (data, cmp, (a + (((b - a).tdiv 4) * 1)), (a + (((b - a).tdiv 4) * 2)), (a + (((b - a).tdiv 4) * 3)), 0))))
                else
                (J (data, (a + (((b - a).tdiv 4) * 2)), 0)))) else none) else none) else none)
           else none) else none) else none) else none)
       else none) else none) else none) else none)
   else none) else none)
def reverseRangeG (N : Nat) (data : List α) (a : Int) (b : Int) (cmp : γ) : Option ((List α)) :=
 (if fits (b - 1) then (iter (fun go (g : (List α) × Int × Int) => 
    match g with
    | (data2, i, j) =>
    (bif (decide (i < j)) then swpG data2 i j fun d => (if fits (i + 1) then (if fits (j - 1) then (go (d, (i + 1), (j - 1))) else none) else none)
     else
     (some data2))) N (data, a, (b - 1))) else none)
def shDown (k : (List α × Int × Int × γ × Int × Int) → Option ρ) (N : Nat) (g : List α × Int × Int × γ × Int × Int × Int) : Option ρ :=
 iter (fun go3 (g : (List α) × Int × Int × γ × Int × Int × Int) =>
  match g with
  | (d, a, b, ks, i, j, j4) =>
  bif decide ((1 : Int) ≤ j4) then cmpP c ks d j4 fun r => bif !decide (r < 0) then k (d, a, b, ks, i, j) else swpP d j4 fun d' => if fits (j4 - 1) then go3 (d', a, b, ks, i, j, j4 - 1) else none
  else k (d, a, b, ks, i, j)) N g
def shUp (k : (List α × Int × Int × γ × Int × Int) → Option ρ) (N : Nat) (g : List α × Int × Int × γ × Int × Int × Int) : Option ρ :=
 iter (fun go4 (g : (List α) × Int × Int × γ × Int × Int × Int) =>
  match g with
  | (d, a, b, ks, i, j, j4) =>
  bif decide (j4 < b) then cmpP c ks d j4 fun r => bif !decide (r < 0) then (if fits (j + 1) then k (d, a, b, ks, i, j + 1) else none) else swpP d j4 fun d' => if fits (j4 + 1) then go4 (d', a, b, ks, i, j, j4 + 1) else none
  else if fits (j + 1) then k (d, a, b, ks, i, j + 1) else none) N g
def pisX (N : Nat) (go : (List α × Int × Int × γ × Int × Int) → Option (Bool × List α)) (d : List α) (a b : Int) (ks : γ) (i j : Int) : Option (Bool × List α) :=
 bif decide (i = b) then some (true, d) else if fits (b - a) then bif decide ((b - a) < 50) then some (false, d) else
  swpP d i fun d' => meet (fun (g : List α × Int × Int × γ × Int × Int) =>
   match g with
   | (d5, a5, b5, ks5, i4, j5) =>
   if fits (b5 - i4) then bif decide ((2 : Int) ≤ (b5 - i4)) then if fits (i4 + 1) then shUp c go N (d5, a5, b5, ks5, i4, j5, i4 + 1) else none
    else (if fits (j5 + 1) then go (d5, a5, b5, ks5, i4, j5 + 1) else none) else none) fun J =>
   if fits (i - a) then bif decide ((2 : Int) ≤ (i - a)) then if fits (i - 1) then shDown c J N (d', a, b, ks, i, j, i - 1) else none else J (d', a, b, ks, i, j) else none
 else none
def pisG (N : Nat) (d : List α) (a b : Int) (ks : γ) : Option (Bool × List α) :=
 if fits (a + 1) then iter (fun go (g : List α × Int × Int × γ × Int × Int) =>
  match g with
  | (d2, a2, b2, ks2, i, j) =>
  bif decide (j < 5) then
   iter (fun go2 (g : List α × Int × Int × γ × Int × Int) =>
    match g with
    | (d3, a3, b3, ks3, i2, j2) =>
    bif decide (i2 < b3) then cmpP c ks3 d3 i2 fun r => bif !decide (r < 0) then (if fits (i2 + 1) then go2 (d3, a3, b3, ks3, i2 + 1, j2) else none) else pisX c N go d3 a3 b3 ks3 i2 j2
    else pisX c N go d3 a3 b3 ks3 i2 j2) N (d2, a2, b2, ks2, i, j)
  else some (false, d2)) N (d, a, b, ks, a + 1, 0) else none
def partE (go3 : (List α × Int × γ × Int × Int) → Option (Int × Bool × List α)) (fl : Bool) (g : List α × Int × γ × Int × Int) : Option (Int × Bool × List α) :=
 match g with
 | (d, a, ks, i, j) =>
 bif decide (j < i) then swpG d j a fun d' => some (j, fl, d') else swpG d i j fun d' => if fits (i + 1) then if fits (j - 1) then go3 (d', a, ks, i + 1, j - 1) else none else none
def partD (k : (List α × Int × γ × Int × Int) → Option ρ) (N : Nat) (g : List α × Int × γ × Int × Int) : Option ρ :=
 iter (fun go (g : List α × Int × γ × Int × Int) =>
  match g with
  | (d, a, ks, i, j) =>
  bif decide (i ≤ j) then cmpG c ks d j a fun r => bif !decide (r < 0) then (if fits (j - 1) then go (d, a, ks, i, j - 1) else none) else k (d, a, ks, i, j)
  else k (d, a, ks, i, j)) N g
def partU (k : (List α × Int × γ × Int × Int) → Option ρ) (N : Nat) (g : List α × Int × γ × Int × Int) : Option ρ :=
 iter (fun go (g : List α × Int × γ × Int × Int) =>
  match g with
  | (d, a, ks, i, j) =>
  bif decide (i ≤ j) then cmpG c ks d i a fun r => bif decide (r < 0) then (if fits (i + 1) then go (d, a, ks, i + 1, j) else none) else k (d, a, ks, i, j)
  else k (d, a, ks, i, j)) N g
def partG (N : Nat) (d : List α) (a b p : Int) (ks : γ) : Option (Int × Bool × List α) :=
 swpG d a p fun d => if fits (a + 1) then if fits (b - 1) then
  partU c (fun g => partD c (partE (fun g => iter (fun go3 g => partU c (fun g => partD c (partE go3 false) N g) N g) N g) true) N g) N (d, a, ks, a + 1, b - 1)
 else none else none
def peqE (go : (List α × Int × γ × Int × Int) → Option (Int × List α)) (g : List α × Int × γ × Int × Int) : Option (Int × List α) :=
 match g with
 | (d, a, ks, i, j) =>
 bif decide (j < i) then some (i, d) else swpG d i j fun d' => if fits (i + 1) then if fits (j - 1) then go (d', a, ks, i + 1, j - 1) else none else none
def peqD (k : (List α × Int × γ × Int × Int) → Option ρ) (N : Nat) (g : List α × Int × γ × Int × Int) : Option ρ :=
 iter (fun go (g : List α × Int × γ × Int × Int) =>
  match g with
  | (d, a, ks, i, j) =>
  bif decide (i ≤ j) then cmpG c ks d a j fun r => bif decide (r < 0) then (if fits (j - 1) then go (d, a, ks, i, j - 1) else none) else k (d, a, ks, i, j)
  else k (d, a, ks, i, j)) N g
def peqU (k : (List α × Int × γ × Int × Int) → Option ρ) (N : Nat) (g : List α × Int × γ × Int × Int) : Option ρ :=
 iter (fun go (g : List α × Int × γ × Int × Int) =>
  match g with
  | (d, a, ks, i, j) =>
  bif decide (i ≤ j) then cmpG c ks d a i fun r => bif !decide (r < 0) then (if fits (i + 1) then go (d, a, ks, i + 1, j) else none) else k (d, a, ks, i, j)
  else k (d, a, ks, i, j)) N g
def peqG (N : Nat) (d : List α) (a b p : Int) (ks : γ) : Option (Int × List α) :=
 swpG d a p fun d => if fits (a + 1) then if fits (b - 1) then iter (fun go g => peqU c (fun g => peqD c (peqE go) N g) N g) N (d, a, ks, a + 1, b - 1) else none else none
def pdqG (hs : List α → Int → Int → γ → Option (List α)) (pe : List α → Int → Int → Int → γ → Option (Int × List α)) (N : Nat) : (D : Nat) → (List α) → Int → Int → Int → γ → Option ((List α))
 | 0, _, _, _, _, _ => none
 | D + 1, data, a, b, limit, cmp =>
 (iter (fun go (g : (List α) × Int × Int × Int × γ × Bool × Bool) => 
   match g with
   | (data2, a2, b2, limit2, cmp2, wasBalanced, wasPartitioned) =>
   (if fits (b2 - a2) then (bif (decide ((b2 - a2) ≤ 12)) then
     (oB (insG c N data2 a2 b2 cmp2) fun r =>
      (some r))
     else
     (bif (decide (limit2 = 0)) then
      (oB (hs data2 a2 b2 cmp2) fun r2 =>
       (some r2))
      else
      (meet (fun (g : (List α) × Int × Int × Int × γ × Bool × Bool × Int) => 
        match g with
        | (data3, a3, b3, limit3, cmp3, wasBalanced2, wasPartitioned2, length) =>
        (oB (choosePivotG c N data3 a3 b3 cmp3) fun r4 =>
         (meet (fun (g : (List α) × Int × Int × Int × γ × Bool × Bool × Int × Int × Int) => 
           match g with
           | (data4, a4, b4, limit4, cmp4, wasBalanced3, wasPartitioned3, length2, pivot, hint) =>
           (meet (fun (g : (List α) × Int × Int × Int × γ × Bool × Bool × Int × Int) => 
             match g with
             | (data5, a5, b5, limit5, cmp5, wasBalanced4, wasPartitioned4, length3, pivot2) =>
             (bif (decide ((0 : Int) < a5)) then
              (if fits (a5 - 1) then (if 0 ≤ (a5 - 1) ∧ (a5 - 1) < (data5.length : Int) then
                (oB (data5[(a5 - 1).toNat]?) fun e =>
                 (if 0 ≤ pivot2 ∧ pivot2 < (data5.length : Int) then
                  (oB (data5[pivot2.toNat]?) fun e2 =>
                   (oB (c cmp5 e e2) fun r7 =>
                    (bif (!(decide (r7 < 0))) then
                     (oB (pe data5 a5 b5 pivot2 cmp5) fun r8 =>
                      (go (r8.2, r8.1, b5, limit5, cmp5, wasBalanced4, wasPartitioned4)))
                     else
                     (oB (partG c N data5 a5 b5 pivot2 cmp5) fun r9 =>
                      (if fits (r9.1 - a5) then (if fits (b5 - r9.1) then (if 8 ≠ 0 then
                         (if fits (length3.tdiv 8) then (bif (decide ((r9.1 - a5) < (b5 - r9.1))) then
                           (oB (pdqG hs pe N D r9.2.2 a5 r9.1 limit5 cmp5) fun r10 =>
                            (if fits (r9.1 + 1) then (go (r10, (r9.1 + 1), b5, limit5, cmp5, (decide ((length3.tdiv 8) ≤ (r9.1 - a5))), r9.2.1)) else none))
                           else
                           (if fits (r9.1 + 1) then (oB (pdqG hs pe N D r9.2.2 (r9.1 + 1) b5 limit5 cmp5) fun r11 =>
                             (go (r11, a5, r9.1, limit5, cmp5, (decide ((length3.tdiv 8) ≤ (b5 - r9.1))), r9.2.1))) else none)) else none)
                         else none) else none) else none)))))
                  else none))
                else none) else none)
              else
              (oB (partG c N data5 a5 b5 pivot2 cmp5) fun r12 =>
               (if fits (r12.1 - a5) then (if fits (b5 - r12.1) then (if 8 ≠ 0 then
                  (if fits (length3.tdiv 8) then (bif (decide ((r12.1 - a5) < (b5 - r12.1))) then
                    (oB (pdqG hs pe N D r12.2.2 a5 r12.1 limit5 cmp5) fun r13 =>
                     (if fits (r12.1 + 1) then (go (r13, (r12.1 + 1), b5, limit5, cmp5, (decide ((length3.tdiv 8) ≤ (r12.1 - a5))), r12.2.1)) else none))
                    else
                    (if fits (r12.1 + 1) then (oB (pdqG hs pe N D r12.2.2 (r12.1 + 1) b5 limit5 cmp5) fun r14 =>
                      (go (r14, a5, r12.1, limit5, cmp5, (decide ((length3.tdiv 8) ≤ (b5 - r12.1))), r12.2.1))) else none)) else none)
                  else none) else none) else none)))) fun J3 =>
            (bif wasBalanced3 then
             (bif wasPartitioned3 then
              (bif (decide (hint = 1)) then
               (oB (pisG c N data4 a4 b4 cmp4) fun r6 =>
                (bif r6.1 then
                 (some r6.2)
                 else
                 (J3 (r6.2, a4, b4, limit4, cmp4, wasBalanced3, wasPartitioned3, length2, pivot))))
               else
               (J3 (data4, a4, b4, limit4, cmp4, wasBalanced3, wasPartitioned3, length2, pivot)))
              else
              (J3 (data4, a4, b4, limit4, cmp4, wasBalanced3, wasPartitioned3, length2, pivot)))
             else
             (J3 (data4, a4, b4, limit4, cmp4, wasBalanced3, wasPartitioned3, length2, pivot))))) fun J2 =>
          (bif (decide (r4.2.1 = 2)) then
           (oB (reverseRangeG N r4.2.2 a3 b3 cmp3) fun r5 =>
            (if fits (b3 - 1) then (if fits (r4.1 - a3) then (if fits ((b3 - 1) - (r4.1 - a3)) then (J2 (r5, a3, b3, limit3, cmp3, wasBalanced2, wasPartitioned2, length, ((b3 - 1) - (r4.1 - a3)), 1)) else none) else none) else none))
           else
           (J2 (r4.2.2, a3, b3, limit3, cmp3, wasBalanced2, wasPartitioned2, length, r4.1, r4.2.1)))))) fun J =>
       (bif (!wasBalanced) then
        (oB (breakG N data2 a2 b2 cmp2) fun r3 =>
         (if fits (limit2 - 1) then (J (r3, a2, b2, (limit2 - 1), cmp2, wasBalanced, wasPartitioned, (b2 - a2))) else none))
        else
        (J (data2, a2, b2, limit2, cmp2, wasBalanced, wasPartitioned, (b2 - a2))))))) else none)) N (data, a, b, limit, cmp, true, true))
end
def cmp105 (N : Nat) : (Unit) → Z1 → Z1 → Option Int := (fun (cmp : Unit) (e e2 : Z0 × Z0 × Z15) => je N e.1 e.2.1 e.2.2 e2.1 e2.2.1 e2.2.2)
def jny : Sh := ⟨.mtk 800000 Y5 156 false :: pI :: pI :: .clo 100 [] :: dz 4 (pI :: dz 44 []), []⟩
def jll : Sh := ⟨.mtk 800000 Y5 156 false :: pI :: pI :: .clo 100 [] :: dz 4 (pI :: pI :: dz 43 []), []⟩
def jeC (N : Nat) (c : List Z1) (d : Int) (b : Int) (a : Unit) : Option ((List Z1)) := insG (cmp105 N) N c d b a
 
theorem jqw (N : Nat) : mK 235 ⟨⟨[.mtk 800000 Y5 156 false, pI, pI, .clo 100 []], []⟩, ⟨[.tup [], .mtk 800000 Y5 156 false], []⟩, c4A (jeC N)⟩ :=
 mO (fC (jaf N) ja) Tryz.func235 rfl N (.seq .no (.block (.loop jny (.seq .no (.seq (.block (.seq .no (.block (.loop jll .no)))) .no))))) _ (rs := [800000])
def jnV : Sh := ⟨.mtk 800000 Y5 156 false :: .dead :: pI :: pI :: .clo 100 [] :: dz 5 (pI :: dz 71 []), []⟩
def jmo : Sh := ⟨.mtk 800000 Y5 156 false :: .dead :: pI :: pI :: .clo 100 [] :: dz 5 (pI :: pI :: dz 70 []), []⟩
def jdy (N : Nat) (d : List Z1) (a : Int) (c : Int) (e : Int) (b : Unit) : Option ((List Z1)) := siftG (cmp105 N) N d a c e b
 
theorem jqE (N : Nat) : mK 286 ⟨⟨[.mtk 800000 Y5 156 false, pI, pI, pI, .clo 100 []], []⟩, ⟨[.tup [], .mtk 800000 Y5 156 false], []⟩, c5A (jdy N)⟩ :=
 mO (fC (jaf N) ja) Tryz.func286 rfl N (.seq .no (.block (.loop jnV (.block (.seq .no (.seq .no (.meet jmo .no .no))))))) _ (rs := [800000])
def jmY : Sh := ⟨.mtk 800000 Y5 156 false :: .dead :: .dead :: .clo 100 [] :: dz 4 (pI :: pI :: pI :: pI :: dz 48 []), []⟩
def jq3 : Sh := ⟨.mtk 800000 Y5 156 false :: .dead :: .dead :: .clo 100 [] :: dz 4 (pI :: pI :: .dead :: .dead :: pI :: dz 47 []), []⟩
def jaC (N : Nat) (c : List Z1) (d : Int) (b : Int) (a : Unit) : Option ((List Z1)) := heapG (cmp105 N) N c d b a
 
theorem jqz (N : Nat) : mK 236 ⟨⟨[.mtk 800000 Y5 156 false, pI, pI, .clo 100 []], []⟩, ⟨[.tup [], .mtk 800000 Y5 156 false], []⟩, c4A (jaC N)⟩ :=
 mO (fC (jqE N) ja) Tryz.func236 rfl N (.seq .no (.seq .no (.seq .no (.seq (.seq .no (.block (.loop jmY .no))) (.seq .no (.block (.loop jq3 .no))))))) _ (rs := [800000])
def jkH : Sh := ⟨.mtk 800000 Y5 156 false :: pI :: dz 6 (pI :: .box 9 0 :: .pv (.int .u64) :: pI :: dz 55 []), [(9, false, [.pv (.int .u64)])]⟩
def jmx : Sh := ⟨.mtk 800000 Y5 156 false :: pI :: dz 6 (pI :: .box 9 0 :: .pv (.int .u64) :: pI :: pI :: dz 54 []), [(9, false, [.pv (.int .u64)])]⟩
def jez (N : Nat) (c : List Z1) (d : Int) (b : Int) (a : Unit) : Option ((List Z1)) := breakG N c d b a
 
theorem jlO (N : Nat) : mK 237 ⟨⟨[.mtk 800000 Y5 156 false, pI, pI, .clo 100 []], []⟩, ⟨[.tup [], .mtk 800000 Y5 156 false], []⟩, c4A (jez N)⟩ :=
 mO (fC (jhv N) (fC (jet N) ja)) Tryz.func237 rfl N (.seq .no (.seq .no (.cond (.seq .no (.seq .no (.seq .no (.block (.loop jkH (.seq .no (.seq (.block (.seq .no (.meet jmx .no .no))) .no))))))) .no))) _ (rs := [800000])
def jcG (N : Nat) (d : List Z1) (e : Int) (b : Int) (a : Unit) (c : Int) : Option (Int × Int × (List Z1) × Int) := order2G (cmp105 N) N d e b a c
 
theorem jrN (N : Nat) : mK 330 ⟨⟨[.mtk 800000 Y5 156 false, pI, pI, .box 900003 0, .clo 100 []], [(900003, false, [pI])]⟩, ⟨[.tup [pI, pI], .mtk 800000 Y5 156 false], [(900003, false, [pI])]⟩, c5A (jcG N)⟩ :=
 mO (fC (jaf N) ja) Tryz.func330 rfl N .no _ (rs := [900003, 800000])
def jdE (N : Nat) (e : List Z1) (f : Int) (b : Int) (a : Int) (c : Unit) (d : Int) : Option (Int × (List Z1) × Int) := medianG (cmp105 N) N e f b a c d
 
theorem jfr (N : Nat) : mK 290 ⟨⟨[.mtk 800000 Y5 156 false, pI, pI, pI, .box 900004 0, .clo 100 []], [(900004, false, [pI])]⟩, ⟨[pI, .mtk 800000 Y5 156 false], [(900004, false, [pI])]⟩, c6A (jdE N)⟩ :=
 mO (fC (jrN N) ja) Tryz.func290 rfl N .no _ (rs := [900004, 800000])
def jca (N : Nat) (c : List Z1) (d : Int) (b : Unit) (a : Int) : Option (Int × (List Z1) × Int) := medianAdjacentG (cmp105 N) N c d b a
 
theorem jko (N : Nat) : mK 289 ⟨⟨[.mtk 800000 Y5 156 false, pI, .box 900002 0, .clo 100 []], [(900002, false, [pI])]⟩, ⟨[pI, .mtk 800000 Y5 156 false], [(900002, false, [pI])]⟩, c4A (jca N)⟩ :=
 mO (fC (jfr N) ja) Tryz.func289 rfl N .no _ (rs := [900002, 800000])
def jnR : Sh := ⟨.mtk 800000 Y5 156 false :: .dead :: .dead :: .clo 100 [] :: dz 7 (.box 11 0 :: pI :: pI :: pI :: dz 48 []), [(11, false, [pI])]⟩
def jrt : Sh := ⟨.mtk 800000 Y5 156 false :: dz 10 (.box 11 0 :: .dead :: pI :: dz 49 []), [(11, false, [pI])]⟩
def jjM (N : Nat) (c : List Z1) (d : Int) (b : Int) (a : Unit) : Option (Int × Int × (List Z1)) := choosePivotG (cmp105 N) N c d b a
 
theorem joO (N : Nat) : mK 238 ⟨⟨[.mtk 800000 Y5 156 false, pI, pI, .clo 100 []], []⟩, ⟨[.tup [pI, pI], .mtk 800000 Y5 156 false], []⟩, c4A (jjM N)⟩ :=
 mO (fC (jko N) (fC (jfr N) ja)) Tryz.func238 rfl N (.seq .no (.seq .no (.seq .no (.seq .no (.seq .no (.seq .no (.meet jrt (.seq .no (.cond (.meet jnR .no .no) .no)) .no))))))) _ (rs := [800000])
def jpl : Sh := ⟨.mtk 800000 Y5 156 false :: dz 7 (pI :: pI :: dz 24 []), []⟩
def jeV (N : Nat) (c : List Z1) (d : Int) (b : Int) (a : Unit) : Option ((List Z1)) := reverseRangeG N c d b a
 
theorem jma (N : Nat) : mK 239 ⟨⟨[.mtk 800000 Y5 156 false, pI, pI, .clo 100 []], []⟩, ⟨[.tup [], .mtk 800000 Y5 156 false], []⟩, c4A (jeV N)⟩ :=
 mO ja Tryz.func239 rfl N (.seq .no (.seq .no (.block (.loop jpl .no)))) _ (rs := [800000])
def jn3 : Sh := ⟨.mtk 800000 Y5 156 false :: pI :: pI :: .clo 100 [] :: dz 5 (pI :: pI :: dz 130 []), []⟩
def jsj : Sh := ⟨.mtk 800000 Y5 156 false :: pI :: pI :: .clo 100 [] :: dz 5 (pI :: pI :: pI :: dz 129 []), []⟩
def jnQ : Sh := ⟨.mtk 800000 Y5 156 false :: pI :: pI :: .clo 100 [] :: dz 5 (pI :: pI :: .dead :: pI :: dz 128 []), []⟩
def jhb (N : Nat) (c : List Z1) (d : Int) (b : Int) (a : Unit) : Option (Bool × (List Z1)) := pisG (cmp105 N) N c d b a
 
theorem jnw (N : Nat) : mK 240 ⟨⟨[.mtk 800000 Y5 156 false, pI, pI, .clo 100 []], []⟩, ⟨[pB, .mtk 800000 Y5 156 false], []⟩, c4A (jhb N)⟩ :=
 mO (fC (jaf N) ja) Tryz.func240 rfl N (.seq .no (.seq .no (.seq (.seq .no (.block (.loop jn3 (.seq .no (.seq (.block (.seq (.block (.loop jn3 .no)) (.seq .no (.seq .no (.seq .no (.meet jn3 (.seq .no (.cond (.seq .no (.block (.loop jsj .no))) .no)) (.seq .no (.cond (.seq .no (.block (.loop jnQ .no))) .no)))))))) .no))))) .no))) _ (rs := [800000])
def jnv : Sh := ⟨.mtk 800000 Y5 156 false :: pI :: .dead :: .dead :: .clo 100 [] :: dz 6 (pI :: pI :: dz 77 []), []⟩
def jbG (N : Nat) (d : List Z1) (e : Int) (b : Int) (a : Int) (c : Unit) : Option (Int × (List Z1)) := peqG (cmp105 N) N d e b a c
 
theorem jp1 (N : Nat) : mK 241 ⟨⟨[.mtk 800000 Y5 156 false, pI, pI, pI, .clo 100 []], []⟩, ⟨[pI, .mtk 800000 Y5 156 false], []⟩, c5A (jbG N)⟩ :=
 mO (fC (jaf N) ja) Tryz.func241 rfl N (.seq .no (.seq .no (.seq .no (.seq (.block (.loop jnv (.block (.seq (.block (.loop jnv .no)) (.seq (.block (.loop jnv .no)) .no))))) .no)))) _ (rs := [800000])
def jru : Sh := ⟨.mtk 800000 Y5 156 false :: pI :: .dead :: .dead :: .clo 100 [] :: dz 7 (pI :: pI :: dz 164 []), []⟩
def jcT (N : Nat) (d : List Z1) (e : Int) (b : Int) (a : Int) (c : Unit) : Option (Int × Bool × (List Z1)) := partG (cmp105 N) N d e b a c
 
theorem jrO (N : Nat) : mK 242 ⟨⟨[.mtk 800000 Y5 156 false, pI, pI, pI, .clo 100 []], []⟩, ⟨[.tup [pI, pB], .mtk 800000 Y5 156 false], []⟩, c5A (jcT N)⟩ :=
 mO (fC (jaf N) ja) Tryz.func242 rfl N (.seq .no (.seq .no (.seq .no (.seq (.block (.loop jru .no)) (.seq (.block (.loop jru .no)) (.seq .no (.seq .no (.seq .no (.seq .no (.seq (.block (.loop jru (.block (.seq (.block (.loop jru .no)) (.seq (.block (.loop jru .no)) .no))))) .no)))))))))) _ (rs := [800000])
def jmM : Sh := ⟨.mtk 800000 Y5 156 false :: pI :: pI :: pI :: .clo 100 [] :: dz 5 (pB :: pB :: dz 136 []), []⟩
def jnd : Sh := ⟨.mtk 800000 Y5 156 false :: pI :: pI :: pI :: .clo 100 [] :: dz 5 (pB :: pB :: pI :: pI :: dz 134 []), []⟩
def jmi : Sh := ⟨.mtk 800000 Y5 156 false :: pI :: pI :: pI :: .clo 100 [] :: dz 5 (pB :: pB :: pI :: pI :: pI :: dz 133 []), []⟩
def js7 : Sh := ⟨.mtk 800000 Y5 156 false :: pI :: pI :: pI :: .clo 100 [] :: dz 5 (pB :: pB :: pI :: dz 135 []), []⟩
def jK (N D : Nat) (h : List Z1) (b a limit : Int) (e : Unit) : Option ((List Z1)) := pdqG (cmp105 N) (fun d b a c => heapG (cmp105 N) N d b a c) (fun d b a f c => peqG (cmp105 N) N d b a f c) N D h b a limit e
 
def jcj (N D : Nat) : Model := ⟨⟨[.mtk 800000 Y5 156 false, pI, pI, pI, .clo 100 []], []⟩, ⟨[.tup [], .mtk 800000 Y5 156 false], []⟩, c5A (jK N D)⟩
theorem jrm (N D : Nat) (ih : mK 175 (jcj N D)) : mK 175 (jcj N (D + 1)) :=
 mO (fC ih (fC (jqw N) (fC (jqz N) (fC (jlO N) (fC (joO N) (fC (jma N) (fC (jnw N) (fC (jaf N) (fC (jp1 N) (fC (jrO N) ja)))))))))) Tryz.func175 rfl N (.seq .no (.seq .no (.block (.loop jmM (.block (.seq .no (.seq .no (.seq .no (.meet js7 .no (.seq .no (.meet jmi .no (.meet jnd .no .no)))))))))))) (jcj N (D + 1)) (rs := [800000])
theorem jix (N : Nat) : ∀ D, mK 175 (jcj N D)
 | 0 => modelOk_none ⟨_, Tryz.func175, by decide, by kernel_rfl⟩ _ (fun a => rfl)
 | D + 1 => jrm N D (jix N D)
def k_slices_SortFunc_105_m (N : Nat) (a : List Z1) (d : Unit) : Option ((List Z1)) :=
 (oB (k_math_bits_Len_m N (IntKind.u64.wrap (a.length : Int))) fun b => oB (jK N N a 0 (a.length : Int) b ()) fun c => some c)
theorem jtu (N : Nat) : mK 99 ⟨⟨[.mtk 800000 Y5 156 false, .clo 100 []], []⟩, ⟨[.tup [], .mtk 800000 Y5 156 false], []⟩, c2A (k_slices_SortFunc_105_m N)⟩ :=
 mO (fC (jda N) (fC (jix N N) ja)) Tryz.func99 rfl N .no _ (rs := [800000])
def jmK : Sh := ⟨.dead :: .dead :: .box 2 0 :: .dead :: .box 4 0 :: .box 5 0 :: dz 19 (.pv Y2 :: pI :: pI :: dz 32 []), [(2, false, [.pv (.sl .str), .pv Y16]), (4, false, [.nils, .nils]), (5, false, [.pv Y2, .tre 700501 Y5 156])]⟩
def jor : Sh := ⟨.dead :: .dead :: .box 2 0 :: .dead :: .box 4 0 :: .box 5 0 :: .dead :: .box 7 0 :: dz 17 (.pv Y2 :: pI :: pI :: dz 4 (.pv Y19 :: pI :: pI :: dz 25 [])), [(2, false, [.pv (.sl .str), .pv Y16]), (4, false, [.nils, .nils]), (5, false, [.pv Y2, .tre 700501 Y5 156]), (7, false, [pI, .pv Y19, .pv Y15])]⟩
def jnj : Sh := ⟨.dead :: .dead :: .box 2 0 :: .dead :: .box 4 0 :: .box 5 0 :: .dead :: .box 7 0 :: .dead :: .box 9 0 :: dz 15 (.pv Y2 :: pI :: pI :: dz 4 (.pv Y19 :: pI :: pI :: dz 6 (.own 600041 Y17 151 true :: pI :: pI :: dz 16 []))), [(2, false, [.pv (.sl .str), .pv Y16]), (4, false, [.nils, .nils]), (5, false, [.pv Y2, .tre 700501 Y5 156]), (7, false, [pI, .pv Y19, .pv Y15]), (9, false, [pS, pS])]⟩
def jbT (N : Nat) (c : List Z0) (c2 : List Z4) (docs : List Z2) : Option ((List Z2) × (List Z1)) :=
 (oB (jaj N c c2) fun r => bif !r then some (([] : List Z2), ([] : List Z1)) else oB (jbf N docs) fun r2 => bif !r2 then some (([] : List Z2), ([] : List Z1)) else oB (jbV N docs) fun r3 => iter (fun go (t25, t26, t27, c3, c4, s, s2) => bif decide (t27 < t26) then oB (idx t25 t27) fun e => (iter (fun go2 (t252, t262, t272, t32, t33, t34, c5, c6, s3, s4, d, d2, d3) => bif decide (t34 < t33) then oB (idx t32 t34) fun e2 => (oB (jbw N c5 c6 e2.2) fun r4 => iter (fun go3 (t253, t263, t273, t322, t332, t342, t41, t42, t43, c7, c8, s5, s6, d4, d5, d6, f, f2) => bif decide (t43 < t42) then oB (idx t41 t43) fun e3 => (oB (i_Seg_put_m N f e3.1 e3.2 d4 s5 s6) fun r5 => if fits (t43 + 1) then go3 (t253, t263, t273, t322, t332, t342, t41, t42, (t43 + 1), c7, c8, r5.1, r5.2, d4, d5, d6, f, f2) else none) else if fits (t342 + 1) then go2 (t253, t263, t273, t322, t332, (t342 + 1), c7, c8, s5, s6, d4, d5, d6) else none) N (t252, t262, t272, t32, t33, t34, r4, (r4.length : Int), (0 : Int), c5, c6, s3, s4, d, d2, d3, e2.1, e2.2)) else if fits (t272 + 1) then go (t252, t262, (t272 + 1), c5, c6, s3, s4) else none) N (t25, t26, t27, e.2.1, (e.2.1.length : Int), (0 : Int), c3, c4, s, s2, e.1, e.2.1, e.2.2)) else oB (k_slices_SortFunc_105_m N s2 ()) fun r6 => some (s, r6)) N (docs, (docs.length : Int), (0 : Int), c, c2, r3, ([] : List Z1)))
theorem jqC (N : Nat) : mK 31 ⟨⟨[.agg [.pv (.sl .str), .pv Y16], .pv Y2], []⟩, ⟨[.agg [.pv Y2, .own 1 Y5 156 false]], []⟩, c3A (jbT N)⟩ :=
 mO (fC (jdX N) (fC (jjU N) (fC (joC N) (fC (jgO N) (fC (jky N) (fC (jtu N) ja)))))) Tryz.func31 rfl N (.seq .no (.seq .no (.seq .no (.seq (.seq .no (.block (.loop jmK (.seq .no (.seq .no (.seq (.block (.seq .no (.seq .no (.block (.loop jor (.seq .no (.seq .no (.seq (.block (.seq .no (.seq .no (.block (.loop jnj .no))))) .no)))))))) .no)))))) .no)))) _ (wr := [23]) (dw := [23, 57])
def jqv : Sh := ⟨.dead :: pI :: .dead :: .dead :: .box 4 0 :: dz 6 (.pv Y2 :: pI :: pI :: dz 10 []), [(4, false, [pI, .nils, .nils])]⟩
def i_Seg_doc_m (N : Nat) (d : (List Z2) × (List Z1)) (k : Int) : Option (Int × Z12 × Z7 × Bool) :=
 (iter (fun j (f, c, e, a, h) => bif decide (a < e) then oB (idx c a) fun b => (bif decide (b.1 = f) then some (b.1, b.2.1, b.2.2, true) else if fits (a + 1) then j (f, c, e, (a + 1), h) else none) else some (0, ([] : Z14), ([] : Z9), false)) N (k, d.1, (d.1.length : Int), (0 : Int), (0 : Int)))
theorem jlU (N : Nat) : mK 159 ⟨⟨[.ptr Y1, pI], []⟩, ⟨[.tup [.agg [pI, .pv Y19, .pv Y15], pB]], []⟩, c2A (i_Seg_doc_m N)⟩ :=
 mO ja Tryz.func159 rfl N (.seq .no (.seq (.seq .no (.block (.loop jqv .no))) .no)) _
def jtB : Sh := ⟨.pv Y21 :: .pv Y21 :: dz 10 (pI :: pI :: dz 12 []), []⟩
def jbX (N : Nat) (b : List Int) (c : List Int) : Z8 :=
 (bif !decide ((b.length : Int) = (c.length : Int)) then some false else iter (fun j (f, e, d, a) => bif decide (a < d) then oB (idx f a) fun k => (oB (idx e a) fun i => bif !decide (k = i) then some false else if fits (a + 1) then j (f, e, d, (a + 1)) else none) else some true) N (b, c, (b.length : Int), (0 : Int)))
theorem jqi (N : Nat) : mK 250 ⟨⟨[.pv Y21, .pv Y21], []⟩, ⟨[pB], []⟩, c2A (jbX N)⟩ :=
 mO ja Tryz.func250 rfl N (.seq .no (.seq .no (.seq (.seq .no (.block (.loop jtB .no))) .no))) _
def jcp (N : Nat) (e : Int) (d : List Int) (b : Int) (c : List Int) : Z8 :=
 (bif decide (e = b) then oB (jbX N d c) fun a => (some a) else some false)
theorem jth (N : Nat) : mK 187 ⟨⟨[.agg [pI, .pv Y21], .agg [pI, .pv Y21]], []⟩, ⟨[pB], []⟩, c4A (jcp N)⟩ :=
 mO (fC (jqi N) ja) Tryz.func187 rfl N .no _
def jlX : Sh := ⟨.dead :: .pv Y11 :: .clo 187 [] :: dz 12 (.pv Y11 :: pI :: pI :: dz 14 []), []⟩
def jb6 (N : Nat) (b : Z3) (c : Z3) (m : Unit) : Z8 :=
 (bif !decide ((b.length : Int) = (c.length : Int)) then some false else iter (fun k (f, n, i, d, a) => bif decide (a < d) then oB (idx i a) fun h => (oB (idx f a) fun e => oB (jcp N h.1 h.2 e.1 e.2) fun l => bif !l then some false else if fits (a + 1) then k (f, (), i, d, (a + 1)) else none) else some true) N (c, (), b, (b.length : Int), (0 : Int)))
theorem jnG (N : Nat) : mK 186 ⟨⟨[.pv Y11, .pv Y11, .clo 187 []], []⟩, ⟨[pB], []⟩, c3A (jb6 N)⟩ :=
 mO (fC (jth N) ja) Tryz.func186 rfl N (.seq .no (.seq .no (.seq (.seq .no (.block (.loop jlX .no))) .no))) _
def jcz (N : Nat) (h : List UInt8) (f : List UInt8) (b : Z3) (a : List UInt8) (c : List UInt8) (d : Z3) : Z8 :=
 (bif decide (h = a) then bif decide (f = c) then oB (jb6 N b d ()) fun e => (some e) else (some false) else some false)
theorem jp4 (N : Nat) : mK 115 ⟨⟨[.agg [pS, pS, .pv Y11], .agg [pS, pS, .pv Y11]], []⟩, ⟨[pB], []⟩, c6A (jcz N)⟩ :=
 mO (fC (jnG N) ja) Tryz.func115 rfl N .no _
def jlD : Sh := ⟨.dead :: .pv Y4 :: .clo 115 [] :: dz 12 (.pv Y4 :: pI :: pI :: dz 14 []), []⟩
def jcn (N : Nat) (c : List Z1) (e : List Z1) (m : Unit) : Z8 :=
 (bif !decide ((c.length : Int) = (e.length : Int)) then some false else iter (fun k (h, n, i, f, a) => bif decide (a < f) then oB (idx i a) fun d => (oB (idx h a) fun b => oB (jcz N d.1 d.2.1 d.2.2 b.1 b.2.1 b.2.2) fun l => bif !l then some false else if fits (a + 1) then k (h, (), i, f, (a + 1)) else none) else some true) N (e, (), c, (c.length : Int), (0 : Int)))
theorem jsa (N : Nat) : mK 114 ⟨⟨[.pv Y4, .pv Y4, .clo 115 []], []⟩, ⟨[pB], []⟩, c3A (jcn N)⟩ :=
 mO (fC (jp4 N) ja) Tryz.func114 rfl N (.seq .no (.seq .no (.seq (.seq .no (.block (.loop jlD .no))) .no))) _
def i_SegOk_m (N : Nat) (a : List Z0) (c : List Z4) (b : List Z2) (d : List Z1) : Z8 :=
 (oB (jaj N a c) fun h => bif !h then some false else oB (jbf N b) fun i => bif !i then some false else oB (jbT N a c b) fun f => oB (jcn N f.2 d ()) fun e => some e)
theorem joa (N : Nat) : mK 37 ⟨⟨[.agg [.pv (.sl .str), .pv Y16], .agg [.pv Y2, .pv Y4]], []⟩, ⟨[pB], []⟩, c4A (i_SegOk_m N)⟩ :=
 mO (fC (jdX N) (fC (jjU N) (fC (jqC N) (fC (jsa N) ja)))) Tryz.func37 rfl N .no _
def jyc (N : Nat) (c : List Z0) (f : List Z4) (a : List UInt8) : Option (Z0) :=
 (oB (jO N a) fun d => bif !d then some ([] : List UInt8) else oB (jbw N c f a) fun b => bif decide ((b.length : Int) = 0) then some ([] : List UInt8) else oB (idx b 0) fun e => some e.1)
theorem jBn (N : Nat) : mK 224 ⟨⟨[.agg [.pv (.sl .str), .pv Y16], pS], []⟩, ⟨[pS], []⟩, c3A (jyc N)⟩ :=
 mO (fC (jcM N) (fC (jgO N) ja)) Tryz.func224 rfl N .no _
def jnu : Sh := ⟨.dead :: pS :: pS :: dz 9 (.pv Y4 :: pI :: pI :: dz 16 []), []⟩
def i_Seg_posts_m (N : Nat) (h : (List Z2) × (List Z1)) (k : List UInt8) (l : List UInt8) : Option (Z15) :=
 (iter (fun i (d, c, b, e, a) => bif decide (a < e) then oB (idx b a) fun f => (bif decide (f.1 = d) then bif decide (f.2.1 = c) then some f.2.2 else (if fits (a + 1) then i (d, c, b, e, (a + 1)) else none) else if fits (a + 1) then i (d, c, b, e, (a + 1)) else none) else some ([] : Z3)) N (k, l, h.2, (h.2.length : Int), (0 : Int)))
theorem jcq (N : Nat) : mK 280 ⟨⟨[.ptr Y1, pS, pS], []⟩, ⟨[.pv Y11], []⟩, c3A (i_Seg_posts_m N)⟩ :=
 mO ja Tryz.func280 rfl N (.seq .no (.seq (.seq .no (.block (.loop jnu .no))) .no)) _
def jni : Sh := ⟨dz 3 (pI :: dz 12 (.pv Y11 :: pI :: pI :: dz 10 [])), []⟩
def i_scorer_places_m (N : Nat) (m : ((List Z0) × (List Z4)) × (List Z2) × (List Z1)) (i : List UInt8) (k : List UInt8) (l : Int) : Option ((List Int)) :=
 (oB (i_Seg_posts_m N m.2 i k) fun e => iter (fun j (c, b, d, a) => bif decide (a < d) then oB (idx b a) fun f => (bif decide (f.1 = c) then some f.2 else if fits (a + 1) then j (c, b, d, (a + 1)) else none) else some ([] : List Int)) N (l, e, (e.length : Int), (0 : Int)))
theorem jrB (N : Nat) : mK 229 ⟨⟨[.ptr Y0, pS, pS, pI], []⟩, ⟨[.pv Y21], []⟩, c4A (i_scorer_places_m N)⟩ :=
 mO (fC (jcq N) ja) Tryz.func229 rfl N (.seq .no (.seq (.seq .no (.block (.loop jni .no))) .no)) _
def jmV : Sh := ⟨.dead :: pS :: dz 8 (.pv Y19 :: pI :: pI :: dz 10 []), []⟩
def i_DocField_m (N : Nat) (l : Int) (b : Z14) (k : Z9) (m : List UInt8) : Option (Z0) :=
 (oB (jbx N l b k) fun j => bif j then iter (fun i (d, e, c, a) => bif decide (a < c) then oB (idx e a) fun f => (bif decide (f.1 = d) then some f.2 else if fits (a + 1) then i (d, e, c, (a + 1)) else none) else some ([] : List UInt8)) N (m, b, (b.length : Int), (0 : Int)) else some ([] : List UInt8))
theorem jqd (N : Nat) : mK 322 ⟨⟨[.agg [pI, .pv Y19, .pv Y15], pS], []⟩, ⟨[pS], []⟩, c4A (i_DocField_m N)⟩ :=
 mO (fC (jh0 N) ja) Tryz.func322 rfl N (.seq .no (.seq (.seq .no (.cond (.seq .no (.block (.loop jmV .no))) .no)) .no)) _
def i_Seg_long_m (N : Nat) (c : (List Z2) × (List Z1)) (b : List Z0) (i : List Z4) (e : List UInt8) (f : Int) : Z13 :=
 (oB (i_Seg_doc_m N c f) fun a => bif !a.2.2.2 then some 0 else oB (i_DocField_m N a.1 a.2.1 a.2.2.1 e) fun h => oB (jbw N b i h) fun d => some (d.length : Int))
theorem jhs (N : Nat) : mK 278 ⟨⟨[.ptr Y1, .agg [.pv (.sl .str), .pv Y16], pS, pI], []⟩, ⟨[pI], []⟩, c5A (i_Seg_long_m N)⟩ :=
 mO (fC (jlU N) (fC (jqd N) (fC (jgO N) ja))) Tryz.func278 rfl N .no _
def joq : Sh := ⟨pI :: pI :: dz 13 [], []⟩
def ja2 (N : Nat) (f : Int) (c : Int) : Z13 :=
 (iter (fun e (a, b) => bif !decide (b = 0) then if b ≠ 0 then e (b, (a.tmod b)) else none else if fits (0 - a) then some (if (0 - a) > a then 0 - a else a) else none) N (f, c))
theorem jiQ (N : Nat) : mK 342 ⟨⟨[pI, pI], []⟩, ⟨[pI], []⟩, c2A (ja2 N)⟩ :=
 mO ja Tryz.func342 rfl N (.seq .no (.seq (.block (.loop joq .no)) .no)) _
def jbk (N : Nat) (a : Int) (b : Int) : Z8 :=
 (oB (jm N a (-1000000000) 1000000000) fun e => bif e then oB (jm N b 1 1000000000) fun c => (bif c then oB (ja2 N a b) fun d => (some (decide (d = 1))) else some false) else some false)
theorem jhS (N : Nat) : mK 324 ⟨⟨[.agg [pI, pI]], []⟩, ⟨[pB], []⟩, c2A (jbk N)⟩ :=
 mO (fC (jY N) (fC (jiQ N) ja)) Tryz.func324 rfl N .no _
def jk5 : Sh := ⟨pI :: pI :: .dead :: .dead :: .box 4 0 :: dz 24 [], [(4, false, [pI, pI])]⟩
def jcl (N : Nat) (e : Int) (b : Int) : Option (Int × Int × Bool) :=
 (meet (fun (h : Int × Int × Int × Int) => match h with | (d, c, j, k) => oB (ja2 N d c) fun a => if a ≠ 0 then if fits (d.tdiv a) then if a ≠ 0 then if fits (c.tdiv a) then oB (jbk N (d.tdiv a) (c.tdiv a)) fun i => (bif !i then some (0, 1, false) else some ((d.tdiv a), (c.tdiv a), true)) else none else none else none else none) fun f => bif decide (b < 0) then if fits (0 - e) then if fits (0 - b) then f ((0 - e), (0 - b), 0, 0) else none else none else f (e, b, 0, 0))
theorem jlG (N : Nat) : mK 341 ⟨⟨[pI, pI], []⟩, ⟨[.tup [.agg [pI, pI], pB]], []⟩, c2A (jcl N)⟩ :=
 mO (fC (jiQ N) (fC (jhS N) ja)) Tryz.func341 rfl N (.seq .no (.meet jk5 .no .no)) _
def jb7 (N : Nat) (c : Int) (a : Int) : Option (Int × Int × Bool) :=
 (oB (jm N c (-1000000000) 1000000000) fun d => bif !d then some (0, 1, false) else oB (jm N a (-1000000000) 1000000000) fun e => bif !e then some (0, 1, false) else bif decide (a = 0) then some (0, 1, false) else oB (jcl N c a) fun b => some (b.1, b.2.1, b.2.2))
theorem jpX (N : Nat) : mK 323 ⟨⟨[pI, pI], []⟩, ⟨[.tup [.agg [pI, pI], pB]], []⟩, c2A (jb7 N)⟩ :=
 mO (fC (jY N) (fC (jlG N) ja)) Tryz.func323 rfl N .no _
def jtO : Sh := ⟨pI :: pI :: pI :: pI :: pI :: dz 5 (.box 10 0 :: .dead :: pI :: dz 53 []), [(10, false, [pI, pI])]⟩
def i_TermScore_m (N : Nat) (f : Int) (i : Int) (l : Int) (j : Int) (m : Int) : Option (Int × Int × Bool) :=
 (oB (jm N f 1 80) fun v => bif !v then some (0, 1, false) else oB (jm N i f 80) fun w => bif !w then some (0, 1, false) else oB (jm N j 1 16) fun o => bif !o then some (0, 1, false) else oB (jm N m 1 j) fun r => bif !r then some (0, 1, false) else oB (jm N l i 1280) fun n => bif !n then some (0, 1, false) else iter (fun q (b, c, e, d, k, a, t, u) => if fits (a + 1) then if 0 ≤ (a + 1) then if fits (k * 2 ^ (min (a + 1).toNat (IntKind.bits .i64))) then bif decide ((k * 2 ^ (min (a + 1).toNat (IntKind.bits .i64))) ≤ d) then if fits (a + 1) then q (b, c, e, d, k, (a + 1), t, u) else none else (if fits (22 * b) then if fits (a + 1) then if fits ((22 * b) * (a + 1)) then if fits (10 * b) then if fits ((10 * b) + 3) then if fits (9 * c) then if fits ((9 * c) * d) then if e ≠ 0 then if fits (((9 * c) * d).tdiv e) then if fits (((10 * b) + 3) + (((9 * c) * d).tdiv e)) then oB (jb7 N ((22 * b) * (a + 1)) (((10 * b) + 3) + (((9 * c) * d).tdiv e))) fun h => (some (h.1, h.2.1, h.2.2)) else none else none else none else none else none else none else none else none else none else none) else none else none else none) N (f, i, l, j, m, (0 : Int), (0 : Int), (0 : Int)))
theorem jgE (N : Nat) : mK 279 ⟨⟨[pI, pI, pI, pI, pI], []⟩, ⟨[.tup [.agg [pI, pI], pB]], []⟩, c5A (i_TermScore_m N)⟩ :=
 mO (fC (jY N) (fC (jpX N) ja)) Tryz.func279 rfl N (.seq .no (.seq .no (.seq .no (.seq (.block (.loop jtO .no)) .no)))) _
def i_RatFloor_m (N : Nat) (b : Int) (a : Int) (c : Int) : Z13 :=
 (oB (jbk N b a) fun e => bif !e then some 0 else oB (jm N c 1 1000) fun d => bif !d then some 0 else if fits (b * c) then bif decide ((0 : Int) ≤ (b * c)) then if a ≠ 0 then if fits ((b * c).tdiv a) then some ((b * c).tdiv a) else none else none else (if fits (0 - (b * c)) then if fits ((0 - (b * c)) + a) then if fits (((0 - (b * c)) + a) - 1) then if a ≠ 0 then if fits ((((0 - (b * c)) + a) - 1).tdiv a) then if fits (0 - ((((0 - (b * c)) + a) - 1).tdiv a)) then some (0 - ((((0 - (b * c)) + a) - 1).tdiv a)) else none else none else none else none else none else none) else none)
theorem jiY (N : Nat) : mK 281 ⟨⟨[.agg [pI, pI], pI], []⟩, ⟨[pI], []⟩, c3A (i_RatFloor_m N)⟩ :=
 mO (fC (jhS N) (fC (jY N) ja)) Tryz.func281 rfl N .no _
def jlZ : Sh := ⟨.ptr Y0 :: pS :: pS :: pI :: dz 5 (.pv Y21 :: pI :: dz 16 (.pv Y2 :: pI :: pI :: dz 49 [])), []⟩
def i_scorer_points_m (N : Nat) (c : ((List Z0) × (List Z4)) × (List Z2) × (List Z1)) (o : List UInt8) (j : List UInt8) (k : Int) : Z13 :=
 (oB (i_scorer_places_m N c o j k) fun p => bif decide ((p.length : Int) = 0) then some 0 else iter (fun u (a, d, n, i, m, e, f, l, b) => bif decide (b < l) then oB (idx f b) fun w => (oB (i_Seg_long_m N a.2 a.1.1 a.1.2 d w.1) fun q => if fits (e + q) then if fits (b + 1) then u (a, d, n, i, m, (e + q), f, l, (b + 1)) else none else none) else oB (i_Seg_long_m N a.2 a.1.1 a.1.2 d i) fun r => oB (i_Seg_posts_m N a.2 d n) fun x => oB (i_TermScore_m N (m.length : Int) r e (a.2.1.length : Int) (x.length : Int)) fun h => oB (i_RatFloor_m N h.1 h.2.1 1000) fun v => some v) N (c, o, j, k, p, (0 : Int), c.2.1, (c.2.1.length : Int), (0 : Int)))
theorem jsD (N : Nat) : mK 223 ⟨⟨[.ptr Y0, pS, pS, pI], []⟩, ⟨[pI], []⟩, c4A (i_scorer_points_m N)⟩ :=
 mO (fC (jrB N) (fC (jhs N) (fC (jcq N) (fC (jgE N) (fC (jiY N) ja))))) Tryz.func223 rfl N (.seq .no (.seq .no (.seq .no (.seq .no (.seq (.seq .no (.block (.loop jlZ .no))) .no))))) _
def jyu (N : Nat) (b : List Z0) (a : List UInt8) : Option (Z0) := jxR b a
 
def jBB (N : Nat) : Model := ⟨⟨[.pv (.sl .str), pS], []⟩, ⟨[pS], []⟩, c2A (jyu N)⟩
theorem jBE (N : Nat) : mK 282 (jBB N) := jBz
def jDT : Sh := ⟨.pv Y21 :: dz 4 (.pv Y21 :: pI :: pI :: dz 24 []), []⟩
def jx1 (N : Nat) (c : List Int) : Z8 :=
 (iter (fun f (b, e, d, a) => bif decide (a < d) then oB (idx e a) fun h => (oB (jm N h 0 999999999) fun k => bif !k then some false else bif decide ((0 : Int) < a) then if fits (a - 1) then oB (idx b (a - 1)) fun j => (bif decide (h ≤ j) then some false else if fits (a + 1) then f (b, e, d, (a + 1)) else none) else none else if fits (a + 1) then f (b, e, d, (a + 1)) else none) else some (decide ((b.length : Int) ≤ 60))) N (c, c, (c.length : Int), (0 : Int)))
theorem jAN (N : Nat) : mK 120 ⟨⟨[.pv Y21], []⟩, ⟨[pB], []⟩, c1A (jx1 N)⟩ :=
 mO (fC (jY N) ja) Tryz.func120 rfl N (.seq .no (.seq (.seq .no (.block (.loop jDT .no))) .no)) _
def jBY : Sh := ⟨.pv (.sl Y21) :: dz 4 (.pv (.sl Y21) :: pI :: pI :: dz 10 []), []⟩
def jyD (N : Nat) (b : List (List Int)) : Z8 :=
 (iter (fun h (c, e, d, a) => bif decide (a < d) then oB (idx e a) fun j => (oB (jx1 N j) fun i => bif !i then some false else if fits (a + 1) then h (c, e, d, (a + 1)) else none) else some (decide ((c.length : Int) ≤ 6))) N (b, b, (b.length : Int), (0 : Int)))
theorem jD9 (N : Nat) : mK 345 ⟨⟨[.pv (.sl Y21)], []⟩, ⟨[pB], []⟩, c1A (jyD N)⟩ :=
 mO (fC (jAN N) ja) Tryz.func345 rfl N (.seq .no (.seq (.seq .no (.block (.loop jBY .no))) .no)) _
def jyK (N : Nat) (a : List (List Int)) : Z8 :=
 (bif decide ((0 : Int) < (a.length : Int)) then oB (jyD N a) fun b => (some b) else some false)
theorem jD6 (N : Nat) : mK 328 ⟨⟨[.pv (.sl Y21)], []⟩, ⟨[pB], []⟩, c1A (jyK N)⟩ :=
 mO (fC (jD9 N) ja) Tryz.func328 rfl N .no _
def jxH (N : Nat) (a : Int) : Z8 :=
 (some (!decide (a = a)))
theorem joK (N : Nat) : mK 267 ⟨⟨[pI], []⟩, ⟨[pB], []⟩, c1A (jxH N)⟩ :=
 mO ja Tryz.func267 rfl N .no _
def jye (N : Nat) (b : Int) (a : Int) : Z8 :=
 (oB (jxH N b) fun c => bif c then oB (jxH N a) fun d => (bif !d then some true else some (decide (b < a))) else some (decide (b < a)))
theorem jA5 (N : Nat) : mK 258 ⟨⟨[pI, pI], []⟩, ⟨[pB], []⟩, c2A (jye N)⟩ :=
 mO (fC (joK N) ja) Tryz.func258 rfl N .no _
def jxW (N : Nat) (a : Int) : Z8 :=
 (some (!decide (a = a)))
theorem jCp (N : Nat) : mK 354 ⟨⟨[pI], []⟩, ⟨[pB], []⟩, c1A (jxW N)⟩ :=
 mO ja Tryz.func354 rfl N .no _
def jB3 : Sh := ⟨.pv Y21 :: pI :: dz 4 (pI :: pI :: pI :: dz 45 []), []⟩
def jyA (N : Nat) (f : List Int) (l : Int) : Option (Int × Bool) :=
 (iter (fun h (c, d, e, a, b) => bif decide (a < b) then if fits (a + b) then if 0 ≤ (1 : Int) then oB (idx c (IntKind.i64.wrap ((IntKind.u64.wrap (a + b)).fdiv (2 ^ (min (1 : Int).toNat (IntKind.bits .u64)))))) fun o => (oB (jye N o d) fun m => bif m then if fits ((IntKind.i64.wrap ((IntKind.u64.wrap (a + b)).fdiv (2 ^ (min (1 : Int).toNat (IntKind.bits .u64))))) + 1) then h (c, d, e, ((IntKind.i64.wrap ((IntKind.u64.wrap (a + b)).fdiv (2 ^ (min (1 : Int).toNat (IntKind.bits .u64))))) + 1), b) else none else h (c, d, e, a, (IntKind.i64.wrap ((IntKind.u64.wrap (a + b)).fdiv (2 ^ (min (1 : Int).toNat (IntKind.bits .u64))))))) else none else none else bif decide (a < e) then oB (idx c a) fun k => (bif decide (k = d) then some (a, true) else oB (idx c a) fun p => oB (jxW N p) fun n => bif n then oB (jxW N d) fun i => (some (a, i)) else some (a, false)) else some (a, false)) N (f, l, (f.length : Int), (0 : Int), (f.length : Int)))
theorem jDL (N : Nat) : mK 346 ⟨⟨[.pv Y21, pI], []⟩, ⟨[.tup [pI, pB]], []⟩, c2A (jyA N)⟩ :=
 mO (fC (jA5 N) (fC (jCp N) ja)) Tryz.func346 rfl N (.seq .no (.seq .no (.seq .no (.seq (.block (.loop jB3 .no)) .no)))) _
def jys (N : Nat) (a : List Int) (c : Int) : Option (Int × Bool) :=
 (oB (jyA N a c) fun b => bif decide (b.1 = (a.length : Int)) then some (0, false) else oB (idx a b.1) fun d => some (d, true))
theorem jAO (N : Nat) : mK 329 ⟨⟨[.pv Y21, pI], []⟩, ⟨[.tup [pI, pB]], []⟩, c2A (jys N)⟩ :=
 mO (fC (jDL N) ja) Tryz.func329 rfl N .no _
def jBS : Sh := ⟨.pv (.sl Y21) :: pI :: dz 3 (.own 600005 tI 3 true :: dz 20 (.pv Y21 :: pI :: pI :: dz 42 [])), []⟩
def jDv : Sh := ⟨.pv (.sl Y21) :: pI :: dz 3 (.own 600005 tI 3 true :: .dead :: pI :: pI :: pB :: dz 16 (.pv Y21 :: pI :: pI :: dz 5 (.pv (.sl Y21) :: pI :: pI :: dz 34 []))), []⟩
def jyw (N : Nat) (o : List (List Int)) (y : Int) : Option ((List Int)) :=
 (oB (jyK N o) fun D => bif !D then some ([] : List Int) else oB (jm N y 0 5) fun E => bif !E then some ([] : List Int) else oB (idx o 0) fun z => iter (fun n (j, C, x, w, u, q) => bif decide (q < u) then oB (idx w q) fun v => (oB (cut j 1 (j.length : Int)) fun t => iter (fun B (a, d, e, b, r, A, i, h, c, l, p, f) => bif decide (f < p) then oB (idx l f) fun G => (if fits (r + 1) then oB (jys N G (r + 1)) fun k => (bif A then if fits (f + 1) then B (a, d, e, b, k.1, k.2, i, h, c, l, p, (f + 1)) else none else if fits (f + 1) then B (a, d, e, b, k.1, false, i, h, c, l, p, (f + 1)) else none) else none) else bif A then if fits (b + (a.length : Int)) then if fits ((b + (a.length : Int)) - 1) then if fits (((b + (a.length : Int)) - 1) + d) then bif decide (r ≤ (((b + (a.length : Int)) - 1) + d)) then if room e.length ([b] : List Int).length 8 then if fits (c + 1) then n (a, d, (e ++ ([b] : List Int)), i, h, (c + 1)) else none else none else (if fits (c + 1) then n (a, d, e, i, h, (c + 1)) else none) else none else none else none else if fits (c + 1) then n (a, d, e, i, h, (c + 1)) else none) N (j, C, x, v, v, true, w, u, q, t, (t.length : Int), (0 : Int))) else some x) N (o, y, ([] : List Int), z, (z.length : Int), (0 : Int)))
theorem jCX (N : Nat) : mK 283 ⟨⟨[.pv (.sl Y21), pI], []⟩, ⟨[.own 1 tI 3 true], []⟩, c2A (jyw N)⟩ :=
 mO (fC (jD6 N) (fC (jY N) (fC (jAO N) ja))) Tryz.func283 rfl N (.seq .no (.seq .no (.seq .no (.seq (.seq .no (.block (.loop jBS (.seq .no (.seq .no (.seq (.block (.seq .no (.seq .no (.seq (.seq .no (.block (.loop jDv .no))) .no)))) .no)))))) .no)))) _
def jCk : Sh := ⟨.ptr Y0 :: dz 3 (.box 4 0 :: .box 5 0 :: .dead :: .own 600007 Y17 151 true :: .own 600008 Y21 66 true :: pI :: dz 18 (.pv Y15 :: pI :: pI :: dz 59 [])), [(4, false, [pI, pS, .pv (.sl .str), pI, pI, .pv (.sl .q)]), (5, false, [pI, .pv Y19, .pv Y15])]⟩
def jDK : Sh := ⟨.ptr Y0 :: dz 3 (.box 4 0 :: .box 5 0 :: .dead :: .own 600007 Y17 151 true :: .own 600008 Y21 66 true :: pI :: pI :: .box 11 0 :: .own 600012 tI 3 true :: dz 15 (.pv Y15 :: pI :: pI :: dz 12 (.pv Y21 :: pI :: pI :: dz 44 []))), [(4, false, [pI, pS, .pv (.sl .str), pI, pI, .pv (.sl .q)]), (5, false, [pI, .pv Y19, .pv Y15]), (11, false, [pS, pI])]⟩
def jyB (N : Nat) (x : ((List Z0) × (List Z4)) × (List Z2) × (List Z1)) (q : Int) (q2 : List UInt8) (q3 : List Z0) (q4 : Int) (q5 : Int) (q6 : List DQ) (d : Int) (d2 : Z14) (d3 : Z9) : Z13 :=
 (oB (jyu N q3 ([32] : List UInt8)) fun r => oB (jbw N x.1.1 x.1.2 r) fun r2 => bif decide ((r2.length : Int) = 0) then some 0 else iter (fun go (x2, terms, lists, all, t28, t29, t30, q7, q8, q9, q10, q11, q12, d4, d5, d6) => bif decide (t30 < t29) then oB (idx t28 t30) fun e => (oB (i_scorer_places_m N x2 q8 e.1 d4) fun r3 => iter (fun go2 (x3, terms2, lists2, all2, i, list, t282, t292, t302, t43, t44, t45, q13, q14, q15, q16, q17, q18, d7, d8, d9, t, t2) => bif decide (t45 < t44) then oB (idx t43 t45) fun e2 => (oB (idx terms2 0) fun e3 => if fits (t2 - e3.2) then if fits ((t2 - e3.2) - i) then if fits (e2 - ((t2 - e3.2) - i)) then bif decide ((0 : Int) ≤ (e2 - ((t2 - e3.2) - i))) then if room list.length ([(e2 - ((t2 - e3.2) - i))] : List Int).length 8 then if fits (t45 + 1) then go2 (x3, terms2, lists2, all2, i, (list ++ ([(e2 - ((t2 - e3.2) - i))] : List Int)), t282, t292, t302, t43, t44, (t45 + 1), q13, q14, q15, q16, q17, q18, d7, d8, d9, t, t2) else none else none else (if fits (t45 + 1) then go2 (x3, terms2, lists2, all2, i, list, t282, t292, t302, t43, t44, (t45 + 1), q13, q14, q15, q16, q17, q18, d7, d8, d9, t, t2) else none) else none else none else none) else if room lists2.length ([list] : List (List Int)).length 24 then oB (i_scorer_points_m N x3 q14 t d7) fun r4 => (if fits (all2 + r4) then if fits (t302 + 1) then go (x3, terms2, (lists2 ++ ([list] : List (List Int))), (all2 + r4), t282, t292, (t302 + 1), q13, q14, q15, q16, q17, q18, d7, d8, d9) else none else none) else none) N (x2, terms, lists, all, t30, ([] : List Int), t28, t29, t30, r3, (r3.length : Int), (0 : Int), q7, q8, q9, q10, q11, q12, d4, d5, d6, e.1, e.2)) else oB (jyw N lists q10) fun r5 => if fits ((if (r5.length : Int) < 3 then (r5.length : Int) else 3) * all) then some ((if (r5.length : Int) < 3 then (r5.length : Int) else 3) * all) else none) N (x, r2, ([] : List (List Int)), (0 : Int), r2, (r2.length : Int), (0 : Int), q, q2, q3, q4, q5, q6, d, d2, d3))
theorem jDC (N : Nat) : mK 225 ⟨⟨[.ptr Y0, .agg [pI, pS, .pv (.sl .str), pI, pI, .pv (.sl .q)], .agg [pI, .pv Y19, .pv Y15]], []⟩, ⟨[pI], []⟩, c10A (jyB N)⟩ :=
 mO (fC (jBE N) (fC (jgO N) (fC (jrB N) (fC (jsD N) (fC (jCX N) ja))))) Tryz.func225 rfl N (.seq .no (.seq .no (.seq .no (.seq .no (.seq .no (.seq (.seq .no (.block (.loop jCk (.seq .no (.seq .no (.seq (.block (.seq .no (.seq .no (.seq (.seq .no (.block (.loop jDK .no))) .no)))) .no)))))) .no)))))) _
def jtE : Sh := ⟨.dead :: pS :: dz 3 (.own 600005 .str 9 true :: dz 6 (.pv Y4 :: pI :: pI :: dz 14 [])), []⟩
def i_Seg_terms_m (N : Nat) (h : (List Z2) × (List Z1)) (k : List UInt8) : Option ((List Z0)) :=
 (iter (fun i (d, b, c, e, a) => bif decide (a < e) then oB (idx c a) fun f => (bif decide (f.1 = d) then if room b.length ([f.2.1] : List Z0).length 16 then if fits (a + 1) then i (d, (b ++ ([f.2.1] : List Z0)), c, e, (a + 1)) else none else none else if fits (a + 1) then i (d, b, c, e, (a + 1)) else none) else some b) N (k, ([] : List Z0), h.2, (h.2.length : Int), (0 : Int)))
theorem jln (N : Nat) : mK 226 ⟨⟨[.ptr Y1, pS], []⟩, ⟨[.own 1 .str 9 true], []⟩, c2A (i_Seg_terms_m N)⟩ :=
 mO ja Tryz.func226 rfl N (.seq .no (.seq .no (.seq (.seq .no (.block (.loop jtE .no))) .no))) _
def jDE : Sh := ⟨pS :: pS :: dz 3 (.mtk 600005 tI 3 true :: dz 18 (pI :: pI :: dz 62 [])), []⟩
def jBC : Sh := ⟨pS :: pS :: dz 3 (.mtk 600005 tI 3 true :: .dead :: pI :: dz 80 []), []⟩
def jCv : Sh := ⟨pS :: pS :: dz 3 (.mtk 600005 tI 3 true :: .dead :: pI :: pI :: pI :: dz 78 []), []⟩
def jAI : Sh := ⟨pS :: pS :: dz 3 (.mtk 600005 tI 3 true :: .dead :: pI :: .dead :: pI :: pI :: dz 77 []), []⟩
def jAQ : Sh := ⟨pS :: pS :: dz 3 (.mtk 22 tI 3 true :: dz 82 []), []⟩
def jDZ : Sh := ⟨pS :: pS :: dz 86 [], []⟩
def i_NearFar_m (N : Nat) (a : List UInt8) (b : List UInt8) : Z13 :=
 (meet (fun (g : Z0 × Z0) => match g with | (a2, b2) => meet (fun (g : Z0 × Z0 × (List Int)) => match g with | (a3, b3, row) => iter (fun go (a4, b4, row2, t24, t25) => bif decide (t25 < t24) then if 0 ≤ t25 ∧ t25 < (row2.length : Int) then oB (row2[t25.toNat]?) fun e => (if fits (t25 + 1) then go (a4, b4, (row2.set t25.toNat t25), t24, (t25 + 1)) else none) else none else iter (fun go2 (a5, b5, row3, i) => bif decide (i ≤ (a5.length : Int)) then if 0 ≤ (0 : Int) ∧ (0 : Int) < (row3.length : Int) then oB (row3[(0 : Int).toNat]?) fun e2 => (if 0 ≤ (0 : Int) ∧ (0 : Int) < (row3.length : Int) then oB (row3[(0 : Int).toNat]?) fun e3 => (iter (fun go3 (a6, b6, row4, i2, corner, j) => bif decide (j ≤ (b6.length : Int)) then meet (fun (g : Z17) => match g with | (a7, b7, row5, i3, j2, cost) => if 0 ≤ j2 ∧ j2 < (row5.length : Int) then oB (row5[j2.toNat]?) fun e4 => (if 0 ≤ j2 ∧ j2 < (row5.length : Int) then oB (row5[j2.toNat]?) fun e5 => (if fits (e5 + 1) then if fits (j2 - 1) then if 0 ≤ (j2 - 1) ∧ (j2 - 1) < (row5.length : Int) then oB (row5[(j2 - 1).toNat]?) fun e6 => (if fits (e6 + 1) then if 0 ≤ j2 ∧ j2 < (row5.length : Int) then oB (row5[j2.toNat]?) fun e7 => (if fits (j2 + 1) then go3 (a7, b7, (row5.set j2.toNat (if (e6 + 1) < (if (e5 + 1) < cost then e5 + 1 else cost) then e6 + 1 else if (e5 + 1) < cost then e5 + 1 else cost)), i3, e4, (j2 + 1)) else none) else none else none) else none else none else none) else none) else none) fun J3 => (if fits (i2 - 1) then oB (idx a6 (i2 - 1)) fun c => (if fits (j - 1) then oB (idx b6 (j - 1)) fun c2 => (bif !decide ((c.toNat : Int) = (c2.toNat : Int)) then if fits (corner + 1) then J3 (a6, b6, row4, i2, j, (corner + 1)) else none else J3 (a6, b6, row4, i2, j, corner)) else none) else none) else if fits (i2 + 1) then go2 (a6, b6, row4, (i2 + 1)) else none) N (a5, b5, (row3.set (0 : Int).toNat i), i, e2, (1 : Int))) else none) else none else if 0 ≤ (b5.length : Int) ∧ (b5.length : Int) < (row3.length : Int) then oB (row3[(b5.length : Int).toNat]?) fun e8 => (some e8) else none) N (a4, b4, row2, (1 : Int))) N (a3, b3, row, (row.length : Int), (0 : Int))) fun J2 => if fits ((b2.length : Int) + 1) then if ((b2.length : Int) + 1) = ((b2.length : Int) + 1) ∧ 0 ≤ ((b2.length : Int) + 1) ∧ ((b2.length : Int) + 1) * 8 ≤ 140737488355328 ∧ ((b2.length : Int) + 1) ≤ 140737488355328 then J2 (a2, b2, (List.replicate ((b2.length : Int) + 1).toNat 0)) else none else none) fun J => oB (jO N a) fun r => bif !r then some (-1) else oB (jO N b) fun r2 => bif !r2 then some (-1) else J (a, b))
theorem jDu (N : Nat) : mK 227 ⟨⟨[pS, pS], []⟩, ⟨[pI], []⟩, c2A (i_NearFar_m N)⟩ :=
 mO (fC (jcM N) ja) Tryz.func227 rfl N (.seq .no (.meet jDZ .no (.meet jAQ .no (.seq (.seq .no (.block (.loop jDE .no))) (.seq (.seq .no (.block (.loop jBC (.seq .no (.seq (.block (.seq .no (.seq .no (.seq .no (.block (.loop jCv (.seq .no (.seq (.block (.seq .no (.meet jAI .no .no))) .no)))))))) .no))))) .no))))) _ (wr := [22])
def jxG (N : Nat) : (D : Nat) → Z0 → Z0 → Z8
 | 0, _, _ => none
 | D + 1, p, s =>
 bif decide (p = ([] : List UInt8)) then
 some (decide (s = ([] : List UInt8)))
 else
 oB (idx p 0) fun c =>
 bif decide ((c.toNat : Int) = 42) then
 oB (cut p 1 (p.length : Int)) fun y =>
 (oB (jxG N D y s) fun r =>
 bif r then
 some true
 else
 bif !decide (s = ([] : List UInt8)) then
 oB (cut s 1 (s.length : Int)) fun y2 =>
 (oB (jxG N D p y2) fun r2 =>
 some r2)
 else
 some false)
 else
 bif decide (s = ([] : List UInt8)) then
 some false
 else
 oB (idx p 0) fun c2 =>
 bif decide ((c2.toNat : Int) = 63) then
 oB (cut p 1 (p.length : Int)) fun y3 =>
 (oB (cut s 1 (s.length : Int)) fun y4 =>
 oB (jxG N D y3 y4) fun r3 =>
 some r3)
 else
 oB (idx p 0) fun c3 =>
 oB (idx s 0) fun c4 =>
 bif decide ((c3.toNat : Int) = (c4.toNat : Int)) then
 oB (cut p 1 (p.length : Int)) fun y5 =>
 (oB (cut s 1 (s.length : Int)) fun y6 =>
 oB (jxG N D y5 y6) fun r4 =>
 some r4)
 else
 some false
def jyg (N D : Nat) : Model := ⟨⟨[pS, pS], []⟩, ⟨[pB], []⟩, c2A (jxG N D)⟩
theorem jBG (N D : Nat) (ih : mK 284 (jyg N D)) : mK 284 (jyg N (D + 1)) :=
 mO (fC ih ja) Tryz.func284 rfl N .no (jyg N (D + 1))
theorem jAz (N : Nat) : ∀ D, mK 284 (jyg N D)
 | 0 => modelOk_none ⟨_, Tryz.func284, by decide, by kernel_rfl⟩ _ (fun a => rfl)
 | D + 1 => jBG N D (jAz N D)
def jx0 (N : Nat) (b : List UInt8) (a : List UInt8) : Z8 :=
 (oB (jxV N b) fun c => bif c then oB (jO N a) fun d => (bif d then oB (jxG N N b a) fun e => (some e) else some false) else some false)
theorem jDd (N : Nat) : mK 228 ⟨⟨[pS, pS], []⟩, ⟨[pB], []⟩, c2A (jx0 N)⟩ :=
 mO (fC (jz9 N) (fC (jcM N) (fC (jAz N N) ja))) Tryz.func228 rfl N .no _
def jD5 : Sh := ⟨.dead :: pS :: dz 8 (.pv Y15 :: pI :: pI :: dz 10 []), []⟩
def jyp (N : Nat) (k : Int) (l : Z14) (b : Z9) (m : List UInt8) : Z13 :=
 (oB (jbx N k l b) fun j => bif j then iter (fun i (d, e, c, a) => bif decide (a < c) then oB (idx e a) fun f => (bif decide (f.1 = d) then some f.2 else if fits (a + 1) then i (d, e, c, (a + 1)) else none) else some (-1)) N (m, b, (b.length : Int), (0 : Int)) else some (-1))
theorem jBQ (N : Nat) : mK 230 ⟨⟨[.agg [pI, .pv Y19, .pv Y15], pS], []⟩, ⟨[pI], []⟩, c4A (jyp N)⟩ :=
 mO (fC (jh0 N) ja) Tryz.func230 rfl N (.seq .no (.seq (.seq .no (.cond (.seq .no (.block (.loop jD5 .no))) .no)) .no)) _
def jDa : Sh := ⟨.ptr Y0 :: dz 3 (.box 4 0 :: .box 5 0 :: .dead :: pI :: dz 43 (.own 600051 .str 9 true :: pI :: pI :: dz 122 [])), [(4, false, [pI, pS, .pv (.sl .str), pI, pI, .pv (.sl .q)]), (5, false, [pI, .pv Y19, .pv Y15])]⟩
def jCO : Sh := ⟨.ptr Y0 :: dz 3 (.box 4 0 :: .box 5 0 :: dz 83 (.own 600089 .str 9 true :: pI :: pI :: dz 84 [])), [(4, false, [pI, pS, .pv (.sl .str), pI, pI, .pv (.sl .q)]), (5, false, [pI, .pv Y19, .pv Y15])]⟩
def jDp : Sh := ⟨.ptr Y0 :: dz 3 (.box 4 0 :: .box 5 0 :: dz 7 (pI :: dz 140 (.pv (.sl .q) :: pI :: pI :: dz 19 []))), [(4, false, [pI, pS, .pv (.sl .str), pI, pI, .pv (.sl .q)]), (5, false, [pI, .pv Y19, .pv Y15])]⟩
def i_scorer_score_m (N : Nat) : (D : Nat) → Z11 → Int → Z0 → (List Z0) → Int → Int → (List DQ) → Int → Z12 → Z7 → Z13
 | 0, _, _, _, _, _, _, _, _, _, _ => none
 | D + 1, x, q, q2, q3, q4, q5, q6, d, d2, d3 =>
 bif decide (q = 1) then
 some 100
 else
 bif decide (q = 2) then
 oB (idx q3 0) fun e =>
 (oB (jyc N x.1.1 x.1.2 e) fun r =>
 oB (i_scorer_points_m N x q2 r d) fun r2 =>
 some r2)
 else
 bif decide (q = 3) then
 oB (jyB N x q q2 q3 q4 q5 q6 d d2 d3) fun r3 =>
 (some r3)
 else
 bif decide (q = 4) then
 oB (i_Seg_terms_m N x.2 q2) fun r4 =>
 (iter (fun go (g : Z11 × Int × (List Z0) × Int × Int × Int × Z0 × (List Z0) × Int × Int × (List DQ) × Int × Z12 × Z7) =>
 match g with
 | (x2, best, t51, t52, t53, q7, q8, q9, q10, q11, q12, d4, d5, d6) =>
 bif decide (t53 < t52) then
 oB (idx t51 t53) fun e2 =>
 (oB (idx q9 0) fun e3 =>
 oB (i_NearFar_m N e2 e3) fun r5 =>
 oB (jm N r5 0 q10) fun r6 =>
 bif r6 then
 oB (i_scorer_points_m N x2 q8 e2 d4) fun r7 =>
 (if fits (3 - r5) then if fits (r7 * (3 - r5)) then if 3 ≠ 0 then
 if fits ((r7 * (3 - r5)).tdiv 3) then if fits (t53 + 1) then go (x2, (if ((r7 * (3 - r5)).tdiv 3) > best then (r7 * (3 - r5)).tdiv 3 else best), t51, t52, (t53 + 1), q7, q8, q9, q10, q11, q12, d4, d5, d6) else none else none
 else none else none else none)
 else
 if fits (t53 + 1) then go (x2, best, t51, t52, (t53 + 1), q7, q8, q9, q10, q11, q12, d4, d5, d6) else none)
 else
 some best) N (x, 0, r4, (r4.length : Int), 0, q, q2, q3, q4, q5, q6, d, d2, d3))
 else
 bif decide (q = 5) then
 oB (i_Seg_terms_m N x.2 q2) fun r8 =>
 (iter (fun go2 (g : Z11 × (List Z0) × Int × Int × Int × Z0 × (List Z0) × Int × Int × (List DQ) × Int × Z12 × Z7) =>
 match g with
 | (x3, t89, t90, t91, q13, q14, q15, q16, q17, q18, d7, d8, d9) =>
 bif decide (t91 < t90) then
 oB (idx t89 t91) fun e4 =>
 (oB (idx q15 0) fun e5 =>
 oB (jx0 N e5 e4) fun r9 =>
 bif r9 then
 oB (i_scorer_places_m N x3 q14 e4 d7) fun r10 =>
 (bif decide ((0 : Int) < (r10.length : Int)) then
 some 100
 else
 if fits (t91 + 1) then go2 (x3, t89, t90, (t91 + 1), q13, q14, q15, q16, q17, q18, d7, d8, d9) else none)
 else
 if fits (t91 + 1) then go2 (x3, t89, t90, (t91 + 1), q13, q14, q15, q16, q17, q18, d7, d8, d9) else none)
 else
 some 0) N (x, r8, (r8.length : Int), 0, q, q2, q3, q4, q5, q6, d, d2, d3))
 else
 bif decide (q = 6) then
 oB (jyp N d d2 d3 q2) fun r11 =>
 (oB (jm N r11 q4 q5) fun r12 =>
 bif r12 then
 some 100
 else
 some 0)
 else
 bif decide (q = 10) then
 oB (idx q6 0) fun e6 =>
 (oB (i_scorer_score_m N D x e6.kind e6.field e6.words e6.lo e6.hi e6.kids d d2 d3) fun r13 =>
 if fits (q4 * r13) then some (q4 * r13) else none)
 else
 bif decide (q = 9) then
 oB (idx q6 1) fun e7 =>
 (oB (i_scorer_score_m N D x e7.kind e7.field e7.words e7.lo e7.hi e7.kids d d2 d3) fun r14 =>
 bif decide ((0 : Int) < r14) then
 some 0
 else
 oB (idx q6 0) fun e8 =>
 oB (i_scorer_score_m N D x e8.kind e8.field e8.words e8.lo e8.hi e8.kids d d2 d3) fun r15 =>
 some r15)
 else
 iter (fun go3 (g : Z11 × Int × (List DQ) × Int × Int × Int × Z0 × (List Z0) × Int × Int × (List DQ) × Int × Z12 × Z7) =>
 match g with
 | (x4, all, t154, t155, t156, q19, q20, q21, q22, q23, q24, d10, d11, d12) =>
 bif decide (t156 < t155) then
 oB (idx t154 t156) fun e9 =>
 (oB (i_scorer_score_m N D x4 e9.kind e9.field e9.words e9.lo e9.hi e9.kids d10 d11 d12) fun r16 =>
 bif decide (r16 = 0) then
 bif decide (q19 = 7) then
 some 0
 else
 (if fits (all + r16) then if fits (t156 + 1) then go3 (x4, (all + r16), t154, t155, (t156 + 1), q19, q20, q21, q22, q23, q24, d10, d11, d12) else none else none)
 else
 if fits (all + r16) then if fits (t156 + 1) then go3 (x4, (all + r16), t154, t155, (t156 + 1), q19, q20, q21, q22, q23, q24, d10, d11, d12) else none else none)
 else
 some all) N (x, 0, q6, (q6.length : Int), 0, q, q2, q3, q4, q5, q6, d, d2, d3)
def jx6 (N D : Nat) : Model := ⟨⟨[.ptr Y0, .agg [pI, pS, .pv (.sl .str), pI, pI, .pv (.sl .q)], .agg [pI, .pv Y19, .pv Y15]], []⟩, ⟨[pI], []⟩, c10A (i_scorer_score_m N D)⟩
theorem jBq (N D : Nat) (ih : mK 160 (jx6 N D)) : mK 160 (jx6 N (D + 1)) :=
 mO (fC ih (fC (jBn N) (fC (jsD N) (fC (jDC N) (fC (jln N) (fC (jDu N) (fC (jY N) (fC (jDd N) (fC (jrB N) (fC (jBQ N) ja)))))))))) Tryz.func160 rfl N (.seq .no (.seq (.seq .no (.block (.seq .no (.cond .no (.seq .no (.cond .no (.seq .no (.cond .no (.seq .no (.cond (.seq .no (.seq (.seq .no (.block (.loop jDa .no))) .no)) (.seq .no (.cond (.seq (.seq .no (.block (.loop jCO .no))) .no) .no)))))))))))) (.seq .no (.seq (.seq .no (.block (.loop jDp .no))) .no)))) (jx6 N (D + 1))
theorem jzy (N : Nat) : ∀ D, mK 160 (jx6 N D)
 | 0 => modelOk_none ⟨_, Tryz.func160, by decide, by kernel_rfl⟩ _ (fun a => rfl)
 | D + 1 => jBq N D (jzy N D)
def s_l30Open_m (N : Nat) (a : List Int) : Option ((List Int) × Int) :=
 (bif decide ((2000 : Int) < (a.length : Int)) then oB (cut a 0 2000) fun b => (some (b, 0)) else some (a, 0))
theorem juQ (N : Nat) : mK 85 ⟨⟨[.pv (.sl (.int .u8))], []⟩, ⟨[.box 10 0], [(10, false, [.pv (.sl (.int .u8)), pI])]⟩, c1A (s_l30Open_m N)⟩ :=
 mO ja Tryz.func85 rfl N .no _
def s_l30Rd_pick_m (N : Nat) (e : Int) (b : List Int) (a : Int) : Option (Int × (List Int) × Int) :=
 (if fits (a + 1) then bif decide (e < 1) then some (0, b, (a + 1)) else (bif decide ((b.length : Int) = 0) then some (0, b, (a + 1)) else if fits ((a + 1) - 1) then bif decide (((a + 1) - 1) < (b.length : Int)) then oB (idx b ((a + 1) - 1)) fun f => (if e ≠ 0 then some (((IntKind.i64.wrap f).tmod e), b, (a + 1)) else none) else (if (b.length : Int) ≠ 0 then oB (idx b (((a + 1) - 1).tmod (b.length : Int))) fun c => (if fits ((IntKind.i64.wrap c) * 131) then if fits (((a + 1) - 1) * 7) then if fits ((((a + 1) - 1) * 7) + 3) then if (b.length : Int) ≠ 0 then oB (idx b (((((a + 1) - 1) * 7) + 3).tmod (b.length : Int))) fun d => (if fits ((IntKind.i64.wrap d) * 1117) then if fits (((IntKind.i64.wrap c) * 131) + ((IntKind.i64.wrap d) * 1117)) then if fits (((a + 1) - 1) * 29) then if fits ((((IntKind.i64.wrap c) * 131) + ((IntKind.i64.wrap d) * 1117)) + (((a + 1) - 1) * 29)) then if (b.length : Int) ≠ 0 then if fits (((a + 1) - 1).tdiv (b.length : Int)) then if fits ((((a + 1) - 1).tdiv (b.length : Int)) * 53) then if fits (((((IntKind.i64.wrap c) * 131) + ((IntKind.i64.wrap d) * 1117)) + (((a + 1) - 1) * 29)) + ((((a + 1) - 1).tdiv (b.length : Int)) * 53)) then if 64 ≠ 0 then if fits ((((((IntKind.i64.wrap c) * 131) + ((IntKind.i64.wrap d) * 1117)) + (((a + 1) - 1) * 29)) + ((((a + 1) - 1).tdiv (b.length : Int)) * 53)).tdiv 64) then if e ≠ 0 then some (((bitsI .xor .i64 (((((IntKind.i64.wrap c) * 131) + ((IntKind.i64.wrap d) * 1117)) + (((a + 1) - 1) * 29)) + ((((a + 1) - 1).tdiv (b.length : Int)) * 53)) ((((((IntKind.i64.wrap c) * 131) + ((IntKind.i64.wrap d) * 1117)) + (((a + 1) - 1) * 29)) + ((((a + 1) - 1).tdiv (b.length : Int)) * 53)).tdiv 64)).tmod e), b, (a + 1)) else none else none else none else none else none else none else none else none else none else none else none) else none else none else none else none) else none) else none) else none)
theorem jtX (N : Nat) : mK 106 ⟨⟨[.box 900000 0, pI], [(900000, false, [.pv (.sl (.int .u8)), pI])]⟩, ⟨[pI], [(900000, false, [.pv (.sl (.int .u8)), pI])]⟩, c3A (s_l30Rd_pick_m N)⟩ :=
 mO ja Tryz.func106 rfl N .no _ (rs := [900000])
def s_l30Rd_of_m (N : Nat) (b : List Z0) (c : List Int) (d : Int) : Option (Z0 × (List Int) × Int) :=
 (oB (s_l30Rd_pick_m N (b.length : Int) c d) fun a => oB (idx b a.1) fun e => some (e, a.2.1, a.2.2))
theorem jt3 (N : Nat) : mK 232 ⟨⟨[.box 900000 0, .pv (.sl .str)], [(900000, false, [.pv (.sl (.int .u8)), pI])]⟩, ⟨[pS], [(900000, false, [.pv (.sl (.int .u8)), pI])]⟩, c3A (s_l30Rd_of_m N)⟩ :=
 mO (fC (jtX N) ja) Tryz.func232 rfl N .no _ (rs := [900000])
def s_l30Known_m (N : Nat) : Option ((List Z0)) :=
 (some ([([99, 97, 116] : List UInt8), ([99, 97, 116, 115] : List UInt8), ([100, 111, 103] : List UInt8), ([100, 111, 103, 115] : List UInt8), ([114, 117, 110] : List UInt8), ([114, 117, 110, 110, 105, 110, 103] : List UInt8), ([116, 104, 101] : List UInt8), ([114, 101, 100] : List UInt8), ([98, 105, 103] : List UInt8), ([110, 101, 119] : List UInt8), ([121, 111, 114, 107] : List UInt8), ([110, 121] : List UInt8), ([102, 111, 120] : List UInt8)] : List Z0))
theorem jGd (N : Nat) : mK 246 ⟨⟨[], []⟩, ⟨[.own 1 .str 9 true], []⟩, fun a => s_l30Known_m N ⟩ :=
 mO ja Tryz.func246 rfl N .no _
def s_l30Leaf_m (N : Nat) (m : List Int) (p : Int) : Option (Int × Z0 × (List Z0) × Int × Int × (List Int) × Int) :=
 (oB (s_l30Rd_of_m N ([([98, 111, 100, 121] : List UInt8), ([98, 111, 100, 121] : List UInt8), ([116, 105, 116, 108, 101] : List UInt8)] : List Z0) m p) fun b => oB (s_l30Rd_pick_m N 9 b.2.1 b.2.2) fun a => bif decide (a.1 = 0) then some (1, ([] : List UInt8), ([] : List Z0), 0, 0, a.2.1, a.2.2) else bif decide (a.1 = 1) then oB (s_l30Known_m N) fun o => (oB (s_l30Rd_of_m N o a.2.1 a.2.2) fun f => oB (s_l30Known_m N) fun n => oB (s_l30Rd_of_m N n f.2.1 f.2.2) fun j => oB (s_l30Rd_pick_m N 3 j.2.1 j.2.2) fun i => some (3, b.1, ([f.1, j.1] : List Z0), i.1, 0, i.2.1, i.2.2)) else bif decide (a.1 = 2) then oB (s_l30Rd_of_m N ([([99, 111, 116] : List UInt8), ([100, 117, 103] : List UInt8), ([114, 110] : List UInt8), ([102, 111, 103] : List UInt8)] : List Z0) a.2.1 a.2.2) fun k => (oB (s_l30Rd_pick_m N 2 k.2.1 k.2.2) fun d => if fits (1 + d.1) then some (4, b.1, ([k.1] : List Z0), (1 + d.1), 0, d.2.1, d.2.2) else none) else bif decide (a.1 = 3) then oB (s_l30Rd_of_m N ([([99, 42] : List UInt8), ([63, 111, 63] : List UInt8), ([42, 110] : List UInt8), ([42] : List UInt8)] : List Z0) a.2.1 a.2.2) fun l => (some (5, b.1, ([l.1] : List Z0), 0, 0, l.2.1, l.2.2)) else bif decide (a.1 = 4) then oB (s_l30Rd_pick_m N 4 a.2.1 a.2.2) fun c => (oB (s_l30Rd_pick_m N 3 c.2.1 c.2.2) fun e => if fits (c.1 + e.1) then some (6, ([114, 97, 116, 101] : List UInt8), ([] : List Z0), c.1, (c.1 + e.1), e.2.1, e.2.2) else none) else oB (s_l30Known_m N) fun q => oB (s_l30Rd_of_m N q a.2.1 a.2.2) fun h => some (2, b.1, ([h.1] : List Z0), 0, 0, h.2.1, h.2.2))
theorem jGD (N : Nat) : mK 179 ⟨⟨[.box 900000 0], [(900000, false, [.pv (.sl (.int .u8)), pI])]⟩, ⟨[.agg [pI, pS, .own 1 .str 9 true, pI, pI, .nils]], [(900000, false, [.pv (.sl (.int .u8)), pI])]⟩, c2A (s_l30Leaf_m N)⟩ :=
 mO (fC (jt3 N) (fC (jtX N) (fC (jGd N) ja))) Tryz.func179 rfl N .no _ (rs := [900000])
def jFT : Sh := ⟨.box 900000 0 :: pI :: .dead :: .dead :: .box 4 0 :: dz 36 (pB :: dz 30 []), [(4, false, [pI, pS, .nils, pI, pI, .nils]), (900000, false, [.pv (.sl (.int .u8)), pI])]⟩
def jFQ : Sh := ⟨.box 900000 0 :: pI :: .dead :: .dead :: .box 4 0 :: .box 5 0 :: pI :: dz 65 [], [(4, false, [pI, pS, .nils, pI, pI, .nils]), (5, false, [pI, pS, .nils, pI, pI, .own 700505 .q 70 true]), (900000, false, [.pv (.sl (.int .u8)), pI])]⟩
def s_l30Query_m (N : Nat) : (D : Nat) → Int → (List Int) → Int → Option (Int × Z0 × (List Z0) × Int × Int × (List DQ) × (List Int) × Int)
 | 0, _, _, _ => none
 | D + 1, deep, b, b2 =>
 bif decide (deep ≤ 1) then
 oB (s_l30Leaf_m N b b2) fun r =>
 (some (r.1, r.2.1, r.2.2.1, r.2.2.2.1, r.2.2.2.2.1, ([] : List DQ), r.2.2.2.2.2.1, r.2.2.2.2.2.2))
 else
 oB (s_l30Rd_pick_m N 3 b b2) fun r2 =>
 bif decide (r2.1 = 0) then
 oB (s_l30Leaf_m N r2.2.1 r2.2.2) fun r3 =>
 (some (r3.1, r3.2.1, r3.2.2.1, r3.2.2.2.1, r3.2.2.2.2.1, ([] : List DQ), r3.2.2.2.2.2.1, r3.2.2.2.2.2.2))
 else
 oB (s_l30Rd_pick_m N 6 r2.2.1 r2.2.2) fun r4 =>
 bif decide (r4.1 = 0) then
 if fits (deep - 1) then oB (s_l30Query_m N D (deep - 1) r4.2.1 r4.2.2) fun r5 =>
 (if fits (deep - 1) then oB (s_l30Query_m N D (deep - 1) r5.2.2.2.2.2.2.1 r5.2.2.2.2.2.2.2) fun r6 =>
 (some (9, ([] : List UInt8), ([] : List Z0), 0, 0, ([(DQ.mk r5.1 r5.2.1 r5.2.2.1 r5.2.2.2.1 r5.2.2.2.2.1 r5.2.2.2.2.2.1), (DQ.mk r6.1 r6.2.1 r6.2.2.1 r6.2.2.2.1 r6.2.2.2.2.1 r6.2.2.2.2.2.1)] : List DQ), r6.2.2.2.2.2.2.1, r6.2.2.2.2.2.2.2)) else none) else none
 else
 bif decide (r4.1 = 1) then
 oB (s_l30Rd_pick_m N 4 r4.2.1 r4.2.2) fun r7 =>
 (if fits (2 + r7.1) then if fits (deep - 1) then oB (s_l30Query_m N D (deep - 1) r7.2.1 r7.2.2) fun r8 =>
 (some (10, ([] : List UInt8), ([] : List Z0), (2 + r7.1), 0, ([(DQ.mk r8.1 r8.2.1 r8.2.2.1 r8.2.2.2.1 r8.2.2.2.2.1 r8.2.2.2.2.2.1)] : List DQ), r8.2.2.2.2.2.2.1, r8.2.2.2.2.2.2.2)) else none else none)
 else
 meet (fun (g : Int × Bool × Int × Z0 × Int × Int × (List Int) × Int) =>
 match g with
 | (deep2, t41, b3, b4, b5, b6, b7, b8) =>
 bif t41 then
 if fits (deep2 - 1) then oB (s_l30Query_m N D (deep2 - 1) b7 b8) fun r9 =>
 (if fits (deep2 - 1) then oB (s_l30Query_m N D (deep2 - 1) r9.2.2.2.2.2.2.1 r9.2.2.2.2.2.2.2) fun r10 =>
 (some (7, ([] : List UInt8), ([] : List Z0), 0, 0, ([(DQ.mk r9.1 r9.2.1 r9.2.2.1 r9.2.2.2.1 r9.2.2.2.2.1 r9.2.2.2.2.2.1), (DQ.mk r10.1 r10.2.1 r10.2.2.1 r10.2.2.2.1 r10.2.2.2.2.1 r10.2.2.2.2.2.1)] : List DQ), r10.2.2.2.2.2.2.1, r10.2.2.2.2.2.2.2)) else none) else none
 else
 oB (s_l30Rd_pick_m N 2 b7 b8) fun r11 =>
 if fits (2 + r11.1) then iter (fun go (g : Int × Int × Int × Z0 × Int × Int × Int × Z0 × Int × Int × (List DQ) × (List Int) × Int) =>
 match g with
 | (deep3, n, b9, b10, b11, b12, q, q2, q3, q4, q5, b13, b14) =>
 bif decide ((0 : Int) < n) then
 if fits (deep3 - 1) then oB (s_l30Query_m N D (deep3 - 1) b13 b14) fun r12 =>
 (if room q5.length ([(DQ.mk r12.1 r12.2.1 r12.2.2.1 r12.2.2.2.1 r12.2.2.2.2.1 r12.2.2.2.2.2.1)] : List DQ).length 88 then
 if fits (n - 1) then go (deep3, (n - 1), b9, b10, b11, b12, q, q2, q3, q4, (q5 ++ ([(DQ.mk r12.1 r12.2.1 r12.2.2.1 r12.2.2.2.1 r12.2.2.2.2.1 r12.2.2.2.2.2.1)] : List DQ)), r12.2.2.2.2.2.2.1, r12.2.2.2.2.2.2.2) else none
 else none) else none
 else
 some (q, q2, ([] : List Z0), q3, q4, q5, b13, b14)) N (deep2, (2 + r11.1), b3, b4, b5, b6, 8, ([] : List UInt8), 0, 0, ([] : List DQ), r11.2.1, r11.2.2) else none) fun J =>
 bif decide (r4.1 = 2) then
 J (deep, true, 0, ([] : List UInt8), 0, 0, r4.2.1, r4.2.2)
 else
 J (deep, (decide (r4.1 = 3)), 0, ([] : List UInt8), 0, 0, r4.2.1, r4.2.2)
def jE6 (N D : Nat) : Model := ⟨⟨[.box 900000 0, pI], [(900000, false, [.pv (.sl (.int .u8)), pI])]⟩, ⟨[.agg [pI, pS, .own 1 .str 9 true, pI, pI, .own 2 .q 70 true]], [(900000, false, [.pv (.sl (.int .u8)), pI])]⟩, c3A (s_l30Query_m N D)⟩
theorem jGF (N D : Nat) (ih : mK 105 (jE6 N D)) : mK 105 (jE6 N (D + 1)) :=
 mO (fC ih (fC (jGD N) (fC (jtX N) ja))) Tryz.func105 rfl N (.seq .no (.seq .no (.seq (.seq .no (.block (.seq .no (.cond .no (.seq .no (.cond .no (.meet jFT .no .no))))))) (.seq .no (.seq (.seq .no (.block (.loop jFQ .no))) .no))))) (jE6 N (D + 1)) (rs := [900000])
theorem jE7 (N : Nat) : ∀ D, mK 105 (jE6 N D)
 | 0 => modelOk_none ⟨_, Tryz.func105, by decide, by kernel_rfl⟩ _ (fun a => rfl)
 | D + 1 => jGF N D (jE7 N D)
def s_l30Rd_one_m (N : Nat) (b : List Int) (c : List Int) (d : Int) : Option (Int × (List Int) × Int) :=
 (oB (s_l30Rd_pick_m N (b.length : Int) c d) fun a => oB (idx b a.1) fun e => some (e, a.2.1, a.2.2))
theorem juA (N : Nat) : mK 107 ⟨⟨[.box 900000 0, .pv Y21], [(900000, false, [.pv (.sl (.int .u8)), pI])]⟩, ⟨[pI], [(900000, false, [.pv (.sl (.int .u8)), pI])]⟩, c3A (s_l30Rd_one_m N)⟩ :=
 mO (fC (jtX N) ja) Tryz.func107 rfl N .no _ (rs := [900000])
def juL : Sh := ⟨.box 900000 0 :: .dead :: .box 2 0 :: .box 3 0 :: dz 30 [], [(2, false, [.nils, .nils]), (3, false, [.own 13 .str 9 true, .nils]), (900000, false, [.pv (.sl (.int .u8)), pI])]⟩
def juw : Sh := ⟨.box 900000 0 :: .dead :: .box 2 0 :: .box 3 0 :: dz 30 [], [(2, false, [.nils, .nils]), (3, false, [.own 8 .str 9 true, .nils]), (900000, false, [.pv (.sl (.int .u8)), pI])]⟩
def s_l30Conf_m (N : Nat) (j : List Int) (k : Int) : Option ((List Z0) × (List Z4) × (List Int) × Int) :=
 (meet (fun (d : (List Z0) × (List Int) × Int) => match d with | (i, n, o) => meet (fun (d : (List Z0) × (List Int) × Int) => match d with | (e, m, l) => oB (s_l30Rd_pick_m N 4 m l) fun a => bif decide (a.1 = 0) then some (e, ([(([([110, 101, 119] : List UInt8), ([121, 111, 114, 107] : List UInt8)] : List Z0), ([110, 121] : List UInt8))] : List Z4), a.2.1, a.2.2) else bif decide (a.1 = 1) then some (e, ([(([([98, 105, 103] : List UInt8)] : List Z0), ([108, 97, 114, 103] : List UInt8)), (([([98, 105, 103] : List UInt8), ([114, 101, 100] : List UInt8), ([102, 111, 120] : List UInt8)] : List Z0), ([102, 111, 120] : List UInt8)), (([([110, 101, 119] : List UInt8), ([121, 111, 114, 107] : List UInt8)] : List Z0), ([110, 121] : List UInt8))] : List Z4), a.2.1, a.2.2) else some (e, ([] : List Z4), a.2.1, a.2.2)) fun f => oB (s_l30Rd_pick_m N 4 n o) fun c => bif decide (c.1 = 0) then f (([([100, 111, 103] : List UInt8), ([116, 104, 101] : List UInt8)] : List Z0), c.2.1, c.2.2) else f (i, c.2.1, c.2.2)) fun h => oB (s_l30Rd_pick_m N 3 j k) fun b => bif decide ((0 : Int) < b.1) then h (([([116, 104, 101] : List UInt8)] : List Z0), b.2.1, b.2.2) else h (([] : List Z0), b.2.1, b.2.2))
theorem jva (N : Nat) : mK 164 ⟨⟨[.box 900000 0], [(900000, false, [.pv (.sl (.int .u8)), pI])]⟩, ⟨[.agg [.own 1 .str 9 true, .own 2 Y18 138 true]], [(900000, false, [.pv (.sl (.int .u8)), pI])]⟩, c2A (s_l30Conf_m N)⟩ :=
 mO (fC (jtX N) ja) Tryz.func164 rfl N (.seq .no (.seq .no (.meet juw .no (.meet juL .no .no)))) _ (rs := [900000])
def s_l30Raw_m (N : Nat) (b : List Int) (c : Int) : Option (Z0 × (List Int) × Int) :=
 (oB (s_l30Rd_of_m N ([([99, 97, 116] : List UInt8), ([67, 97, 116, 115] : List UInt8), ([100, 111, 103] : List UInt8), ([100, 111, 103, 115] : List UInt8), ([114, 117, 110] : List UInt8), ([82, 85, 78, 78, 73, 78, 71] : List UInt8), ([116, 104, 101] : List UInt8), ([114, 101, 100] : List UInt8), ([98, 105, 103] : List UInt8), ([110, 101, 119, 32, 121, 111, 114, 107] : List UInt8), ([78, 101, 119, 32, 32, 89, 111, 114, 107] : List UInt8), ([110, 121] : List UInt8), ([102, 111, 120] : List UInt8), ([112, 97, 115, 115, 101, 100] : List UInt8), ([120, 49] : List UInt8), ([97, 118, 101, 114, 121, 118, 101, 114, 121, 108, 111, 110, 103, 119, 111, 114, 100] : List UInt8)] : List Z0) b c) fun a => some (a.1, a.2.1, a.2.2))
theorem jvg (N : Nat) : mK 285 ⟨⟨[.box 900000 0], [(900000, false, [.pv (.sl (.int .u8)), pI])]⟩, ⟨[pS], [(900000, false, [.pv (.sl (.int .u8)), pI])]⟩, c2A (s_l30Raw_m N)⟩ :=
 mO (fC (jt3 N) ja) Tryz.func285 rfl N .no _ (rs := [900000])
def juP : Sh := ⟨.box 900000 0 :: .dead :: .dead :: pS :: pI :: dz 15 [], [(900000, false, [.pv (.sl (.int .u8)), pI])]⟩
def s_l30Text_m (N : Nat) (i : List Int) (j : Int) : Option (Z0 × (List Int) × Int) :=
 (oB (s_l30Rd_pick_m N 9 i j) fun d => iter (fun l (b, e, f, h) => bif decide ((0 : Int) < e) then oB (s_l30Raw_m N f h) fun a => (if b.length + a.1.length ≤ 9223372036854775807 then oB (s_l30Rd_of_m N ([([32] : List UInt8), ([32] : List UInt8), ([44, 32] : List UInt8), ([45] : List UInt8), ([46, 32] : List UInt8)] : List Z0) a.2.1 a.2.2) fun c => (if (b ++ a.1).length + c.1.length ≤ 9223372036854775807 then if fits (e - 1) then l (((b ++ a.1) ++ c.1), (e - 1), c.2.1, c.2.2) else none else none) else none) else some (b, f, h)) N (([] : List UInt8), d.1, d.2.1, d.2.2))
theorem juT (N : Nat) : mK 231 ⟨⟨[.box 900000 0], [(900000, false, [.pv (.sl (.int .u8)), pI])]⟩, ⟨[pS], [(900000, false, [.pv (.sl (.int .u8)), pI])]⟩, c2A (s_l30Text_m N)⟩ :=
 mO (fC (jtX N) (fC (jvg N) (fC (jt3 N) ja))) Tryz.func231 rfl N (.seq .no (.seq .no (.seq (.seq .no (.block (.loop juP .no))) .no))) _ (rs := [900000])
def juy : Sh := ⟨.box 900000 0 :: dz 3 (.box 4 0 :: .box 5 0 :: dz 48 []), [(4, false, [pI, .nils, .nils]), (5, false, [pI, .own 28 Y20 143 true, .own 39 Y17 145 true]), (900000, false, [.pv (.sl (.int .u8)), pI])]⟩
def juX : Sh := ⟨.box 900000 0 :: dz 3 (.box 4 0 :: .box 5 0 :: dz 48 []), [(4, false, [pI, .nils, .nils]), (5, false, [pI, .own 28 Y20 143 true, .nils]), (900000, false, [.pv (.sl (.int .u8)), pI])]⟩
def jvb : Sh := ⟨.box 900000 0 :: dz 3 (.box 4 0 :: .box 5 0 :: dz 48 []), [(4, false, [pI, .nils, .nils]), (5, false, [pI, .own 17 Y20 143 true, .nils]), (900000, false, [.pv (.sl (.int .u8)), pI])]⟩
def s_l30Doc_m (N : Nat) (r : Int) (C : List Int) (D : Int) : Option (Int × Z12 × Z7 × (List Int) × Int) :=
 (meet (fun (c : Int × Int × Z12 × (List Int) × Int) => match c with | (q, t, k, B, z) => meet (fun (c : Int × Int × Z12 × (List Int) × Int) => match c with | (p, x, n, E, G) => meet (fun (c : Int × Int × Z12 × Z7 × (List Int) × Int) => match c with | (H, m, w, l, A, y) => oB (s_l30Rd_pick_m N 3 A y) fun d => bif decide (d.1 = 0) then oB (s_l30Rd_pick_m N 30 d.2.1 d.2.2) fun e => (if fits (2000 + e.1) then if room l.length ([(([121, 101, 97, 114] : List UInt8), (2000 + e.1))] : Z9).length 24 then some (m, w, (l ++ ([(([121, 101, 97, 114] : List UInt8), (2000 + e.1))] : Z9)), e.2.1, e.2.2) else none else none) else some (m, w, l, d.2.1, d.2.2)) fun u => oB (s_l30Rd_pick_m N 3 E G) fun a => bif decide ((0 : Int) < a.1) then oB (s_l30Rd_pick_m N 4 a.2.1 a.2.2) fun h => (if room ([] : Z9).length ([(([114, 97, 116, 101] : List UInt8), h.1)] : Z9).length 24 then u (p, x, n, (([] : Z9) ++ ([(([114, 97, 116, 101] : List UInt8), h.1)] : Z9)), h.2.1, h.2.2) else none) else u (p, x, n, ([] : Z9), a.2.1, a.2.2)) fun o => oB (s_l30Rd_pick_m N 3 B z) fun b => bif decide (b.1 = 0) then oB (s_l30Text_m N b.2.1 b.2.2) fun i => (if room k.length ([(([116, 105, 116, 108, 101] : List UInt8), i.1)] : Z14).length 32 then o (q, t, (k ++ ([(([116, 105, 116, 108, 101] : List UInt8), i.1)] : Z14)), i.2.1, i.2.2) else none) else o (q, t, k, b.2.1, b.2.2)) fun v => oB (s_l30Rd_pick_m N 6 C D) fun f => bif decide ((0 : Int) < f.1) then oB (s_l30Text_m N f.2.1 f.2.2) fun j => (if room ([] : Z14).length ([(([98, 111, 100, 121] : List UInt8), j.1)] : Z14).length 32 then v (0, r, (([] : Z14) ++ ([(([98, 111, 100, 121] : List UInt8), j.1)] : Z14)), j.2.1, j.2.2) else none) else v (0, r, ([] : Z14), f.2.1, f.2.2))
theorem jvf (N : Nat) : mK 165 ⟨⟨[.box 900000 0, pI], [(900000, false, [.pv (.sl (.int .u8)), pI])]⟩, ⟨[.agg [pI, .own 1 Y20 143 true, .own 2 Y17 145 true]], [(900000, false, [.pv (.sl (.int .u8)), pI])]⟩, c3A (s_l30Doc_m N)⟩ :=
 mO (fC (jtX N) (fC (juT N) ja)) Tryz.func165 rfl N (.seq .no (.seq .no (.meet jvb .no (.meet juX .no (.meet juy .no .no))))) _ (rs := [900000])
def jBM : Sh := ⟨dz 5 (.box 5 0 :: .dead :: .own 600007 Y14 162 true :: .box 26 0 :: dz 19 (.pv Y2 :: pI :: pI :: dz 18 [])), [(5, false, [pI, pS, .pv (.sl .str), pI, pI, .pv (.sl .q)]), (26, true, [.pv (.sl .str), .pv Y16, .pv Y2, .pv Y4])]⟩
def i_scores_m (N : Nat) (t : List Z0) (C : List Z4) (c : List Z2) (u : List Z1) (w : Int) (v : List UInt8) (z : List Z0) (A : Int) (B : Int) (x : List DQ) : Option (Z6) :=
 (oB (i_SegOk_m N t C c u) fun E => bif !E then some ([] : Z5) else oB (i_QueryOk_m N w v z A B x) fun G => bif !G then some ([] : Z5) else iter (fun y (d, n, e, a, f, r, q, m, i, j, o, p, k, l) => bif decide (a < e) then oB (idx n a) fun b => (oB (i_scorer_score_m N N ((o, p), k, l) f r q m i j b.1 b.2.1 b.2.2) fun h => bif decide ((0 : Int) < h) then if room d.length ([(b.1, h)] : Z5).length 16 then if fits (a + 1) then y ((d ++ ([(b.1, h)] : Z5)), n, e, (a + 1), f, r, q, m, i, j, o, p, k, l) else none else none else if fits (a + 1) then y (d, n, e, (a + 1), f, r, q, m, i, j, o, p, k, l) else none) else some d) N (([] : Z5), c, (c.length : Int), (0 : Int), w, v, z, A, B, x, t, C, c, u))
theorem jBc (N : Nat) : mK 103 ⟨⟨[.agg [.pv (.sl .str), .pv Y16], .agg [.pv Y2, .pv Y4], .agg [pI, pS, .pv (.sl .str), pI, pI, .pv (.sl .q)]], []⟩, ⟨[.own 1 Y14 162 true], []⟩, c10A (i_scores_m N)⟩ :=
 mO (fC (joa N) (fC (jCN N) (fC (jzy N N) ja))) Tryz.func103 rfl N (.seq .no (.seq .no (.seq .no (.seq .no (.seq (.seq .no (.block (.loop jBM .no))) .no))))) _
def juU : Sh := ⟨.box 900000 0 :: .dead :: .dead :: .own 600003 Y3 44 true :: pI :: pI :: dz 19 [], [(900000, false, [.pv (.sl (.int .u8)), pI])]⟩
def s_l30Docs_m (N : Nat) (j : List Int) (k : Int) : Option ((List Z2) × (List Int) × Int) :=
 (oB (s_l30Rd_pick_m N 6 j k) fun d => iter (fun m (e, c, f, h, i) => bif decide ((0 : Int) < f) then if fits (c + 1) then oB (s_l30Rd_pick_m N 3 h i) fun b => (if fits ((c + 1) + b.1) then oB (s_l30Doc_m N ((c + 1) + b.1) b.2.1 b.2.2) fun a => (if room e.length ([(a.1, a.2.1, a.2.2.1)] : List Z2).length 56 then if fits (f - 1) then m ((e ++ ([(a.1, a.2.1, a.2.2.1)] : List Z2)), ((c + 1) + b.1), (f - 1), a.2.2.2.1, a.2.2.2.2) else none else none) else none) else none else some (e, h, i)) N (([] : List Z2), (0 : Int), d.1, d.2.1, d.2.2))
theorem juO (N : Nat) : mK 245 ⟨⟨[.box 900000 0], [(900000, false, [.pv (.sl (.int .u8)), pI])]⟩, ⟨[.own 1 Y3 44 true], [(900000, false, [.pv (.sl (.int .u8)), pI])]⟩, c2A (s_l30Docs_m N)⟩ :=
 mO (fC (jtX N) (fC (jvf N) ja)) Tryz.func245 rfl N (.seq .no (.seq .no (.seq .no (.seq (.seq .no (.block (.loop juU .no))) .no)))) _ (rs := [900000])
def s_l30Seg_m (N : Nat) (d : List Int) (e : Int) : Option ((List Z0) × (List Z4) × (List Z2) × (List Z1) × (List Int) × Int) :=
 (oB (s_l30Conf_m N d e) fun a => oB (s_l30Docs_m N a.2.2.1 a.2.2.2) fun b => oB (s_l7Of_m N a.1 a.2.1 b.1) fun c => some (a.1, a.2.1, c.1, c.2, b.2.1, b.2.2))
theorem jvc (N : Nat) : mK 178 ⟨⟨[.box 900000 0], [(900000, false, [.pv (.sl (.int .u8)), pI])]⟩, ⟨[.tup [.agg [.own 1 .str 9 true, .own 2 Y18 138 true], .agg [.tre 3 Y3 44, .tre 4 Y5 156]]], [(900000, false, [.pv (.sl (.int .u8)), pI])]⟩, c2A (s_l30Seg_m N)⟩ :=
 mO (fC (jva N) (fC (juO N) (fC (jmU N) ja))) Tryz.func178 rfl N .no _ (rs := [900000]) (dw := [11])
def s_l30AnySeg_m (N : Nat) (h : List Int) (i : Int) : Option ((List Z0) × (List Z4) × (List Z2) × (List Z1) × (List Int) × Int) :=
 (oB (s_l30Seg_m N h i) fun a => bif decide ((0 : Int) < (a.2.2.2.1.length : Int)) then oB (s_l30Rd_pick_m N (a.2.2.2.1.length : Int) a.2.2.2.2.1 a.2.2.2.2.2) fun c => (oB (s_l30Rd_pick_m N 16 c.2.1 c.2.2) fun b => bif decide (b.1 = 0) then if 0 ≤ c.1 ∧ c.1 < (a.2.2.2.1.length : Int) then oB (a.2.2.2.1[c.1.toNat]?) fun e => (some (a.1, a.2.1, a.2.2.1, (a.2.2.2.1.set c.1.toNat (e.1, ([122, 122, 122] : List UInt8), e.2.2)), b.2.1, b.2.2)) else none else bif decide (b.1 = 1) then if 0 ≤ c.1 ∧ c.1 < (a.2.2.2.1.length : Int) then oB (a.2.2.2.1[c.1.toNat]?) fun d => (if room a.2.2.2.1.length ([d] : List Z1).length 56 then some (a.1, a.2.1, a.2.2.1, (a.2.2.2.1 ++ ([d] : List Z1)), b.2.1, b.2.2) else none) else none else bif decide (b.1 = 2) then oB (cut a.2.2.1 1 (a.2.2.1.length : Int)) fun f => (some (a.1, a.2.1, f, a.2.2.2.1, b.2.1, b.2.2)) else some (a.1, a.2.1, a.2.2.1, a.2.2.2.1, b.2.1, b.2.2)) else some (a.1, a.2.1, a.2.2.1, a.2.2.2.1, a.2.2.2.2.1, a.2.2.2.2.2))
theorem juW (N : Nat) : mK 104 ⟨⟨[.box 900000 0], [(900000, false, [.pv (.sl (.int .u8)), pI])]⟩, ⟨[.tup [.agg [.own 1 .str 9 true, .own 2 Y18 138 true], .agg [.pv Y2, .own 3 Y5 156 false]]], [(900000, false, [.pv (.sl (.int .u8)), pI])]⟩, c2A (s_l30AnySeg_m N)⟩ :=
 mO (fC (jvc N) (fC (jtX N) ja)) Tryz.func104 rfl N (.seq .no (.seq .no (.seq (.seq (.touch [.thaw 5 0, .thaw 5 1]) .no) .no))) _ (wr := [39, 40, 46]) (rs := [900000])
def s_DrawShardTop_m (N : Nat) (i : List Int) : Option ((List Z0) × (List Z4) × (List Z2) × (List Z1) × Int × Z0 × (List Z0) × Int × Int × (List DQ) × Int × Int × Int) :=
 (oB (s_l30Open_m N i) fun f => oB (s_l30AnySeg_m N f.1 f.2) fun c => oB (s_l30Query_m N N 3 c.2.2.2.2.1 c.2.2.2.2.2) fun a => oB (s_l30Rd_pick_m N 4 a.2.2.2.2.2.2.1 a.2.2.2.2.2.2.2) fun b => if fits (1 + b.1) then if fits ((1 + b.1) + 1) then oB (s_l30Rd_pick_m N ((1 + b.1) + 1) b.2.1 b.2.2) fun d => (oB (s_l30Rd_pick_m N 2 d.2.1 d.2.2) fun e => if fits (d.1 - e.1) then oB (s_l30Rd_one_m N ([1, 2, 16, 0] : List Int) e.2.1 e.2.2) fun h => (some (c.1, c.2.1, c.2.2.1, c.2.2.2.1, a.1, a.2.1, a.2.2.1, a.2.2.2.1, a.2.2.2.2.1, a.2.2.2.2.2.1, (1 + b.1), (d.1 - e.1), h.1)) else none) else none else none)
theorem jHA (N : Nat) : mK 33 ⟨⟨[.pv (.sl (.int .u8))], []⟩, ⟨[.tup [.agg [.own 1 .str 9 true, .own 2 Y18 138 true], .agg [.pv Y2, .own 3 Y5 156 false], .agg [pI, pS, .own 4 .str 9 true, pI, pI, .own 5 .q 70 true], pI, pI, pI]], []⟩, c1A (s_DrawShardTop_m N)⟩ :=
 mO (fC (juQ N) (fC (juW N) (fC (jE7 N N) (fC (jtX N) (fC (juA N) ja))))) Tryz.func33 rfl N .no _
def i_shardOk_m (N : Nat) (a : Int) (c : Int) : Z8 :=
 (oB (jm N a 1 4) fun b => bif b then if fits (a - 1) then oB (jm N c 0 (a - 1)) fun d => (some d) else none else some false)
theorem jEG (N : Nat) : mK 108 ⟨⟨[pI, pI], []⟩, ⟨[pB], []⟩, c2A (i_shardOk_m N)⟩ :=
 mO (fC (jY N) ja) Tryz.func108 rfl N .no _
def jxY (N : Nat) (b : Int) (a : Int) : Z13 :=
 (oB (jxH N b) fun d => oB (jxH N a) fun c => bif d then bif c then some 0 else (some (-1)) else bif c then some 1 else bif decide (b < a) then some (-1) else bif decide (a < b) then some 1 else some 0)
theorem jpP (N : Nat) : mK 202 ⟨⟨[pI, pI], []⟩, ⟨[pI], []⟩, c2A (jxY N)⟩ :=
 mO (fC (joK N) ja) Tryz.func202 rfl N .no _
def jx4 (N : Nat) (h : Int) (f : Int) (a : Int) (b : Int) : Z13 :=
 (oB (jxY N b f) fun d => oB (jxY N h a) fun e => oB (jbe N ([d, e] : List Int)) fun c => some c)
theorem jvi (N : Nat) : mK 181 ⟨⟨[.agg [pI, pI], .agg [pI, pI]], []⟩, ⟨[pI], []⟩, c4A (jx4 N)⟩ :=
 mO (fC (jpP N) (fC (jhC N) ja)) Tryz.func181 rfl N .no _
def cmp454 (N : Nat) : (Unit) → (Int × Int) → (Int × Int) → Option Int := (fun (cmp : Unit) (e e2 : Int × Int) => jx4 N e.1 e.2 e2.1 e2.2)
def jwq : Sh := ⟨.mtk 800000 Y14 162 true :: pI :: pI :: .clo 181 [] :: dz 4 (pI :: dz 44 []), []⟩
def jwI : Sh := ⟨.mtk 800000 Y14 162 true :: pI :: pI :: .clo 181 [] :: dz 4 (pI :: pI :: dz 43 []), []⟩
def jvU (N : Nat) (c : Z5) (d : Int) (b : Int) (a : Unit) : Option (Z6) := insG (cmp454 N) N c d b a
 
theorem jwF (N : Nat) : mK 291 ⟨⟨[.mtk 800000 Y14 162 true, pI, pI, .clo 181 []], []⟩, ⟨[.tup [], .mtk 800000 Y14 162 true], []⟩, c4A (jvU N)⟩ :=
 mO (fC (jvi N) ja) Tryz.func291 rfl N (.seq .no (.block (.loop jwq (.seq .no (.seq (.block (.seq .no (.block (.loop jwI .no)))) .no))))) _ (rs := [800000])
def jv5 : Sh := ⟨.mtk 800000 Y14 162 true :: .dead :: pI :: pI :: .clo 181 [] :: dz 5 (pI :: dz 71 []), []⟩
def jwh : Sh := ⟨.mtk 800000 Y14 162 true :: .dead :: pI :: pI :: .clo 181 [] :: dz 5 (pI :: pI :: dz 70 []), []⟩
def jvp (N : Nat) (d : Z5) (a : Int) (c : Int) (e : Int) (b : Unit) : Option (Z6) := siftG (cmp454 N) N d a c e b
 
theorem jwd (N : Nat) : mK 331 ⟨⟨[.mtk 800000 Y14 162 true, pI, pI, pI, .clo 181 []], []⟩, ⟨[.tup [], .mtk 800000 Y14 162 true], []⟩, c5A (jvp N)⟩ :=
 mO (fC (jvi N) ja) Tryz.func331 rfl N (.seq .no (.block (.loop jv5 (.block (.seq .no (.seq .no (.meet jwh .no .no))))))) _ (rs := [800000])
def jwy : Sh := ⟨.mtk 800000 Y14 162 true :: .dead :: .dead :: .clo 181 [] :: dz 4 (pI :: pI :: pI :: pI :: dz 48 []), []⟩
def jwM : Sh := ⟨.mtk 800000 Y14 162 true :: .dead :: .dead :: .clo 181 [] :: dz 4 (pI :: pI :: .dead :: .dead :: pI :: dz 47 []), []⟩
def jvj (N : Nat) (c : Z5) (d : Int) (b : Int) (a : Unit) : Option (Z6) := heapG (cmp454 N) N c d b a
 
theorem jwr (N : Nat) : mK 292 ⟨⟨[.mtk 800000 Y14 162 true, pI, pI, .clo 181 []], []⟩, ⟨[.tup [], .mtk 800000 Y14 162 true], []⟩, c4A (jvj N)⟩ :=
 mO (fC (jwd N) ja) Tryz.func292 rfl N (.seq .no (.seq .no (.seq .no (.seq (.seq .no (.block (.loop jwy .no))) (.seq .no (.block (.loop jwM .no))))))) _ (rs := [800000])
def jw2 : Sh := ⟨.mtk 800000 Y14 162 true :: pI :: dz 6 (pI :: .box 9 0 :: .pv (.int .u64) :: pI :: dz 55 []), [(9, false, [.pv (.int .u64)])]⟩
def jw5 : Sh := ⟨.mtk 800000 Y14 162 true :: pI :: dz 6 (pI :: .box 9 0 :: .pv (.int .u64) :: pI :: pI :: dz 54 []), [(9, false, [.pv (.int .u64)])]⟩
def jvw (N : Nat) (c : Z5) (d : Int) (b : Int) (a : Unit) : Option (Z6) := breakG N c d b a
 
theorem jwR (N : Nat) : mK 293 ⟨⟨[.mtk 800000 Y14 162 true, pI, pI, .clo 181 []], []⟩, ⟨[.tup [], .mtk 800000 Y14 162 true], []⟩, c4A (jvw N)⟩ :=
 mO (fC (jhv N) (fC (jet N) ja)) Tryz.func293 rfl N (.seq .no (.seq .no (.cond (.seq .no (.seq .no (.seq .no (.block (.loop jw2 (.seq .no (.seq (.block (.seq .no (.meet jw5 .no .no))) .no))))))) .no))) _ (rs := [800000])
def jvl (N : Nat) (d : Z5) (e : Int) (b : Int) (a : Unit) (c : Int) : Option (Int × Int × Z6 × Int) := order2G (cmp454 N) N d e b a c
 
theorem jwG (N : Nat) : mK 347 ⟨⟨[.mtk 800000 Y14 162 true, pI, pI, .box 900003 0, .clo 181 []], [(900003, false, [pI])]⟩, ⟨[.tup [pI, pI], .mtk 800000 Y14 162 true], [(900003, false, [pI])]⟩, c5A (jvl N)⟩ :=
 mO (fC (jvi N) ja) Tryz.func347 rfl N .no _ (rs := [900003, 800000])
def jvr (N : Nat) (e : Z5) (f : Int) (b : Int) (a : Int) (c : Unit) (d : Int) : Option (Int × Z6 × Int) := medianG (cmp454 N) N e f b a c d
 
theorem jvO (N : Nat) : mK 333 ⟨⟨[.mtk 800000 Y14 162 true, pI, pI, pI, .box 900004 0, .clo 181 []], [(900004, false, [pI])]⟩, ⟨[pI, .mtk 800000 Y14 162 true], [(900004, false, [pI])]⟩, c6A (jvr N)⟩ :=
 mO (fC (jwG N) ja) Tryz.func333 rfl N .no _ (rs := [900004, 800000])
def jvm (N : Nat) (c : Z5) (d : Int) (b : Unit) (a : Int) : Option (Int × Z6 × Int) := medianAdjacentG (cmp454 N) N c d b a
 
theorem jwj (N : Nat) : mK 332 ⟨⟨[.mtk 800000 Y14 162 true, pI, .box 900002 0, .clo 181 []], [(900002, false, [pI])]⟩, ⟨[pI, .mtk 800000 Y14 162 true], [(900002, false, [pI])]⟩, c4A (jvm N)⟩ :=
 mO (fC (jvO N) ja) Tryz.func332 rfl N .no _ (rs := [900002, 800000])
def jwt : Sh := ⟨.mtk 800000 Y14 162 true :: .dead :: .dead :: .clo 181 [] :: dz 7 (.box 11 0 :: pI :: pI :: pI :: dz 48 []), [(11, false, [pI])]⟩
def jwK : Sh := ⟨.mtk 800000 Y14 162 true :: dz 10 (.box 11 0 :: .dead :: pI :: dz 49 []), [(11, false, [pI])]⟩
def jvA (N : Nat) (c : Z5) (d : Int) (b : Int) (a : Unit) : Option (Int × Int × Z6) := choosePivotG (cmp454 N) N c d b a
 
theorem jwf (N : Nat) : mK 294 ⟨⟨[.mtk 800000 Y14 162 true, pI, pI, .clo 181 []], []⟩, ⟨[.tup [pI, pI], .mtk 800000 Y14 162 true], []⟩, c4A (jvA N)⟩ :=
 mO (fC (jwj N) (fC (jvO N) ja)) Tryz.func294 rfl N (.seq .no (.seq .no (.seq .no (.seq .no (.seq .no (.seq .no (.meet jwK (.seq .no (.cond (.meet jwt .no .no) .no)) .no))))))) _ (rs := [800000])
def jv2 : Sh := ⟨.mtk 800000 Y14 162 true :: dz 7 (pI :: pI :: dz 24 []), []⟩
def jvJ (N : Nat) (c : Z5) (d : Int) (b : Int) (a : Unit) : Option (Z6) := reverseRangeG N c d b a
 
theorem jwz (N : Nat) : mK 295 ⟨⟨[.mtk 800000 Y14 162 true, pI, pI, .clo 181 []], []⟩, ⟨[.tup [], .mtk 800000 Y14 162 true], []⟩, c4A (jvJ N)⟩ :=
 mO ja Tryz.func295 rfl N (.seq .no (.seq .no (.block (.loop jv2 .no)))) _ (rs := [800000])
def jw7 : Sh := ⟨.mtk 800000 Y14 162 true :: pI :: pI :: .clo 181 [] :: dz 5 (pI :: pI :: dz 130 []), []⟩
def jwp : Sh := ⟨.mtk 800000 Y14 162 true :: pI :: pI :: .clo 181 [] :: dz 5 (pI :: pI :: pI :: dz 129 []), []⟩
def jwY : Sh := ⟨.mtk 800000 Y14 162 true :: pI :: pI :: .clo 181 [] :: dz 5 (pI :: pI :: .dead :: pI :: dz 128 []), []⟩
def jvz (N : Nat) (c : Z5) (d : Int) (b : Int) (a : Unit) : Option (Bool × Z6) := pisG (cmp454 N) N c d b a
 
theorem jw4 (N : Nat) : mK 296 ⟨⟨[.mtk 800000 Y14 162 true, pI, pI, .clo 181 []], []⟩, ⟨[pB, .mtk 800000 Y14 162 true], []⟩, c4A (jvz N)⟩ :=
 mO (fC (jvi N) ja) Tryz.func296 rfl N (.seq .no (.seq .no (.seq (.seq .no (.block (.loop jw7 (.seq .no (.seq (.block (.seq (.block (.loop jw7 .no)) (.seq .no (.seq .no (.seq .no (.meet jw7 (.seq .no (.cond (.seq .no (.block (.loop jwp .no))) .no)) (.seq .no (.cond (.seq .no (.block (.loop jwY .no))) .no)))))))) .no))))) .no))) _ (rs := [800000])
def jws : Sh := ⟨.mtk 800000 Y14 162 true :: pI :: .dead :: .dead :: .clo 181 [] :: dz 6 (pI :: pI :: dz 77 []), []⟩
def jvo (N : Nat) (d : Z5) (e : Int) (b : Int) (a : Int) (c : Unit) : Option (Int × Z6) := peqG (cmp454 N) N d e b a c
 
theorem jwA (N : Nat) : mK 297 ⟨⟨[.mtk 800000 Y14 162 true, pI, pI, pI, .clo 181 []], []⟩, ⟨[pI, .mtk 800000 Y14 162 true], []⟩, c5A (jvo N)⟩ :=
 mO (fC (jvi N) ja) Tryz.func297 rfl N (.seq .no (.seq .no (.seq .no (.seq (.block (.loop jws (.block (.seq (.block (.loop jws .no)) (.seq (.block (.loop jws .no)) .no))))) .no)))) _ (rs := [800000])
def jwU : Sh := ⟨.mtk 800000 Y14 162 true :: pI :: .dead :: .dead :: .clo 181 [] :: dz 7 (pI :: pI :: dz 164 []), []⟩
def jvs (N : Nat) (d : Z5) (e : Int) (b : Int) (a : Int) (c : Unit) : Option (Int × Bool × Z6) := partG (cmp454 N) N d e b a c
 
theorem jv9 (N : Nat) : mK 298 ⟨⟨[.mtk 800000 Y14 162 true, pI, pI, pI, .clo 181 []], []⟩, ⟨[.tup [pI, pB], .mtk 800000 Y14 162 true], []⟩, c5A (jvs N)⟩ :=
 mO (fC (jvi N) ja) Tryz.func298 rfl N (.seq .no (.seq .no (.seq .no (.seq (.block (.loop jwU .no)) (.seq (.block (.loop jwU .no)) (.seq .no (.seq .no (.seq .no (.seq .no (.seq (.block (.loop jwU (.block (.seq (.block (.loop jwU .no)) (.seq (.block (.loop jwU .no)) .no))))) .no)))))))))) _ (rs := [800000])
def jwT : Sh := ⟨.mtk 800000 Y14 162 true :: pI :: pI :: pI :: .clo 181 [] :: dz 5 (pB :: pB :: dz 136 []), []⟩
def jwO : Sh := ⟨.mtk 800000 Y14 162 true :: pI :: pI :: pI :: .clo 181 [] :: dz 5 (pB :: pB :: pI :: pI :: dz 134 []), []⟩
def jwP : Sh := ⟨.mtk 800000 Y14 162 true :: pI :: pI :: pI :: .clo 181 [] :: dz 5 (pB :: pB :: pI :: pI :: pI :: dz 133 []), []⟩
def jwn : Sh := ⟨.mtk 800000 Y14 162 true :: pI :: pI :: pI :: .clo 181 [] :: dz 5 (pB :: pB :: pI :: dz 135 []), []⟩
def jvh (N D : Nat) (h : Z5) (b a limit : Int) (e : Unit) : Option (Z6) := pdqG (cmp454 N) (fun d b a c => heapG (cmp454 N) N d b a c) (fun d b a f c => peqG (cmp454 N) N d b a f c) N D h b a limit e
 
def jvn (N D : Nat) : Model := ⟨⟨[.mtk 800000 Y14 162 true, pI, pI, pI, .clo 181 []], []⟩, ⟨[.tup [], .mtk 800000 Y14 162 true], []⟩, c5A (jvh N D)⟩
theorem jwv (N D : Nat) (ih : mK 247 (jvn N D)) : mK 247 (jvn N (D + 1)) :=
 mO (fC ih (fC (jwF N) (fC (jwr N) (fC (jwR N) (fC (jwf N) (fC (jwz N) (fC (jw4 N) (fC (jvi N) (fC (jwA N) (fC (jv9 N) ja)))))))))) Tryz.func247 rfl N (.seq .no (.seq .no (.block (.loop jwT (.block (.seq .no (.seq .no (.seq .no (.meet jwn .no (.seq .no (.meet jwP .no (.meet jwO .no .no)))))))))))) (jvn N (D + 1)) (rs := [800000])
theorem jvI (N : Nat) : ∀ D, mK 247 (jvn N D)
 | 0 => modelOk_none ⟨_, Tryz.func247, by decide, by kernel_rfl⟩ _ (fun a => rfl)
 | D + 1 => jwv N D (jvI N D)
def k_slices_SortFunc_454_m (N : Nat) (a : Z5) (d : Unit) : Option (Z6) :=
 (oB (k_math_bits_Len_m N (IntKind.u64.wrap (a.length : Int))) fun b => oB (jvh N N a 0 (a.length : Int) b ()) fun c => some c)
theorem jwX (N : Nat) : mK 180 ⟨⟨[.mtk 800000 Y14 162 true, .clo 181 []], []⟩, ⟨[.tup [], .mtk 800000 Y14 162 true], []⟩, c2A (k_slices_SortFunc_454_m N)⟩ :=
 mO (fC (jda N) (fC (jvI N N) ja)) Tryz.func180 rfl N .no _ (rs := [800000])
def i_firstHits_m (N : Nat) (b : Z5) (d : Int) : Option (Z6) :=
 (if room ([] : Z5).length b.length 16 then oB (k_slices_SortFunc_454_m N (([] : Z5) ++ b) ()) fun a => (oB (cut a 0 (if d < (a.length : Int) then d else (a.length : Int))) fun c => if room ([] : Z5).length c.length 16 then some (([] : Z5) ++ c) else none) else none)
theorem jv7 (N : Nat) : mK 109 ⟨⟨[.pv Y13, pI], []⟩, ⟨[.own 1 Y14 162 true], []⟩, c2A (i_firstHits_m N)⟩ :=
 mO (fC (jwX N) ja) Tryz.func109 rfl N .no _ (wr := [6, 8, 11, 17, 18])
def jEK : Sh := ⟨dz 3 (pI :: pI :: pI :: dz 7 (.own 600013 Y14 162 true :: dz 16 (.own 600030 Y14 162 true :: pI :: pI :: dz 17 []))), []⟩
def i_ShardTop_m (N : Nat) (o : List Z0) (z : List Z4) (q : List Z2) (p : List Z1) (u : Int) (r : List UInt8) (w : List Z0) (x : Int) (y : Int) (v : List DQ) (l : Int) (m : Int) (n : Int) : Option (Z6) :=
 (oB (i_shardOk_m N l m) fun B => bif !B then some ([] : Z5) else oB (jm N n 1 16) fun C => bif !C then some ([] : Z5) else oB (i_scores_m N o z q p u r w x y v) fun j => iter (fun k (c, d, h, b, i, f, a) => bif decide (a < f) then oB (idx i a) fun e => (if c ≠ 0 then bif decide ((e.1.tmod c) = d) then if room b.length ([e] : Z5).length 16 then if fits (a + 1) then k (c, d, h, (b ++ ([e] : Z5)), i, f, (a + 1)) else none else none else (if fits (a + 1) then k (c, d, h, b, i, f, (a + 1)) else none) else none) else oB (i_firstHits_m N b h) fun A => some A) N (l, m, n, ([] : Z5), j, (j.length : Int), (0 : Int)))
theorem jEM (N : Nat) : mK 34 ⟨⟨[.agg [.pv (.sl .str), .pv Y16], .agg [.pv Y2, .pv Y4], .agg [pI, pS, .pv (.sl .str), pI, pI, .pv (.sl .q)], pI, pI, pI], []⟩, ⟨[.own 1 Y14 162 true], []⟩, c13A (i_ShardTop_m N)⟩ :=
 mO (fC (jEG N) (fC (jY N) (fC (jBc N) (fC (jv7 N) ja)))) Tryz.func34 rfl N (.seq .no (.seq .no (.seq .no (.seq (.seq .no (.block (.loop jEK .no))) .no)))) _
def jkS : Sh := ⟨.pv Y2 :: .dead :: .dead :: pI :: dz 33 [], []⟩
def jbU (N : Nat) (e : List Z2) : Z8 :=
 (iter (fun d (b, a) => bif decide (a < (b.length : Int)) then oB (idx b a) fun c => (oB (jcb N c.1 c.2.1 c.2.2) fun i => bif !i then some false else bif decide ((0 : Int) < a) then oB (idx b a) fun h => (if fits (a - 1) then oB (idx b (a - 1)) fun j => (bif decide (h.1 ≤ j.1) then some false else if fits (a + 1) then d (b, (a + 1)) else none) else none) else if fits (a + 1) then d (b, (a + 1)) else none) else some (decide ((b.length : Int) ≤ 16))) N (e, (0 : Int)))
theorem jpx (N : Nat) : mK 182 ⟨⟨[.pv Y2], []⟩, ⟨[pB], []⟩, c1A (jbU N)⟩ :=
 mO (fC (jpD N) ja) Tryz.func182 rfl N (.seq .no (.seq (.seq .no (.block (.loop jkS .no))) .no)) _
def jnI : Sh := ⟨.pv Y21 :: .pv Y21 :: dz 3 (pI :: dz 20 []), []⟩
def jb1 (N : Nat) (e : List Int) (c : List Int) : Z8 :=
 (bif !decide ((e.length : Int) = (c.length : Int)) then some false else iter (fun i (b, d, a) => bif decide (a < (b.length : Int)) then oB (idx b a) fun j => (oB (idx d a) fun h => bif !decide (j = h) then some false else if fits (a + 1) then i (b, d, (a + 1)) else none) else some true) N (e, c, (0 : Int)))
theorem jlH (N : Nat) : mK 248 ⟨⟨[.pv Y21, .pv Y21], []⟩, ⟨[pB], []⟩, c2A (jb1 N)⟩ :=
 mO ja Tryz.func248 rfl N (.seq .no (.seq .no (.seq (.seq .no (.block (.loop jnI .no))) .no))) _
def jnx : Sh := ⟨.dead :: .dead :: .box 2 0 :: .box 3 0 :: .dead :: pI :: dz 57 [], [(2, false, [pS, pS, .pv Y11]), (3, false, [pS, pS, .pv Y11])]⟩
def jbQ (N : Nat) (f : List UInt8) (j : List UInt8) (d : Z3) (h : List UInt8) (i : List UInt8) (e : Z3) : Z8 :=
 (bif !decide (f = h) then some false else bif !decide (j = i) then some false else bif !decide ((d.length : Int) = (e.length : Int)) then some false else iter (fun n (a, v, u, b, o, m, c) => bif decide (a < (b.length : Int)) then oB (idx b a) fun p => (oB (idx c a) fun l => bif !decide (p.1 = l.1) then some false else oB (idx b a) fun q => oB (idx c a) fun r => oB (jb1 N q.2 r.2) fun t => bif !t then some false else if fits (a + 1) then n ((a + 1), v, u, b, o, m, c) else none) else some true) N ((0 : Int), f, j, d, h, i, e))
theorem jtG (N : Nat) : mK 183 ⟨⟨[.agg [pS, pS, .pv Y11], .agg [pS, pS, .pv Y11]], []⟩, ⟨[pB], []⟩, c6A (jbQ N)⟩ :=
 mO (fC (jlH N) ja) Tryz.func183 rfl N (.seq .no (.seq .no (.seq (.seq .no (.block (.loop jnx .no))) .no))) _
def jrW : Sh := ⟨dz 3 (.box 3 0 :: .dead :: .box 5 0 :: pI :: dz 39 []), [(3, false, [.pv Y2, .pv Y4]), (5, false, [.own 700500 Y3 44 true, .own 700501 Y5 156 true])]⟩
def s_l7Ok_m (N : Nat) (h : List Z0) (k : List Z4) (b : List Z2) (i : List Z1) : Z8 :=
 (oB (jcw N h k) fun q => bif !q then some false else oB (jbU N b) fun r => bif !r then some false else oB (s_l7Of_m N h k b) fun c => bif !decide ((c.2.length : Int) = (i.length : Int)) then some false else iter (fun n (a, l, j, o, e) => bif decide (a < (e.length : Int)) then oB (idx e a) fun f => (oB (idx j a) fun d => oB (jbQ N f.1 f.2.1 f.2.2 d.1 d.2.1 d.2.2) fun p => bif !p then some false else if fits (a + 1) then n ((a + 1), l, j, o, e) else none) else some true) N ((0 : Int), b, i, c.1, c.2))
theorem jpm (N : Nat) : mK 110 ⟨⟨[.agg [.pv (.sl .str), .pv Y16], .agg [.pv Y2, .pv Y4]], []⟩, ⟨[pB], []⟩, c4A (s_l7Ok_m N)⟩ :=
 mO (fC (jtf N) (fC (jpx N) (fC (jmU N) (fC (jtG N) ja)))) Tryz.func110 rfl N (.seq .no (.seq .no (.seq .no (.seq .no (.seq (.seq .no (.block (.loop jrW .no))) .no))))) _
def jx8 (N : Nat) (d : Int) (b : Int) (c : Int) (a : Int) : Z8 :=
 (bif decide (a < b) then some true else bif decide (b = a) then some (decide (d < c)) else some false)
theorem jw8 (N : Nat) : mK 185 ⟨⟨[.agg [pI, pI], .agg [pI, pI]], []⟩, ⟨[pB], []⟩, c4A (jx8 N)⟩ :=
 mO ja Tryz.func185 rfl N .no _
def jwc : Sh := ⟨.pv Y13 :: .dead :: pI :: .dead :: .box 4 0 :: .dead :: .dead :: pI :: dz 37 [], [(4, false, [pI, pI])]⟩
def s_l13Push_m (N : Nat) (p : Z5) (q : Int) (r : Int) (u : Int) : Option (Z6) :=
 (iter (fun n (c, h, d, b, a) => bif decide (d < (c.length : Int)) then oB (idx c d) fun k => (oB (jx8 N k.1 k.2 b a) fun t => bif t then if fits (d + 1) then n (c, h, (d + 1), b, a) else none else oB (cut c 0 d) fun e => if room ([] : Z5).length e.length 16 then if room (([] : Z5) ++ e).length ([(b, a)] : Z5).length 16 then oB (cut c d (c.length : Int)) fun j => (if room ((([] : Z5) ++ e) ++ ([(b, a)] : Z5)).length j.length 16 then bif decide (h < ((((([] : Z5) ++ e) ++ ([(b, a)] : Z5)) ++ j).length : Int)) then oB (cut (((([] : Z5) ++ e) ++ ([(b, a)] : Z5)) ++ j) 0 h) fun o => (some o) else (some (((([] : Z5) ++ e) ++ ([(b, a)] : Z5)) ++ j)) else none) else none else none) else oB (cut c 0 d) fun f => if room ([] : Z5).length f.length 16 then if room (([] : Z5) ++ f).length ([(b, a)] : Z5).length 16 then oB (cut c d (c.length : Int)) fun i => (if room ((([] : Z5) ++ f) ++ ([(b, a)] : Z5)).length i.length 16 then bif decide (h < ((((([] : Z5) ++ f) ++ ([(b, a)] : Z5)) ++ i).length : Int)) then oB (cut (((([] : Z5) ++ f) ++ ([(b, a)] : Z5)) ++ i) 0 h) fun l => (some l) else (some (((([] : Z5) ++ f) ++ ([(b, a)] : Z5)) ++ i)) else none) else none else none) N (p, u, (0 : Int), q, r))
theorem jwx (N : Nat) : mK 113 ⟨⟨[.pv Y13, .agg [pI, pI], pI], []⟩, ⟨[.own 1 Y14 162 true], []⟩, c4A (s_l13Push_m N)⟩ :=
 mO (fC (jw8 N) ja) Tryz.func113 rfl N (.seq .no (.seq .no (.seq (.block (.loop jwc .no)) .no))) _ (wr := [23, 26, 27, 30, 31, 35, 36, 43])
def jEN : Sh := ⟨dz 3 (pI :: pI :: pI :: .box 6 0 :: .box 7 0 :: .box 8 0 :: dz 4 (.own 600013 Y14 162 true :: pI :: dz 71 [])), [(6, false, [.pv (.sl .str), .pv Y16]), (7, false, [.pv Y2, .pv Y4]), (8, false, [pI, pS, .pv (.sl .str), pI, pI, .pv (.sl .q)])]⟩
def s_ShardTop_m (N : Nat) (t : List Z0) (D : List Z4) (u : List Z2) (A : List Z1) (v : Int) (B : List UInt8) (C : List Z0) (y : Int) (z : Int) (w : List DQ) (m : Int) (E : Int) (G : Int) : Option (Z6) :=
 (oB (s_l7Ok_m N t D u A) fun O => bif !O then some ([] : Z5) else oB (s_l11Ok_m N v B C y z w) fun P => bif !P then some ([] : Z5) else oB (jJ N G 1 16) fun R => bif !R then some ([] : Z5) else oB (jJ N m 1 4) fun T => bif !T then some ([] : Z5) else if fits (m - 1) then oB (jJ N E 0 (m - 1)) fun H => (bif !H then some ([] : Z5) else iter (fun r (c, j, p, n, a, o, e, b, d, i, q, h, f, k, l) => bif decide (a < (b.length : Int)) then oB (idx b a) fun L => (oB (s_l12Score_m N N o e b d i q h f k l L.1) fun x => bif decide ((0 : Int) < x) then oB (idx b a) fun S => (if c ≠ 0 then bif decide ((S.1.tmod c) = j) then oB (idx b a) fun Q => (oB (s_l13Push_m N n Q.1 x p) fun K => if fits (a + 1) then r (c, j, p, K, (a + 1), o, e, b, d, i, q, h, f, k, l) else none) else (if fits (a + 1) then r (c, j, p, n, (a + 1), o, e, b, d, i, q, h, f, k, l) else none) else none) else if fits (a + 1) then r (c, j, p, n, (a + 1), o, e, b, d, i, q, h, f, k, l) else none) else some n) N (m, E, G, ([] : Z5), (0 : Int), t, D, u, A, v, B, C, y, z, w)) else none)
theorem jEJ (N : Nat) : mK 36 ⟨⟨[.agg [.pv (.sl .str), .pv Y16], .agg [.pv Y2, .pv Y4], .agg [pI, pS, .pv (.sl .str), pI, pI, .pv (.sl .q)], pI, pI, pI], []⟩, ⟨[.own 1 Y14 162 true], []⟩, c13A (s_ShardTop_m N)⟩ :=
 mO (fC (jpm N) (fC (jBX N) (fC (jcL N) (fC (jz7 N N) (fC (jwx N) ja))))) Tryz.func36 rfl N (.seq .no (.seq .no (.seq .no (.seq (.seq .no (.block (.loop jEN .no))) .no)))) _
def jxa : Sh := ⟨.pv Y13 :: .pv Y13 :: dz 3 (pI :: dz 20 []), []⟩
def l_foHits_m (N : Nat) (h : Z5) (c : Z5) : Z8 :=
 (bif !decide ((h.length : Int) = (c.length : Int)) then some false else iter (fun j (b, d, a) => bif decide (a < (b.length : Int)) then oB (idx b a) fun f => (oB (idx d a) fun e => bif !((decide (f.1 = e.1)) && (decide (f.2 = e.2))) then some false else if fits (a + 1) then j (b, d, (a + 1)) else none) else some true) N (h, c, (0 : Int)))
theorem jwb (N : Nat) : mK 35 ⟨⟨[.pv Y13, .pv Y13], []⟩, ⟨[pB], []⟩, c2A (l_foHits_m N)⟩ :=
 mO ja Tryz.func35 rfl N (.seq .no (.seq .no (.seq (.seq .no (.block (.loop jxa .no))) .no))) _
def i_TopOf_m (N : Nat) (b : List Z0) (o : List Z4) (d : List Z2) (c : List Z1) (h : Int) (e : List UInt8) (k : List Z0) (m : Int) (n : Int) (i : List DQ) (a : Int) : Option (Z6) :=
 (oB (jm N a 1 16) fun j => bif !j then some ([] : Z5) else oB (i_scores_m N b o d c h e k m n i) fun l => oB (i_firstHits_m N l a) fun f => some f)
theorem jCZ (N : Nat) : mK 38 ⟨⟨[.agg [.pv (.sl .str), .pv Y16], .agg [.pv Y2, .pv Y4], .agg [pI, pS, .pv (.sl .str), pI, pI, .pv (.sl .q)], pI], []⟩, ⟨[.own 1 Y14 162 true], []⟩, c11A (i_TopOf_m N)⟩ :=
 mO (fC (jY N) (fC (jBc N) (fC (jv7 N) ja))) Tryz.func38 rfl N .no _
def i_hasDoc_1_m (N : Nat) (b : Int) (c : Int) (a : Int) : Z8 :=
 (some (decide (b = a)))
theorem jwE (N : Nat) : mK 189 ⟨⟨[.agg [pI, pI], .ptr tI], []⟩, ⟨[pB], []⟩, c3A (i_hasDoc_1_m N)⟩ :=
 mO ja Tryz.func189 rfl N .no _
def jwa : Sh := ⟨.pv Y13 :: .clo 189 [.ptr tI] :: dz 5 (pI :: pI :: dz 10 []), []⟩
def k_slices_IndexFunc_200_m (N : Nat) (c : Z5) (h : Int) : Z13 :=
 (iter (fun j (b, e, d, a) => bif decide (a < d) then oB (idx b a) fun f => (oB (i_hasDoc_1_m N f.1 f.2 e) fun k => bif k then some a else if fits (a + 1) then j (b, e, d, (a + 1)) else none) else some (-1)) N (c, h, (c.length : Int), (0 : Int)))
theorem jwl (N : Nat) : mK 251 ⟨⟨[.pv Y13, .clo 189 [.ptr tI]], []⟩, ⟨[pI], []⟩, c2A (k_slices_IndexFunc_200_m N)⟩ :=
 mO (fC (jwE N) ja) Tryz.func251 rfl N (.seq .no (.seq (.seq .no (.block (.loop jwa .no))) .no)) _
def k_slices_ContainsFunc_50_m (N : Nat) (c : Z5) (b : Int) : Z8 :=
 (oB (k_slices_IndexFunc_200_m N c b) fun a => some (decide ((0 : Int) ≤ a)))
theorem jwg (N : Nat) : mK 188 ⟨⟨[.pv Y13, .clo 189 [.ptr tI]], []⟩, ⟨[pB], []⟩, c2A (k_slices_ContainsFunc_50_m N)⟩ :=
 mO (fC (jwl N) ja) Tryz.func188 rfl N .no _
def i_hasDoc_m (N : Nat) (a : Z5) (c : Int) : Z8 :=
 (oB (k_slices_ContainsFunc_50_m N a c) fun b => some b)
theorem jwB (N : Nat) : mK 117 ⟨⟨[.pv Y13, pI], []⟩, ⟨[pB], []⟩, c2A (i_hasDoc_m N)⟩ :=
 mO (fC (jwg N) ja) Tryz.func117 rfl N .no _
def jw3 : Sh := ⟨.pv Y13 :: dz 4 (.pv Y13 :: pI :: pI :: dz 39 []), []⟩
def i_HitsOk_m (N : Nat) (d : Z5) : Z8 :=
 (iter (fun i (b, f, e, a) => bif decide (a < e) then oB (idx f a) fun c => (oB (jm N c.1 1 9999) fun m => bif !m then some false else bif decide (c.2 < 1) then some false else oB (cut b 0 a) fun j => oB (i_hasDoc_m N j c.1) fun n => bif n then some false else bif decide ((0 : Int) < a) then if fits (a - 1) then oB (idx b (a - 1)) fun h => (oB (jx4 N h.1 h.2 c.1 c.2) fun k => bif decide ((0 : Int) ≤ k) then some false else if fits (a + 1) then i (b, f, e, (a + 1)) else none) else none else if fits (a + 1) then i (b, f, e, (a + 1)) else none) else some (decide ((b.length : Int) ≤ 16))) N (d, d, (d.length : Int), (0 : Int)))
theorem jwk (N : Nat) : mK 116 ⟨⟨[.pv Y13], []⟩, ⟨[pB], []⟩, c1A (i_HitsOk_m N)⟩ :=
 mO (fC (jY N) (fC (jwB N) (fC (jvi N) ja))) Tryz.func116 rfl N (.seq .no (.seq (.seq .no (.block (.loop jw3 .no))) .no)) _
def jHy : Sh := ⟨.dead :: pI :: dz 3 (.own 600005 Y14 162 true :: dz 14 (.pv (.sl Y13) :: pI :: pI :: dz 26 [])), []⟩
def jHz : Sh := ⟨.dead :: pI :: dz 3 (.own 600005 Y14 162 true :: .dead :: .pv Y13 :: dz 12 (.pv (.sl Y13) :: pI :: pI :: dz 7 (.pv Y13 :: pI :: pI :: dz 16 []))), []⟩
def i_TopMerge_m (N : Nat) (f : List Z6) (t : Int) : Option (Z6) :=
 (bif decide ((4 : Int) < (f.length : Int)) then some ([] : Z5) else oB (jm N t 1 16) fun z => bif !z then some ([] : Z5) else iter (fun w (l, p, o, n, e) => bif decide (e < n) then oB (idx o e) fun b => (oB (i_HitsOk_m N b) fun A => bif !A then some ([] : Z5) else iter (fun y (j, a, h, k, q, i, r, m, c) => bif decide (c < m) then oB (idx r c) fun v => (oB (i_hasDoc_m N a v.1) fun u => bif u then some ([] : Z5) else if fits (c + 1) then y (j, a, h, k, q, i, r, m, (c + 1)) else none) else if room a.length h.length 16 then if fits (i + 1) then w (j, (a ++ h), k, q, (i + 1)) else none else none) N (l, p, b, o, n, e, b, (b.length : Int), (0 : Int))) else oB (i_firstHits_m N p l) fun x => some x) N (t, ([] : Z5), f, (f.length : Int), (0 : Int)))
theorem jHt (N : Nat) : mK 39 ⟨⟨[.pv (.sl Y13), pI], []⟩, ⟨[.own 1 Y14 162 true], []⟩, c2A (i_TopMerge_m N)⟩ :=
 mO (fC (jY N) (fC (jwk N) (fC (jwB N) (fC (jv7 N) ja)))) Tryz.func39 rfl N (.seq .no (.seq .no (.seq .no (.seq (.seq .no (.block (.loop jHy (.seq .no (.seq .no (.seq (.block (.seq .no (.seq .no (.seq (.seq .no (.block (.loop jHz .no))) .no)))) .no)))))) .no)))) _
def jHu : Sh := ⟨dz 3 (.box 3 0 :: .box 4 0 :: .box 5 0 :: pI :: .dead :: pI :: .dead :: .own 600010 Y13 76 true :: .own 600011 Y13 76 true :: pI :: dz 100 []), [(3, false, [.own 700300 .str 9 true, .own 700301 Y18 138 true]), (4, false, [.pv Y2, .own 700401 Y5 156 false]), (5, false, [pI, pS, .own 700502 .str 9 true, pI, pI, .own 700505 .q 70 true])]⟩
def l_FnShards_m (N : Nat) (w : List Int) : Z8 :=
 (bif decide ((1048576 : Int) < (w.length : Int)) then some true else oB (s_DrawShardTop_m N w) fun a => oB (i_ShardTop_m N a.1 a.2.1 a.2.2.1 a.2.2.2.1 a.2.2.2.2.1 a.2.2.2.2.2.1 a.2.2.2.2.2.2.1 a.2.2.2.2.2.2.2.1 a.2.2.2.2.2.2.2.2.1 a.2.2.2.2.2.2.2.2.2.1 a.2.2.2.2.2.2.2.2.2.2.1 a.2.2.2.2.2.2.2.2.2.2.2.1 a.2.2.2.2.2.2.2.2.2.2.2.2) fun e => oB (s_ShardTop_m N a.1 a.2.1 a.2.2.1 a.2.2.2.1 a.2.2.2.2.1 a.2.2.2.2.2.1 a.2.2.2.2.2.2.1 a.2.2.2.2.2.2.2.1 a.2.2.2.2.2.2.2.2.1 a.2.2.2.2.2.2.2.2.2.1 a.2.2.2.2.2.2.2.2.2.2.1 a.2.2.2.2.2.2.2.2.2.2.2.1 a.2.2.2.2.2.2.2.2.2.2.2.2) fun I => oB (l_foHits_m N e I) fun P => bif !P then oB (s_ShardTop_m N a.1 a.2.1 a.2.2.1 a.2.2.2.1 a.2.2.2.2.1 a.2.2.2.2.2.1 a.2.2.2.2.2.2.1 a.2.2.2.2.2.2.2.1 a.2.2.2.2.2.2.2.2.1 a.2.2.2.2.2.2.2.2.2.1 a.2.2.2.2.2.2.2.2.2.2.1 a.2.2.2.2.2.2.2.2.2.2.2.1 a.2.2.2.2.2.2.2.2.2.2.2.2) fun x => (oB (l_foHits_m N e x) fun B => some B) else oB (i_SegOk_m N a.1 a.2.1 a.2.2.1 a.2.2.2.1) fun A => bif !A then oB (s_ShardTop_m N a.1 a.2.1 a.2.2.1 a.2.2.2.1 a.2.2.2.2.1 a.2.2.2.2.2.1 a.2.2.2.2.2.2.1 a.2.2.2.2.2.2.2.1 a.2.2.2.2.2.2.2.2.1 a.2.2.2.2.2.2.2.2.2.1 a.2.2.2.2.2.2.2.2.2.2.1 a.2.2.2.2.2.2.2.2.2.2.2.1 a.2.2.2.2.2.2.2.2.2.2.2.2) fun L => (oB (l_foHits_m N e L) fun O => some O) else bif decide (a.2.2.2.2.2.2.2.2.2.2.2.2 < 1) then oB (s_ShardTop_m N a.1 a.2.1 a.2.2.1 a.2.2.2.1 a.2.2.2.2.1 a.2.2.2.2.2.1 a.2.2.2.2.2.2.1 a.2.2.2.2.2.2.2.1 a.2.2.2.2.2.2.2.2.1 a.2.2.2.2.2.2.2.2.2.1 a.2.2.2.2.2.2.2.2.2.2.1 a.2.2.2.2.2.2.2.2.2.2.2.1 a.2.2.2.2.2.2.2.2.2.2.2.2) fun R => (oB (l_foHits_m N e R) fun H => some H) else bif decide ((16 : Int) < a.2.2.2.2.2.2.2.2.2.2.2.2) then oB (s_ShardTop_m N a.1 a.2.1 a.2.2.1 a.2.2.2.1 a.2.2.2.2.1 a.2.2.2.2.2.1 a.2.2.2.2.2.2.1 a.2.2.2.2.2.2.2.1 a.2.2.2.2.2.2.2.2.1 a.2.2.2.2.2.2.2.2.2.1 a.2.2.2.2.2.2.2.2.2.2.1 a.2.2.2.2.2.2.2.2.2.2.2.1 a.2.2.2.2.2.2.2.2.2.2.2.2) fun C => (oB (l_foHits_m N e C) fun G => some G) else iter (fun K (b, d, q, r, c, f, p, h, m, i, n, o, k, l, j) => bif decide (c < b) then oB (i_ShardTop_m N f p h m i n o k l j b c d) fun t => (if room q.length ([t] : List Z6).length 24 then if fits (b - 1) then if fits ((b - 1) - c) then oB (i_ShardTop_m N f p h m i n o k l j b ((b - 1) - c) d) fun v => (if room r.length ([v] : List Z6).length 24 then if fits (c + 1) then K (b, d, (q ++ ([t] : List Z6)), (r ++ ([v] : List Z6)), (c + 1), f, p, h, m, i, n, o, k, l, j) else none else none) else none else none else none) else oB (i_TopOf_m N f p h m i n o k l j d) fun u => oB (i_TopMerge_m N q d) fun z => oB (l_foHits_m N z u) fun D => bif D then oB (i_TopMerge_m N r d) fun E => (oB (l_foHits_m N E u) fun Q => some Q) else some false) N (a.2.2.2.2.2.2.2.2.2.2.1, a.2.2.2.2.2.2.2.2.2.2.2.2, ([] : List Z6), ([] : List Z6), (0 : Int), a.1, a.2.1, a.2.2.1, a.2.2.2.1, a.2.2.2.2.1, a.2.2.2.2.2.1, a.2.2.2.2.2.2.1, a.2.2.2.2.2.2.2.1, a.2.2.2.2.2.2.2.2.1, a.2.2.2.2.2.2.2.2.2.1))
def jHr (N : Nat) : Model := ⟨⟨[.pv (.sl (.int .u8))], []⟩, ⟨[pB], []⟩, c1A (l_FnShards_m N)⟩
theorem jHx (N : Nat) : mK 5 (jHr N) :=
 mO (fC (jHA N) (fC (jEM N) (fC (jEJ N) (fC (jwb N) (fC (joa N) (fC (jCZ N) (fC (jHt N) ja))))))) Tryz.func5 rfl N (.seq .no (.seq .no (.seq .no (.seq .no (.seq .no (.seq .no (.seq .no (.seq (.seq .no (.block (.loop jHu .no))) .no)))))))) (jHr N)
end Go.Proofs.YtfgcmhhacfkhcaaGreatDoor
